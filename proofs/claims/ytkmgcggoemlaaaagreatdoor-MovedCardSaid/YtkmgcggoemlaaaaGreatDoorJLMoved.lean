/-
  The law Moved of package firmwarelaw returns true for every input: an image of pieces of the old one, in any order, with bytes between, has a short patch.
  No condition: any old image, any pieces, any bytes.
-/
import Derived.Test.YtkmgcggoemlaaaaGreatDoorJ20
import Derived.Test.YtkmgcggoemlaaaaGreatDoorJ25
import Derived.Deep.Slices
import Derived.Test.YtkmgcggoemlaaaaGreatDoorCards
import Derived.Test.YtkmgcggoemlaaaaGreatDoorTie

section
/- The model: no piece of the old image that begins what is to come is longer than what 'longest' tells; an image of pieces of the old one has a short patch. No condition. -/
set_option linter.unusedVariables false
namespace Go.Fwm

/-! ### the places can be sorted -/
open Classical in
noncomputable def leS (s : Nat → Nat) (n p q : Nat) : Bool := decide (¬ ltK s n q p)
theorem srt_exists (s : Nat → Nat) (n : Nat) : ∃ ps, Srt s n n ps := by
  have ht : ∀ a b c, leS s n a b = true → leS s n b c = true → leS s n a c = true := fun a b c h1 h2 => by
    simp only [leS, decide_eq_true_eq] at h1 h2 ⊢
    exact ltK.ntrans h2 h1
  have hl : ∀ a b, (leS s n a b || leS s n b a) = true := fun a b => by
    simp only [leS, Bool.or_eq_true, decide_eq_true_eq]
    rcases tri s n a b with h | h | h
    · exact .inl h.asymm
    · exact .inl h.symm.not_lt
    · exact .inr h.asymm
  obtain ⟨l, hL⟩ : ∃ l, l = (List.range n).mergeSort (leS s n) := ⟨_, rfl⟩
  have hp : l.Pairwise (fun a b => leS s n a b = true) := by rw [hL]; exact List.pairwise_mergeSort ht hl _
  have hm : l.Perm (List.range n) := by rw [hL]; exact List.mergeSort_perm _ _
  have hn : l.length = n := by rw [hm.length_eq, List.length_range]
  have hd : l.Nodup := hm.nodup_iff.2 List.nodup_range
  refine ⟨fun i => l.getD i 0, fun i hi => ?_, fun p hp' => ?_, fun i j hi hj e => ?_, fun i j hij hj => ?_⟩
  · have : l.getD i 0 ∈ l := by rw [List.getD_eq_getElem?_getD, List.getElem?_eq_getElem (by omega)]; exact List.getElem_mem _
    exact List.mem_range.1 (hm.mem_iff.1 this)
  · obtain ⟨i, hi, e⟩ := List.mem_iff_getElem.1 (hm.mem_iff.2 (List.mem_range.2 hp'))
    exact ⟨i, by omega, by show l.getD i 0 = p; rw [List.getD_eq_getElem?_getD, List.getElem?_eq_getElem hi]; exact e⟩
  · simp only [List.getD_eq_getElem?_getD, List.getElem?_eq_getElem (show i < l.length by omega), List.getElem?_eq_getElem (show j < l.length by omega), Option.getD_some] at e
    exact (List.getElem_inj hd).1 e
  · have h := List.pairwise_iff_getElem.1 hp i j (by omega) (by omega) hij
    simp only [List.getD_eq_getElem?_getD, List.getElem?_eq_getElem (show i < l.length by omega), List.getElem?_eq_getElem (show j < l.length by omega), Option.getD_some]
    simpa [leS] using h
theorem saOf_ok (old : List UInt8) : Srt (sy old) old.length old.length (saOf old) := by
  obtain ⟨ps, h⟩ := srt_exists (sy old) old.length
  exact (saOf_srt h (Nat.le_refl _)).1

/-! ### the longest is the longest -/
theorem count_down : ∀ (n : Nat) (P : Nat → Bool), (∀ i j, i < j → j < n → P j = true → P i = true) → ∀ i, i < n → (P i = true ↔ i < (List.range n).countP P) := by
  intro n P h
  have key : ∀ m, m ≤ n → (∀ i, i < m → (P i = true ↔ i < (List.range m).countP P)) ∧ (List.range m).countP P ≤ m := by
    intro m
    induction m with
    | zero => intro _; exact ⟨fun i hi => by omega, by simp⟩
    | succ m ih =>
      intro hm
      obtain ⟨h1, h2⟩ := ih (by omega)
      have e : (List.range (m + 1)).countP P = (List.range m).countP P + if P m = true then 1 else 0 := by
        rw [List.range_succ, List.countP_append]; simp [List.countP_cons]
      rw [e]
      by_cases hP : P m = true
      · rw [if_pos hP]
        have hall : (List.range m).countP P = m := by
          rcases Nat.eq_zero_or_pos m with z | z
          · subst z; simp
          · have := (h1 (m - 1) (by omega)).1 (h _ _ (by omega) (by omega) hP); omega
        refine ⟨fun i hi => ?_, by omega⟩
        rw [hall]
        refine ⟨fun _ => hi, fun _ => ?_⟩
        rcases Nat.lt_or_eq_of_le (Nat.lt_succ_iff.1 hi) with x | x
        · exact h i m x (by omega) hP
        · rw [x]; exact hP
      · rw [if_neg hP]
        refine ⟨fun i hi => ?_, by omega⟩
        rcases Nat.lt_or_eq_of_le (Nat.lt_succ_iff.1 hi) with x | x
        · rw [Nat.add_zero]; exact h1 i x
        · subst x; exact ⟨fun y => absurd y hP, fun y => by omega⟩
  exact (key n (Nat.le_refl _)).1
/-- So many symbols are the same. -/
theorem lcp_sy (a : List UInt8) : ∀ b i, i < lcp a b → sy a i = sy b i := by
  intro b i hi
  have h1 := lcp_le_l a b
  have h2 := lcp_le_r a b
  rw [sy_in (by omega), sy_in (by omega), lcp_ne a b i hi (by omega) (by omega)]
theorem lcp_ge (a b : List UInt8) : ∀ k, k ≤ a.length → k ≤ b.length → (∀ i, i < k → sy a i = sy b i) → k ≤ lcp a b := by
  intro k
  induction k with
  | zero => intros; exact Nat.zero_le _
  | succ k ih =>
    intro h1 h2 h
    have := ih (by omega) (by omega) fun i hi => h i (by omega)
    have e := h k (by omega)
    rw [sy_in (by omega), sy_in (by omega)] at e
    exact lcp_step a b k this (by omega) (by omega) (UInt8.toNat_inj.1 (by omega))
theorem sy_pos_lt {l : List UInt8} {i : Nat} (h : 0 < sy l i) : i < l.length := by
  apply Classical.byContradiction; intro x; rw [sy_out (by omega)] at h; omega
/-- Of three, in order, the one in the middle has at least as much of the last as the first one. -/
theorem lcp_mid {f g : Nat → Nat} {old b : List UInt8} {p q : Nat} (hk : ltS (sy (old.drop p)) (sy (old.drop q))) (hq : ltS (sy (old.drop q)) (sy b)) : lcp (old.drop p) b ≤ lcp (old.drop q) b := by
  obtain ⟨k, hK⟩ : ∃ k, k = lcp (old.drop p) b := ⟨_, rfl⟩
  have hb := lcp_le_r (old.drop p) b
  have hag : ∀ i, i < k → sy (old.drop q) i = sy b i := by
    intro i
    induction i using Nat.strongRecOn with
    | _ i ih =>
      intro hi
      have e1 := lcp_sy (old.drop p) b i (by omega)
      obtain ⟨j1, a1, a2⟩ := hk
      obtain ⟨j2, b1, b2⟩ := hq
      rcases Nat.lt_trichotomy j1 i with x | x | x
      · have := ih j1 x (by omega)
        have := lcp_sy (old.drop p) b j1 (by omega)
        omega
      · subst x
        rcases Nat.lt_trichotomy j2 j1 with y | y | y
        · have := ih j2 y (by omega); omega
        · subst y; omega
        · have := b1 j1 y; omega
      · rcases Nat.lt_trichotomy j2 i with y | y | y
        · have := ih j2 y (by omega); omega
        · subst y; have := a1 j2 x; omega
        · exact b1 i y
  rw [← hK]
  have hlb : k ≤ b.length := by omega
  refine lcp_ge _ _ k ?_ hlb hag
  rcases Nat.eq_zero_or_pos k with z | z
  · omega
  · have h1 := hag (k - 1) (by omega)
    have h2 : 0 < sy b (k - 1) := sy_pos (by omega)
    have := sy_pos_lt (l := old.drop q) (i := k - 1) (by omega)
    omega
theorem lcp_mid2 {old b : List UInt8} {p q : Nat} (hk : ltS (sy (old.drop q)) (sy (old.drop p))) (hq : ¬ ltS (sy (old.drop q)) (sy b)) : lcp (old.drop p) b ≤ lcp (old.drop q) b := by
  obtain ⟨k, hK⟩ : ∃ k, k = lcp (old.drop p) b := ⟨_, rfl⟩
  have hb := lcp_le_r (old.drop p) b
  have hag : ∀ i, i < k → sy (old.drop q) i = sy b i := by
    intro i
    induction i using Nat.strongRecOn with
    | _ i ih =>
      intro hi
      have e1 := lcp_sy (old.drop p) b i (by omega)
      obtain ⟨j1, a1, a2⟩ := hk
      have hge : ¬ sy (old.drop q) i < sy b i := fun x => hq ⟨i, fun t ht => ih t ht (by omega), x⟩
      rcases Nat.lt_trichotomy j1 i with x | x | x
      · have := ih j1 x (by omega)
        have := lcp_sy (old.drop p) b j1 (by omega)
        omega
      · subst x; omega
      · have := a1 i x; omega
  rw [← hK]
  have hlb : k ≤ b.length := by omega
  refine lcp_ge _ _ k ?_ hlb hag
  rcases Nat.eq_zero_or_pos k with z | z
  · omega
  · have h1 := hag (k - 1) (by omega)
    have h2 : 0 < sy b (k - 1) := sy_pos (by omega)
    have := sy_pos_lt (l := old.drop q) (i := k - 1) (by omega)
    omega
theorem lg1_ge (old b : List UInt8) (p : Nat) (r : Nat × Nat) : r.2 ≤ (lg1 old b p r).2 ∧ lcp (old.drop p) b ≤ (lg1 old b p r).2 := by
  unfold lg1
  split
  · exact ⟨by show r.2 ≤ lcp _ _; omega, Nat.le_refl _⟩
  · exact ⟨Nat.le_refl _, by omega⟩
theorem lgOf_max (old b : List UInt8) (p : Nat) : lcp (old.drop p) b ≤ (lgOf old b).2 := by
  rcases Nat.lt_or_ge p old.length with hp | hp
  · have hs := saOf_ok old
    obtain ⟨i, hi, rfl⟩ := hs.onto p hp
    have hS : ∀ i j, i < j → j < old.length → ltS (sy (old.drop (saOf old i))) (sy (old.drop (saOf old j))) := fun i j hij hj => by
      have h := (hs.strict (sy_ends old) (Nat.le_refl _) hij hj).ltS
      have e : ∀ p, sy (old.drop p) = fun i => sy old (p + i) := fun p => funext fun i => sy_drop old p i
      rw [e, e]; exact h
    have hc := count_down old.length (fun i => decide (Lib.compareBytes (old.drop (saOf old i)) b < 0)) fun i j hij hj hP => by
      have h1 := (cmp_lt _ _).1 (of_decide_eq_true hP)
      exact decide_eq_true ((cmp_lt _ _).2 ((hS i j hij hj).trans h1))
    have hcc : (List.range old.length).countP (fun i => decide (Lib.compareBytes (old.drop (saOf old i)) b < 0)) = cntL old b := by
      unfold cntL; rw [List.countP_map]; rfl
    rw [hcc] at hc
    have hle := cntL_le old b
    rcases Nat.lt_or_ge i (cntL old b) with x | x
    · -- the one ahead of the bytes
      have hA : lcp (old.drop (saOf old i)) b ≤ (lgA old b).2 := by
        unfold lgA
        rw [if_pos (by omega)]
        refine Nat.le_trans ?_ (lg1_ge old b _ _).2
        rcases Nat.lt_or_eq_of_le (show i ≤ cntL old b - 1 by omega) with y | y
        · have hq := (cmp_lt _ _).1 (of_decide_eq_true ((hc (cntL old b - 1) (by omega)).2 (by omega)))
          exact lcp_mid (f := id) (g := id) (hS i _ y (by omega)) hq
        · rw [← y]; exact Nat.le_refl _
      unfold lgOf
      split
      · exact Nat.le_trans hA (lg1_ge old b _ _).1
      · exact hA
    · unfold lgOf
      rw [if_pos (by omega)]
      refine Nat.le_trans ?_ (lg1_ge old b _ _).2
      rcases Nat.lt_or_eq_of_le x with y | y
      · have hq : ¬ ltS (sy (old.drop (saOf old (cntL old b)))) (sy b) := fun h => by
          have := (hc (cntL old b) (by omega)).1 (decide_eq_true ((cmp_lt _ _).2 h))
          omega
        exact lcp_mid2 (hS _ i y hi) hq
      · rw [← y]; exact Nat.le_refl _
  · have := lcp_le_l (old.drop p) b
    rw [List.length_drop] at this
    omega
end Go.Fwm
end

section
/- The model: an image of pieces of the old one has a short patch. No condition. -/
set_option linter.unusedVariables false
namespace Go.Fwm

/-- What a new image is made of: bytes, or so many bytes of the old one from a place on. -/
inductive Sg
  | own (l : List UInt8)
  | pc (p n : Nat)
def Sg.bytes (old : List UInt8) : Sg → List UInt8
  | .own l => l
  | .pc p n => (old.drop p).take n
def Sg.ok (old : List UInt8) : Sg → Prop
  | .own _ => True
  | .pc p n => 32 ≤ n ∧ p + n ≤ old.length
def Sg.cost : Sg → Nat
  | .own l => 2 * l.length
  | .pc _ _ => 16
def flat (old : List UInt8) : List Sg → List UInt8
  | [] => []
  | s :: ss => s.bytes old ++ flat old ss
def costs : List Sg → Nat
  | [] => 0
  | s :: ss => s.cost + costs ss
theorem flat_app (old : List UInt8) (a b : List Sg) : flat old (a ++ b) = flat old a ++ flat old b := by
  induction a with
  | nil => rfl
  | cons s a ih => simp [flat, ih]
theorem costs_app (a b : List Sg) : costs (a ++ b) = costs a + costs b := by
  induction a with
  | nil => simp [costs]
  | cons s a ih => simp [costs, ih]; omega
/-- Of a place: how many bytes of its piece are to come; does it begin one? -/
def tg : List Sg → Nat → Nat × Bool
  | [], _ => (0, false)
  | .own l :: ss, i => if i < l.length then (0, false) else tg ss (i - l.length)
  | .pc _ n :: ss, i => if i < n then (n - i, i == 0) else tg ss (i - n)
theorem tg_zero (ss : List Sg) : (tg ss 0).1 = 0 ∨ (tg ss 0).2 = true := by
  induction ss with
  | nil => exact .inl rfl
  | cons s ss ih =>
    cases s with
    | own l => unfold tg; split; exact .inl rfl; rw [Nat.zero_sub]; exact ih
    | pc p n => unfold tg; split; exact .inr rfl; rw [Nat.zero_sub]; exact ih
theorem tg_next (ss : List Sg) : ∀ i, (2 ≤ (tg ss i).1 → (tg ss (i + 1)).1 = (tg ss i).1 - 1 ∧ (tg ss (i + 1)).2 = false) ∧ ((tg ss i).1 ≤ 1 → (tg ss (i + 1)).1 = 0 ∨ (tg ss (i + 1)).2 = true) := by
  induction ss with
  | nil => intro i; exact ⟨fun h => by simp [tg] at h, fun _ => .inl rfl⟩
  | cons s ss ih =>
    intro i
    cases s with
    | own l =>
      unfold tg
      by_cases h : i + 1 < l.length
      · rw [if_pos h, if_pos (by omega)]; exact ⟨fun h => by simp at h, fun _ => .inl rfl⟩
      · rw [if_neg h]
        by_cases h2 : i < l.length
        · rw [if_pos h2, show i + 1 - l.length = 0 by omega]; exact ⟨fun h => by simp at h, fun _ => tg_zero ss⟩
        · rw [if_neg h2, show i + 1 - l.length = i - l.length + 1 by omega]; exact ih _
    | pc p n =>
      unfold tg
      by_cases h : i + 1 < n
      · rw [if_pos h, if_pos (by omega)]
        refine ⟨fun _ => ⟨by show n - (i + 1) = n - i - 1; omega, by simp⟩, fun h => ?_⟩
        have : n - i ≤ 1 := h
        omega
      · rw [if_neg h]
        by_cases h2 : i < n
        · rw [if_pos h2, show i + 1 - n = 0 by omega]
          refine ⟨fun h => ?_, fun _ => tg_zero ss⟩
          have : 2 ≤ n - i := h
          omega
        · rw [if_neg h2, show i + 1 - n = i - n + 1 by omega]; exact ih _
theorem tg_out (old : List UInt8) (ss : List Sg) (hok : ∀ s ∈ ss, s.ok old) : ∀ i, (flat old ss).length ≤ i → tg ss i = (0, false) := by
  induction ss with
  | nil => intro i _; rfl
  | cons s ss ih =>
    intro i hi
    have ih := ih fun s hs => hok s (List.mem_cons_of_mem _ hs)
    simp only [flat, List.length_append] at hi
    cases s with
    | own l =>
      have : (Sg.bytes old (.own l)).length = l.length := rfl
      unfold tg; rw [if_neg (by omega)]; exact ih _ (by omega)
    | pc p n =>
      have h0 : 32 ≤ n ∧ p + n ≤ old.length := hok _ (List.mem_cons_self ..)
      have : (Sg.bytes old (.pc p n)).length = n := by simp [Sg.bytes]; omega
      unfold tg; rw [if_neg (by omega)]; exact ih _ (by omega)
theorem tg_start (old : List UInt8) (ss : List Sg) (hok : ∀ s ∈ ss, s.ok old) : ∀ i, (tg ss i).2 = true → 32 ≤ (tg ss i).1 := by
  induction ss with
  | nil => intro i h; cases h
  | cons s ss ih =>
    intro i
    have ih := ih fun s hs => hok s (List.mem_cons_of_mem _ hs)
    cases s with
    | own l =>
      unfold tg
      split
      · exact fun h => by cases h
      · exact ih _
    | pc p n =>
      have h0 : 32 ≤ n ∧ p + n ≤ old.length := hok _ (List.mem_cons_self ..)
      unfold tg
      split
      · intro h
        have : i = 0 := by simpa using h
        show 32 ≤ n - i
        omega
      · exact ih _
theorem lcp_app (a : List UInt8) (b c : List UInt8) (k : Nat) (h : k ≤ a.length) (hk : k ≤ b.length) (e : a.take k = b.take k) : k ≤ lcp a (b ++ c) := by
  refine lcp_ge _ _ k h (by simp; omega) fun i hi => ?_
  have e2 : (a.take k)[i]? = (b.take k)[i]? := by rw [e]
  rw [List.getElem?_take, List.getElem?_take, if_pos hi, if_pos hi] at e2
  unfold sy
  rw [List.getElem?_append_left (by omega), e2]
theorem tg_dist (old : List UInt8) (ss : List Sg) (hok : ∀ s ∈ ss, s.ok old) : ∀ i, ∃ p, (tg ss i).1 ≤ lcp (old.drop p) ((flat old ss).drop i) := by
  induction ss with
  | nil => intro i; exact ⟨0, Nat.zero_le _⟩
  | cons s ss ih =>
    intro i
    have ih := ih fun s hs => hok s (List.mem_cons_of_mem _ hs)
    cases s with
    | own l =>
      unfold tg flat
      split
      · exact ⟨0, Nat.zero_le _⟩
      · obtain ⟨p, h⟩ := ih (i - l.length)
        refine ⟨p, ?_⟩
        have e : (Sg.bytes old (.own l) ++ flat old ss).drop i = (flat old ss).drop (i - l.length) := by
          rw [List.drop_append, show Sg.bytes old (.own l) = l from rfl, List.drop_of_length_le (by omega), List.nil_append]
        rw [e]; exact h
    | pc p n =>
      have h0 : 32 ≤ n ∧ p + n ≤ old.length := hok _ (List.mem_cons_self ..)
      have hl : (Sg.bytes old (.pc p n)).length = n := by simp [Sg.bytes]; omega
      unfold tg flat
      split
      · rename_i hi
        refine ⟨p + i, ?_⟩
        rw [List.drop_append, hl, show i - n = 0 by omega, List.drop_zero]
        refine lcp_app _ _ _ _ ?_ ?_ ?_
        · show n - i ≤ _; rw [List.length_drop]; omega
        · show n - i ≤ _; rw [List.length_drop, hl]; exact Nat.le_refl _
        · show (old.drop (p + i)).take (n - i) = (((old.drop p).take n).drop i).take (n - i)
          rw [List.drop_take, List.drop_drop, List.take_take, Nat.min_self]
      · obtain ⟨q, h⟩ := ih (i - n)
        refine ⟨q, ?_⟩
        have e : (Sg.bytes old (.pc p n) ++ flat old ss).drop i = (flat old ss).drop (i - n) := by
          rw [List.drop_append, hl, List.drop_of_length_le (l := Sg.bytes old (.pc p n)) (by omega), List.nil_append]
        rw [e]; exact h

/-! ### weights -/
def wgt (ss : List Sg) (i : Nat) : Nat := if (tg ss i).2 then 16 else if (tg ss i).1 = 0 then 2 else 0
def wsum (w : Nat → Nat) : Nat → Nat → Nat
  | 0, _ => 0
  | k + 1, i => w i + wsum w k (i + 1)
theorem wsum_add (w : Nat → Nat) : ∀ a b i, wsum w (a + b) i = wsum w a i + wsum w b (i + a)
  | 0, b, i => by rw [Nat.zero_add]; simp [wsum]
  | a + 1, b, i => by
    rw [show a + 1 + b = (a + b) + 1 by omega]
    simp only [wsum]
    rw [wsum_add w a b (i + 1), show i + 1 + a = i + (a + 1) by omega]; omega
theorem wsum_congr {w v : Nat → Nat} {s t : Nat} : ∀ k, (∀ j, j < k → w (s + j) = v (t + j)) → wsum w k s = wsum v k t := by
  intro k
  induction k generalizing s t with
  | zero => intro _; rfl
  | succ k ih =>
    intro h
    simp only [wsum]
    rw [show w s = v t from h 0 (by omega), ih fun j hj => by have := h (j + 1) (by omega); rwa [show s + (j + 1) = s + 1 + j by omega, show t + (j + 1) = t + 1 + j by omega] at this]
theorem wsum_const {w : Nat → Nat} {c s : Nat} : ∀ k, (∀ j, j < k → w (s + j) = c) → wsum w k s = c * k := by
  intro k
  induction k generalizing s with
  | zero => intro _; rfl
  | succ k ih =>
    intro h
    simp only [wsum]
    rw [show w s = c from h 0 (by omega), ih fun j hj => by have := h (j + 1) (by omega); rwa [show s + (j + 1) = s + 1 + j by omega] at this, Nat.mul_succ]; omega
theorem tg_pc {p n : Nat} {ss : List Sg} {i : Nat} (h : i < n) : tg (.pc p n :: ss) i = (n - i, i == 0) := if_pos h
theorem tg_own {l : List UInt8} {ss : List Sg} {i : Nat} (h : i < l.length) : tg (.own l :: ss) i = (0, false) := if_pos h
theorem wgt_all (old : List UInt8) (ss : List Sg) (hok : ∀ s ∈ ss, s.ok old) : wsum (wgt ss) (flat old ss).length 0 = costs ss := by
  induction ss with
  | nil => rfl
  | cons s ss ih =>
    have ih := ih fun s hs => hok s (List.mem_cons_of_mem _ hs)
    simp only [flat, List.length_append, costs]
    rw [wsum_add, Nat.zero_add]
    cases s with
    | own l =>
      have hl : (Sg.bytes old (.own l)).length = l.length := rfl
      rw [hl, ← ih]
      have e1 : wsum (wgt (.own l :: ss)) l.length 0 = 2 * l.length := wsum_const _ fun j hj => by
        rw [Nat.zero_add]; unfold wgt; rw [tg_own hj]; rfl
      have e2 : wsum (wgt (.own l :: ss)) (flat old ss).length l.length = wsum (wgt ss) (flat old ss).length 0 := wsum_congr _ fun j hj => by
        unfold wgt
        have : tg (.own l :: ss) (l.length + j) = tg ss (0 + j) := by
          show (if _ then _ else _) = _
          rw [if_neg (by omega), show l.length + j - l.length = 0 + j by omega]
        rw [this]
      rw [e1, e2]; rfl
    | pc p n =>
      have h0 : 32 ≤ n ∧ p + n ≤ old.length := hok _ (List.mem_cons_self ..)
      have hl : (Sg.bytes old (.pc p n)).length = n := by simp [Sg.bytes]; omega
      rw [hl, ← ih]
      have e1 : wsum (wgt (.pc p n :: ss)) n 0 = 16 := by
        obtain ⟨m, rfl⟩ : ∃ m, n = m + 1 := ⟨n - 1, by omega⟩
        simp only [wsum]
        have a1 : wgt (.pc p (m + 1) :: ss) 0 = 16 := by unfold wgt; rw [tg_pc (by omega)]; rfl
        have a2 : wsum (wgt (.pc p (m + 1) :: ss)) m (0 + 1) = 0 * m := wsum_const _ fun j hj => by
          unfold wgt
          rw [tg_pc (by omega)]
          have h1 : ((0 + 1 + j) == 0) = false := by simp
          have h2 : ¬ (m + 1 - (0 + 1 + j) = 0) := by omega
          simp only [h1, h2]
          simp
        rw [a1, a2, Nat.zero_mul]
      have e2 : wsum (wgt (.pc p n :: ss)) (flat old ss).length n = wsum (wgt ss) (flat old ss).length 0 := wsum_congr _ fun j hj => by
        unfold wgt
        have : tg (.pc p n :: ss) (n + j) = tg ss (0 + j) := by
          show (if _ then _ else _) = _
          rw [if_neg (by omega), show n + j - n = 0 + j by omega]
        rw [this]
      rw [e1, e2]; rfl
def cgt (ss : List Sg) (i : Nat) : Nat := if (tg ss i).2 then 0 else min (tg ss i).1 8
theorem cgt_le (ss : List Sg) (i : Nat) : cgt ss i ≤ 8 := by unfold cgt; split <;> omega
theorem cgt_zero {ss : List Sg} {i : Nat} (h : (tg ss i).1 = 0 ∨ (tg ss i).2 = true) : cgt ss i = 0 := by
  unfold cgt
  rcases h with h | h
  · rw [h]; split <;> rfl
  · rw [if_pos h]
/-- While no piece begins. -/
theorem wsum_plain (ss : List Sg) (i : Nat) : ∀ n, (∀ j, j < n → (tg ss (i + j)).2 = false) → wsum (wgt ss) n i = 2 * (n - (tg ss i).1) ∧ ((tg ss (i + n)).2 = false → (tg ss (i + n)).1 = (tg ss i).1 - n) := by
  intro n
  induction n with
  | zero => intro _; exact ⟨by simp [wsum], fun _ => by simp⟩
  | succ n ih =>
    intro h
    obtain ⟨h1, h2⟩ := ih fun j hj => h j (by omega)
    have hn := h n (by omega)
    have hd := h2 hn
    obtain ⟨n1, n2⟩ := tg_next ss (i + n)
    refine ⟨?_, fun hx => ?_⟩
    · rw [wsum_add, h1]
      have : wsum (wgt ss) 1 (i + n) = wgt ss (i + n) := by simp [wsum]
      rw [this]
      unfold wgt
      rw [hn, hd]
      simp only [Bool.false_eq_true, if_false]
      split <;> omega
    · rw [← Nat.add_assoc] at hx ⊢
      rcases Nat.lt_or_ge 1 (tg ss (i + n)).1 with y | y
      · have := (n1 y).1; omega
      · rcases n2 y with z | z
        · omega
        · rw [z] at hx; cases hx
theorem wsum_some (ss : List Sg) (i : Nat) : ∀ n, (∃ j, j < n ∧ (tg ss (i + j)).2 = true) → 16 ≤ wsum (wgt ss) n i := by
  rintro n ⟨j, hj, h⟩
  rw [show n = j + (1 + (n - j - 1)) by omega, wsum_add, wsum_add]
  have : wsum (wgt ss) 1 (i + j) = 16 := by simp [wsum, wgt, h]
  omega

/-! ### the runs that are found -/
theorem fnd_cost (old : List UInt8) (ss : List Sg) (hok : ∀ s ∈ ss, s.ok old) : ∀ (k i own : Nat), own ≤ i → i ≤ (flat old ss).length →
    (encs ((fnd (lgOf old) (flat old ss) k i own).map (Rn.stp (flat old ss)))).length ≤ (i - own) + 3 + wsum (wgt ss) ((flat old ss).length - i) i + cgt ss i := by
  obtain ⟨N, hN⟩ : ∃ N, N = (flat old ss).length := ⟨_, rfl⟩
  intro k
  induction k with
  | zero => intro i own _ _; simp [fnd, encs]
  | succ k ih =>
    intro i own h1 h2
    unfold fnd
    split
    · rename_i hi
      obtain ⟨p, hp⟩ := tg_dist old ss hok i
      have hmax := lgOf_max old ((flat old ss).drop i) p
      have hw : wsum (wgt ss) ((flat old ss).length - i) i = wgt ss i + wsum (wgt ss) ((flat old ss).length - (i + 1)) (i + 1) := by
        rw [show (flat old ss).length - i = ((flat old ss).length - (i + 1)) + 1 by omega]; rfl
      split
      · rename_i hs
        have a := ih (i + 1) own (by omega) (by omega)
        refine Nat.le_trans a ?_
        rw [hw]
        have hst : (tg ss i).2 = false := by
          cases h : (tg ss i).2 with
          | false => rfl
          | true => have := tg_start old ss hok i h; omega
        obtain ⟨n1, n2⟩ := tg_next ss i
        have hwi : wgt ss i = if (tg ss i).1 = 0 then 2 else 0 := by unfold wgt; rw [hst]; rfl
        have hci : cgt ss i = min (tg ss i).1 8 := by unfold cgt; rw [hst]; rfl
        rcases Nat.lt_or_ge 1 (tg ss i).1 with y | y
        · obtain ⟨m1, m2⟩ := n1 y
          have hc : cgt ss (i + 1) = min ((tg ss i).1 - 1) 8 := by unfold cgt; rw [m2, m1]; rfl
          rw [hwi, hci, hc]; split <;> omega
        · have hc := cgt_zero (n2 y)
          rw [hwi, hci, hc]; split <;> omega
      · rename_i hn
        obtain ⟨g1, g2, g3⟩ := lgOf_ok old ((flat old ss).drop i)
        simp only [List.length_drop] at g2
        generalize lgOf old ((flat old ss).drop i) = r at hn g1 g2 g3 hmax
        obtain ⟨f, n⟩ := r
        simp only at hn g1 g2 g3 hmax ⊢
        have e1 : Rn.stp (flat old ss) ⟨(f : Int), i, i + n⟩ = .copy n f := by
          unfold Rn.stp
          rw [if_neg (by show ¬ (f : Int) < 0; omega)]
          show Stp.copy (i + n - i) (f : Int).toNat = _
          rw [show i + n - i = n by omega, Int.toNat_natCast]
        rw [List.map_append, List.map_cons, encs_app, e1]
        have a1 := sndR_len (flat old ss) own i
        have a2 := ih (i + n) (i + n) (Nat.le_refl _) (by omega)
        have a3 := num_len n
        have a4 := num_len f
        have hsp : wsum (wgt ss) ((flat old ss).length - i) i = wsum (wgt ss) n i + wsum (wgt ss) ((flat old ss).length - (i + n)) (i + n) := by
          rw [show (flat old ss).length - i = n + ((flat old ss).length - (i + n)) by omega, wsum_add]
        have key : 8 + cgt ss (i + n) ≤ wsum (wgt ss) n i + cgt ss i := by
          by_cases hex : ∃ j, j < n ∧ (tg ss (i + j)).2 = true
          · have := wsum_some ss i n hex
            have := cgt_le ss (i + n)
            omega
          · have hall : ∀ j, j < n → (tg ss (i + j)).2 = false := fun j hj => by
              cases h : (tg ss (i + j)).2 with
              | false => rfl
              | true => exact absurd ⟨j, hj, h⟩ hex
            obtain ⟨q1, q2⟩ := wsum_plain ss i n hall
            have hst := hall 0 (by omega)
            rw [Nat.add_zero] at hst
            have hci : cgt ss i = min (tg ss i).1 8 := by unfold cgt; rw [hst]; rfl
            have hce : cgt ss (i + n) = 0 := by
              refine cgt_zero ?_
              cases h : (tg ss (i + n)).2 with
              | true => exact .inr rfl
              | false => have := q2 h; exact .inl (by omega)
            rw [q1, hci, hce]; omega
        simp only [encs, Stp.enc, List.length_append, List.length_cons] at a1 a2 ⊢
        omega
    · have := sndR_len (flat old ss) own (flat old ss).length; omega
/-- ████ AN IMAGE OF PIECES OF THE OLD ONE HAS A SHORT PATCH. ████ -/
theorem moved_len (old : List UInt8) (ss : List Sg) (hok : ∀ s ∈ ss, s.ok old) : (patchG (lgOf old) old (flat old ss)).length ≤ 15 + costs ss := by
  have h1 := fnd_cost old ss hok ((flat old ss).length + 1) 0 0 (Nat.le_refl _) (Nat.zero_le _)
  rw [Nat.sub_zero (flat old ss).length, wgt_all old ss hok, cgt_zero (tg_zero ss)] at h1
  have h2 := patchOf_len old (flat old ss).length (steps (lgOf old) old (flat old ss))
  have h3 : (encs (steps (lgOf old) old (flat old ss))).length ≤ 3 + costs ss := by
    have h1' : (encs (stepsR (lgOf old) (flat old ss))).length ≤ _ := h1
    unfold steps
    split <;> omega
  show (patchOf _ _ _).length ≤ _
  omega
end Go.Fwm
end

section
/- Bytes laid anew: a row of zeros that is filled; a flash of an image that lies beside the arguments. No condition. -/
set_option linter.unusedSimpArgs false
set_option linter.unusedVariables false
namespace Go.Proofs.YtkmgcggoemlaaaaGreatDoor
open Go Go.Fw Go.Conc Go.RowKit Go.Fwm

/-- A byte with one bit turned. -/
theorem flip_byte (x : UInt8) (j : Nat) (h : j < 8) : ∃ y : UInt8, bits .xor .u8 (x.toNat : Int) (2 ^ j % 256) = (y.toNat : Int) ∧ y ≠ x := by
  have hx := x.toNat_lt
  have e : ∃ m : UInt8, (2 : Int) ^ j % 256 = (m.toNat : Int) ∧ m ≠ 0 := by
    have hj : j = 0 ∨ j = 1 ∨ j = 2 ∨ j = 3 ∨ j = 4 ∨ j = 5 ∨ j = 6 ∨ j = 7 := by omega
    rcases hj with rfl | rfl | rfl | rfl | rfl | rfl | rfl | rfl
    · exact ⟨1, by decide, by decide⟩
    · exact ⟨2, by decide, by decide⟩
    · exact ⟨4, by decide, by decide⟩
    · exact ⟨8, by decide, by decide⟩
    · exact ⟨16, by decide, by decide⟩
    · exact ⟨32, by decide, by decide⟩
    · exact ⟨64, by decide, by decide⟩
    · exact ⟨128, by decide, by decide⟩
  obtain ⟨m, e1, e2⟩ := e
  have hm := m.toNat_lt
  refine ⟨x ^^^ m, ?_, fun h => e2 ?_⟩
  · rw [e1, u8_xor_nat _ _ (by omega) (by omega), UInt8.toNat_xor]
  · have := congrArg (fun y => x ^^^ y) h
    simpa [← UInt8.xor_assoc] using this
theorem Row_set {w : World} {g n c : Nat} {P : List UInt8} (h : Row w (.slice (some ⟨g, 0, none⟩) n c) P) {q : Nat} (hq : q < P.length) (y : UInt8) : Row (w.setCell ⟨g, q, none⟩ (.int .u8 (y.toNat : Int))) (.slice (some ⟨g, 0, none⟩) n c) (P.set q y) := by
  obtain ⟨_, h2 | ⟨g', cap, cur, h1, h2, h3, h4, h5, h6, h7⟩⟩ := h
  · cases h2.1
  · cases h1
    refine ⟨by simp, .inr ⟨g, c, cur.setIfInBounds q (.int .u8 (y.toNat : Int)), by simp, h2, by simp [World.setCell, Array.getElem?_modify, h3], by simpa using h4, h5, by simpa using h6, ?_⟩⟩
    rw [List.length_set, Array.toList_setIfInBounds, List.take_set, h7, List.map_set]
    rfl
def zeros (n : Nat) : List Value := List.replicate n (Value.int .u8 0)
theorem zeros_len (n : Nat) : (zeros n).length = n := List.length_replicate
theorem make_zeros (n : Nat) (hn : n ≤ 9223372036854) (w : World) :
    (Instr.makeSlice 22 (.int .i64 (n : Int)) (.int .i64 (n : Int))).run Tryz.prog w = .ok (.slice (some ⟨w.heap.size, 0, none⟩) n n) (w.alloc (.cells (zeros n).toArray 5)) := run_make_u8 n hn w
theorem splice_all (a b : List Value) (h : a.length = b.length) : splice a 0 b = b := by
  unfold splice
  simp [h]
theorem wpList_fill {w : World} {ops : Array Oper} {rest : List Oper} {o : Oper} {a : Act} {Q : Exit → Act → World → Prop} (hgd : o.guard = none) (d s : Operand)
    (ho : o.op = .call { callee := .builtin .copy, args := #[d, s], argTypes := #[22, 22] }) (g n c : Nat) (A : Option Addr) (zs : List UInt8) (hd : a.eval d = .slice (some ⟨g, 0, none⟩) n n) (hs : a.eval s = .slice A n c) (hl : zs.length = n)
    (hg : Blk w g 5 (zeros n)) (hx : Bytes w A zs) (h : ∀ w', Hid (Blk w' g 5 (zs.map enc)) → Hid (Below g w w') → wpList Tryz.prog ops Q rest (a.put o.dst (.int .i64 (n : Int))) w') :
    wpList Tryz.prog ops Q (o :: rest) a w := by
  have hlm : (zs.map enc).length = n := by rw [List.length_map]; exact hl
  refine wpList_copy_splice hgd d s 22 22 ho 5 Tryz.underlying22 size5 (some ⟨g, 0, none⟩) A n n n c hd hs g 0 (zeros n) 5 hg (zs.map enc) (by rw [hlm]; exact (Nat.min_self n).symm) (fun h0 => ⟨rfl, ?_⟩) (by rw [hlm, zeros_len]; omega) (fun v hv => by obtain ⟨z, _, rfl⟩ := List.mem_map.1 hv; rfl) g w (Below.refl _ w) (Nat.le_refl _) fun w' HG hB => ?_
  · obtain ⟨b, o', hA, _⟩ := hx 0 (by omega)
    refine ⟨_, hA, fun j v hj => ?_⟩
    have hjl : j < zs.length := by have := (List.getElem?_eq_some_iff.1 hj).1; simpa using this
    obtain ⟨b', o2, hA', hc⟩ := hx j hjl
    rw [hA] at hA'; cases hA'
    have hv : v = .int .u8 (zs[j].toNat : Int) := by simp [hjl, enc] at hj; exact hj.symm
    rw [hv, show (⟨b, o', none⟩ : Addr).add j = ⟨b, o' + j, none⟩ by unfold Addr.add; split <;> simp_all]
    exact hc
  · rw [hlm]
    refine h w' (Lib.hid ?_) (Lib.hid hB)
    have := HG.out
    rw [splice_all _ _ (by rw [zeros_len, hlm])] at this
    exact this
theorem nf_v {w V : World} (hk : Kp w V) {A : Option Addr} {c : Nat} {old : List UInt8} (h : Bytes V A old) (n0 : A = none → c = 0) (hol : old.length ≤ 4096) (pages : Int) (hp : -9223372036854775808 ≤ pages ∧ pages ≤ 9223372036854775807) :
    Calls Tryz.prog 18 #[.slice A old.length c, .int .i64 pages] V fun e V1 => ∃ pf bf, e = .returned (.pointer (some ⟨pf, 0, none⟩)) ∧ Nf1 w V V1 pf bf (Fl.init old pages) :=
  (newflash_ok V (fun b => b = w.heap.size + 1) A old.length c old rfl hol h n0 pages hp w.heap.size (by have := hk.size; omega) (fun b x => by have := hk.size; omega) (by omega)).mono fun e V1 ⟨pf, bf, h1, h2, h3, h4, h5⟩ => ⟨pf, bf, h1, h2, h3, h4, h5⟩
end Go.Proofs.YtkmgcggoemlaaaaGreatDoor
end

section
/- The start of a row whose arguments hold slices: what stands in their memory. No condition. -/
set_option linter.unusedSimpArgs false
set_option linter.unusedVariables false
set_option linter.constructorNameAsVariable false
set_option maxRecDepth 100000
namespace Go.Proofs.YtkmgcggoemlaaaaGreatDoor
open Go Go.Fw Go.Conc Go.RowKit Go.Fwm

/-- What a cell of an argument may hold. -/
def CellOk (W : World) (v : Value) : Prop := (∃ k n, v = .int k n) ∨ ∃ a l c, v = .slice a l c ∧ ∀ x, a = some x → (l = 0 ∧ c = 0) ∨ ∃ cs t fr, W.heap[x.block]? = some (.cells cs t fr)
def prv (v : Value) : Value := if isE v then eV else v
theorem prv_int (k : IntKind) (n : Int) : prv (.int k n) = .int k n := rfl
theorem start_row2 {W : World} {f : FuncId} {args : Array Value} {Post : Value → World → Prop} (hg : GV W) (h2 : ∃ c t fr, W.heap[2]? = some (.cells c t fr)) (hb : bodyOk Tryz.prog f = true) (ha : ∀ (i : Nat) x, args[i]? = some x → ArgOk W x)
    (h : ∀ w, w.heap.size = W.heap.size → GV w → (∀ A zs, Bytes W A zs → Bytes w A zs) → (∀ A n, Ints W A n → Ints w A n) → (∀ (i : Nat) x A v, args[i]? = some x → x.ownBlock = some A.block → W.cell? A = some v → CellOk W v → w.cell? A = some (prv v)) →
      CEnds Tryz.prog FN W.heap.size W Post [] [Frame.enter Tryz.prog f args .normal] w) :
    ∃ M last o w' t', runNT Tryz.prog (M + 1) (solo (G (Frame.enter Tryz.prog f args .normal) []) W) #[] = (.ended o w', t') ∧ runN Tryz.prog M (solo (G (Frame.enter Tryz.prog f args .normal) []) W) = .next last ∧
      step Tryz.prog last = .ended o w' ∧ Conc.Good Tryz.prog Post last o w' t' := by
  let S : Nat → Prop := fun b => (∃ (i : Nat) (x : Value), args[i]? = some x ∧ x.ownBlock = some b) ∨ ∃ (i : Nat) (x : Value) (A : Addr) (v : Value), args[i]? = some x ∧ x.ownBlock = some A.block ∧ W.cell? A = some v ∧ CellOk W v ∧ isE v = false ∧ v.ownBlock = some b
  have hS : ∀ b, (b = 0 ∨ b = Tryz.prog.globals.size ∨ S b) → ∃ c t fr, W.heap[b]? = some (.cells c t fr) := by
    rintro b (rfl | rfl | ⟨i, x, h1, h3⟩ | ⟨i, x, A, v, h1, h3, h4, h5, h6, h7⟩)
    · exact cells_of_cell hg
    · rw [glob2]; exact h2
    · rcases ha i x h1 with ⟨k, n, rfl⟩ | ⟨a, l, c, rfl, hc⟩
      · cases h3
      · cases a with
        | none => cases h3
        | some x => cases h3; exact hc x rfl
    · rcases h5 with ⟨k, n, rfl⟩ | ⟨a, l, c, rfl, hc⟩
      · cases h7
      · cases a with
        | none => cases h7
        | some y =>
          cases h7
          rcases hc y rfl with ⟨rfl, rfl⟩ | hc
          · cases h6
          · exact hc
  have h2s : 2 < W.heap.size := by obtain ⟨c, t, fr, e⟩ := h2; exact (Array.getElem?_eq_some_iff.1 e).1
  refine start hS (by rw [glob2]; omega) hb (fun i x hx => ?_) (h _ (pw_size _ _) (pw_cell hg ?_ rfl) (fun A zs hx => pw_bytes hx) (fun A n hx => pw_ints hx) fun i x A v hx ho hv hok => ?_)
  · rcases ha i x hx with ⟨k, n, rfl⟩ | ⟨a, l, c, rfl, hc⟩
    · exact .int _ _
    · cases a with
      | none => exact .slice0 _ _
      | some y => exact .slice _ _ ⟨rn0_f (.inr (.inr (.inl ⟨i, _, hx, rfl⟩))), rfl, rfl⟩
  · refine .iface _ (.agg rfl fun i x X hx hX => ?_)
    rw [hx] at hX
    cases hX
    rcases i with _ | i
    · simp at hx; subst hx
      exact .ptr ⟨rn0_f (.inr (.inl glob2.symm)), rfl, rfl⟩
    · simp at hx
  · rw [pw_cell' hv]
    congr 1
    cases he : isE v with
    | true => unfold prv; rw [he, pvl_E he]; rfl
    | false =>
      unfold prv
      rw [he, pvl_same ?_ he]
      · rfl
      · have hok' := hok
        rcases hok with ⟨k, n, rfl⟩ | ⟨a, l, c, rfl, hc⟩
        · exact .int _ _
        · cases a with
          | none => exact .slice0 _ _
          | some y => exact .slice _ _ ⟨rn0_f (.inr (.inr (.inr ⟨i, x, A, _, hx, ho, hv, hok', he, rfl⟩))), rfl, rfl⟩
/-- A cell that holds bytes. -/
structure CB (w : World) (v : Value) (zs : List UInt8) : Prop where
  ex : ∃ A c, v = .slice A zs.length c ∧ Bytes w A zs ∧ zs.length ≤ c ∧ c ≤ maxLen ∧ (A = none → c = 0) ∧ ∀ a, A = some a → a.block < w.heap.size
end Go.Proofs.YtkmgcggoemlaaaaGreatDoor
end

section
/- Arguments that hold slices: rows of bytes, of pieces, of turns. No condition. -/
set_option linter.unusedSimpArgs false
set_option linter.unusedVariables false
set_option linter.constructorNameAsVariable false
set_option maxRecDepth 100000
namespace Go.Proofs.YtkmgcggoemlaaaaGreatDoor
open Go Go.Fw Go.Conc Go.RowKit Go.Fwm Go.ChangeShapes Go.WideShapes Go.ChangeAt

theorem spot_of_cell {W : World} {a : Addr} {v : Value} (h : W.cell? a = some v) : a.spot = none := by
  unfold World.cell? at h
  split at h
  · split at h
    · cases h
    · rename_i hs
      cases hsp : a.spot with
      | none => rfl
      | some x => rw [hsp] at hs; simp at hs
  · cases h
theorem add_zero_ (a : Addr) : a.add 0 = a := by simp [Addr.add]
theorem add_off (b o i : Nat) : (⟨b, o, none⟩ : Addr).add i = ⟨b, o + i, none⟩ := by unfold Addr.add; split <;> simp_all
/-- Bytes that a cell of an argument holds. -/
structure IB (W : World) (v : Value) (zs : List UInt8) : Prop where
  ex : ∃ A c, v = .slice A zs.length c ∧ Bytes W A zs ∧ zs.length ≤ c ∧ c ≤ maxLen ∧ (A = none → c = 0)
  ok : CellOk W v
theorem ib_of {H : Type} {enc : TypeId × Value → H} {W : World} {fuel : Nat} {cs : List Value} {x : DataW H × List MemPlace} (h : DataW.trod enc Tryz.prog W 0 (fun _ => true) true fuel 22 cs = some x) : ∃ v zs, cs = [v] ∧ IB W v zs := by
  rcases open_ints Tryz.underlying22 Tryz.underlying5 (by kernel_rfl) h with ⟨hcs, _⟩ | ⟨x, l, c, zs, hcs, _, hl, hm, hz, _, hcell, hwz⟩
  · exact ⟨_, [], hcs, ⟨none, 0, rfl, Bytes.nil _ _, Nat.le_refl _, Nat.zero_le _, fun _ => rfl⟩, .inr ⟨none, 0, 0, rfl, fun y e => by cases e⟩⟩
  · simp at hz
    refine ⟨_, (zs.take l).map fun n => UInt8.ofNat n.toNat, hcs, ?_⟩
    have hlen : ((zs.take l).map fun n => UInt8.ofNat n.toNat).length = l := by simp; omega
    rcases Nat.eq_zero_or_pos c with hc0 | hc0
    · obtain rfl : l = 0 := by omega
      subst hc0
      exact ⟨⟨some x, 0, by rw [hlen], by rw [List.take_zero]; exact Bytes.nil _ _, by rw [hlen]; exact Nat.le_refl _, hm, fun e => (by cases e)⟩, .inr ⟨some x, 0, 0, rfl, fun y e => .inl ⟨rfl, rfl⟩⟩⟩
    · have h0 := hcell 0 (by omega)
      rw [add_zero_] at h0
      have hsp := spot_of_cell h0
      have hcl := cells_of_cell h0
      obtain ⟨b, off, spot⟩ := x
      obtain rfl : spot = none := hsp
      refine ⟨⟨_, c, by rw [hlen], fun i hi => ⟨b, off, rfl, ?_⟩, by rw [hlen]; exact hl, hm, fun e => (by cases e)⟩, .inr ⟨_, l, c, rfl, fun y e => by cases e; exact .inr hcl⟩⟩
      simp only [List.length_map, List.length_take] at hi
      have hil : i < zs.length := by omega
      have h1 := hcell i hil
      rw [add_off] at h1
      rw [h1]
      have hw := hwz zs[i] (List.getElem_mem _)
      have hr : 0 ≤ zs[i] ∧ zs[i] ≤ 255 := by
        simp [Lit.wf, IntKind.min, IntKind.max, IntKind.signed, IntKind.bits] at hw
        exact hw
      simp [hil]
      omega
/-- .. in the private world. -/
theorem ib_prv {W w : World} {v : Value} {zs : List UInt8} (h : IB W v zs) (hb : ∀ A zs, Bytes W A zs → Bytes w A zs) (h0 : 0 < W.heap.size) :
    ∃ A c, prv v = .slice A zs.length c ∧ Bytes w A zs ∧ zs.length ≤ c ∧ c ≤ maxLen ∧ (A = none → c = 0) ∧ ∀ x, A = some x → x.block < W.heap.size := by
  obtain ⟨A, c, rfl, h1, h2, h3, h4⟩ := h.ex
  unfold prv
  cases he : isE (.slice A zs.length c) with
  | true =>
    obtain ⟨a, e⟩ := isE_some he
    simp only [Value.slice.injEq] at e
    obtain ⟨rfl, e2, rfl⟩ := e
    have : zs = [] := List.eq_nil_of_length_eq_zero e2
    subst this
    exact ⟨_, 0, rfl, Bytes.nil _ _, Nat.le_refl _, Nat.zero_le _, fun e => (by cases e), fun x e => by cases e; exact h0⟩
  | false =>
    refine ⟨A, c, rfl, hb _ _ h1, h2, h3, h4, fun x e => ?_⟩
    subst e
    rcases h.ok with ⟨k, n, e⟩ | ⟨a, l, c', e, hc⟩
    · cases e
    · cases e
      rcases hc x rfl with ⟨e1, e2⟩ | ⟨cs, t, fr, e1⟩
      · exfalso
        rw [e1, e2] at he
        cases he
      · exact (Array.getElem?_eq_some_iff.1 e1).1
/-- Pieces that came in. -/
structure SP (W : World) (a : Option Addr) (len : Nat) : Prop where
  at_ : ∀ i, i < len → ∃ b o z1 z2 v zs, a = some ⟨b, o, none⟩ ∧ W.cell? ⟨b, o + i * 3, none⟩ = some (.int .i64 z1) ∧ W.cell? ⟨b, o + i * 3 + 1, none⟩ = some (.int .i64 z2) ∧ W.cell? ⟨b, o + i * 3 + 2, none⟩ = some v ∧ IB W v zs ∧
    (-9223372036854775808 ≤ z1 ∧ z1 ≤ 9223372036854775807) ∧ (-9223372036854775808 ≤ z2 ∧ z2 ≤ 9223372036854775807)
  cells : ∀ x, a = some x → ∃ c t fr, W.heap[x.block]? = some (.cells c t fr)
theorem arg50 {H : Type} {enc : TypeId × Value → H} {W : World} {base : Nat} {v : Value} {d : DataW H} {p : List MemPlace} (hv : Value.okWide Tryz.prog W .any base 50 v) (h0 : DataW.Trod enc Tryz.prog W 0 (fun _ => true) true 50 v d p) :
    ∃ a len cap, v = .slice a len cap ∧ SP W a len := by
  obtain ⟨a, len, cap, rfl⟩ := okWide_slice Tryz.underlying50 hv
  obtain ⟨fuel, hf⟩ := h0
  rcases Deep.open_slice Tryz.underlying50 hf with ⟨hcs, _⟩ | ⟨x, l, c, m, n, D, Pl, hcs, _, hl, hm, hmm, _, hat⟩
  · simp [Value.cells] at hcs
    obtain ⟨rfl, rfl, rfl⟩ := hcs
    exact ⟨none, 0, 0, rfl, fun i hi => absurd hi (Nat.not_lt_zero _), fun x e => by cases e⟩
  · simp [Value.cells] at hcs
    obtain ⟨rfl, rfl, rfl⟩ := hcs
    obtain ⟨_, hsp, hc⟩ := has_of Tryz.underlying50 hv
    obtain ⟨b, off, spot⟩ := x
    obtain rfl : spot = none := hsp
    have hC : Tryz.prog.cellsOf 52 = 3 := by kernel_rfl
    have hmm' : m = cap := by rw [hmm]; rfl
    refine ⟨_, len, cap, rfl, fun i hi => ?_, fun x e => by cases e; exact hc⟩
    obtain ⟨cs', hcells, ht⟩ := hat i (by omega)
    rw [hC] at hcells
    obtain ⟨_, hlen, hcell⟩ := World.cells?_some hcells
    obtain ⟨xs, n', _, _, _, hxl, hfi⟩ := DataW.trod_struct Tryz.underlying52 ht
    have c3 : Tryz.prog.cellsOf 3 = 1 := by kernel_rfl
    have c22 : Tryz.prog.cellsOf 22 = 1 := by kernel_rfl
    have f0 : DataW.trod enc Tryz.prog W 0 (fun _ => true) true n' 3 ((cs'.drop 0).take (Tryz.prog.cellsOf 3)) = xs[0]? := hfi 0 _ rfl
    have f1 : DataW.trod enc Tryz.prog W 0 (fun _ => true) true n' 3 ((cs'.drop 1).take (Tryz.prog.cellsOf 3)) = xs[1]? := hfi 1 _ rfl
    have f2 : DataW.trod enc Tryz.prog W 0 (fun _ => true) true n' 22 ((cs'.drop 2).take (Tryz.prog.cellsOf 22)) = xs[2]? := hfi 2 _ rfl
    rw [c3] at f0 f1
    rw [c22] at f2
    match cs', hlen, xs, hxl with
    | [u0, u1, u2], _, [x0, x1, x2], _ =>
      have g0 := hcell 0 (by omega)
      have g1 := hcell 1 (by omega)
      have g2 := hcell 2 (by omega)
      rw [add_off, add_off] at g0 g1 g2
      simp at g0 g1 g2 f0 f1 f2
      obtain ⟨z1, e1, _, w1⟩ := DataW.trod_int Tryz.underlying3 f0
      obtain ⟨z2, e2, _, w2⟩ := DataW.trod_int Tryz.underlying3 f1
      obtain ⟨v3, zs, e3, hib⟩ := ib_of f2
      simp at e1 e2 e3
      subst e1 e2 e3
      exact ⟨b, off, z1, z2, _, zs, rfl, g0, g1, g2, hib, bounds_i64 w1, bounds_i64 w2⟩
/-- .. in the private world. -/
def PcR (w : World) (a : Option Addr) (len : Nat) : Prop := ∀ i, i < len → ∃ b o z1 z2 A c zs, a = some ⟨b, o, none⟩ ∧ w.cell? ⟨b, o + i * 3, none⟩ = some (.int .i64 z1) ∧ w.cell? ⟨b, o + i * 3 + 1, none⟩ = some (.int .i64 z2) ∧
  w.cell? ⟨b, o + i * 3 + 2, none⟩ = some (.slice A (List.length (α := UInt8) zs) c) ∧ Bytes w A zs ∧ (-9223372036854775808 ≤ z1 ∧ z1 ≤ 9223372036854775807) ∧ (-9223372036854775808 ≤ z2 ∧ z2 ≤ 9223372036854775807)
theorem SP.prv {W w : World} {a : Option Addr} {len : Nat} (h : SP W a len) (hb : ∀ A zs, Bytes W A zs → Bytes w A zs) (h0 : 0 < W.heap.size) (hc : ∀ A v, (∃ x, a = some x ∧ x.block = A.block) → W.cell? A = some v → CellOk W v → w.cell? A = some (prv v)) : PcR w a len := by
  intro i hi
  obtain ⟨b, o, z1, z2, v, zs, ha, g0, g1, g2, hib, r1, r2⟩ := h.at_ i hi
  obtain ⟨A, c, e, hB, _, _, _, _⟩ := ib_prv hib hb h0
  refine ⟨b, o, z1, z2, A, c, zs, ha, hc ⟨b, o + i * 3, none⟩ _ ⟨_, ha, rfl⟩ g0 (.inl ⟨_, _, rfl⟩), hc ⟨b, o + i * 3 + 1, none⟩ _ ⟨_, ha, rfl⟩ g1 (.inl ⟨_, _, rfl⟩), ?_, hB, r1, r2⟩
  rw [hc ⟨b, o + i * 3 + 2, none⟩ _ ⟨_, ha, rfl⟩ g2 hib.ok, e]
theorem PcR.keep {w w' : World} {a : Option Addr} {len : Nat} (h : PcR w a len) (e : ∀ b, b < w.heap.size → w'.heap[b]? = w.heap[b]?) : PcR w' a len := by
  intro i hi
  obtain ⟨b, o, z1, z2, A, c, zs, ha, g0, g1, g2, hB, r1, r2⟩ := h i hi
  have hb := e b (block_lt_of_cell (a := ⟨b, o + i * 3, none⟩) g0)
  exact ⟨b, o, z1, z2, A, c, zs, ha, (World.cell?_of_block (a := ⟨b, _, none⟩) hb).trans g0, (World.cell?_of_block (a := ⟨b, _, none⟩) hb).trans g1, (World.cell?_of_block (a := ⟨b, _, none⟩) hb).trans g2, hB.keep fun a' _ hlt => e _ hlt, r1, r2⟩
end Go.Proofs.YtkmgcggoemlaaaaGreatDoor
end

section
/- The law Moved, in a private world. No condition. -/
set_option linter.unusedSimpArgs false
set_option linter.unusedVariables false
set_option linter.constructorNameAsVariable false
namespace Go.Proofs.YtkmgcggoemlaaaaGreatDoor
open Go Go.Fw Go.Conc Go.RowKit Go.Fwm

theorem fa_lit144 (f : Nat → Value) (D : List Deferred) : fa 144 f D = ⟨#[f 0, f 1, f 2, f 3, f 4, f 5, f 6, f 7, f 8, f 9, f 10, f 11, f 12, f 13, f 14, f 15, f 16, f 17, f 18, f 19, f 20, f 21, f 22, f 23, f 24, f 25, f 26, f 27, f 28, f 29, f 30, f 31, f 32, f 33, f 34, f 35, f 36, f 37, f 38, f 39, f 40, f 41, f 42, f 43, f 44, f 45, f 46, f 47, f 48, f 49, f 50, f 51, f 52, f 53, f 54, f 55, f 56, f 57, f 58, f 59, f 60, f 61, f 62, f 63, f 64, f 65, f 66, f 67, f 68, f 69, f 70, f 71, f 72, f 73, f 74, f 75, f 76, f 77, f 78, f 79, f 80, f 81, f 82, f 83, f 84, f 85, f 86, f 87, f 88, f 89, f 90, f 91, f 92, f 93, f 94, f 95, f 96, f 97, f 98, f 99, f 100, f 101, f 102, f 103, f 104, f 105, f 106, f 107, f 108, f 109, f 110, f 111, f 112, f 113, f 114, f 115, f 116, f 117, f 118, f 119, f 120, f 121, f 122, f 123, f 124, f 125, f 126, f 127, f 128, f 129, f 130, f 131, f 132, f 133, f 134, f 135, f 136, f 137, f 138, f 139, f 140, f 141, f 142, f 143], D⟩ := by kernel_rfl

theorem app_far {w V V' : World} {v v' : Value} {zs : List UInt8} (hf : ∀ g, v.ownBlock = some g → w.heap.size < g) (hk : Kp w V) (h : App V V' v v' zs) : ∀ g, v'.ownBlock = some g → w.heap.size < g := fun g e => by
  rcases h.wh _ e with y | y
  · exact hf g y
  · have := hk.size; omega
/-- What the loop leaves. -/
def MvX (w : World) (old : List UInt8) (l2 : Nat) (a' : Act) (w' : World) : Prop := ∃ (B : Option Addr) (mm c : Nat) (ss : List Sg) (l m : Nat), a'.eval (.tmp 9) = .slice B mm c ∧ a'.eval (.tmp 10) = .int .i64 l ∧ a'.eval (.tmp 11) = .int .i64 m ∧ Kp w w' ∧ Row w' (.slice B mm c) (flat old ss) ∧ (∀ g, (Value.slice B mm c).ownBlock = some g → w.heap.size < g) ∧ (∀ s ∈ ss, s.ok old) ∧ costs ss = 16 * m + 2 * l ∧ (flat old ss).length = mm ∧ mm ≤ 4096 ∧ m ≤ l2 ∧ l ≤ mm
set_option maxRecDepth 100000 in
set_option maxHeartbeats 8000000 in
theorem moved_priv {W w : World} {Post : Value → World → Prop} (hpost : ∀ W', Below W.heap.size W W' → Post (.bool true) W') (hg : GV w)
    {a0 a1 a2 : Option Addr} {l0 c0 l1 c1 l2 c2 : Nat} {old first : List UInt8}
    (h0 : Bytes w a0 old) (e0 : old.length = l0) (lc0 : l0 ≤ c0) (cm0 : c0 ≤ maxLen) (h1 : Bytes w a1 first) (e1 : first.length = l1) (h2 : PcR w a2 l2)
    (b0 : ∀ a, a0 = some a → a.block < w.heap.size) (b1 : ∀ a, a1 = some a → a.block < w.heap.size) :
    CEnds Tryz.prog FN W.heap.size W Post [] [Frame.enter Tryz.prog 7 #[.slice a0 l0 c0, .slice a1 l1 c1, .slice a2 l2 c2] .normal] w := by
  have hJ := cEnds_clo (P := Tryz.prog) (FN := FN) (N0 := W.heap.size) (W0 := W) (Post := Post) (Ch := [])
  rw [enter_fa _ _ 144 Tryz.func7 rfl rfl (by simp)]
  refine hJ.seq (hJ.region ?_)
  refine hJ.opf lst rfl rfl (by kernel_rfl) rfl (w' := w) (fun tp => ex_assign (x := .const (.bool false)) rfl rfl) ?_
  refine hJ.region_end (hJ.seq (hJ.region ?_))
  refine hJ.opf lst rfl rfl (by kernel_rfl) rfl (w' := w) (v := .slice a0 l0 c0) (fun tp => ex_move rfl ((fa_eval (by decide)).trans rfl)) ?_
  refine hJ.callf lst rfl rfl rfl (by kernel_rfl) (by kernel_rfl) (by kernel_rfl) rfl _ (m1 ((fa_eval (by decide)).trans rfl)) (R := fun v w' => v = .bool (decide (l0 ≤ 4096)) ∧ ∃ tp, w' = Go.Fw.tpd w tp) (fun tp => (image14 _ a0 l0 c0).mono fun e w' ⟨q1, q2⟩ => ⟨_, q1, rfl, tp, q2⟩) ?_
  rintro v w' ⟨rfl, tp, rfl⟩
  refine hJ.tp _ _ tp ?_
  refine hJ.opf lst rfl rfl (by kernel_rfl) rfl (w' := w) (v := .bool (decide (l0 ≤ 4096))) (fun tp => ex_assign rfl ((fa_eval (by decide)).trans rfl)) ?_
  refine hJ.region_end (hJ.seq (hJ.region ?_))
  refine hJ.callop rfl (wanted_plain rfl _) rfl (by kernel_rfl) (by kernel_rfl) ?_
  rw [Array.map_empty]
  refine works_ends hg (atOp_at _) fun w1 z1 o1 => ?_
  rw [finish_fa rfl rfl]
  refine hJ.opf lst rfl rfl (by kernel_rfl) rfl (w' := w1) (v := .bool true) (fun tp => ex_assign rfl ((fa_eval (by decide)).trans rfl)) ?_
  refine hJ.region_end (hJ.seq ?_)
  refine fa_gen (Jf := fun a => CEnds _ _ _ _ _ _ [(bas 7 .normal).at a _] _) fun F hF => ?_
  have f0 : F 0 = .slice a0 l0 c0 := (hF 0).trans rfl
  have f1 : F 1 = .slice a1 l1 c1 := (hF 1).trans rfl
  have f2 : F 2 = .slice a2 l2 c2 := (hF 2).trans rfl
  have f7 : F 7 = .bool (decide (l0 ≤ 4096)) := (hF 7).trans rfl
  have f8 : F 8 = .bool true := (hF 8).trans rfl
  clear hF
  refine hJ.code lst (by kernel_rfl) rfl rfl (by kernel_rfl) (N := fun a' w' => a'.tmps.size = 144 ∧ a'.defers = [] ∧ a'.eval (.tmp 0) = .slice a0 l0 c0 ∧ a'.eval (.tmp 1) = .slice a1 l1 c1 ∧ a'.eval (.tmp 2) = .slice a2 l2 c2 ∧ (l0 ≤ 4096 ∧ 32 ≤ l0 ∧ l1 ≤ 4096 ∧ l2 ≤ 65536) ∧ ∃ tp, w' = Go.Fw.tpd w1 tp) (R := fun a' w' => a'.defers = [] ∧ a'.eval (.tmp 6) = .bool true) (fun tp => ?_) (fun a' w' h => ?_) (fun a' w' td h => law_done Tryz.func7 rfl (by kernel_rfl) h.1 h.2 hpost)
  · rw [fa_lit144, f0, f1, f2, f7, f8]
    dsimp only
    clear f0 f1 f2 f7 f8
    by_cases q0 : l0 ≤ 4096
    · rw [decide_eq_true q0]
      by_cases q1 : 32 ≤ l0
      · have q1' : ¬ ((l0 : Int) < 32) := by omega
        by_cases q2 : l1 ≤ 4096
        · have q2' : ¬ ((4096 : Int) < (l1 : Int)) := by omega
          by_cases q3 : l2 ≤ 65536
          · have q3' : ¬ ((65536 : Int) < (l2 : Int)) := by omega
            go_wp2
            refine ⟨rfl, rfl, rfl, rfl, rfl, ?_⟩
            first | exact ⟨⟨q0, q1, q2, q3⟩, _, rfl⟩ | exact ⟨_, rfl⟩
          · have q3' : ((65536 : Int) < (l2 : Int)) := by omega
            go_wp2
            exact ⟨rfl, rfl⟩
        · have q2' : ((4096 : Int) < (l1 : Int)) := by omega
          go_wp2
          exact ⟨rfl, rfl⟩
      · have q1' : ((l0 : Int) < 32) := by omega
        go_wp2
        exact ⟨rfl, rfl⟩
    · rw [decide_eq_false q0]
      go_wp2
      exact ⟨rfl, rfl⟩
  obtain ⟨k1, k2, f0, f1, f2, ⟨q0, q1, q2, q3⟩, tp, rfl⟩ := h
  refine hJ.tp _ _ tp ?_
  obtain ⟨F, rfl, hF⟩ := act_fa k1 k2
  rw [hF _ (by decide)] at f0 f1 f2
  clear k1 k2 hF
  have hk1 : Kp w w1 := ⟨by omega, o1⟩
  subst e0 e1
  refine hJ.seq ?_
  refine hJ.code lst (by kernel_rfl) rfl rfl (by kernel_rfl) (N := fun a' w' => a'.tmps.size = 144 ∧ a'.defers = [] ∧ a'.eval (.tmp 0) = .slice a0 old.length c0 ∧ a'.eval (.tmp 1) = .slice a1 first.length c1 ∧ a'.eval (.tmp 2) = .slice a2 l2 c2 ∧ a'.eval (.tmp 9) = .slice none 0 0 ∧ Kp w w') (R := fun a' w' => False) (fun tp => ?_) (fun a' w' h => ?_) (fun a' w' td h => h.elim)
  · rw [fa_lit144, f0, f1, f2]
    dsimp only
    clear f0 f1 f2
    have HK := Lib.hid (hk1.tpd tp)
    clear hJ hpost h0 h1 h2 b0 b1 o1 z1 hg lc0 cm0
    clear hk1
    change Code.wp Tryz.prog _ _ _ (Go.Fw.tpd w1 tp)
    generalize Go.Fw.tpd w1 tp = U at HK ⊢
    go_wp2
    exact ⟨rfl, rfl, rfl, rfl, rfl, rfl, HK.out⟩
  clear f0 f1 f2
  obtain ⟨k1, k2, f0, f1, f2, f9, hk2⟩ := h
  obtain ⟨F, rfl, hF⟩ := act_fa k1 k2
  rw [hF _ (by decide)] at f0 f1 f2 f9
  clear k1 k2 hF
  clear hk1
  refine hJ.seq ?_
  refine hJ.code lst (by kernel_rfl) rfl rfl (by kernel_rfl) (N := fun a' w' => a'.tmps.size = 144 ∧ a'.defers = [] ∧ a'.eval (.tmp 0) = .slice a0 old.length c0 ∧ a'.eval (.tmp 1) = .slice a1 first.length c1 ∧ a'.eval (.tmp 2) = .slice a2 l2 c2 ∧ ∃ (B : Option Addr) (m c : Nat), a'.eval (.tmp 9) = .slice B m c ∧ Kp w w' ∧ Row w' (.slice B m c) first ∧ (∀ g, (Value.slice B m c).ownBlock = some g → w.heap.size < g)) (R := fun a' w' => False) (fun tp => ?_) (fun a' w' h => ?_) (fun a' w' td h => h.elim)
  · rw [fa_lit144, f0, f1, f2, f9]
    dsimp only
    clear f0 f1 f2 f9
    have HK := Lib.hid (hk2.tpd tp)
    have HX := Lib.hid ((hk2.tpd tp).bytes h1)
    have hr0 : Row (Go.Fw.tpd w' tp) (.slice none 0 0) [] := ⟨rfl, .inl ⟨rfl, rfl⟩⟩
    have HR := Lib.hid hr0
    have hq : ([] : List UInt8).length + first.length ≤ 100000000 := by simp; omega
    have HQ := Lib.hid hq
    clear hJ hpost h0 h1 h2 b0 b1 o1 z1 hg lc0 cm0
    clear hk2 hr0 hq
    generalize Go.Fw.tpd w' tp = U at HK HX HR ⊢
    go_wp2_with (at_builtin; go_loud (refine wpList_append_all rfl (.tmp 42) (.tmp 43) rfl (.slice none 0 0) [] first a1 first.length c1 rfl HR.out rfl rfl HX.out HQ.out ?_; intro v3 U3 ha3; obtain ⟨B3, n3, cc3, rfl, hn3, hnc3, hcm3, hB03, hBb3⟩ := ha3.own.slice3; have HA3 := Lib.hid ha3; clear ha3 hn3 hnc3 hcm3 hB03 hBb3))
    exact ⟨rfl, rfl, rfl, rfl, rfl, B3, n3, cc3, rfl, HK.out.app HA3.out (fun g e => by cases e), HA3.out.own, fun g e => by
      rcases HA3.out.wh _ e with y | y
      · cases y
      · have := HK.out.size; omega⟩
  clear f0 f1 f2 f9
  obtain ⟨k1, k2, f0, f1, f2, B, m, c, f9, hk3, hr3, hfar⟩ := h
  obtain ⟨F, rfl, hF⟩ := act_fa k1 k2
  rw [hF _ (by decide)] at f0 f1 f2 f9
  clear k1 k2 hF
  clear hk2
  refine hJ.seq ?_
  refine hJ.code lst (by kernel_rfl) rfl rfl (by kernel_rfl) (N := fun a' w' => a'.tmps.size = 144 ∧ a'.defers = [] ∧ a'.eval (.tmp 0) = .slice a0 old.length c0 ∧ a'.eval (.tmp 1) = .slice a1 first.length c1 ∧ a'.eval (.tmp 2) = .slice a2 l2 c2 ∧ a'.eval (.tmp 9) = .slice B m c ∧ a'.eval (.tmp 10) = .int .i64 (first.length : Nat) ∧ Kp w w' ∧ Row w' (.slice B m c) first) (R := fun a' w' => False) (fun tp => ?_) (fun a' w' h => ?_) (fun a' w' td h => h.elim)
  · rw [fa_lit144, f0, f1, f2, f9]
    dsimp only
    clear f0 f1 f2 f9
    have HK := Lib.hid (hk3.tpd tp)
    have hr9 : Row (Go.Fw.tpd w' tp) (.slice B m c) first := hr3
    have HR := Lib.hid hr9
    clear hJ hpost h0 h1 h2 b0 b1 o1 z1 hg lc0 cm0
    clear hk3 hr3 hr9 hfar
    generalize Go.Fw.tpd w' tp = U at HK HR ⊢
    go_wp2
    exact ⟨rfl, rfl, rfl, rfl, rfl, rfl, rfl, HK.out, HR.out⟩
  clear f0 f1 f2 f9
  obtain ⟨k1, k2, f0, f1, f2, f9, f10, hk4, hr4⟩ := h
  obtain ⟨F, rfl, hF⟩ := act_fa k1 k2
  rw [hF _ (by decide)] at f0 f1 f2 f9 f10
  clear k1 k2 hF
  clear hk3 hr3
  refine hJ.seq ?_
  refine hJ.code lst (by kernel_rfl) rfl rfl (by kernel_rfl) (N := fun a' w' => a'.tmps.size = 144 ∧ a'.defers = [] ∧ a'.eval (.tmp 0) = .slice a0 old.length c0 ∧ a'.eval (.tmp 1) = .slice a1 first.length c1 ∧ a'.eval (.tmp 2) = .slice a2 l2 c2 ∧ a'.eval (.tmp 9) = .slice B m c ∧ a'.eval (.tmp 10) = .int .i64 (first.length : Nat) ∧ a'.eval (.tmp 11) = .int .i64 0 ∧ Kp w w' ∧ Row w' (.slice B m c) first) (R := fun a' w' => False) (fun tp => ?_) (fun a' w' h => ?_) (fun a' w' td h => h.elim)
  · rw [fa_lit144, f0, f1, f2, f9, f10]
    dsimp only
    clear f0 f1 f2 f9 f10
    have HK := Lib.hid (hk4.tpd tp)
    have hr9 : Row (Go.Fw.tpd w' tp) (.slice B m c) first := hr4
    have HR := Lib.hid hr9
    clear hJ hpost h0 h1 h2 b0 b1 o1 z1 hg lc0 cm0
    clear hk4 hr4 hr9 hfar
    generalize Go.Fw.tpd w' tp = U at HK HR ⊢
    go_wp2
    exact ⟨rfl, rfl, rfl, rfl, rfl, rfl, rfl, rfl, HK.out, HR.out⟩
  clear f0 f1 f2 f9 f10
  obtain ⟨k1, k2, f0, f1, f2, f9, f10, f11, hk5, hr5⟩ := h
  obtain ⟨F, rfl, hF⟩ := act_fa k1 k2
  rw [hF _ (by decide)] at f0 f1 f2 f9 f10 f11
  clear k1 k2 hF
  clear hk4 hr4
  refine hJ.seq ?_
  refine hJ.code lst (by kernel_rfl) rfl rfl (by kernel_rfl) (N := fun a' w' => a'.tmps.size = 144 ∧ a'.defers = [] ∧ a'.eval (.tmp 0) = .slice a0 old.length c0 ∧ a'.eval (.tmp 2) = .slice a2 l2 c2 ∧ MvX w old l2 a' w') (R := fun a' w' => False) (fun tp => ?_) (fun a' w' h => ?_) (fun a' w' td h => h.elim)
  · rw [fa_lit144, f0, f1, f2, f9, f10, f11]
    dsimp only
    clear f0 f1 f2 f9 f10 f11
    have HK := Lib.hid (hk5.tpd tp)
    have hr9 : Row (Go.Fw.tpd w' tp) (.slice B m c) first := hr5
    have HR := Lib.hid hr9
    have HFAR := Lib.hid hfar
    have H0 := Lib.hid h0
    have H2 := Lib.hid h2
    obtain ⟨N, hN⟩ : ∃ N, N = old.length := ⟨_, rfl⟩
    rw [← hN] at q0 q1 lc0 ⊢
    have HN := Lib.hid hN
    have hm1 : first.length = m := by obtain ⟨B', n', c', e, hl, _⟩ := hr5.slice3; cases e; exact hl
    have HM1 := Lib.hid hm1
    have HQ2 := Lib.hid q2
    clear hJ hpost h0 h1 h2 b0 b1 o1 z1 hg hk5 hr5 hr9 hfar hN hm1 q2
    generalize Go.Fw.tpd w' tp = U at HK HR ⊢
    go_wp2
    go_loopw [9, 10, 11, 12] (fun v lv mv iv wr => ∃ (B : Option Addr) (mm c : Nat) (ss : List Sg) (l m i : Nat), v = .slice B mm c ∧ lv = .int .i64 l ∧ mv = .int .i64 m ∧ iv = .int .i64 i ∧ i ≤ l2 ∧ m ≤ i ∧ Kp w wr ∧ Row wr (.slice B mm c) (flat old ss) ∧ (∀ g, (Value.slice B mm c).ownBlock = some g → w.heap.size < g) ∧ (∀ s ∈ ss, s.ok old) ∧ costs ss = 16 * m + 2 * l ∧ (flat old ss).length = mm ∧ mm ≤ 4096 ∧ l ≤ mm) (fun _ _ _ i _ => l2 - (intOf i).toNat)
    case atStart => exact ⟨B, m, c, [.own first], first.length, 0, 0, rfl, rfl, rfl, rfl, Nat.zero_le _, Nat.le_refl _, HK.out, by have := HR.out; simpa [flat, Sg.bytes] using this, HFAR.out, fun s hs => (by rw [List.mem_singleton.1 hs]; trivial), by simp [costs, Sg.cost], by simp [flat, Sg.bytes, HM1.out], by have := HM1.out; have := HQ2.out; omega, by have := HM1.out; omega⟩
    case round =>
      obtain ⟨B, mm, c, ss, l, m, i, rfl, rfl, rfl, rfl, hi, hmi, hK, hRw, hF, hok, hco, hln, hmm, hlm⟩ := hrel
      have HKW := Lib.hid hK; have HRW := Lib.hid hRw; have HF := Lib.hid hF; have HOK := Lib.hid hok; have HCO := Lib.hid hco; have HLN := Lib.hid hln
      by_cases hil : i < l2
      · obtain ⟨b, o, z1, z2, A, cc, zs, ha2, gw0, gw1, gw2, hBw, r1, r2⟩ := H2.out i hil
        subst ha2
        have hbw := block_lt_of_cell (a := ⟨b, o + i * 3, none⟩) gw0
        have hcell : ∀ V, Kp w V → V.cell? ⟨b, o + i * 3, none⟩ = some (.int .i64 z1) ∧ V.cell? ⟨b, o + i * 3 + 1, none⟩ = some (.int .i64 z2) ∧ V.cell? ⟨b, o + i * 3 + 2, none⟩ = some (.slice A zs.length cc) ∧ Bytes V A zs := fun V h =>
          ⟨(World.cell?_of_block (a := ⟨b, _, none⟩) (h.old b hbw)).trans gw0, (World.cell?_of_block (a := ⟨b, _, none⟩) (h.old b hbw)).trans gw1, (World.cell?_of_block (a := ⟨b, _, none⟩) (h.old b hbw)).trans gw2, h.bytes hBw⟩
        obtain ⟨g0, g1, g2, hB⟩ := hcell wr hK
        have HCE := Lib.hid hcell
        clear hcell gw0 gw1 gw2 hBw hbw
        have HB := Lib.hid hB
        obtain ⟨k1, hk1, hk1n⟩ : ∃ k1 : Nat, (IntKind.u64.wrap z2).tmod ((N : Int) - 31) = (k1 : Int) ∧ k1 + 31 < N := by
          have h0 : 0 ≤ IntKind.u64.wrap z2 := by unfold IntKind.wrap; simp [IntKind.signed, IntKind.bits]; omega
          have h1 : 0 ≤ (IntKind.u64.wrap z2).tmod ((N : Int) - 31) := Int.tmod_nonneg _ h0
          have h2 : (IntKind.u64.wrap z2).tmod ((N : Int) - 31) < (N : Int) - 31 := Int.tmod_lt_of_pos _ (by omega)
          exact ⟨((IntKind.u64.wrap z2).tmod ((N : Int) - 31)).toNat, by omega, by omega⟩
        obtain ⟨k2, hk2, hk2n⟩ : ∃ k2 : Nat, (IntKind.u64.wrap z1).tmod ((N : Int) - (32 + (k1 : Int)) + 1) = (k2 : Int) ∧ k2 + 32 + k1 ≤ N := by
          have h0 : 0 ≤ IntKind.u64.wrap z1 := by unfold IntKind.wrap; simp [IntKind.signed, IntKind.bits]; omega
          have h1 : 0 ≤ (IntKind.u64.wrap z1).tmod ((N : Int) - (32 + (k1 : Int)) + 1) := Int.tmod_nonneg _ h0
          have h2 : (IntKind.u64.wrap z1).tmod ((N : Int) - (32 + (k1 : Int)) + 1) < (N : Int) - (32 + (k1 : Int)) + 1 := Int.tmod_lt_of_pos _ (by omega)
          exact ⟨((IntKind.u64.wrap z1).tmod ((N : Int) - (32 + (k1 : Int)) + 1)).toNat, by omega, by omega⟩
        have hw31 : IntKind.u64.wrap ((N : Int) - 31) = (N : Int) - 31 := by unfold IntKind.wrap; simp [IntKind.signed, IntKind.bits]; omega
        have hw32 : IntKind.u64.wrap ((N : Int) - (32 + (k1 : Int)) + 1) = (N : Int) - (32 + (k1 : Int)) + 1 := by unfold IntKind.wrap; simp [IntKind.signed, IntKind.bits]; omega
        have hwk1 : IntKind.i64.wrap (k1 : Int) = (k1 : Int) := wrap_i64 k1 (by omega)
        have hwk2 : IntKind.i64.wrap (k2 : Int) = (k2 : Int) := wrap_i64 k2 (by omega)
        have hn1 : (((N : Int) - 31) == 0) = false := by simp; omega
        have hn2 : (((N : Int) - (32 + (k1 : Int)) + 1) == 0) = false := by simp; omega
        have hi0 : (0 : Int) ≤ (i : Int) := by omega
        have hck : ¬ (c0 = k2) := by omega
        have hsl : ((k2 : Int) + (32 + (k1 : Int))).toNat - k2 = 32 + k1 := by omega
        have hsx : (k2 : Int) + (32 + (k1 : Int)) ≤ (c0 : Int) := by omega
        have HX := Lib.hid (And.intro hil (And.intro hmi (And.intro hk2n (And.intro hmm hlm))))
        have hx : Bytes wr (Option.map (fun x => x.add k2) a0) ((old.drop k2).take (32 + k1)) := by
          have := slice_bytes (co := c0) (at_ := k2) (n := 32 + k1) (hK.bytes H0.out) (by have := HN.out; omega) (by have := HN.out; omega)
          rwa [if_neg hck] at this
        have HXB := Lib.hid hx
        have hxl : ((old.drop k2).take (32 + k1)).length = 32 + k1 := by have := HN.out; rw [List.length_take, List.length_drop]; omega
        have HXL := Lib.hid hxl
        clear hK hRw hF hok hco hln hB hx hxl
        by_cases hM : 4096 < zs.length
        · have hM' : (4096 : Int) < (zs.length : Int) := by omega
          go_wp2
          exact ⟨rfl, rfl, rfl, rfl, B, mm, c, ss, l, m, rfl, rfl, rfl, HKW.out, HRW.out, HF.out, HOK.out, HCO.out, HLN.out, HX.out.2.2.2.1, by have := HX.out; omega, HX.out.2.2.2.2⟩
        · have hM' : ¬ ((4096 : Int) < (zs.length : Int)) := by omega
          by_cases hT : 4096 < mm + (32 + k1) + zs.length
          · have hT' : (4096 : Int) < (mm : Int) + (32 + (k1 : Int)) + (zs.length : Int) := by omega
            go_wp2
            exact ⟨rfl, rfl, rfl, rfl, B, mm, c, ss, l, m, rfl, rfl, rfl, HKW.out, HRW.out, HF.out, HOK.out, HCO.out, HLN.out, HX.out.2.2.2.1, by have := HX.out; omega, HX.out.2.2.2.2⟩
          · have hT' : ¬ ((4096 : Int) < (mm : Int) + (32 + (k1 : Int)) + (zs.length : Int)) := by omega
            have HT := Lib.hid hT
            clear hT hM
            have hq : (flat old ss).length + (32 + k1) ≤ 100000000 := by have := HLN.out; have := HN.out; omega
            have HQ := Lib.hid hq
            clear hq
            go_wp2_with (first
              | (at_builtin; refine wpList_append_all rfl (.tmp 101) (.tmp 107) rfl (.slice B mm c) (flat old ss) ((old.drop k2).take (32 + k1)) (Option.map (fun x => x.add k2) a0) (32 + k1) (c0 - k2) rfl HRW.out rfl HXL.out HXB.out HQ.out ?_; intro v3 U3 ha3; obtain ⟨B3, n3, cc3, rfl, hn3, hnc3, hcm3, hB03, hBb3⟩ := ha3.own.slice3; have hk3 : Kp w U3 := HKW.out.app ha3 HF.out; obtain ⟨_, _, g3, hB3⟩ := HCE.out U3 hk3; have HF3 := Lib.hid (app_far HF.out HKW.out ha3); have HQ2' := Lib.hid (show (flat old ss ++ (old.drop k2).take (32 + k1)).length + zs.length ≤ 100000000 by have h2 := HT.out; have h3 := HLN.out; have h4 := HXL.out; have h5 := HN.out; rw [List.length_append]; omega); have HN3' := Lib.hid (show n3 = mm + (32 + k1) by have h2 := HLN.out; have h3 := HXL.out; rw [List.length_append] at hn3; omega); have HA3 := Lib.hid ha3; have HN3 := Lib.hid hn3; have HK3 := Lib.hid hk3; have HB3 := Lib.hid hB3; clear ha3 hn3 hnc3 hcm3 hB03 hBb3 hk3 hB3)
              | (at_builtin; refine wpList_append_all rfl (.tmp 109) (.tmp 114) rfl (.slice B3 n3 cc3) (flat old ss ++ (old.drop k2).take (32 + k1)) zs A zs.length cc rfl HA3.out.own rfl rfl HB3.out HQ2'.out ?_; intro v4 U4 ha4; obtain ⟨B4, n4, cc4, rfl, hn4, hnc4, hcm4, hB04, hBb4⟩ := ha4.own.slice3; have hk4 : Kp w U4 := HK3.out.app ha4 HF3.out; obtain ⟨_, _, g4, hB4⟩ := HCE.out U4 hk4; have HA4 := Lib.hid ha4; have HN4 := Lib.hid hn4; have HK4 := Lib.hid hk4; clear ha4 hn4 hnc4 hcm4 hB04 hBb4 hk4 hB4)
              | fail)
            go_roundw
            case rel =>
              have hx := HX.out
              have ht := HT.out
              have h4 := HN4.out
              have h3 := HN3.out
              have h3' := HN3'.out
              have hnn := HN.out
              rw [List.length_append] at h4
              have hfl : flat old (ss ++ [.pc k2 (32 + k1), .own zs]) = flat old ss ++ (old.drop k2).take (32 + k1) ++ zs := by rw [flat_app]; simp [flat, Sg.bytes, List.append_assoc]
              exact ⟨B4, n4, cc4, ss ++ [.pc k2 (32 + k1), .own zs], l + zs.length, m + 1, i + 1, rfl, by go_num, by go_num, by go_num, by omega, by omega, HK4.out, by rw [hfl]; exact HA4.out.own, app_far HF3.out HK3.out HA4.out, fun s hs => by
                rcases List.mem_append.1 hs with y | y
                · exact HOK.out s y
                · simp at y
                  rcases y with rfl | rfl
                  · exact ⟨by omega, by omega⟩
                  · trivial, by rw [costs_app, HCO.out]; simp [costs, Sg.cost]; omega, by rw [hfl, List.length_append]; exact h4, by omega, by omega⟩
            case measure => have hx := HX.out; simp [intOf]; omega
      · have HX := Lib.hid (And.intro hmm (And.intro (And.intro hi hmi) hlm))
        clear hK hRw hF hok hco hln
        go_wp2
        exact ⟨rfl, rfl, rfl, rfl, B, mm, c, ss, l, m, rfl, rfl, rfl, HKW.out, HRW.out, HF.out, HOK.out, HCO.out, HLN.out, HX.out.1, by have := HX.out; omega, HX.out.2.2⟩
  clear f0 f1 f2 f9 f10 f11
  obtain ⟨k1, k2, f0, f2, B9, m9, c9, ss, l, m_, f9, f10, f11, hk6, hr6, hfar6, hok, hco, hln, hm9, hml, hlm9⟩ := h
  obtain ⟨F, rfl, hF⟩ := act_fa k1 k2
  rw [hF _ (by decide)] at f0 f2 f9 f10 f11
  clear k1 k2 hF
  clear hr5 hk5
  subst hln
  have hcb9 : ∀ a, B9 = some a → a.block < w'.heap.size := fun a e => by
    obtain ⟨B', n', c', e', _, _, _, _, hb⟩ := hr6.slice3
    cases e'
    exact hr6.lt (hb a e)
  have hlen : (patchG (lgOf old) old (flat old ss)).length ≤ 15 + costs ss := moved_len old ss hok
  obtain ⟨va, hva⟩ : ∃ va : Value, va = .slice a0 old.length c0 := ⟨_, rfl⟩
  obtain ⟨vb, hvb⟩ : ∃ vb : Value, vb = .slice B9 (flat old ss).length c9 := ⟨_, rfl⟩
  rw [← hva] at f0
  rw [← hvb] at f9
  refine hJ.seq (hJ.region ?_)
  refine hJ.opf lst rfl rfl (by kernel_rfl) rfl (w' := w') (v := va) (fun tp => ex_move rfl ((fa_eval (by decide)).trans f0)) ?_
  refine hJ.opf lst rfl rfl (by kernel_rfl) rfl (w' := w') (v := vb) (fun tp => ex_move rfl ((fa_eval (by decide)).trans f9)) ?_
  refine hJ.callop rfl (wanted_plain rfl _) rfl (by kernel_rfl) (by kernel_rfl) ?_
  rw [m2 (v := va) (u := vb) ((fa_eval (by decide)).trans rfl) ((fa_eval (by decide)).trans rfl)]
  subst hva hvb
  refine gend_ends (hk6.bytes h0) (hr6.bytes rfl) q0 hm9 (atOp_at _) (fun a e => by have := b0 a e; have := hk6.size; omega) hcb9 fun p2 w9 hp2 _ _ => ?_
  rw [finish_fa rfl rfl]
  refine hJ.opf lst rfl rfl (by kernel_rfl) rfl (w' := w9) (v := .tuple #[p2, .bool true]) (fun tp => ex_move rfl ((fa_eval (by decide)).trans rfl)) ?_
  refine hJ.opf lst rfl rfl (by kernel_rfl) rfl (w' := w9) (v := p2) (fun tp => ex_extract rfl ((fa_eval (by decide)).trans rfl) rfl) ?_
  refine hJ.opf lst rfl rfl (by kernel_rfl) rfl (w' := w9) (v := .bool true) (fun tp => ex_extract rfl ((fa_eval (by decide)).trans rfl) rfl) ?_
  refine hJ.opf lst rfl rfl (by kernel_rfl) rfl (w' := w9) (v := p2) (fun tp => ex_assign rfl ((fa_eval (by decide)).trans rfl)) ?_
  refine hJ.opf lst rfl rfl (by kernel_rfl) rfl (w' := w9) (v := .bool true) (fun tp => ex_assign rfl ((fa_eval (by decide)).trans rfl)) ?_
  refine hJ.region_end ?_
  refine fa_gen (Jf := fun a => CEnds _ _ _ _ _ _ [(bas 7 .normal).at a _] _) fun K hK => ?_
  have k0 : K 0 = .slice a0 old.length c0 := (hK 0).trans f0
  have k10 : K 10 = .int .i64 (l : Nat) := (hK 10).trans f10
  have k11 : K 11 = .int .i64 (m_ : Nat) := (hK 11).trans f11
  have k15 : K 15 = p2 := (hK 15).trans rfl
  have k16 : K 16 = .bool true := (hK 16).trans rfl
  clear hK f0 f9 f10 f11
  refine hJ.code lst (by kernel_rfl) rfl rfl (by kernel_rfl) (N := fun _ _ => False) (R := fun a' w' => a'.defers = [] ∧ a'.eval (.tmp 6) = .bool true) (fun tp2 => ?_) (fun _ _ h => h.elim) (fun a' w' td h => law_done Tryz.func7 rfl (by kernel_rfl) h.1 h.2 hpost)
  rw [fa_lit144, k10, k11, k15, k16]
  dsimp only
  obtain ⟨B2, m2, cc2, rfl, hl2, _, _, _, _⟩ := hp2.own.slice3
  have hle : (m2 : Int) ≤ 64 + 16 * (m_ : Int) + 2 * (l : Int) := by omega
  have hmb : m_ ≤ 65536 := by omega
  have hlb : l ≤ 4096 := by omega
  clear hp2 hl2 hlen hcb9 hr6 hk6 hJ hpost h0 h1 h2 b0 b1 o1 z1 k0 k10 k11 k15 k16 hok hco hfar6 hm9 hlm9 hml
  generalize Go.Fw.tpd w9 tp2 = U
  go_wp2
  exact ⟨rfl, rfl⟩
end Go.Proofs.YtkmgcggoemlaaaaGreatDoor
end

section
/- The law Moved of package firmwarelaw returns true for every input: an image of pieces of the old one, in any order, with bytes between, has a short patch. No condition: any old image, any pieces, any bytes. -/
set_option linter.unusedSimpArgs false
set_option linter.unusedVariables false
set_option linter.constructorNameAsVariable false
set_option maxRecDepth 100000
namespace Go.Proofs.YtkmgcggoemlaaaaGreatDoor
open Go Go.Fw Go.Conc Go.RowKit Go.Fwm Go.ChangeShapes Go.WideShapes Go.ChangeAt

theorem moved_lifted (os : Os) (started : os.Started) (H : Type) (enc : TypeId × Value → H) :
    ReturnsInLeavingWide {} Tryz.checked os 7 .any (fun w args => (Rows.movedSpec.pre enc Tryz.prog Tryz.f7 [] false w args ∧ laidMetH Tryz.prog laidL w) ∧ sizedMet enc Tryz.prog Tryz.f7 (OpenSpec.ofChange Rows.movedSpec) false w args)
      (Rows.movedSpec.post enc Tryz.prog Tryz.f7 false true false false) := by
  refine rl_and (C := Tryz.checked) (X := fun w _ => laidMetH Tryz.prog laidL w) (fun _ _ _ hh h => h.of_heap hh) own started Tryz.func7
    (ChangeSpec.witness_at (enc := enc) (C := Tryz.checked) (os := os) (X := fun w _ => laidMetH Tryz.prog laidL w) false (laidWorld os) #[.slice none 0 0, .slice none 0 0, .slice none 0 0] 8 rfl (by kernel_rfl) (by kernel_rfl) (by kernel_rfl) (by kernel_rfl) (by kernel_rfl) (laidWorld_met os _)) ?_
  intro W base args ds gs before hval0 hW hL hsh
  have hval : ∀ (j : Nat) t v, Tryz.f7.params[j]? = some t → args[j]? = some v → Value.okWide Tryz.prog W .any base t v := hval0
  have hW' := hW
  obtain ⟨p, q, hA0, hV, rfl, hfz, hnd⟩ := hW
  have hA : DataW.TrodAll enc Tryz.prog W 0 (fun _ => true) true Tryz.f7.params.toList args.toList ds p := hA0
  rw [Tryz.params7] at hA hval
  obtain ⟨v0, vs0, d0, ds0, p0, q0, hargs, rfl, rfl, h0, r0⟩ := trodAll_cons hA
  obtain ⟨v1, vs1, d1, ds1, p1, q1, rfl, rfl, rfl, h1, r1⟩ := trodAll_cons r0
  obtain ⟨v2, vs2, d2, ds2, p2, q2, rfl, rfl, rfl, h2, r2⟩ := trodAll_cons r1
  obtain ⟨rfl, rfl, rfl⟩ := trodAll_nil r2
  obtain rfl : args = #[v0, v1, v2] := by cases args; simp_all
  obtain ⟨rfl, rfl⟩ := trodVars_none hV
  obtain ⟨a0, l0, c0, b0, rfl, s0⟩ := arg22 (hval 0 22 v0 rfl rfl) h0
  obtain ⟨a1, l1, c1, b1, rfl, s1⟩ := arg22 (hval 1 22 v1 rfl rfl) h1
  obtain ⟨a2, l2, c2, rfl, s2⟩ := arg50 (hval 2 50 v2 rfl rfl) h2
  have hlt : ∀ {t : TypeId} {v : Value} {d : DataW H} {ps : List MemPlace}, DataW.Trod enc Tryz.prog W 0 (fun _ => true) true t v d ps → ∀ x ∈ ps, x.block < W.heap.size := fun h => by obtain ⟨m, hm⟩ := h; exact DataW.trod_lt m _ _ _ hm
  have hbl : ∀ x, (∃ c t fr, W.heap[x]? = some (Obj.cells c t fr)) → x < W.heap.size := fun x ⟨c, t, fr, e⟩ => (Array.getElem?_eq_some_iff.1 e).1
  clear hA0 hval0
  refine start_row2 (handle_of_laid hL) (shaped2 hsh) (by kernel_rfl) (fun i x hx => ?_) fun w hs hg hb hi hc => ?_
  · rcases i with _ | _ | _ | i
    · simp at hx; subst hx; exact .inr ⟨_, _, _, rfl, s0.cells⟩
    · simp at hx; subst hx; exact .inr ⟨_, _, _, rfl, s1.cells⟩
    · simp at hx; subst hx; exact .inr ⟨_, _, _, rfl, s2.cells⟩
    · simp at hx
  · refine moved_priv (W := W) (fun W' bel => ?_) hg (hb _ _ s0.bytes) s0.len_ s0.le s0.cap_le (hb _ _ s1.bytes) s1.len_ (s2.prv hb (by have := hg.lt; omega) fun A v hx hcell hok => hc 2 _ A v rfl (by obtain ⟨x, e1, e2⟩ := hx; rw [e1]; exact congrArg some e2) hcell hok) (fun a e => by rw [hs]; exact hbl _ (s0.cells a e)) (fun a e => by rw [hs]; exact hbl _ (s1.cells a e))
    exact ⟨_, _, _, [], _, [], hW', trodAll_mk1 (shut_bool Tryz.underlying4 _), (trodAll_cons_mk (Below.trod laidOut (by kernel_rfl) (of_decide_eq_true (by kernel_rfl)) h0 bel (hlt h0)) (trodAll_cons_mk (Below.trod laidOut (by kernel_rfl) (of_decide_eq_true (by kernel_rfl)) h1 bel (hlt h1)) (trodAll_cons_mk (Below.trod laidOut (by kernel_rfl) (of_decide_eq_true (by kernel_rfl)) h2 bel (hlt h2)) trodAll_mk0))), rfl, bel.frame _, fun h => by cases h⟩

theorem moved_row : Rows.MovedSaid :=
  OpenClaim.holds_of_wide_leaving 7 Tryz.f7 rfl rfl rfl rfl rfl rfl rfl ⟨rfl, rfl, rfl, rfl, rfl⟩ rfl rfl rfl rfl rfl (by kernel_rfl) Tryz.func7 (by kernel_rfl)
    (of_decide_eq_true (by kernel_rfl)) (by unfold Func.isWrapper; first | (rw [if_pos (by decide +kernel)]; kernel_rfl) | (rw [if_neg (by decide +kernel)]; exact ⟨rfl, rfl⟩))
    (fun os started H enc _ => moved_lifted os started H enc)
theorem moved_card : Rows.MovedCardSaid :=
  card_goes .later [.handle] true (true, "a92912a9f4f08fbf195758ad90ff77dd450bbb634acd63370d8d1a8325452fc3") true true
    moved_row (by kernel_rfl) moved_row_tie rfl ⟨rfl, rfl⟩ (by kernel_rfl) rfl
    (fun f fn hf hfn => by
      obtain rfl : f = 7 := Option.some.inj ((show Tryz.prog.funcNamed Rows.movedRow.func = some 7 by kernel_rfl).symm.trans hf) |>.symm
      obtain rfl : fn = Tryz.f7 := (Option.some.inj (Tryz.func7.symm.trans hfn)).symm
      exact ⟨by kernel_rfl, fun j t ht => by
        have h3 : t ∈ [22, 50] := by
          rw [Tryz.params7] at ht
          rcases j with _ | _ | _ | j <;> simp at ht <;> subst ht <;> decide
        have h4 : [22, 50].all (fun t => Tryz.prog.wantsStandIn t == false) = true := by kernel_rfl
        exact beq_iff_eq.1 (List.all_eq_true.1 h4 t h3)⟩)
    (by kernel_rfl)
#print axioms moved_card
end Go.Proofs.YtkmgcggoemlaaaaGreatDoor
end
