/-
  Part 20 of the common ground of this seat: what single parts show stands ahead of each.
  No condition.
-/
import Derived.Test.YtkmgcggoemlaaaaGreatDoorJ12
import Derived.Test.YtkmgcggoemlaaaaGreatDoorJ15
import Derived.Test.YtkmgcggoemlaaaaGreatDoorJ14
import Derived.Test.YtkmgcggoemlaaaaGreatDoorJ11
import Derived.Test.YtkmgcggoemlaaaaGreatDoorJ13
import Derived.BigQuiet
import Derived.Lib.Bytealg
import Derived.Laws.Externs
import Derived.Shelf.SlSortCmp.NoneTotal
import Derived.Shelf.SlCmpFuncs.BinarySearchFunc
import Derived.Shelf.SlCmpFuncs.None
import Derived.Test.YtkmgcggoemlaaaaGreatDoorProg

section
/- The model: the order of what stands at a place, symbol by symbol; ranks. No condition. -/
namespace Go.Fwm

/-- What stands at a place: 0 behind the end. -/
def sy (l : List UInt8) (i : Nat) : Nat := match l[i]? with | some x => x.toNat + 1 | none => 0
theorem sy_out {l : List UInt8} {i : Nat} (h : l.length ≤ i) : sy l i = 0 := by unfold sy; rw [List.getElem?_eq_none h]
theorem sy_in {l : List UInt8} {i : Nat} (h : i < l.length) : sy l i = l[i].toNat + 1 := by unfold sy; rw [List.getElem?_eq_getElem h]
theorem sy_pos {l : List UInt8} {i : Nat} (h : i < l.length) : 0 < sy l i := by rw [sy_in h]; omega

def eqK (s : Nat → Nat) (K p q : Nat) : Prop := ∀ i, i < K → s (p + i) = s (q + i)
def ltK (s : Nat → Nat) (K p q : Nat) : Prop := ∃ j, j < K ∧ (∀ i, i < j → s (p + i) = s (q + i)) ∧ s (p + j) < s (q + j)
section
variable {s : Nat → Nat} {K L p q r n : Nat}
theorem eqK.symm (h : eqK s K p q) : eqK s K q p := fun i hi => (h i hi).symm
theorem eqK.trans (h : eqK s K p q) (k : eqK s K q r) : eqK s K p r := fun i hi => (h i hi).trans (k i hi)
theorem eqK.not_lt (h : eqK s K p q) : ¬ ltK s K p q := by rintro ⟨j, hj, _, hl⟩; have := h j hj; omega
theorem ltK.mono (h : ltK s K p q) (hk : K ≤ L) : ltK s L p q := by obtain ⟨j, hj, h1, h2⟩ := h; exact ⟨j, by omega, h1, h2⟩
theorem tri (s : Nat → Nat) (K p q : Nat) : ltK s K p q ∨ eqK s K p q ∨ ltK s K q p := by
  induction K with
  | zero => exact .inr (.inl fun i hi => by omega)
  | succ K ih =>
    rcases ih with h | h | h
    · exact .inl (h.mono (by omega))
    · rcases Nat.lt_trichotomy (s (p + K)) (s (q + K)) with x | x | x
      · exact .inl ⟨K, by omega, h, x⟩
      · exact .inr (.inl fun i hi => by rcases Nat.lt_or_eq_of_le (Nat.lt_succ_iff.1 hi) with y | y; exact h i y; rw [y]; exact x)
      · exact .inr (.inr ⟨K, by omega, fun i hi => (h i hi).symm, x⟩)
    · exact .inr (.inr (h.mono (by omega)))
theorem ltK.trans (h : ltK s K p q) (k : ltK s K q r) : ltK s K p r := by
  obtain ⟨i, hi, h1, h2⟩ := h
  obtain ⟨j, hj, k1, k2⟩ := k
  rcases Nat.lt_trichotomy i j with x | x | x
  · exact ⟨i, hi, fun t ht => (h1 t ht).trans (k1 t (by omega)), by rw [← k1 i x]; exact h2⟩
  · subst x; exact ⟨i, hi, fun t ht => (h1 t ht).trans (k1 t ht), by omega⟩
  · exact ⟨j, hj, fun t ht => (h1 t (by omega)).trans (k1 t ht), by rw [h1 j x]; exact k2⟩
theorem ltK.irrefl : ¬ ltK s K p p := by rintro ⟨j, _, _, h⟩; omega
theorem ltK.asymm (h : ltK s K p q) : ¬ ltK s K q p := fun k => (h.trans k).irrefl
theorem ltK.eq (h : ltK s K p q) (k : eqK s K q r) : ltK s K p r := by
  obtain ⟨j, hj, h1, h2⟩ := h
  exact ⟨j, hj, fun i hi => (h1 i hi).trans (k i (by omega)), by rw [← k j hj]; exact h2⟩
theorem eqK.lt (h : eqK s K p q) (k : ltK s K q r) : ltK s K p r := by
  obtain ⟨j, hj, h1, h2⟩ := k
  exact ⟨j, hj, fun i hi => (h i (by omega)).trans (h1 i hi), by rw [h j hj]; exact h2⟩
theorem ltK.ntrans (h : ¬ ltK s K p q) (k : ¬ ltK s K q r) : ¬ ltK s K p r := by
  intro x
  rcases tri s K p q with a | a | a
  · exact h a
  · exact k (a.symm.lt x)
  · exact k (a.trans x)
theorem eqK_add : eqK s (K + L) p q ↔ eqK s K p q ∧ eqK s L (p + K) (q + K) := by
  constructor
  · intro h
    exact ⟨fun i hi => h i (by omega), fun i hi => by have := h (K + i) (by omega); rwa [← Nat.add_assoc, ← Nat.add_assoc] at this⟩
  · rintro ⟨h1, h2⟩ i hi
    by_cases x : i < K
    · exact h1 i x
    · have := h2 (i - K) (by omega)
      rwa [show p + K + (i - K) = p + i by omega, show q + K + (i - K) = q + i by omega] at this
theorem ltK_add : ltK s (K + L) p q ↔ ltK s K p q ∨ (eqK s K p q ∧ ltK s L (p + K) (q + K)) := by
  constructor
  · rintro ⟨j, hj, h1, h2⟩
    by_cases x : j < K
    · exact .inl ⟨j, x, h1, h2⟩
    · refine .inr ⟨fun i hi => h1 i (by omega), j - K, by omega, fun i hi => ?_, ?_⟩
      · have := h1 (K + i) (by omega)
        rwa [← Nat.add_assoc, ← Nat.add_assoc] at this
      · rwa [show p + K + (j - K) = p + j by omega, show q + K + (j - K) = q + j by omega]
  · rintro (h | ⟨h1, j, hj, h2, h3⟩)
    · exact h.mono (by omega)
    · refine ⟨K + j, by omega, fun i hi => ?_, by rwa [← Nat.add_assoc, ← Nat.add_assoc]⟩
      by_cases x : i < K
      · exact h1 i x
      · have := h2 (i - K) (by omega)
        rwa [show p + K + (i - K) = p + i by omega, show q + K + (i - K) = q + i by omega] at this
end

/-! ### ranks -/
def RankOk (s : Nat → Nat) (n : Nat) (rank : Nat → Nat) (K : Nat) : Prop := ∀ p q, p < n → q < n → (rank p < rank q ↔ ltK s K p q)
theorem RankOk.eq {s : Nat → Nat} {n K : Nat} {rank : Nat → Nat} (h : RankOk s n rank K) {p q : Nat} (hp : p < n) (hq : q < n) : rank p = rank q ↔ eqK s K p q := by
  have h1 := h p q hp hq
  have h2 := h q p hq hp
  constructor
  · intro e
    rcases tri s K p q with x | x | x
    · have := h1.2 x; omega
    · exact x
    · have := h2.2 x; omega
  · intro e
    rcases Nat.lt_trichotomy (rank p) (rank q) with x | x | x
    · exact absurd (h1.1 x) e.not_lt
    · exact x
    · exact absurd (h2.1 x) e.symm.not_lt
def atv (rank : Nat → Nat) (n i : Nat) : Int := if i < n then (rank i : Int) + 1 else 0
def cfv (rank : Nat → Nat) (n half a b : Nat) : Int := if (rank a : Int) - (rank b : Int) ≠ 0 then (rank a : Int) - (rank b : Int) else atv rank n (a + half) - atv rank n (b + half)
/-- Symbols: above 0 within, 0 behind the end. -/
structure Ends_ (s : Nat → Nat) (n : Nat) : Prop where
  zero : ∀ i, n ≤ i → s i = 0
  pos : ∀ i, i < n → 0 < s i
theorem sy_ends (l : List UInt8) : Ends_ (sy l) l.length := ⟨fun _ h => sy_out h, fun _ h => sy_pos h⟩
section
variable {s : Nat → Nat} {n K : Nat} {rank : Nat → Nat}
theorem at_lt (hs : Ends_ s n) (hK : 0 < K) (h : RankOk s n rank K) (i j : Nat) : atv rank n i < atv rank n j ↔ ltK s K i j := by
  unfold atv
  by_cases hi : i < n <;> by_cases hj : j < n
  · rw [if_pos hi, if_pos hj, ← h i j hi hj]; omega
  · rw [if_pos hi, if_neg hj]
    constructor
    · intro x; omega
    · rintro ⟨t, _, _, x⟩; rw [hs.zero (j + t) (by omega)] at x; omega
  · rw [if_neg hi, if_pos hj]
    constructor
    · intro _; exact ⟨0, hK, fun i hi => by omega, by rw [hs.zero (i + 0) (by omega)]; exact hs.pos _ (by omega)⟩
    · intro _; omega
  · rw [if_neg hi, if_neg hj]
    constructor
    · intro x; omega
    · rintro ⟨t, _, _, x⟩; rw [hs.zero (j + t) (by omega)] at x; omega
theorem at_eq (hs : Ends_ s n) (hK : 0 < K) (h : RankOk s n rank K) (i j : Nat) : atv rank n i = atv rank n j ↔ eqK s K i j := by
  have h1 := at_lt hs hK h i j
  have h2 := at_lt hs hK h j i
  constructor
  · intro e
    rcases tri s K i j with x | x | x
    · have := h1.2 x; omega
    · exact x
    · have := h2.2 x; omega
  · intro e
    rcases Int.lt_trichotomy (atv rank n i) (atv rank n j) with x | x | x
    · exact absurd (h1.1 x) e.not_lt
    · exact x
    · exact absurd (h2.1 x) e.symm.not_lt
/-- What the comparison tells. -/
structure Tells (s : Nat → Nat) (n L : Nat) (cf : Nat → Nat → Int) : Prop where
  lt : ∀ a b, a < n → b < n → (cf a b < 0 ↔ ltK s L a b)
  eq : ∀ a b, a < n → b < n → (cf a b = 0 ↔ eqK s L a b)
theorem tells_two (hs : Ends_ s n) (hK : 0 < K) (h : RankOk s n rank K) : Tells s n (K + K) (cfv rank n K) where
  lt a b ha hb := by
    have h1 := h a b ha hb
    have h2 := h.eq ha hb
    have h3 := at_lt hs hK h (a + K) (b + K)
    rw [ltK_add, ← h1, ← h2, ← h3]
    unfold cfv
    split <;> omega
  eq a b ha hb := by
    have h2 := h.eq ha hb
    have h3 := at_eq hs hK h (a + K) (b + K)
    rw [eqK_add, ← h2, ← h3]
    unfold cfv
    split <;> omega
theorem tells_one (h : RankOk s n rank K) : Tells s n K (cfv rank n n) where
  lt a b ha hb := by
    rw [← h a b ha hb]
    unfold cfv atv
    rw [if_neg (by omega : ¬ a + n < n), if_neg (by omega : ¬ b + n < n)]
    split <;> omega
  eq a b ha hb := by
    rw [← h.eq ha hb]
    unfold cfv atv
    rw [if_neg (by omega : ¬ a + n < n), if_neg (by omega : ¬ b + n < n)]
    split <;> omega
/-- The places, sorted. -/
structure Srt (s : Nat → Nat) (n L : Nat) (ps : Nat → Nat) : Prop where
  lt : ∀ i, i < n → ps i < n
  onto : ∀ p, p < n → ∃ i, i < n ∧ ps i = p
  inj : ∀ i j, i < n → j < n → ps i = ps j → i = j
  srt : ∀ i j, i < j → j < n → ¬ ltK s L (ps j) (ps i)
theorem ranks_new {L : Nat} {ps nx : Nat → Nat} (h : Srt s n L ps) (h0 : 0 < n → nx (ps 0) = 0) (hn : ∀ j, j + 1 < n → (ltK s L (ps j) (ps (j + 1)) → nx (ps (j + 1)) = nx (ps j) + 1) ∧ (¬ ltK s L (ps j) (ps (j + 1)) → nx (ps (j + 1)) = nx (ps j))) :
    RankOk s n nx L ∧ ∀ p, p < n → nx p < n := by
  have A : ∀ j, j < n → nx (ps j) ≤ j ∧ ∀ i, i < j → nx (ps i) ≤ nx (ps j) ∧ (nx (ps i) < nx (ps j) ↔ ltK s L (ps i) (ps j)) := by
    intro j
    induction j with
    | zero => intro hj; exact ⟨by rw [h0 hj]; exact Nat.le_refl _, fun i hi => by omega⟩
    | succ j ih =>
      intro hj
      obtain ⟨i1, i2⟩ := ih (by omega)
      obtain ⟨n1, n2⟩ := hn j hj
      have hle : nx (ps j) ≤ nx (ps (j + 1)) ∧ nx (ps (j + 1)) ≤ nx (ps j) + 1 := by
        by_cases x : ltK s L (ps j) (ps (j + 1))
        · have := n1 x; omega
        · have := n2 x; omega
      refine ⟨by omega, fun i hi => ?_⟩
      by_cases e : i = j
      · subst e
        refine ⟨hle.1, ?_⟩
        by_cases x : ltK s L (ps i) (ps (i + 1))
        · have := n1 x; exact ⟨fun _ => x, fun _ => by omega⟩
        · have := n2 x; exact ⟨fun _ => by omega, fun y => absurd y x⟩
      · obtain ⟨g1, g2⟩ := i2 i (by omega)
        refine ⟨by omega, ?_⟩
        have hs1 := h.srt i j (by omega) (by omega)
        have hs2 := h.srt j (j + 1) (by omega) hj
        constructor
        · intro x
          rcases Nat.lt_or_eq_of_le g1 with y | y
          · have z := g2.1 y
            rcases tri s L (ps j) (ps (j + 1)) with t | t | t
            · exact z.trans t
            · exact z.eq t
            · exact absurd t hs2
          · have z : ¬ ltK s L (ps i) (ps j) := fun t => by have := g2.2 t; omega
            have w : ltK s L (ps j) (ps (j + 1)) := Classical.byContradiction fun t => by have := n2 t; omega
            rcases tri s L (ps i) (ps j) with t | t | t
            · exact absurd t z
            · exact t.lt w
            · exact absurd t hs1
        · intro x
          apply Classical.byContradiction
          intro y
          have z : ¬ ltK s L (ps i) (ps j) := fun t => by have := g2.2 t; omega
          have w : ¬ ltK s L (ps j) (ps (j + 1)) := fun t => by have := n1 t; omega
          exact ltK.ntrans z w x
  refine ⟨fun p q hp hq => ?_, fun p hp => ?_⟩
  · obtain ⟨i, hi, rfl⟩ := h.onto p hp
    obtain ⟨j, hj, rfl⟩ := h.onto q hq
    rcases Nat.lt_trichotomy i j with x | x | x
    · exact ((A j hj).2 i x).2
    · subst x; exact ⟨fun y => by omega, fun y => absurd y ltK.irrefl⟩
    · have := ((A i hi).2 j x).1
      exact ⟨fun y => by omega, fun y => absurd y (h.srt j i x hi)⟩
  · obtain ⟨i, hi, rfl⟩ := h.onto p hp
    have := (A i hi).1
    omega
theorem eqK_end (hs : Ends_ s n) {L p q : Nat} (hL : n ≤ L) (hp : p < n) (hq : q < n) (h : eqK s L p q) : p = q := by
  rcases Nat.lt_trichotomy p q with x | x | x
  · have := h (n - q) (by omega)
    rw [hs.zero (q + (n - q)) (by omega)] at this
    have := hs.pos (p + (n - q)) (by omega)
    omega
  · exact x
  · have := h (n - p) (by omega)
    rw [hs.zero (p + (n - p)) (by omega)] at this
    have := hs.pos (q + (n - p)) (by omega)
    omega
/-- At the end: strictly. -/
theorem Srt.strict (hs : Ends_ s n) {L : Nat} {ps : Nat → Nat} (h : Srt s n L ps) (hL : n ≤ L) {i j : Nat} (hij : i < j) (hj : j < n) : ltK s L (ps i) (ps j) := by
  rcases tri s L (ps i) (ps j) with x | x | x
  · exact x
  · have := eqK_end hs hL (h.lt i (by omega)) (h.lt j hj) x
    have := h.inj i j (by omega) hj this
    omega
  · exact absurd x (h.srt i j hij hj)
/-- The first ranks: what stands there. -/
theorem ranks_first (l : List UInt8) : RankOk (sy l) l.length (fun i => (l.getD i 0).toNat) 1 := by
  intro p q hp hq
  have e : ∀ i, i < l.length → sy l i = (l.getD i 0).toNat + 1 := fun i hi => by rw [sy_in hi, List.getD_eq_getElem?_getD, List.getElem?_eq_getElem hi]; rfl
  have h1 := e p hp
  have h2 := e q hq
  show (l.getD p 0).toNat < (l.getD q 0).toNat ↔ _
  constructor
  · intro h; exact ⟨0, by omega, fun i hi => by omega, by simp only [Nat.add_zero]; omega⟩
  · rintro ⟨j, hj, _, h⟩
    obtain rfl : j = 0 := by omega
    simp only [Nat.add_zero] at h
    omega
end
end Go.Fwm
end

section
/- The model: the runs that are found, the steps of them; the steps beside; how long they are. No condition. -/
namespace Go.Fwm

/-- What 'longest' tells is so. -/
def LgOk (old : List UInt8) (lg : List UInt8 → Nat × Nat) : Prop := ∀ b, (lg b).1 + (lg b).2 ≤ old.length ∧ (lg b).2 ≤ b.length ∧ (old.drop (lg b).1).take (lg b).2 = b.take (lg b).2
/-- A run: from where (-1: its own), and which part of the new image it is. -/
structure Rn where
  fr : Int
  i : Nat
  j : Nat
def sndR (own e : Nat) : List Rn := if own < e then [⟨-1, own, e⟩] else []
def fnd (lg : List UInt8 → Nat × Nat) (next : List UInt8) : Nat → Nat → Nat → List Rn
  | 0, _, _ => []
  | k + 1, i, own =>
    if i < next.length then
      if (lg (next.drop i)).2 < 8 then fnd lg next k (i + 1) own
      else sndR own i ++ ⟨((lg (next.drop i)).1 : Int), i, i + (lg (next.drop i)).2⟩ :: fnd lg next k (i + (lg (next.drop i)).2) (i + (lg (next.drop i)).2)
    else sndR own next.length
def Rn.stp (next : List UInt8) (r : Rn) : Stp := if r.fr < 0 then .own ((next.drop r.i).take (r.j - r.i)) else .copy (r.j - r.i) r.fr.toNat
theorem take_step (l : List UInt8) (a b : Nat) (h : a ≤ b) : l.take a ++ (l.drop a).take (b - a) = l.take b := by
  rw [show b = a + (b - a) by omega, List.take_add, show a + (b - a) - a = b - a by omega]
theorem sndR_leads {old next : List UInt8} {own e : Nat} (h : own ≤ e) (he : e ≤ next.length) {l : List Stp} (hl : Leads old next (next.take e) l) : Leads old next (next.take own) ((sndR own e).map (Rn.stp next) ++ l) := by
  unfold sndR
  split
  · rename_i hlt
    have e1 : Rn.stp next ⟨-1, own, e⟩ = .own ((next.drop own).take (e - own)) := by unfold Rn.stp; rw [if_pos (by show (-1 : Int) < 0; omega)]
    rw [List.map_cons, List.map_nil, e1]
    refine .cons ?_ ?_
    · show 0 < ((next.drop own).take (e - own)).length
      simp only [List.length_take, List.length_drop]; omega
    · show Leads old next (next.take own ++ (next.drop own).take (e - own)) l
      rw [take_step next own e h]; exact hl
  · obtain rfl : own = e := by omega
    exact hl
theorem fnd_leads {old next : List UInt8} {lg : List UInt8 → Nat × Nat} (hg : LgOk old lg) : ∀ (k i own : Nat), own ≤ i → i ≤ next.length → next.length - i < k → Leads old next (next.take own) ((fnd lg next k i own).map (Rn.stp next)) := by
  intro k
  induction k with
  | zero => intro i own _ _ h; omega
  | succ k ih =>
    intro i own h1 h2 h3
    unfold fnd
    split
    · rename_i hi
      split
      · exact ih (i + 1) own (by omega) (by omega) (by omega)
      · rename_i hn
        obtain ⟨g1, g2, g3⟩ := hg (next.drop i)
        simp only [List.length_drop] at g2
        generalize lg (next.drop i) = r at hn g1 g2 g3
        obtain ⟨f, n⟩ := r
        simp only at hn g1 g2 g3 ⊢
        rw [List.map_append, List.map_cons]
        refine sndR_leads h1 (by omega) ?_
        have e1 : Rn.stp next ⟨(f : Int), i, i + n⟩ = .copy n f := by
          unfold Rn.stp
          rw [if_neg (by show ¬ (f : Int) < 0; omega)]
          show Stp.copy (i + n - i) (f : Int).toNat = _
          rw [show i + n - i = n by omega, Int.toNat_natCast]
        rw [e1]
        refine .cons (show 0 < n ∧ f + n ≤ old.length from ⟨by omega, g1⟩) ?_
        show Leads old next (next.take i ++ (old.drop f).take n) _
        have e2 : next.take i ++ (old.drop f).take n = next.take (i + n) := by rw [g3, List.take_add]
        rw [e2]
        exact ih (i + n) (i + n) (Nat.le_refl _) (by omega) (by omega)
    · obtain rfl : i = next.length := by omega
      have := sndR_leads (old := old) h1 (Nat.le_refl _) (l := []) (by rw [List.take_length]; exact .nil)
      simpa using this
theorem num_len (n : Nat) : (num n).length ≤ 2 ∧ 1 ≤ (num n).length := by unfold num; split <;> simp
theorem sndR_len (next : List UInt8) (own e : Nat) : (encs ((sndR own e).map (Rn.stp next))).length ≤ (e - own) + 3 := by
  unfold sndR
  split
  · have e1 : Rn.stp next ⟨-1, own, e⟩ = .own ((next.drop own).take (e - own)) := by unfold Rn.stp; rw [if_pos (by show (-1 : Int) < 0; omega)]
    rw [List.map_cons, List.map_nil, e1]
    have := num_len ((next.drop own).take (e - own)).length
    simp only [encs, Stp.enc, List.length_append, List.length_cons, List.length_nil, List.length_take, List.length_drop] at this ⊢
    omega
  · simp [encs]
theorem fnd_len {old next : List UInt8} {lg : List UInt8 → Nat × Nat} (hg : LgOk old lg) : ∀ (k i own : Nat), own ≤ i → i ≤ next.length → (encs ((fnd lg next k i own).map (Rn.stp next))).length ≤ (next.length - own) + 3 := by
  intro k
  induction k with
  | zero => intro i own _ _; simp [fnd, encs]
  | succ k ih =>
    intro i own h1 h2
    unfold fnd
    split
    · rename_i hi
      split
      · exact ih (i + 1) own (by omega) (by omega)
      · rename_i hn
        obtain ⟨g1, g2, g3⟩ := hg (next.drop i)
        simp only [List.length_drop] at g2
        generalize lg (next.drop i) = r at hn g1 g2 g3
        obtain ⟨f, n⟩ := r
        simp only at hn g1 g2 g3 ⊢
        have e1 : Rn.stp next ⟨(f : Int), i, i + n⟩ = .copy n f := by
          unfold Rn.stp
          rw [if_neg (by show ¬ (f : Int) < 0; omega)]
          show Stp.copy (i + n - i) (f : Int).toNat = _
          rw [show i + n - i = n by omega, Int.toNat_natCast]
        rw [List.map_append, List.map_cons, encs_app, e1]
        have a1 := sndR_len next own i
        have a2 := ih (i + n) (i + n) (Nat.le_refl _) (by omega)
        have a3 := num_len n
        have a4 := num_len f
        simp only [encs, Stp.enc, List.length_append, List.length_cons] at a1 a2 ⊢
        omega
    · have := sndR_len next own next.length; omega

/-! ### beside -/
def bsd (old next : List UInt8) : Nat → Nat → Nat → List Stp
  | 0, _, _ => []
  | k + 1, i, a =>
    if i < next.length then
      if next.getD i 0 ≠ old.getD i 0 then .beside (i - a) (next.getD i 0) :: bsd old next k (i + 1) (i + 1) else bsd old next k (i + 1) a
    else if a < next.length then [.copy (next.length - a) a] else []
theorem take_eq_of {l m : List UInt8} {a i : Nat} (hl : l.length = m.length) (hai : a ≤ i) (hi : i ≤ l.length) (h : ∀ j, a ≤ j → j < i → l.getD j 0 = m.getD j 0) : (m.drop a).take (i - a) = (l.drop a).take (i - a) := by
  apply List.ext_getElem
  · simp only [List.length_take, List.length_drop]; omega
  · intro t h1 h2
    simp only [List.length_take, List.length_drop] at h1 h2
    have := h (a + t) (by omega) (by omega)
    rw [List.getD_eq_getElem?_getD, List.getD_eq_getElem?_getD, List.getElem?_eq_getElem (by omega), List.getElem?_eq_getElem (by omega)] at this
    simp only [List.getElem_take, List.getElem_drop]
    exact this.symm
theorem bsd_leads {old next : List UInt8} (hl : old.length = next.length) : ∀ (k i a : Nat), a ≤ i → i ≤ next.length → next.length - i < k → (∀ j, a ≤ j → j < i → next.getD j 0 = old.getD j 0) → Leads old next (next.take a) (bsd old next k i a) := by
  intro k
  induction k with
  | zero => intro i a _ _ h; omega
  | succ k ih =>
    intro i a h1 h2 h3 h4
    unfold bsd
    split
    · rename_i hi
      have hta : (next.take a).length = a := by rw [List.length_take]; omega
      split
      · refine .cons ?_ ?_
        · show (next.take a).length + (i - a) ≤ old.length
          omega
        · show Leads old next (next.take a ++ ((old.drop (next.take a).length).take (i - a) ++ [next.getD i 0])) _
          rw [hta, take_eq_of hl.symm h1 (by omega) h4, ← List.append_assoc, take_step next a i h1]
          have e : next.take i ++ [next.getD i 0] = next.take (i + 1) := by
            rw [List.take_add_one, List.getElem?_eq_getElem hi, List.getD_eq_getElem?_getD, List.getElem?_eq_getElem hi]
            rfl
          rw [e]
          exact ih (i + 1) (i + 1) (Nat.le_refl _) (by omega) (by omega) fun j x y => by omega
      · rename_i he
        refine ih (i + 1) a (by omega) (by omega) (by omega) fun j x y => ?_
        rcases Nat.lt_or_eq_of_le (Nat.lt_succ_iff.1 y) with z | z
        · exact h4 j x z
        · subst z; exact Classical.byContradiction he
    · obtain rfl : i = next.length := by omega
      split
      · refine .cons (show 0 < next.length - a ∧ a + (next.length - a) ≤ old.length from ⟨by omega, by omega⟩) ?_
        show Leads old next (next.take a ++ (old.drop a).take (next.length - a)) []
        rw [take_eq_of hl.symm h1 (Nat.le_refl _) h4, take_step next a next.length h1, List.take_length]
        exact .nil
      · obtain rfl : a = next.length := by omega
        rw [List.take_length]; exact .nil
/-- How many places differ, from i on. -/
def diffs (old next : List UInt8) : Nat → Nat → Nat
  | 0, _ => 0
  | k + 1, i => (if i < next.length ∧ next.getD i 0 ≠ old.getD i 0 then 1 else 0) + diffs old next k (i + 1)
theorem bsd_len {old next : List UInt8} : ∀ (k i a : Nat), (encs (bsd old next k i a)).length ≤ 4 * diffs old next k i + 5 := by
  intro k
  induction k with
  | zero => intro i a; simp [bsd, encs]
  | succ k ih =>
    intro i a
    unfold bsd diffs
    split
    · rename_i hi
      split
      · rename_i hne
        rw [if_pos ⟨hi, hne⟩]
        have a1 := ih (i + 1) (i + 1)
        have a2 := num_len (i - a)
        simp only [encs, Stp.enc, List.length_append, List.length_cons, List.length_nil] at a1 ⊢
        omega
      · rename_i hne
        rw [if_neg (fun h => hne h.2)]
        have a1 := ih (i + 1) a
        omega
    · split
      · have a2 := num_len (next.length - a)
        have a3 := num_len a
        simp only [encs, Stp.enc, List.length_append, List.length_cons, List.length_nil]
        omega
      · simp [encs]

/-! ### all of it -/
def runL (lg : List UInt8 → Nat × Nat) (next : List UInt8) : List Rn := fnd lg next (next.length + 1) 0 0
def stepsR (lg : List UInt8 → Nat × Nat) (next : List UInt8) : List Stp := (runL lg next).map (Rn.stp next)
def stepsB (old next : List UInt8) : List Stp := bsd old next (next.length + 1) 0 0
def steps (lg : List UInt8 → Nat × Nat) (old next : List UInt8) : List Stp := if old.length = next.length ∧ (encs (stepsB old next)).length < (encs (stepsR lg next)).length then stepsB old next else stepsR lg next
def patchG (lg : List UInt8 → Nat × Nat) (old next : List UInt8) : List UInt8 := patchOf old next.length (steps lg old next)
theorem stepsR_leads {old : List UInt8} {lg : List UInt8 → Nat × Nat} (hg : LgOk old lg) (next : List UInt8) : Leads old next [] (stepsR lg next) := by
  have := fnd_leads (next := next) hg (next.length + 1) 0 0 (Nat.le_refl _) (Nat.zero_le _) (by omega)
  rwa [List.take_zero] at this
theorem stepsB_leads {old next : List UInt8} (h : old.length = next.length) : Leads old next [] (stepsB old next) := by
  have := bsd_leads (next := next) h (next.length + 1) 0 0 (Nat.le_refl _) (Nat.zero_le _) (by omega) fun j x y => by omega
  rwa [List.take_zero] at this
theorem steps_leads {old : List UInt8} {lg : List UInt8 → Nat × Nat} (hg : LgOk old lg) (next : List UInt8) : Leads old next [] (steps lg old next) := by
  unfold steps
  split
  · rename_i h; exact stepsB_leads h.1
  · exact stepsR_leads hg next
theorem stepsR_len {old : List UInt8} {lg : List UInt8 → Nat × Nat} (hg : LgOk old lg) (next : List UInt8) : (encs (stepsR lg next)).length ≤ next.length + 3 := by
  have := fnd_len (next := next) hg (next.length + 1) 0 0 (Nat.le_refl _) (Nat.zero_le _)
  exact this
theorem steps_len {old : List UInt8} {lg : List UInt8 → Nat × Nat} (hg : LgOk old lg) (next : List UInt8) : (encs (steps lg old next)).length ≤ next.length + 3 := by
  have := stepsR_len hg next
  unfold steps
  split <;> omega
theorem steps_len2 {old next : List UInt8} {lg : List UInt8 → Nat × Nat} (h : old.length = next.length) : (encs (steps lg old next)).length ≤ 4 * diffs old next (next.length + 1) 0 + 5 := by
  have : (encs (stepsB old next)).length ≤ _ := bsd_len (old := old) (next := next) (next.length + 1) 0 0
  unfold steps
  split <;> omega
theorem patchOf_len (old : List UInt8) (n : Nat) (l : List Stp) : (patchOf old n l).length ≤ (encs l).length + 12 ∧ 10 ≤ (patchOf old n l).length := by
  have a1 := num_len old.length
  have a2 := num_len n
  simp only [patchOf, bodyOf, headOf, be32, List.length_append, List.length_cons, List.length_nil]
  omega
end Go.Fwm
end

section
/- patch.number, patch.fixed: bytes are appended to a row of one's own. No condition. -/
set_option linter.unusedSimpArgs false
set_option linter.unusedVariables false
namespace Go.Proofs.YtkmgcggoemlaaaaGreatDoor
open Go.RowKit Go.Fwm

theorem wrap_i64 (n : Nat) (h : n < 9223372036854775808) : IntKind.i64.wrap (n : Int) = (n : Int) := IntWalk.i64_in _ (by omega)
theorem ofInt_i64 (a : Nat) (ha : a < 18446744073709551616) : (BitVec.ofInt 64 (a : Int)).toNat = a := by
  rw [BitVec.ofInt_natCast, BitVec.toNat_ofNat]; exact Nat.mod_eq_of_lt (by omega)
theorem i64_and_nat (a b : Nat) (ha : a < 9223372036854775808) (hb : b < 9223372036854775808) : bits .and .i64 (a : Int) (b : Int) = ((a &&& b : Nat) : Int) := by
  have hx : a &&& b < 2 ^ 63 := Nat.and_lt_two_pow _ (by omega)
  show IntKind.i64.wrap ((BitVec.ofInt 64 (a : Int) &&& BitVec.ofInt 64 (b : Int)).toNat : Int) = _
  rw [BitVec.toNat_and, ofInt_i64 a (by omega), ofInt_i64 b (by omega)]
  exact wrap_i64 _ (by omega)
theorem i64_or_nat (a b : Nat) (ha : a < 9223372036854775808) (hb : b < 9223372036854775808) : bits .or .i64 (a : Int) (b : Int) = ((a ||| b : Nat) : Int) := by
  have hx : a ||| b < 2 ^ 63 := Nat.or_lt_two_pow (by omega) (by omega)
  show IntKind.i64.wrap ((BitVec.ofInt 64 (a : Int) ||| BitVec.ofInt 64 (b : Int)).toNat : Int) = _
  rw [BitVec.toNat_or, ofInt_i64 a (by omega), ofInt_i64 b (by omega)]
  exact wrap_i64 _ (by omega)
/-- A row of bytes of one's own. -/
def Row (w : World) (v : Value) (zs : List UInt8) : Prop := w.ownsRow 0 5 1 v zs.length (zs.map enc)
theorem Row.nil (w : World) : Row w (.slice none 0 0) [] := ⟨rfl, .inl ⟨rfl, rfl⟩⟩
/-- A row has been appended to. -/
structure App (w w' : World) (v v' : Value) (zs : List UInt8) : Prop where
  own : Row w' v' zs
  grown : w.grownBy w' v.ownBlock
  wh : ∀ k, v'.ownBlock = some k → v.ownBlock = some k ∨ w.heap.size ≤ k
theorem App.trans {w w' w'' : World} {v v' v'' : Value} {zs zs' : List UInt8} (h : App w w' v v' zs) (k : App w' w'' v' v'' zs') : App w w'' v v'' zs' := by
  have hle := h.grown.size
  refine ⟨k.own, ⟨k.grown.os.trans h.grown.os, k.grown.tape.trans h.grown.tape, k.grown.output.trans h.grown.output, Nat.le_trans hle k.grown.size, fun b hb hne => ?_⟩, fun g hg => ?_⟩
  · rw [k.grown.block b (Nat.lt_of_lt_of_le hb hle) fun e => ?_]
    · exact h.grown.block b hb hne
    · rcases h.wh b e.symm with x | x
      · exact hne x.symm
      · omega
  · rcases k.wh g hg with x | x
    · exact h.wh g x
    · exact .inr (Nat.le_trans hle x)
theorem Row.alloc {w : World} {v : Value} {zs : List UInt8} (h : Row w v zs) (o : Obj) : Row (w.alloc o) v zs := by
  refine ⟨h.1, ?_⟩
  rcases h.2 with x | ⟨g, cap, cur, h1, h2, h3, h4⟩
  · exact .inl x
  · exact .inr ⟨g, cap, cur, h1, h2, (heap_alloc_old w o (Array.getElem?_eq_some_iff.1 h3).1).trans h3, h4⟩
theorem Row.drew {w : World} {v : Value} {zs : List UInt8} (h : Row w v zs) : Row w.drew v zs := h
theorem Row.drewN {w : World} {v : Value} {zs : List UInt8} (h : Row w v zs) (k : Nat) : Row (w.drewN k) v zs := h
theorem App.refl {w : World} {v : Value} {zs : List UInt8} (h : Row w v zs) : App w w v v zs := ⟨h, ⟨rfl, rfl, rfl, Nat.le_refl _, fun _ _ _ => rfl⟩, fun _ e => .inl e⟩
theorem App.allocd {w : World} {v : Value} {zs : List UInt8} (h : Row w v zs) (o : Obj) : App w (w.alloc o) v v zs :=
  ⟨h.alloc o, ⟨rfl, rfl, rfl, by simp, fun b hb _ => heap_alloc_old w o hb⟩, fun _ e => .inl e⟩
theorem App.drewd {w : World} {v : Value} {zs : List UInt8} (h : Row w v zs) : App w w.drew v v zs := ⟨h, ⟨rfl, rfl, rfl, Nat.le_refl _, fun _ _ _ => rfl⟩, fun _ e => .inl e⟩
/-- The append of bytes that lie in memory. -/
theorem append_run (ty : TypeId) {w : World} {v : Value} {zs news : List UInt8} (h : Row w v zs) {A : Option Addr} {m c : Nat} (hl : news.length = m) (h0 : 0 < m) (hx : Bytes w A news) (hb : zs.length + m ≤ 100000000) :
    ∃ v' w', (Builtin.append_ #[22, 22] ty #[v, .slice A m c]).run Tryz.prog w = .ok v' w' ∧ App w w' v v' (zs ++ news) := by
  obtain ⟨i0, hi, hz0, hz1, hz2⟩ := info_parts info5
  obtain ⟨b, o, rfl, _⟩ := hx 0 (by omega)
  have hcell : ∀ j u, (news.map enc)[j]? = some u → w.cell? ((⟨b, o, none⟩ : Addr).add j) = some u := fun j u hj => by
    have hjl : j < news.length := by have := (List.getElem?_eq_some_iff.1 hj).1; simpa using this
    obtain ⟨b', o', hA', hc⟩ := hx j hjl
    cases hA'
    have hv : u = .int .u8 (news[j].toNat : Int) := by simp [hjl, enc] at hj; exact hj.symm
    rw [hv, show (⟨b, o, none⟩ : Addr).add j = ⟨b, o + j, none⟩ by unfold Addr.add; split <;> simp_all]
    exact hc
  obtain ⟨v', w', h1, h2, h3, h4⟩ := append_where (P := Tryz.prog) w 22 ty 5 i0 (Value.int .u8 0) 1 1 Tryz.underlying22 hi hz0 hz1 hz2 rfl Nat.one_pos v zs.length (zs.map enc) h ⟨b, o, none⟩ m c (news.map enc) (by simp [hl]) hcell (by intro u hu; obtain ⟨z, _, rfl⟩ := List.mem_map.1 hu; rfl) (by simp only [maxLen]; omega) (by omega)
  refine ⟨v', w', h1, ⟨?_, h3, h4⟩⟩
  unfold Row
  rw [List.length_append, hl, List.map_append]
  exact h2
theorem wpList_append_row {w : World} {ops : Array Oper} {rest : List Oper} {o : Oper} {a : Act} {Q : Exit → Act → World → Prop} (hgd : o.guard = none) (s x : Operand) (ho : o.op = .call { callee := .builtin .append, args := #[s, x], argTypes := #[22, 22] })
    (v : Value) (zs news : List UInt8) (A : Option Addr) (m c : Nat) (hs : a.eval s = v) (hrow : Row w v zs) (hx : a.eval x = .slice A m c) (hl : news.length = m) (h0 : 0 < m) (hb : Bytes w A news) (hlen : zs.length + m ≤ 100000000)
    (h : ∀ v' w', App w w' v v' (zs ++ news) → wpList Tryz.prog ops Q rest (a.put o.dst v') w') : wpList Tryz.prog ops Q (o :: rest) a w :=
  wpList_plain hgd fun _ hK => by
    obtain ⟨v', w', hr, h2⟩ := append_run o.type hrow (c := c) hl h0 hb hlen
    unfold Oper.wp execOp
    simp only [ho, resolve, invoke, builtin, Sem.run_bind, Sem.run_pure, Result.andThen_ok, List.map_toArray, List.map_cons, List.map_nil, hs, hx, hr]
    exact hK _ _ (h v' w' h2)
theorem bytes_new (w : World) (zs : List UInt8) : Bytes (w.alloc (.cells (zs.map enc).toArray 5)) (some ⟨w.heap.size, 0, none⟩) zs := by
  have : Blk (w.alloc (.cells (zs.map enc).toArray 5)) w.heap.size 5 (zs.map enc ++ []) := by rw [List.append_nil]; exact heap_alloc_new w _
  exact Bytes.of_blk this

set_option maxRecDepth 100000 in
set_option maxHeartbeats 4000000 in
theorem pnumber_ok (w : World) (v : Value) (zs : List UInt8) (h : Row w v zs) (hz : zs.length ≤ 10000000) (n : Nat) (hn : n ≤ 4096) :
    Calls Tryz.prog 49 #[v, .int .i64 (n : Int)] w fun e w' => ∃ v', e = .returned v' ∧ App w w' v v' (zs ++ num n) := by
  by_cases hlt : n < 128
  · have e1 : num n = [UInt8.ofNat n] := by unfold num; rw [if_pos hlt]
    have hb : (UInt8.ofNat n).toNat = n := by rw [toNat_ofNat]; omega
    have hx := bytes_new w [UInt8.ofNat n]
    have hx : Bytes (w.alloc (.cells #[.int .u8 (n : Int)] 5)) (some ⟨w.heap.size, 0, none⟩) [UInt8.ofNat n] := by simpa [enc, hb] using hx
    have H := Lib.hid h; clear h
    have HX := Lib.hid hx; clear hx
    have hi : (n : Int) < 128 := by omega
    rw [e1]
    clear e1 hlt
    go_enter Tryz.func49, Tryz.ntmps49
    go_wp2_with (at_builtin; refine wpList_append_row rfl (.tmp 7) (.tmp 10) rfl v zs [UInt8.ofNat n] (some ⟨w.heap.size, 0, none⟩) 1 1 rfl (H.out.alloc _) rfl rfl Nat.one_pos HX.out (by omega) ?_; intro v1 w1 ha; have HA := Lib.hid ha; clear ha)
    go_ret
    exact ⟨_, rfl, (App.allocd H.out _).trans HA.out⟩
  · have e1 : num n = [UInt8.ofNat (n % 128 + 128), UInt8.ofNat (n / 128)] := by unfold num; rw [if_neg hlt]
    have hb : (UInt8.ofNat (n % 128 + 128)).toNat = n % 128 + 128 := by rw [toNat_ofNat]; omega
    have hb2 : (UInt8.ofNat (n / 128)).toNat = n / 128 := by rw [toNat_ofNat]; omega
    rw [e1]
    have hi : ¬ ((n : Int) < 128) := by omega
    obtain ⟨q, hq⟩ : ∃ q, n % 128 + 128 = q := ⟨_, rfl⟩
    obtain ⟨r, hr⟩ : ∃ r, n / 128 = r := ⟨_, rfl⟩
    have hand : bits .and .i64 (n : Int) 127 = ((n % 128 : Nat) : Int) := by
      have := i64_and_nat n 127 (by omega) (by omega)
      have h7 : (127 : Nat) = 2 ^ 7 - 1 := rfl
      rw [h7, Nat.and_two_pow_sub_one_eq_mod] at this
      exact this
    have hor : bits .or .i64 ((n % 128 : Nat) : Int) 128 = (q : Int) := by
      have := i64_or_nat (n % 128) 128 (by omega) (by omega)
      have h7 := or_mul128 (n % 128) 1 (by omega)
      rw [show 1 * 128 = 128 from rfl] at h7
      rw [h7] at this
      rw [← hq]
      exact this.trans (by omega)
    have hor2 : bits .or .i64 (bits .and .i64 (n : Int) 127) 128 % 256 = (q : Int) := by rw [hand, hor]; omega
    have hdiv : (n : Int) / 128 = (r : Int) := by omega
    rw [hq, hr]
    rw [hq] at hb
    rw [hr] at hb2
    have hx := bytes_new w [UInt8.ofNat q, UInt8.ofNat r]
    have e3 : [UInt8.ofNat q, UInt8.ofNat r].map enc = [.int .u8 (q : Int), .int .u8 (r : Int)] := by simp only [List.map_cons, List.map_nil, enc, hb, hb2]
    rw [e3] at hx
    have H := Lib.hid h; clear h
    have HX := Lib.hid hx; clear hx
    clear e1 e3 hlt hb hb2 hand hor
    go_enter Tryz.func49, Tryz.ntmps49
    go_wp2_with (at_builtin; refine wpList_append_row rfl (.tmp 12) (.tmp 20) rfl v zs [UInt8.ofNat q, UInt8.ofNat r] (some ⟨w.heap.size, 0, none⟩) 2 2 rfl (H.out.alloc _) rfl rfl Nat.two_pos HX.out (by omega) ?_; intro v1 w1 ha; have HA := Lib.hid ha; clear ha)
    go_ret
    exact ⟨_, rfl, (App.allocd H.out _).trans HA.out⟩
set_option maxRecDepth 100000 in
set_option maxHeartbeats 4000000 in
theorem pfixed_ok (w : World) (v : Value) (zs : List UInt8) (h : Row w v zs) (hz : zs.length ≤ 10000000) (S : Nat) (hS : S < 4294967296) :
    Calls Tryz.prog 48 #[v, .int .u32 (S : Int)] w fun e w' => ∃ v', e = .returned v' ∧ App w w' v v' (zs ++ be32 S) := by
  have h1 : (UInt8.ofNat (S / 16777216)).toNat = S / 16777216 := by rw [toNat_ofNat]; omega
  have h2 : (UInt8.ofNat (S / 65536)).toNat = S / 65536 % 256 := by rw [toNat_ofNat]
  have h3 : (UInt8.ofNat (S / 256)).toNat = S / 256 % 256 := by rw [toNat_ofNat]
  have h4 : (UInt8.ofNat S).toNat = S % 256 := by rw [toNat_ofNat]
  have e3 : (be32 S).map enc = [.int .u8 ((S / 16777216 : Nat) : Int), .int .u8 ((S / 65536 % 256 : Nat) : Int), .int .u8 ((S / 256 % 256 : Nat) : Int), .int .u8 ((S % 256 : Nat) : Int)] := by simp only [be32, List.map_cons, List.map_nil, enc, h1, h2, h3, h4]
  have hx := bytes_new w (be32 S)
  rw [e3] at hx
  obtain ⟨a, ha⟩ : ∃ a, S / 16777216 = a := ⟨_, rfl⟩
  obtain ⟨b, hb⟩ : ∃ b, S / 65536 % 256 = b := ⟨_, rfl⟩
  obtain ⟨c, hc⟩ : ∃ c, S / 256 % 256 = c := ⟨_, rfl⟩
  obtain ⟨d, hd⟩ : ∃ d, S % 256 = d := ⟨_, rfl⟩
  rw [ha, hb, hc, hd] at hx
  have q1 : (S : Int) / 16777216 = (a : Int) := by omega
  have q2 : (S : Int) / 65536 % 256 = (b : Int) := by omega
  have q3 : (S : Int) / 256 % 256 = (c : Int) := by omega
  have q4 : (S : Int) % 256 = (d : Int) := by omega
  have l1 : a < 256 := by omega
  have H := Lib.hid h; clear h
  have HX := Lib.hid hx; clear hx
  clear h1 h2 h3 h4 e3 ha hb hc hd
  go_enter Tryz.func48, Tryz.ntmps48
  go_wp2_with (at_builtin; refine wpList_append_row rfl (.tmp 5) (.tmp 17) rfl v zs (be32 S) (some ⟨w.heap.size, 0, none⟩) 4 4 rfl (H.out.alloc _) rfl rfl (by omega) HX.out (by omega) ?_; intro v1 w1 ha; have HA := Lib.hid ha; clear ha)
  go_ret
  exact ⟨_, rfl, (App.allocd H.out _).trans HA.out⟩
end Go.Proofs.YtkmgcggoemlaaaaGreatDoor
end

section
/- alike.common; bytes.Compare; what a place of the old image is to the bytes that are sought. No condition. -/
set_option linter.unusedSimpArgs false
set_option linter.unusedVariables false
namespace Go.Fwm
/-- How many bytes are the same. -/
def lcp : List UInt8 → List UInt8 → Nat
  | x :: a, y :: b => if x = y then lcp a b + 1 else 0
  | _, _ => 0
theorem lcp_le_l (a : List UInt8) : ∀ b, lcp a b ≤ a.length := by
  induction a with
  | nil => intro b; simp [lcp]
  | cons x a ih =>
    intro b
    cases b with
    | nil => simp [lcp]
    | cons y b => have := ih b; unfold lcp; split <;> simp only [List.length_cons] <;> omega
theorem lcp_le_r (a : List UInt8) : ∀ b, lcp a b ≤ b.length := by
  induction a with
  | nil => intro b; simp [lcp]
  | cons x a ih =>
    intro b
    cases b with
    | nil => simp [lcp]
    | cons y b => have := ih b; unfold lcp; split <;> simp only [List.length_cons] <;> omega
theorem lcp_take (a : List UInt8) : ∀ b k, k ≤ lcp a b → a.take k = b.take k := by
  induction a with
  | nil => intro b k h; simp [lcp] at h; subst h; simp
  | cons x a ih =>
    intro b k h
    cases b with
    | nil => simp [lcp] at h; subst h; simp
    | cons y b =>
      unfold lcp at h
      split at h
      · rename_i e
        cases k with
        | zero => simp
        | succ k => simp [e, ih b k (by omega)]
      · obtain rfl : k = 0 := by omega
        simp
theorem lcp_step (a : List UInt8) : ∀ b k, k ≤ lcp a b → ∀ (h1 : k < a.length) (h2 : k < b.length), a[k] = b[k] → k + 1 ≤ lcp a b := by
  induction a with
  | nil => intro b k _ h; cases h
  | cons x a ih =>
    intro b k h h1 h2 e
    cases b with
    | nil => cases h2
    | cons y b =>
      unfold lcp at h ⊢
      cases k with
      | zero => simp at e; rw [if_pos e]; omega
      | succ k =>
        split at h
        · rename_i e2
          rw [if_pos e2]
          have := ih b k (by omega) (by simpa using h1) (by simpa using h2) (by simpa using e)
          omega
        · omega
theorem lcp_ne (a : List UInt8) : ∀ b k, k < lcp a b → ∀ (h1 : k < a.length) (h2 : k < b.length), a[k] = b[k] := by
  intro b k h h1 h2
  have := lcp_take a b (k + 1) (by omega)
  have e : (a.take (k + 1))[k]? = (b.take (k + 1))[k]? := by rw [this]
  simpa [List.getElem?_take, h1, h2] using e
end Go.Fwm
namespace Go.Proofs.YtkmgcggoemlaaaaGreatDoor
open Go.RowKit Go.Fwm
set_option maxHeartbeats 1000000 in
theorem common_ok (w : World) (A B : Option Addr) (cn cm n m : Nat) (a b : List UInt8) (hl : a.length = n) (hm : b.length = m) (hn : n ≤ maxLen) (hmm : m ≤ maxLen) (hx : Bytes w A a) (hy : Bytes w B b) :
    Calls Tryz.prog 78 #[.slice A n cn, .slice B m cm] w fun e w' => e = .returned (.int .i64 (lcp a b : Nat)) ∧ ∃ k, w' = w.drewN k := by
  unfold maxLen at hn hmm
  obtain ⟨L, hL⟩ : ∃ L, lcp a b = L := ⟨_, rfl⟩
  rw [hL]
  have h1 : L ≤ n := by rw [← hL, ← hl]; exact lcp_le_l a b
  have h2 : L ≤ m := by rw [← hL, ← hm]; exact lcp_le_r a b
  go_enter Tryz.func78, Tryz.ntmps78
  go_wp2

  go_loopw [5] (fun i wr => ∃ k d : Nat, k ≤ L ∧ i = .int .i64 k ∧ wr = w.drewN d) (fun i _ => n - (intOf i).toNat)
  case atStart => exact ⟨0, 0, Nat.zero_le _, rfl, rfl⟩
  case round =>
    obtain ⟨k, d, hk, rfl, rfl⟩ := hrel
    by_cases hkn : k < n
    · have hkn' : decide ((k : Int) < (n : Int)) = true := by simp; omega
      by_cases hkm : k < m
      · have hkm' : decide ((k : Int) < (m : Int)) = true := by simp; omega
        obtain ⟨bb, o, rfl, hc⟩ := hx k (by omega)
        obtain ⟨bb', o', rfl, hc'⟩ := hy k (by omega)
        by_cases he : a[k] = b[k]
        · have hb : ((a[k].toNat : Int) == (b[k].toNat : Int)) = true := by rw [he]; simp
          have hst : k + 1 ≤ L := by rw [← hL] at hk ⊢; exact lcp_step a b k hk (by omega) (by omega) he
          go_wp2
          go_quiet (fail)
          go_wp2
          go_roundw
          case rel => exact ⟨k + 1, _, by omega, by go_num, rfl⟩
          case measure => simp [intOf]; omega
        · have hb : ((a[k].toNat : Int) == (b[k].toNat : Int)) = false := by
            simp only [beq_eq_false_iff_ne, ne_eq]
            intro x
            exact he (UInt8.toNat_inj.1 (by omega))
          have hst : k = L := by
            rcases Nat.lt_or_eq_of_le hk with x | x
            · exact absurd (lcp_ne a b k (by omega) (by omega) (by omega)) he
            · exact x
          have HST := Lib.hid hst; clear hst
          go_wp2
          go_quiet (fail)
          go_wp2
          go_ret
          exact ⟨by rw [← HST.out]; rfl, _, drewN_add _ _ _⟩
      · have hkm' : decide ((k : Int) < (m : Int)) = false := by simp; omega
        have hst : k = L := by omega
        have HST := Lib.hid hst; clear hst
        go_wp2
        go_quiet (fail)
        go_wp2
        go_ret
        exact ⟨by rw [← HST.out]; rfl, _, drewN_add _ _ _⟩
    · have hkn' : decide ((k : Int) < (n : Int)) = false := by simp; omega
      have hst : k = L := by omega
      have HST := Lib.hid hst; clear hst
      go_wp2
      go_quiet (fail)
      go_wp2
      go_ret
      exact ⟨by rw [← HST.out]; rfl, _, drewN_add _ _ _⟩
end Go.Proofs.YtkmgcggoemlaaaaGreatDoor
end

section
/- The model: the places are one row alone; what 'longest' tells. No condition. -/
set_option linter.unusedVariables false
namespace Go.Fwm

def ltS (f g : Nat → Nat) : Prop := ∃ j, (∀ i, i < j → f i = g i) ∧ f j < g j
theorem ltS.trans {f g h : Nat → Nat} (a : ltS f g) (b : ltS g h) : ltS f h := by
  obtain ⟨i, h1, h2⟩ := a
  obtain ⟨j, k1, k2⟩ := b
  rcases Nat.lt_trichotomy i j with x | x | x
  · exact ⟨i, fun t ht => (h1 t ht).trans (k1 t (by omega)), by rw [← k1 i x]; exact h2⟩
  · subst x; exact ⟨i, fun t ht => (h1 t ht).trans (k1 t ht), by omega⟩
  · exact ⟨j, fun t ht => (h1 t (by omega)).trans (k1 t ht), by rw [h1 j x]; exact k2⟩
theorem ltS.irrefl {f : Nat → Nat} : ¬ ltS f f := by rintro ⟨j, _, h⟩; omega
theorem sy_cons_zero (x : UInt8) (a : List UInt8) : sy (x :: a) 0 = x.toNat + 1 := rfl
theorem sy_cons_succ (x : UInt8) (a : List UInt8) (i : Nat) : sy (x :: a) (i + 1) = sy a i := rfl
theorem sy_nil (i : Nat) : sy [] i = 0 := rfl
theorem sy_drop (l : List UInt8) (p i : Nat) : sy (l.drop p) i = sy l (p + i) := by unfold sy; rw [List.getElem?_drop]
theorem cmp_lt : ∀ (a b : List UInt8), Lib.compareBytes a b < 0 ↔ ltS (sy a) (sy b)
  | [], [] => by
    simp only [Lib.compareBytes]
    constructor
    · intro h; omega
    · intro h; exact absurd h ltS.irrefl
  | [], y :: b => by
    simp only [Lib.compareBytes]
    exact ⟨fun _ => ⟨0, fun i hi => by omega, by rw [sy_cons_zero, sy_nil]; omega⟩, fun _ => by omega⟩
  | x :: a, [] => by
    simp only [Lib.compareBytes]
    constructor
    · intro h; omega
    · rintro ⟨j, _, h⟩; rw [sy_nil] at h; omega
  | x :: a, y :: b => by
    have ih := cmp_lt a b
    simp only [Lib.compareBytes]
    by_cases h1 : x < y
    · rw [if_pos h1]
      exact ⟨fun _ => ⟨0, fun i hi => by omega, by rw [sy_cons_zero, sy_cons_zero]; have : x.toNat < y.toNat := h1; omega⟩, fun _ => by omega⟩
    · rw [if_neg h1]
      by_cases h2 : y < x
      · rw [if_pos h2]
        constructor
        · intro h; omega
        · rintro ⟨j, h3, h4⟩
          have h5 : y.toNat < x.toNat := h2
          cases j with
          | zero => rw [sy_cons_zero, sy_cons_zero] at h4; omega
          | succ j => have := h3 0 (by omega); rw [sy_cons_zero, sy_cons_zero] at this; omega
      · rw [if_neg h2, ih]
        have e : x.toNat = y.toNat := by
          have a1 : ¬ x.toNat < y.toNat := h1
          have a2 : ¬ y.toNat < x.toNat := h2
          omega
        constructor
        · rintro ⟨j, h3, h4⟩
          refine ⟨j + 1, fun i hi => ?_, h4⟩
          cases i with
          | zero => rw [sy_cons_zero, sy_cons_zero, e]
          | succ i => exact h3 i (by omega)
        · rintro ⟨j, h3, h4⟩
          cases j with
          | zero => rw [sy_cons_zero, sy_cons_zero] at h4; omega
          | succ j => exact ⟨j, fun i hi => h3 (i + 1) (by omega), h4⟩
theorem cmp_drop (old b : List UInt8) (p : Nat) : Lib.compareBytes (old.drop p) b < 0 ↔ ltS (fun i => sy old (p + i)) (sy b) := by
  rw [cmp_lt]
  have : sy (old.drop p) = fun i => sy old (p + i) := funext fun i => sy_drop old p i
  rw [this]
theorem ltK.ltS {s : Nat → Nat} {L p q : Nat} (h : ltK s L p q) : ltS (fun i => s (p + i)) (fun i => s (q + i)) := by obtain ⟨j, _, h1, h2⟩ := h; exact ⟨j, h1, h2⟩

/-! ### there is one row of places alone -/
theorem Srt.unique {s : Nat → Nat} {n L L' : Nat} (hs : Ends_ s n) {ps qs : Nat → Nat} (h : Srt s n L ps) (k : Srt s n L' qs) (hL : n ≤ L) (hL' : n ≤ L') : ∀ i, i < n → ps i = qs i := by
  intro i
  induction i using Nat.strongRecOn with
  | _ i ih =>
    intro hi
    obtain ⟨a, ha, hae⟩ := k.onto (ps i) (h.lt i hi)
    obtain ⟨b, hb, hbe⟩ := h.onto (qs i) (k.lt i hi)
    rcases Nat.lt_trichotomy a i with x | x | x
    · have := ih a x ha
      have := h.inj a i ha hi (by omega)
      omega
    · subst x; exact hae.symm
    · rcases Nat.lt_trichotomy b i with y | y | y
      · have := ih b y hb
        have := k.inj b i hb hi (by omega)
        omega
      · subst y; exact hbe
      · have h1 := h.strict hs hL y hb
        have h2 := k.strict hs hL' x ha
        rw [hae] at h2
        rw [hbe] at h1
        exact absurd (h1.ltS.trans h2.ltS) ltS.irrefl
open Classical in
noncomputable def saOf (old : List UInt8) : Nat → Nat := if h : ∃ ps, Srt (sy old) old.length old.length ps then Classical.choose h else id
theorem Srt.down {s : Nat → Nat} {n L : Nat} (hs : Ends_ s n) {ps : Nat → Nat} (h : Srt s n L ps) (hL : n ≤ L) : Srt s n n ps :=
  ⟨h.lt, h.onto, h.inj, fun i j hij hj x => h.srt i j hij hj (x.mono hL)⟩
theorem saOf_srt {old : List UInt8} {L : Nat} {ps : Nat → Nat} (h : Srt (sy old) old.length L ps) (hL : old.length ≤ L) : Srt (sy old) old.length old.length (saOf old) ∧ ∀ i, i < old.length → ps i = saOf old i := by
  have hd := h.down (sy_ends old) hL
  have hex : ∃ ps, Srt (sy old) old.length old.length ps := ⟨ps, hd⟩
  have e : saOf old = Classical.choose hex := by unfold saOf; rw [dif_pos hex]
  have hc := Classical.choose_spec hex
  rw [← e] at hc
  exact ⟨hc, hd.unique (sy_ends old) hc (Nat.le_refl _) (Nat.le_refl _)⟩

/-! ### what longest tells -/
/-- So many places are less than the bytes. -/
noncomputable def cntL (old b : List UInt8) : Nat := ((List.range old.length).map (saOf old)).countP fun p => decide (Lib.compareBytes (old.drop p) b < 0)
def lg1 (old b : List UInt8) (p : Nat) (r : Nat × Nat) : Nat × Nat := if r.2 < lcp (old.drop p) b then (p, lcp (old.drop p) b) else r
noncomputable def lgA (old b : List UInt8) : Nat × Nat := if 1 ≤ cntL old b then lg1 old b (saOf old (cntL old b - 1)) (0, 0) else (0, 0)
noncomputable def lgOf (old b : List UInt8) : Nat × Nat := if cntL old b < old.length then lg1 old b (saOf old (cntL old b)) (lgA old b) else lgA old b
theorem lg1_ok {old b : List UInt8} {p : Nat} {r : Nat × Nat} (h : r.1 + r.2 ≤ old.length ∧ r.2 ≤ b.length ∧ (old.drop r.1).take r.2 = b.take r.2) :
    (lg1 old b p r).1 + (lg1 old b p r).2 ≤ old.length ∧ (lg1 old b p r).2 ≤ b.length ∧ (old.drop (lg1 old b p r).1).take (lg1 old b p r).2 = b.take (lg1 old b p r).2 := by
  unfold lg1
  split
  · rename_i hlt
    refine ⟨?_, lcp_le_r _ _, lcp_take _ _ _ (Nat.le_refl _)⟩
    have h1 := lcp_le_l (old.drop p) b
    simp only [List.length_drop] at h1
    show p + lcp (old.drop p) b ≤ old.length
    omega
  · exact h
theorem lgOf_ok (old : List UInt8) : LgOk old (lgOf old) := by
  intro b
  have h0 : (0, 0).1 + (0, 0).2 ≤ old.length ∧ (0, 0).2 ≤ b.length ∧ (old.drop (0, 0).1).take (0, 0).2 = b.take (0, 0).2 := ⟨Nat.zero_le _, Nat.zero_le _, rfl⟩
  have hA : (lgA old b).1 + (lgA old b).2 ≤ old.length ∧ (lgA old b).2 ≤ b.length ∧ (old.drop (lgA old b).1).take (lgA old b).2 = b.take (lgA old b).2 := by
    unfold lgA
    split
    · exact lg1_ok h0
    · exact h0
  unfold lgOf
  split
  · exact lg1_ok hA
  · exact hA
theorem cntL_le (old b : List UInt8) : cntL old b ≤ old.length := by
  have := List.countP_le_length (p := fun p => decide (Lib.compareBytes (old.drop p) b < 0)) (l := (List.range old.length).map (saOf old))
  simpa [cntL] using this
end Go.Fwm
end

section
/- bytes.Compare; the comparison of a place of the old image with the bytes that are sought. No condition. -/
set_option linter.unusedSimpArgs false
set_option linter.unusedVariables false
namespace Go.Proofs.YtkmgcggoemlaaaaGreatDoor
open Go.RowKit Go.Fwm Go.Extern
theorem run_loadBytes {P : Program} (w : World) (b : Nat) : ∀ (zs : List UInt8) (o : Nat) (acc : ByteArray), (∀ k (h : k < zs.length), w.cell? ⟨b, o + k, none⟩ = some (.int .u8 (zs[k].toNat : Int))) →
    ∃ r : ByteArray, (Bytes.loadBytes ⟨b, o, none⟩ zs.length acc).run P w = .ok r w ∧ r.data.toList = acc.data.toList ++ zs := by
  intro zs
  induction zs with
  | nil => intro o acc _; exact ⟨acc, rfl, by simp⟩
  | cons x zs ih =>
    intro o acc h
    have h0 := h 0 (by simp)
    simp only [Nat.add_zero, List.getElem_cons_zero] at h0
    obtain ⟨r, h1, h2⟩ := ih (o + 1) (acc.push x) (fun k hk => by
      have := h (k + 1) (by simpa using hk)
      simpa [Nat.add_assoc, Nat.add_comm 1 k] using this)
    refine ⟨r, ?_, by rw [h2]; simp [ByteArray.push]⟩
    change Sem.run P (Bytes.loadBytes ⟨b, o, none⟩ (zs.length + 1) acc) w = _
    unfold Bytes.loadBytes
    have hx : (x.toNat : Int).toNat.toUInt8 = x := by simp
    have hx2 : Int.toNat (x.toNat : Int) = x.toNat := by simp
    simp only [Sem.run_bind, run_load, h0, Result.andThen_ok]
    have e : (⟨b, o, none⟩ : Addr).add 1 = ⟨b, o + 1, none⟩ := by unfold Addr.add; split <;> simp_all
    rw [e]
    simpa using h1
theorem run_bytesOf {P : Program} (w : World) (A : Option Addr) (n c : Nat) (zs : List UInt8) (hl : zs.length = n) (hx : Bytes w A zs) : ∃ r : ByteArray, (Bytes.bytesOf (.slice A n c)).run P w = .ok r w ∧ r.data.toList = zs := by
  subst hl
  cases A with
  | none =>
    cases zs with
    | nil => exact ⟨.empty, rfl, rfl⟩
    | cons x zs => obtain ⟨b, o, e, _⟩ := hx 0 (by simp); cases e
  | some a =>
    cases zs with
    | nil => exact ⟨.empty, rfl, rfl⟩
    | cons x zs =>
      obtain ⟨b, o, e, _⟩ := hx 0 (by simp)
      cases e
      obtain ⟨r, h1, h2⟩ := run_loadBytes (P := P) w b (x :: zs) o .empty fun k hk => by
        obtain ⟨b', o', e, hc⟩ := hx k hk
        cases e
        exact hc
      exact ⟨r, h1, by simpa using h2⟩
theorem run_compareSlices {P : Program} (w : World) (A B : Option Addr) (n c m d : Nat) (a b : List UInt8) (hl : a.length = n) (hm : b.length = m) (hx : Bytes w A a) (hy : Bytes w B b) :
    (BytealgCompare.compare #[.slice A n c, .slice B m d]).run P w = .ok (.int .i64 (Lib.compareBytes a b)) w := by
  obtain ⟨r, h1, h2⟩ := run_bytesOf (P := P) w A n c a hl hx
  obtain ⟨s, k1, k2⟩ := run_bytesOf (P := P) w B m d b hm hy
  change Sem.run P (do pure (goInt (Extern.BytealgCompare.cmp (← Extern.Bytes.bytesOf (.slice A n c)) (← Extern.Bytes.bytesOf (.slice B m d))))) w = _
  simp only [Sem.run_bind, Sem.run_pure, h1, k1, Result.andThen]
  rw [Lib.cmp_eq, h2, k2]
  rfl
set_option maxRecDepth 100000 in
set_option maxHeartbeats 1000000 in
theorem compare_ok (w : World) (A B : Option Addr) (n c m d : Nat) (a b : List UInt8) (hl : a.length = n) (hm : b.length = m) (hx : Bytes w A a) (hy : Bytes w B b) :
    Calls Tryz.prog 77 #[.slice A n c, .slice B m d] w fun e w' => e = .returned (.int .i64 (Lib.compareBytes a b)) ∧ w' = w := by
  go_enter Tryz.func77, Tryz.ntmps77
  go_wp2
  rw [run_callFunc_extern Tryz.func83 (by kernel_rfl) (by kernel_rfl) (by kernel_rfl) (e := BytealgCompare.compare) (by kernel_rfl), run_compareSlices w A B n c m d a b hl hm hx hy]
  simp only [Result.andThen]
  rw [Oper.upon_value]
  go_wp2
  go_ret
  exact ⟨rfl, rfl⟩
end Go.Proofs.YtkmgcggoemlaaaaGreatDoor
end

section
/- The layings of slices.SortFunc and slices.BinarySearchFunc at this program (written by the kit's lay-plain.mjs). No condition. -/


namespace Go.Proofs
open Go.Shelf
def Tryz.sortL_ren : Go.Shelf.Ren := ⟨fun | 6 => 74 | 15 => 82 | 14 => 81 | 28 => 95 | 29 => 96 | 20 => 87 | 21 => 88 | 22 => 89 | 23 => 90 | 24 => 91 | 25 => 92 | 26 => 93 | 27 => 94 | 46 => 100 | 47 => 101 | 48 => 102 | 49 => 103 | 50 => 104 | 57 => 111 | n => n, fun | 22 => 23 | 24 => 3 | 25 => 150 | 3 => 3 | 39 => 42 | 0 => 0 | 53 => 88 | 55 => 169 | 4 => 4 | 46 => 162 | 45 => 161 | 50 => 152 | 5 => 5 | 9 => 9 | 66 => 170 | 70 => 174 | 76 => 177 | 77 => 129 | n => n, fun | n => n⟩
theorem Tryz.sortL : Go.Proofs.SlLaysF.n6 Tryz.prog Tryz.sortL_ren := {
  mixed := by kernel_rfl
  f6 := ⟨Tryz.f74.name, by decide, Tryz.func74.trans (congrArg some (by kernel_rfl))⟩
  f14 := ⟨Tryz.f81.name, by decide, Tryz.func81.trans (congrArg some (by kernel_rfl))⟩
  f15 := Tryz.func82.trans (congrArg some (by kernel_rfl))
  f20 := ⟨Tryz.f87.name, by decide, Tryz.func87.trans (congrArg some (by kernel_rfl))⟩
  f21 := ⟨Tryz.f88.name, by decide, Tryz.func88.trans (congrArg some (by kernel_rfl))⟩
  f22 := ⟨Tryz.f89.name, by decide, Tryz.func89.trans (congrArg some (by kernel_rfl))⟩
  f23 := ⟨Tryz.f90.name, by decide, Tryz.func90.trans (congrArg some (by kernel_rfl))⟩
  f24 := ⟨Tryz.f91.name, by decide, Tryz.func91.trans (congrArg some (by kernel_rfl))⟩
  f25 := ⟨Tryz.f92.name, by decide, Tryz.func92.trans (congrArg some (by kernel_rfl))⟩
  f26 := ⟨Tryz.f93.name, by decide, Tryz.func93.trans (congrArg some (by kernel_rfl))⟩
  f27 := ⟨Tryz.f94.name, by decide, Tryz.func94.trans (congrArg some (by kernel_rfl))⟩
  f28 := Tryz.func95.trans (congrArg some (by kernel_rfl))
  f29 := Tryz.func96.trans (congrArg some (by kernel_rfl))
  f46 := ⟨Tryz.f100.name, by decide, Tryz.func100.trans (congrArg some (by kernel_rfl))⟩
  f47 := Tryz.func101.trans (congrArg some (by kernel_rfl))
  f48 := Tryz.func102.trans (congrArg some (by kernel_rfl))
  f49 := ⟨Tryz.f103.name, by decide, Tryz.func103.trans (congrArg some (by kernel_rfl))⟩
  f50 := ⟨Tryz.f104.name, by decide, Tryz.func104.trans (congrArg some (by kernel_rfl))⟩
  f57 := ⟨Tryz.f111.name, by decide, Tryz.func111.trans (congrArg some (by kernel_rfl))⟩
  t0 := Tryz.underlying0
  a0 := Tryz.isAgg0
  z0 := Tryz.sizeOf0
  v0 := Tryz.zeroValue0
  t3 := Tryz.underlying3
  a3 := Tryz.isAgg3
  z3 := Tryz.sizeOf3
  v3 := Tryz.zeroValue3
  t4 := Tryz.underlying4
  a4 := Tryz.isAgg4
  z4 := Tryz.sizeOf4
  v4 := Tryz.zeroValue4
  t5 := Tryz.underlying5
  a5 := Tryz.isAgg5
  z5 := Tryz.sizeOf5
  v5 := Tryz.zeroValue5
  t9 := Tryz.underlying9
  a9 := Tryz.isAgg9
  z9 := Tryz.sizeOf9
  v9 := Tryz.zeroValue9
  t22 := Tryz.underlying23
  a22 := Tryz.isAgg23
  z22 := Tryz.sizeOf23
  v22 := Tryz.zeroValue23
  a24 := Tryz.isAgg3
  z24 := Tryz.sizeOf3
  t25 := Tryz.underlying150
  a25 := Tryz.isAgg150
  z25 := Tryz.sizeOf150
  v25 := Tryz.zeroValue150
  t39 := Tryz.underlying42
  a39 := Tryz.isAgg42
  z39 := Tryz.sizeOf42
  v39 := Tryz.zeroValue42
  t45 := Tryz.underlying161
  a45 := Tryz.isAgg161
  z45 := Tryz.sizeOf161
  v45 := Tryz.zeroValue161
  t46 := Tryz.underlying162
  a46 := Tryz.isAgg162
  z46 := Tryz.sizeOf162
  v46 := Tryz.zeroValue162
  t50 := Tryz.underlying152
  a50 := Tryz.isAgg152
  z50 := Tryz.sizeOf152
  v50 := Tryz.zeroValue152
  t53 := Tryz.underlying88
  a53 := Tryz.isAgg88
  z53 := Tryz.sizeOf88
  v53 := Tryz.zeroValue88
  t55 := Tryz.underlying169
  a55 := Tryz.isAgg169
  z55 := Tryz.sizeOf169
  v55 := Tryz.zeroValue169
  t66 := Tryz.underlying170
  a66 := Tryz.isAgg170
  z66 := Tryz.sizeOf170
  v66 := Tryz.zeroValue170
  t70 := Tryz.underlying174
  a70 := Tryz.isAgg174
  z70 := Tryz.sizeOf174
  v70 := Tryz.zeroValue174
  t76 := Tryz.underlying177
  a76 := Tryz.isAgg177
  z76 := Tryz.sizeOf177
  v76 := Tryz.zeroValue177
  t77 := Tryz.underlying129
  a77 := Tryz.isAgg129
  z77 := Tryz.sizeOf129
  v77 := Tryz.zeroValue129 }
def Tryz.searchL_ren : Go.Shelf.Ren := ⟨fun | 14 => 75 | n => n, fun | 22 => 23 | 24 => 3 | 29 => 22 | 32 => 155 | 3 => 3 | 4 => 4 | 35 => 42 | 0 => 0 | n => n, fun | n => n⟩
theorem Tryz.searchL : Go.Proofs.SlLaysG2.n14 Tryz.prog Tryz.searchL_ren := {
  mixed := by kernel_rfl
  f14 := ⟨Tryz.f75.name, by decide, Tryz.func75.trans (congrArg some (by kernel_rfl))⟩
  t0 := Tryz.underlying0
  a0 := Tryz.isAgg0
  z0 := Tryz.sizeOf0
  v0 := Tryz.zeroValue0
  t3 := Tryz.underlying3
  a3 := Tryz.isAgg3
  z3 := Tryz.sizeOf3
  v3 := Tryz.zeroValue3
  t4 := Tryz.underlying4
  a4 := Tryz.isAgg4
  z4 := Tryz.sizeOf4
  v4 := Tryz.zeroValue4
  t22 := Tryz.underlying23
  a22 := Tryz.isAgg23
  z22 := Tryz.sizeOf23
  v22 := Tryz.zeroValue23
  a24 := Tryz.isAgg3
  z24 := Tryz.sizeOf3
  a29 := Tryz.isAgg22
  z29 := Tryz.sizeOf22
  t32 := Tryz.underlying155
  a32 := Tryz.isAgg155
  z32 := Tryz.sizeOf155
  v32 := Tryz.zeroValue155
  t35 := Tryz.underlying42
  a35 := Tryz.isAgg42
  z35 := Tryz.sizeOf42
  v35 := Tryz.zeroValue42 }
end Go.Proofs
end
