/-
  The law Orders of package firmwarelaw returns true for every input: what is done to the new slot, of patches and of any other bytes.
  No condition: any two images, any bytes, any pieces.
-/
import Derived.Test.YtkmgcggoemlaaabGreatDoorJ15
import Derived.Test.YtkmgcggoemlaaabGreatDoorJ10
import Derived.Test.YtkmgcggoemlaaabGreatDoorJ12
import Derived.Test.YtkmgcggoemlaaabGreatDoorJ20
import Derived.Test.YtkmgcggoemlaaabGreatDoorJ25
import Derived.Test.YtkmgcggoemlaaabGreatDoorCards
import Derived.Test.YtkmgcggoemlaaabGreatDoorTie

section
/- What is told of the new slot: Events; the law's orderly and calm. No condition. -/
set_option linter.unusedSimpArgs false
set_option linter.unusedVariables false
namespace Go.Proofs.YtkmgcggoemlaaabGreatDoor
open Go.RowKit Go.Fwm

theorem info80b : (Tryz.prog.info? 57).map (fun i => (i.zero, i.size, i.bytes)) = some (some (.agg #[.int .i64 0, .int .i64 0]), 2, 16) := by kernel_rfl
/-- Events that lie in a row. -/
def EvB (w : World) (A : Option Addr) (l : List (Nat × Nat)) : Prop := ∀ (j : Nat) (x : Nat × Nat), l[j]? = some x → ∃ b, A = some ⟨b, 0, none⟩ ∧ w.cell? ⟨b, j * 2, none⟩ = some (.int .i64 (x.1 : Int)) ∧ w.cell? ⟨b, j * 2 + 1, none⟩ = some (.int .i64 (x.2 : Int))
theorem EvB.keep {w w' : World} {A : Option Addr} {l : List (Nat × Nat)} (h : EvB w A l) (e : ∀ a, A = some a → a.block < w.heap.size → w'.heap[a.block]? = w.heap[a.block]?) : EvB w' A l := fun j x hj => by
  obtain ⟨b, hA, h1, h2⟩ := h j x hj
  have hb := e _ hA (block_lt_of_cell (a := ⟨b, j * 2, none⟩) h1)
  exact ⟨b, hA, (World.cell?_of_block (a := ⟨b, j * 2, none⟩) hb).trans h1, (World.cell?_of_block (a := ⟨b, j * 2 + 1, none⟩) hb).trans h2⟩
theorem evCells_get : ∀ (l : List (Nat × Nat)) (j : Nat) (x : Nat × Nat), l[j]? = some x → (evCells l)[j * 2]? = some (.int .i64 (x.1 : Int)) ∧ (evCells l)[j * 2 + 1]? = some (.int .i64 (x.2 : Int))
  | [], j, x, h => by cases h
  | (k, p) :: l, 0, x, h => by
    simp at h; subst h
    exact ⟨rfl, rfl⟩
  | (k, p) :: l, j + 1, x, h => by
    have := evCells_get l j x (by simpa using h)
    rw [show (j + 1) * 2 = j * 2 + 1 + 1 by omega]
    unfold evCells
    exact this
theorem row_evb {w : World} {B n : Nat} {v : Value} {l : List (Nat × Nat)} (h : w.ownsRow B 57 2 v n (evCells l)) : ∃ A c, v = .slice A n c ∧ EvB w A l := by
  rcases h.2 with ⟨rfl, h0⟩ | ⟨g, cap, cur, rfl, hg, h2, h3, h4, h5, h6⟩
  · refine ⟨none, 0, by rw [h0], fun j x hj => ?_⟩
    have h1 := h.1
    rw [h0, evCells_length] at h1
    have : l = [] := List.eq_nil_of_length_eq_zero (by omega)
    rw [this] at hj; cases hj
  · refine ⟨_, cap, rfl, fun j x hj => ?_⟩
    obtain ⟨e1, e2⟩ := evCells_get l j x hj
    have key : ∀ i v, (evCells l)[i]? = some v → w.cell? ⟨g, i, none⟩ = some v := fun i v hv => by
      rw [World.cell_blk h2]
      rw [← h6] at hv
      rw [List.getElem?_take] at hv
      split at hv
      · simpa using hv
      · cases hv
    exact ⟨g, rfl, key _ _ e1, key _ _ e2⟩
theorem evclone_ok (w : World) (v : Value) (l : List (Nat × Nat)) (h : w.ownsRow 0 57 2 v l.length (evCells l)) (hl : l.length ≤ 1000000000) :
    Calls Tryz.prog 30 #[v] w fun e w' => ∃ A c, e = .returned (.slice A l.length c) ∧ EvB w' A l ∧ Below w.heap.size w w' := by
  rcases h.2 with ⟨rfl, h0⟩ | ⟨g, cap, cur, rfl, hg, h2, h3, h4, h5, h6⟩
  · have heq : ∀ w : World, (binOp .eql 45 (.slice none 0 0) (.slice none 0 0)).run Tryz.prog w = .ok (.bool true) w := fun w => by
      simp only [binOp, Sem.run_bind, run_equal_slice_nil w 45 57 none 0 0 Tryz.underlying45]; rfl
    obtain rfl : l = [] := List.eq_nil_of_length_eq_zero h0
    clear h h0
    go_enter Tryz.func30, Tryz.ntmps30
    go_wp2
    go_ret
    exact ⟨none, 0, rfl, fun j x hj => (by cases hj), Below.refl _ _⟩
  · obtain ⟨n, hn⟩ : ∃ n, l.length = n := ⟨_, rfl⟩
    obtain ⟨i0, hi, hz0, hz1, hz2⟩ := info_parts info80b
    have hel := evCells_length l
    obtain ⟨ys, hys⟩ : ∃ ys, ys = evCells l := ⟨_, rfl⟩
    have hw2 : (w.alloc (.cells #[] 57)).ownsRow w.heap.size 57 2 (.slice (some ⟨w.heap.size, 0, none⟩) 0 0) 0 [] :=
      ⟨rfl, .inr ⟨w.heap.size, 0, #[], rfl, Nat.le_refl _, heap_alloc_new w _, Nat.le_refl _, Nat.zero_le _, rfl, rfl⟩⟩
    have hsrc : ∀ j u, ys[j]? = some u → (w.alloc (.cells #[] 57)).cell? ((⟨g, 0, none⟩ : Addr).add j) = some u := fun j u hj => by
      rw [show (⟨g, 0, none⟩ : Addr).add j = ⟨g, j, none⟩ by unfold Addr.add; split <;> simp_all]
      have : w.cell? ⟨g, j, none⟩ = some u := by
        rw [World.cell_blk h2]
        rw [hys, ← h6, List.getElem?_take] at hj
        split at hj
        · simpa using hj
        · cases hj
      exact (World.cell?_alloc_lt w _ _ (block_lt_of_cell this)).trans this
    have hone : ∀ v ∈ ys, v.oneCell' = true := by
      rw [hys]
      intro v hv
      have : ∀ (l : List (Nat × Nat)) (v : Value), v ∈ evCells l → v.oneCell' = true := fun l => by
        induction l with
        | nil => intro v h; cases h
        | cons x l ih =>
          obtain ⟨k, p⟩ := x
          intro v h
          simp [evCells] at h
          rcases h with rfl | rfl | h
          · rfl
          · rfl
          · exact ih v h
      exact this l v hv
    have heq : ∀ w : World, (binOp .eql 45 (.slice (some ⟨g, 0, none⟩) n cap) (.slice none 0 0)).run Tryz.prog w = .ok (.bool false) w := fun w => by
      simp only [binOp, Sem.run_bind, run_equal_slice_nil w 45 57 (some ⟨g, 0, none⟩) n cap Tryz.underlying45]; rfl
    rw [hn] at hl hel ⊢
    rw [← hys] at hel
    have HS := Lib.hid hsrc; have HO := Lib.hid hone; have HW := Lib.hid hw2; have HYL := Lib.hid hel; have HYS := Lib.hid hys; have HNN := Lib.hid hn
    clear hsrc hone hw2 h hel hys hn h2 h3 h4 h5 h6
    go_enter Tryz.func30, Tryz.ntmps30
    go_wp2_with (at_builtin; go_loud (refine wpList_append_own _ ?g1 (.tmp 5) (.tmp 6) 45 ?g2 w.heap.size 57 i0 (.agg #[.int .i64 0, .int .i64 0]) 2 16 ?g3 ?g4 ?g5 ?g6 ?g7 ?g8 ?g9 (.slice (some ⟨w.heap.size, 0, none⟩) 0 0) 0 [] ?g10 ?g11 ⟨g, 0, none⟩ n cap ys ?g12 ?g13 ?g14 ?g15 ?g16 ?g17 ?g18 ?g19))
    case g1 => exact rfl
    case g2 => exact rfl
    case g3 => exact Tryz.underlying45
    case g4 => exact hi
    case g5 => exact hz0
    case g6 => exact hz1
    case g7 => exact hz2
    case g8 => exact rfl
    case g9 => omega
    case g10 => exact rfl
    case g11 => exact HW.out
    case g12 => exact rfl
    case g13 => exact HYL.out
    case g14 => exact HS.out
    case g15 => exact HO.out
    case g16 => simp only [maxLen]; omega
    case g17 => omega
    case g18 => simp
    case g19 =>
      intro v' w' hown hgr hnil
      replace hown : w'.ownsRow w.heap.size 57 2 v' n ys := by simpa using hown
      rw [HYS.out] at hown
      obtain ⟨A, c, rfl, hb⟩ := row_evb hown
      have HB := Lib.hid hb
      have HG := Lib.hid hgr
      have hown2 : ∀ k, (Value.slice A n c).ownBlock = some k → w.heap.size ≤ k := fun k e => by
        rcases hown.2 with ⟨e2, _⟩ | ⟨g', cap', cur', e2, hg', _⟩
        · rw [e2] at e; cases e
        · rw [e2] at e; cases e; exact hg'
      clear hown hb hgr hnil
      go_wp2
      go_ret
      exact ⟨A, c, rfl, HB.out, ((Below.refl _ w).alloc (Nat.le_refl _) _).grown HG.out (by simp) (fun k e => by simp [Value.ownBlock] at e; omega)⟩
theorem events_ok (w : World) (X : Nat → Prop) (pf bf be : Nat) (f : Fl) (h : FRep w X pf bf be f) (hl : f.events.length ≤ 1000000000) :
    Calls Tryz.prog 22 #[.pointer (some ⟨pf, 0, none⟩)] w fun e w' => ∃ A c, e = .returned (.slice A f.events.length c) ∧ EvB w' A f.events ∧ Below w.heap.size w w' := by
  obtain ⟨ao, co, cf, ve, h1, h2, h3, h4, h5, _⟩ := h.blk
  have hc2 : w.cell? ⟨pf, 2, none⟩ = some ve := h1.cell rfl
  have hcl := evclone_ok w ve f.events h5.1 hl
  have HC := Lib.hid hcl
  clear h h1 h2 h3 h4 h5 hcl
  go_enter Tryz.func22, Tryz.ntmps22
  go_wp2_with (go_at_call 30; refine HC.out.mono ?_; rintro e w1 ⟨A, c, rfl, hb, hbl⟩; have HB := Lib.hid (And.intro hb hbl); clear hb hbl)
  go_ret
  exact ⟨A, c, rfl, HB.out.1, HB.out.2⟩

/-- What lies at the j-th place, of the first things that are done. -/
theorem evs_get {j i : Nat} (h : i < j) : (evs j)[i]? = some (i % 2, i / 2) := by simp [evs, h]
theorem evs_len (j : Nat) : (evs j).length = j := by simp [evs]
end Go.Proofs.YtkmgcggoemlaaabGreatDoor
end

section
/- The law's orderly. No condition. -/
set_option linter.unusedSimpArgs false
set_option linter.unusedVariables false
namespace Go.Proofs.YtkmgcggoemlaaabGreatDoor
open Go.RowKit Go.Fwm

set_option maxRecDepth 100000 in
set_option maxHeartbeats 2000000 in
theorem orderly_no (w : World) (X : Nat → Prop) (pf bf be : Nat) (f : Fl) (h : FRep w X pf bf be f) (j : Nat) (hj : j ≤ 1000000000) (he : f.events = evs j) :
    Calls Tryz.prog 11 #[.pointer (some ⟨pf, 0, none⟩), .bool false] w fun e w' => e = .returned (.bool true) ∧ Below w.heap.size w w' := by
  have hev := events_ok w X pf bf be f h (by rw [he, evs_len]; exact hj)
  rw [he, evs_len] at hev
  have HE := Lib.hid hev
  clear hev h
  go_enter Tryz.func11, Tryz.ntmps11
  go_wp2_with (go_at_call 22; refine HE.out.mono ?_; rintro e w1 ⟨A, c, rfl, hb, hbl⟩; have HB := Lib.hid hb; have HBL := Lib.hid hbl; clear hb hbl)
  go_loopw [6, 7, 8] (fun pg pr i wr => ∃ k d : Nat, k ≤ j ∧ pg = .int .i64 (k / 2 : Nat) ∧ pr = .bool (decide (k % 2 = 0)) ∧ i = .int .i64 k ∧ wr = w1.drewN d) (fun _ _ i _ => j - (intOf i).toNat)
  case atStart => exact ⟨0, 0, Nat.zero_le _, rfl, rfl, rfl, rfl⟩
  case round =>
    obtain ⟨k, d, hk, rfl, rfl, rfl, rfl⟩ := hrel
    by_cases hlt : k < j
    · obtain ⟨b, rfl, hd1, hd2⟩ := HB.out k (k % 2, k / 2) (evs_get hlt)
      have hc1 : w1.cell? ⟨b, k * 2, none⟩ = some (.int .i64 ((k % 2 : Nat) : Int)) := hd1
      have hc2 : w1.cell? ⟨b, k * 2 + 1, none⟩ = some (.int .i64 ((k / 2 : Nat) : Int)) := hd2
      clear hd1 hd2
      have hk0 : (0 : Int) ≤ (k : Int) := by omega
      have HK := Lib.hid (And.intro hk hlt)
      have hm : k % 2 = 0 ∨ k % 2 = 1 := by omega
      obtain ⟨q, hq⟩ : ∃ q : Nat, q = k / 2 := ⟨_, rfl⟩
      rw [← hq] at hc2 ⊢
      have hqb : q ≤ 1000000000 := by omega
      have HQ := Lib.hid hq
      clear hq
      rcases hm with hm | hm
      · have HM := Lib.hid hm
        rw [hm] at hc1
        rw [show decide (k % 2 = 0) = true by simp [hm]]
        clear hm
        go_wp2
        go_roundw
        case rel => have h1 := HK.out; have h2 := HM.out; have h3 := HQ.out; exact ⟨k + 1, _, by omega, by congr 2; omega, by congr 1; symm; simp; omega, by go_num, rfl⟩
        case measure => have := HK.out; simp [intOf]; omega
      · have HM := Lib.hid hm
        rw [hm] at hc1
        rw [show decide (k % 2 = 0) = false by simp [hm]]
        clear hm
        go_wp2
        go_roundw
        case rel => have h1 := HK.out; have h2 := HM.out; have h3 := HQ.out; exact ⟨k + 1, _, by omega, by congr 1; omega, by congr 1; symm; simp; omega, by go_num, rfl⟩
        case measure => have := HK.out; simp [intOf]; omega
    · go_wp2
      go_ret
      exact ⟨rfl, HBL.out.os, HBL.out.tape, HBL.out.output, HBL.out.size, HBL.out.block⟩
set_option maxRecDepth 100000 in
set_option maxHeartbeats 2000000 in
theorem orderly_yes (w : World) (X : Nat → Prop) (pf bf be : Nat) (f : Fl) (h : FRep w X pf bf be f) (N : Nat) (hN : N ≤ 100000) (he : f.events = evs (2 * ((N + 63) / 64)) ++ [(2, N)]) :
    Calls Tryz.prog 11 #[.pointer (some ⟨pf, 0, none⟩), .bool true] w fun e w' => e = .returned (.bool true) ∧ Below w.heap.size w w' := by
  have hlen : f.events.length = 2 * ((N + 63) / 64) + 1 := by rw [he, List.length_append, evs_len]; rfl
  have hev := events_ok w X pf bf be f h (by omega)
  obtain ⟨K, hK⟩ : ∃ K, K = (N + 63) / 64 := ⟨_, rfl⟩
  obtain ⟨j, hj⟩ : ∃ j, j = 2 * K := ⟨_, rfl⟩
  rw [hlen, he, ← hK, ← hj] at hev
  have hKi : ((N : Int) + 64 - 1) / 64 = (K : Int) := by omega
  have hjb : j ≤ 10000 := by omega
  have HE := Lib.hid hev
  have HJ2 := Lib.hid hj
  clear hev h he hlen hK hj
  go_enter Tryz.func11, Tryz.ntmps11
  go_wp2_with (go_at_call 22; refine HE.out.mono ?_; rintro e w1 ⟨A, c, rfl, hb, hbl⟩; have HB := Lib.hid hb; have HBL := Lib.hid hbl; clear hb hbl)
  go_loopw [6, 7, 8] (fun pg pr i wr => ∃ k d : Nat, k ≤ j ∧ pg = .int .i64 (k / 2 : Nat) ∧ pr = .bool (decide (k % 2 = 0)) ∧ i = .int .i64 k ∧ wr = w1.drewN d) (fun _ _ i _ => j + 1 - (intOf i).toNat)
  case atStart => exact ⟨0, 0, Nat.zero_le _, rfl, rfl, rfl, rfl⟩
  case round =>
    obtain ⟨k, d, hk, rfl, rfl, rfl, rfl⟩ := hrel
    have hk0 : (0 : Int) ≤ (k : Int) := by omega
    by_cases hlt : k < j
    · obtain ⟨b, rfl, hd1, hd2⟩ := HB.out k (k % 2, k / 2) (by rw [List.getElem?_append_left (by rw [evs_len]; exact hlt)]; exact evs_get hlt)
      have hc1 : w1.cell? ⟨b, k * 2, none⟩ = some (.int .i64 ((k % 2 : Nat) : Int)) := hd1
      have hc2 : w1.cell? ⟨b, k * 2 + 1, none⟩ = some (.int .i64 ((k / 2 : Nat) : Int)) := hd2
      clear hd1 hd2
      have hlt1 : (k : Int) < (j : Int) + 1 := by omega
      have HK := Lib.hid (And.intro hk hlt)
      have hm : k % 2 = 0 ∨ k % 2 = 1 := by omega
      obtain ⟨q, hq⟩ : ∃ q : Nat, q = k / 2 := ⟨_, rfl⟩
      rw [← hq] at hc2 ⊢
      have hqb : q ≤ 1000000000 := by omega
      have HQ := Lib.hid hq
      clear hq
      rcases hm with hm | hm
      · have HM := Lib.hid hm
        rw [hm] at hc1
        rw [show decide (k % 2 = 0) = true by simp [hm]]
        clear hm
        go_wp2
        go_roundw
        case rel => have h1 := HK.out; have h2 := HM.out; have h3 := HQ.out; exact ⟨k + 1, _, by omega, by congr 2; omega, by congr 1; symm; simp; omega, by go_num, rfl⟩
        case measure => have := HK.out; simp [intOf]; omega
      · have HM := Lib.hid hm
        rw [hm] at hc1
        rw [show decide (k % 2 = 0) = false by simp [hm]]
        clear hm
        go_wp2
        go_roundw
        case rel => have h1 := HK.out; have h2 := HM.out; have h3 := HQ.out; exact ⟨k + 1, _, by omega, by congr 1; omega, by congr 1; symm; simp; omega, by go_num, rfl⟩
        case measure => have := HK.out; simp [intOf]; omega
    · obtain rfl : k = j := by omega
      obtain ⟨b, rfl, hd1, hd2⟩ := HB.out k (2, N) (by rw [List.getElem?_append_right (by rw [evs_len]; exact Nat.le_refl _), evs_len, Nat.sub_self]; rfl)
      have hc1 : w1.cell? ⟨b, k * 2, none⟩ = some (.int .i64 2) := hd1
      have hc2 : w1.cell? ⟨b, k * 2 + 1, none⟩ = some (.int .i64 (N : Int)) := hd2
      clear hd1 hd2
      have hkk : k / 2 = K := by have := HJ2.out; omega
      rw [hkk, show decide (k % 2 = 0) = true by have := HJ2.out; simp; omega]
      clear hkk hlt hk
      go_wp2
      go_ret
      exact ⟨rfl, HBL.out.os, HBL.out.tape, HBL.out.output, HBL.out.size, HBL.out.block⟩
end Go.Proofs.YtkmgcggoemlaaabGreatDoor
end

section
/- The model: when the power is cut: a call answers so, or does what it does with power. No condition. -/
namespace Go.Fwm

/-- The same flash, whose power will not be cut. -/
def Fl.unw (f : Fl) : Fl := { f with wait := -1 }
theorem Fl.unw_cut (f : Fl) : f.unw.cut = f.unw := by unfold Fl.cut; rw [if_neg (by show ¬ (0 : Int) < -1; omega)]
theorem Fl.unw_cutB (f : Fl) : f.unw.cutB = false := rfl
theorem Fl.cut_unw (f : Fl) : f.cut.unw = f.unw := by unfold Fl.cut; split <;> rfl
/-- As with power, or: the power is cut. -/
def Sim (e e' : Option Nat) (P : Prop) : Prop := e = some 7 ∨ (e = e' ∧ P)
theorem Fl.erase_sim (f : Fl) (p : Nat) : Sim (f.erase p).err (f.unw.erase p).err ((f.unw.erase p).f = (f.erase p).f.unw) := by
  unfold Fl.erase
  rw [show f.unw.pages = f.pages from rfl]
  by_cases hp : p < f.pages
  · rw [if_pos hp, if_pos hp]
    cases hc : f.cutB with
    | true => exact .inl rfl
    | false =>
      refine .inr ⟨rfl, ?_⟩
      show ({ ({ f.unw with events := f.events ++ [(0, p)] } : Fl).cut with fresh := setFrom f.fresh p (fun _ _ => 255) (f.unw.tornN 64) } : Fl) = ({ ({ f with events := f.events ++ [(0, p)] } : Fl).cut with fresh := setFrom f.fresh p (fun _ _ => 255) (f.tornN 64) } : Fl).unw
      have h1 : f.unw.tornN 64 = f.tornN 64 := by unfold Fl.tornN; rw [hc]; rfl
      rw [h1]
      have h2 : ({ f.unw with events := f.events ++ [(0, p)] } : Fl).cut = ({ f with events := f.events ++ [(0, p)] } : Fl).cut.unw := by
        rw [Fl.cut_unw]; exact Fl.unw_cut { f with events := f.events ++ [(0, p)] }
      rw [h2]; rfl
  · rw [if_neg hp, if_neg hp]
    exact .inr ⟨rfl, rfl⟩
theorem Fl.program_sim (f : Fl) (p : Nat) (b : List UInt8) : Sim (f.program p b).err (f.unw.program p b).err ((f.unw.program p b).f = (f.program p b).f.unw) := by
  unfold Fl.program
  rw [show f.unw.pages = f.pages from rfl]
  by_cases hp : p < f.pages
  · rw [if_pos hp, if_pos hp]
    cases hc : f.cutB with
    | true => exact .inl rfl
    | false =>
      refine .inr ⟨rfl, ?_⟩
      show ({ ({ f.unw with events := f.events ++ [(1, p)] } : Fl).cut with fresh := setFrom f.fresh p (fun i x => x &&& b.getD i 0) (f.unw.tornN b.length) } : Fl) = ({ ({ f with events := f.events ++ [(1, p)] } : Fl).cut with fresh := setFrom f.fresh p (fun i x => x &&& b.getD i 0) (f.tornN b.length) } : Fl).unw
      have h1 : f.unw.tornN b.length = f.tornN b.length := by unfold Fl.tornN; rw [hc]; rfl
      rw [h1]
      have h2 : ({ f.unw with events := f.events ++ [(1, p)] } : Fl).cut = ({ f with events := f.events ++ [(1, p)] } : Fl).cut.unw := by
        rw [Fl.cut_unw]; exact Fl.unw_cut { f with events := f.events ++ [(1, p)] }
      rw [h2]; rfl
  · rw [if_neg hp, if_neg hp]
    exact .inr ⟨rfl, rfl⟩
theorem Fl.commit_sim (f : Fl) (n : Nat) : Sim (f.commit n).err (f.unw.commit n).err ((f.unw.commit n).f = (f.commit n).f.unw) := by
  unfold Fl.commit
  rw [show f.unw.fresh = f.fresh from rfl, Fl.unw_cutB]
  split
  · exact .inr ⟨rfl, rfl⟩
  · cases hc : f.cutB with
    | true => exact .inl rfl
    | false =>
      refine .inr ⟨rfl, ?_⟩
      show ({ f.unw.cut with events := f.events ++ [(2, n)], length := n, committed := true } : Fl) = ({ f.cut with events := f.events ++ [(2, n)], length := n, committed := true } : Fl).unw
      rw [Fl.unw_cut, ← Fl.cut_unw f]; rfl
theorem Fl.read_sim (f : Fl) (i n : Nat) : Sim (f.read i n).err (f.unw.read i n).err ((f.unw.read i n).f = (f.read i n).f.unw ∧ (f.unw.read i n).buf = (f.read i n).buf) := by
  unfold Fl.read
  rw [Fl.unw_cutB]
  cases hc : f.cutB with
  | true => exact .inl rfl
  | false =>
    refine .inr ⟨rfl, ?_, rfl⟩
    show ({ f.unw.cut with reads := f.reads + 1, longest := max f.longest n } : Fl) = ({ f.cut with reads := f.reads + 1, longest := max f.longest n } : Fl).unw
    rw [Fl.unw_cut, ← Fl.cut_unw f]; rfl
/-- Of a call on an applier. -/
def ASim (r r' : AR) : Prop := Sim r.err r'.err (r'.a = r.a ∧ r'.f = r.f.unw)
theorem Ap.read_sim (a : Ap) (f : Fl) (i n : Nat) : ASim (a.read f i n) (a.read f.unw i n) := by
  unfold Ap.read ASim
  rcases Fl.read_sim f i (min n 64) with h | ⟨h1, h2, h3⟩
  · left; simp only [h]
  · right
    simp only [h1, h2, h3]
    exact ⟨trivial, trivial, trivial⟩
theorem Ap.write_sim (a : Ap) (f : Fl) (p n : Nat) : ASim (a.write f p n) (a.write f.unw p n) := by
  unfold Ap.write ASim
  rcases Fl.erase_sim f p with h | ⟨h1, h2⟩
  · left; simp only [h]
  · simp only [h1, h2]
    cases he : (f.unw.erase p).err with
    | some e => right; exact ⟨rfl, rfl, rfl⟩
    | none =>
      simp only
      rcases Fl.program_sim (f.erase p).f p (a.page.take n) with q | ⟨q1, q2⟩
      · exact .inl q
      · exact .inr ⟨q1, by trivial, q2⟩
theorem ASim.same (a : Ap) (f : Fl) (e : Option Nat) : ASim { err := e, a, f } { err := e, a, f := f.unw } := .inr ⟨rfl, rfl, rfl⟩
theorem Ap.put_sim (a : Ap) (f : Fl) (b : UInt8) : ASim (a.put f b) (a.put f.unw b) := by
  unfold Ap.put
  simp only
  split
  · exact Ap.write_sim _ _ _ _
  · exact ASim.same _ _ _
theorem Ap.flush_sim (a : Ap) (f : Fl) : ASim (a.flush f) (a.flush f.unw) := by
  unfold Ap.flush
  split
  · exact Ap.write_sim _ _ _ _
  · exact ASim.same _ _ _
theorem Ap.puts_sim (l : List UInt8) : ∀ (a : Ap) (f : Fl), ASim (a.puts f l) (a.puts f.unw l) := by
  induction l with
  | nil => intro a f; exact ASim.same _ _ _
  | cons b l ih =>
    intro a f
    unfold Ap.puts
    rcases Ap.put_sim a f b with h | ⟨h1, h2, h3⟩
    · simp only [h]; exact .inl rfl
    · simp only [h1, h2, h3]
      cases he : (a.put f.unw b).err with
      | some e => exact .inr ⟨rfl, rfl, rfl⟩
      | none => exact ih _ _
theorem Ap.copyL_sim : ∀ (k n : Nat) (a : Ap) (f : Fl) (i : Nat), ASim (a.copyL f i k n) (a.copyL f.unw i k n)
  | 0, n, a, f, i => by unfold Ap.copyL; exact ASim.same _ _ _
  | k + 1, n, a, f, i => by
    unfold Ap.copyL
    split
    · exact ASim.same _ _ _
    · rcases Ap.read_sim a f i n with h | ⟨h1, h2, h3⟩
      · simp only [h]; exact .inl rfl
      · simp only [h1, h2, h3]
        cases he : (a.read f.unw i n).err with
        | some e => exact .inr ⟨rfl, rfl, rfl⟩
        | none =>
          simp only
          rcases Ap.puts_sim (a.read f i n).a.buf (a.read f i n).a (a.read f i n).f with q | ⟨q1, q2, q3⟩
          · simp only [q]; exact .inl rfl
          · simp only [q1, q2, q3]
            cases hp : ((a.read f i n).a.puts (a.read f i n).f.unw (a.read f i n).a.buf).err with
            | some e => exact .inr ⟨rfl, rfl, rfl⟩
            | none => exact Ap.copyL_sim k _ _ _ _
theorem Ap.copy_sim (a : Ap) (f : Fl) (i n : Nat) : ASim (a.copy f i n) (a.copy f.unw i n) := by
  unfold Ap.copy
  split
  · exact ASim.same _ _ _
  · exact Ap.copyL_sim _ _ _ _ _
def SSim (r r' : SumR) : Prop := Sim r.err r'.err (r'.a = r.a ∧ r'.f = r.f.unw ∧ r'.got = r.got)
theorem Ap.sumOld_sim : ∀ (k : Nat) (a : Ap) (f : Fl) (g i : Nat), SSim (a.sumOld f g k i) (a.sumOld f.unw g k i)
  | 0, a, f, g, i => by unfold Ap.sumOld; exact .inr ⟨rfl, rfl, rfl, rfl⟩
  | k + 1, a, f, g, i => by
    unfold Ap.sumOld
    split
    · exact .inr ⟨rfl, rfl, rfl, rfl⟩
    · rcases Ap.read_sim a f i (a.size - i) with h | ⟨h1, h2, h3⟩
      · simp only [h]; exact .inl rfl
      · simp only [h1, h2, h3]
        cases he : (a.read f.unw i (a.size - i)).err with
        | some e => exact .inr ⟨rfl, rfl, rfl, rfl⟩
        | none => exact Ap.sumOld_sim k _ _ _ _
def RSim (r r' : R) : Prop := Sim r.err r'.err (r'.a = r.a ∧ r'.f = r.f.unw ∧ r'.st = r.st)
theorem Ap.more_sim (a : Ap) (f : Fl) : RSim (a.more f) (a.more f.unw) := by
  unfold Ap.more
  split
  · exact .inr ⟨rfl, rfl, rfl, rfl⟩
  · rcases Ap.flush_sim a f with h | ⟨h1, h2, h3⟩
    · exact .inl h
    · exact .inr ⟨h1, h2, h3, rfl⟩
theorem RSim.same (a : Ap) (f : Fl) (e : Option Nat) (s : St) : RSim { err := e, st := s, a, f } { err := e, st := s, a, f := f.unw } := .inr ⟨rfl, rfl, rfl, rfl⟩
theorem Ap.stepB_sim (a : Ap) (f : Fl) (b : UInt8) : RSim (a.stepB f b) (a.stepB f.unw b) := by
  unfold Ap.stepB
  cases a.st with
  | oldSize => simp only; split <;> exact RSim.same _ _ _ _
  | oldSum =>
    simp only
    split
    · rw [show f.unw.old = f.old from rfl]
      split
      · exact RSim.same _ _ _ _
      · rcases Ap.sumOld_sim (((a.addSum b).fixed b).a.size + 1) ((a.addSum b).fixed b).a f 0 0 with h | ⟨h1, h2, h3, h4⟩
        · simp only [h]; exact .inl rfl
        · simp only [h1, h2, h3, h4]
          cases he : (((a.addSum b).fixed b).a.sumOld f.unw 0 (((a.addSum b).fixed b).a.size + 1) 0).err with
          | some e => exact .inr ⟨rfl, rfl, rfl, rfl⟩
          | none => simp only; split <;> exact RSim.same _ _ _ _
    · exact RSim.same _ _ _ _
  | newSize =>
    simp only
    split
    · rw [show f.unw.pages = f.pages from rfl]
      split
      · exact RSim.same _ _ _ _
      · exact Ap.more_sim _ _
    · exact RSim.same _ _ _ _
  | step => simp only; split <;> exact RSim.same _ _ _ _
  | counted =>
    simp only
    split
    · split
      · exact RSim.same _ _ _ _
      · split
        · exact RSim.same _ _ _ _
        · split
          · exact RSim.same _ _ _ _
          · rcases Ap.copy_sim { (a.number b).a with count := (a.number b).a.value } f (a.number b).a.made (a.number b).a.value with h | ⟨h1, h2, h3⟩
            · exact .inl h
            · exact .inr ⟨h1, h2, h3, rfl⟩
    · exact RSim.same _ _ _ _
  | own =>
    simp only
    rcases Ap.put_sim (a.addSum b) f b with h | ⟨h1, h2, h3⟩
    · simp only [h]; exact .inl rfl
    · simp only [h1, h2, h3]
      cases he : ((a.addSum b).put f.unw b).err with
      | some e => exact .inr ⟨rfl, rfl, rfl, rfl⟩
      | none =>
        simp only
        split
        · exact RSim.same _ _ _ _
        · exact Ap.more_sim _ _
  | place =>
    simp only
    split
    · rcases Ap.copy_sim (a.number b).a f (a.number b).a.value (a.number b).a.count with h | ⟨h1, h2, h3⟩
      · simp only [h]; exact .inl rfl
      · simp only [h1, h2, h3]
        cases he : ((a.number b).a.copy f.unw (a.number b).a.value (a.number b).a.count).err with
        | some e => exact .inr ⟨rfl, rfl, rfl, rfl⟩
        | none => exact Ap.more_sim _ _
    · exact RSim.same _ _ _ _
  | beside =>
    simp only
    split
    · exact RSim.same _ _ _ _
    · rcases Ap.put_sim (a.addSum b) f b with h | ⟨h1, h2, h3⟩
      · simp only [h]; exact .inl rfl
      · simp only [h1, h2, h3]
        cases he : ((a.addSum b).put f.unw b).err with
        | some e => exact .inr ⟨rfl, rfl, rfl, rfl⟩
        | none => exact Ap.more_sim _ _
  | fin => simp only; split <;> first | exact RSim.same _ _ _ _ | (split <;> exact RSim.same _ _ _ _)
  | over => exact RSim.same _ _ _ _
/-- Behind bytes: the power was cut; or all is as with power. -/
def FSim (x y : AF) : Prop := x.a.fault = .errno 7 ∨ (y.a = x.a ∧ y.f = x.f.unw)
theorem AF.byte_sim {x y : AF} (h : FSim x y) (b : UInt8) : FSim (x.byte b) (y.byte b) := by
  rcases h with h | ⟨h1, h2⟩
  · rw [byte_bad (by rw [h]; simp)]; exact .inl h
  · unfold AF.byte
    rw [h1, h2]
    by_cases hf : x.a.fault ≠ .none
    · rw [if_pos hf, if_pos hf]; exact .inr ⟨h1, h2⟩
    · rw [if_neg hf, if_neg hf]
      rcases Ap.stepB_sim x.a x.f b with q | ⟨q1, q2, q3, q4⟩
      · simp only [q]; exact .inl rfl
      · simp only [q1, q2, q3, q4]
        cases (x.a.stepB x.f.unw b).err with
        | some e => exact .inr ⟨rfl, rfl⟩
        | none => exact .inr ⟨rfl, rfl⟩
theorem AF.feed_sim (l : List UInt8) : ∀ {x y : AF}, FSim x y → FSim (x.feed l) (y.feed l) := by
  induction l with
  | nil => intro x y h; exact h
  | cons b l ih => intro x y h; exact ih (AF.byte_sim h b)
/-- All of a patch: the power was cut; or all is as with power. -/
theorem apply_sim (f : Fl) (l : List UInt8) : (f.apply l).fault = .errno 7 ∨ ((f.unw.apply l).fault = (f.apply l).fault ∧ (f.unw.apply l).x.a = (f.apply l).x.a ∧ (f.unw.apply l).x.f = (f.apply l).x.f.unw) := by
  have h := AF.feed_sim l (x := { a := Ap.init, f }) (y := { a := Ap.init, f := f.unw }) (.inr ⟨rfl, rfl⟩)
  unfold Fl.apply
  generalize AF.feed { a := Ap.init, f } l = x at h
  generalize AF.feed { a := Ap.init, f := f.unw } l = y at h
  rcases h with h | ⟨h1, h2⟩
  · left; rw [fin_bad (by rw [h]; simp)]; exact h
  · unfold AF.finish
    rw [h1, h2]
    by_cases hf : x.a.fault ≠ .none
    · rw [if_pos hf, if_pos hf]; exact .inr ⟨rfl, h1, h2⟩
    · rw [if_neg hf, if_neg hf]
      split
      · exact .inr ⟨rfl, rfl, rfl⟩
      · rcases Fl.commit_sim x.f x.a.length with q | ⟨q1, q2⟩
        · left; simp only [q]
        · simp only [q1, q2]
          cases (x.f.unw.commit x.a.length).err with
          | some e => exact .inr ⟨rfl, rfl, rfl⟩
          | none => exact .inr ⟨rfl, rfl, rfl⟩
end Go.Fwm
end

section
/- The model: what is done to the new slot, whatever is fed; a patch that is right, when the power may be cut. No condition. -/
namespace Go.Fwm

/-- It is committed, or not. -/
inductive AllS (f : Fl) (y : FinR) : Prop
  | done (n : Nat) (hf : y.fault = .none) (h : FI f (2 * ((n + 63) / 64)) { y.x.f with events := f.events ++ evs (2 * ((n + 63) / 64)), committed := f.committed, length := f.length }) (hc : y.x.f.committed = true) (hl : y.x.f.length = n)
      (he : y.x.f.events = f.events ++ evs (2 * ((n + 63) / 64)) ++ [(2, n)]) (hr : y.x.f.reads ≤ f.reads + 8192)
  | not (j : Nat) (hf : y.fault ≠ .none) (h : FI f j y.x.f) (hr : y.x.f.reads ≤ f.reads + 8192)
theorem Inv.reads {f0 f : Fl} {R0 : Nat} {out : List UInt8} {a : Ap} (h : Inv f0 R0 out a f) : f.reads ≤ R0 + 8192 := by
  have h1 := h.rd
  have h2 := h.ml
  have h3 := h.lp
  have h4 := h.pg
  split at h1 <;> omega
theorem apply_all (f : Fl) (h1 : f.old.length ≤ 4096) (h2 : f.pages ≤ 64) (l : List UInt8) : AllS f (f.apply l) := by
  cases ((init_stt f h1 h2).feed l).finish with
  | done out h hs hf ha hfl hw =>
    have hD := (h.done (by rw [hs]; rfl)).2
    have hc := hD.fi.cut
    have hm : (AF.feed { a := Ap.init, f } l).a.made = out.length := hD.made
    obtain ⟨c1, c2, c3, c4, c5, c6, c7, c8⟩ := Fl.cut_keep (AF.feed { a := Ap.init, f } l).f
    rw [hm] at hc
    have he : (AF.feed { a := Ap.init, f } l).f.events = f.events ++ evs (2 * ((out.length + 63) / 64)) := by rw [← hm]; exact hD.fi.ev
    refine .done out.length hf ?_ ?_ ?_ ?_ ?_
    · show FI f _ { (AF.finish _).x.f with events := _, committed := _, length := _ }
      rw [hfl]
      exact ⟨hc.old, hc.fresh, rfl, rfl, hc.torn, rfl, hc.longest, hc.wait⟩
    · show (AF.finish _).x.f.committed = _; rw [hfl]
    · show (AF.finish _).x.f.length = _; rw [hfl]
    · show (AF.finish _).x.f.events = _; rw [hfl]; show (AF.feed { a := Ap.init, f } l).f.events ++ _ = _; rw [he]
    · show (AF.finish _).x.f.reads ≤ _; rw [hfl]; show (Fl.cut _).reads ≤ _; rw [c4]; exact h.reads
  | short out h hs hf ha hfl =>
    obtain ⟨j, hj⟩ := h.fi
    refine .not j ?_ ?_ ?_
    · show (AF.finish _).fault ≠ _; rw [hf]; simp
    · show FI f j (AF.finish _).x.f; rw [hfl]; exact hj
    · show (AF.finish _).x.f.reads ≤ _; rw [hfl]; exact h.reads
  | pow out h hw hw0 hf ha hfl =>
    obtain ⟨j, hj⟩ := h.fi
    refine .not j ?_ ?_ ?_
    · show (AF.finish _).fault ≠ _; rw [hf]; simp
    · show FI f j (AF.finish _).x.f; rw [hfl]; exact hj
    · show (AF.finish _).x.f.reads ≤ _; rw [hfl]; exact h.reads
  | bad e hx h hf hy =>
    obtain ⟨j, hj⟩ := h.fi
    refine .not j ?_ ?_ ?_
    · show (AF.finish _).fault ≠ _; rw [hf, hx]; split <;> simp
    · show FI f j (AF.finish _).x.f; rw [hy]; exact hj
    · show (AF.finish _).x.f.reads ≤ _; rw [hy]; exact h.rd
/-- A patch that is right: the power was cut; or the new image lies there. -/
inductive PowS (f : Fl) (old new : List UInt8) (y : FinR) : Prop
  | cut (j : Nat) (hf : y.fault = .errno 7) (h : FI f j y.x.f) (hr : y.x.f.reads ≤ f.reads + 8192)
  | good (hf : y.fault = .none) (hc : y.x.f.committed = true) (hl : y.x.f.length = new.length) (hn : y.x.f.fresh.take new.length = new) (ho : y.x.f.old = old) (hfr : y.x.f.fresh.length = f.fresh.length)
      (he : y.x.f.events = f.events ++ evs (2 * ((new.length + 63) / 64)) ++ [(2, new.length)]) (hr : y.x.f.reads ≤ f.reads + 8192)
theorem patch_pow (f : Fl) (old new : List UInt8) (ho : old.length ≤ 4096) (hf : f.old = old) (hp : f.pages ≤ 64) (hn : new.length ≤ f.pages * 64) : PowS f old new (f.apply (patchG (lgOf old) old new)) := by
  have hall := apply_all f (by rw [hf]; exact ho) hp (patchG (lgOf old) old new)
  have hrd : (f.apply (patchG (lgOf old) old new)).x.f.reads ≤ f.reads + 8192 := by cases hall <;> assumption
  rcases apply_sim f (patchG (lgOf old) old new) with h | ⟨h1, h2, h3⟩
  · cases hall with
    | done n hf' => rw [h] at hf'; cases hf'
    | not j hf' hj => exact .cut j h hj hrd
  · have h := patch_applied f.unw (by show (-1 : Int) < 0; omega) (by show f.old.length ≤ 4096; rw [hf]; exact ho) hp new (steps (lgOf old) old new) (by show Leads f.old new [] _; rw [hf]; exact steps_leads (lgOf_ok old) new) hn
    have e : f.unw.old = old := hf
    rw [e] at h
    obtain ⟨g1, g2, g3, g4, g5, g6, g7, g8⟩ := h
    have h1 : (f.unw.apply (patchOf old new.length (steps (lgOf old) old new))).fault = _ := h1
    have h3 : (f.unw.apply (patchOf old new.length (steps (lgOf old) old new))).x.f = _ := h3
    rw [h3] at g2 g3 g4 g5 g6 g7
    exact .good (h1.symm.trans g1) g2 g3 g4 g5 g6 g7 hrd
end Go.Fwm
end

section
/- A flash that is used again and again, while the arguments stand. No condition. -/
set_option linter.unusedSimpArgs false
set_option linter.unusedVariables false
namespace Go.Proofs.YtkmgcggoemlaaabGreatDoor
open Go Go.Fw Go.Conc Go.RowKit Go.Fwm

/-- The flash, somewhere behind U. -/
def AtF (w U V : World) (pf bf : Nat) (f : Fl) : Prop := Kp w U ∧ ∃ be, Ap1 w U V pf bf be f
section
variable {w U V V' : World} {pf bf be be' : Nat} {f f' : Fl}
theorem AtF.new (hk : Kp w U) (h : Nf1 w U V pf bf f) : AtF w U V pf bf f := ⟨hk, _, h.rep, hk.below h.below, h.below.size, fun b hb _ => h.below.block b hb, h.pf_, h.bf_, .inl rfl⟩
theorem Ap1.step (hk : Kp w U) (h : Ap1 w U V pf bf be f) (hr : FRep V' (fun b => b = w.heap.size + 1) pf bf be' f') (ho : Only (FF pf bf be) V V') (hb : be' = be ∨ V.heap.size ≤ be') : Ap1 w U V' pf bf be' f' := by
  have h1 := hk.size
  have h2 := h.pf_
  have h3 := h.bf_
  have h4 := h.be_
  have h5 := h.size
  refine ⟨hr, h.kp.next ho.le fun b hb => ho.keep b (by omega) ?_, Nat.le_trans h.size ho.le, fun b hb hn => (ho.keep b (by omega) ?_).trans (h.keep b hb hn), h2, h3, ?_⟩
  · rintro (x | x | x) <;> omega
  · rintro (x | x | x) <;> omega
  · omega
theorem AtF.to (h : AtF w U V pf bf f) (hs : ∀ be, FRep V (fun b => b = w.heap.size + 1) pf bf be f → ∃ be', FRep V' (fun b => b = w.heap.size + 1) pf bf be' f' ∧ Only (FF pf bf be) V V' ∧ (be' = be ∨ V.heap.size ≤ be')) : AtF w U V' pf bf f' := by
  obtain ⟨hk, be, h⟩ := h
  obtain ⟨be', h1, h2, h3⟩ := hs be h.rep
  exact ⟨hk, be', h.step hk h1 h2 h3⟩
theorem AtF.below (h : AtF w U V pf bf f) (hb : Below V.heap.size V V') : AtF w U V' pf bf f :=
  h.to fun be hr => ⟨be, hr.only (F := fun _ => False) (Only.below hb) fun b x => x.elim, Only.below hb, .inl rfl⟩
theorem AtF.drewN (h : AtF w U V pf bf f) (k : Nat) : AtF w U (V.drewN k) pf bf f :=
  h.to fun be hr => ⟨be, hr.only (F := fun _ => False) ((Only.refl _ _).drewN k) fun b x => x.elim, (Only.refl _ _).drewN k, .inl rfl⟩
theorem AtF.kp (h : AtF w U V pf bf f) : Kp w V := by obtain ⟨_, be, h⟩ := h; exact h.kp
theorem AtF.row (h : AtF w U V pf bf f) {v : Value} {zs : List UInt8} (hr : Row U v zs) (hf : ∀ g, v.ownBlock = some g → w.heap.size < g) : Row V v zs := by
  obtain ⟨_, be, h⟩ := h
  exact hr.keepB fun g e hlt => h.keep g hlt fun e' => by have := hf g e; omega
theorem fto {X : Nat → Prop} {f' : Fl} (h : FTo V X pf bf be f' V') : ∃ be', FRep V' X pf bf be' f' ∧ Only (FF pf bf be) V V' ∧ (be' = be ∨ V.heap.size ≤ be') := by
  obtain ⟨be', h⟩ := h
  exact ⟨be', h.1, h.2.2, h.2.1⟩
theorem applyF (h : AtF w U V pf bf f) (hg : GV w) (hp : f.pages ≤ 64) (he : f.events.length ≤ 1000000) (hr : f.reads ≤ 100000000000)
    {B : Option Addr} {n c : Nat} {patch : List UInt8} (hl : patch.length = n) (hn : n ≤ 1000000) (hc : n ≤ c) (hcm : c ≤ maxLen) (hx : Bytes U B patch) (hB : ∀ a, B = some a → a.block ≠ w.heap.size ∧ a.block < U.heap.size)
    {C : Option Addr} {m d : Nat} (hm : m ≤ 1000000) (hy : Ints w C m) (hC : ∀ a, C = some a → a.block < w.heap.size) :
    Calls Tryz.prog 9 #[.pointer (some ⟨pf, 0, none⟩), .slice B n c, .slice C m d] V fun e V2 => ∃ (x : Int) (held : Bool), e = .returned (.tuple #[.int .i64 x, .int .i64 ((f.apply patch).fault.num : Int), .bool held]) ∧ AtF w U V2 pf bf (f.apply patch).x.f := by
  obtain ⟨hk, be, h0⟩ := h
  have h1 := hk.size
  have h2 := h0.pf_
  have h3 := h0.bf_
  have h4 := h0.be_
  have h5 := h0.size
  have hg0 := hg.lt
  refine (applied_ok V (fun b => b = w.heap.size + 1) pf bf be f h0.rep (fun b x => by omega) ⟨by omega, by omega, by omega⟩ (h0.kp.gv hg) (by rintro (x | x | x) <;> omega) hp he hr B n c patch hl hn hc hcm
    (hx.keep fun a e hlt => h0.keep _ hlt (hB a e).1) (fun a e => by obtain ⟨q1, q2⟩ := hB a e; rintro (x | x | x) <;> omega) C m d hm (h0.kp.ints hy) (fun a e => by have := hC a e; rintro (x | x | x) <;> omega)).mono ?_
  rintro e V2 ⟨held, be', rfl, q1, q2, q3⟩
  exact ⟨_, held, rfl, hk, be', h0.step hk q1 q3 q2⟩
theorem imageN (h : AtF w U V pf bf f) (hc : f.committed = false) : Calls Tryz.prog 23 #[.pointer (some ⟨pf, 0, none⟩)] V fun e V' => e = .returned (.tuple #[.slice none 0 0, .bool false]) ∧ AtF w U V' pf bf f := by
  obtain ⟨hk, be, h0⟩ := h
  refine (image_no V _ pf bf be f h0.rep hc).mono ?_
  rintro e V' ⟨rfl, rfl⟩
  exact ⟨rfl, hk, be, h0⟩
theorem imageY (h : AtF w U V pf bf f) (hc : f.committed = true) : Calls Tryz.prog 23 #[.pointer (some ⟨pf, 0, none⟩)] V fun e V' => ∃ A c, e = .returned (.tuple #[.slice A f.length c, .bool true]) ∧ AtF w U V' pf bf f := by
  have h' := h
  obtain ⟨hk, be, h0⟩ := h
  refine (image_yes V _ pf bf be f h0.rep hc).mono ?_
  rintro e V' ⟨A, c, rfl, _, h1⟩
  exact ⟨A, c, rfl, h'.below h1⟩
theorem oldF (h : AtF w U V pf bf f) : Calls Tryz.prog 24 #[.pointer (some ⟨pf, 0, none⟩)] V fun e V' => ∃ A c, e = .returned (.slice A f.old.length c) ∧ Bytes V' A f.old ∧ AtF w U V' pf bf f := by
  have h' := h
  obtain ⟨hk, be, h0⟩ := h
  refine (old_ok V _ pf bf be f h0.rep).mono ?_
  rintro e V' ⟨A, c, rfl, h1, h2⟩
  exact ⟨A, c, rfl, h1.bytes, h'.below h2⟩
theorem sameF (h : AtF w U V pf bf f) {A B : Option Addr} {c d n : Nat} {zs : List UInt8} (hl : zs.length = n) (hn : zs.length ≤ 4096) (hx : Bytes V A zs) (hy : Bytes V B zs) :
    Calls Tryz.prog 25 #[.slice A n c, .slice B n d] V fun e V' => e = .returned (.bool true) ∧ AtF w U V' pf bf f := by
  refine (same_eq V A B c d n zs hl (by simp only [maxLen]; omega) hx hy).mono ?_
  rintro e V' ⟨rfl, k, rfl⟩
  exact ⟨rfl, h.drewN k⟩
theorem orderlyN (h : AtF w U V pf bf f) (j : Nat) (he : f.events = evs j) : Calls Tryz.prog 11 #[.pointer (some ⟨pf, 0, none⟩), .bool false] V fun e V' => e = .returned (.bool true) ∧ AtF w U V' pf bf f := by
  have h' := h
  obtain ⟨hk, be, h0⟩ := h
  have hle := h0.rep.ev_le
  rw [he, evs_len] at hle
  refine (orderly_no V _ pf bf be f h0.rep j hle he).mono ?_
  rintro e V' ⟨rfl, h1⟩
  exact ⟨rfl, h'.below h1⟩
theorem orderlyY (h : AtF w U V pf bf f) (N : Nat) (hN : N ≤ 100000) (he : f.events = evs (2 * ((N + 63) / 64)) ++ [(2, N)]) : Calls Tryz.prog 11 #[.pointer (some ⟨pf, 0, none⟩), .bool true] V fun e V' => e = .returned (.bool true) ∧ AtF w U V' pf bf f := by
  have h' := h
  obtain ⟨hk, be, h0⟩ := h
  refine (orderly_yes V _ pf bf be f h0.rep N hN he).mono ?_
  rintro e V' ⟨rfl, h1⟩
  exact ⟨rfl, h'.below h1⟩
theorem holdsF (h : AtF w U V pf bf f) {A B : Option Addr} {ca cb : Nat} {old new : List UInt8} (hc : f.committed = true) (hlen : f.length = new.length) (hnew : f.fresh.take new.length = new) (hold : f.old = old) (ho : Bytes w A old) (hn : Bytes w B new) :
    Calls Tryz.prog 12 #[.pointer (some ⟨pf, 0, none⟩), .slice A old.length ca, .slice B new.length cb] V fun e V' => e = .returned (.bool true) ∧ AtF w U V' pf bf f := by
  have h' := h
  obtain ⟨hk, be, h0⟩ := h
  refine (holds_ok V _ pf bf be f h0.rep A B ca cb old new hc hlen hnew hold (h0.kp.bytes ho) (h0.kp.bytes hn)).mono ?_
  rintro e V' ⟨rfl, h1⟩
  exact ⟨rfl, h'.below h1⟩
end
end Go.Proofs.YtkmgcggoemlaaabGreatDoor
end

section
/- Bytes laid anew: a row of zeros that is filled; a flash of an image that lies beside the arguments. No condition. -/
set_option linter.unusedSimpArgs false
set_option linter.unusedVariables false
namespace Go.Proofs.YtkmgcggoemlaaabGreatDoor
open Go Go.Fw Go.Conc Go.RowKit Go.Fwm

/-- A byte with one bit turned. -/
theorem flip_byte (x : UInt8) (j : Nat) (h : j < 8) : ∃ y : UInt8, bits .xor .u8 (x.toNat : Int) (2 ^ j % 256) = (y.toNat : Int) ∧ y ≠ x := by
  have hx := x.toNat_lt
  have e : ∃ m : UInt8, (2 : Int) ^ j % 256 = (m.toNat : Int) ∧ m ≠ 0 := by
    have hj : j = 0 ∨ j = 1 ∨ j = 2 ∨ j = 3 ∨ j = 4 ∨ j = 5 ∨ j = 6 ∨ j = 7 := by omega
    rcases hj with rfl | rfl | rfl | rfl | rfl | rfl | rfl | rfl
    · exact ⟨1, by decide, by decide⟩
    · exact ⟨2, by decide, by decide⟩
    · exact ⟨4, by decide, by decide⟩
    · exact ⟨8, by decide, by decide⟩
    · exact ⟨16, by decide, by decide⟩
    · exact ⟨32, by decide, by decide⟩
    · exact ⟨64, by decide, by decide⟩
    · exact ⟨128, by decide, by decide⟩
  obtain ⟨m, e1, e2⟩ := e
  have hm := m.toNat_lt
  refine ⟨x ^^^ m, ?_, fun h => e2 ?_⟩
  · rw [e1, u8_xor_nat _ _ (by omega) (by omega), UInt8.toNat_xor]
  · have := congrArg (fun y => x ^^^ y) h
    simpa [← UInt8.xor_assoc] using this
theorem Row_set {w : World} {g n c : Nat} {P : List UInt8} (h : Row w (.slice (some ⟨g, 0, none⟩) n c) P) {q : Nat} (hq : q < P.length) (y : UInt8) : Row (w.setCell ⟨g, q, none⟩ (.int .u8 (y.toNat : Int))) (.slice (some ⟨g, 0, none⟩) n c) (P.set q y) := by
  obtain ⟨_, h2 | ⟨g', cap, cur, h1, h2, h3, h4, h5, h6, h7⟩⟩ := h
  · cases h2.1
  · cases h1
    refine ⟨by simp, .inr ⟨g, c, cur.setIfInBounds q (.int .u8 (y.toNat : Int)), by simp, h2, by simp [World.setCell, Array.getElem?_modify, h3], by simpa using h4, h5, by simpa using h6, ?_⟩⟩
    rw [List.length_set, Array.toList_setIfInBounds, List.take_set, h7, List.map_set]
    rfl
def zeros (n : Nat) : List Value := List.replicate n (Value.int .u8 0)
theorem zeros_len (n : Nat) : (zeros n).length = n := List.length_replicate
theorem make_zeros (n : Nat) (hn : n ≤ 9223372036854) (w : World) :
    (Instr.makeSlice 22 (.int .i64 (n : Int)) (.int .i64 (n : Int))).run Tryz.prog w = .ok (.slice (some ⟨w.heap.size, 0, none⟩) n n) (w.alloc (.cells (zeros n).toArray 5)) := run_make_u8 n hn w
theorem splice_all (a b : List Value) (h : a.length = b.length) : splice a 0 b = b := by
  unfold splice
  simp [h]
theorem wpList_fill {w : World} {ops : Array Oper} {rest : List Oper} {o : Oper} {a : Act} {Q : Exit → Act → World → Prop} (hgd : o.guard = none) (d s : Operand)
    (ho : o.op = .call { callee := .builtin .copy, args := #[d, s], argTypes := #[22, 22] }) (g n c : Nat) (A : Option Addr) (zs : List UInt8) (hd : a.eval d = .slice (some ⟨g, 0, none⟩) n n) (hs : a.eval s = .slice A n c) (hl : zs.length = n)
    (hg : Blk w g 5 (zeros n)) (hx : Bytes w A zs) (h : ∀ w', Hid (Blk w' g 5 (zs.map enc)) → Hid (Below g w w') → wpList Tryz.prog ops Q rest (a.put o.dst (.int .i64 (n : Int))) w') :
    wpList Tryz.prog ops Q (o :: rest) a w := by
  have hlm : (zs.map enc).length = n := by rw [List.length_map]; exact hl
  refine wpList_copy_splice hgd d s 22 22 ho 5 Tryz.underlying22 size5 (some ⟨g, 0, none⟩) A n n n c hd hs g 0 (zeros n) 5 hg (zs.map enc) (by rw [hlm]; exact (Nat.min_self n).symm) (fun h0 => ⟨rfl, ?_⟩) (by rw [hlm, zeros_len]; omega) (fun v hv => by obtain ⟨z, _, rfl⟩ := List.mem_map.1 hv; rfl) g w (Below.refl _ w) (Nat.le_refl _) fun w' HG hB => ?_
  · obtain ⟨b, o', hA, _⟩ := hx 0 (by omega)
    refine ⟨_, hA, fun j v hj => ?_⟩
    have hjl : j < zs.length := by have := (List.getElem?_eq_some_iff.1 hj).1; simpa using this
    obtain ⟨b', o2, hA', hc⟩ := hx j hjl
    rw [hA] at hA'; cases hA'
    have hv : v = .int .u8 (zs[j].toNat : Int) := by simp [hjl, enc] at hj; exact hj.symm
    rw [hv, show (⟨b, o', none⟩ : Addr).add j = ⟨b, o' + j, none⟩ by unfold Addr.add; split <;> simp_all]
    exact hc
  · rw [hlm]
    refine h w' (Lib.hid ?_) (Lib.hid hB)
    have := HG.out
    rw [splice_all _ _ (by rw [zeros_len, hlm])] at this
    exact this
theorem nf_v {w V : World} (hk : Kp w V) {A : Option Addr} {c : Nat} {old : List UInt8} (h : Bytes V A old) (n0 : A = none → c = 0) (hol : old.length ≤ 4096) (pages : Int) (hp : -9223372036854775808 ≤ pages ∧ pages ≤ 9223372036854775807) :
    Calls Tryz.prog 8 #[.slice A old.length c, .int .i64 pages] V fun e V1 => ∃ pf bf, e = .returned (.pointer (some ⟨pf, 0, none⟩)) ∧ Nf1 w V V1 pf bf (Fl.init old pages) :=
  (newflash_ok V (fun b => b = w.heap.size + 1) A old.length c old rfl hol h n0 pages hp w.heap.size (by have := hk.size; omega) (fun b x => by have := hk.size; omega) (by omega)).mono fun e V1 ⟨pf, bf, h1, h2, h3, h4, h5⟩ => ⟨pf, bf, h1, h2, h3, h4, h5⟩
end Go.Proofs.YtkmgcggoemlaaabGreatDoor
end

section
/- The law Orders, in a private world. No condition. -/
set_option linter.unusedSimpArgs false
set_option linter.unusedVariables false
set_option linter.constructorNameAsVariable false
namespace Go.Proofs.YtkmgcggoemlaaabGreatDoor
open Go Go.Fw Go.Conc Go.RowKit Go.Fwm

theorem fa_lit97 (f : Nat → Value) (D : List Deferred) : fa 97 f D = ⟨#[f 0, f 1, f 2, f 3, f 4, f 5, f 6, f 7, f 8, f 9, f 10, f 11, f 12, f 13, f 14, f 15, f 16, f 17, f 18, f 19, f 20, f 21, f 22, f 23, f 24, f 25, f 26, f 27, f 28, f 29, f 30, f 31, f 32, f 33, f 34, f 35, f 36, f 37, f 38, f 39, f 40, f 41, f 42, f 43, f 44, f 45, f 46, f 47, f 48, f 49, f 50, f 51, f 52, f 53, f 54, f 55, f 56, f 57, f 58, f 59, f 60, f 61, f 62, f 63, f 64, f 65, f 66, f 67, f 68, f 69, f 70, f 71, f 72, f 73, f 74, f 75, f 76, f 77, f 78, f 79, f 80, f 81, f 82, f 83, f 84, f 85, f 86, f 87, f 88, f 89, f 90, f 91, f 92, f 93, f 94, f 95, f 96], D⟩ := by kernel_rfl

theorem init_le3 (old : List UInt8) (h : old.length ≤ 4096) (pages : Int) : (Fl.init old pages).pages ≤ 64 := by rw [init_pages]; exact newPages_le old h pages
theorem AtF_len {w U V : World} {pf bf : Nat} {f : Fl} (h : AtF w U V pf bf f) : f.length ≤ 4096 := by
  obtain ⟨_, be, h⟩ := h
  exact Nat.le_trans h.rep.len_le h.rep.fresh_le
set_option maxRecDepth 100000 in
set_option maxHeartbeats 1500000 in
theorem orders_priv {W w : World} {Post : Value → World → Prop} (hpost : ∀ W', Below W.heap.size W W' → Post (.bool true) W') (hg : GV w)
    {a0 a1 a2 a3 : Option Addr} {l0 c0 l1 c1 l2 c2 l3 c3 : Nat} {old new other : List UInt8}
    (h0 : Bytes w a0 old) (e0 : old.length = l0) (h1 : Bytes w a1 new) (e1 : new.length = l1) (h2 : Bytes w a2 other) (e2 : other.length = l2) (lc2 : l2 ≤ c2) (cm2 : c2 ≤ maxLen) (h3 : Ints w a3 l3) (n0 : a0 = none → c0 = 0)
    (b0 : ∀ a, a0 = some a → a.block < w.heap.size) (b1 : ∀ a, a1 = some a → a.block < w.heap.size) (b2 : ∀ a, a2 = some a → a.block < w.heap.size) (b3 : ∀ a, a3 = some a → a.block < w.heap.size) :
    CEnds Tryz.prog FN W.heap.size W Post [] [Frame.enter Tryz.prog 4 #[.slice a0 l0 c0, .slice a1 l1 c1, .slice a2 l2 c2, .slice a3 l3 c3] .normal] w := by
  have hJ := cEnds_clo (P := Tryz.prog) (FN := FN) (N0 := W.heap.size) (W0 := W) (Post := Post) (Ch := [])
  rw [enter_fa _ _ 97 Tryz.func4 rfl rfl (by simp)]
  refine hJ.seq (hJ.region ?_)
  refine hJ.opf lst rfl rfl (by kernel_rfl) rfl (w' := w) (fun tp => ex_assign (x := .const (.bool false)) rfl rfl) ?_
  refine hJ.region_end (hJ.seq (hJ.region ?_))
  refine hJ.opf lst rfl rfl (by kernel_rfl) rfl (w' := w) (v := .slice a0 l0 c0) (fun tp => ex_move rfl ((fa_eval (by decide)).trans rfl)) ?_
  refine hJ.callf lst rfl rfl rfl (by kernel_rfl) (by kernel_rfl) (by kernel_rfl) rfl _ (m1 ((fa_eval (by decide)).trans rfl)) (R := fun v w' => v = .bool (decide (l0 ≤ 4096)) ∧ ∃ tp, w' = Go.Fw.tpd w tp) (fun tp => (image14 _ a0 l0 c0).mono fun e w' ⟨q1, q2⟩ => ⟨_, q1, rfl, tp, q2⟩) ?_
  rintro v w' ⟨rfl, tp, rfl⟩
  refine hJ.tp _ _ tp ?_
  refine hJ.opf lst rfl rfl (by kernel_rfl) rfl (w' := w) (v := .bool (decide (l0 ≤ 4096))) (fun tp => ex_assign rfl ((fa_eval (by decide)).trans rfl)) ?_
  refine hJ.region_end (hJ.seq (hJ.region ?_))
  refine hJ.opf lst rfl rfl (by kernel_rfl) rfl (w' := w) (v := .slice a1 l1 c1) (fun tp => ex_move rfl ((fa_eval (by decide)).trans rfl)) ?_
  refine hJ.callf lst rfl rfl rfl (by kernel_rfl) (by kernel_rfl) (by kernel_rfl) rfl _ (m1 ((fa_eval (by decide)).trans rfl)) (R := fun v w' => v = .bool (decide (l1 ≤ 4096)) ∧ ∃ tp, w' = Go.Fw.tpd w tp) (fun tp => (image14 _ a1 l1 c1).mono fun e w' ⟨q1, q2⟩ => ⟨_, q1, rfl, tp, q2⟩) ?_
  rintro v w' ⟨rfl, tp, rfl⟩
  refine hJ.tp _ _ tp ?_
  refine hJ.opf lst rfl rfl (by kernel_rfl) rfl (w' := w) (v := .bool (decide (l1 ≤ 4096))) (fun tp => ex_assign rfl ((fa_eval (by decide)).trans rfl)) ?_
  refine hJ.region_end (hJ.seq (hJ.region ?_))
  refine hJ.callop rfl (wanted_plain rfl _) rfl (by kernel_rfl) (by kernel_rfl) ?_
  rw [Array.map_empty]
  refine works_ends hg (atOp_at _) fun w1 z1 o1 => ?_
  rw [finish_fa rfl rfl]
  refine hJ.opf lst rfl rfl (by kernel_rfl) rfl (w' := w1) (v := .bool true) (fun tp => ex_assign rfl ((fa_eval (by decide)).trans rfl)) ?_
  refine hJ.region_end (hJ.seq ?_)
  refine fa_gen (Jf := fun a => CEnds _ _ _ _ _ _ [(bas 4 .normal).at a _] _) fun F hF => ?_
  have f0 : F 0 = .slice a0 l0 c0 := (hF 0).trans rfl
  have f1 : F 1 = .slice a1 l1 c1 := (hF 1).trans rfl
  have f2 : F 2 = .slice a2 l2 c2 := (hF 2).trans rfl
  have f3 : F 3 = .slice a3 l3 c3 := (hF 3).trans rfl
  have f9 : F 9 = .bool (decide (l0 ≤ 4096)) := (hF 9).trans rfl
  have f10 : F 10 = .bool (decide (l1 ≤ 4096)) := (hF 10).trans rfl
  have f11 : F 11 = .bool true := (hF 11).trans rfl
  clear hF
  refine hJ.code lst (by kernel_rfl) rfl rfl (by kernel_rfl) (N := fun a' w' => a'.tmps.size = 97 ∧ a'.defers = [] ∧ a'.eval (.tmp 0) = .slice a0 l0 c0 ∧ a'.eval (.tmp 1) = .slice a1 l1 c1 ∧ a'.eval (.tmp 2) = .slice a2 l2 c2 ∧ a'.eval (.tmp 3) = .slice a3 l3 c3 ∧ (l0 ≤ 4096 ∧ l1 ≤ 4096 ∧ l3 ≤ 65536 ∧ l2 ≤ 65536) ∧ ∃ tp, w' = Go.Fw.tpd w1 tp) (R := fun a' w' => a'.defers = [] ∧ a'.eval (.tmp 8) = .bool true) (fun tp => ?_) (fun a' w' h => ?_) (fun a' w' td h => law_done Tryz.func4 rfl (by kernel_rfl) h.1 h.2 hpost)
  · rw [fa_lit97, f0, f1, f2, f3, f9, f10, f11]
    dsimp only
    clear f0 f1 f2 f3 f9 f10 f11
    by_cases q0 : l0 ≤ 4096
    · rw [decide_eq_true q0]
      by_cases q1 : l1 ≤ 4096
      · rw [decide_eq_true q1]
        by_cases q2 : l3 ≤ 65536
        · have q2' : ¬ ((65536 : Int) < (l3 : Int)) := by omega
          by_cases q3 : l2 ≤ 65536
          · have q3' : ¬ ((65536 : Int) < (l2 : Int)) := by omega
            go_wp2
            refine ⟨rfl, rfl, rfl, rfl, rfl, rfl, ?_⟩
            first | exact ⟨⟨q0, q1, q2, q3⟩, _, rfl⟩ | exact ⟨_, rfl⟩
          · have q3' : ((65536 : Int) < (l2 : Int)) := by omega
            go_wp2
            exact ⟨rfl, rfl⟩
        · have q2' : ((65536 : Int) < (l3 : Int)) := by omega
          go_wp2
          exact ⟨rfl, rfl⟩
      · rw [decide_eq_false q1]
        go_wp2
        exact ⟨rfl, rfl⟩
    · rw [decide_eq_false q0]
      go_wp2
      exact ⟨rfl, rfl⟩
  obtain ⟨k1, k2, f0, f1, f2, f3, ⟨q0, q1, q2, q3⟩, tp, rfl⟩ := h
  refine hJ.tp _ _ tp ?_
  obtain ⟨F, rfl, hF⟩ := act_fa k1 k2
  rw [hF _ (by decide)] at f0 f1 f2 f3
  clear k1 k2 hF
  have hk1 : Kp w w1 := ⟨by omega, o1⟩
  subst e0 e1
  obtain ⟨va, hva⟩ : ∃ va : Value, va = .slice a0 old.length c0 := ⟨_, rfl⟩
  obtain ⟨vb, hvb⟩ : ∃ vb : Value, vb = .slice a1 new.length c1 := ⟨_, rfl⟩
  rw [← hva] at f0
  rw [← hvb] at f1
  refine hJ.seq (hJ.region ?_)
  refine hJ.opf lst rfl rfl (by kernel_rfl) rfl (w' := w1) (v := va) (fun tp => ex_move rfl ((fa_eval (by decide)).trans f0)) ?_
  refine hJ.opf lst rfl rfl (by kernel_rfl) rfl (w' := w1) (v := vb) (fun tp => ex_move rfl ((fa_eval (by decide)).trans f1)) ?_
  refine hJ.callop rfl (wanted_plain rfl _) rfl (by kernel_rfl) (by kernel_rfl) ?_
  rw [m2 (v := va) (u := vb) ((fa_eval (by decide)).trans rfl) ((fa_eval (by decide)).trans rfl)]
  subst hva hvb
  refine gend_ends (hk1.bytes h0) (hk1.bytes h1) q0 q1 (atOp_at _) (fun a e => by have := b0 a e; have := hk1.size; omega) (fun a e => by have := b1 a e; have := hk1.size; omega) fun p w2 hp _ _ => ?_
  rw [finish_fa rfl rfl]
  refine hJ.opf lst rfl rfl (by kernel_rfl) rfl (w' := w2) (v := .tuple #[p, .bool true]) (fun tp => ex_move rfl ((fa_eval (by decide)).trans rfl)) ?_
  refine hJ.opf lst rfl rfl (by kernel_rfl) rfl (w' := w2) (v := p) (fun tp => ex_extract rfl ((fa_eval (by decide)).trans rfl) rfl) ?_
  refine hJ.opf lst rfl rfl (by kernel_rfl) rfl (w' := w2) (v := .bool true) (fun tp => ex_extract rfl ((fa_eval (by decide)).trans rfl) rfl) ?_
  refine hJ.opf lst rfl rfl (by kernel_rfl) rfl (w' := w2) (v := p) (fun tp => ex_assign rfl ((fa_eval (by decide)).trans rfl)) ?_
  refine hJ.opf lst rfl rfl (by kernel_rfl) rfl (w' := w2) (v := .bool true) (fun tp => ex_assign rfl ((fa_eval (by decide)).trans rfl)) ?_
  refine hJ.region_end ?_
  refine fa_gen (Jf := fun a => CEnds _ _ _ _ _ _ [(bas 4 .normal).at a _] _) fun G hG => ?_
  have g0 : G 0 = .slice a0 old.length c0 := (hG 0).trans f0
  have g1 : G 1 = .slice a1 new.length c1 := (hG 1).trans f1
  have g2 : G 2 = .slice a2 l2 c2 := (hG 2).trans f2
  have g3 : G 3 = .slice a3 l3 c3 := (hG 3).trans f3
  have g12 : G 12 = p := (hG 12).trans rfl
  have g13 : G 13 = .bool true := (hG 13).trans rfl
  clear hG f0 f1 f2 f3
  have hpl := patchG_len old new
  have hk2 : Kp w w2 := hk1.rin hp
  obtain ⟨PP, hPP⟩ : ∃ PP, PP = patchG (lgOf old) old new := ⟨_, rfl⟩
  rw [← hPP] at hp hpl
  obtain ⟨B, m, c, rfl, hl, hc, hcm, hB0, hBb⟩ := hp.own.slice3
  have hr2 : Row w2 (.slice B m c) PP := hp.own
  have hfar : ∀ g, (Value.slice B m c).ownBlock = some g → w.heap.size < g := fun g e => by have := hp.far _ e; omega
  have hm : m ≤ 5000 := by omega
  refine hJ.code lst (by kernel_rfl) rfl rfl (by kernel_rfl) (N := fun _ _ => False) (R := fun a' w' => a'.defers = [] ∧ a'.eval (.tmp 8) = .bool true) (fun tp => ?_) (fun _ _ h => h.elim) (fun a' w' td h => law_done Tryz.func4 rfl (by kernel_rfl) h.1 h.2 hpost)
  rw [fa_lit97, g0, g2, g3, g12, g13]
  dsimp only
  have hkU : Kp w (Go.Fw.tpd w2 tp) := hk2.tpd tp
  have hrU : Row (Go.Fw.tpd w2 tp) (.slice B m c) PP := hr2
  clear hk2 hr2 hp hk1 hB0 g0 g1 g2 g3 g12 g13
  generalize Go.Fw.tpd w2 tp = U at hkU hrU ⊢
  have hBU : ∀ a, B = some a → a.block ≠ w.heap.size ∧ a.block < U.heap.size := fun a e => ⟨by have := hfar _ (hBb a e); omega, hrU.lt (hBb a e)⟩
  obtain ⟨f1, hf1⟩ : ∃ f1, f1 = ((Fl.init old 64).apply PP).x.f := ⟨_, rfl⟩
  have hfit : new.length ≤ (Fl.init old 64).pages * 64 := by rw [init_pages, newPages64 q0]; omega
  have hgood : (((Fl.init old 64).apply PP).fault.num : Nat) = 0 ∧ f1.events = evs (2 * ((new.length + 63) / 64)) ++ [(2, new.length)] := by
    obtain ⟨r1, r2, r3, r4, r5, r6, r7, r8⟩ := patch_applied (Fl.init old 64) (by show (-1 : Int) < 0; decide) q0 (init_le3 old q0 _) new (steps (lgOf old) old new) (steps_leads (lgOf_ok old) new) hfit
    have e : patchOf (Fl.init old 64).old new.length (steps (lgOf old) old new) = PP := by rw [hPP]; rfl
    rw [e] at r1 r7
    refine ⟨by rw [r1]; rfl, ?_⟩
    rw [hf1, r7]
    rfl
  have hap1 : ∀ V pf bf, AtF w U V pf bf (Fl.init old 64) → Calls Tryz.prog 9 #[.pointer (some ⟨pf, 0, none⟩), .slice B m c, .slice a3 l3 c3] V fun e V2 => ∃ (x : Int) (held : Bool), e = .returned (.tuple #[.int .i64 x, .int .i64 0, .bool held]) ∧ AtF w U V2 pf bf f1 := fun V pf bf h => by
    have := applyF h hg (init_le3 old q0 _) (Nat.zero_le _) (Nat.zero_le _) hl (by omega) hc hcm (hrU.bytes rfl) hBU (C := a3) (m := l3) (d := c3) (by omega) h3 b3
    rw [hgood.1, ← hf1] at this
    exact this
  obtain ⟨f2, hf2⟩ : ∃ f2, f2 = ((Fl.init old 3).apply other).x.f := ⟨_, rfl⟩
  obtain ⟨M, hM⟩ : ∃ M, M = ((Fl.init old 3).apply other).fault.num := ⟨_, rfl⟩
  have hap2 : ∀ U V pf bf, AtF w U V pf bf (Fl.init old 3) → Calls Tryz.prog 9 #[.pointer (some ⟨pf, 0, none⟩), .slice a2 l2 c2, .slice a3 l3 c3] V fun e V2 => ∃ (x : Int) (held : Bool), e = .returned (.tuple #[.int .i64 x, .int .i64 (M : Int), .bool held]) ∧ AtF w U V2 pf bf f2 := fun U V pf bf h => by
    have := applyF h hg (init_le3 old q0 _) (Nat.zero_le _) (Nat.zero_le _) e2 (by omega) lc2 cm2 (h.1.bytes h2) (fun a e => ⟨by have := b2 a e; omega, by have := b2 a e; have := h.1.size; omega⟩) (C := a3) (m := l3) (d := c3) (by omega) h3 b3
    rw [← hM, ← hf2] at this
    exact this
  have hway : (M = 0 ∧ ∃ N, f2.length = N ∧ f2.events = evs (2 * ((N + 63) / 64)) ++ [(2, N)]) ∨ (M ≠ 0 ∧ ∃ j, f2.events = evs j) := by
    have hany := apply_any (Fl.init old 3) q0 (init_le3 old q0 _) other
    cases apply_all (Fl.init old 3) q0 (init_le3 old q0 _) other with
    | done N hf h hc' hl' he hr =>
      exact .inl ⟨by rw [hM, hf]; rfl, N, by rw [hf2]; exact hl', by rw [hf2, he]; rfl⟩
    | not j hf h hr =>
      refine .inr ⟨?_, j, by rw [hf2, h.ev]; rfl⟩
      rcases hany.num with ⟨e, _⟩ | ⟨e, _⟩
      · exact absurd e hf
      · omega
  have HG1 := Lib.hid hgood; have HA1 := Lib.hid hap1; have HA2 := Lib.hid hap2; have HK := Lib.hid hkU; have H0 := Lib.hid h0; have HN0 := Lib.hid n0; have HQ0 := Lib.hid q0; have HQ1 := Lib.hid q1
  clear hgood hap1 hap2 hkU h0 n0 q0 q1 h1 h2 h3 b0 b1 b2 b3 hg hpl hPP hl hc hcm hBb hfar hm hrU hBU o1 z1 hJ hpost hf1 hf2 hM hfit e2 lc2 cm2
  rcases hway with ⟨rfl, N, hN, he⟩ | ⟨hM0, j, he⟩
  · have HE := Lib.hid he; have HNN := Lib.hid hN
    clear he hN
    go_wp2_with (first
      | (go_at_call 8; (fail_if_success have := HF1.out); refine (nf_k HK.out H0.out HN0.out HQ0.out 64 (by decide)).mono ?_; rintro e U1 ⟨pf, bf, rfl, hf⟩; have HF1 := Lib.hid (AtF.new HK.out hf); clear hf)
      | (go_at_call 9; refine (HA1.out U1 pf bf HF1.out).mono ?_; rintro e U2 ⟨x2, held2, rfl, h2⟩; have HF2 := Lib.hid h2; clear h2)
      | (go_at_call 11; refine (orderlyY HF2.out new.length (by have := HQ1.out; omega) HG1.out.2).mono ?_; rintro e U3 ⟨rfl, h3⟩; have HF3 := Lib.hid h3; clear h3)
      | fail)
    go_wp2_with (first
      | (go_at_call 8; refine (nf_k HF3.out.kp H0.out HN0.out HQ0.out 3 (by decide)).mono ?_; rintro e U4 ⟨pf4, bf4, rfl, hf⟩; have HF4 := Lib.hid (AtF.new HF3.out.kp hf); clear hf)
      | (go_at_call 9; refine (HA2.out U3 U4 pf4 bf4 HF4.out).mono ?_; rintro e U5 ⟨x5, held5, rfl, h5⟩; have HF5 := Lib.hid h5; clear h5)
      | (go_at_call 11; refine (orderlyY HF5.out N (by have h1 := AtF_len HF5.out; have h2 := HNN.out; omega) HE.out).mono ?_; rintro e U6 ⟨rfl, h6⟩; clear h6)
      | fail)
    exact ⟨rfl, rfl⟩
  · have HE := Lib.hid he
    have hM' : ((M : Int) == 0) = false := by simp; omega
    clear he hM0
    go_wp2_with (first
      | (go_at_call 8; (fail_if_success have := HF1.out); refine (nf_k HK.out H0.out HN0.out HQ0.out 64 (by decide)).mono ?_; rintro e U1 ⟨pf, bf, rfl, hf⟩; have HF1 := Lib.hid (AtF.new HK.out hf); clear hf)
      | (go_at_call 9; refine (HA1.out U1 pf bf HF1.out).mono ?_; rintro e U2 ⟨x2, held2, rfl, h2⟩; have HF2 := Lib.hid h2; clear h2)
      | (go_at_call 11; refine (orderlyY HF2.out new.length (by have := HQ1.out; omega) HG1.out.2).mono ?_; rintro e U3 ⟨rfl, h3⟩; have HF3 := Lib.hid h3; clear h3)
      | fail)
    go_wp2_with (first
      | (go_at_call 8; refine (nf_k HF3.out.kp H0.out HN0.out HQ0.out 3 (by decide)).mono ?_; rintro e U4 ⟨pf4, bf4, rfl, hf⟩; have HF4 := Lib.hid (AtF.new HF3.out.kp hf); clear hf)
      | (go_at_call 9; refine (HA2.out U3 U4 pf4 bf4 HF4.out).mono ?_; rintro e U5 ⟨x5, held5, rfl, h5⟩; have HF5 := Lib.hid h5; clear h5)
      | (go_at_call 11; refine (orderlyN HF5.out j HE.out).mono ?_; rintro e U6 ⟨rfl, h6⟩; clear h6)
      | fail)
    exact ⟨rfl, rfl⟩
end Go.Proofs.YtkmgcggoemlaaabGreatDoor
end

section
/- The law Orders of package firmwarelaw returns true for every input: what is done to the new slot, of patches and of any other bytes. No condition: any two images, any bytes, any pieces. -/
set_option linter.unusedSimpArgs false
set_option linter.unusedVariables false
set_option linter.constructorNameAsVariable false
set_option maxRecDepth 100000
namespace Go.Proofs.YtkmgcggoemlaaabGreatDoor
open Go Go.Fw Go.Conc Go.RowKit Go.Fwm Go.ChangeShapes Go.WideShapes Go.ChangeAt

theorem orders_lifted (os : Os) (started : os.Started) (H : Type) (enc : TypeId × Value → H) :
    ReturnsInLeavingWide {} Tryz.checked os 4 .any (fun w args => (Rows.ordersSpec.pre enc Tryz.prog Tryz.f4 [] false w args ∧ laidMetH Tryz.prog laidL w) ∧ sizedMet enc Tryz.prog Tryz.f4 (OpenSpec.ofChange Rows.ordersSpec) false w args)
      (Rows.ordersSpec.post enc Tryz.prog Tryz.f4 false true false false) := by
  refine rl_and (C := Tryz.checked) (X := fun w _ => laidMetH Tryz.prog laidL w) (fun _ _ _ hh h => h.of_heap hh) own started Tryz.func4
    (ChangeSpec.witness_at (enc := enc) (C := Tryz.checked) (os := os) (X := fun w _ => laidMetH Tryz.prog laidL w) false (laidWorld os) #[.slice none 0 0, .slice none 0 0, .slice none 0 0, .slice none 0 0] 8 rfl (by kernel_rfl) (by kernel_rfl) (by kernel_rfl) (by kernel_rfl) (by kernel_rfl) (laidWorld_met os _)) ?_
  intro W base args ds gs before hval0 hW hL hsh
  have hval : ∀ (j : Nat) t v, Tryz.f4.params[j]? = some t → args[j]? = some v → Value.okWide Tryz.prog W .any base t v := hval0
  have hW' := hW
  obtain ⟨p, q, hA0, hV, rfl, hfz, hnd⟩ := hW
  have hA : DataW.TrodAll enc Tryz.prog W 0 (fun _ => true) true Tryz.f4.params.toList args.toList ds p := hA0
  rw [Tryz.params4] at hA hval
  obtain ⟨v0, vs0, d0, ds0, p0, q0, hargs, rfl, rfl, h0, r0⟩ := trodAll_cons hA
  obtain ⟨v1, vs1, d1, ds1, p1, q1, rfl, rfl, rfl, h1, r1⟩ := trodAll_cons r0
  obtain ⟨v2, vs2, d2, ds2, p2, q2, rfl, rfl, rfl, h2, r2⟩ := trodAll_cons r1
  obtain ⟨v3, vs3, d3, ds3, p3, q3, rfl, rfl, rfl, h3, r3⟩ := trodAll_cons r2
  obtain ⟨rfl, rfl, rfl⟩ := trodAll_nil r3
  obtain rfl : args = #[v0, v1, v2, v3] := by cases args; simp_all
  obtain ⟨rfl, rfl⟩ := trodVars_none hV
  obtain ⟨a0, l0, c0, b0, rfl, s0⟩ := arg22 (hval 0 22 v0 rfl rfl) h0
  obtain ⟨a1, l1, c1, b1, rfl, s1⟩ := arg22 (hval 1 22 v1 rfl rfl) h1
  obtain ⟨a2, l2, c2, b2, rfl, s2⟩ := arg22 (hval 2 22 v2 rfl rfl) h2
  obtain ⟨a3, l3, c3, rfl, s3⟩ := arg23 (hval 3 23 v3 rfl rfl) h3
  have hlt : ∀ {t : TypeId} {v : Value} {d : DataW H} {ps : List MemPlace}, DataW.Trod enc Tryz.prog W 0 (fun _ => true) true t v d ps → ∀ x ∈ ps, x.block < W.heap.size := fun h => by obtain ⟨m, hm⟩ := h; exact DataW.trod_lt m _ _ _ hm
  have hbl : ∀ x, (∃ c t fr, W.heap[x]? = some (Obj.cells c t fr)) → x < W.heap.size := fun x ⟨c, t, fr, e⟩ => (Array.getElem?_eq_some_iff.1 e).1
  clear hA0 hval0
  refine start_row (handle_of_laid hL) (shaped2 hsh) (by kernel_rfl) (fun i x hx => ?_) fun w hs hg hb hi => ?_
  · rcases i with _ | _ | _ | _ | i
    · simp at hx; subst hx; exact .inr ⟨_, _, _, rfl, s0.cells⟩
    · simp at hx; subst hx; exact .inr ⟨_, _, _, rfl, s1.cells⟩
    · simp at hx; subst hx; exact .inr ⟨_, _, _, rfl, s2.cells⟩
    · simp at hx; subst hx; exact .inr ⟨_, _, _, rfl, s3.cells⟩
    · simp at hx
  · refine orders_priv (W := W) (fun W' bel => ?_) hg (hb _ _ s0.bytes) s0.len_ (hb _ _ s1.bytes) s1.len_ (hb _ _ s2.bytes) s2.len_ s2.le s2.cap_le (hi _ _ s3.ints) s0.nil_ (fun a e => by rw [hs]; exact hbl _ (s0.cells a e)) (fun a e => by rw [hs]; exact hbl _ (s1.cells a e)) (fun a e => by rw [hs]; exact hbl _ (s2.cells a e)) (fun a e => by rw [hs]; exact hbl _ (s3.cells a e))
    exact ⟨_, _, _, [], _, [], hW', trodAll_mk1 (shut_bool Tryz.underlying4 _), (trodAll_cons_mk (Below.trod laidOut (by kernel_rfl) (of_decide_eq_true (by kernel_rfl)) h0 bel (hlt h0)) (trodAll_cons_mk (Below.trod laidOut (by kernel_rfl) (of_decide_eq_true (by kernel_rfl)) h1 bel (hlt h1)) (trodAll_cons_mk (Below.trod laidOut (by kernel_rfl) (of_decide_eq_true (by kernel_rfl)) h2 bel (hlt h2)) (trodAll_cons_mk (Below.trod laidOut (by kernel_rfl) (of_decide_eq_true (by kernel_rfl)) h3 bel (hlt h3)) trodAll_mk0)))), rfl, bel.frame _, fun h => by cases h⟩

theorem orders_row : Rows.OrdersSaid :=
  OpenClaim.holds_of_wide_leaving 4 Tryz.f4 rfl rfl rfl rfl rfl rfl rfl ⟨rfl, rfl, rfl, rfl, rfl⟩ rfl rfl rfl rfl rfl (by kernel_rfl) Tryz.func4 (by kernel_rfl)
    (of_decide_eq_true (by kernel_rfl)) (by unfold Func.isWrapper; first | (rw [if_pos (by decide +kernel)]; kernel_rfl) | (rw [if_neg (by decide +kernel)]; exact ⟨rfl, rfl⟩))
    (fun os started H enc _ => orders_lifted os started H enc)
theorem orders_card : Rows.OrdersCardSaid :=
  card_goes .later [.handle] true (true, "a3665ffc084b50e5c5fe19f33c4cf9a535fb673a01aaa97271f71c541cad427a") true true
    orders_row (by kernel_rfl) orders_row_tie rfl ⟨rfl, rfl⟩ (by kernel_rfl) rfl
    (fun f fn hf hfn => by
      obtain rfl : f = 4 := Option.some.inj ((show Tryz.prog.funcNamed Rows.ordersRow.func = some 4 by kernel_rfl).symm.trans hf) |>.symm
      obtain rfl : fn = Tryz.f4 := (Option.some.inj (Tryz.func4.symm.trans hfn)).symm
      exact ⟨by kernel_rfl, fun j t ht => by
        have h3 : t ∈ [22, 23] := by
          rw [Tryz.params4] at ht
          rcases j with _ | _ | _ | _ | j <;> simp at ht <;> subst ht <;> decide
        have h4 : [22, 23].all (fun t => Tryz.prog.wantsStandIn t == false) = true := by kernel_rfl
        exact beq_iff_eq.1 (List.all_eq_true.1 h4 t h3)⟩)
    (by kernel_rfl)
#print axioms orders_card
end Go.Proofs.YtkmgcggoemlaaabGreatDoor
end
