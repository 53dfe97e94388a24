/-
  Part 15 of the common ground of this seat: what single parts show stands ahead of each.
  No condition.
-/
import Derived.Test.YtkmgcggoemlaaaaGreatDoorJ14
import Derived.Test.YtkmgcggoemlaaaaGreatDoorJ13
import Derived.IntWalk
import Derived.Laws.BitsAllLaws
import Derived.Outline
import Derived.Lib.SliceRun

section
/- Read, Cut, Restore of a flash; NewFlash. No condition. -/
set_option linter.unusedSimpArgs false
set_option linter.unusedVariables false
namespace Go.Proofs.YtkmgcggoemlaaaaGreatDoor
open Go.RowKit Go.Fwm

theorem slice_bytes {w : World} {ao : Option Addr} {old : List UInt8} {co at_ n : Nat} (h : Bytes w ao old) (h1 : at_ + n ≤ old.length) (h2 : old.length ≤ co) :
    Bytes w (if co = at_ then ao else Option.map (fun x => x.add at_) ao) ((old.drop at_).take n) := by
  by_cases hn : n = 0
  · subst hn; rw [List.take_zero]; exact Bytes.nil _ _
  · obtain ⟨b, o, rfl, _⟩ := h 0 (by omega)
    rw [if_neg (by omega)]
    have e : (⟨b, o, none⟩ : Addr).add at_ = ⟨b, o + at_, none⟩ := by unfold Addr.add; split <;> simp_all
    show Bytes w (some ((⟨b, o, none⟩ : Addr).add at_)) _
    rw [e]
    exact (h.drop at_).take n
theorem Fresh.none_ (w w' : World) : Fresh w w' none 0 0 [] := ⟨Bytes.nil _ _, rfl, fun a h => (by cases h), ⟨Nat.le_refl _, Nat.zero_le _⟩, fun _ => ⟨rfl, rfl⟩, fun a h => by cases h⟩
/-- What Read hands back. -/
def RdTo (w : World) (X : Nat → Prop) (pf bf be : Nat) (r : RdR) (e : Ending) (w' : World) : Prop :=
  ∃ A c be', e = .returned (.tuple #[.slice A r.buf.length c, errV r.err]) ∧ FAt w X pf bf be r.f w' be' ∧ Fresh w w' A r.buf.length c r.buf ∧ ∀ a, A = some a → pf < a.block ∧ bf < a.block ∧ be' < a.block
set_option maxHeartbeats 1000000 in
theorem read_cut (w : World) (X : Nat → Prop) (pf bf be : Nat) (f : Fl) (h : FRep w X pf bf be f) (at_ n : Nat) (hc : f.cutB = true) :
    Calls Tryz.prog 79 #[.pointer (some ⟨pf, 0, none⟩), .int .i64 (at_ : Int), .int .i64 (n : Int)] w (RdTo w X pf bf be (f.read at_ n)) := by
  have e1 : f.read at_ n = { err := some 7, buf := [], f := f.cut } := by unfold Fl.read; rw [hc]; rfl
  have hcut := cut_ok w X pf bf be f h
  rw [hc] at hcut
  rw [e1]
  clear e1 h hc
  go_enter Tryz.func79, Tryz.ntmps79
  go_wp2_with (go_at_call 60; refine hcut.mono ?_; rintro e w' ⟨rfl, hto⟩)
  go_ret2
  obtain ⟨be1, hat⟩ := FAt.of hto
  exact ⟨none, 0, be1, rfl, hat, Fresh.none_ _ _, fun a h => by cases h⟩
set_option maxRecDepth 100000 in
set_option maxHeartbeats 4000000 in
theorem read_goodA (w : World) (X : Nat → Prop) (pf bf be : Nat) (f : Fl) (h : FRep w X pf bf be f) (at_ n : Nat) (ha : at_ + n ≤ f.old.length) (hrd : f.reads < 1000000000000) (hc : f.cutB = false) (hL : f.longest < n) :
    Calls Tryz.prog 79 #[.pointer (some ⟨pf, 0, none⟩), .int .i64 (at_ : Int), .int .i64 (n : Int)] w (RdTo w X pf bf be (f.read at_ n)) := by
  have e1 : f.read at_ n = { err := none, buf := (f.old.drop at_).take n, f := { f.cut with reads := f.reads + 1, longest := n } } := by unfold Fl.read; rw [hc, show max f.longest n = n by omega]; rfl
  have hcut := cut_ok w X pf bf be f h
  rw [hc] at hcut
  rw [e1]
  have hcr : f.cut.reads = f.reads ∧ f.cut.longest = f.longest ∧ f.cut.old = f.old := by unfold Fl.cut; split <;> exact ⟨rfl, rfl, rfl⟩
  have hol := h.old_le
  have hll := h.longest_le
  have hbl : ((f.old.drop at_).take n).length = n := by simp; omega
  have HCR := Lib.hid hcr; clear hcr
  have HBL := Lib.hid hbl; clear hbl
  obtain ⟨N, hN⟩ : ∃ N, f.old.length = N := ⟨_, rfl⟩
  have HN := Lib.hid hN
  rw [hN] at ha hol
  clear hN
  clear e1 h hc
  go_enter Tryz.func79, Tryz.ntmps79
  go_wp2_with (go_at_call 60; refine hcut.mono ?_; rintro e w1 ⟨rfl, hto⟩; obtain ⟨be1, hat⟩ := FAt.of hto; obtain ⟨ao, co, q7, q8, q0, z7, z8, z0, z1, z2⟩ : ∃ ao co, w1.cell? ⟨pf, 7, none⟩ = some (.int .i64 (f.reads : Int)) ∧ w1.cell? ⟨pf, 8, none⟩ = some (.int .i64 (f.longest : Int)) ∧ w1.cell? ⟨pf, 0, none⟩ = some (.slice ao N co) ∧ w1.frozen? ⟨pf, 7, none⟩ = false ∧ w1.frozen? ⟨pf, 8, none⟩ = false ∧ (N ≤ co ∧ co ≤ maxLen) ∧ Bytes w1 ao f.old ∧ (Away (AF_ X pf bf be1) ao ∧ (ao = none → co = 0)) := (by obtain ⟨g1, g2, g3⟩ := HCR.out; obtain ⟨ao, co, cf, ve, h1, h2, h3, h4, h5, h6, h7, h8, h9, h10⟩ := hat.rep.blk; rw [g3] at h2 h8; rw [HN.out] at h8; exact ⟨ao, co, g1 ▸ h1.cell rfl, g2 ▸ h1.cell rfl, HN.out ▸ g3 ▸ h1.cell rfl, h1.free 7, h1.free 8, ⟨h8, h9⟩, h2, h3, h10⟩); have HA := Lib.hid hat; have HB := Lib.hid z1; have HZ := Lib.hid z2; have d0 : ∀ v u, ((w1.setCell ⟨pf, 7, none⟩ v).setCell ⟨pf, 8, none⟩ u).cell? ⟨pf, 0, none⟩ = some (.slice ao N co) := (fun v u => by rw [World.cell?_setCell_other _ _ _ _ (by simp), World.cell?_setCell_other _ _ _ _ (by simp)]; exact q0); have HD := Lib.hid d0; clear hat hto z1 z2 d0)
  obtain ⟨w2, hw2⟩ : ∃ w2, ((w1.setCell ⟨pf, 7, none⟩ (.int .i64 ((f.reads : Int) + 1))).setCell ⟨pf, 8, none⟩ (.int .i64 (n : Int))) = w2 := ⟨_, rfl⟩
  have d1 := HD.out (.int .i64 ((f.reads : Int) + 1)) (.int .i64 (n : Int))
  rw [hw2] at d1 ⊢
  have hat2 : FAt w X pf bf be { f.cut with reads := f.reads + 1, longest := n } w2 be1 := by
    rw [← hw2]
    obtain ⟨g1, g2, g3⟩ := HCR.out
    refine FAt.field (f := { f.cut with reads := f.reads + 1 }) ?_ 8 _ _ (fun _ _ _ _ => rfl) rfl rfl rfl HA.out.rep.len_le HA.out.rep.wait_le (by show f.reads + 1 ≤ _; omega) (by show n ≤ _; omega)
    exact FAt.field (f := f.cut) HA.out 7 _ _ (fun _ _ _ _ => rfl) rfl rfl rfl HA.out.rep.len_le HA.out.rep.wait_le (by show f.reads + 1 ≤ _; omega) (by rw [← g2] at hll; exact hll)
  have hby : Bytes w2 ao f.old := by
    have := hat2.rep.blk
    rw [← hw2]
    refine HB.out.only (((Only.refl (fun b => b = pf) w1).set _ (.inl rfl)).set _ (.inl rfl)) fun a ha e => HZ.out.1 a ha (.inr (.inl e))
  obtain ⟨w3, hw3⟩ : ∃ w3, w2.drew = w3 := ⟨_, rfl⟩
  have d3 : w3.cell? ⟨pf, 0, none⟩ = some (.slice ao N co) := by rw [← hw3]; exact d1
  have HAT := Lib.hid hat2; clear hat2
  have HBY := Lib.hid hby; clear hby
  have HW2 := Lib.hid hw2; clear hw2
  unfold maxLen at z0
  obtain ⟨z0, z3⟩ := z0
  refine wp_region_still_tail 18 (by kernel_rfl) (by kernel_rfl) ?_
  change wpStill _ _ w2.drew _ _ _
  rw [hw3]
  have HW := Lib.hid hw3; clear hw3
  simp only [List.take_succ_cons, List.take_zero, List.drop_succ_cons, List.drop_zero]
  have i1 : (at_ : Int) + (n : Int) ≤ (co : Int) := by omega
  have i2 : (at_ : Int) ≤ (at_ : Int) + (n : Int) := by omega
  have i3 : (n : Int) ≤ (N : Int) - (at_ : Int) := by omega
  have i4 : (at_ : Int) ≤ (N : Int) := by omega
  have i5 : ¬ ((n : Int) < 0) := by omega
  have i6 : ¬ ((N : Int) - (at_ : Int) < (n : Int)) := by omega
  have j1 : IntKind.i64.wrap ((at_ : Int) + (n : Int)) = (at_ : Int) + (n : Int) := IntWalk.i64_in _ (by omega)
  have j2 : IntKind.i64.wrap ((N : Int) - (at_ : Int)) = (N : Int) - (at_ : Int) := IntWalk.i64_in _ (by omega)
  repeat still_step
  clear j1 j2
  refine wpStill_nil ?_
  change wpList _ _ _ _ _ w2.drew
  rw [HW.out]
  have e : ((at_ : Int) + (n : Int)).toNat - at_ = n := by omega
  rw [e]
  have hA0 := slice_bytes HBY.out (show at_ + n ≤ f.old.length by rw [HN.out]; omega) (show f.old.length ≤ co by rw [HN.out]; omega)
  have hA1 : (if co = at_ then ao else Option.map (fun x => x.add at_) ao) = none → co - at_ = 0 := by
    intro h
    by_cases hc : co = at_
    · omega
    · rw [if_neg hc] at h
      have := HZ.out.2 (by simpa using h)
      omega
  generalize (if co = at_ then ao else Option.map (fun x => x.add at_) ao) = A0 at hA0 hA1 ⊢
  have hcl := clone_any w3 A0 n (co - at_) ((f.old.drop at_).take n) HBL.out (by omega) (by rw [← HW.out]; exact hA0) hA1
  have HCL := Lib.hid hcl; clear hcl hA0 hA1 e
  go_wp2_with (go_at_call 38; refine HCL.out.mono ?_; rintro e w' ⟨A, c, rfl, hf, hb⟩)
  go_ret2
  have hat := HAT.out
  rw [← HW.out] at hf hb
  have hle := hat.on.le
  refine ⟨A, c, be1, ?_, hat.only ⟨hb.size, fun b hb1 _ => hb.block b hb1⟩, ⟨hf.bytes, rfl, fun a ha => ?_, ?_, ?_, hf.own⟩, fun a ha => ?_⟩
  · show _ = Ending.returned (.tuple #[.slice A ((f.old.drop at_).take n).length c, errV none])
    rw [HBL.out]; rfl
  · obtain ⟨x1, x2⟩ := hf.new_ a ha
    exact ⟨Nat.le_trans hle x1, x2⟩
  · show ((f.old.drop at_).take n).length ≤ c ∧ _
    rw [HBL.out]; exact hf.cap
  · show A = none → ((f.old.drop at_).take n).length = 0 ∧ _
    rw [HBL.out]; exact hf.nil_
  · obtain ⟨x1, _⟩ := hf.new_ a ha
    have x3 : w2.heap.size ≤ a.block := x1
    obtain ⟨_, _, _, _, g1, _⟩ := hat.rep.blk
    exact ⟨Nat.lt_of_lt_of_le g1.lt x3, Nat.lt_of_lt_of_le hat.rep.fresh.lt x3, Nat.lt_of_lt_of_le hat.rep.belt x3⟩
set_option maxRecDepth 100000 in
set_option maxHeartbeats 4000000 in
theorem read_goodB (w : World) (X : Nat → Prop) (pf bf be : Nat) (f : Fl) (h : FRep w X pf bf be f) (at_ n : Nat) (ha : at_ + n ≤ f.old.length) (hrd : f.reads < 1000000000000) (hc : f.cutB = false) (hL : n ≤ f.longest) :
    Calls Tryz.prog 79 #[.pointer (some ⟨pf, 0, none⟩), .int .i64 (at_ : Int), .int .i64 (n : Int)] w (RdTo w X pf bf be (f.read at_ n)) := by
  have e1 : f.read at_ n = { err := none, buf := (f.old.drop at_).take n, f := { f.cut with reads := f.reads + 1, longest := f.longest } } := by unfold Fl.read; rw [hc, show max f.longest n = f.longest by omega]; rfl
  have hcut := cut_ok w X pf bf be f h
  rw [hc] at hcut
  rw [e1]
  have hcr : f.cut.reads = f.reads ∧ f.cut.longest = f.longest ∧ f.cut.old = f.old := by unfold Fl.cut; split <;> exact ⟨rfl, rfl, rfl⟩
  have hol := h.old_le
  have hll := h.longest_le
  have hbl : ((f.old.drop at_).take n).length = n := by simp; omega
  have HCR := Lib.hid hcr; clear hcr
  have HBL := Lib.hid hbl; clear hbl
  obtain ⟨N, hN⟩ : ∃ N, f.old.length = N := ⟨_, rfl⟩
  have HN := Lib.hid hN
  rw [hN] at ha hol
  clear hN
  clear e1 h hc
  go_enter Tryz.func79, Tryz.ntmps79
  go_wp2_with (go_at_call 60; refine hcut.mono ?_; rintro e w1 ⟨rfl, hto⟩; obtain ⟨be1, hat⟩ := FAt.of hto; obtain ⟨ao, co, q7, q8, q0, z7, z8, z0, z1, z2⟩ : ∃ ao co, w1.cell? ⟨pf, 7, none⟩ = some (.int .i64 (f.reads : Int)) ∧ w1.cell? ⟨pf, 8, none⟩ = some (.int .i64 (f.longest : Int)) ∧ w1.cell? ⟨pf, 0, none⟩ = some (.slice ao N co) ∧ w1.frozen? ⟨pf, 7, none⟩ = false ∧ w1.frozen? ⟨pf, 8, none⟩ = false ∧ (N ≤ co ∧ co ≤ maxLen) ∧ Bytes w1 ao f.old ∧ (Away (AF_ X pf bf be1) ao ∧ (ao = none → co = 0)) := (by obtain ⟨g1, g2, g3⟩ := HCR.out; obtain ⟨ao, co, cf, ve, h1, h2, h3, h4, h5, h6, h7, h8, h9, h10⟩ := hat.rep.blk; rw [g3] at h2 h8; rw [HN.out] at h8; exact ⟨ao, co, g1 ▸ h1.cell rfl, g2 ▸ h1.cell rfl, HN.out ▸ g3 ▸ h1.cell rfl, h1.free 7, h1.free 8, ⟨h8, h9⟩, h2, h3, h10⟩); have HA := Lib.hid hat; have HB := Lib.hid z1; have HZ := Lib.hid z2; have d0 : ∀ v u, ((w1.setCell ⟨pf, 7, none⟩ v).setCell ⟨pf, 8, none⟩ u).cell? ⟨pf, 0, none⟩ = some (.slice ao N co) := (fun v u => by rw [World.cell?_setCell_other _ _ _ _ (by simp), World.cell?_setCell_other _ _ _ _ (by simp)]; exact q0); have HD := Lib.hid d0; clear hat hto z1 z2 d0)
  obtain ⟨w2, hw2⟩ : ∃ w2, ((w1.setCell ⟨pf, 7, none⟩ (.int .i64 ((f.reads : Int) + 1))).setCell ⟨pf, 8, none⟩ (.int .i64 (f.longest : Int))) = w2 := ⟨_, rfl⟩
  have d1 := HD.out (.int .i64 ((f.reads : Int) + 1)) (.int .i64 (f.longest : Int))
  rw [hw2] at d1 ⊢
  have hat2 : FAt w X pf bf be { f.cut with reads := f.reads + 1, longest := f.longest } w2 be1 := by
    rw [← hw2]
    obtain ⟨g1, g2, g3⟩ := HCR.out
    refine FAt.field (f := { f.cut with reads := f.reads + 1 }) ?_ 8 _ _ (fun _ _ _ _ => rfl) rfl rfl rfl HA.out.rep.len_le HA.out.rep.wait_le (by show f.reads + 1 ≤ _; omega) (by show f.longest ≤ _; omega)
    exact FAt.field (f := f.cut) HA.out 7 _ _ (fun _ _ _ _ => rfl) rfl rfl rfl HA.out.rep.len_le HA.out.rep.wait_le (by show f.reads + 1 ≤ _; omega) (by rw [← g2] at hll; exact hll)
  have hby : Bytes w2 ao f.old := by
    have := hat2.rep.blk
    rw [← hw2]
    refine HB.out.only (((Only.refl (fun b => b = pf) w1).set _ (.inl rfl)).set _ (.inl rfl)) fun a ha e => HZ.out.1 a ha (.inr (.inl e))
  obtain ⟨w3, hw3⟩ : ∃ w3, w2.drew = w3 := ⟨_, rfl⟩
  have d3 : w3.cell? ⟨pf, 0, none⟩ = some (.slice ao N co) := by rw [← hw3]; exact d1
  have HAT := Lib.hid hat2; clear hat2
  have HBY := Lib.hid hby; clear hby
  have HW2 := Lib.hid hw2; clear hw2
  unfold maxLen at z0
  obtain ⟨z0, z3⟩ := z0
  refine wp_region_still_tail 18 (by kernel_rfl) (by kernel_rfl) ?_
  change wpStill _ _ w2.drew _ _ _
  rw [hw3]
  have HW := Lib.hid hw3; clear hw3
  simp only [List.take_succ_cons, List.take_zero, List.drop_succ_cons, List.drop_zero]
  have i1 : (at_ : Int) + (n : Int) ≤ (co : Int) := by omega
  have i2 : (at_ : Int) ≤ (at_ : Int) + (n : Int) := by omega
  have i3 : (n : Int) ≤ (N : Int) - (at_ : Int) := by omega
  have i4 : (at_ : Int) ≤ (N : Int) := by omega
  have i5 : ¬ ((n : Int) < 0) := by omega
  have i6 : ¬ ((N : Int) - (at_ : Int) < (n : Int)) := by omega
  have j1 : IntKind.i64.wrap ((at_ : Int) + (n : Int)) = (at_ : Int) + (n : Int) := IntWalk.i64_in _ (by omega)
  have j2 : IntKind.i64.wrap ((N : Int) - (at_ : Int)) = (N : Int) - (at_ : Int) := IntWalk.i64_in _ (by omega)
  repeat still_step
  clear j1 j2
  refine wpStill_nil ?_
  change wpList _ _ _ _ _ w2.drew
  rw [HW.out]
  have e : ((at_ : Int) + (n : Int)).toNat - at_ = n := by omega
  rw [e]
  have hA0 := slice_bytes HBY.out (show at_ + n ≤ f.old.length by rw [HN.out]; omega) (show f.old.length ≤ co by rw [HN.out]; omega)
  have hA1 : (if co = at_ then ao else Option.map (fun x => x.add at_) ao) = none → co - at_ = 0 := by
    intro h
    by_cases hc : co = at_
    · omega
    · rw [if_neg hc] at h
      have := HZ.out.2 (by simpa using h)
      omega
  generalize (if co = at_ then ao else Option.map (fun x => x.add at_) ao) = A0 at hA0 hA1 ⊢
  have hcl := clone_any w3 A0 n (co - at_) ((f.old.drop at_).take n) HBL.out (by omega) (by rw [← HW.out]; exact hA0) hA1
  have HCL := Lib.hid hcl; clear hcl hA0 hA1 e
  go_wp2_with (go_at_call 38; refine HCL.out.mono ?_; rintro e w' ⟨A, c, rfl, hf, hb⟩)
  go_ret2
  have hat := HAT.out
  rw [← HW.out] at hf hb
  have hle := hat.on.le
  refine ⟨A, c, be1, ?_, hat.only ⟨hb.size, fun b hb1 _ => hb.block b hb1⟩, ⟨hf.bytes, rfl, fun a ha => ?_, ?_, ?_, hf.own⟩, fun a ha => ?_⟩
  · show _ = Ending.returned (.tuple #[.slice A ((f.old.drop at_).take n).length c, errV none])
    rw [HBL.out]; rfl
  · obtain ⟨x1, x2⟩ := hf.new_ a ha
    exact ⟨Nat.le_trans hle x1, x2⟩
  · show ((f.old.drop at_).take n).length ≤ c ∧ _
    rw [HBL.out]; exact hf.cap
  · show A = none → ((f.old.drop at_).take n).length = 0 ∧ _
    rw [HBL.out]; exact hf.nil_
  · obtain ⟨x1, _⟩ := hf.new_ a ha
    have x3 : w2.heap.size ≤ a.block := x1
    obtain ⟨_, _, _, _, g1, _⟩ := hat.rep.blk
    exact ⟨Nat.lt_of_lt_of_le g1.lt x3, Nat.lt_of_lt_of_le hat.rep.fresh.lt x3, Nat.lt_of_lt_of_le hat.rep.belt x3⟩
theorem read_ok (w : World) (X : Nat → Prop) (pf bf be : Nat) (f : Fl) (h : FRep w X pf bf be f) (at_ n : Nat) (ha : at_ + n ≤ f.old.length) (hrd : f.reads < 1000000000000) :
    Calls Tryz.prog 79 #[.pointer (some ⟨pf, 0, none⟩), .int .i64 (at_ : Int), .int .i64 (n : Int)] w (RdTo w X pf bf be (f.read at_ n)) := by
  cases hc : f.cutB with
  | true => exact read_cut w X pf bf be f h at_ n hc
  | false =>
    by_cases hl : f.longest < n
    · exact read_goodA w X pf bf be f h at_ n ha hrd hc hl
    · exact read_goodB w X pf bf be f h at_ n ha hrd hc (by omega)

set_option maxHeartbeats 1000000 in
theorem restore_ok (w : World) (X : Nat → Prop) (pf bf be : Nat) (f : Fl) (h : FRep w X pf bf be f) :
    Calls Tryz.prog 27 #[.pointer (some ⟨pf, 0, none⟩)] w fun e w' => e = .returned (.tuple #[]) ∧ FTo w X pf bf be { f with wait := -1, events := [] } w' := by
  have hR : FTo w X pf bf be { f with wait := -1, events := [] } ((w.setCell ⟨pf, 5, none⟩ (.int .i64 (-1))).setCell ⟨pf, 2, none⟩ (.slice none 0 0)) := by
    have h5 := h.wait_set (n := -1) (by omega)
    obtain ⟨⟨ao, co, cf, ve, h1, h2, h3, h4, h5, h6⟩, hfr, ne1, ne2, ne3, hb, o1, o2, o3, o4, o5, o6, o7⟩ := h5
    have hon : Only (fun b => b = pf) (w.setCell ⟨pf, 5, none⟩ (.int .i64 (-1))) ((w.setCell ⟨pf, 5, none⟩ (.int .i64 (-1))).setCell ⟨pf, 2, none⟩ (.slice none 0 0)) := (Only.refl _ _).set _ (.inl rfl)
    refine ⟨be, ⟨⟨ao, co, cf, .slice none 0 0, h1.set 2 _, h2.only hon fun a ha e => h3 a ha (.inr (.inl e)), h3, fun a ha => Nat.lt_of_lt_of_le (h4 a ha) hon.le, ⟨World.ownsRow_nil _ _ _ _, fun k hk => by simp [Value.ownBlock] at hk⟩, h6⟩, hfr.setNe _ (Ne.symm ne1), ne1, ne2, ne3, Nat.lt_of_lt_of_le hb hon.le, o1, o2, Nat.zero_le _, o4, o5, o6, o7⟩, .inl rfl, ?_⟩
    exact ((Only.refl _ w).set _ (.inl (.inl rfl))).set _ (.inl (.inl rfl))
  obtain ⟨ao, co, cf, ve, h1, _⟩ := h.blk
  have c5 : w.cell? ⟨pf, 5, none⟩ = some (.int .i64 f.wait) := h1.cell rfl
  have c2 : w.cell? ⟨pf, 2, none⟩ = some ve := h1.cell rfl
  have z5 := h1.free 5
  have z2 := h1.free 2
  clear h h1
  go_enter Tryz.func27, Tryz.ntmps27
  go_wp2
  go_end0
  exact ⟨rfl, hR⟩
set_option maxHeartbeats 1000000 in
theorem setcut_ok (w : World) (X : Nat → Prop) (pf bf be : Nat) (f : Fl) (h : FRep w X pf bf be f) (n : Nat) (hn : n ≤ 1000000) (t : UInt8) :
    Calls Tryz.prog 22 #[.pointer (some ⟨pf, 0, none⟩), .int .i64 (n : Int), .int .u8 (t.toNat : Int)] w fun e w' => e = .returned (.tuple #[]) ∧ FTo w X pf bf be { f with wait := n, torn := t } w' := by
  have hR : FTo w X pf bf be { f with wait := n, torn := t } ((w.setCell ⟨pf, 5, none⟩ (.int .i64 (n : Int))).setCell ⟨pf, 6, none⟩ (.int .u8 (t.toNat : Int))) := by
    refine FAt.to (be' := be) (FAt.field (f := { f with wait := n }) ⟨h.wait_set (by omega), .inl rfl, (Only.refl _ w).set _ (.inl (.inl rfl))⟩ 6 _ _ (fun _ _ _ _ => rfl) rfl rfl rfl h.len_le ?_ h.reads_le h.longest_le)
    show ((n : Int)) ≤ _ ∧ _ ≤ ((n : Int))
    omega
  obtain ⟨ao, co, cf, ve, h1, _⟩ := h.blk
  have c5 : w.cell? ⟨pf, 5, none⟩ = some (.int .i64 f.wait) := h1.cell rfl
  have c6 : w.cell? ⟨pf, 6, none⟩ = some (.int .u8 (f.torn.toNat : Int)) := h1.cell rfl
  have z5 := h1.free 5
  have z6 := h1.free 6
  clear h h1
  go_enter Tryz.func22, Tryz.ntmps22
  go_wp2
  go_end0
  exact ⟨rfl, hR⟩
end Go.Proofs.YtkmgcggoemlaaaaGreatDoor
end

section
/- Add of a sum. No condition. -/
set_option linter.unusedSimpArgs false
set_option linter.unusedVariables false
namespace Go.Proofs.YtkmgcggoemlaaaaGreatDoor
open Go.RowKit Go.Fwm

theorem ones_xor (s : Nat) (h : s < 4294967296) : 4294967295 ^^^ s = 4294967295 - s := by
  apply Nat.eq_of_testBit_eq
  intro i
  have h1 : (4294967295 : Nat) = 2 ^ 32 - 1 := by decide
  have h2 : 4294967295 - s = 2 ^ 32 - (s + 1) := by omega
  rw [Nat.testBit_xor, h2, Nat.testBit_two_pow_sub_succ (show s < 2 ^ 32 by omega), h1, Nat.testBit_two_pow_sub_one]
  by_cases hi : i < 32
  · simp [hi]
  · have : s.testBit i = false := Nat.testBit_lt_two_pow (Nat.lt_of_lt_of_le (show s < 2 ^ 32 by omega) (Nat.pow_le_pow_right (by omega) (by omega)))
    simp [hi, this]
theorem walk_inv (s : Nat) (h : s < 4294967296) : bits .xor .u32 IntKind.u32.max (s : Int) = ((inv32 s : Nat) : Int) := by
  have e : IntKind.u32.max = ((4294967295 : Nat) : Int) := by decide
  rw [e, u32_xor_nat 4294967295 s (by omega) h, ones_xor s h]; rfl
theorem walk_rnd (r : Nat) (h : r < 4294967296) : bits .xor .u32 ((r : Int) / 2) (bits .and .u32 (r : Int) 1 * 3988292384 % 4294967296) = ((rnd r : Nat) : Int) := by
  have e1 : bits .and .u32 (r : Int) 1 = ((r &&& 1 : Nat) : Int) := u32_and_nat r 1 h (by omega)
  have e2 : r &&& 1 = r % 2 := Nat.and_two_pow_sub_one_eq_mod r 1
  have e3 : (((r &&& 1 : Nat) : Int) * 3988292384 % 4294967296) = (((r &&& 1) * poly : Nat) : Int) := by rw [e2]; unfold poly; omega
  have e4 : ((r : Int) / 2) = ((r / 2 : Nat) : Int) := by omega
  rw [e1, e3, e4, u32_xor_nat (r / 2) _ (by omega) (by rw [e2]; unfold poly; omega)]
  unfold rnd
  rw [Nat.shiftRight_eq_div_pow]
theorem crcL_snoc (c : Nat) (zs : List UInt8) (k : Nat) (h : k < zs.length) : crcL c (zs.take (k + 1)) = crcB (crcL c (zs.take k)) zs[k] := by
  rw [List.take_succ_eq_append_getElem h, crcL_app]; rfl

set_option maxHeartbeats 1000000 in
theorem add_ok (w : World) (s : Nat) (hs : s < 4294967296) (A : Option Addr) (n c : Nat) (zs : List UInt8) (hl : zs.length = n) (hn : n ≤ maxLen) (hx : Bytes w A zs) :
    Calls Tryz.prog 50 #[.int .u32 (s : Int), .slice A n c] w fun e w' => e = .returned (.int .u32 (sumAdd s zs : Nat)) ∧ w = w' := by
  unfold maxLen at hn
  go_enter Tryz.func50, Tryz.ntmps50
  go_wp2
  go_loop [5, 12] (fun q i => ∃ k : Nat, k ≤ n ∧ i = .int .i64 k ∧ q = .int .u32 (crcL (inv32 s) (zs.take k) : Nat)) (fun _ i => n - (intOf i).toNat)
  case atStart => exact ⟨0, Nat.zero_le _, rfl, by rw [walk_inv s hs]; rfl⟩
  case round =>
    obtain ⟨k, hk, rfl, rfl⟩ := hrel
    by_cases hlt : k < n
    · have hsn := crcL_snoc (inv32 s) zs k (by omega)
      obtain ⟨b, o, rfl, hc⟩ := hx k (by omega)
      obtain ⟨C, hC⟩ : ∃ C, crcL (inv32 s) (zs.take k) = C := ⟨_, rfl⟩
      have hCl : C < 4294967296 := by rw [← hC]; exact crcL_lt (inv32_lt s) _
      obtain ⟨x, hxx⟩ : ∃ x, zs[k].toNat = x := ⟨_, rfl⟩
      have hx256 : x < 256 := by rw [← hxx]; exact zs[k].toNat_lt
      have hstep : crcL (inv32 s) (zs.take (k + 1)) = rnds 8 (C ^^^ x) := by rw [hsn, hC]; unfold crcB; rw [hxx]
      rw [hxx] at hc
      rw [hC]
      have HS := Lib.hid hstep; clear hstep hsn
      clear hC hxx
      have hxor := u32_xor_nat C x hCl (by omega)
      have hlt32 : ∀ m, rnds m (C ^^^ x) < 4294967296 := fun m => rnds_lt (Nat.xor_lt_two_pow (n := 32) (by omega) (by omega)) m
      have HL := Lib.hid hlt32; clear hlt32
      go_wp2
      go_loop [5, 20] (fun q j => ∃ m : Nat, m ≤ 8 ∧ j = .int .i64 m ∧ q = .int .u32 (rnds m (C ^^^ x) : Nat)) (fun _ j => 8 - (intOf j).toNat)
      case atStart => exact ⟨0, by omega, rfl, rfl⟩
      case round =>
        obtain ⟨m, hm, rfl, rfl⟩ := hrel
        by_cases hm8 : m < 8
        · obtain ⟨r, hr⟩ : ∃ r, rnds m (C ^^^ x) = r := ⟨_, rfl⟩
          have hrl : r < 4294967296 := by rw [← hr]; exact HL.out m
          have hw := walk_rnd r hrl
          have e1 : rnds (m + 1) (C ^^^ x) = rnd r := by rw [← hr]; rfl
          rw [hr]
          have HW := Lib.hid hw; clear hw
          have HE := Lib.hid e1; clear e1 hr
          go_wp2
          go_round
          case rel => exact ⟨m + 1, by omega, by go_num, by rw [HE.out, HW.out]⟩
          case measure => simp [intOf]; omega
        · have e8 : m = 8 := by omega
          subst e8
          go_wp2
          go_round
          case rel => exact ⟨k + 1, by omega, by go_num, by rw [HS.out]⟩
          case measure => simp [intOf]; omega
    · have e : k = n := by omega
      have hcl : crcL (inv32 s) (zs.take k) < 4294967296 := crcL_lt (inv32_lt s) _
      have hw := walk_inv _ hcl
      have e2 : zs.take k = zs := List.take_of_length_le (by omega)
      have HW := Lib.hid hw; clear hw hcl
      have HE := Lib.hid e2; clear e2 e
      go_wp2
      go_ret
      exact ⟨by rw [HW.out, HE.out]; rfl, rfl⟩
end Go.Proofs.YtkmgcggoemlaaaaGreatDoor
end

section
/- The applier in memory: how it turns; number and fixed. No condition. -/
set_option linter.unusedSimpArgs false
set_option linter.unusedVariables false
namespace Go.Proofs.YtkmgcggoemlaaaaGreatDoor
open Go.RowKit Go.Fwm

/-- What a call on the applier may turn. -/
def AO (pa pf bf be : Nat) (b : Nat) : Prop := b = pa ∨ FF pf bf be b
structure AAt (w : World) (G : Nat → Prop) (pa pf bf be : Nat) (a : Ap) (f : Fl) (w' : World) (be' : Nat) : Prop where
  rep : ARep w' G pa pf bf be' a f
  bq : be' = be ∨ w.heap.size ≤ be'
  on : Only (AO pa pf bf be) w w'
section
variable {w w' w'' : World} {G : Nat → Prop} {pa pf bf be be' be'' : Nat} {a a' : Ap} {f f' : Fl}
theorem AAt.refl (h : ARep w G pa pf bf be a f) : AAt w G pa pf bf be a f w be := ⟨h, .inl rfl, Only.refl _ _⟩
theorem AAt.then_ (h : AAt w G pa pf bf be a f w' be') (k : AAt w' G pa pf bf be' a' f' w'' be'') : AAt w G pa pf bf be a' f' w'' be'' := by
  refine ⟨k.rep, ?_, h.on.trans k.on fun b hb x => ?_⟩
  · rcases k.bq with e | e
    · rw [e]; exact h.bq
    · exact .inr (Nat.le_trans h.on.le e)
  · rcases x with x | x | x | x
    · exact .inl x
    · exact .inr (.inl x)
    · exact .inr (.inr (.inl x))
    · rcases h.bq with y | y
      · exact .inr (.inr (.inr (x.trans y)))
      · omega
/-- A store into the applier. -/
theorem ARep.field (h : ARep w G pa pf bf be a f) (i : Nat) (v : Value) (a' : Ap) (e : ∀ vf vb, apCells a' pf vf vb = (apCells a pf vf vb).set i v) (e1 : a'.fault = a.fault) (e2 : a'.buf = a.buf) (hi : AInv a') :
    ARep (w.setCell ⟨pa, i, none⟩ v) G pa pf bf be a' f := by
  obtain ⟨⟨vf, A, c, h1, h2, h3, h4, h5, h6⟩, hfl, ne, ng, hg, _⟩ := h
  have hon : Only (fun b => b = pa) w (w.setCell ⟨pa, i, none⟩ v) := (Only.refl _ w).set _ (.inl rfl)
  refine ⟨⟨vf, A, c, ?_, ?_, ?_, h4, fun x hx => Nat.lt_of_lt_of_le (h5 x hx) hon.le, by rw [e2]; exact h6⟩, hfl.only hon fun b x _ => ?_, ne, ng, fun b hb => Nat.lt_of_lt_of_le (hg b hb) hon.le, hi⟩
  · rw [e2, e]; exact h1.set i v
  · rw [e1]
    cases hf : a.fault with
    | none => rw [hf] at h2; exact h2
    | errno n => rw [hf] at h2; exact h2
    | wrapped n =>
      rw [hf] at h2
      obtain ⟨b, at_, q1, q2, q3⟩ := h2
      exact ⟨b, at_, q1, q2, q3.setNe _ fun e => q2 (.inl (.inl e))⟩
  · rw [e2]; exact h3.only hon fun x hx e => h4 x hx (.inl (.inl e))
  · subst x
    exact ⟨.inl rfl, ne.1, ne.2.1, ne.2.2⟩
theorem AAt.field (h : AAt w G pa pf bf be a f w' be') (i : Nat) (v : Value) (a' : Ap) (e : ∀ vf vb, apCells a' pf vf vb = (apCells a pf vf vb).set i v) (e1 : a'.fault = a.fault) (e2 : a'.buf = a.buf) (hi : AInv a') :
    AAt w G pa pf bf be a' f (w'.setCell ⟨pa, i, none⟩ v) be' := ⟨h.rep.field i v a' e e1 e2 hi, h.bq, h.on.set _ (.inl (.inl rfl))⟩
/-- Other memory has turned. -/
theorem ARep.only (h : ARep w G pa pf bf be a f) {F : Nat → Prop} (hon : Only F w w') (hF : ∀ b, F b → b < w.heap.size → G b) : ARep w' G pa pf bf be a f := by
  obtain ⟨⟨vf, A, c, h1, h2, h3, h4, h5, h6⟩, hfl, ne, ng, hg, hi⟩ := h
  refine ⟨⟨vf, A, c, h1.only hon fun x => ng.1 (hF _ x h1.lt), ?_, h3.keep fun x hx hlt => hon.keep _ hlt fun y => h4 x hx (.inl (.inr (hF _ y hlt))), h4, fun x hx => Nat.lt_of_lt_of_le (h5 x hx) hon.le, h6⟩,
    hfl.only hon fun b x hlt => ⟨.inr (hF b x hlt), fun e => ng.2.1 (e ▸ hF b x hlt), fun e => ng.2.2.1 (e ▸ hF b x hlt), fun e => ng.2.2.2 (e ▸ hF b x hlt)⟩, ne, ng, fun b hb => Nat.lt_of_lt_of_le (hg b hb) hon.le, hi⟩
  cases hf : a.fault with
  | none => rw [hf] at h2; exact h2
  | errno n => rw [hf] at h2; exact h2
  | wrapped n =>
    rw [hf] at h2
    obtain ⟨b, at_, q1, q2, q3⟩ := h2
    exact ⟨b, at_, q1, q2, q3.only hon fun y => q2 (.inl (.inr (hF _ y q3.lt)))⟩
theorem AAt.only (h : AAt w G pa pf bf be a f w' be') (k : Only (fun _ => False) w' w'') : AAt w G pa pf bf be a f w'' be' :=
  ⟨h.rep.only k fun b x => x.elim, h.bq, h.on.trans k fun b _ x => x.elim⟩
theorem AAt.alloc (h : AAt w G pa pf bf be a f w' be') (o : Obj) : AAt w G pa pf bf be a f (w'.alloc o) be' := h.only ((Only.refl _ _).alloc o)
theorem AAt.drewN (h : AAt w G pa pf bf be a f w' be') (k : Nat) : AAt w G pa pf bf be a f (w'.drewN k) be' := h.only ((Only.refl _ _).drewN k)
theorem AAt.drew (h : AAt w G pa pf bf be a f w' be') : AAt w G pa pf bf be a f w'.drew be' := h.only ((Only.refl _ _).drew)
/-- The flash has turned. -/
theorem ARep.flash (h : ARep w G pa pf bf be a f) (k : FAt w (PX pa G) pf bf be f' w' be') : AAt w G pa pf bf be a f' w' be' := by
  obtain ⟨⟨vf, A, c, h1, h2, h3, h4, h5, h6⟩, hfl, ne, ng, hg, hi⟩ := h
  have hnew : ∀ b, b < w.heap.size → ¬ AF_ (PX pa G) pf bf be b → ¬ AF_ (PX pa G) pf bf be' b := by
    intro b hb hn x
    rcases x with x | x | x | x
    · exact hn (.inl x)
    · exact hn (.inr (.inl x))
    · exact hn (.inr (.inr (.inl x)))
    · rcases k.bq with y | y
      · exact hn (.inr (.inr (.inr (x.trans y))))
      · omega
  have hff : ∀ b, ¬ AF_ (PX pa G) pf bf be b → ¬ FF pf bf be b := fun b hn x => hn (.inr x)
  have hbe : ∀ b, b < w.heap.size → b ≠ be → b ≠ be' := fun b hb hn e => by rcases k.bq with y | y; exact hn (e.trans y); omega
  refine ⟨⟨⟨vf, A, c, h1.only k.on ?_, ?_, h3.only k.on fun x hx => hff _ (h4 x hx), fun x hx => hnew _ (h5 x hx) (h4 x hx), fun x hx => Nat.lt_of_lt_of_le (h5 x hx) k.on.le, h6⟩, k.rep, ⟨ne.1, ne.2.1, hbe _ h1.lt ne.2.2⟩, ⟨ng.1, ng.2.1, ng.2.2.1, ?_⟩, fun b hb => Nat.lt_of_lt_of_le (hg b hb) k.on.le, hi⟩, k.bq, k.on.mono fun b _ x => .inr x⟩
  · rintro (x | x | x)
    · exact ne.1 x
    · exact ne.2.1 x
    · exact ne.2.2 x
  · cases hf : a.fault with
    | none => rw [hf] at h2; exact h2
    | errno n => rw [hf] at h2; exact h2
    | wrapped n =>
      rw [hf] at h2
      obtain ⟨b, at_, q1, q2, q3⟩ := h2
      exact ⟨b, at_, q1, hnew b q3.lt q2, q3.only k.on (hff b q2)⟩
  · intro x
    rcases k.bq with y | y
    · exact ng.2.2.2 (y ▸ x)
    · have := hg _ x; omega
theorem AAt.flash (h : AAt w G pa pf bf be a f w' be') (k : FAt w' (PX pa G) pf bf be' f' w'' be'') : AAt w G pa pf bf be a f' w'' be'' := h.then_ (h.rep.flash k)
end

theorem AAt.setSum {w w' : World} {G : Nat → Prop} {pa pf bf be be' : Nat} {a : Ap} {f : Fl} (h : AAt w G pa pf bf be a f w' be') (x : Nat) (hx : x < 4294967296) :
    AAt w G pa pf bf be { a with sum := x } f (w'.setCell ⟨pa, 3, none⟩ (.int .u32 (x : Int))) be' :=
  h.field 3 _ { a with sum := x } (fun _ _ => rfl) rfl rfl { h.rep.inv with sum := hx }
theorem AAt.setValue {w w' : World} {G : Nat → Prop} {pa pf bf be be' : Nat} {a : Ap} {f : Fl} (h : AAt w G pa pf bf be a f w' be') (x : Nat) (hx : x < 4294967296) :
    AAt w G pa pf bf be { a with value := x } f (w'.setCell ⟨pa, 5, none⟩ (.int .u32 (x : Int))) be' :=
  h.field 5 _ { a with value := x } (fun _ _ => rfl) rfl rfl { h.rep.inv with value := hx }
theorem AAt.setDigits {w w' : World} {G : Nat → Prop} {pa pf bf be be' : Nat} {a : Ap} {f : Fl} (h : AAt w G pa pf bf be a f w' be') (x : Int) (hx : -1 ≤ x ∧ x ≤ 4) :
    AAt w G pa pf bf be { a with digits := x } f (w'.setCell ⟨pa, 6, none⟩ (.int .i64 x)) be' :=
  h.field 6 _ { a with digits := x } (fun _ _ => rfl) rfl rfl { h.rep.inv with digits := hx }
theorem AAt.setSize {w w' : World} {G : Nat → Prop} {pa pf bf be be' : Nat} {a : Ap} {f : Fl} (h : AAt w G pa pf bf be a f w' be') (x : Nat) (hx : x ≤ 4096) :
    AAt w G pa pf bf be { a with size := x } f (w'.setCell ⟨pa, 7, none⟩ (.int .i64 (x : Int))) be' :=
  h.field 7 _ { a with size := x } (fun _ _ => rfl) rfl rfl { h.rep.inv with size := hx }
theorem AAt.setLength {w w' : World} {G : Nat → Prop} {pa pf bf be be' : Nat} {a : Ap} {f : Fl} (h : AAt w G pa pf bf be a f w' be') (x : Nat) (hx : x ≤ 4096) :
    AAt w G pa pf bf be { a with length := x } f (w'.setCell ⟨pa, 8, none⟩ (.int .i64 (x : Int))) be' :=
  h.field 8 _ { a with length := x } (fun _ _ => rfl) rfl rfl { h.rep.inv with length := hx }
theorem AAt.setMade {w w' : World} {G : Nat → Prop} {pa pf bf be be' : Nat} {a : Ap} {f : Fl} (h : AAt w G pa pf bf be a f w' be') (x : Nat) (hx : x ≤ 4096) :
    AAt w G pa pf bf be { a with made := x } f (w'.setCell ⟨pa, 9, none⟩ (.int .i64 (x : Int))) be' :=
  h.field 9 _ { a with made := x } (fun _ _ => rfl) rfl rfl { h.rep.inv with made := hx }
theorem AAt.setCount {w w' : World} {G : Nat → Prop} {pa pf bf be be' : Nat} {a : Ap} {f : Fl} (h : AAt w G pa pf bf be a f w' be') (x : Nat) (hx : x ≤ 4096) :
    AAt w G pa pf bf be { a with count := x } f (w'.setCell ⟨pa, 10, none⟩ (.int .i64 (x : Int))) be' :=
  h.field 10 _ { a with count := x } (fun _ _ => rfl) rfl rfl { h.rep.inv with count := hx }
theorem AAt.setAt {w w' : World} {G : Nat → Prop} {pa pf bf be be' : Nat} {a : Ap} {f : Fl} (h : AAt w G pa pf bf be a f w' be') (x : Nat) (hx : x ≤ 1000000000000) :
    AAt w G pa pf bf be { a with at_ := x } f (w'.setCell ⟨pa, 2, none⟩ (.int .i64 (x : Int))) be' :=
  h.field 2 _ { a with at_ := x } (fun _ _ => rfl) rfl rfl { h.rep.inv with at_ := hx }
theorem AAt.setOp {w w' : World} {G : Nat → Prop} {pa pf bf be be' : Nat} {a : Ap} {f : Fl} (h : AAt w G pa pf bf be a f w' be') (x : Nat) (hx : x < 256) :
    AAt w G pa pf bf be { a with op := x } f (w'.setCell ⟨pa, 11, none⟩ (.int .u8 (x : Int))) be' :=
  h.field 11 _ { a with op := x } (fun _ _ => rfl) rfl rfl { h.rep.inv with op := hx }
theorem AAt.setSt {w w' : World} {G : Nat → Prop} {pa pf bf be be' : Nat} {a : Ap} {f : Fl} (h : AAt w G pa pf bf be a f w' be') (x : St) :
    AAt w G pa pf bf be { a with st := x } f (w'.setCell ⟨pa, 1, none⟩ (stV x)) be' :=
  h.field 1 _ { a with st := x } (fun _ _ => rfl) rfl rfl { h.rep.inv with }
theorem AAt.setPage {w w' : World} {G : Nat → Prop} {pa pf bf be be' : Nat} {a : Ap} {f : Fl} (h : AAt w G pa pf bf be a f w' be') (j : Nat) (hj : j < 64) (x : UInt8) :
    AAt w G pa pf bf be { a with page := a.page.set j x } f (w'.setCell ⟨pa, 12 + j, none⟩ (.int .u8 (x.toNat : Int))) be' := by
  have hp := h.rep.inv.page
  refine h.field (12 + j) _ { a with page := a.page.set j x } (fun vf vb => ?_) rfl rfl { h.rep.inv with page := by simpa using hp }
  unfold apCells
  rw [List.set_append_right _ _ (by simp)]
  simp only [List.length_cons, List.length_nil]
  rw [List.set_append_left _ _ (by simp; omega), show 12 + j - (0 + 1 + 1 + 1 + 1 + 1 + 1 + 1 + 1 + 1 + 1 + 1 + 1) = j by omega, List.map_set]
  rfl

/-- Facts for a walk over the applier. -/
structure Facts (w : World) (pa pf : Nat) (a : Ap) : Prop where
  c0 : w.cell? ⟨pa, 0, none⟩ = some (.pointer (some ⟨pf, 0, none⟩))
  c1 : w.cell? ⟨pa, 1, none⟩ = some (stV a.st)
  c2 : w.cell? ⟨pa, 2, none⟩ = some (.int .i64 (a.at_ : Int))
  c3 : w.cell? ⟨pa, 3, none⟩ = some (.int .u32 (a.sum : Int))
  c5 : w.cell? ⟨pa, 5, none⟩ = some (.int .u32 (a.value : Int))
  c6 : w.cell? ⟨pa, 6, none⟩ = some (.int .i64 a.digits)
  c7 : w.cell? ⟨pa, 7, none⟩ = some (.int .i64 (a.size : Int))
  c8 : w.cell? ⟨pa, 8, none⟩ = some (.int .i64 (a.length : Int))
  c9 : w.cell? ⟨pa, 9, none⟩ = some (.int .i64 (a.made : Int))
  c10 : w.cell? ⟨pa, 10, none⟩ = some (.int .i64 (a.count : Int))
  c11 : w.cell? ⟨pa, 11, none⟩ = some (.int .u8 (a.op : Int))
  pg : ∀ j, j < 64 → w.cell? ⟨pa, 12 + j, none⟩ = some (.int .u8 ((a.page.getD j 0).toNat : Int))
  fz : ∀ i, w.frozen? ⟨pa, i, none⟩ = false
theorem ARep.facts {w : World} {G : Nat → Prop} {pa pf bf be : Nat} {a : Ap} {f : Fl} (h : ARep w G pa pf bf be a f) : Facts w pa pf a := by
  obtain ⟨vf, A, c, h1, _⟩ := h.blk
  refine ⟨h1.cell rfl, h1.cell rfl, h1.cell rfl, h1.cell rfl, h1.cell rfl, h1.cell rfl, h1.cell rfl, h1.cell rfl, h1.cell rfl, h1.cell rfl, h1.cell rfl, fun j hj => h1.cell ?_, h1.free⟩
  have hp := h.inv.page
  unfold apCells
  rw [List.getElem?_append_right (by simp)]
  simp only [List.length_cons, List.length_nil]
  rw [List.getElem?_append_left (by simp; omega)]
  simp [enc, show 12 + j - 12 = j by omega, show j < a.page.length by omega]
end Go.Proofs.YtkmgcggoemlaaaaGreatDoor
end

section
/- The applier's number and fixed. No condition. -/
set_option linter.unusedSimpArgs false
set_option linter.unusedVariables false
namespace Go.Proofs.YtkmgcggoemlaaaaGreatDoor
open Go.RowKit Go.Fwm

def ATo (w : World) (G : Nat → Prop) (pa pf bf be : Nat) (a : Ap) (f : Fl) (w' : World) : Prop := ∃ be', AAt w G pa pf bf be a f w' be'
theorem bytes_one (w : World) (b : UInt8) : Bytes (w.alloc (.cells #[.int .u8 (b.toNat : Int)] 5)) (some ⟨w.heap.size, 0, none⟩) [b] := fun k hk => by
  have : k = 0 := by simpa using hk
  subst this
  exact ⟨w.heap.size, 0, rfl, by rw [World.cell_blk (heap_alloc_new w _)]; rfl⟩

set_option maxRecDepth 100000 in
set_option maxHeartbeats 2000000 in
theorem numberA (w : World) (G : Nat → Prop) (pa pf bf be : Nat) (a : Ap) (f : Fl) (h : ARep w G pa pf bf be a f) (b : UInt8) (hd : a.digits = 0) (hb : 128 ≤ b.toNat) :
    Calls Tryz.prog 58 #[.pointer (some ⟨pa, 0, none⟩), .int .u8 (b.toNat : Int)] w fun e w' => e = .returned (.tuple #[.bool (a.number b).whole, errV (a.number b).err]) ∧ ATo w G pa pf bf be (a.number b).a f w' := by
  have e1 : a.number b = { whole := false, err := none, a := { a.addSum b with digits := 1, value := b.toNat &&& 127 } } := by
    unfold Ap.number; simp only [hd]; rw [if_pos (by exact ⟨rfl, hb⟩)]; rfl
  have hadd := add_ok (w.alloc (.cells #[.int .u8 (b.toNat : Int)] 5)) a.sum h.inv.sum (some ⟨w.heap.size, 0, none⟩) 1 1 [b] rfl (by simp [maxLen]) (bytes_one w b)
  have hF := h.facts
  have c3 := hF.c3
  have c6 := hF.c6
  rw [hd] at c6
  have c5 := hF.c5
  have z3 := hF.fz 3
  have z5 := hF.fz 5
  have z6 := hF.fz 6
  have hx := b.toNat_lt
  have hlt : pa < w.heap.size := block_lt_of_cell c3
  have hne : ¬ pa = w.heap.size := by omega
  obtain ⟨B, hB⟩ : ∃ B, b.toNat = B := ⟨_, rfl⟩
  obtain ⟨S, hS⟩ : ∃ S, sumAdd a.sum [b] = S := ⟨_, rfl⟩
  rw [hB] at hadd hb hx e1 ⊢
  rw [hS] at hadd
  have hand : bits .and .u8 (B : Int) 127 = ((B &&& 127 : Nat) : Int) := u8_and_nat B 127 hx (by omega)
  have HAND := Lib.hid hand
  have hi := h.inv
  have hbi : (128 : Int) ≤ (B : Int) := by omega
  have hR : ATo w G pa pf bf be { a.addSum b with digits := 1, value := B &&& 127 } f ((((w.setCell ⟨pa, 3, none⟩ (.int .u32 (S : Int))).setCell ⟨pa, 6, none⟩ (.int .i64 1)).setCell ⟨pa, 5, none⟩ (.int .u32 (bits .and .u8 (B : Int) 127 % 4294967296))).alloc (.cells #[.int .u8 (B : Int)] 5)) := by
    have hS' : S < 4294967296 := by rw [← hS]; exact sumAdd_lt _ _
    have hle : B &&& 127 ≤ B := Nat.and_le_left
    have ev : bits .and .u8 (B : Int) 127 % 4294967296 = ((B &&& 127 : Nat) : Int) := by rw [hand]; omega
    rw [ev]
    have e2 : a.addSum b = { a with sum := S } := by rw [← hS]; rfl
    rw [e2]
    exact ⟨be, ((((AAt.refl h).setSum S hS').setDigits 1 (by omega)).setValue (B &&& 127) (by omega)).alloc _⟩
  rw [e1]
  clear hF e1 h hi hd hB hS hand
  go_enter Tryz.func58, Tryz.ntmps58
  go_wp2_with (go_at_call 50; refine hadd.mono ?_; rintro e w' ⟨rfl, rfl⟩)
  go_ret2
  exact ⟨rfl, hR⟩
set_option maxRecDepth 100000 in
set_option maxHeartbeats 2000000 in
theorem numberB (w : World) (G : Nat → Prop) (pa pf bf be : Nat) (a : Ap) (f : Fl) (h : ARep w G pa pf bf be a f) (b : UInt8) (hd : a.digits = 0) (hb : b.toNat < 128) :
    Calls Tryz.prog 58 #[.pointer (some ⟨pa, 0, none⟩), .int .u8 (b.toNat : Int)] w fun e w' => e = .returned (.tuple #[.bool (a.number b).whole, errV (a.number b).err]) ∧ ATo w G pa pf bf be (a.number b).a f w' := by
  have e1 : a.number b = { whole := true, err := none, a := { a.addSum b with value := b.toNat, digits := 0 } } := by
    simp [Ap.number, hd, show ¬ 128 ≤ b.toNat by omega, show ¬ 4096 < b.toNat by omega, Ap.addSum]
  have hadd := add_ok (w.alloc (.cells #[.int .u8 (b.toNat : Int)] 5)) a.sum h.inv.sum (some ⟨w.heap.size, 0, none⟩) 1 1 [b] rfl (by simp [maxLen]) (bytes_one w b)
  have hF := h.facts
  have c3 := hF.c3
  have c6 := hF.c6
  rw [hd] at c6
  have c5 := hF.c5
  have z3 := hF.fz 3
  have z5 := hF.fz 5
  have z6 := hF.fz 6
  have hx := b.toNat_lt
  have hlt : pa < w.heap.size := block_lt_of_cell c3
  have hne : ¬ pa = w.heap.size := by omega
  obtain ⟨B, hB⟩ : ∃ B, b.toNat = B := ⟨_, rfl⟩
  obtain ⟨S, hS⟩ : ∃ S, sumAdd a.sum [b] = S := ⟨_, rfl⟩
  rw [hB] at hadd hb hx e1 ⊢
  rw [hS] at hadd
  have hi := h.inv
  have hS' : S < 4294967296 := by rw [← hS]; exact sumAdd_lt _ _
  have HAT := Lib.hid ((((((AAt.refl h).setSum S hS').setDigits 1 (by omega)).setValue 0 (by omega)).alloc (.cells #[.int .u8 (B : Int)] 5)).drew)
  have e2 : a.addSum b = { a with sum := S } := by rw [← hS]; rfl
  rw [e2] at e1
  have hbi : ((128 : Int) ≤ (B : Int)) = False := by simp; omega
  have hbd : decide ((128 : Int) ≤ (B : Int)) = false := by simp; omega
  rw [e1]
  clear hF e1 hi hd hB hS hbi
  go_enter Tryz.func58, Tryz.ntmps58
  go_wp2_with (go_at_call 50; refine hadd.mono ?_; rintro e w' ⟨rfl, rfl⟩)
  refine wp_region_still_tail 16 (by kernel_rfl) (by kernel_rfl) ?_
  change wpStill _ _ (World.drew _) _ _ _
  generalize hw2 : World.drew _ = w2
  have hat2 : AAt w G pa pf bf be { a with sum := S, digits := 1, value := 0 } f w2 be := by rw [← hw2]; exact HAT.out
  have hF2 := hat2.rep.facts
  have d5 := hF2.c5
  have d6 := hF2.c6
  have y5 := hF2.fz 5
  have y6 := hF2.fz 6
  have HW := Lib.hid hw2; clear hw2
  have HA2 := Lib.hid hat2; clear hat2 hF2
  simp only [List.take_succ_cons, List.take_zero, List.drop_succ_cons, List.drop_zero]
  have j0 : IntKind.i64.wrap 0 = 0 := rfl
  have j2 : bits .or .u32 0 (B : Int) = (B : Int) := by
    have := u32_or_nat 0 B (by omega) (by omega)
    rw [Nat.zero_or] at this; exact this
  have j1 : IntKind.u32.wrap (B : Int) = (B : Int) := by rw [IntKind.wrap_u32']; omega
  repeat still_step
  clear j0 j1 j2
  refine wpStill_nil ?_
  change wpList _ _ _ _ _ (World.drew _)
  rw [HW.out]
  have hBi : ¬ ((4096 : Int) < (B : Int)) := by omega
  go_wp2
  all_goals
    go_ret2
    refine ⟨rfl, be, ?_⟩
    exact (HA2.out.setValue B (by omega)).setDigits 0 (by omega)
set_option maxRecDepth 100000 in
set_option maxHeartbeats 2000000 in
theorem numberC0 (w : World) (G : Nat → Prop) (pa pf bf be : Nat) (a : Ap) (f : Fl) (h : ARep w G pa pf bf be a f) (b : UInt8) (hd : a.digits = 1) (V : Nat) (hV : a.value ||| (b.toNat * 128) = V) (hb : b.toNat = 0) :
    Calls Tryz.prog 58 #[.pointer (some ⟨pa, 0, none⟩), .int .u8 (b.toNat : Int)] w fun e w' => e = .returned (.tuple #[.bool (a.number b).whole, errV (a.number b).err]) ∧ ATo w G pa pf bf be (a.number b).a f w' := by
  have e1 : a.number b = { whole := false, err := some 2, a := { a.addSum b with digits := 2, value := V } } := by
    simp [Ap.number, hd, Ap.addSum, ← hV, hb]
  have hadd := add_ok (w.alloc (.cells #[.int .u8 (b.toNat : Int)] 5)) a.sum h.inv.sum (some ⟨w.heap.size, 0, none⟩) 1 1 [b] rfl (by simp [maxLen]) (bytes_one w b)
  have hF := h.facts
  have c3 := hF.c3
  have c6 := hF.c6
  rw [hd] at c6
  have c5 := hF.c5
  have z3 := hF.fz 3
  have z5 := hF.fz 5
  have z6 := hF.fz 6
  have hx := b.toNat_lt
  have hlt : pa < w.heap.size := block_lt_of_cell c3
  have hne : ¬ pa = w.heap.size := by omega
  obtain ⟨B, hB⟩ : ∃ B, b.toNat = B := ⟨_, rfl⟩
  obtain ⟨S, hS⟩ : ∃ S, sumAdd a.sum [b] = S := ⟨_, rfl⟩
  rw [hB] at hadd hb hx hV ⊢
  rw [hS] at hadd
  have hi := h.inv
  have hS' : S < 4294967296 := by rw [← hS]; exact sumAdd_lt _ _
  have HAT := Lib.hid (((((AAt.refl h).setSum S hS').setDigits 2 (by omega)).alloc (.cells #[.int .u8 (B : Int)] 5)).drew)
  have e2 : a.addSum b = { a with sum := S } := by rw [← hS]; rfl
  rw [e2] at e1
  have hav := hi.value
  have hor : bits .or .u32 (a.value : Int) ((B : Int) * 128) = (V : Int) := by
    have := u32_or_nat a.value (B * 128) hav (by omega)
    rw [hV] at this; rw [← this]; congr 1
  have hVl : V < 4294967296 := by rw [← hV]; exact Nat.or_lt_two_pow (n := 32) (by omega) (by omega)
  have HOR := Lib.hid hor; clear hor
  rw [e1]
  have hB0 : ((B : Int) == 0) = true := by rw [hb]; rfl
  clear hF e1 hi hd hB hS hV hav hb
  go_enter Tryz.func58, Tryz.ntmps58
  go_wp2_with (go_at_call 50; refine hadd.mono ?_; rintro e w' ⟨rfl, rfl⟩)
  refine wp_region_still_tail 16 (by kernel_rfl) (by kernel_rfl) ?_
  change wpStill _ _ (World.drew _) _ _ _
  generalize hw2 : World.drew _ = w2
  have hat2 : AAt w G pa pf bf be { a with sum := S, digits := 2 } f w2 be := by rw [← hw2]; exact HAT.out
  have hF2 := hat2.rep.facts
  have d5 := hF2.c5
  have d6 := hF2.c6
  have y5 := hF2.fz 5
  have y6 := hF2.fz 6
  have HW := Lib.hid hw2; clear hw2
  have HA2 := Lib.hid hat2; clear hat2 hF2
  simp only [List.take_succ_cons, List.take_zero, List.drop_succ_cons, List.drop_zero]
  have j0 : IntKind.i64.wrap 1 = 1 := rfl
  have j3 : IntKind.i64.wrap 7 = 7 := rfl
  have j1 : IntKind.u32.wrap (B : Int) = (B : Int) := by rw [IntKind.wrap_u32']; omega
  have j4 : IntKind.u32.wrap ((B : Int) * 128) = (B : Int) * 128 := by rw [IntKind.wrap_u32']; omega
  have j2 := HOR.out
  repeat still_step
  clear j0 j1 j2 j3 j4
  refine wpStill_nil ?_
  change wpList _ _ _ _ _ (World.drew _)
  rw [HW.out]
  go_wp2
  all_goals
    go_ret2
    refine ⟨rfl, be, ?_⟩
    exact HA2.out.setValue V hVl
set_option maxRecDepth 100000 in
set_option maxHeartbeats 2000000 in
theorem numberCbig (w : World) (G : Nat → Prop) (pa pf bf be : Nat) (a : Ap) (f : Fl) (h : ARep w G pa pf bf be a f) (b : UInt8) (hd : a.digits = 1) (V : Nat) (hV : a.value ||| (b.toNat * 128) = V) (hb : b.toNat ≠ 0 ∧ 4096 < V) :
    Calls Tryz.prog 58 #[.pointer (some ⟨pa, 0, none⟩), .int .u8 (b.toNat : Int)] w fun e w' => e = .returned (.tuple #[.bool (a.number b).whole, errV (a.number b).err]) ∧ ATo w G pa pf bf be (a.number b).a f w' := by
  have e1 : a.number b = { whole := false, err := some 2, a := { a.addSum b with digits := 2, value := V } } := by
    simp [Ap.number, hd, Ap.addSum, hV, hb]
  have hadd := add_ok (w.alloc (.cells #[.int .u8 (b.toNat : Int)] 5)) a.sum h.inv.sum (some ⟨w.heap.size, 0, none⟩) 1 1 [b] rfl (by simp [maxLen]) (bytes_one w b)
  have hF := h.facts
  have c3 := hF.c3
  have c6 := hF.c6
  rw [hd] at c6
  have c5 := hF.c5
  have z3 := hF.fz 3
  have z5 := hF.fz 5
  have z6 := hF.fz 6
  have hx := b.toNat_lt
  have hlt : pa < w.heap.size := block_lt_of_cell c3
  have hne : ¬ pa = w.heap.size := by omega
  obtain ⟨B, hB⟩ : ∃ B, b.toNat = B := ⟨_, rfl⟩
  obtain ⟨S, hS⟩ : ∃ S, sumAdd a.sum [b] = S := ⟨_, rfl⟩
  rw [hB] at hadd hb hx hV ⊢
  rw [hS] at hadd
  have hi := h.inv
  have hS' : S < 4294967296 := by rw [← hS]; exact sumAdd_lt _ _
  have HAT := Lib.hid (((((AAt.refl h).setSum S hS').setDigits 2 (by omega)).alloc (.cells #[.int .u8 (B : Int)] 5)).drew)
  have e2 : a.addSum b = { a with sum := S } := by rw [← hS]; rfl
  rw [e2] at e1
  have hav := hi.value
  have hor : bits .or .u32 (a.value : Int) ((B : Int) * 128) = (V : Int) := by
    have := u32_or_nat a.value (B * 128) hav (by omega)
    rw [hV] at this; rw [← this]; congr 1
  have hVl : V < 4294967296 := by rw [← hV]; exact Nat.or_lt_two_pow (n := 32) (by omega) (by omega)
  have HOR := Lib.hid hor; clear hor
  rw [e1]
  obtain ⟨hb, hVb⟩ := hb
  have hB0 : ((B : Int) == 0) = false := by simp; exact hb
  clear hF e1 hi hd hB hS hV hav
  go_enter Tryz.func58, Tryz.ntmps58
  go_wp2_with (go_at_call 50; refine hadd.mono ?_; rintro e w' ⟨rfl, rfl⟩)
  refine wp_region_still_tail 16 (by kernel_rfl) (by kernel_rfl) ?_
  change wpStill _ _ (World.drew _) _ _ _
  generalize hw2 : World.drew _ = w2
  have hat2 : AAt w G pa pf bf be { a with sum := S, digits := 2 } f w2 be := by rw [← hw2]; exact HAT.out
  have hF2 := hat2.rep.facts
  have d5 := hF2.c5
  have d6 := hF2.c6
  have y5 := hF2.fz 5
  have y6 := hF2.fz 6
  have HW := Lib.hid hw2; clear hw2
  have HA2 := Lib.hid hat2; clear hat2 hF2
  simp only [List.take_succ_cons, List.take_zero, List.drop_succ_cons, List.drop_zero]
  have j0 : IntKind.i64.wrap 1 = 1 := rfl
  have j3 : IntKind.i64.wrap 7 = 7 := rfl
  have j1 : IntKind.u32.wrap (B : Int) = (B : Int) := by rw [IntKind.wrap_u32']; omega
  have j4 : IntKind.u32.wrap ((B : Int) * 128) = (B : Int) * 128 := by rw [IntKind.wrap_u32']; omega
  have j2 := HOR.out
  repeat still_step
  clear j0 j1 j2 j3 j4
  refine wpStill_nil ?_
  change wpList _ _ _ _ _ (World.drew _)
  rw [HW.out]
  have hVi : (4096 : Int) < (V : Int) := by omega
  go_wp2
  all_goals
    go_ret2
    refine ⟨rfl, be, ?_⟩
    exact HA2.out.setValue V hVl
set_option maxRecDepth 100000 in
set_option maxHeartbeats 2000000 in
theorem numberCok (w : World) (G : Nat → Prop) (pa pf bf be : Nat) (a : Ap) (f : Fl) (h : ARep w G pa pf bf be a f) (b : UInt8) (hd : a.digits = 1) (V : Nat) (hV : a.value ||| (b.toNat * 128) = V) (hb : b.toNat ≠ 0 ∧ ¬ 4096 < V) :
    Calls Tryz.prog 58 #[.pointer (some ⟨pa, 0, none⟩), .int .u8 (b.toNat : Int)] w fun e w' => e = .returned (.tuple #[.bool (a.number b).whole, errV (a.number b).err]) ∧ ATo w G pa pf bf be (a.number b).a f w' := by
  have e1 : a.number b = { whole := true, err := none, a := { a.addSum b with value := V, digits := 0 } } := by
    simp [Ap.number, hd, Ap.addSum, hV, hb]
  have hadd := add_ok (w.alloc (.cells #[.int .u8 (b.toNat : Int)] 5)) a.sum h.inv.sum (some ⟨w.heap.size, 0, none⟩) 1 1 [b] rfl (by simp [maxLen]) (bytes_one w b)
  have hF := h.facts
  have c3 := hF.c3
  have c6 := hF.c6
  rw [hd] at c6
  have c5 := hF.c5
  have z3 := hF.fz 3
  have z5 := hF.fz 5
  have z6 := hF.fz 6
  have hx := b.toNat_lt
  have hlt : pa < w.heap.size := block_lt_of_cell c3
  have hne : ¬ pa = w.heap.size := by omega
  obtain ⟨B, hB⟩ : ∃ B, b.toNat = B := ⟨_, rfl⟩
  obtain ⟨S, hS⟩ : ∃ S, sumAdd a.sum [b] = S := ⟨_, rfl⟩
  rw [hB] at hadd hb hx hV ⊢
  rw [hS] at hadd
  have hi := h.inv
  have hS' : S < 4294967296 := by rw [← hS]; exact sumAdd_lt _ _
  have HAT := Lib.hid (((((AAt.refl h).setSum S hS').setDigits 2 (by omega)).alloc (.cells #[.int .u8 (B : Int)] 5)).drew)
  have e2 : a.addSum b = { a with sum := S } := by rw [← hS]; rfl
  rw [e2] at e1
  have hav := hi.value
  have hor : bits .or .u32 (a.value : Int) ((B : Int) * 128) = (V : Int) := by
    have := u32_or_nat a.value (B * 128) hav (by omega)
    rw [hV] at this; rw [← this]; congr 1
  have hVl : V < 4294967296 := by rw [← hV]; exact Nat.or_lt_two_pow (n := 32) (by omega) (by omega)
  have HOR := Lib.hid hor; clear hor
  rw [e1]
  obtain ⟨hb, hVb⟩ := hb
  have hB0 : ((B : Int) == 0) = false := by simp; exact hb
  clear hF e1 hi hd hB hS hV hav
  go_enter Tryz.func58, Tryz.ntmps58
  go_wp2_with (go_at_call 50; refine hadd.mono ?_; rintro e w' ⟨rfl, rfl⟩)
  refine wp_region_still_tail 16 (by kernel_rfl) (by kernel_rfl) ?_
  change wpStill _ _ (World.drew _) _ _ _
  generalize hw2 : World.drew _ = w2
  have hat2 : AAt w G pa pf bf be { a with sum := S, digits := 2 } f w2 be := by rw [← hw2]; exact HAT.out
  have hF2 := hat2.rep.facts
  have d5 := hF2.c5
  have d6 := hF2.c6
  have y5 := hF2.fz 5
  have y6 := hF2.fz 6
  have HW := Lib.hid hw2; clear hw2
  have HA2 := Lib.hid hat2; clear hat2 hF2
  simp only [List.take_succ_cons, List.take_zero, List.drop_succ_cons, List.drop_zero]
  have j0 : IntKind.i64.wrap 1 = 1 := rfl
  have j3 : IntKind.i64.wrap 7 = 7 := rfl
  have j1 : IntKind.u32.wrap (B : Int) = (B : Int) := by rw [IntKind.wrap_u32']; omega
  have j4 : IntKind.u32.wrap ((B : Int) * 128) = (B : Int) * 128 := by rw [IntKind.wrap_u32']; omega
  have j2 := HOR.out
  repeat still_step
  clear j0 j1 j2 j3 j4
  refine wpStill_nil ?_
  change wpList _ _ _ _ _ (World.drew _)
  rw [HW.out]
  have hVi : ¬ ((4096 : Int) < (V : Int)) := by omega
  go_wp2
  all_goals
    go_ret2
    refine ⟨rfl, be, ?_⟩
    exact (HA2.out.setValue V hVl).setDigits 0 (by omega)

theorem number_ok (w : World) (G : Nat → Prop) (pa pf bf be : Nat) (a : Ap) (f : Fl) (h : ARep w G pa pf bf be a f) (b : UInt8) (hd : a.digits = 0 ∨ a.digits = 1) :
    Calls Tryz.prog 58 #[.pointer (some ⟨pa, 0, none⟩), .int .u8 (b.toNat : Int)] w fun e w' => e = .returned (.tuple #[.bool (a.number b).whole, errV (a.number b).err]) ∧ ATo w G pa pf bf be (a.number b).a f w' := by
  rcases hd with hd | hd
  · by_cases hb : 128 ≤ b.toNat
    · exact numberA w G pa pf bf be a f h b hd hb
    · exact numberB w G pa pf bf be a f h b hd (by omega)
  · by_cases hb : b.toNat = 0
    · exact numberC0 w G pa pf bf be a f h b hd _ rfl hb
    · by_cases hv : 4096 < a.value ||| (b.toNat * 128)
      · exact numberCbig w G pa pf bf be a f h b hd _ rfl ⟨hb, hv⟩
      · exact numberCok w G pa pf bf be a f h b hd _ rfl ⟨hb, hv⟩
end Go.Proofs.YtkmgcggoemlaaaaGreatDoor
end

section
/- The applier's fixed; write, put, flush, more, read. No condition. -/
set_option linter.unusedSimpArgs false
set_option linter.unusedVariables false
namespace Go.Proofs.YtkmgcggoemlaaaaGreatDoor
open Go.RowKit Go.Fwm

set_option maxHeartbeats 2000000 in
theorem fixed_ok (w : World) (G : Nat → Prop) (pa pf bf be : Nat) (a : Ap) (f : Fl) (h : ARep w G pa pf bf be a f) (b : UInt8) (hd : 0 ≤ a.digits ∧ a.digits ≤ 3) :
    Calls Tryz.prog 68 #[.pointer (some ⟨pa, 0, none⟩), .int .u8 (b.toNat : Int)] w fun e w' => e = .returned (.bool (a.fixed b).whole) ∧ ATo w G pa pf bf be (a.fixed b).a f w' := by
  obtain ⟨V, hV⟩ : ∃ V, (a.value * 256) % 4294967296 ||| b.toNat = V := ⟨_, rfl⟩
  have hF := h.facts
  have c6 := hF.c6
  have c5 := hF.c5
  have z5 := hF.fz 5
  have z6 := hF.fz 6
  have hx := b.toNat_lt
  have hi := h.inv
  have hav := hi.value
  have hdg := hi.digits
  obtain ⟨B, hB⟩ : ∃ B, b.toNat = B := ⟨_, rfl⟩
  have hVl : V < 4294967296 := by rw [← hV]; exact Nat.or_lt_two_pow (n := 32) (by omega) (by omega)
  have hor : bits .or .u32 ((a.value : Int) * 256 % 4294967296) ((B : Int) % 4294967296) = (V : Int) := by
    have := u32_or_nat ((a.value * 256) % 4294967296) B (by omega) (by omega)
    rw [hB] at hV
    rw [hV] at this; rw [← this]; congr 1 <;> omega
  by_cases hlt : a.digits + 1 < 4
  · have e1 : a.fixed b = { whole := false, a := { a with value := V, digits := a.digits + 1 } } := by unfold Ap.fixed; simp only [hV]; rw [if_pos hlt]
    have hAT := ((AAt.refl h).setValue V hVl).setDigits (a.digits + 1) (by omega)
    rw [e1, hB]
    have HOR := Lib.hid hor; clear hor
    have HAT := Lib.hid hAT; clear hAT
    clear hF e1 hi hB hV h
    go_enter Tryz.func68, Tryz.ntmps68
    go_wp2
    rw [HOR.out]
    go_ret
    exact ⟨rfl, be, HAT.out⟩
  · have e1 : a.fixed b = { whole := true, a := { a with value := V, digits := 0 } } := by unfold Ap.fixed; simp only [hV]; rw [if_neg hlt]
    have hAT := (((AAt.refl h).setValue V hVl).setDigits (a.digits + 1) (by omega))
    rw [e1, hB]
    have HOR := Lib.hid hor; clear hor
    have HAT := Lib.hid hAT; clear hAT
    clear hF e1 hi hB hV h
    go_enter Tryz.func68, Tryz.ntmps68
    go_wp2
    rw [HOR.out]
    go_ret
    exact ⟨rfl, be, HAT.out.setDigits 0 (by omega)⟩

theorem AAt.zeros {w : World} {G : Nat → Prop} {pa pf bf be be' : Nat} {a : Ap} {f : Fl} : ∀ (n j : Nat) (w' : World) (p : List UInt8), j + n = 64 → AAt w G pa pf bf be { a with page := p } f w' be' →
    AAt w G pa pf bf be { a with page := p.take j ++ List.replicate n 0 } f (w'.setCells pa (12 + j) (List.replicate n (.int .u8 0))) be'
  | 0, j, w', p, hj, h => by
    have hp : p.length = 64 := h.rep.inv.page
    have e : p.take j ++ List.replicate 0 0 = p := by rw [List.replicate_zero, List.append_nil, List.take_of_length_le (by omega)]
    rw [e]
    exact h
  | n + 1, j, w', p, hj, h => by
    have hp : p.length = 64 := h.rep.inv.page
    have h1 := h.setPage j (by omega) 0
    have h2 := AAt.zeros (a := a) n (j + 1) _ (p.set j 0) (by omega) h1
    have e : (p.set j 0).take (j + 1) ++ List.replicate n 0 = p.take j ++ List.replicate (n + 1) 0 := by
      have e1 : (p.set j 0)[j]'(by simp; omega) = 0 := by simp
      have e2 : (p.set j 0).take j = p.take j := by
        apply List.ext_getElem?
        intro i
        rw [List.getElem?_take, List.getElem?_take]
        by_cases hi : i < j
        · rw [if_pos hi, if_pos hi, List.getElem?_set_ne (by omega)]
        · rw [if_neg hi, if_neg hi]
      rw [List.take_succ_eq_append_getElem (by simp; omega), e1, e2, List.replicate_succ, List.append_assoc]
      rfl
    rw [e] at h2
    exact h2
theorem AAt.clear {w w' : World} {G : Nat → Prop} {pa pf bf be be' : Nat} {a : Ap} {f : Fl} (h : AAt w G pa pf bf be a f w' be') :
    AAt w G pa pf bf be { a with page := List.replicate 64 0 } f (w'.setCells pa 12 (List.replicate 64 (.int .u8 0))) be' := by
  have := AAt.zeros (a := a) 64 0 w' a.page rfl h
  simpa using this
theorem zero5 : ∀ w : World, (zeroValue 5).run Tryz.prog w = .ok (.int .u8 0) w := by intro w; kernel_rfl
theorem Facts.clear {w : World} {pa pf : Nat} {a : Ap} (h : Facts w pa pf a) (ty : TypeId) :
    (Builtin.clear_ #[22] ty #[.slice (some ⟨pa, 12, none⟩) 64 64]).run Tryz.prog w = .ok (.tuple #[]) (w.setCells pa 12 (List.replicate 64 (.int .u8 0))) :=
  Lib.run_clear_slice w 22 5 ty (.int .u8 0) Tryz.underlying22 zero5 rfl rfl pa 12 64 64 (by omega) (fun j hj => by rw [h.pg j hj]; rfl) fun j hj => h.fz _
end Go.Proofs.YtkmgcggoemlaaaaGreatDoor
end
