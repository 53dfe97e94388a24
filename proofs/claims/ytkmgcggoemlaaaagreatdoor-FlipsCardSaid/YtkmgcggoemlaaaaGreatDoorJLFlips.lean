/-
  The law Flips of package firmwarelaw returns true for every input: a patch with one bit turned is noticed.
  No condition: any two images, any bit, any pieces.
-/
import Derived.Test.YtkmgcggoemlaaaaGreatDoorJ25
import Derived.Test.YtkmgcggoemlaaaaGreatDoorCards
import Derived.Test.YtkmgcggoemlaaaaGreatDoorTie

section
/- Bytes laid anew: a row of zeros that is filled; a flash of an image that lies beside the arguments. No condition. -/
set_option linter.unusedSimpArgs false
set_option linter.unusedVariables false
namespace Go.Proofs.YtkmgcggoemlaaaaGreatDoor
open Go Go.Fw Go.Conc Go.RowKit Go.Fwm

/-- A byte with one bit turned. -/
theorem flip_byte (x : UInt8) (j : Nat) (h : j < 8) : ∃ y : UInt8, bits .xor .u8 (x.toNat : Int) (2 ^ j % 256) = (y.toNat : Int) ∧ y ≠ x := by
  have hx := x.toNat_lt
  have e : ∃ m : UInt8, (2 : Int) ^ j % 256 = (m.toNat : Int) ∧ m ≠ 0 := by
    have hj : j = 0 ∨ j = 1 ∨ j = 2 ∨ j = 3 ∨ j = 4 ∨ j = 5 ∨ j = 6 ∨ j = 7 := by omega
    rcases hj with rfl | rfl | rfl | rfl | rfl | rfl | rfl | rfl
    · exact ⟨1, by decide, by decide⟩
    · exact ⟨2, by decide, by decide⟩
    · exact ⟨4, by decide, by decide⟩
    · exact ⟨8, by decide, by decide⟩
    · exact ⟨16, by decide, by decide⟩
    · exact ⟨32, by decide, by decide⟩
    · exact ⟨64, by decide, by decide⟩
    · exact ⟨128, by decide, by decide⟩
  obtain ⟨m, e1, e2⟩ := e
  have hm := m.toNat_lt
  refine ⟨x ^^^ m, ?_, fun h => e2 ?_⟩
  · rw [e1, u8_xor_nat _ _ (by omega) (by omega), UInt8.toNat_xor]
  · have := congrArg (fun y => x ^^^ y) h
    simpa [← UInt8.xor_assoc] using this
theorem Row_set {w : World} {g n c : Nat} {P : List UInt8} (h : Row w (.slice (some ⟨g, 0, none⟩) n c) P) {q : Nat} (hq : q < P.length) (y : UInt8) : Row (w.setCell ⟨g, q, none⟩ (.int .u8 (y.toNat : Int))) (.slice (some ⟨g, 0, none⟩) n c) (P.set q y) := by
  obtain ⟨_, h2 | ⟨g', cap, cur, h1, h2, h3, h4, h5, h6, h7⟩⟩ := h
  · cases h2.1
  · cases h1
    refine ⟨by simp, .inr ⟨g, c, cur.setIfInBounds q (.int .u8 (y.toNat : Int)), by simp, h2, by simp [World.setCell, Array.getElem?_modify, h3], by simpa using h4, h5, by simpa using h6, ?_⟩⟩
    rw [List.length_set, Array.toList_setIfInBounds, List.take_set, h7, List.map_set]
    rfl
def zeros (n : Nat) : List Value := List.replicate n (Value.int .u8 0)
theorem zeros_len (n : Nat) : (zeros n).length = n := List.length_replicate
theorem make_zeros (n : Nat) (hn : n ≤ 9223372036854) (w : World) :
    (Instr.makeSlice 22 (.int .i64 (n : Int)) (.int .i64 (n : Int))).run Tryz.prog w = .ok (.slice (some ⟨w.heap.size, 0, none⟩) n n) (w.alloc (.cells (zeros n).toArray 5)) := run_make_u8 n hn w
theorem splice_all (a b : List Value) (h : a.length = b.length) : splice a 0 b = b := by
  unfold splice
  simp [h]
theorem wpList_fill {w : World} {ops : Array Oper} {rest : List Oper} {o : Oper} {a : Act} {Q : Exit → Act → World → Prop} (hgd : o.guard = none) (d s : Operand)
    (ho : o.op = .call { callee := .builtin .copy, args := #[d, s], argTypes := #[22, 22] }) (g n c : Nat) (A : Option Addr) (zs : List UInt8) (hd : a.eval d = .slice (some ⟨g, 0, none⟩) n n) (hs : a.eval s = .slice A n c) (hl : zs.length = n)
    (hg : Blk w g 5 (zeros n)) (hx : Bytes w A zs) (h : ∀ w', Hid (Blk w' g 5 (zs.map enc)) → Hid (Below g w w') → wpList Tryz.prog ops Q rest (a.put o.dst (.int .i64 (n : Int))) w') :
    wpList Tryz.prog ops Q (o :: rest) a w := by
  have hlm : (zs.map enc).length = n := by rw [List.length_map]; exact hl
  refine wpList_copy_splice hgd d s 22 22 ho 5 Tryz.underlying22 size5 (some ⟨g, 0, none⟩) A n n n c hd hs g 0 (zeros n) 5 hg (zs.map enc) (by rw [hlm]; exact (Nat.min_self n).symm) (fun h0 => ⟨rfl, ?_⟩) (by rw [hlm, zeros_len]; omega) (fun v hv => by obtain ⟨z, _, rfl⟩ := List.mem_map.1 hv; rfl) g w (Below.refl _ w) (Nat.le_refl _) fun w' HG hB => ?_
  · obtain ⟨b, o', hA, _⟩ := hx 0 (by omega)
    refine ⟨_, hA, fun j v hj => ?_⟩
    have hjl : j < zs.length := by have := (List.getElem?_eq_some_iff.1 hj).1; simpa using this
    obtain ⟨b', o2, hA', hc⟩ := hx j hjl
    rw [hA] at hA'; cases hA'
    have hv : v = .int .u8 (zs[j].toNat : Int) := by simp [hjl, enc] at hj; exact hj.symm
    rw [hv, show (⟨b, o', none⟩ : Addr).add j = ⟨b, o' + j, none⟩ by unfold Addr.add; split <;> simp_all]
    exact hc
  · rw [hlm]
    refine h w' (Lib.hid ?_) (Lib.hid hB)
    have := HG.out
    rw [splice_all _ _ (by rw [zeros_len, hlm])] at this
    exact this
theorem nf_v {w V : World} (hk : Kp w V) {A : Option Addr} {c : Nat} {old : List UInt8} (h : Bytes V A old) (n0 : A = none → c = 0) (hol : old.length ≤ 4096) (pages : Int) (hp : -9223372036854775808 ≤ pages ∧ pages ≤ 9223372036854775807) :
    Calls Tryz.prog 18 #[.slice A old.length c, .int .i64 pages] V fun e V1 => ∃ pf bf, e = .returned (.pointer (some ⟨pf, 0, none⟩)) ∧ Nf1 w V V1 pf bf (Fl.init old pages) :=
  (newflash_ok V (fun b => b = w.heap.size + 1) A old.length c old rfl hol h n0 pages hp w.heap.size (by have := hk.size; omega) (fun b x => by have := hk.size; omega) (by omega)).mono fun e V1 ⟨pf, bf, h1, h2, h3, h4, h5⟩ => ⟨pf, bf, h1, h2, h3, h4, h5⟩
end Go.Proofs.YtkmgcggoemlaaaaGreatDoor
end

section
/- The law Flips, in a private world. No condition. -/
set_option linter.unusedSimpArgs false
set_option linter.unusedVariables false
set_option linter.constructorNameAsVariable false
namespace Go.Proofs.YtkmgcggoemlaaaaGreatDoor
open Go Go.Fw Go.Conc Go.RowKit Go.Fwm

theorem fa_lit99 (f : Nat → Value) (D : List Deferred) : fa 99 f D = ⟨#[f 0, f 1, f 2, f 3, f 4, f 5, f 6, f 7, f 8, f 9, f 10, f 11, f 12, f 13, f 14, f 15, f 16, f 17, f 18, f 19, f 20, f 21, f 22, f 23, f 24, f 25, f 26, f 27, f 28, f 29, f 30, f 31, f 32, f 33, f 34, f 35, f 36, f 37, f 38, f 39, f 40, f 41, f 42, f 43, f 44, f 45, f 46, f 47, f 48, f 49, f 50, f 51, f 52, f 53, f 54, f 55, f 56, f 57, f 58, f 59, f 60, f 61, f 62, f 63, f 64, f 65, f 66, f 67, f 68, f 69, f 70, f 71, f 72, f 73, f 74, f 75, f 76, f 77, f 78, f 79, f 80, f 81, f 82, f 83, f 84, f 85, f 86, f 87, f 88, f 89, f 90, f 91, f 92, f 93, f 94, f 95, f 96, f 97, f 98], D⟩ := by kernel_rfl

set_option maxRecDepth 100000 in
set_option maxHeartbeats 8000000 in
theorem flips_priv {W w : World} {Post : Value → World → Prop} (hpost : ∀ W', Below W.heap.size W W' → Post (.bool true) W') (hg : GV w)
    {a0 a1 a3 : Option Addr} {l0 c0 l1 c1 l3 c3 : Nat} {bit : Int} {old new : List UInt8} (hbit : -9223372036854775808 ≤ bit ∧ bit ≤ 9223372036854775807)
    (h0 : Bytes w a0 old) (e0 : old.length = l0) (h1 : Bytes w a1 new) (e1 : new.length = l1) (h3 : Ints w a3 l3) (n0 : a0 = none → c0 = 0)
    (b0 : ∀ a, a0 = some a → a.block < w.heap.size) (b1 : ∀ a, a1 = some a → a.block < w.heap.size) (b3 : ∀ a, a3 = some a → a.block < w.heap.size) :
    CEnds Tryz.prog FN W.heap.size W Post [] [Frame.enter Tryz.prog 9 #[.slice a0 l0 c0, .slice a1 l1 c1, .int .i64 bit, .slice a3 l3 c3] .normal] w := by
  have hJ := cEnds_clo (P := Tryz.prog) (FN := FN) (N0 := W.heap.size) (W0 := W) (Post := Post) (Ch := [])
  rw [enter_fa _ _ 99 Tryz.func9 rfl rfl (by simp)]
  refine hJ.seq (hJ.region ?_)
  refine hJ.opf lst rfl rfl (by kernel_rfl) rfl (w' := w) (fun tp => ex_assign (x := .const (.bool false)) rfl rfl) ?_
  refine hJ.region_end (hJ.seq (hJ.region ?_))
  refine hJ.opf lst rfl rfl (by kernel_rfl) rfl (w' := w) (v := .slice a0 l0 c0) (fun tp => ex_move rfl ((fa_eval (by decide)).trans rfl)) ?_
  refine hJ.callf lst rfl rfl rfl (by kernel_rfl) (by kernel_rfl) (by kernel_rfl) rfl _ (m1 ((fa_eval (by decide)).trans rfl)) (R := fun v w' => v = .bool (decide (l0 ≤ 4096)) ∧ ∃ tp, w' = Go.Fw.tpd w tp) (fun tp => (image14 _ a0 l0 c0).mono fun e w' ⟨q1, q2⟩ => ⟨_, q1, rfl, tp, q2⟩) ?_
  rintro v w' ⟨rfl, tp, rfl⟩
  refine hJ.tp _ _ tp ?_
  refine hJ.opf lst rfl rfl (by kernel_rfl) rfl (w' := w) (v := .bool (decide (l0 ≤ 4096))) (fun tp => ex_assign rfl ((fa_eval (by decide)).trans rfl)) ?_
  refine hJ.region_end (hJ.seq (hJ.region ?_))
  refine hJ.opf lst rfl rfl (by kernel_rfl) rfl (w' := w) (v := .slice a1 l1 c1) (fun tp => ex_move rfl ((fa_eval (by decide)).trans rfl)) ?_
  refine hJ.callf lst rfl rfl rfl (by kernel_rfl) (by kernel_rfl) (by kernel_rfl) rfl _ (m1 ((fa_eval (by decide)).trans rfl)) (R := fun v w' => v = .bool (decide (l1 ≤ 4096)) ∧ ∃ tp, w' = Go.Fw.tpd w tp) (fun tp => (image14 _ a1 l1 c1).mono fun e w' ⟨q1, q2⟩ => ⟨_, q1, rfl, tp, q2⟩) ?_
  rintro v w' ⟨rfl, tp, rfl⟩
  refine hJ.tp _ _ tp ?_
  refine hJ.opf lst rfl rfl (by kernel_rfl) rfl (w' := w) (v := .bool (decide (l1 ≤ 4096))) (fun tp => ex_assign rfl ((fa_eval (by decide)).trans rfl)) ?_
  refine hJ.region_end (hJ.seq (hJ.region ?_))
  refine hJ.callop rfl (wanted_plain rfl _) rfl (by kernel_rfl) (by kernel_rfl) ?_
  rw [Array.map_empty]
  refine works_ends hg (atOp_at _) fun w1 z1 o1 => ?_
  rw [finish_fa rfl rfl]
  refine hJ.opf lst rfl rfl (by kernel_rfl) rfl (w' := w1) (v := .bool true) (fun tp => ex_assign rfl ((fa_eval (by decide)).trans rfl)) ?_
  refine hJ.region_end (hJ.seq ?_)
  refine fa_gen (Jf := fun a => CEnds _ _ _ _ _ _ [(bas 9 .normal).at a _] _) fun F hF => ?_
  have f0 : F 0 = .slice a0 l0 c0 := (hF 0).trans rfl
  have f1 : F 1 = .slice a1 l1 c1 := (hF 1).trans rfl
  have f2 : F 2 = .int .i64 bit := (hF 2).trans rfl
  have f3 : F 3 = .slice a3 l3 c3 := (hF 3).trans rfl
  have f9 : F 9 = .bool (decide (l0 ≤ 4096)) := (hF 9).trans rfl
  have f10 : F 10 = .bool (decide (l1 ≤ 4096)) := (hF 10).trans rfl
  have f11 : F 11 = .bool true := (hF 11).trans rfl
  clear hF
  refine hJ.code lst (by kernel_rfl) rfl rfl (by kernel_rfl) (N := fun a' w' => a'.tmps.size = 99 ∧ a'.defers = [] ∧ a'.eval (.tmp 0) = .slice a0 l0 c0 ∧ a'.eval (.tmp 1) = .slice a1 l1 c1 ∧ a'.eval (.tmp 2) = .int .i64 bit ∧ a'.eval (.tmp 3) = .slice a3 l3 c3 ∧ (l0 ≤ 4096 ∧ l1 ≤ 4096 ∧ l3 ≤ 65536) ∧ ∃ tp, w' = Go.Fw.tpd w1 tp) (R := fun a' w' => a'.defers = [] ∧ a'.eval (.tmp 8) = .bool true) (fun tp => ?_) (fun a' w' h => ?_) (fun a' w' td h => law_done Tryz.func9 rfl (by kernel_rfl) h.1 h.2 hpost)
  · rw [fa_lit99, f0, f1, f2, f3, f9, f10, f11]
    dsimp only
    clear f0 f1 f2 f3 f9 f10 f11
    by_cases q0 : l0 ≤ 4096
    · rw [decide_eq_true q0]
      by_cases q1 : l1 ≤ 4096
      · rw [decide_eq_true q1]
        by_cases q2 : l3 ≤ 65536
        · have q2' : ¬ ((65536 : Int) < (l3 : Int)) := by omega
          go_wp2
          refine ⟨rfl, rfl, rfl, rfl, rfl, rfl, ?_⟩
          first | exact ⟨⟨q0, q1, q2⟩, _, rfl⟩ | exact ⟨_, rfl⟩
        · have q2' : ((65536 : Int) < (l3 : Int)) := by omega
          go_wp2
          exact ⟨rfl, rfl⟩
      · rw [decide_eq_false q1]
        go_wp2
        exact ⟨rfl, rfl⟩
    · rw [decide_eq_false q0]
      go_wp2
      exact ⟨rfl, rfl⟩
  obtain ⟨k1, k2, f0, f1, f2, f3, ⟨q0, q1, q2⟩, tp, rfl⟩ := h
  refine hJ.tp _ _ tp ?_
  obtain ⟨F, rfl, hF⟩ := act_fa k1 k2
  rw [hF _ (by decide)] at f0 f1 f2 f3
  clear k1 k2 hF
  have hk1 : Kp w w1 := ⟨by omega, o1⟩
  subst e0 e1
  obtain ⟨va, hva⟩ : ∃ va : Value, va = .slice a0 old.length c0 := ⟨_, rfl⟩
  obtain ⟨vb, hvb⟩ : ∃ vb : Value, vb = .slice a1 new.length c1 := ⟨_, rfl⟩
  rw [← hva] at f0
  rw [← hvb] at f1
  refine hJ.seq (hJ.region ?_)
  refine hJ.opf lst rfl rfl (by kernel_rfl) rfl (w' := w1) (v := va) (fun tp => ex_move rfl ((fa_eval (by decide)).trans f0)) ?_
  refine hJ.opf lst rfl rfl (by kernel_rfl) rfl (w' := w1) (v := vb) (fun tp => ex_move rfl ((fa_eval (by decide)).trans f1)) ?_
  refine hJ.callop rfl (wanted_plain rfl _) rfl (by kernel_rfl) (by kernel_rfl) ?_
  rw [m2 (v := va) (u := vb) ((fa_eval (by decide)).trans rfl) ((fa_eval (by decide)).trans rfl)]
  subst hva hvb
  refine gend_ends (hk1.bytes h0) (hk1.bytes h1) q0 q1 (atOp_at _) (fun a e => by have := b0 a e; have := hk1.size; omega) (fun a e => by have := b1 a e; have := hk1.size; omega) fun p w2 hp _ _ => ?_
  rw [finish_fa rfl rfl]
  refine hJ.opf lst rfl rfl (by kernel_rfl) rfl (w' := w2) (v := .tuple #[p, .bool true]) (fun tp => ex_move rfl ((fa_eval (by decide)).trans rfl)) ?_
  refine hJ.opf lst rfl rfl (by kernel_rfl) rfl (w' := w2) (v := p) (fun tp => ex_extract rfl ((fa_eval (by decide)).trans rfl) rfl) ?_
  refine hJ.opf lst rfl rfl (by kernel_rfl) rfl (w' := w2) (v := .bool true) (fun tp => ex_extract rfl ((fa_eval (by decide)).trans rfl) rfl) ?_
  refine hJ.opf lst rfl rfl (by kernel_rfl) rfl (w' := w2) (v := p) (fun tp => ex_assign rfl ((fa_eval (by decide)).trans rfl)) ?_
  refine hJ.opf lst rfl rfl (by kernel_rfl) rfl (w' := w2) (v := .bool true) (fun tp => ex_assign rfl ((fa_eval (by decide)).trans rfl)) ?_
  refine hJ.region_end ?_
  refine fa_gen (Jf := fun a => CEnds _ _ _ _ _ _ [(bas 9 .normal).at a _] _) fun G hG => ?_
  have g0 : G 0 = .slice a0 old.length c0 := (hG 0).trans f0
  have g1 : G 1 = .slice a1 new.length c1 := (hG 1).trans f1
  have g2 : G 2 = .int .i64 bit := (hG 2).trans f2
  have g3 : G 3 = .slice a3 l3 c3 := (hG 3).trans f3
  have g12 : G 12 = p := (hG 12).trans rfl
  have g13 : G 13 = .bool true := (hG 13).trans rfl
  clear hG f0 f1 f2 f3
  refine hJ.code lst (by kernel_rfl) rfl rfl (by kernel_rfl) (N := fun _ _ => False) (R := fun a' w' => a'.defers = [] ∧ a'.eval (.tmp 8) = .bool true) (fun tp => ?_) (fun _ _ h => h.elim) (fun a' w' td h => law_done Tryz.func9 rfl (by kernel_rfl) h.1 h.2 hpost)
  rw [fa_lit99, g0, g2, g3, g12, g13]
  dsimp only
  have hp2 := hp.tpd tp
  have hkU : Kp w (Go.Fw.tpd w2 tp) := (hk1.rin hp).tpd tp
  generalize Go.Fw.tpd w2 tp = U at hp2 hkU ⊢
  have hpl := patchG_len old new
  obtain ⟨P, hP⟩ : ∃ P, P = patchG (lgOf old) old new := ⟨_, rfl⟩
  rw [← hP] at hp2 hpl
  obtain ⟨B, n, c, rfl, hl, hc, hcm, hB0, hBb⟩ := hp2.own.slice3
  have hn10 : 10 ≤ n := by omega
  have hn5 : n ≤ 5000 := by omega
  have hw8 : IntKind.i64.wrap (8 * (n : Int)) = 8 * (n : Int) := IntWalk.i64_in _ (by omega)
  have hwn : IntKind.u64.wrap (8 * (n : Int)) = 8 * (n : Int) := by unfold IntKind.wrap; simp [IntKind.signed, IntKind.bits]; omega
  obtain ⟨k, hk, hkn⟩ : ∃ k : Nat, (IntKind.u64.wrap bit).tmod (8 * (n : Int)) = (k : Int) ∧ k < 8 * n := by
    have h0 : 0 ≤ IntKind.u64.wrap bit := by unfold IntKind.wrap; simp [IntKind.signed, IntKind.bits]; omega
    have h1 : 0 ≤ (IntKind.u64.wrap bit).tmod (8 * (n : Int)) := Int.tmod_nonneg _ h0
    have h2 : (IntKind.u64.wrap bit).tmod (8 * (n : Int)) < 8 * n := Int.tmod_lt_of_pos _ (by omega)
    exact ⟨((IntKind.u64.wrap bit).tmod (8 * (n : Int))).toNat, by omega, by omega⟩
  have hwk : IntKind.i64.wrap (k : Int) = (k : Int) := wrap_i64 k (by omega)
  have hn0 : ((n : Int) == 0) = false := by simp; omega
  have hn80 : (8 * (n : Int) == 0) = false := by simp; omega
  clear g0 g1 g2 g3 g12 g13 hp hJ hpost
  obtain ⟨g, hBg⟩ : ∃ g, B = some ⟨g, 0, none⟩ := by
    rcases hp2.own.2 with ⟨x, _⟩ | ⟨g, cap, cur, x, _⟩
    · cases x; omega
    · cases x; exact ⟨g, rfl⟩
  subst hBg
  obtain ⟨cur, hcur⟩ : ∃ cur, U.heap[g]? = some (.cells cur 5 (0, 0)) := by
    rcases hp2.own.2 with ⟨x, _⟩ | ⟨g, cap, cur, x, _, hh, _⟩
    · cases x
    · cases x; exact ⟨cur, hh⟩
  obtain ⟨q, hq⟩ : ∃ q : Nat, (k : Int) / 8 = (q : Int) := ⟨k / 8, by omega⟩
  obtain ⟨j, hj⟩ : ∃ j : Nat, (k : Int) % 8 = (j : Int) := ⟨k % 8, by omega⟩
  have hqn : q < n := by omega
  have hj8 : j < 8 := by omega
  have hqP : q < P.length := by omega
  have hcell : U.cell? ⟨g, q, none⟩ = some (.int .u8 (P[q].toNat : Int)) := by
    obtain ⟨b, o, e, h⟩ := hp2.own.bytes rfl q hqP
    cases e
    simpa using h
  have hfz : U.frozen? ⟨g, q, none⟩ = false := World.frozen_blk hcur q
  have hq0 : (0 : Int) ≤ (q : Int) := by omega
  have hq1 : (q : Int) < (n : Int) := by omega
  have hj0 : (0 : Int) ≤ (j : Int) := by omega
  have hj1 : (j : Int) ≤ 8 := by omega
  obtain ⟨x, hx⟩ : ∃ x, x = P[q] := ⟨_, rfl⟩
  rw [← hx] at hcell
  have HX := Lib.hid hx; clear hx
  have HH := Lib.hid hp2; have HK := Lib.hid hkU; have HCU := Lib.hid hcur
  have HQ := Lib.hid hqP
  have H0 := Lib.hid h0; have H3 := Lib.hid h3; have HG := Lib.hid hg; have HN0 := Lib.hid n0; have HB3 := Lib.hid b3; have HPE := Lib.hid hP; have HL := Lib.hid hl
  have HJ8 := Lib.hid hj8
  have HZ := Lib.hid z1
  have HFA := Lib.hid hp2.far
  clear hp2 hkU hpl hP hl hB0 hBb h0 h1 h3 o1 z1 hk1 b0 b1 b3 hg n0 hcur hkn hqn hj8
  go_wp2
  go_region
  obtain ⟨y, hy, hyx⟩ := flip_byte x j HJ8.out
  rw [hy]
  have hrow : Row (U.setCell ⟨g, q, none⟩ (.int .u8 (y.toNat : Int))) (.slice (some ⟨g, 0, none⟩) n c) (P.set q y) := Row_set HH.out.own HQ.out y
  have hkV : Kp w (U.setCell ⟨g, q, none⟩ (.int .u8 (y.toNat : Int))) := HK.out.next (by simp [World.setCell]) fun b hb => Below.heap_setCell U ⟨g, q, none⟩ _ b (by
    have := HFA.out g rfl; have := HZ.out
    show b ≠ g
    omega)
  have hgl : g < (U.setCell ⟨g, q, none⟩ (.int .u8 (y.toNat : Int))).heap.size := by
    have := (Array.getElem?_eq_some_iff.1 HCU.out).1
    simpa [World.setCell] using this
  generalize U.setCell ⟨g, q, none⟩ (.int .u8 (y.toNat : Int)) = V at hrow hkV hgl ⊢
  have hkV2 : Kp w V.drew := ⟨hkV.size, hkV.old⟩
  have hrow2 : Row V.drew (.slice (some ⟨g, 0, none⟩) n c) (P.set q y) := hrow
  have hgl2 : g < V.drew.heap.size := hgl
  generalize V.drew = V2 at hrow2 hkV2 hgl2 ⊢
  have hany := apply_any (Fl.init old 64) q0 (by rw [init_pages]; exact newPages_le old q0 64) (P.set q y)
  have hne : ((Fl.init old 64).apply (P.set q y)).fault ≠ .none := by
    have hpq : P = P.take q ++ x :: P.drop (q + 1) := by rw [HX.out]; simp
    have hset : P.set q y = P.take q ++ y :: P.drop (q + 1) := List.set_eq_take_append_cons_drop .. |>.trans (by rw [if_pos HQ.out])
    rw [hset]
    exact flipped (Fl.init old 64) q0 (by rw [init_pages]; exact newPages_le old q0 64) old new.length (steps (lgOf old) old new) (P.take q) (P.drop (q + 1)) x y (by rw [← hpq, HPE.out]; rfl) (fun e => hyx e.symm)
  obtain ⟨M, hM⟩ : ∃ M, M = ((Fl.init old 64).apply (P.set q y)).fault.num := ⟨_, rfl⟩
  have hnum : (M = 2 ∨ M = 3 ∨ M = 4 ∨ M = 5 ∨ M = 6) ∧ ((Fl.init old 64).apply (P.set q y)).x.f.committed = false := by
    rcases hany.num with ⟨x, y⟩ | ⟨x, y⟩
    · exact absurd x hne
    · refine ⟨?_, y⟩
      rw [hM]
      rcases x with x | x | x | x | x | ⟨_, x⟩
      · exact .inl x
      · exact .inr (.inl x)
      · exact .inr (.inr (.inl x))
      · exact .inr (.inr (.inr (.inl x)))
      · exact .inr (.inr (.inr (.inr x)))
      · exact absurd x (by show ¬ (0 : Int) ≤ -1; decide)
  have hap : ∀ U1 pf bf, Nf1 w V2 U1 pf bf (Fl.init old 64) → Calls Tryz.prog 19 #[.pointer (some ⟨pf, 0, none⟩), .slice (some ⟨g, 0, none⟩) n c, .slice a3 l3 c3] U1 fun e V2' => ∃ (K : Int) (held : Bool) (be' : Nat), e = .returned (.tuple #[.int .i64 K, .int .i64 (M : Int), .bool held]) ∧ Ap1 w V2 V2' pf bf be' ((Fl.init old 64).apply (P.set q y)).x.f := fun U1 pf bf hf => by
    refine (ap_k hf hkV2 HG.out q0 (patch := P.set q y) (by rw [List.length_set]; exact HL.out) (by omega) hc hcm (hrow2.bytes rfl) (fun a e => ?_) (by omega) H3.out HB3.out).mono ?_
    · cases e
      have := HFA.out g rfl; have := HZ.out
      exact ⟨by show g ≠ _; omega, hgl2⟩
    · rintro e V2' ⟨held, be', rfl, h⟩
      rw [← hM]
      exact ⟨_, held, be', rfl, h⟩
  have HAP := Lib.hid hap; have HKV := Lib.hid hkV2; have HM := Lib.hid hnum; have HWR := Lib.hid (fun V => wrong29 V M hnum.1)
  clear hap hkV2 hkV hrow hrow2 hgl hgl2 hany hne hM hnum hcell hfz hy
  go_wp2_with (first
    | (go_at_call 18; refine (nf_k HKV.out H0.out HN0.out q0 64 (by decide)).mono ?_; rintro e U1 ⟨pf, bf, rfl, hf⟩; have HF1 := Lib.hid hf; clear hf)
    | (go_at_call 19; refine (HAP.out U1 pf bf HF1.out).mono ?_; rintro e U2 ⟨K, held, be', rfl, hf⟩; have HA1 := Lib.hid hf; clear hf)
    | (go_at_call 23; refine (image_no U2 _ pf bf be' _ HA1.out.rep HM.out.2).mono ?_; rintro e U2' ⟨rfl, rfl⟩)
    | (go_at_call 29; refine (HWR.out _).mono ?_; rintro e wz ⟨rfl, rfl⟩))
  exact ⟨rfl, rfl⟩
end Go.Proofs.YtkmgcggoemlaaaaGreatDoor
end

section
/- The law Flips of package firmwarelaw returns true for every input: a patch with one bit turned is noticed. No condition: any two images, any bit, any pieces. -/
set_option linter.unusedSimpArgs false
set_option linter.unusedVariables false
set_option linter.constructorNameAsVariable false
set_option maxRecDepth 100000
namespace Go.Proofs.YtkmgcggoemlaaaaGreatDoor
open Go Go.Fw Go.Conc Go.RowKit Go.Fwm Go.ChangeShapes Go.WideShapes Go.ChangeAt

theorem flips_lifted (os : Os) (started : os.Started) (H : Type) (enc : TypeId × Value → H) :
    ReturnsInLeavingWide {} Tryz.checked os 9 .any (fun w args => (Rows.flipsSpec.pre enc Tryz.prog Tryz.f9 [] false w args ∧ laidMetH Tryz.prog laidL w) ∧ sizedMet enc Tryz.prog Tryz.f9 (OpenSpec.ofChange Rows.flipsSpec) false w args)
      (Rows.flipsSpec.post enc Tryz.prog Tryz.f9 false true false false) := by
  refine rl_and (C := Tryz.checked) (X := fun w _ => laidMetH Tryz.prog laidL w) (fun _ _ _ hh h => h.of_heap hh) own started Tryz.func9
    (ChangeSpec.witness_at (enc := enc) (C := Tryz.checked) (os := os) (X := fun w _ => laidMetH Tryz.prog laidL w) false (laidWorld os) #[.slice none 0 0, .slice none 0 0, .int .i64 0, .slice none 0 0] 8 rfl (by kernel_rfl) (by kernel_rfl) (by kernel_rfl) (by kernel_rfl) (by kernel_rfl) (laidWorld_met os _)) ?_
  intro W base args ds gs before hval0 hW hL hsh
  have hval : ∀ (j : Nat) t v, Tryz.f9.params[j]? = some t → args[j]? = some v → Value.okWide Tryz.prog W .any base t v := hval0
  have hW' := hW
  obtain ⟨p, q, hA0, hV, rfl, hfz, hnd⟩ := hW
  have hA : DataW.TrodAll enc Tryz.prog W 0 (fun _ => true) true Tryz.f9.params.toList args.toList ds p := hA0
  rw [Tryz.params9] at hA hval
  obtain ⟨v0, vs0, d0, ds0, p0, q0, hargs, rfl, rfl, h0, r0⟩ := trodAll_cons hA
  obtain ⟨v1, vs1, d1, ds1, p1, q1, rfl, rfl, rfl, h1, r1⟩ := trodAll_cons r0
  obtain ⟨v2, vs2, d2, ds2, p2, q2, rfl, rfl, rfl, h2, r2⟩ := trodAll_cons r1
  obtain ⟨v3, vs3, d3, ds3, p3, q3, rfl, rfl, rfl, h3, r3⟩ := trodAll_cons r2
  obtain ⟨rfl, rfl, rfl⟩ := trodAll_nil r3
  obtain rfl : args = #[v0, v1, v2, v3] := by cases args; simp_all
  obtain ⟨rfl, rfl⟩ := trodVars_none hV
  obtain ⟨a0, l0, c0, b0, rfl, s0⟩ := arg22 (hval 0 22 v0 rfl rfl) h0
  obtain ⟨a1, l1, c1, b1, rfl, s1⟩ := arg22 (hval 1 22 v1 rfl rfl) h1
  obtain ⟨n2, rfl, rfl, rfl, w2⟩ := open_int Tryz.underlying3 (hval 2 3 v2 rfl rfl) h2
  obtain ⟨a3, l3, c3, rfl, s3⟩ := arg23 (hval 3 23 v3 rfl rfl) h3
  have hlt : ∀ {t : TypeId} {v : Value} {d : DataW H} {ps : List MemPlace}, DataW.Trod enc Tryz.prog W 0 (fun _ => true) true t v d ps → ∀ x ∈ ps, x.block < W.heap.size := fun h => by obtain ⟨m, hm⟩ := h; exact DataW.trod_lt m _ _ _ hm
  have hbl : ∀ x, (∃ c t fr, W.heap[x]? = some (Obj.cells c t fr)) → x < W.heap.size := fun x ⟨c, t, fr, e⟩ => (Array.getElem?_eq_some_iff.1 e).1
  clear hA0 hval0
  refine start_row (handle_of_laid hL) (shaped2 hsh) (by kernel_rfl) (fun i x hx => ?_) fun w hs hg hb hi => ?_
  · rcases i with _ | _ | _ | _ | i
    · simp at hx; subst hx; exact .inr ⟨_, _, _, rfl, s0.cells⟩
    · simp at hx; subst hx; exact .inr ⟨_, _, _, rfl, s1.cells⟩
    · simp at hx; subst hx; exact .inl ⟨_, _, rfl⟩
    · simp at hx; subst hx; exact .inr ⟨_, _, _, rfl, s3.cells⟩
    · simp at hx
  · refine flips_priv (W := W) (fun W' bel => ?_) hg (bounds_i64 w2) (hb _ _ s0.bytes) s0.len_ (hb _ _ s1.bytes) s1.len_ (hi _ _ s3.ints) s0.nil_ (fun a e => by rw [hs]; exact hbl _ (s0.cells a e)) (fun a e => by rw [hs]; exact hbl _ (s1.cells a e)) (fun a e => by rw [hs]; exact hbl _ (s3.cells a e))
    exact ⟨_, _, _, [], _, [], hW', trodAll_mk1 (shut_bool Tryz.underlying4 _), (trodAll_cons_mk (Below.trod laidOut (by kernel_rfl) (of_decide_eq_true (by kernel_rfl)) h0 bel (hlt h0)) (trodAll_cons_mk (Below.trod laidOut (by kernel_rfl) (of_decide_eq_true (by kernel_rfl)) h1 bel (hlt h1)) (trodAll_cons_mk (shut_int Tryz.underlying3 w2) (trodAll_cons_mk (Below.trod laidOut (by kernel_rfl) (of_decide_eq_true (by kernel_rfl)) h3 bel (hlt h3)) trodAll_mk0)))), rfl, bel.frame _, fun h => by cases h⟩

theorem flips_row : Rows.FlipsSaid :=
  OpenClaim.holds_of_wide_leaving 9 Tryz.f9 rfl rfl rfl rfl rfl rfl rfl ⟨rfl, rfl, rfl, rfl, rfl⟩ rfl rfl rfl rfl rfl (by kernel_rfl) Tryz.func9 (by kernel_rfl)
    (of_decide_eq_true (by kernel_rfl)) (by unfold Func.isWrapper; first | (rw [if_pos (by decide +kernel)]; kernel_rfl) | (rw [if_neg (by decide +kernel)]; exact ⟨rfl, rfl⟩))
    (fun os started H enc _ => flips_lifted os started H enc)
theorem flips_card : Rows.FlipsCardSaid :=
  card_goes .later [.handle] true (true, "a92912a9f4f08fbf195758ad90ff77dd450bbb634acd63370d8d1a8325452fc3") true true
    flips_row (by kernel_rfl) flips_row_tie rfl ⟨rfl, rfl⟩ (by kernel_rfl) rfl
    (fun f fn hf hfn => by
      obtain rfl : f = 9 := Option.some.inj ((show Tryz.prog.funcNamed Rows.flipsRow.func = some 9 by kernel_rfl).symm.trans hf) |>.symm
      obtain rfl : fn = Tryz.f9 := (Option.some.inj (Tryz.func9.symm.trans hfn)).symm
      exact ⟨by kernel_rfl, fun j t ht => by
        have h3 : t ∈ [3, 22, 23] := by
          rw [Tryz.params9] at ht
          rcases j with _ | _ | _ | _ | j <;> simp at ht <;> subst ht <;> decide
        have h4 : [3, 22, 23].all (fun t => Tryz.prog.wantsStandIn t == false) = true := by kernel_rfl
        exact beq_iff_eq.1 (List.all_eq_true.1 h4 t h3)⟩)
    (by kernel_rfl)
#print axioms flips_card
end Go.Proofs.YtkmgcggoemlaaaaGreatDoor
end
