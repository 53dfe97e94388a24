/-
  The law Small of package firmwarelaw returns true for every input: patches are not long: of any images; of images of one length, by how many bytes differ.
  No condition: any two images, any spots.
-/
import Derived.Test.YtkmgcggoemlaaaaGreatDoorJ25
import Derived.Test.YtkmgcggoemlaaaaGreatDoorCards
import Derived.Test.YtkmgcggoemlaaaaGreatDoorTie

section
/- Bytes laid anew: a row of zeros that is filled; a flash of an image that lies beside the arguments. No condition. -/
set_option linter.unusedSimpArgs false
set_option linter.unusedVariables false
namespace Go.Proofs.YtkmgcggoemlaaaaGreatDoor
open Go Go.Fw Go.Conc Go.RowKit Go.Fwm

/-- A byte with one bit turned. -/
theorem flip_byte (x : UInt8) (j : Nat) (h : j < 8) : ∃ y : UInt8, bits .xor .u8 (x.toNat : Int) (2 ^ j % 256) = (y.toNat : Int) ∧ y ≠ x := by
  have hx := x.toNat_lt
  have e : ∃ m : UInt8, (2 : Int) ^ j % 256 = (m.toNat : Int) ∧ m ≠ 0 := by
    have hj : j = 0 ∨ j = 1 ∨ j = 2 ∨ j = 3 ∨ j = 4 ∨ j = 5 ∨ j = 6 ∨ j = 7 := by omega
    rcases hj with rfl | rfl | rfl | rfl | rfl | rfl | rfl | rfl
    · exact ⟨1, by decide, by decide⟩
    · exact ⟨2, by decide, by decide⟩
    · exact ⟨4, by decide, by decide⟩
    · exact ⟨8, by decide, by decide⟩
    · exact ⟨16, by decide, by decide⟩
    · exact ⟨32, by decide, by decide⟩
    · exact ⟨64, by decide, by decide⟩
    · exact ⟨128, by decide, by decide⟩
  obtain ⟨m, e1, e2⟩ := e
  have hm := m.toNat_lt
  refine ⟨x ^^^ m, ?_, fun h => e2 ?_⟩
  · rw [e1, u8_xor_nat _ _ (by omega) (by omega), UInt8.toNat_xor]
  · have := congrArg (fun y => x ^^^ y) h
    simpa [← UInt8.xor_assoc] using this
theorem Row_set {w : World} {g n c : Nat} {P : List UInt8} (h : Row w (.slice (some ⟨g, 0, none⟩) n c) P) {q : Nat} (hq : q < P.length) (y : UInt8) : Row (w.setCell ⟨g, q, none⟩ (.int .u8 (y.toNat : Int))) (.slice (some ⟨g, 0, none⟩) n c) (P.set q y) := by
  obtain ⟨_, h2 | ⟨g', cap, cur, h1, h2, h3, h4, h5, h6, h7⟩⟩ := h
  · cases h2.1
  · cases h1
    refine ⟨by simp, .inr ⟨g, c, cur.setIfInBounds q (.int .u8 (y.toNat : Int)), by simp, h2, by simp [World.setCell, Array.getElem?_modify, h3], by simpa using h4, h5, by simpa using h6, ?_⟩⟩
    rw [List.length_set, Array.toList_setIfInBounds, List.take_set, h7, List.map_set]
    rfl
def zeros (n : Nat) : List Value := List.replicate n (Value.int .u8 0)
theorem zeros_len (n : Nat) : (zeros n).length = n := List.length_replicate
theorem make_zeros (n : Nat) (hn : n ≤ 9223372036854) (w : World) :
    (Instr.makeSlice 22 (.int .i64 (n : Int)) (.int .i64 (n : Int))).run Tryz.prog w = .ok (.slice (some ⟨w.heap.size, 0, none⟩) n n) (w.alloc (.cells (zeros n).toArray 5)) := run_make_u8 n hn w
theorem splice_all (a b : List Value) (h : a.length = b.length) : splice a 0 b = b := by
  unfold splice
  simp [h]
theorem wpList_fill {w : World} {ops : Array Oper} {rest : List Oper} {o : Oper} {a : Act} {Q : Exit → Act → World → Prop} (hgd : o.guard = none) (d s : Operand)
    (ho : o.op = .call { callee := .builtin .copy, args := #[d, s], argTypes := #[22, 22] }) (g n c : Nat) (A : Option Addr) (zs : List UInt8) (hd : a.eval d = .slice (some ⟨g, 0, none⟩) n n) (hs : a.eval s = .slice A n c) (hl : zs.length = n)
    (hg : Blk w g 5 (zeros n)) (hx : Bytes w A zs) (h : ∀ w', Hid (Blk w' g 5 (zs.map enc)) → Hid (Below g w w') → wpList Tryz.prog ops Q rest (a.put o.dst (.int .i64 (n : Int))) w') :
    wpList Tryz.prog ops Q (o :: rest) a w := by
  have hlm : (zs.map enc).length = n := by rw [List.length_map]; exact hl
  refine wpList_copy_splice hgd d s 22 22 ho 5 Tryz.underlying22 size5 (some ⟨g, 0, none⟩) A n n n c hd hs g 0 (zeros n) 5 hg (zs.map enc) (by rw [hlm]; exact (Nat.min_self n).symm) (fun h0 => ⟨rfl, ?_⟩) (by rw [hlm, zeros_len]; omega) (fun v hv => by obtain ⟨z, _, rfl⟩ := List.mem_map.1 hv; rfl) g w (Below.refl _ w) (Nat.le_refl _) fun w' HG hB => ?_
  · obtain ⟨b, o', hA, _⟩ := hx 0 (by omega)
    refine ⟨_, hA, fun j v hj => ?_⟩
    have hjl : j < zs.length := by have := (List.getElem?_eq_some_iff.1 hj).1; simpa using this
    obtain ⟨b', o2, hA', hc⟩ := hx j hjl
    rw [hA] at hA'; cases hA'
    have hv : v = .int .u8 (zs[j].toNat : Int) := by simp [hjl, enc] at hj; exact hj.symm
    rw [hv, show (⟨b, o', none⟩ : Addr).add j = ⟨b, o' + j, none⟩ by unfold Addr.add; split <;> simp_all]
    exact hc
  · rw [hlm]
    refine h w' (Lib.hid ?_) (Lib.hid hB)
    have := HG.out
    rw [splice_all _ _ (by rw [zeros_len, hlm])] at this
    exact this
theorem nf_v {w V : World} (hk : Kp w V) {A : Option Addr} {c : Nat} {old : List UInt8} (h : Bytes V A old) (n0 : A = none → c = 0) (hol : old.length ≤ 4096) (pages : Int) (hp : -9223372036854775808 ≤ pages ∧ pages ≤ 9223372036854775807) :
    Calls Tryz.prog 18 #[.slice A old.length c, .int .i64 pages] V fun e V1 => ∃ pf bf, e = .returned (.pointer (some ⟨pf, 0, none⟩)) ∧ Nf1 w V V1 pf bf (Fl.init old pages) :=
  (newflash_ok V (fun b => b = w.heap.size + 1) A old.length c old rfl hol h n0 pages hp w.heap.size (by have := hk.size; omega) (fun b x => by have := hk.size; omega) (by omega)).mono fun e V1 ⟨pf, bf, h1, h2, h3, h4, h5⟩ => ⟨pf, bf, h1, h2, h3, h4, h5⟩
end Go.Proofs.YtkmgcggoemlaaaaGreatDoor
end

section
/- The law Small, in a private world. No condition. -/
set_option linter.unusedSimpArgs false
set_option linter.unusedVariables false
set_option linter.constructorNameAsVariable false
namespace Go.Proofs.YtkmgcggoemlaaaaGreatDoor
open Go Go.Fw Go.Conc Go.RowKit Go.Fwm

theorem fa_lit129 (f : Nat → Value) (D : List Deferred) : fa 129 f D = ⟨#[f 0, f 1, f 2, f 3, f 4, f 5, f 6, f 7, f 8, f 9, f 10, f 11, f 12, f 13, f 14, f 15, f 16, f 17, f 18, f 19, f 20, f 21, f 22, f 23, f 24, f 25, f 26, f 27, f 28, f 29, f 30, f 31, f 32, f 33, f 34, f 35, f 36, f 37, f 38, f 39, f 40, f 41, f 42, f 43, f 44, f 45, f 46, f 47, f 48, f 49, f 50, f 51, f 52, f 53, f 54, f 55, f 56, f 57, f 58, f 59, f 60, f 61, f 62, f 63, f 64, f 65, f 66, f 67, f 68, f 69, f 70, f 71, f 72, f 73, f 74, f 75, f 76, f 77, f 78, f 79, f 80, f 81, f 82, f 83, f 84, f 85, f 86, f 87, f 88, f 89, f 90, f 91, f 92, f 93, f 94, f 95, f 96, f 97, f 98, f 99, f 100, f 101, f 102, f 103, f 104, f 105, f 106, f 107, f 108, f 109, f 110, f 111, f 112, f 113, f 114, f 115, f 116, f 117, f 118, f 119, f 120, f 121, f 122, f 123, f 124, f 125, f 126, f 127, f 128], D⟩ := by kernel_rfl

theorem diffs_step {old next : List UInt8} {i : Nat} (hi : i < next.length) : diffs old next (next.length + 1 - i) i = (if next.getD i 0 ≠ old.getD i 0 then 1 else 0) + diffs old next (next.length + 1 - (i + 1)) (i + 1) := by
  rw [show next.length + 1 - i = (next.length + 1 - (i + 1)) + 1 by omega]
  show (if _ then 1 else 0) + _ = _
  by_cases h : next.getD i 0 ≠ old.getD i 0
  · rw [if_pos ⟨hi, h⟩, if_pos h]
  · rw [if_neg (fun x => h x.2), if_neg h]
theorem diffs_end {old next : List UInt8} : diffs old next (next.length + 1 - next.length) next.length = 0 := by
  rw [show next.length + 1 - next.length = 0 + 1 by omega]
  show (if _ then 1 else 0) + 0 = 0
  rw [if_neg (fun x => by omega)]
theorem Blk_setB {w : World} {gc : Nat} {cs : List UInt8} (h : Blk w gc 5 (cs.map enc)) (k : Nat) (m : Int) : ∃ cs' : List UInt8, cs'.length = cs.length ∧ Blk (w.setCell ⟨gc, k, none⟩ (.int .u8 (m % 256))) gc 5 (cs'.map enc) := by
  refine ⟨cs.set k (UInt8.ofNat (m % 256).toNat), by simp, ?_⟩
  have e : (cs.set k (UInt8.ofNat (m % 256).toNat)).map enc = (cs.map enc).set k (.int .u8 (m % 256)) := by
    rw [List.map_set]
    congr 1
    unfold enc
    simp
    omega
  rw [e]
  exact h.set k _
theorem Bytes_blk {V : World} {g : Nat} {zs : List UInt8} (h : Blk V g 5 (zs.map enc)) : Bytes V (some ⟨g, 0, none⟩) zs := Bytes.of_blk (rest := []) (by rw [List.append_nil]; exact h)
set_option maxRecDepth 100000 in
set_option maxHeartbeats 8000000 in
theorem small_priv {W w : World} {Post : Value → World → Prop} (hpost : ∀ W', Below W.heap.size W W' → Post (.bool true) W') (hg : GV w)
    {a0 a1 a2 : Option Addr} {l0 c0 l1 c1 l2 c2 : Nat} {old new : List UInt8}
    (h0 : Bytes w a0 old) (e0 : old.length = l0) (h1 : Bytes w a1 new) (e1 : new.length = l1) (h2 : Ints w a2 l2) (n0 : a0 = none → c0 = 0)
    (b0 : ∀ a, a0 = some a → a.block < w.heap.size) (b1 : ∀ a, a1 = some a → a.block < w.heap.size) (b2 : ∀ a, a2 = some a → a.block < w.heap.size) :
    CEnds Tryz.prog FN W.heap.size W Post [] [Frame.enter Tryz.prog 6 #[.slice a0 l0 c0, .slice a1 l1 c1, .slice a2 l2 c2] .normal] w := by
  have hJ := cEnds_clo (P := Tryz.prog) (FN := FN) (N0 := W.heap.size) (W0 := W) (Post := Post) (Ch := [])
  rw [enter_fa _ _ 129 Tryz.func6 rfl rfl (by simp)]
  refine hJ.seq (hJ.region ?_)
  refine hJ.opf lst rfl rfl (by kernel_rfl) rfl (w' := w) (fun tp => ex_assign (x := .const (.bool false)) rfl rfl) ?_
  refine hJ.region_end (hJ.seq (hJ.region ?_))
  refine hJ.opf lst rfl rfl (by kernel_rfl) rfl (w' := w) (v := .slice a0 l0 c0) (fun tp => ex_move rfl ((fa_eval (by decide)).trans rfl)) ?_
  refine hJ.callf lst rfl rfl rfl (by kernel_rfl) (by kernel_rfl) (by kernel_rfl) rfl _ (m1 ((fa_eval (by decide)).trans rfl)) (R := fun v w' => v = .bool (decide (l0 ≤ 4096)) ∧ ∃ tp, w' = Go.Fw.tpd w tp) (fun tp => (image14 _ a0 l0 c0).mono fun e w' ⟨q1, q2⟩ => ⟨_, q1, rfl, tp, q2⟩) ?_
  rintro v w' ⟨rfl, tp, rfl⟩
  refine hJ.tp _ _ tp ?_
  refine hJ.opf lst rfl rfl (by kernel_rfl) rfl (w' := w) (v := .bool (decide (l0 ≤ 4096))) (fun tp => ex_assign rfl ((fa_eval (by decide)).trans rfl)) ?_
  refine hJ.region_end (hJ.seq (hJ.region ?_))
  refine hJ.opf lst rfl rfl (by kernel_rfl) rfl (w' := w) (v := .slice a1 l1 c1) (fun tp => ex_move rfl ((fa_eval (by decide)).trans rfl)) ?_
  refine hJ.callf lst rfl rfl rfl (by kernel_rfl) (by kernel_rfl) (by kernel_rfl) rfl _ (m1 ((fa_eval (by decide)).trans rfl)) (R := fun v w' => v = .bool (decide (l1 ≤ 4096)) ∧ ∃ tp, w' = Go.Fw.tpd w tp) (fun tp => (image14 _ a1 l1 c1).mono fun e w' ⟨q1, q2⟩ => ⟨_, q1, rfl, tp, q2⟩) ?_
  rintro v w' ⟨rfl, tp, rfl⟩
  refine hJ.tp _ _ tp ?_
  refine hJ.opf lst rfl rfl (by kernel_rfl) rfl (w' := w) (v := .bool (decide (l1 ≤ 4096))) (fun tp => ex_assign rfl ((fa_eval (by decide)).trans rfl)) ?_
  refine hJ.region_end (hJ.seq (hJ.region ?_))
  refine hJ.callop rfl (wanted_plain rfl _) rfl (by kernel_rfl) (by kernel_rfl) ?_
  rw [Array.map_empty]
  refine works_ends hg (atOp_at _) fun w1 z1 o1 => ?_
  rw [finish_fa rfl rfl]
  refine hJ.opf lst rfl rfl (by kernel_rfl) rfl (w' := w1) (v := .bool true) (fun tp => ex_assign rfl ((fa_eval (by decide)).trans rfl)) ?_
  refine hJ.region_end (hJ.seq ?_)
  refine fa_gen (Jf := fun a => CEnds _ _ _ _ _ _ [(bas 6 .normal).at a _] _) fun F hF => ?_
  have f0 : F 0 = .slice a0 l0 c0 := (hF 0).trans rfl
  have f1 : F 1 = .slice a1 l1 c1 := (hF 1).trans rfl
  have f2 : F 2 = .slice a2 l2 c2 := (hF 2).trans rfl
  have f7 : F 7 = .bool (decide (l0 ≤ 4096)) := (hF 7).trans rfl
  have f8 : F 8 = .bool (decide (l1 ≤ 4096)) := (hF 8).trans rfl
  have f9 : F 9 = .bool true := (hF 9).trans rfl
  clear hF
  refine hJ.code lst (by kernel_rfl) rfl rfl (by kernel_rfl) (N := fun a' w' => a'.tmps.size = 129 ∧ a'.defers = [] ∧ a'.eval (.tmp 0) = .slice a0 l0 c0 ∧ a'.eval (.tmp 1) = .slice a1 l1 c1 ∧ a'.eval (.tmp 2) = .slice a2 l2 c2 ∧ (l0 ≤ 4096 ∧ l1 ≤ 4096 ∧ l2 ≤ 65536) ∧ ∃ tp, w' = Go.Fw.tpd w1 tp) (R := fun a' w' => a'.defers = [] ∧ a'.eval (.tmp 6) = .bool true) (fun tp => ?_) (fun a' w' h => ?_) (fun a' w' td h => law_done Tryz.func6 rfl (by kernel_rfl) h.1 h.2 hpost)
  · rw [fa_lit129, f0, f1, f2, f7, f8, f9]
    dsimp only
    clear f0 f1 f2 f7 f8 f9
    by_cases q0 : l0 ≤ 4096
    · rw [decide_eq_true q0]
      by_cases q1 : l1 ≤ 4096
      · rw [decide_eq_true q1]
        by_cases q2 : l2 ≤ 65536
        · have q2' : ¬ ((65536 : Int) < (l2 : Int)) := by omega
          go_wp2
          refine ⟨rfl, rfl, rfl, rfl, rfl, ?_⟩
          first | exact ⟨⟨q0, q1, q2⟩, _, rfl⟩ | exact ⟨_, rfl⟩
        · have q2' : ((65536 : Int) < (l2 : Int)) := by omega
          go_wp2
          exact ⟨rfl, rfl⟩
      · rw [decide_eq_false q1]
        go_wp2
        exact ⟨rfl, rfl⟩
    · rw [decide_eq_false q0]
      go_wp2
      exact ⟨rfl, rfl⟩
  obtain ⟨k1, k2, f0, f1, f2, ⟨q0, q1, q2⟩, tp, rfl⟩ := h
  refine hJ.tp _ _ tp ?_
  obtain ⟨F, rfl, hF⟩ := act_fa k1 k2
  rw [hF _ (by decide)] at f0 f1 f2
  clear k1 k2 hF
  have hk1 : Kp w w1 := ⟨by omega, o1⟩
  subst e0 e1
  obtain ⟨va, hva⟩ : ∃ va : Value, va = .slice a0 old.length c0 := ⟨_, rfl⟩
  obtain ⟨vb, hvb⟩ : ∃ vb : Value, vb = .slice a1 new.length c1 := ⟨_, rfl⟩
  rw [← hva] at f0
  rw [← hvb] at f1
  refine hJ.seq (hJ.region ?_)
  refine hJ.opf lst rfl rfl (by kernel_rfl) rfl (w' := w1) (v := va) (fun tp => ex_move rfl ((fa_eval (by decide)).trans f0)) ?_
  refine hJ.opf lst rfl rfl (by kernel_rfl) rfl (w' := w1) (v := vb) (fun tp => ex_move rfl ((fa_eval (by decide)).trans f1)) ?_
  refine hJ.callop rfl (wanted_plain rfl _) rfl (by kernel_rfl) (by kernel_rfl) ?_
  rw [m2 (v := va) (u := vb) ((fa_eval (by decide)).trans rfl) ((fa_eval (by decide)).trans rfl)]
  subst hva hvb
  refine gend_ends (hk1.bytes h0) (hk1.bytes h1) q0 q1 (atOp_at _) (fun a e => by have := b0 a e; have := hk1.size; omega) (fun a e => by have := b1 a e; have := hk1.size; omega) fun p w2 hp _ _ => ?_
  rw [finish_fa rfl rfl]
  refine hJ.opf lst rfl rfl (by kernel_rfl) rfl (w' := w2) (v := .tuple #[p, .bool true]) (fun tp => ex_move rfl ((fa_eval (by decide)).trans rfl)) ?_
  refine hJ.opf lst rfl rfl (by kernel_rfl) rfl (w' := w2) (v := p) (fun tp => ex_extract rfl ((fa_eval (by decide)).trans rfl) rfl) ?_
  refine hJ.opf lst rfl rfl (by kernel_rfl) rfl (w' := w2) (v := .bool true) (fun tp => ex_extract rfl ((fa_eval (by decide)).trans rfl) rfl) ?_
  refine hJ.opf lst rfl rfl (by kernel_rfl) rfl (w' := w2) (v := p) (fun tp => ex_assign rfl ((fa_eval (by decide)).trans rfl)) ?_
  refine hJ.opf lst rfl rfl (by kernel_rfl) rfl (w' := w2) (v := .bool true) (fun tp => ex_assign rfl ((fa_eval (by decide)).trans rfl)) ?_
  refine hJ.region_end ?_
  refine fa_gen (Jf := fun a => CEnds _ _ _ _ _ _ [(bas 6 .normal).at a _] _) fun G hG => ?_
  have g0 : G 0 = .slice a0 old.length c0 := (hG 0).trans f0
  have g1 : G 1 = .slice a1 new.length c1 := (hG 1).trans f1
  have g2 : G 2 = .slice a2 l2 c2 := (hG 2).trans f2
  have g10 : G 10 = p := (hG 10).trans rfl
  have g11 : G 11 = .bool true := (hG 11).trans rfl
  clear hG f0 f1 f2
  have hpl := patchG_len old new
  have hk2 : Kp w w2 := hk1.rin hp
  obtain ⟨B, m, c, rfl, hl, _, _, _, _⟩ := hp.own.slice3
  have hm : m ≤ new.length + 15 := by omega
  clear hp hl hpl
  refine hJ.seq ?_
  refine hJ.code lst (by kernel_rfl) rfl rfl (by kernel_rfl) (N := fun a' w' => a'.tmps.size = 129 ∧ a'.defers = [] ∧ a'.eval (.tmp 0) = .slice a0 old.length c0 ∧ a'.eval (.tmp 2) = .slice a2 l2 c2 ∧ Kp w w') (R := fun a' w' => False) (fun tp => ?_) (fun a' w' h => ?_) (fun a' w' td h => h.elim)
  · rw [fa_lit129, g0, g1, g2, g10, g11]
    dsimp only
    clear g0 g1 g2 g10 g11
    have hcmp : ¬ ((new.length : Int) + (new.length : Int) / 100 + 64 < (m : Int)) := by omega
    have HK := Lib.hid (hk2.tpd tp)
    clear hJ hpost h0 h1 h2 b0 b1 b2 n0 o1 z1 hk1 hk2
    clear hm
    generalize Go.Fw.tpd w2 tp = U at HK ⊢
    go_wp2
    exact ⟨rfl, rfl, rfl, rfl, HK.out⟩
  clear g0 g1 g2 g10 g11
  obtain ⟨k1, k2, g0, g2, hk3⟩ := h
  obtain ⟨G, rfl, hF⟩ := act_fa k1 k2
  rw [hF _ (by decide)] at g0 g2
  clear k1 k2 hF
  clear hm hk2 hk1
  refine hJ.seq ?_
  refine hJ.code lst (by kernel_rfl) rfl rfl (by kernel_rfl) (N := fun a' w' => a'.tmps.size = 129 ∧ a'.defers = [] ∧ a'.eval (.tmp 0) = .slice a0 old.length c0 ∧ a'.eval (.tmp 2) = .slice a2 l2 c2 ∧ ∃ gc, a'.eval (.tmp 12) = .slice (some ⟨gc, 0, none⟩) old.length old.length ∧ w.heap.size + 1 < gc ∧ Kp w w' ∧ Blk w' gc 5 (zeros old.length)) (R := fun a' w' => False) (fun tp => ?_) (fun a' w' h => ?_) (fun a' w' td h => h.elim)
  · rw [fa_lit129, g0, g2]
    dsimp only
    clear g0 g2
    have hmk := make_zeros old.length (by omega)
    have HK := Lib.hid (hk3.tpd tp)
    clear hJ hpost h0 h1 h2 b0 b1 b2 n0 o1 z1
    clear hk3
    generalize Go.Fw.tpd w' tp = U at HK ⊢
    go_wp2
    exact ⟨rfl, rfl, rfl, rfl, _, rfl, HK.out.size, HK.out.next (by simp) fun b hb => heap_alloc_old _ _ (by have := HK.out.size; simp; omega), heap_alloc_new _ _⟩
  clear g0 g2
  obtain ⟨k1, k2, g0, g2, gc, g12, hgs, hk4, hz4⟩ := h
  obtain ⟨G, rfl, hF⟩ := act_fa k1 k2
  rw [hF _ (by decide)] at g0 g2 g12
  clear k1 k2 hF
  clear hk3
  refine hJ.seq ?_
  refine hJ.code lst (by kernel_rfl) rfl rfl (by kernel_rfl) (N := fun a' w' => a'.tmps.size = 129 ∧ a'.defers = [] ∧ a'.eval (.tmp 0) = .slice a0 old.length c0 ∧ a'.eval (.tmp 2) = .slice a2 l2 c2 ∧ a'.eval (.tmp 12) = .slice (some ⟨gc, 0, none⟩) old.length old.length ∧ Kp w w' ∧ Blk w' gc 5 (old.map enc)) (R := fun a' w' => False) (fun tp => ?_) (fun a' w' h => ?_) (fun a' w' td h => h.elim)
  · rw [fa_lit129, g0, g2, g12]
    dsimp only
    clear g0 g2 g12
    have hz5 : Blk (Go.Fw.tpd w' tp) gc 5 (zeros old.length) := hz4
    have HZ := Lib.hid hz5
    have HX := Lib.hid ((hk4.tpd tp).bytes h0)
    have HK := Lib.hid (hk4.tpd tp)
    clear hJ hpost h0 h1 h2 b0 b1 b2 n0 o1 z1
    clear hk4 hz4 hz5
    generalize Go.Fw.tpd w' tp = U at HZ HX HK ⊢
    go_wp2_with ((with_reducible show wpList _ _ _ _ _ _); refine wpList_fill (o := ⟨some 63, _, _, _, _, _⟩) rfl (.tmp 61) (.tmp 62) rfl gc old.length c0 a0 old rfl rfl rfl HZ.out HX.out ?_; intro w4 HB4 HL4)
    exact ⟨rfl, rfl, rfl, rfl, rfl, HK.out.next HL4.out.size fun b hb => HL4.out.block b (by omega), HB4.out⟩
  clear g0 g2 g12
  obtain ⟨k1, k2, g0, g2, g12, hk5, hb5⟩ := h
  obtain ⟨G, rfl, hF⟩ := act_fa k1 k2
  rw [hF _ (by decide)] at g0 g2 g12
  clear k1 k2 hF
  clear hk4 hz4
  refine hJ.seq ?_
  have hbs : Kp w w' := hk5
  clear hk5
  obtain ⟨N, hN⟩ : ∃ N, N = old.length := ⟨_, rfl⟩
  refine hJ.code lst (by kernel_rfl) rfl rfl (by kernel_rfl) (N := fun a' w' => a'.tmps.size = 129 ∧ a'.defers = [] ∧ a'.eval (.tmp 0) = .slice a0 old.length c0 ∧ a'.eval (.tmp 12) = .slice (some ⟨gc, 0, none⟩) old.length old.length ∧ ∃ cs : List UInt8, cs.length = old.length ∧ Kp w w' ∧ Blk w' gc 5 (cs.map enc)) (R := fun a' w' => False) (fun tp => ?_) (fun a' w' h => ?_) (fun a' w' td h => h.elim)
  · rw [fa_lit129, g0, g2, g12]
    dsimp only
    clear g0 g2 g12
    have HK := Lib.hid (hbs.tpd tp)
    have hb6 : Blk (Go.Fw.tpd w' tp) gc 5 (old.map enc) := hb5
    have HB := Lib.hid hb6
    have H2 := Lib.hid h2
    have HQ := Lib.hid q0
    clear hJ hpost h0 h1 h2 b0 b1 b2 n0 o1 z1
    clear hbs hb5 hb6 q0 q1
    rw [← hN] at HQ ⊢
    have HN := Lib.hid hN
    clear hN
    generalize Go.Fw.tpd w' tp = U at HK HB ⊢
    go_wp2
    go_loopw [13] (fun i wr => ∃ (j : Nat) (cs : List UInt8), i = .int .i64 j ∧ cs.length = N ∧ Kp w wr ∧ Blk wr gc 5 (cs.map enc)) (fun i _ => l2 - (intOf i).toNat)
    case atStart => exact ⟨0, old, rfl, HN.out.symm, HK.out, HB.out⟩
    case round =>
      obtain ⟨j, cs, rfl, hcl, hK, hB⟩ := hrel
      have HK2 := Lib.hid hK; have HB2 := Lib.hid hB
      by_cases hjl : j < l2
      · by_cases hn : 0 < N
        · obtain ⟨b8, o8, z, rfl, hz8, hzl⟩ := (hK.ints H2.out) j hjl
          obtain ⟨k, hk, hkn⟩ : ∃ k : Nat, (IntKind.u64.wrap z).tmod (N : Int) = (k : Int) ∧ k < N := by
            have h0 : 0 ≤ IntKind.u64.wrap z := by unfold IntKind.wrap; simp [IntKind.signed, IntKind.bits]; omega
            have h1 : 0 ≤ (IntKind.u64.wrap z).tmod (N : Int) := Int.tmod_nonneg _ h0
            have h2 : (IntKind.u64.wrap z).tmod (N : Int) < N := Int.tmod_lt_of_pos _ (by omega)
            exact ⟨((IntKind.u64.wrap z).tmod (N : Int)).toNat, by omega, by omega⟩
          have hq0 := HQ.out
          have hwn : IntKind.u64.wrap (N : Int) = (N : Int) := by unfold IntKind.wrap; simp [IntKind.signed, IntKind.bits]; omega
          have hwk : IntKind.i64.wrap (k : Int) = (k : Int) := wrap_i64 k (by omega)
          have hn0 : ((N : Int) == 0) = false := by simp; omega
          have hcell : wr.cell? ⟨gc, k, none⟩ = some (.int .u8 ((cs[k]'(by omega)).toNat : Int)) := hB.cell (by rw [List.getElem?_map, List.getElem?_eq_getElem (by omega)]; rfl)
          have hfz : wr.frozen? ⟨gc, k, none⟩ = false := hB.free k
          obtain ⟨x, hx⟩ : ∃ x, x = cs[k]'(by omega) := ⟨_, rfl⟩
          rw [← hx] at hcell
          have hk0 : (0 : Int) ≤ (k : Int) := by omega
          have hk1 : (k : Int) < (N : Int) := by omega
          clear hK hB hx hq0
          go_wp2
          go_roundw
          case rel => exact (Blk_setB HB2.out k _).elim fun cs' h => ⟨j + 1, cs', by go_num, h.1.trans hcl, HK2.out.next (by simp [World.setCell]) fun b hb => Below.heap_setCell _ _ _ _ (by show b ≠ gc; omega), h.2⟩
          case measure => simp [intOf]; omega
        · clear hK hB
          go_wp2
          exact ⟨rfl, rfl, rfl, rfl, cs, hcl, HK2.out, HB2.out⟩
      · clear hK hB
        go_wp2
        exact ⟨rfl, rfl, rfl, rfl, cs, hcl, HK2.out, HB2.out⟩
  clear g0 g2 g12
  obtain ⟨k1, k2, g0, g12, cs, hcl, hk6, hb6⟩ := h
  obtain ⟨G, rfl, hF⟩ := act_fa k1 k2
  rw [hF _ (by decide)] at g0 g12
  clear k1 k2 hF
  clear hbs hb5
  refine hJ.seq ?_
  refine hJ.code lst (by kernel_rfl) rfl rfl (by kernel_rfl) (N := fun a' w' => a'.tmps.size = 129 ∧ a'.defers = [] ∧ a'.eval (.tmp 0) = .slice a0 old.length c0 ∧ a'.eval (.tmp 12) = .slice (some ⟨gc, 0, none⟩) old.length old.length ∧ a'.eval (.tmp 15) = .int .i64 0 ∧ Kp w w' ∧ Blk w' gc 5 (cs.map enc)) (R := fun a' w' => False) (fun tp => ?_) (fun a' w' h => ?_) (fun a' w' td h => h.elim)
  · rw [fa_lit129, g0, g12]
    dsimp only
    clear g0 g12
    have HK := Lib.hid (hk6.tpd tp)
    have hb7 : Blk (Go.Fw.tpd w' tp) gc 5 (cs.map enc) := hb6
    have HB := Lib.hid hb7
    clear hJ hpost h0 h1 h2 b0 b1 b2 n0 o1 z1
    clear hk6 hb6 hb7
    generalize Go.Fw.tpd w' tp = U at HK HB ⊢
    go_wp2
    exact ⟨rfl, rfl, rfl, rfl, rfl, HK.out, HB.out⟩
  clear g0 g12
  obtain ⟨k1, k2, g0, g12, g15, hk7, hb7⟩ := h
  obtain ⟨G, rfl, hF⟩ := act_fa k1 k2
  rw [hF _ (by decide)] at g0 g12 g15
  clear k1 k2 hF
  clear hk6 hb6
  refine hJ.seq ?_
  refine hJ.code lst (by kernel_rfl) rfl rfl (by kernel_rfl) (N := fun a' w' => a'.tmps.size = 129 ∧ a'.defers = [] ∧ a'.eval (.tmp 0) = .slice a0 old.length c0 ∧ a'.eval (.tmp 12) = .slice (some ⟨gc, 0, none⟩) old.length old.length ∧ a'.eval (.tmp 15) = .int .i64 (diffs old cs (cs.length + 1) 0 : Nat) ∧ Kp w w' ∧ Blk w' gc 5 (cs.map enc)) (R := fun a' w' => False) (fun tp => ?_) (fun a' w' h => ?_) (fun a' w' td h => h.elim)
  · rw [fa_lit129, g0, g12, g15]
    dsimp only
    clear g0 g12 g15
    have HK := Lib.hid (hk7.tpd tp)
    have hb8 : Blk (Go.Fw.tpd w' tp) gc 5 (cs.map enc) := hb7
    have HB := Lib.hid hb8
    have HL := Lib.hid hcl
    have H0 := Lib.hid h0
    have HD := Lib.hid (fun (i : Nat) (hi : i < cs.length) => diffs_step (old := old) hi)
    have HE := Lib.hid (@diffs_end old cs)
    clear hJ hpost h0 h1 h2 b0 b1 b2 n0 o1 z1
    clear hk7 hb7 hb8
    obtain ⟨D, hD⟩ : ∃ D, D = diffs old cs (cs.length + 1) 0 := ⟨_, rfl⟩
    rw [← hD]
    have HDD := Lib.hid hD
    rw [← hN] at hcl ⊢
    have HN := Lib.hid hN
    have HCL := Lib.hid hcl
    clear hD hcl hN
    have HQ := Lib.hid q0
    generalize Go.Fw.tpd w' tp = U at HK HB ⊢
    go_wp2
    go_loopw [15, 16] (fun k i wr => ∃ (j c : Nat), k = .int .i64 c ∧ i = .int .i64 j ∧ j ≤ N ∧ c ≤ j ∧ c + diffs old cs (cs.length + 1 - j) j = D ∧ Kp w wr ∧ Blk wr gc 5 (cs.map enc)) (fun _ i _ => N - (intOf i).toNat)
    case atStart => exact ⟨0, 0, rfl, rfl, Nat.zero_le _, Nat.le_refl _, by rw [HDD.out, Nat.zero_add, Nat.sub_zero], HK.out, HB.out⟩
    case round =>
      obtain ⟨j, c, rfl, rfl, hj, hcj, hd, hK, hB⟩ := hrel
      have HK2 := Lib.hid hK; have HB2 := Lib.hid hB
      have hcl := HCL.out
      have hnl := HN.out
      have hq := HQ.out
      by_cases hjn : j < N
      · have hst := HD.out j (by omega)
        have hNle : N ≤ 4096 := by omega
        have HJX := Lib.hid (And.intro hj (And.intro hcj hjn))
        rw [hst] at hd
        obtain ⟨b, o, rfl, hc1⟩ := (hK.bytes H0.out) j (by omega)
        have hcell : wr.cell? ⟨gc, j, none⟩ = some (.int .u8 ((cs[j]'(by omega)).toNat : Int)) := hB.cell (by rw [List.getElem?_map, List.getElem?_eq_getElem (by omega)]; rfl)
        have hget : cs.getD j 0 = cs[j]'(by omega) := by rw [List.getD_eq_getElem?_getD, List.getElem?_eq_getElem (by omega)]; rfl
        have hgeo : old.getD j 0 = old[j]'(by omega) := by rw [List.getD_eq_getElem?_getD, List.getElem?_eq_getElem (by omega)]; rfl
        rw [hget, hgeo] at hd
        obtain ⟨x, hx⟩ : ∃ x, x = cs[j]'(by omega) := ⟨_, rfl⟩
        obtain ⟨y, hy⟩ : ∃ y, y = old[j]'(by omega) := ⟨_, rfl⟩
        rw [← hx] at hcell hd
        rw [← hy] at hc1 hd
        clear hget hgeo hx hy
        have hj0 : (0 : Int) ≤ (j : Int) := by omega
        have hj1 : (j : Int) < (N : Int) := by omega
        by_cases hxy : x = y
        · subst hxy
          rw [if_neg (by simp)] at hd
          have hne : ((x.toNat : Int) != (x.toNat : Int)) = false := by simp
          have HDD2 := Lib.hid hd
          clear hK hB hd hst hcl hnl hq
          go_wp2
          go_quiet (fail)
          go_wp2
          go_roundw
          case rel => have h1 := HJX.out; have h2 := HQ.out; have h3 := HN.out; exact ⟨j + 1, c, rfl, by go_num, by have := HJX.out; omega, by have := HJX.out; omega, by rw [← HDD2.out]; omega, HK2.out.drewN _, HB2.out⟩
          case measure => have := HJX.out; simp [intOf]; omega
        · rw [if_pos hxy] at hd
          have hne : ((x.toNat : Int) != (y.toNat : Int)) = true := by
            simp
            intro h
            exact hxy (UInt8.toNat_inj.1 (by omega))
          have HDD2 := Lib.hid hd
          clear hK hB hd hst hcl hnl hq hxy
          go_wp2
          go_quiet (fail)
          go_wp2
          go_roundw
          case rel => have h1 := HJX.out; have h2 := HQ.out; have h3 := HN.out; exact ⟨j + 1, c + 1, by go_num, by go_num, by have := HJX.out; omega, by have := HJX.out; omega, by rw [← HDD2.out]; omega, HK2.out.drewN _, HB2.out⟩
          case measure => have := HJX.out; simp [intOf]; omega
      · obtain rfl : j = N := by omega
        have he := HE.out
        rw [hcl] at he hd
        rw [he, Nat.add_zero] at hd
        subst hd
        clear hK hB hcl hnl hq he
        go_wp2
        exact ⟨rfl, rfl, rfl, rfl, rfl, HK2.out, HB2.out⟩
  clear g0 g12 g15
  obtain ⟨k1, k2, g0, g12, g15, hk8, hb8⟩ := h
  obtain ⟨G, rfl, hF⟩ := act_fa k1 k2
  rw [hF _ (by decide)] at g0 g12 g15
  clear k1 k2 hF
  clear hk7 hb7
  have hcB : Bytes w' (some ⟨gc, 0, none⟩) cs := Bytes_blk hb8
  have hcb : ∀ a, (some ⟨gc, 0, none⟩ : Option Addr) = some a → a.block < w'.heap.size := fun a e => by cases e; exact hb8.lt
  have hlen2 : (encs (steps (lgOf old) old cs)).length ≤ 4 * diffs old cs (cs.length + 1) 0 + 5 := steps_len2 hcl.symm
  have hpl2 : (patchG (lgOf old) old cs).length ≤ (encs (steps (lgOf old) old cs)).length + 12 := (patchOf_len old cs.length (steps (lgOf old) old cs)).1
  have hD4 : diffs old cs (cs.length + 1) 0 ≤ 4097 := by
    have : ∀ k i, diffs old cs k i ≤ k := fun k => by
      induction k with
      | zero => intro i; exact Nat.le_refl _
      | succ k ih => intro i; have := ih (i + 1); show (if _ then 1 else 0) + _ ≤ _; split <;> omega
    have := this (cs.length + 1) 0
    omega
  rw [← hcl] at g12
  have q1' : cs.length ≤ 4096 := by omega
  have g12a := g12
  obtain ⟨va, hva⟩ : ∃ va : Value, va = .slice a0 old.length c0 := ⟨_, rfl⟩
  obtain ⟨vb, hvb⟩ : ∃ vb : Value, vb = .slice (some ⟨gc, 0, none⟩) cs.length cs.length := ⟨_, rfl⟩
  rw [← hva] at g0
  rw [← hvb] at g12
  refine hJ.seq (hJ.region ?_)
  refine hJ.opf lst rfl rfl (by kernel_rfl) rfl (w' := w') (v := va) (fun tp => ex_move rfl ((fa_eval (by decide)).trans g0)) ?_
  refine hJ.opf lst rfl rfl (by kernel_rfl) rfl (w' := w') (v := vb) (fun tp => ex_move rfl ((fa_eval (by decide)).trans g12)) ?_
  refine hJ.callop rfl (wanted_plain rfl _) rfl (by kernel_rfl) (by kernel_rfl) ?_
  rw [m2 (v := va) (u := vb) ((fa_eval (by decide)).trans rfl) ((fa_eval (by decide)).trans rfl)]
  subst hva hvb
  refine gend_ends (hk8.bytes h0) hcB q0 q1' (atOp_at _) (fun a e => by have := b0 a e; have := hk8.size; omega) hcb fun p2 w9 hp2 _ _ => ?_
  rw [finish_fa rfl rfl]
  refine hJ.opf lst rfl rfl (by kernel_rfl) rfl (w' := w9) (v := .tuple #[p2, .bool true]) (fun tp => ex_move rfl ((fa_eval (by decide)).trans rfl)) ?_
  refine hJ.opf lst rfl rfl (by kernel_rfl) rfl (w' := w9) (v := p2) (fun tp => ex_extract rfl ((fa_eval (by decide)).trans rfl) rfl) ?_
  refine hJ.opf lst rfl rfl (by kernel_rfl) rfl (w' := w9) (v := .bool true) (fun tp => ex_extract rfl ((fa_eval (by decide)).trans rfl) rfl) ?_
  refine hJ.opf lst rfl rfl (by kernel_rfl) rfl (w' := w9) (v := p2) (fun tp => ex_assign rfl ((fa_eval (by decide)).trans rfl)) ?_
  refine hJ.opf lst rfl rfl (by kernel_rfl) rfl (w' := w9) (v := .bool true) (fun tp => ex_assign rfl ((fa_eval (by decide)).trans rfl)) ?_
  refine hJ.region_end ?_
  refine fa_gen (Jf := fun a => CEnds _ _ _ _ _ _ [(bas 6 .normal).at a _] _) fun K hK => ?_
  have k0 : K 0 = .slice a0 old.length c0 := (hK 0).trans g0
  have k15 : K 15 = .int .i64 (diffs old cs (cs.length + 1) 0 : Nat) := (hK 15).trans g15
  have k10 : K 10 = p2 := (hK 10).trans rfl
  have k11 : K 11 = .bool true := (hK 11).trans rfl
  clear hK g0 g12 g15
  refine hJ.code lst (by kernel_rfl) rfl rfl (by kernel_rfl) (N := fun _ _ => False) (R := fun a' w' => a'.defers = [] ∧ a'.eval (.tmp 6) = .bool true) (fun tp2 => ?_) (fun _ _ h => h.elim) (fun a' w' td h => law_done Tryz.func6 rfl (by kernel_rfl) h.1 h.2 hpost)
  rw [fa_lit129, k10, k11, k15]
  dsimp only
  obtain ⟨B2, m2, cc2, rfl, hl2, _, _, _, _⟩ := hp2.own.slice3
  obtain ⟨D, hD⟩ : ∃ D, D = diffs old cs (cs.length + 1) 0 := ⟨_, rfl⟩
  rw [← hD] at hlen2 hD4 ⊢
  have hle : (m2 : Int) ≤ 64 + 4 * (D : Int) := by omega
  clear hD
  clear hp2 hl2 hlen2 hpl2 hcB hcb hb8 hk8 hJ hpost h0 h1 h2 b0 b1 b2 n0 o1 z1 k0 k10 k11 k15 hcl hN
  generalize Go.Fw.tpd w9 tp2 = U
  go_wp2
  exact ⟨rfl, rfl⟩
end Go.Proofs.YtkmgcggoemlaaaaGreatDoor
end

section
/- The law Small of package firmwarelaw returns true for every input: patches are not long: of any images; of images of one length, by how many bytes differ. No condition: any two images, any spots. -/
set_option linter.unusedSimpArgs false
set_option linter.unusedVariables false
set_option linter.constructorNameAsVariable false
set_option maxRecDepth 100000
namespace Go.Proofs.YtkmgcggoemlaaaaGreatDoor
open Go Go.Fw Go.Conc Go.RowKit Go.Fwm Go.ChangeShapes Go.WideShapes Go.ChangeAt

theorem small_lifted (os : Os) (started : os.Started) (H : Type) (enc : TypeId × Value → H) :
    ReturnsInLeavingWide {} Tryz.checked os 6 .any (fun w args => (Rows.smallSpec.pre enc Tryz.prog Tryz.f6 [] false w args ∧ laidMetH Tryz.prog laidL w) ∧ sizedMet enc Tryz.prog Tryz.f6 (OpenSpec.ofChange Rows.smallSpec) false w args)
      (Rows.smallSpec.post enc Tryz.prog Tryz.f6 false true false false) := by
  refine rl_and (C := Tryz.checked) (X := fun w _ => laidMetH Tryz.prog laidL w) (fun _ _ _ hh h => h.of_heap hh) own started Tryz.func6
    (ChangeSpec.witness_at (enc := enc) (C := Tryz.checked) (os := os) (X := fun w _ => laidMetH Tryz.prog laidL w) false (laidWorld os) #[.slice none 0 0, .slice none 0 0, .slice none 0 0] 8 rfl (by kernel_rfl) (by kernel_rfl) (by kernel_rfl) (by kernel_rfl) (by kernel_rfl) (laidWorld_met os _)) ?_
  intro W base args ds gs before hval0 hW hL hsh
  have hval : ∀ (j : Nat) t v, Tryz.f6.params[j]? = some t → args[j]? = some v → Value.okWide Tryz.prog W .any base t v := hval0
  have hW' := hW
  obtain ⟨p, q, hA0, hV, rfl, hfz, hnd⟩ := hW
  have hA : DataW.TrodAll enc Tryz.prog W 0 (fun _ => true) true Tryz.f6.params.toList args.toList ds p := hA0
  rw [Tryz.params6] at hA hval
  obtain ⟨v0, vs0, d0, ds0, p0, q0, hargs, rfl, rfl, h0, r0⟩ := trodAll_cons hA
  obtain ⟨v1, vs1, d1, ds1, p1, q1, rfl, rfl, rfl, h1, r1⟩ := trodAll_cons r0
  obtain ⟨v2, vs2, d2, ds2, p2, q2, rfl, rfl, rfl, h2, r2⟩ := trodAll_cons r1
  obtain ⟨rfl, rfl, rfl⟩ := trodAll_nil r2
  obtain rfl : args = #[v0, v1, v2] := by cases args; simp_all
  obtain ⟨rfl, rfl⟩ := trodVars_none hV
  obtain ⟨a0, l0, c0, b0, rfl, s0⟩ := arg22 (hval 0 22 v0 rfl rfl) h0
  obtain ⟨a1, l1, c1, b1, rfl, s1⟩ := arg22 (hval 1 22 v1 rfl rfl) h1
  obtain ⟨a2, l2, c2, rfl, s2⟩ := arg23 (hval 2 23 v2 rfl rfl) h2
  have hlt : ∀ {t : TypeId} {v : Value} {d : DataW H} {ps : List MemPlace}, DataW.Trod enc Tryz.prog W 0 (fun _ => true) true t v d ps → ∀ x ∈ ps, x.block < W.heap.size := fun h => by obtain ⟨m, hm⟩ := h; exact DataW.trod_lt m _ _ _ hm
  have hbl : ∀ x, (∃ c t fr, W.heap[x]? = some (Obj.cells c t fr)) → x < W.heap.size := fun x ⟨c, t, fr, e⟩ => (Array.getElem?_eq_some_iff.1 e).1
  clear hA0 hval0
  refine start_row (handle_of_laid hL) (shaped2 hsh) (by kernel_rfl) (fun i x hx => ?_) fun w hs hg hb hi => ?_
  · rcases i with _ | _ | _ | i
    · simp at hx; subst hx; exact .inr ⟨_, _, _, rfl, s0.cells⟩
    · simp at hx; subst hx; exact .inr ⟨_, _, _, rfl, s1.cells⟩
    · simp at hx; subst hx; exact .inr ⟨_, _, _, rfl, s2.cells⟩
    · simp at hx
  · refine small_priv (W := W) (fun W' bel => ?_) hg (hb _ _ s0.bytes) s0.len_ (hb _ _ s1.bytes) s1.len_ (hi _ _ s2.ints) s0.nil_ (fun a e => by rw [hs]; exact hbl _ (s0.cells a e)) (fun a e => by rw [hs]; exact hbl _ (s1.cells a e)) (fun a e => by rw [hs]; exact hbl _ (s2.cells a e))
    exact ⟨_, _, _, [], _, [], hW', trodAll_mk1 (shut_bool Tryz.underlying4 _), (trodAll_cons_mk (Below.trod laidOut (by kernel_rfl) (of_decide_eq_true (by kernel_rfl)) h0 bel (hlt h0)) (trodAll_cons_mk (Below.trod laidOut (by kernel_rfl) (of_decide_eq_true (by kernel_rfl)) h1 bel (hlt h1)) (trodAll_cons_mk (Below.trod laidOut (by kernel_rfl) (of_decide_eq_true (by kernel_rfl)) h2 bel (hlt h2)) trodAll_mk0))), rfl, bel.frame _, fun h => by cases h⟩

theorem small_row : Rows.SmallSaid :=
  OpenClaim.holds_of_wide_leaving 6 Tryz.f6 rfl rfl rfl rfl rfl rfl rfl ⟨rfl, rfl, rfl, rfl, rfl⟩ rfl rfl rfl rfl rfl (by kernel_rfl) Tryz.func6 (by kernel_rfl)
    (of_decide_eq_true (by kernel_rfl)) (by unfold Func.isWrapper; first | (rw [if_pos (by decide +kernel)]; kernel_rfl) | (rw [if_neg (by decide +kernel)]; exact ⟨rfl, rfl⟩))
    (fun os started H enc _ => small_lifted os started H enc)
theorem small_card : Rows.SmallCardSaid :=
  card_goes .later [.handle] true (true, "a92912a9f4f08fbf195758ad90ff77dd450bbb634acd63370d8d1a8325452fc3") true true
    small_row (by kernel_rfl) small_row_tie rfl ⟨rfl, rfl⟩ (by kernel_rfl) rfl
    (fun f fn hf hfn => by
      obtain rfl : f = 6 := Option.some.inj ((show Tryz.prog.funcNamed Rows.smallRow.func = some 6 by kernel_rfl).symm.trans hf) |>.symm
      obtain rfl : fn = Tryz.f6 := (Option.some.inj (Tryz.func6.symm.trans hfn)).symm
      exact ⟨by kernel_rfl, fun j t ht => by
        have h3 : t ∈ [22, 23] := by
          rw [Tryz.params6] at ht
          rcases j with _ | _ | _ | j <;> simp at ht <;> subst ht <;> decide
        have h4 : [22, 23].all (fun t => Tryz.prog.wantsStandIn t == false) = true := by kernel_rfl
        exact beq_iff_eq.1 (List.all_eq_true.1 h4 t h3)⟩)
    (by kernel_rfl)
#print axioms small_card
end Go.Proofs.YtkmgcggoemlaaaaGreatDoor
end
