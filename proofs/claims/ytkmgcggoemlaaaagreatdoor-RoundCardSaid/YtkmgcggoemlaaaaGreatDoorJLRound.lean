/-
  The law Round of package firmwarelaw returns true for every input: a patch leads to the new image, however it is cut; images that are too long are refused.
  No condition: any two images, any pieces.
-/
import Derived.Test.YtkmgcggoemlaaaaGreatDoorJ25
import Derived.Test.YtkmgcggoemlaaaaGreatDoorCards
import Derived.Test.YtkmgcggoemlaaaaGreatDoorTie

section
/- The law Round, in a private world. No condition. -/
set_option linter.unusedSimpArgs false
set_option linter.unusedVariables false
set_option linter.constructorNameAsVariable false
namespace Go.Proofs.YtkmgcggoemlaaaaGreatDoor
open Go Go.Fw Go.Conc Go.RowKit Go.Fwm

theorem fa_lit118 (f : Nat → Value) (D : List Deferred) : fa 118 f D = ⟨#[f 0, f 1, f 2, f 3, f 4, f 5, f 6, f 7, f 8, f 9, f 10, f 11, f 12, f 13, f 14, f 15, f 16, f 17, f 18, f 19, f 20, f 21, f 22, f 23, f 24, f 25, f 26, f 27, f 28, f 29, f 30, f 31, f 32, f 33, f 34, f 35, f 36, f 37, f 38, f 39, f 40, f 41, f 42, f 43, f 44, f 45, f 46, f 47, f 48, f 49, f 50, f 51, f 52, f 53, f 54, f 55, f 56, f 57, f 58, f 59, f 60, f 61, f 62, f 63, f 64, f 65, f 66, f 67, f 68, f 69, f 70, f 71, f 72, f 73, f 74, f 75, f 76, f 77, f 78, f 79, f 80, f 81, f 82, f 83, f 84, f 85, f 86, f 87, f 88, f 89, f 90, f 91, f 92, f 93, f 94, f 95, f 96, f 97, f 98, f 99, f 100, f 101, f 102, f 103, f 104, f 105, f 106, f 107, f 108, f 109, f 110, f 111, f 112, f 113, f 114, f 115, f 116, f 117], D⟩ := by kernel_rfl

set_option maxRecDepth 100000 in
set_option maxHeartbeats 8000000 in
theorem round_priv {W w : World} {Post : Value → World → Prop} (hpost : ∀ W', Below W.heap.size W W' → Post (.bool true) W') (hg : GV w)
    {a0 a1 a2 : Option Addr} {l0 c0 l1 c1 l2 c2 : Nat} {old new : List UInt8}
    (h0 : Bytes w a0 old) (e0 : old.length = l0) (h1 : Bytes w a1 new) (e1 : new.length = l1) (h2 : Ints w a2 l2) (n0 : a0 = none → c0 = 0)
    (b0 : ∀ a, a0 = some a → a.block < w.heap.size) (b1 : ∀ a, a1 = some a → a.block < w.heap.size) (b2 : ∀ a, a2 = some a → a.block < w.heap.size) :
    CEnds Tryz.prog FN W.heap.size W Post [] [Frame.enter Tryz.prog 3 #[.slice a0 l0 c0, .slice a1 l1 c1, .slice a2 l2 c2] .normal] w := by
  have hJ := cEnds_clo (P := Tryz.prog) (FN := FN) (N0 := W.heap.size) (W0 := W) (Post := Post) (Ch := [])
  rw [enter_fa _ _ 118 Tryz.func3 rfl rfl (by simp)]
  refine hJ.seq (hJ.region ?_)
  refine hJ.opf lst rfl rfl (by kernel_rfl) rfl (w' := w) (fun tp => ex_assign (x := .const (.bool false)) rfl rfl) ?_
  refine hJ.region_end (hJ.seq (hJ.region ?_))
  refine hJ.callop rfl (wanted_plain rfl _) rfl (by kernel_rfl) (by kernel_rfl) ?_
  rw [Array.map_empty]
  refine works_ends hg (atOp_at _) fun w1 z1 o1 => ?_
  rw [finish_fa rfl rfl]
  refine hJ.opf lst rfl rfl (by kernel_rfl) rfl (w' := w1) (v := .bool true) (fun tp => ex_assign rfl ((fa_eval (by decide)).trans rfl)) ?_
  refine hJ.region_end (hJ.seq ?_)
  refine fa_gen (Jf := fun a => CEnds _ _ _ _ _ _ [(bas 3 .normal).at a _] _) fun F hF => ?_
  have f0 : F 0 = .slice a0 l0 c0 := (hF 0).trans rfl
  have f1 : F 1 = .slice a1 l1 c1 := (hF 1).trans rfl
  have f2 : F 2 = .slice a2 l2 c2 := (hF 2).trans rfl
  have f7 : F 7 = .bool true := (hF 7).trans rfl
  clear hF
  refine hJ.code lst (by kernel_rfl) rfl rfl (by kernel_rfl) (N := fun a' w' => a'.tmps.size = 118 ∧ a'.defers = [] ∧ a'.eval (.tmp 0) = .slice a0 l0 c0 ∧ a'.eval (.tmp 1) = .slice a1 l1 c1 ∧ a'.eval (.tmp 2) = .slice a2 l2 c2 ∧ (l0 ≤ 65536 ∧ l1 ≤ 65536 ∧ l2 ≤ 65536) ∧ ∃ tp, w' = Go.Fw.tpd w1 tp) (R := fun a' w' => a'.defers = [] ∧ a'.eval (.tmp 6) = .bool true) (fun tp => ?_) (fun a' w' h => ?_) (fun a' w' td h => law_done Tryz.func3 rfl (by kernel_rfl) h.1 h.2 hpost)
  · rw [fa_lit118, f0, f1, f2, f7]
    dsimp only
    clear f0 f1 f2 f7
    by_cases q0 : l0 ≤ 65536
    · have q0' : ¬ ((65536 : Int) < (l0 : Int)) := by omega
      by_cases q1 : l1 ≤ 65536
      · have q1' : ¬ ((65536 : Int) < (l1 : Int)) := by omega
        by_cases q2 : l2 ≤ 65536
        · have q2' : ¬ ((65536 : Int) < (l2 : Int)) := by omega
          go_wp2
          refine ⟨rfl, rfl, rfl, rfl, rfl, ?_⟩
          first | exact ⟨⟨q0, q1, q2⟩, _, rfl⟩ | exact ⟨_, rfl⟩
        · have q2' : ((65536 : Int) < (l2 : Int)) := by omega
          go_wp2
          exact ⟨rfl, rfl⟩
      · have q1' : ((65536 : Int) < (l1 : Int)) := by omega
        go_wp2
        exact ⟨rfl, rfl⟩
    · have q0' : ((65536 : Int) < (l0 : Int)) := by omega
      go_wp2
      exact ⟨rfl, rfl⟩
  obtain ⟨k1, k2, f0, f1, f2, ⟨q0, q1, q2⟩, tp, rfl⟩ := h
  refine hJ.tp _ _ tp ?_
  obtain ⟨F, rfl, hF⟩ := act_fa k1 k2
  rw [hF _ (by decide)] at f0 f1 f2
  clear k1 k2 hF
  have hk1 : Kp w w1 := ⟨by omega, o1⟩
  refine hJ.seq (hJ.region ?_)
  refine hJ.opf lst rfl rfl (by kernel_rfl) rfl (w' := w1) (v := .slice a0 l0 c0) (fun tp => ex_move rfl ((fa_eval (by decide)).trans f0)) ?_
  refine hJ.callf lst rfl rfl rfl (by kernel_rfl) (by kernel_rfl) (by kernel_rfl) rfl _ (m1 ((fa_eval (by decide)).trans rfl)) (R := fun v w' => v = .bool (decide (l0 ≤ 4096)) ∧ ∃ tp, w' = Go.Fw.tpd w1 tp) (fun tp => (image14 _ a0 l0 c0).mono fun e w' ⟨q1, q2⟩ => ⟨_, q1, rfl, tp, q2⟩) ?_
  rintro v w' ⟨rfl, tp, rfl⟩
  refine hJ.tp _ _ tp ?_
  refine hJ.opf lst rfl rfl (by kernel_rfl) rfl (w' := w1) (v := .bool (decide (l0 ≤ 4096))) (fun tp => ex_assign rfl ((fa_eval (by decide)).trans rfl)) ?_
  refine hJ.region_end (hJ.seq (hJ.region ?_))
  refine hJ.opf lst rfl rfl (by kernel_rfl) rfl (w' := w1) (v := .slice a1 l1 c1) (fun tp => ex_move rfl ((fa_eval (by decide)).trans f1)) ?_
  refine hJ.callf lst rfl rfl rfl (by kernel_rfl) (by kernel_rfl) (by kernel_rfl) rfl _ (m1 ((fa_eval (by decide)).trans rfl)) (R := fun v w' => v = .bool (decide (l1 ≤ 4096)) ∧ ∃ tp, w' = Go.Fw.tpd w1 tp) (fun tp => (image14 _ a1 l1 c1).mono fun e w' ⟨q1, q2⟩ => ⟨_, q1, rfl, tp, q2⟩) ?_
  rintro v w' ⟨rfl, tp, rfl⟩
  refine hJ.tp _ _ tp ?_
  refine hJ.opf lst rfl rfl (by kernel_rfl) rfl (w' := w1) (v := .bool (decide (l1 ≤ 4096))) (fun tp => ex_assign rfl ((fa_eval (by decide)).trans rfl)) ?_
  refine hJ.region_end (hJ.seq (hJ.seq ?_))
  refine fa_gen (Jf := fun a => CEnds _ _ _ _ _ _ [(bas 3 .normal).at a _] _) fun G hG => ?_
  have g0 : G 0 = .slice a0 l0 c0 := (hG 0).trans f0
  have g1 : G 1 = .slice a1 l1 c1 := (hG 1).trans f1
  have g2 : G 2 = .slice a2 l2 c2 := (hG 2).trans f2
  have g8 : G 8 = .bool (decide (l0 ≤ 4096)) := (hG 8).trans rfl
  have g9 : G 9 = .bool (decide (l1 ≤ 4096)) := (hG 9).trans rfl
  clear hG f0 f1 f2
  refine hJ.code lst (by kernel_rfl) rfl rfl (by kernel_rfl) (N := fun a' w' => a'.tmps.size = 118 ∧ a'.defers = [] ∧ a'.eval (.tmp 0) = .slice a0 l0 c0 ∧ a'.eval (.tmp 1) = .slice a1 l1 c1 ∧ a'.eval (.tmp 2) = .slice a2 l2 c2 ∧ a'.eval (.tmp 51) = .bool (!(decide (l0 ≤ 4096) && decide (l1 ≤ 4096))) ∧ ∃ tp, w' = Go.Fw.tpd w1 tp) (R := fun a' w' => False) (fun tp => ?_) (fun a' w' h => ?_) (fun a' w' td h => h.elim)
  · rw [fa_lit118, g0, g1, g2, g8, g9]
    dsimp only
    clear g0 g1 g2 g8 g9
    by_cases q0 : l0 ≤ 4096
    · by_cases q1 : l1 ≤ 4096
      · rw [decide_eq_true q0, decide_eq_true q1]
        go_wp2
        exact ⟨rfl, rfl, rfl, rfl, rfl, rfl, _, rfl⟩
      · rw [decide_eq_true q0, decide_eq_false q1]
        go_wp2
        exact ⟨rfl, rfl, rfl, rfl, rfl, rfl, _, rfl⟩
    · rw [decide_eq_false q0]
      go_wp2
      exact ⟨rfl, rfl, rfl, rfl, rfl, rfl, _, rfl⟩
  obtain ⟨k1, k2, f0, f1, f2, f51, tp, rfl⟩ := h
  refine hJ.tp _ _ tp ?_
  obtain ⟨F, rfl, hF⟩ := act_fa k1 k2
  rw [hF _ (by decide)] at f0 f1 f2 f51
  clear k1 k2 hF g0 g1 g2 g8 g9
  obtain ⟨va, hva⟩ : ∃ va : Value, va = .slice a0 l0 c0 := ⟨_, rfl⟩
  obtain ⟨vb, hvb⟩ : ∃ vb : Value, vb = .slice a1 l1 c1 := ⟨_, rfl⟩
  rw [← hva] at f0
  rw [← hvb] at f1
  by_cases hq : l0 ≤ 4096 ∧ l1 ≤ 4096
  · have e51 : (!(decide (l0 ≤ 4096) && decide (l1 ≤ 4096))) = false := by simp [hq]
    rw [e51] at f51
    refine hJ.cond ((fa_eval (by decide)).trans f51) ?_
    refine hJ.skip (hJ.seq (hJ.region ?_))
    refine hJ.opf lst rfl rfl (by kernel_rfl) rfl (w' := w1) (v := va) (fun tp => ex_move rfl ((fa_eval (by decide)).trans f0)) ?_
    refine hJ.opf lst rfl rfl (by kernel_rfl) rfl (w' := w1) (v := vb) (fun tp => ex_move rfl ((fa_eval (by decide)).trans f1)) ?_
    refine hJ.callop rfl (wanted_plain rfl _) rfl (by kernel_rfl) (by kernel_rfl) ?_
    rw [m2 (v := va) (u := vb) ((fa_eval (by decide)).trans rfl) ((fa_eval (by decide)).trans rfl)]
    subst hva hvb
    subst e0 e1
    have i0 : Bytes w1 a0 old := hk1.bytes h0
    have i1 : Bytes w1 a1 new := hk1.bytes h1
    refine gend_ends i0 i1 hq.1 hq.2 (atOp_at _) (fun a e => by have := b0 a e; omega) (fun a e => by have := b1 a e; omega) fun p w2 hp _ _ => ?_
    rw [finish_fa rfl rfl]
    refine hJ.opf lst rfl rfl (by kernel_rfl) rfl (w' := w2) (v := .tuple #[p, .bool true]) (fun tp => ex_move rfl ((fa_eval (by decide)).trans rfl)) ?_
    refine hJ.opf lst rfl rfl (by kernel_rfl) rfl (w' := w2) (v := p) (fun tp => ex_extract rfl ((fa_eval (by decide)).trans rfl) rfl) ?_
    refine hJ.opf lst rfl rfl (by kernel_rfl) rfl (w' := w2) (v := .bool true) (fun tp => ex_extract rfl ((fa_eval (by decide)).trans rfl) rfl) ?_
    refine hJ.opf lst rfl rfl (by kernel_rfl) rfl (w' := w2) (v := p) (fun tp => ex_assign rfl ((fa_eval (by decide)).trans rfl)) ?_
    refine hJ.opf lst rfl rfl (by kernel_rfl) rfl (w' := w2) (v := .bool true) (fun tp => ex_assign rfl ((fa_eval (by decide)).trans rfl)) ?_
    refine hJ.region_end (hJ.seq ?_)
    refine fa_gen (Jf := fun a => CEnds _ _ _ _ _ _ [(bas 3 .normal).at a _] _) fun G hG => ?_
    have g0 : G 0 = .slice a0 old.length c0 := (hG 0).trans f0
    have g1 : G 1 = .slice a1 new.length c1 := (hG 1).trans f1
    have g2 : G 2 = .slice a2 l2 c2 := (hG 2).trans f2
    have g13 : G 13 = p := (hG 13).trans rfl
    have g14 : G 14 = .bool true := (hG 14).trans rfl
    clear hG f0 f1 f2 f51 e51
    have hk2 : Kp w w2 := hk1.rin hp
    have hpl := patchG_len old new
    obtain ⟨P, hP⟩ : ∃ P, P = patchG (lgOf old) old new := ⟨_, rfl⟩
    obtain ⟨pages, hpages⟩ : ∃ pages : Int, pages = ((new.length : Int) + 64 - 1) / 64 := ⟨_, rfl⟩
    have hpr : -9223372036854775808 ≤ pages ∧ pages ≤ 9223372036854775807 := by omega
    have hfit : new.length ≤ newPages old pages * 64 := by unfold newPages; omega
    obtain ⟨r1, r2, r3, r4, r5, r6⟩ := nf_good (old := old) (next := new) (pages := pages) hq.1 hfit
    rw [← hP] at hp hpl r1 r2 r3 r4 r5 r6
    -- NewFlash
    refine hJ.code lst (by kernel_rfl) rfl rfl (by kernel_rfl) (N := fun a' w' => a'.tmps.size = 118 ∧ a'.defers = [] ∧ a'.eval (.tmp 0) = .slice a0 old.length c0 ∧ a'.eval (.tmp 1) = .slice a1 new.length c1 ∧ a'.eval (.tmp 2) = .slice a2 l2 c2 ∧ a'.eval (.tmp 13) = p ∧ a'.eval (.tmp 14) = .bool true ∧ ∃ tp pf bf, a'.eval (.tmp 15) = .pointer (some ⟨pf, 0, none⟩) ∧ Nf1 w (Go.Fw.tpd w2 tp) w' pf bf (Fl.init old pages)) (R := fun a' w' => False) (fun tp => ?_) (fun a' w' h => ?_) (fun a' w' td h => h.elim)
    · rw [fa_lit118, g0, g1, g2, g13, g14]
      dsimp only
      have HNF := Lib.hid (nf_k (hk2.tpd tp) h0 (c := c0) n0 hq.1 pages hpr)
      rw [hpages] at HNF
      clear g0 g1 g2 g13 g14 hk1 hk2 hp hpl hP hpr hfit r1 r2 r3 r4 r5 r6 i0 i1 hJ hpost z1 o1 h0 h1 h2
      have HP := Lib.hid hpages; clear hpages
      obtain ⟨U, hU⟩ : ∃ U, U = Go.Fw.tpd w2 tp := ⟨_, rfl⟩
      rw [← hU] at HNF ⊢
      have HU := Lib.hid hU; clear hU
      go_wp2_with (go_at_call 18; refine HNF.out.mono ?_; rintro e U1 ⟨pf, bf, rfl, hf⟩; have HF1 := Lib.hid hf; clear hf)
      exact ⟨rfl, rfl, rfl, rfl, rfl, rfl, rfl, tp, pf, bf, rfl, by rw [← HU.out, HP.out]; exact HF1.out⟩
    clear g0 g1 g2 g13 g14
    obtain ⟨k1, k2, f0, f1, f2, f13, f14, tp, pf, bf, f15, hnf⟩ := h
    obtain ⟨F, rfl, hF⟩ := act_fa k1 k2
    rw [hF _ (by decide)] at f0 f1 f2 f13 f14 f15
    clear k1 k2 hF
    have hk3 : Kp w (Go.Fw.tpd w2 tp) := hk2.tpd tp
    have hp3 := hp.tpd tp
    generalize Go.Fw.tpd w2 tp = V at hnf hk3 hp3
    obtain ⟨B, n, c, rfl, hl, hc, hcm, hB0, hBb⟩ := hp3.own.slice3
    have hBw : ∀ a, B = some a → a.block ≠ w.heap.size ∧ a.block < V.heap.size := fun a e => ⟨by have := hp3.far _ (hBb a e); omega, hp3.own.lt (hBb a e)⟩
    refine hJ.seq ?_
    -- applied
    refine hJ.code lst (by kernel_rfl) rfl rfl (by kernel_rfl) (N := fun a' w' => a'.tmps.size = 118 ∧ a'.defers = [] ∧ a'.eval (.tmp 0) = .slice a0 old.length c0 ∧ a'.eval (.tmp 1) = .slice a1 new.length c1 ∧ a'.eval (.tmp 13) = .slice B n c ∧ a'.eval (.tmp 14) = .bool true ∧ a'.eval (.tmp 15) = .pointer (some ⟨pf, 0, none⟩) ∧ a'.eval (.tmp 16) = .int .i64 0 ∧ a'.eval (.tmp 17) = .int .i64 0 ∧ ∃ be, Ap1 w V w' pf bf be ((Fl.init old pages).apply P).x.f) (R := fun a' w' => False) (fun tp => ?_) (fun a' w' h => ?_) (fun a' w' td h => h.elim)
    · rw [fa_lit118, f0, f1, f2, f13, f14, f15]
      dsimp only
      have hap := ap_k (hnf.tpd tp) (hk3.tpd tp) hg hq.1 hl (by omega) hc hcm (hp3.own.bytes rfl) hBw (C := a2) (m := l2) (d := c2) (by omega) h2 b2
      rw [r1, r2] at hap
      have HAP := Lib.hid hap
      clear hap f0 f1 f2 f13 f14 f15 hk1 hk2 hk3 hp hp3 hpl hP hpr hfit r1 r2 r3 r4 r5 r6 i0 i1 hJ hpost z1 o1 h0 h1 h2 hBw hB0 hBb hl hpages hnf
      generalize Go.Fw.tpd w' tp = U1 at HAP ⊢
      go_wp2_with (go_at_call 19; refine HAP.out.mono ?_; rintro e U2 ⟨held, be, rfl, hf⟩; have HA1 := Lib.hid hf; clear hf)
      exact ⟨rfl, rfl, rfl, rfl, rfl, rfl, rfl, rfl, rfl, be, HA1.out.of_tpd⟩
    clear f0 f1 f2 f13 f14 f15 hnf
    obtain ⟨k1, k2, f0, f1, f13, f14, f15, f16, f17, be, ha1⟩ := h
    obtain ⟨F, rfl, hF⟩ := act_fa k1 k2
    rw [hF _ (by decide)] at f0 f1 f13 f14 f15 f16 f17
    clear k1 k2 hF
    refine hJ.seq ?_
    -- holds
    refine hJ.code lst (by kernel_rfl) rfl rfl (by kernel_rfl) (N := fun a' w'' => a'.tmps.size = 118 ∧ a'.defers = [] ∧ a'.eval (.tmp 0) = .slice a0 old.length c0 ∧ a'.eval (.tmp 1) = .slice a1 new.length c1 ∧ a'.eval (.tmp 13) = .slice B n c ∧ a'.eval (.tmp 14) = .bool true ∧ a'.eval (.tmp 16) = .int .i64 0 ∧ a'.eval (.tmp 17) = .int .i64 0 ∧ a'.eval (.tmp 19) = .bool true ∧ w'.heap.size ≤ w''.heap.size ∧ ∀ b, b < w'.heap.size → w''.heap[b]? = w'.heap[b]?) (R := fun a' w' => False) (fun tp => ?_) (fun a' w'' h => ?_) (fun a' w' td h => h.elim)
    · rw [fa_lit118, f0, f1, f13, f14, f15, f16, f17]
      dsimp only
      have hho := holds_ok (Go.Fw.tpd w' tp) _ pf bf be _ (ha1.rep.tpd tp) a0 a1 c0 c1 old new r3 r4 r5 r6 (ha1.kp.bytes h0) (ha1.kp.bytes h1)
      have HHO := Lib.hid hho
      clear hho f0 f1 f13 f14 f15 f16 f17 hk1 hk2 hk3 hp hp3 hpl hP hpr hfit r1 r2 r3 r4 r5 r6 i0 i1 hJ hpost z1 o1 h0 h1 h2 hBw hB0 hBb hl hpages ha1
      obtain ⟨U, hU⟩ : ∃ U, U = Go.Fw.tpd w' tp := ⟨_, rfl⟩
      rw [← hU] at HHO ⊢
      have HU := Lib.hid hU; clear hU
      go_wp2_with (go_at_call 20; refine HHO.out.mono ?_; rintro e U2 ⟨rfl, hb⟩; have HB := Lib.hid hb; clear hb)
      have hb := HB.out
      rw [HU.out] at hb
      exact ⟨rfl, rfl, rfl, rfl, rfl, rfl, rfl, rfl, rfl, hb.size, hb.block⟩
    clear f0 f1 f13 f14 f15 f16 f17
    obtain ⟨k1, k2, f0, f1, f13, f14, f16, f17, f19, hs4, ho4⟩ := h
    obtain ⟨F, rfl, hF⟩ := act_fa k1 k2
    rw [hF _ (by decide)] at f0 f1 f13 f14 f16 f17 f19
    clear k1 k2 hF
    have hk4 : Kp w w'' := ha1.kp.next hs4 fun b hb => ho4 b (by have := ha1.kp.size; omega)
    have hrow : Row w'' (.slice B n c) P := (hp3.own.keepB (w' := w') fun g e hlt => ha1.keep g hlt fun e' => by have := hp3.far _ e; omega).keepB fun g e hlt => ho4 g hlt
    obtain ⟨va, hva⟩ : ∃ va : Value, va = .slice a0 old.length c0 := ⟨_, rfl⟩
    obtain ⟨vb, hvb⟩ : ∃ vb : Value, vb = .slice a1 new.length c1 := ⟨_, rfl⟩
    rw [← hva] at f0
    rw [← hvb] at f1
    refine hJ.seq (hJ.region ?_)
    refine hJ.opf lst rfl rfl (by kernel_rfl) rfl (w' := w'') (v := va) (fun tp => ex_move rfl ((fa_eval (by decide)).trans f0)) ?_
    refine hJ.opf lst rfl rfl (by kernel_rfl) rfl (w' := w'') (v := vb) (fun tp => ex_move rfl ((fa_eval (by decide)).trans f1)) ?_
    refine hJ.callop rfl (wanted_plain rfl _) rfl (by kernel_rfl) (by kernel_rfl) ?_
    rw [m2 (v := va) (u := vb) ((fa_eval (by decide)).trans rfl) ((fa_eval (by decide)).trans rfl)]
    subst hva hvb
    refine gend_ends (hk4.bytes h0) (hk4.bytes h1) hq.1 hq.2 (atOp_at _) (fun a e => by have := b0 a e; have := hk4.size; omega) (fun a e => by have := b1 a e; have := hk4.size; omega) fun q w5 hq5 _ _ => ?_
    rw [← hP] at hq5
    rw [finish_fa rfl rfl]
    refine hJ.opf lst rfl rfl (by kernel_rfl) rfl (w' := w5) (v := .tuple #[q, .bool true]) (fun tp => ex_move rfl ((fa_eval (by decide)).trans rfl)) ?_
    refine hJ.opf lst rfl rfl (by kernel_rfl) rfl (w' := w5) (v := q) (fun tp => ex_extract rfl ((fa_eval (by decide)).trans rfl) rfl) ?_
    refine hJ.opf lst rfl rfl (by kernel_rfl) rfl (w' := w5) (v := .bool true) (fun tp => ex_extract rfl ((fa_eval (by decide)).trans rfl) rfl) ?_
    refine hJ.opf lst rfl rfl (by kernel_rfl) rfl (w' := w5) (v := q) (fun tp => ex_assign rfl ((fa_eval (by decide)).trans rfl)) ?_
    refine hJ.opf lst rfl rfl (by kernel_rfl) rfl (w' := w5) (v := .bool true) (fun tp => ex_assign rfl ((fa_eval (by decide)).trans rfl)) ?_
    refine hJ.region_end ?_
    refine fa_gen (Jf := fun a => CEnds _ _ _ _ _ _ [(bas 3 .normal).at a _] _) fun G hG => ?_
    have g13 : G 13 = .slice B n c := (hG 13).trans f13
    have g14 : G 14 = .bool true := (hG 14).trans f14
    have g16 : G 16 = .int .i64 0 := (hG 16).trans f16
    have g17 : G 17 = .int .i64 0 := (hG 17).trans f17
    have g19 : G 19 = .bool true := (hG 19).trans f19
    have g20 : G 20 = q := (hG 20).trans rfl
    have g21 : G 21 = .bool true := (hG 21).trans rfl
    clear hG f0 f1 f13 f14 f16 f17 f19
    refine hJ.code lst (by kernel_rfl) rfl rfl (by kernel_rfl) (N := fun _ _ => False) (R := fun a' w' => a'.defers = [] ∧ a'.eval (.tmp 6) = .bool true) (fun tp2 => ?_) (fun _ _ h => h.elim) (fun a' w' td h => law_done Tryz.func3 rfl (by kernel_rfl) h.1 h.2 hpost)
    rw [fa_lit118, g13, g14, g16, g17, g19, g20, g21]
    dsimp only
    have hq6 := hq5.tpd tp2
    have hrow6 : Row (Go.Fw.tpd w5 tp2) (.slice B n c) P := hrow.keepB fun g e hlt => hq5.old g hlt
    generalize Go.Fw.tpd w5 tp2 = U at hq6 hrow6 ⊢
    obtain ⟨B6, n6, c6, rfl, hl6, _, _, _, _⟩ := hq6.own.slice3
    obtain rfl : n6 = n := by omega
    have hsm := same_eq U B B6 c c6 n6 P hl6 (by simp only [maxLen]; omega) (hrow6.bytes rfl) (hq6.own.bytes rfl)
    have HS := Lib.hid hsm
    clear hsm g13 g14 g16 g17 g19 g20 g21 hk1 hk2 hk3 hk4 hp hp3 hpl hP hpr hfit r1 r2 r3 r4 r5 r6 i0 i1 hJ hpost z1 o1 h0 h1 h2 hBw hB0 hBb hl hpages ha1 hq5 hq6 hrow hrow6 hl6 hs4 ho4
    go_wp2_with (go_at_call 21; refine HS.out.mono ?_; rintro e w7 ⟨rfl, k7, rfl⟩)
    exact ⟨rfl, rfl⟩
  · have e51 : (!(decide (l0 ≤ 4096) && decide (l1 ≤ 4096))) = true := by simp; omega
    rw [e51] at f51
    refine hJ.cond ((fa_eval (by decide)).trans f51) ?_
    refine hJ.seq (hJ.region ?_)
    refine hJ.opf lst rfl rfl (by kernel_rfl) rfl (w' := w1) (v := va) (fun tp => ex_move rfl ((fa_eval (by decide)).trans f0)) ?_
    refine hJ.opf lst rfl rfl (by kernel_rfl) rfl (w' := w1) (v := vb) (fun tp => ex_move rfl ((fa_eval (by decide)).trans f1)) ?_
    refine hJ.callop rfl (wanted_plain rfl _) rfl (by kernel_rfl) (by kernel_rfl) ?_
    rw [m2 (v := va) (u := vb) ((fa_eval (by decide)).trans rfl) ((fa_eval (by decide)).trans rfl)]
    subst hva hvb
    refine c15 hJ (R := fun p e w' => p = .slice none 0 0 ∧ e = .iface 30 (.int .i64 1) ∧ w' = w1) (fun cfr cs h1 h2 => gen_long (by omega) (by omega) (by omega) h1 (h2 _ _ _ ⟨rfl, rfl, rfl⟩)) (atOp_at _) ?_
    rintro p e w3 ⟨rfl, rfl, rfl⟩
    rw [finish_fa rfl rfl]
    refine hJ.opf lst rfl rfl (by kernel_rfl) rfl (w' := w3) (v := .tuple #[.slice none 0 0, .iface 30 (.int .i64 1)]) (fun tp => ex_move rfl ((fa_eval (by decide)).trans rfl)) ?_
    refine hJ.opf lst rfl rfl (by kernel_rfl) rfl (w' := w3) (v := .slice none 0 0) (fun tp => ex_extract rfl ((fa_eval (by decide)).trans rfl) rfl) ?_
    refine hJ.opf lst rfl rfl (by kernel_rfl) rfl (w' := w3) (v := .iface 30 (.int .i64 1)) (fun tp => ex_extract rfl ((fa_eval (by decide)).trans rfl) rfl) ?_
    refine hJ.opf lst rfl rfl (by kernel_rfl) rfl (w' := w3) (v := .slice none 0 0) (fun tp => ex_assign rfl ((fa_eval (by decide)).trans rfl)) ?_
    refine hJ.opf lst rfl rfl (by kernel_rfl) rfl (w' := w3) (v := .iface 30 (.int .i64 1)) (fun tp => ex_assign rfl ((fa_eval (by decide)).trans rfl)) ?_
    refine hJ.region_end ?_
    refine fa_gen (Jf := fun a => CEnds _ _ _ _ _ _ [(bas 3 .normal).at a _] _) fun G hG => ?_
    have g10 : G 10 = .slice none 0 0 := (hG 10).trans rfl
    have g11 : G 11 = .iface 30 (.int .i64 1) := (hG 11).trans rfl
    clear hG
    refine hJ.code lst (by kernel_rfl) rfl rfl (by kernel_rfl) (N := fun _ _ => False) (R := fun a' w' => a'.defers = [] ∧ a'.eval (.tmp 6) = .bool true) (fun tp2 => ?_) (fun _ _ h => h.elim) (fun a' w' td h => law_done Tryz.func3 rfl (by kernel_rfl) h.1 h.2 hpost)
    rw [fa_lit118, g10, g11]
    dsimp only
    have HT := Lib.hid (tell_errno (Go.Fw.tpd w3 tp2) (hk1.gv hg) 1)
    clear g10 g11 f2 f51 e51 hk1 o1 z1 hJ
    generalize Go.Fw.tpd w3 tp2 = U at HT ⊢
    have hnil : ∀ V, (binOp .eql 22 (.slice none 0 0) (.slice none 0 0)).run Tryz.prog V = .ok (.bool true) V := nil_eq
    go_wp2_with (go_at_call 16; refine HT.out.mono ?_; rintro e w4 ⟨rfl, _⟩)
    exact ⟨rfl, rfl⟩
end Go.Proofs.YtkmgcggoemlaaaaGreatDoor
end

section
/- The law Round of package firmwarelaw returns true for every input: a patch leads to the new image, however it is cut; images that are too long are refused. No condition: any two images, any pieces. -/
set_option linter.unusedSimpArgs false
set_option linter.unusedVariables false
set_option linter.constructorNameAsVariable false
set_option maxRecDepth 100000
namespace Go.Proofs.YtkmgcggoemlaaaaGreatDoor
open Go Go.Fw Go.Conc Go.RowKit Go.Fwm Go.ChangeShapes Go.WideShapes Go.ChangeAt

theorem round_lifted (os : Os) (started : os.Started) (H : Type) (enc : TypeId × Value → H) :
    ReturnsInLeavingWide {} Tryz.checked os 3 .any (fun w args => (Rows.roundSpec.pre enc Tryz.prog Tryz.f3 [] false w args ∧ laidMetH Tryz.prog laidL w) ∧ sizedMet enc Tryz.prog Tryz.f3 (OpenSpec.ofChange Rows.roundSpec) false w args)
      (Rows.roundSpec.post enc Tryz.prog Tryz.f3 false true false false) := by
  refine rl_and (C := Tryz.checked) (X := fun w _ => laidMetH Tryz.prog laidL w) (fun _ _ _ hh h => h.of_heap hh) own started Tryz.func3
    (ChangeSpec.witness_at (enc := enc) (C := Tryz.checked) (os := os) (X := fun w _ => laidMetH Tryz.prog laidL w) false (laidWorld os) #[.slice none 0 0, .slice none 0 0, .slice none 0 0] 8 rfl (by kernel_rfl) (by kernel_rfl) (by kernel_rfl) (by kernel_rfl) (by kernel_rfl) (laidWorld_met os _)) ?_
  intro W base args ds gs before hval0 hW hL hsh
  have hval : ∀ (j : Nat) t v, Tryz.f3.params[j]? = some t → args[j]? = some v → Value.okWide Tryz.prog W .any base t v := hval0
  have hW' := hW
  obtain ⟨p, q, hA0, hV, rfl, hfz, hnd⟩ := hW
  have hA : DataW.TrodAll enc Tryz.prog W 0 (fun _ => true) true Tryz.f3.params.toList args.toList ds p := hA0
  rw [Tryz.params3] at hA hval
  obtain ⟨v0, vs0, d0, ds0, p0, q0, hargs, rfl, rfl, h0, r0⟩ := trodAll_cons hA
  obtain ⟨v1, vs1, d1, ds1, p1, q1, rfl, rfl, rfl, h1, r1⟩ := trodAll_cons r0
  obtain ⟨v2, vs2, d2, ds2, p2, q2, rfl, rfl, rfl, h2, r2⟩ := trodAll_cons r1
  obtain ⟨rfl, rfl, rfl⟩ := trodAll_nil r2
  obtain rfl : args = #[v0, v1, v2] := by cases args; simp_all
  obtain ⟨rfl, rfl⟩ := trodVars_none hV
  obtain ⟨a0, l0, c0, b0, rfl, s0⟩ := arg22 (hval 0 22 v0 rfl rfl) h0
  obtain ⟨a1, l1, c1, b1, rfl, s1⟩ := arg22 (hval 1 22 v1 rfl rfl) h1
  obtain ⟨a2, l2, c2, rfl, s2⟩ := arg23 (hval 2 23 v2 rfl rfl) h2
  have hlt : ∀ {t : TypeId} {v : Value} {d : DataW H} {ps : List MemPlace}, DataW.Trod enc Tryz.prog W 0 (fun _ => true) true t v d ps → ∀ x ∈ ps, x.block < W.heap.size := fun h => by obtain ⟨m, hm⟩ := h; exact DataW.trod_lt m _ _ _ hm
  have hbl : ∀ x, (∃ c t fr, W.heap[x]? = some (Obj.cells c t fr)) → x < W.heap.size := fun x ⟨c, t, fr, e⟩ => (Array.getElem?_eq_some_iff.1 e).1
  clear hA0 hval0
  refine start_row (handle_of_laid hL) (shaped2 hsh) (by kernel_rfl) (fun i x hx => ?_) fun w hs hg hb hi => ?_
  · rcases i with _ | _ | _ | i
    · simp at hx; subst hx; exact .inr ⟨_, _, _, rfl, s0.cells⟩
    · simp at hx; subst hx; exact .inr ⟨_, _, _, rfl, s1.cells⟩
    · simp at hx; subst hx; exact .inr ⟨_, _, _, rfl, s2.cells⟩
    · simp at hx
  · refine round_priv (W := W) (fun W' bel => ?_) hg (hb _ _ s0.bytes) s0.len_ (hb _ _ s1.bytes) s1.len_ (hi _ _ s2.ints) s0.nil_ (fun a e => by rw [hs]; exact hbl _ (s0.cells a e)) (fun a e => by rw [hs]; exact hbl _ (s1.cells a e)) (fun a e => by rw [hs]; exact hbl _ (s2.cells a e))
    exact ⟨_, _, _, [], _, [], hW', trodAll_mk1 (shut_bool Tryz.underlying4 _), (trodAll_cons_mk (Below.trod laidOut (by kernel_rfl) (of_decide_eq_true (by kernel_rfl)) h0 bel (hlt h0)) (trodAll_cons_mk (Below.trod laidOut (by kernel_rfl) (of_decide_eq_true (by kernel_rfl)) h1 bel (hlt h1)) (trodAll_cons_mk (Below.trod laidOut (by kernel_rfl) (of_decide_eq_true (by kernel_rfl)) h2 bel (hlt h2)) trodAll_mk0))), rfl, bel.frame _, fun h => by cases h⟩

theorem round_row : Rows.RoundSaid :=
  OpenClaim.holds_of_wide_leaving 3 Tryz.f3 rfl rfl rfl rfl rfl rfl rfl ⟨rfl, rfl, rfl, rfl, rfl⟩ rfl rfl rfl rfl rfl (by kernel_rfl) Tryz.func3 (by kernel_rfl)
    (of_decide_eq_true (by kernel_rfl)) (by unfold Func.isWrapper; first | (rw [if_pos (by decide +kernel)]; kernel_rfl) | (rw [if_neg (by decide +kernel)]; exact ⟨rfl, rfl⟩))
    (fun os started H enc _ => round_lifted os started H enc)
theorem round_card : Rows.RoundCardSaid :=
  card_goes .later [.handle] true (true, "a92912a9f4f08fbf195758ad90ff77dd450bbb634acd63370d8d1a8325452fc3") true true
    round_row (by kernel_rfl) round_row_tie rfl ⟨rfl, rfl⟩ (by kernel_rfl) rfl
    (fun f fn hf hfn => by
      obtain rfl : f = 3 := Option.some.inj ((show Tryz.prog.funcNamed Rows.roundRow.func = some 3 by kernel_rfl).symm.trans hf) |>.symm
      obtain rfl : fn = Tryz.f3 := (Option.some.inj (Tryz.func3.symm.trans hfn)).symm
      exact ⟨by kernel_rfl, fun j t ht => by
        have h3 : t ∈ [22, 23] := by
          rw [Tryz.params3] at ht
          rcases j with _ | _ | _ | j <;> simp at ht <;> subst ht <;> decide
        have h4 : [22, 23].all (fun t => Tryz.prog.wantsStandIn t == false) = true := by kernel_rfl
        exact beq_iff_eq.1 (List.all_eq_true.1 h4 t h3)⟩)
    (by kernel_rfl)
#print axioms round_card
end Go.Proofs.YtkmgcggoemlaaaaGreatDoor
end
