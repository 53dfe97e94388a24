/-
  The law Ends of package firmwarelaw returns true for every input: a part of a patch is told to be short; bytes behind its end are told.
  No condition: any images, any cut, any bytes behind, any pieces.
-/
import Derived.Test.YtkmgcggoemlaaaaGreatDoorJ25
import Derived.Test.YtkmgcggoemlaaaaGreatDoorCards
import Derived.Test.YtkmgcggoemlaaaaGreatDoorTie

section
/- The law Ends, in a private world. No condition. -/
set_option linter.unusedSimpArgs false
set_option linter.unusedVariables false
set_option linter.constructorNameAsVariable false
namespace Go.Proofs.YtkmgcggoemlaaaaGreatDoor
open Go Go.Fw Go.Conc Go.RowKit Go.Fwm

theorem fa_lit123 (f : Nat → Value) (D : List Deferred) : fa 123 f D = ⟨#[f 0, f 1, f 2, f 3, f 4, f 5, f 6, f 7, f 8, f 9, f 10, f 11, f 12, f 13, f 14, f 15, f 16, f 17, f 18, f 19, f 20, f 21, f 22, f 23, f 24, f 25, f 26, f 27, f 28, f 29, f 30, f 31, f 32, f 33, f 34, f 35, f 36, f 37, f 38, f 39, f 40, f 41, f 42, f 43, f 44, f 45, f 46, f 47, f 48, f 49, f 50, f 51, f 52, f 53, f 54, f 55, f 56, f 57, f 58, f 59, f 60, f 61, f 62, f 63, f 64, f 65, f 66, f 67, f 68, f 69, f 70, f 71, f 72, f 73, f 74, f 75, f 76, f 77, f 78, f 79, f 80, f 81, f 82, f 83, f 84, f 85, f 86, f 87, f 88, f 89, f 90, f 91, f 92, f 93, f 94, f 95, f 96, f 97, f 98, f 99, f 100, f 101, f 102, f 103, f 104, f 105, f 106, f 107, f 108, f 109, f 110, f 111, f 112, f 113, f 114, f 115, f 116, f 117, f 118, f 119, f 120, f 121, f 122], D⟩ := by kernel_rfl

set_option maxRecDepth 100000 in
set_option maxHeartbeats 8000000 in
theorem ends_priv {W w : World} {Post : Value → World → Prop} (hpost : ∀ W', Below W.heap.size W W' → Post (.bool true) W') (hg : GV w)
    {a0 a1 a3 a4 : Option Addr} {l0 c0 l1 c1 l3 c3 l4 c4 : Nat} {cut : Int} {old new more : List UInt8} (hcut : -9223372036854775808 ≤ cut ∧ cut ≤ 9223372036854775807)
    (h0 : Bytes w a0 old) (e0 : old.length = l0) (h1 : Bytes w a1 new) (e1 : new.length = l1) (h3 : Bytes w a3 more) (e3 : more.length = l3) (h4 : Ints w a4 l4) (n0 : a0 = none → c0 = 0)
    (b0 : ∀ a, a0 = some a → a.block < w.heap.size) (b1 : ∀ a, a1 = some a → a.block < w.heap.size) (b3 : ∀ a, a3 = some a → a.block < w.heap.size) (b4 : ∀ a, a4 = some a → a.block < w.heap.size) :
    CEnds Tryz.prog FN W.heap.size W Post [] [Frame.enter Tryz.prog 11 #[.slice a0 l0 c0, .slice a1 l1 c1, .int .i64 cut, .slice a3 l3 c3, .slice a4 l4 c4] .normal] w := by
  have hJ := cEnds_clo (P := Tryz.prog) (FN := FN) (N0 := W.heap.size) (W0 := W) (Post := Post) (Ch := [])
  rw [enter_fa _ _ 123 Tryz.func11 rfl rfl (by simp)]
  refine hJ.seq (hJ.region ?_)
  refine hJ.opf lst rfl rfl (by kernel_rfl) rfl (w' := w) (fun tp => ex_assign (x := .const (.bool false)) rfl rfl) ?_
  refine hJ.region_end (hJ.seq (hJ.region ?_))
  refine hJ.opf lst rfl rfl (by kernel_rfl) rfl (w' := w) (v := .slice a0 l0 c0) (fun tp => ex_move rfl ((fa_eval (by decide)).trans rfl)) ?_
  refine hJ.callf lst rfl rfl rfl (by kernel_rfl) (by kernel_rfl) (by kernel_rfl) rfl _ (m1 ((fa_eval (by decide)).trans rfl)) (R := fun v w' => v = .bool (decide (l0 ≤ 4096)) ∧ ∃ tp, w' = Go.Fw.tpd w tp) (fun tp => (image14 _ a0 l0 c0).mono fun e w' ⟨q1, q2⟩ => ⟨_, q1, rfl, tp, q2⟩) ?_
  rintro v w' ⟨rfl, tp, rfl⟩
  refine hJ.tp _ _ tp ?_
  refine hJ.opf lst rfl rfl (by kernel_rfl) rfl (w' := w) (v := .bool (decide (l0 ≤ 4096))) (fun tp => ex_assign rfl ((fa_eval (by decide)).trans rfl)) ?_
  refine hJ.region_end (hJ.seq (hJ.region ?_))
  refine hJ.opf lst rfl rfl (by kernel_rfl) rfl (w' := w) (v := .slice a1 l1 c1) (fun tp => ex_move rfl ((fa_eval (by decide)).trans rfl)) ?_
  refine hJ.callf lst rfl rfl rfl (by kernel_rfl) (by kernel_rfl) (by kernel_rfl) rfl _ (m1 ((fa_eval (by decide)).trans rfl)) (R := fun v w' => v = .bool (decide (l1 ≤ 4096)) ∧ ∃ tp, w' = Go.Fw.tpd w tp) (fun tp => (image14 _ a1 l1 c1).mono fun e w' ⟨q1, q2⟩ => ⟨_, q1, rfl, tp, q2⟩) ?_
  rintro v w' ⟨rfl, tp, rfl⟩
  refine hJ.tp _ _ tp ?_
  refine hJ.opf lst rfl rfl (by kernel_rfl) rfl (w' := w) (v := .bool (decide (l1 ≤ 4096))) (fun tp => ex_assign rfl ((fa_eval (by decide)).trans rfl)) ?_
  refine hJ.region_end (hJ.seq (hJ.region ?_))
  refine hJ.callop rfl (wanted_plain rfl _) rfl (by kernel_rfl) (by kernel_rfl) ?_
  rw [Array.map_empty]
  refine works_ends hg (atOp_at _) fun w1 z2 o1 => ?_
  have z1 : w.heap.size < w1.heap.size := by omega
  rw [finish_fa rfl rfl]
  refine hJ.opf lst rfl rfl (by kernel_rfl) rfl (w' := w1) (v := .bool true) (fun tp => ex_assign rfl ((fa_eval (by decide)).trans rfl)) ?_
  refine hJ.region_end (hJ.seq ?_)
  refine fa_gen (Jf := fun a => CEnds _ _ _ _ _ _ [(bas 11 .normal).at a _] _) fun F hF => ?_
  have f0 : F 0 = .slice a0 l0 c0 := (hF 0).trans rfl
  have f1 : F 1 = .slice a1 l1 c1 := (hF 1).trans rfl
  have f2 : F 2 = .int .i64 cut := (hF 2).trans rfl
  have f3 : F 3 = .slice a3 l3 c3 := (hF 3).trans rfl
  have f4 : F 4 = .slice a4 l4 c4 := (hF 4).trans rfl
  have f11 : F 11 = .bool (decide (l0 ≤ 4096)) := (hF 11).trans rfl
  have f12 : F 12 = .bool (decide (l1 ≤ 4096)) := (hF 12).trans rfl
  have f13 : F 13 = .bool true := (hF 13).trans rfl
  clear hF
  refine hJ.code lst (by kernel_rfl) rfl rfl (by kernel_rfl) (N := fun a' w' => a'.tmps.size = 123 ∧ a'.defers = [] ∧ a'.eval (.tmp 0) = .slice a0 l0 c0 ∧ a'.eval (.tmp 1) = .slice a1 l1 c1 ∧ a'.eval (.tmp 2) = .int .i64 cut ∧ a'.eval (.tmp 3) = .slice a3 l3 c3 ∧ a'.eval (.tmp 4) = .slice a4 l4 c4 ∧ (l0 ≤ 4096 ∧ l1 ≤ 4096 ∧ l4 ≤ 65536 ∧ l3 ≤ 65536) ∧ ∃ tp, w' = Go.Fw.tpd w1 tp) (R := fun a' w' => a'.defers = [] ∧ a'.eval (.tmp 10) = .bool true) (fun tp => ?_) (fun a' w' h => ?_) (fun a' w' td h => law_done Tryz.func11 rfl (by kernel_rfl) h.1 h.2 hpost)
  · rw [fa_lit123, f0, f1, f2, f3, f4, f11, f12, f13]
    dsimp only
    clear f0 f1 f2 f3 f4 f11 f12 f13
    by_cases q0 : l0 ≤ 4096
    · by_cases q1 : l1 ≤ 4096
      · rw [decide_eq_true q0, decide_eq_true q1]
        by_cases q4 : l4 ≤ 65536
        · have q4' : ¬ ((65536 : Int) < (l4 : Int)) := by omega
          by_cases q3 : l3 ≤ 65536
          · have q3' : ¬ ((65536 : Int) < (l3 : Int)) := by omega
            go_wp2
            refine ⟨rfl, rfl, rfl, rfl, rfl, rfl, rfl, ?_⟩
            first | exact ⟨⟨q0, q1, q4, q3⟩, _, rfl⟩ | exact ⟨_, rfl⟩
          · have q3' : ((65536 : Int) < (l3 : Int)) := by omega
            go_wp2
            exact ⟨rfl, rfl⟩
        · have q4' : ((65536 : Int) < (l4 : Int)) := by omega
          go_wp2
          exact ⟨rfl, rfl⟩
      · rw [decide_eq_true q0, decide_eq_false q1]
        go_wp2
        exact ⟨rfl, rfl⟩
    · rw [decide_eq_false q0]
      go_wp2
      exact ⟨rfl, rfl⟩
  obtain ⟨k1, k2, f0, f1, f2, f3, f4, ⟨q0, q1, q4, q3⟩, tp, rfl⟩ := h
  refine hJ.tp _ _ tp ?_
  obtain ⟨F, rfl, hF⟩ := act_fa k1 k2
  rw [hF _ (by decide)] at f0 f1 f2 f3 f4
  clear k1 k2 hF
  have i0 : Bytes w1 a0 old := h0.keep fun a _ hlt => o1 _ hlt
  have i1 : Bytes w1 a1 new := h1.keep fun a _ hlt => o1 _ hlt
  have hg1 : GV w1 := (World.cell?_of_block (w := w) (o1 0 hg.lt)).trans hg
  refine hJ.seq (hJ.region ?_)
  subst e0 e1
  obtain ⟨va, hva⟩ : ∃ va : Value, va = .slice a0 old.length c0 := ⟨_, rfl⟩
  obtain ⟨vb, hvb⟩ : ∃ vb : Value, vb = .slice a1 new.length c1 := ⟨_, rfl⟩
  rw [← hva] at f0
  rw [← hvb] at f1
  refine hJ.opf lst rfl rfl (by kernel_rfl) rfl (w' := w1) (v := va) (fun tp => ex_move rfl ((fa_eval (by decide)).trans f0)) ?_
  refine hJ.opf lst rfl rfl (by kernel_rfl) rfl (w' := w1) (v := vb) (fun tp => ex_move rfl ((fa_eval (by decide)).trans f1)) ?_
  refine hJ.callop rfl (wanted_plain rfl _) rfl (by kernel_rfl) (by kernel_rfl) ?_
  rw [m2 (v := va) (u := vb) ((fa_eval (by decide)).trans rfl) ((fa_eval (by decide)).trans rfl)]
  subst hva hvb
  refine gend_ends i0 i1 q0 q1 (atOp_at _) (fun a e => Nat.lt_trans (b0 a e) z1) (fun a e => Nat.lt_trans (b1 a e) z1) fun p w2 hp _ _ => ?_
  rw [finish_fa rfl rfl]
  refine hJ.opf lst rfl rfl (by kernel_rfl) rfl (w' := w2) (v := .tuple #[p, .bool true]) (fun tp => ex_move rfl ((fa_eval (by decide)).trans rfl)) ?_
  refine hJ.opf lst rfl rfl (by kernel_rfl) rfl (w' := w2) (v := p) (fun tp => ex_extract rfl ((fa_eval (by decide)).trans rfl) rfl) ?_
  refine hJ.opf lst rfl rfl (by kernel_rfl) rfl (w' := w2) (v := .bool true) (fun tp => ex_extract rfl ((fa_eval (by decide)).trans rfl) rfl) ?_
  refine hJ.opf lst rfl rfl (by kernel_rfl) rfl (w' := w2) (v := p) (fun tp => ex_assign rfl ((fa_eval (by decide)).trans rfl)) ?_
  refine hJ.opf lst rfl rfl (by kernel_rfl) rfl (w' := w2) (v := .bool true) (fun tp => ex_assign rfl ((fa_eval (by decide)).trans rfl)) ?_
  refine hJ.region_end ?_
  refine fa_gen (Jf := fun a => CEnds _ _ _ _ _ _ [(bas 11 .normal).at a _] _) fun G hG => ?_
  have g0 : G 0 = .slice a0 old.length c0 := (hG 0).trans f0
  have g2 : G 2 = .int .i64 cut := (hG 2).trans f2
  have g3 : G 3 = .slice a3 l3 c3 := (hG 3).trans f3
  have g4 : G 4 = .slice a4 l4 c4 := (hG 4).trans f4
  have g14 : G 14 = p := (hG 14).trans rfl
  have g15 : G 15 = .bool true := (hG 15).trans rfl
  clear hG f0 f1 f2 f3 f4
  refine hJ.code lst (by kernel_rfl) rfl rfl (by kernel_rfl) (N := fun _ _ => False) (R := fun a' w' => a'.defers = [] ∧ a'.eval (.tmp 10) = .bool true) (fun tp => ?_) (fun _ _ h => h.elim) (fun a' w' td h => law_done Tryz.func11 rfl (by kernel_rfl) h.1 h.2 hpost)
  rw [fa_lit123, g0, g2, g3, g4, g14, g15]
  dsimp only
  have hp2 := hp.tpd tp
  generalize Go.Fw.tpd w2 tp = U at hp2 ⊢
  have hpl := patchG_len old new
  obtain ⟨P, hP⟩ : ∃ P, P = patchG (lgOf old) old new := ⟨_, rfl⟩
  rw [← hP] at hp2 hpl
  obtain ⟨B, n, c, rfl, hl, hc, hcm, hB0, hBb⟩ := hp2.own.slice3
  have hn10 : 10 ≤ n := by omega
  have hn5 : n ≤ 5000 := by omega
  obtain ⟨k, hk, hkn⟩ : ∃ k : Nat, (IntKind.u64.wrap cut).tmod (n : Int) = (k : Int) ∧ k < n := by
    have h0 : 0 ≤ IntKind.u64.wrap cut := by unfold IntKind.wrap; simp [IntKind.signed, IntKind.bits]; omega
    have h1 : 0 ≤ (IntKind.u64.wrap cut).tmod (n : Int) := Int.tmod_nonneg _ h0
    have h2 : (IntKind.u64.wrap cut).tmod (n : Int) < n := Int.tmod_lt_of_pos _ (by omega)
    exact ⟨((IntKind.u64.wrap cut).tmod (n : Int)).toNat, by omega, by omega⟩
  have hwn : IntKind.u64.wrap (n : Int) = (n : Int) := by unfold IntKind.wrap; simp [IntKind.signed, IntKind.bits]; omega
  have hwk : IntKind.i64.wrap (k : Int) = (k : Int) := wrap_i64 k (by omega)
  have hn0 : ((n : Int) == 0) = false := by simp; omega
  have hk1 : (0 : Int) ≤ (k : Int) := by omega
  have hk2 : (k : Int) ≤ (c : Int) := by omega
  clear g0 g2 g3 g4 g14 g15
  have hkU : Kp w U := ⟨by have := hp2.size; omega, fun b hb => (hp2.old b (Nat.lt_trans hb z1)).trans (o1 b hb)⟩
  have hBw : ∀ a, B = some a → a.block ≠ w.heap.size ∧ a.block < U.heap.size := fun a e => ⟨by have := hp2.far _ (hBb a e); omega, hp2.own.lt (hBb a e)⟩
  have hfit : new.length ≤ newPages old 64 * 64 := by rw [newPages64 q0]; omega
  obtain ⟨m1_, m2_, m3_⟩ := nf_short q0 hfit (k := k) (by rw [← hP, hl]; exact hkn)
  rw [← hP] at m1_ m2_ m3_
  have hap : ∀ U1 pf bf, Nf1 w U U1 pf bf (Fl.init old 64) → Calls Tryz.prog 19 #[.pointer (some ⟨pf, 0, none⟩), .slice B k c, .slice a4 l4 c4] U1 fun e V2 => ∃ held be', e = .returned (.tuple #[.int .i64 0, .int .i64 5, .bool held]) ∧ Ap1 w U V2 pf bf be' ((Fl.init old 64).apply (P.take k)).x.f := fun U1 pf bf hf => by
    refine (ap_k hf hkU hg q0 (patch := P.take k) (by simp; omega) (by omega) (by omega) hcm (Bytes.take (hp2.own.bytes rfl) k) hBw (by omega) h4 b4).mono ?_
    rintro e V2 ⟨held, be', rfl, h⟩
    rw [m1_, m2_]
    exact ⟨held, be', rfl, h⟩
  have hrow : ∀ V2 pf bf be' f, Ap1 w U V2 pf bf be' f → Row V2 (.slice B n c) P := fun V2 pf bf be' f h => hp2.own.keepB fun g e hlt => h.keep g hlt fun e' => by
    have := hp2.far _ e; omega
  have hfar : ∀ g, (Value.slice B n c).ownBlock = some g → w.heap.size < g := fun g e => by have := hp2.far _ e; omega
  have HO := Lib.hid h0; have H3 := Lib.hid h3; have H4 := Lib.hid h4; have HG := Lib.hid hg; have HU := Lib.hid hkU
  have HAP := Lib.hid hap; have HROW := Lib.hid hrow; have HFAR := Lib.hid hfar; have HB4 := Lib.hid b4; have HL3 := Lib.hid e3; have HFIT := Lib.hid hfit; have HN0 := Lib.hid n0
  have HM3 := Lib.hid m3_; have HLP := Lib.hid hl; have HPE := Lib.hid hP; have HB0 := Lib.hid hB0; have HBB := Lib.hid hBb
  clear z2 hap hrow hfar h0 h1 h3 h4 hg hkU b0 b1 b3 b4 e3 hfit m1_ m2_ m3_ hP hl hp2 hpl hBw hB0 hBb o1 z1 n0 i0 hg1 hcut
  clear hp hJ hpost i1
  by_cases hl3 : l3 = 0
  · have hl30 : ((l3 : Int) == 0) = true := by simp [hl3]
    clear hl3
    go_wp2_with (first
      | (go_at_call 18; refine (nf_k HU.out HO.out HN0.out q0 64 (by decide)).mono ?_; rintro e U1 ⟨pf, bf, rfl, hf⟩; have HF1 := Lib.hid hf; clear hf)
      | (go_at_call 19; refine (HAP.out U1 pf bf HF1.out).mono ?_; rintro e U2 ⟨held, be', rfl, hf⟩; have HA1 := Lib.hid hf; clear hf)
      | (go_at_call 23; refine (image_no U2 _ pf bf be' _ HA1.out.rep HM3.out).mono ?_; rintro e U2' ⟨rfl, rfl⟩))
    exact ⟨rfl, rfl⟩
  · have hl30 : ((l3 : Int) == 0) = false := by simp [hl3]
    have hmne : more ≠ [] := fun e => hl3 (by rw [← HL3.out, e]; rfl)
    obtain ⟨r1, r2⟩ := nf_more q0 HFIT.out hmne
    rw [← HPE.out] at r1 r2
    have HR1 := Lib.hid r1; have HR2 := Lib.hid r2
    have hq : P.length + l3 ≤ 100000000 := by rw [HLP.out]; omega
    have HQ := Lib.hid hq
    clear r1 r2 hmne hl3 hq
    go_wp2_with (first
      | (go_at_call 18; refine (nf_k HU.out HO.out HN0.out q0 64 (by decide)).mono ?_; rintro e U1 ⟨pf, bf, rfl, hf⟩; have HF1 := Lib.hid hf; clear hf)
      | (go_at_call 19; refine (HAP.out U1 pf bf HF1.out).mono ?_; rintro e U2 ⟨held, be', rfl, hf⟩; have HA1 := Lib.hid hf; clear hf)
      | (go_at_call 23; refine (image_no U2 _ pf bf be' _ HA1.out.rep HM3.out).mono ?_; rintro e U2' ⟨rfl, rfl⟩)
      | (at_builtin; refine wpList_append_all rfl (.tmp 99) (.tmp 100) rfl (.slice B n c) P more a3 l3 c3 rfl (HROW.out _ _ _ _ _ HA1.out) rfl HL3.out (HA1.out.kp.bytes H3.out) HQ.out ?_; intro v3 U3 ha3; obtain ⟨B3, n3, cc3, rfl, hn3, hnc3, hcm3, _, hBb3⟩ := ha3.own.slice3; have HA3 := Lib.hid ha3; have HN3 := Lib.hid hn3; have HC3 := Lib.hid (And.intro hnc3 hcm3); have HB3 := Lib.hid hBb3; clear ha3 hn3 hnc3 hcm3 hBb3)
      | fail)
    have hk3 : Kp w U3 := HA1.out.kp.app HA3.out HFAR.out
    have hB3 : ∀ a, B3 = some a → a.block ≠ w.heap.size ∧ a.block < U3.heap.size := fun a e => by
      have h := HB3.out a e
      refine ⟨fun x => ?_, HA3.out.own.lt h⟩
      rcases HA3.out.wh _ h with y | y
      · have := HFAR.out _ y; omega
      · have := HA1.out.kp.size; omega
    have hn3 : n3 ≤ 1000000 := by have := HN3.out; have := HLP.out; have := HL3.out; rw [List.length_append] at *; omega
    have hap2 : ∀ U4 pf bf, Nf1 w U3 U4 pf bf (Fl.init old 64) → Calls Tryz.prog 19 #[.pointer (some ⟨pf, 0, none⟩), .slice B3 n3 cc3, .slice a4 l4 c4] U4 fun e V2 => ∃ (x : Int) (held : Bool) (be' : Nat), e = .returned (.tuple #[.int .i64 x, .int .i64 6, .bool held]) ∧ Ap1 w U3 V2 pf bf be' ((Fl.init old 64).apply (P ++ more)).x.f := fun U4 pf bf hf => by
      refine (ap_k hf hk3 HG.out q0 (patch := P ++ more) HN3.out hn3 HC3.out.1 HC3.out.2 (HA3.out.own.bytes rfl) hB3 (by omega) H4.out HB4.out).mono ?_
      rintro e V2 ⟨held, be', rfl, h⟩
      rw [HR1.out]
      exact ⟨_, held, be', rfl, h⟩
    have HAP2 := Lib.hid hap2; have HK3 := Lib.hid hk3
    clear hap2 hk3 hB3 hn3
    go_wp2_with (first
      | (go_at_call 18; refine (nf_k HK3.out HO.out HN0.out q0 64 (by decide)).mono ?_; rintro e U4 ⟨pf4, bf4, rfl, hf⟩; have HF4 := Lib.hid hf; clear hf)
      | (go_at_call 19; refine (HAP2.out U4 pf4 bf4 HF4.out).mono ?_; rintro e U5 ⟨x5, held5, be5, rfl, hf⟩; have HA5 := Lib.hid hf; clear hf)
      | (go_at_call 23; refine (image_no U5 _ pf4 bf4 be5 _ HA5.out.rep HR2.out).mono ?_; rintro e U6 ⟨rfl, rfl⟩))
    exact ⟨rfl, rfl⟩
end Go.Proofs.YtkmgcggoemlaaaaGreatDoor
end

section
/- The law Ends of package firmwarelaw returns true for every input: a part of a patch is told to be short; bytes behind its end are told. No condition: any images, any cut, any bytes behind, any pieces. -/
set_option linter.unusedSimpArgs false
set_option linter.unusedVariables false
set_option linter.constructorNameAsVariable false
set_option maxRecDepth 100000
namespace Go.Proofs.YtkmgcggoemlaaaaGreatDoor
open Go Go.Fw Go.Conc Go.RowKit Go.Fwm Go.ChangeShapes Go.WideShapes Go.ChangeAt

theorem ends_lifted (os : Os) (started : os.Started) (H : Type) (enc : TypeId × Value → H) :
    ReturnsInLeavingWide {} Tryz.checked os 11 .any (fun w args => (Rows.endsSpec.pre enc Tryz.prog Tryz.f11 [] false w args ∧ laidMetH Tryz.prog laidL w) ∧ sizedMet enc Tryz.prog Tryz.f11 (OpenSpec.ofChange Rows.endsSpec) false w args)
      (Rows.endsSpec.post enc Tryz.prog Tryz.f11 false true false false) := by
  refine rl_and (C := Tryz.checked) (X := fun w _ => laidMetH Tryz.prog laidL w) (fun _ _ _ hh h => h.of_heap hh) own started Tryz.func11
    (ChangeSpec.witness_at (enc := enc) (C := Tryz.checked) (os := os) (X := fun w _ => laidMetH Tryz.prog laidL w) false (laidWorld os) #[.slice none 0 0, .slice none 0 0, .int .i64 0, .slice none 0 0, .slice none 0 0] 8 rfl (by kernel_rfl) (by kernel_rfl) (by kernel_rfl) (by kernel_rfl) (by kernel_rfl) (laidWorld_met os _)) ?_
  intro W base args ds gs before hval0 hW hL hsh
  have hval : ∀ (j : Nat) t v, Tryz.f11.params[j]? = some t → args[j]? = some v → Value.okWide Tryz.prog W .any base t v := hval0
  have hW' := hW
  obtain ⟨p, q, hA0, hV, rfl, hfz, hnd⟩ := hW
  have hA : DataW.TrodAll enc Tryz.prog W 0 (fun _ => true) true Tryz.f11.params.toList args.toList ds p := hA0
  rw [Tryz.params11] at hA hval
  obtain ⟨v0, vs0, d0, ds0, p0, q0, hargs, rfl, rfl, h0, r0⟩ := trodAll_cons hA
  obtain ⟨v1, vs1, d1, ds1, p1, q1, rfl, rfl, rfl, h1, r1⟩ := trodAll_cons r0
  obtain ⟨v2, vs2, d2, ds2, p2, q2, rfl, rfl, rfl, h2, r2⟩ := trodAll_cons r1
  obtain ⟨v3, vs3, d3, ds3, p3, q3, rfl, rfl, rfl, h3, r3⟩ := trodAll_cons r2
  obtain ⟨v4, vs4, d4, ds4, p4, q4, rfl, rfl, rfl, h4, r4⟩ := trodAll_cons r3
  obtain ⟨rfl, rfl, rfl⟩ := trodAll_nil r4
  obtain rfl : args = #[v0, v1, v2, v3, v4] := by cases args; simp_all
  obtain ⟨rfl, rfl⟩ := trodVars_none hV
  obtain ⟨a0, l0, c0, b0, rfl, s0⟩ := arg22 (hval 0 22 v0 rfl rfl) h0
  obtain ⟨a1, l1, c1, b1, rfl, s1⟩ := arg22 (hval 1 22 v1 rfl rfl) h1
  obtain ⟨n2, rfl, rfl, rfl, w2⟩ := open_int Tryz.underlying3 (hval 2 3 v2 rfl rfl) h2
  obtain ⟨a3, l3, c3, b3, rfl, s3⟩ := arg22 (hval 3 22 v3 rfl rfl) h3
  obtain ⟨a4, l4, c4, rfl, s4⟩ := arg23 (hval 4 23 v4 rfl rfl) h4
  have hlt : ∀ {t : TypeId} {v : Value} {d : DataW H} {ps : List MemPlace}, DataW.Trod enc Tryz.prog W 0 (fun _ => true) true t v d ps → ∀ x ∈ ps, x.block < W.heap.size := fun h => by obtain ⟨m, hm⟩ := h; exact DataW.trod_lt m _ _ _ hm
  have hbl : ∀ x, (∃ c t fr, W.heap[x]? = some (Obj.cells c t fr)) → x < W.heap.size := fun x ⟨c, t, fr, e⟩ => (Array.getElem?_eq_some_iff.1 e).1
  clear hA0 hval0
  refine start_row (handle_of_laid hL) (shaped2 hsh) (by kernel_rfl) (fun i x hx => ?_) fun w hs hg hb hi => ?_
  · rcases i with _ | _ | _ | _ | _ | i
    · simp at hx; subst hx; exact .inr ⟨_, _, _, rfl, s0.cells⟩
    · simp at hx; subst hx; exact .inr ⟨_, _, _, rfl, s1.cells⟩
    · simp at hx; subst hx; exact .inl ⟨_, _, rfl⟩
    · simp at hx; subst hx; exact .inr ⟨_, _, _, rfl, s3.cells⟩
    · simp at hx; subst hx; exact .inr ⟨_, _, _, rfl, s4.cells⟩
    · simp at hx
  · refine ends_priv (W := W) (fun W' bel => ?_) hg (bounds_i64 w2) (hb _ _ s0.bytes) s0.len_ (hb _ _ s1.bytes) s1.len_ (hb _ _ s3.bytes) s3.len_ (hi _ _ s4.ints) s0.nil_ (fun a e => by rw [hs]; exact hbl _ (s0.cells a e)) (fun a e => by rw [hs]; exact hbl _ (s1.cells a e)) (fun a e => by rw [hs]; exact hbl _ (s3.cells a e)) (fun a e => by rw [hs]; exact hbl _ (s4.cells a e))
    exact ⟨_, _, _, [], _, [], hW', trodAll_mk1 (shut_bool Tryz.underlying4 _), (trodAll_cons_mk (Below.trod laidOut (by kernel_rfl) (of_decide_eq_true (by kernel_rfl)) h0 bel (hlt h0)) (trodAll_cons_mk (Below.trod laidOut (by kernel_rfl) (of_decide_eq_true (by kernel_rfl)) h1 bel (hlt h1)) (trodAll_cons_mk (shut_int Tryz.underlying3 w2) (trodAll_cons_mk (Below.trod laidOut (by kernel_rfl) (of_decide_eq_true (by kernel_rfl)) h3 bel (hlt h3)) (trodAll_cons_mk (Below.trod laidOut (by kernel_rfl) (of_decide_eq_true (by kernel_rfl)) h4 bel (hlt h4)) trodAll_mk0))))), rfl, bel.frame _, fun h => by cases h⟩

theorem ends_row : Rows.EndsSaid :=
  OpenClaim.holds_of_wide_leaving 11 Tryz.f11 rfl rfl rfl rfl rfl rfl rfl ⟨rfl, rfl, rfl, rfl, rfl⟩ rfl rfl rfl rfl rfl (by kernel_rfl) Tryz.func11 (by kernel_rfl)
    (of_decide_eq_true (by kernel_rfl)) (by unfold Func.isWrapper; first | (rw [if_pos (by decide +kernel)]; kernel_rfl) | (rw [if_neg (by decide +kernel)]; exact ⟨rfl, rfl⟩))
    (fun os started H enc _ => ends_lifted os started H enc)
theorem ends_card : Rows.EndsCardSaid :=
  card_goes .later [.handle] true (true, "a92912a9f4f08fbf195758ad90ff77dd450bbb634acd63370d8d1a8325452fc3") true true
    ends_row (by kernel_rfl) ends_row_tie rfl ⟨rfl, rfl⟩ (by kernel_rfl) rfl
    (fun f fn hf hfn => by
      obtain rfl : f = 11 := Option.some.inj ((show Tryz.prog.funcNamed Rows.endsRow.func = some 11 by kernel_rfl).symm.trans hf) |>.symm
      obtain rfl : fn = Tryz.f11 := (Option.some.inj (Tryz.func11.symm.trans hfn)).symm
      exact ⟨by kernel_rfl, fun j t ht => by
        have h3 : t ∈ [3, 22, 23] := by
          rw [Tryz.params11] at ht
          rcases j with _ | _ | _ | _ | _ | j <;> simp at ht <;> subst ht <;> decide
        have h4 : [3, 22, 23].all (fun t => Tryz.prog.wantsStandIn t == false) = true := by kernel_rfl
        exact beq_iff_eq.1 (List.all_eq_true.1 h4 t h3)⟩)
    (by kernel_rfl)
#print axioms ends_card
end Go.Proofs.YtkmgcggoemlaaaaGreatDoor
end
