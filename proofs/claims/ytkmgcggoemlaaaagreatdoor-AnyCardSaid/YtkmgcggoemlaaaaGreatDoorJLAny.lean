/-
  The law Any of package firmwarelaw returns true for every input: any bytes end; what is not right is told and not committed, however it is cut.
  No condition: any image, any bytes, any size, any pieces.
-/
import Derived.Test.YtkmgcggoemlaaaaGreatDoorJ25
import Derived.Test.YtkmgcggoemlaaaaGreatDoorCards
import Derived.Test.YtkmgcggoemlaaaaGreatDoorTie

section
/- The law Any, in a private world. No condition. -/
set_option linter.unusedSimpArgs false
set_option linter.unusedVariables false
set_option linter.constructorNameAsVariable false
namespace Go.Proofs.YtkmgcggoemlaaaaGreatDoor
open Go Go.Fw Go.Conc Go.RowKit Go.Fwm

theorem fa_lit122 (f : Nat → Value) (D : List Deferred) : fa 122 f D = ⟨#[f 0, f 1, f 2, f 3, f 4, f 5, f 6, f 7, f 8, f 9, f 10, f 11, f 12, f 13, f 14, f 15, f 16, f 17, f 18, f 19, f 20, f 21, f 22, f 23, f 24, f 25, f 26, f 27, f 28, f 29, f 30, f 31, f 32, f 33, f 34, f 35, f 36, f 37, f 38, f 39, f 40, f 41, f 42, f 43, f 44, f 45, f 46, f 47, f 48, f 49, f 50, f 51, f 52, f 53, f 54, f 55, f 56, f 57, f 58, f 59, f 60, f 61, f 62, f 63, f 64, f 65, f 66, f 67, f 68, f 69, f 70, f 71, f 72, f 73, f 74, f 75, f 76, f 77, f 78, f 79, f 80, f 81, f 82, f 83, f 84, f 85, f 86, f 87, f 88, f 89, f 90, f 91, f 92, f 93, f 94, f 95, f 96, f 97, f 98, f 99, f 100, f 101, f 102, f 103, f 104, f 105, f 106, f 107, f 108, f 109, f 110, f 111, f 112, f 113, f 114, f 115, f 116, f 117, f 118, f 119, f 120, f 121], D⟩ := by kernel_rfl

set_option maxRecDepth 100000 in
set_option maxHeartbeats 8000000 in
theorem any_priv {W w : World} {Post : Value → World → Prop} (hpost : ∀ W', Below W.heap.size W W' → Post (.bool true) W') (hg : GV w)
    {a0 a1 a3 a4 : Option Addr} {l0 c0 l1 c1 l3 c3 l4 c4 : Nat} {pages : Int} {old bytes : List UInt8} (hpg : -9223372036854775808 ≤ pages ∧ pages ≤ 9223372036854775807)
    (h0 : Bytes w a0 old) (e0 : old.length = l0) (h1 : Bytes w a1 bytes) (e1 : bytes.length = l1) (lc1 : l1 ≤ c1) (cm1 : c1 ≤ maxLen) (h3 : Ints w a3 l3) (h4 : Ints w a4 l4) (n0 : a0 = none → c0 = 0)
    (b0 : ∀ a, a0 = some a → a.block < w.heap.size) (b1 : ∀ a, a1 = some a → a.block < w.heap.size) (b3 : ∀ a, a3 = some a → a.block < w.heap.size) (b4 : ∀ a, a4 = some a → a.block < w.heap.size) :
    CEnds Tryz.prog FN W.heap.size W Post [] [Frame.enter Tryz.prog 8 #[.slice a0 l0 c0, .slice a1 l1 c1, .int .i64 pages, .slice a3 l3 c3, .slice a4 l4 c4] .normal] w := by
  have hJ := cEnds_clo (P := Tryz.prog) (FN := FN) (N0 := W.heap.size) (W0 := W) (Post := Post) (Ch := [])
  rw [enter_fa _ _ 122 Tryz.func8 rfl rfl (by simp)]
  refine hJ.seq (hJ.region ?_)
  refine hJ.opf lst rfl rfl (by kernel_rfl) rfl (w' := w) (fun tp => ex_assign (x := .const (.bool false)) rfl rfl) ?_
  refine hJ.region_end (hJ.seq (hJ.region ?_))
  refine hJ.opf lst rfl rfl (by kernel_rfl) rfl (w' := w) (v := .slice a0 l0 c0) (fun tp => ex_move rfl ((fa_eval (by decide)).trans rfl)) ?_
  refine hJ.callf lst rfl rfl rfl (by kernel_rfl) (by kernel_rfl) (by kernel_rfl) rfl _ (m1 ((fa_eval (by decide)).trans rfl)) (R := fun v w' => v = .bool (decide (l0 ≤ 4096)) ∧ ∃ tp, w' = Go.Fw.tpd w tp) (fun tp => (image14 _ a0 l0 c0).mono fun e w' ⟨q1, q2⟩ => ⟨_, q1, rfl, tp, q2⟩) ?_
  rintro v w' ⟨rfl, tp, rfl⟩
  refine hJ.tp _ _ tp ?_
  refine hJ.opf lst rfl rfl (by kernel_rfl) rfl (w' := w) (v := .bool (decide (l0 ≤ 4096))) (fun tp => ex_assign rfl ((fa_eval (by decide)).trans rfl)) ?_
  refine hJ.region_end (hJ.seq (hJ.region ?_))
  refine hJ.callop rfl (wanted_plain rfl _) rfl (by kernel_rfl) (by kernel_rfl) ?_
  rw [Array.map_empty]
  refine works_ends hg (atOp_at _) fun w1 z1 o1 => ?_
  rw [finish_fa rfl rfl]
  refine hJ.opf lst rfl rfl (by kernel_rfl) rfl (w' := w1) (v := .bool true) (fun tp => ex_assign rfl ((fa_eval (by decide)).trans rfl)) ?_
  refine hJ.region_end (hJ.seq ?_)
  refine fa_gen (Jf := fun a => CEnds _ _ _ _ _ _ [(bas 8 .normal).at a _] _) fun F hF => ?_
  have f0 : F 0 = .slice a0 l0 c0 := (hF 0).trans rfl
  have f1 : F 1 = .slice a1 l1 c1 := (hF 1).trans rfl
  have f2 : F 2 = .int .i64 pages := (hF 2).trans rfl
  have f3 : F 3 = .slice a3 l3 c3 := (hF 3).trans rfl
  have f4 : F 4 = .slice a4 l4 c4 := (hF 4).trans rfl
  have f11 : F 11 = .bool (decide (l0 ≤ 4096)) := (hF 11).trans rfl
  have f12 : F 12 = .bool true := (hF 12).trans rfl
  clear hF
  refine hJ.code lst (by kernel_rfl) rfl rfl (by kernel_rfl) (N := fun a' w' => a'.tmps.size = 122 ∧ a'.defers = [] ∧ a'.eval (.tmp 0) = .slice a0 l0 c0 ∧ a'.eval (.tmp 1) = .slice a1 l1 c1 ∧ a'.eval (.tmp 2) = .int .i64 pages ∧ a'.eval (.tmp 3) = .slice a3 l3 c3 ∧ a'.eval (.tmp 4) = .slice a4 l4 c4 ∧ (l0 ≤ 4096 ∧ l1 ≤ 65536 ∧ l3 ≤ 65536 ∧ l4 ≤ 65536) ∧ ∃ tp, w' = Go.Fw.tpd w1 tp) (R := fun a' w' => a'.defers = [] ∧ a'.eval (.tmp 10) = .bool true) (fun tp => ?_) (fun a' w' h => ?_) (fun a' w' td h => law_done Tryz.func8 rfl (by kernel_rfl) h.1 h.2 hpost)
  · rw [fa_lit122, f0, f1, f2, f3, f4, f11, f12]
    dsimp only
    clear f0 f1 f2 f3 f4 f11 f12
    by_cases q0 : l0 ≤ 4096
    · rw [decide_eq_true q0]
      by_cases q1 : l1 ≤ 65536
      · have q1' : ¬ ((65536 : Int) < (l1 : Int)) := by omega
        by_cases q3 : l3 ≤ 65536
        · have q3' : ¬ ((65536 : Int) < (l3 : Int)) := by omega
          by_cases q4 : l4 ≤ 65536
          · have q4' : ¬ ((65536 : Int) < (l4 : Int)) := by omega
            go_wp2
            refine ⟨rfl, rfl, rfl, rfl, rfl, rfl, rfl, ?_⟩
            first | exact ⟨⟨q0, q1, q3, q4⟩, _, rfl⟩ | exact ⟨_, rfl⟩
          · have q4' : ((65536 : Int) < (l4 : Int)) := by omega
            go_wp2
            exact ⟨rfl, rfl⟩
        · have q3' : ((65536 : Int) < (l3 : Int)) := by omega
          go_wp2
          exact ⟨rfl, rfl⟩
      · have q1' : ((65536 : Int) < (l1 : Int)) := by omega
        go_wp2
        exact ⟨rfl, rfl⟩
    · rw [decide_eq_false q0]
      go_wp2
      exact ⟨rfl, rfl⟩
  obtain ⟨k1, k2, f0, f1, f2, f3, f4, ⟨q0, q1, q3, q4⟩, tp, rfl⟩ := h
  obtain ⟨F, rfl, hF⟩ := act_fa k1 k2
  rw [hF _ (by decide)] at f0 f1 f2 f3 f4
  clear k1 k2 hF
  refine hJ.code lst (by kernel_rfl) rfl rfl (by kernel_rfl) (N := fun _ _ => False) (R := fun a' w' => a'.defers = [] ∧ a'.eval (.tmp 10) = .bool true) (fun tp2 => ?_) (fun _ _ h => h.elim) (fun a' w' td h => law_done Tryz.func8 rfl (by kernel_rfl) h.1 h.2 hpost)
  rw [fa_lit122, f0, f1, f2, f3, f4]
  dsimp only
  subst e0 e1
  have hkU : Kp w (Go.Fw.tpd (Go.Fw.tpd w1 tp) tp2) := ⟨by show _ < w1.heap.size; omega, o1⟩
  have hsU : w.heap.size + 2 < (Go.Fw.tpd (Go.Fw.tpd w1 tp) tp2).heap.size := z1
  generalize Go.Fw.tpd (Go.Fw.tpd w1 tp) tp2 = U at hkU hsU ⊢
  clear f0 f1 f2 f3 f4 hJ hpost
  obtain ⟨M, hM⟩ : ∃ M, M = ((Fl.init old pages).apply bytes).fault.num := ⟨_, rfl⟩
  obtain ⟨K, hK⟩ : ∃ K, K = (AF.feed ⟨Ap.init, Fl.init old pages⟩ bytes).a.fault.num := ⟨_, rfl⟩
  have hany := apply_any (Fl.init old pages) q0 (by rw [init_pages]; exact newPages_le old q0 pages) bytes
  obtain ⟨f', hf'⟩ : ∃ f', f' = ((Fl.init old pages).apply bytes).x.f := ⟨_, rfl⟩
  have hold' : f'.old = old := by rw [hf']; exact hany.old
  have hnum : (M = 0 ∧ f'.committed = true) ∨ ((M = 2 ∨ M = 3 ∨ M = 4 ∨ M = 5 ∨ M = 6) ∧ f'.committed = false) := by
    rcases hany.num with ⟨x, y⟩ | ⟨x, y⟩
    · exact .inl ⟨by rw [hM, x]; rfl, by rw [hf']; exact y⟩
    · refine .inr ⟨?_, by rw [hf', y]; rfl⟩
      rw [hM]
      rcases x with x | x | x | x | x | ⟨_, x⟩
      · exact .inl x
      · exact .inr (.inl x)
      · exact .inr (.inr (.inl x))
      · exact .inr (.inr (.inr (.inl x)))
      · exact .inr (.inr (.inr (.inr x)))
      · exact absurd x (by show ¬ (0 : Int) ≤ -1; decide)
  clear hany
  have hap : ∀ x V V1 pf bf (C : Option Addr) (m d : Nat), GV x → Bytes x a1 bytes → (∀ a, a1 = some a → a.block < x.heap.size) → Kp x V → Nf1 x V V1 pf bf (Fl.init old pages) → m ≤ 1000000 → Ints x C m → (∀ a, C = some a → a.block < x.heap.size) → Calls Tryz.prog 19 #[.pointer (some ⟨pf, 0, none⟩), .slice a1 bytes.length c1, .slice C m d] V1 fun e V2 => ∃ held be', e = .returned (.tuple #[.int .i64 (K : Int), .int .i64 (M : Int), .bool held]) ∧ Ap1 x V V2 pf bf be' f' := fun x V V1 pf bf C m d hgx hx hbx hk hf hm hy hC => by
    have := ap_k hf hk hgx q0 (B := a1) (c := c1) rfl (by omega) lc1 cm1 (hk.bytes hx) (fun a e => by have := hbx a e; have := hk.size; omega) (C := C) (m := m) (d := d) hm hy hC
    rw [← hM, ← hK, ← hf'] at this
    exact this
  have hsm : ∀ W W' A B ca cb zs n, zs.length = n → n ≤ 4096 → Bytes W A zs → Bytes W B zs → (∃ k, W' = W.drewN k) → Calls Tryz.prog 21 #[.slice A n ca, .slice B n cb] W' fun e w' => e = .returned (.bool true) ∧ ∃ k, w' = W.drewN k := fun W W' A B ca cb zs n hn hz h1 h2 ⟨k, hk⟩ => by
    subst hk
    refine (same_eq (W.drewN k) A B ca cb n zs hn (by simp only [maxLen]; omega) h1 h2).mono ?_
    rintro e w' ⟨rfl, j, rfl⟩
    exact ⟨rfl, k + j, drewN_add _ _ _⟩
  have hup : ∀ U2 pf bf be', Ap1 w U U2 pf bf be' f' → ∃ wg : World, wg.heap.size = w.heap.size + 1 ∧ Kp wg U2 ∧ GV wg ∧ Bytes wg a0 old ∧ Bytes wg a1 bytes ∧ Ints wg a4 l4 := fun U2 pf bf be' h => by
    obtain ⟨wg, g1, g2, g3⟩ := h.kp.up (Nat.lt_of_lt_of_le hsU h.size)
    exact ⟨wg, g1, g2, (World.cell?_of_block (w := w) (g3 0 hg.lt)).trans hg, h0.keep fun a _ hlt => g3 _ hlt, h1.keep fun a _ hlt => g3 _ hlt, h4.keep fun a _ hlt => g3 _ hlt⟩
  have hfirst : ∀ U2 U4 wg pf bf be' pf2 bf2 be2, Ap1 w U U2 pf bf be' f' → wg.heap.size = w.heap.size + 1 → Ap1 wg U2 U4 pf2 bf2 be2 f' → FRep U4 (fun b => b = w.heap.size + 1) pf bf be' f' := fun U2 U4 wg pf bf be' pf2 bf2 be2 h g k => by
    refine h.rep.only k.only fun b x hb => ⟨by omega, ?_, ?_, ?_⟩
    · have := h.pf_; omega
    · have := h.bf_; omega
    · have := h.be_; omega
  have hoo : ∀ V pf bf be' X, FRep V X pf bf be' f' → Calls Tryz.prog 24 #[.pointer (some ⟨pf, 0, none⟩)] V fun e w' => ∃ A c, e = .returned (.slice A old.length c) ∧ Bytes w' A old ∧ Below V.heap.size V w' := fun V pf bf be' X h => by
    have := old_ok V X pf bf be' f' h
    rw [hold'] at this
    exact this.mono fun e w' ⟨A, c, k1, k2, k3⟩ => ⟨A, c, k1, k2.bytes, k3⟩
  have HOO := Lib.hid hoo; clear hoo
  have HAP := Lib.hid hap; have HSM := Lib.hid hsm; have HUP := Lib.hid hup; have HFI := Lib.hid hfirst; have HU := Lib.hid hkU; have HG := Lib.hid hg
  have H0 := Lib.hid h0; have H1 := Lib.hid h1; have H3 := Lib.hid h3; have H4 := Lib.hid h4; have HN0 := Lib.hid n0; have HB1 := Lib.hid b1; have HB3 := Lib.hid b3; have HB4 := Lib.hid b4; have HPG := Lib.hid hpg; have HQ := Lib.hid q0
  have HOLD := Lib.hid hold'; have HM := Lib.hid hM; have HK := Lib.hid hK; have HF := Lib.hid hf'
  clear hap hsm hup hfirst hkU hg h0 h1 h3 h4 n0 b0 b1 b3 b4 hpg hold' hM hK hf' o1 z1 hsU lc1 cm1
  rcases hnum with ⟨hm, hc⟩ | ⟨hm, hc⟩
  · subst hm
    obtain ⟨L, hL⟩ : ∃ L, L = f'.length := ⟨_, rfl⟩
    obtain ⟨img, himg⟩ : ∃ img, img = f'.fresh.take f'.length := ⟨_, rfl⟩
    have him : ∀ V pf bf be' X, FRep V X pf bf be' f' → Calls Tryz.prog 23 #[.pointer (some ⟨pf, 0, none⟩)] V fun e w' => ∃ A c, e = .returned (.tuple #[.slice A L c, .bool true]) ∧ (Bytes w' A img ∧ img.length = L ∧ L ≤ 4096) ∧ Below V.heap.size V w' := fun V pf bf be' X h => by
      have := image_yes V X pf bf be' f' h hc
      rw [← himg, ← hL] at this
      exact this.mono fun e w' ⟨A, c, k1, k2, k3⟩ => ⟨A, c, k1, ⟨k2.bytes, k2.len, by have := h.len_le; have := h.fresh_le; omega⟩, k3⟩
    have HIM := Lib.hid him
    clear him hc hL himg
    go_wp2_with (first
      | (go_at_call 18; refine (nf_k HU.out H0.out HN0.out HQ.out pages HPG.out).mono ?_; rintro e U1 ⟨pf, bf, rfl, hf⟩; have HF1 := Lib.hid hf; clear hf)
      | (go_at_call 19; refine (HAP.out w U U1 pf bf a3 l3 c3 HG.out H1.out HB1.out HU.out HF1.out (by omega) H3.out HB3.out).mono ?_; rintro e U2 ⟨held, be', rfl, hf⟩; have HA1 := Lib.hid hf; clear hf))
    obtain ⟨wg, g1, g2, g3, g4, g5, g6⟩ := HUP.out U2 pf bf be' HA1.out
    have hb1 : ∀ a, a1 = some a → a.block < wg.heap.size := fun a e => by have := HB1.out a e; omega
    have hb4 : ∀ a, a4 = some a → a.block < wg.heap.size := fun a e => by have := HB4.out a e; omega
    have G1 := Lib.hid g1; have G2 := Lib.hid g2; have G3 := Lib.hid g3; have G4 := Lib.hid g4; have G5 := Lib.hid g5; have G6 := Lib.hid g6; have HB1G := Lib.hid hb1; have HB4G := Lib.hid hb4
    clear g1 g2 g3 g4 g5 g6 hb1 hb4
    go_wp2_with (first
      | (go_at_call 18; refine (nf_k G2.out G4.out HN0.out HQ.out pages HPG.out).mono ?_; rintro e U3 ⟨pf2, bf2, rfl, hf⟩; have HF2 := Lib.hid hf; clear hf)
      | (go_at_call 19; refine (HAP.out wg U2 U3 pf2 bf2 a4 l4 c4 G3.out G5.out HB1G.out G2.out HF2.out (by omega) G6.out HB4G.out).mono ?_; rintro e U4 ⟨held2, be2, rfl, hf⟩; have HA2 := Lib.hid hf; clear hf)
      | (go_at_call_of 23 (Value.pointer (some ⟨pf, 0, none⟩)); refine (HIM.out U4 pf bf be' _ (HFI.out _ _ _ _ _ _ _ _ _ HA1.out G1.out HA2.out)).mono ?_; rintro e U5 ⟨A5, cc5, rfl, hby, hbl⟩; have HB5 := Lib.hid (And.intro hby hbl); clear hby hbl)
      | (go_at_call_of 23 (Value.pointer (some ⟨pf2, 0, none⟩)); refine (HIM.out U5 pf2 bf2 be2 _ (HA2.out.rep.only (F := fun _ => False) (Only.below HB5.out.2) fun b x => x.elim)).mono ?_; rintro e U6 ⟨A6, cc6, rfl, hby, hbl⟩; have HB6 := Lib.hid (And.intro hby hbl); clear hby hbl)
      | (go_at_call 21; fail))
    refine (HSM.out U6 U6 A5 A6 cc5 cc6 img L HB6.out.1.2.1 HB6.out.1.2.2 (HB5.out.1.1.keep fun a _ hlt => HB6.out.2.block _ hlt) HB6.out.1.1 ⟨0, rfl⟩).mono ?_
    rintro e w7 ⟨rfl, k7, rfl⟩
    go_wp2_with (first
      | (go_at_call 24; refine (HOO.out _ pf bf be' _ ((HFI.out _ _ _ _ _ _ _ _ _ HA1.out G1.out HA2.out).only (F := fun _ => False) (((Only.below HB5.out.2).trans (F' := fun _ => False) (Only.below HB6.out.2) (fun _ _ x => x.elim)).drewN k7) fun b x => x.elim)).mono ?_; rintro e U8 ⟨A8, cc8, rfl, hby, hbl⟩; have HB8 := Lib.hid (And.intro hby hbl); clear hby hbl)
      | (go_at_call 21; fail))
    have hold8 : Bytes U8 a0 old := ((((HA2.out.kp.bytes G4.out).keep fun a _ hlt => HB5.out.2.block _ hlt).keep fun a _ hlt => HB6.out.2.block _ hlt).keep (w' := U8) fun a _ hlt => HB8.out.2.block _ hlt)
    refine (HSM.out U8 U8 A8 a0 cc8 c0 old old.length rfl HQ.out HB8.out.1 hold8 ⟨0, rfl⟩).mono ?_
    rintro e w9 ⟨rfl, k9, rfl⟩
    clear hold8
    go_wp2
    exact ⟨rfl, rfl⟩
  · have hmne : ((M : Int) == 0) = false := by simp; omega
    have HW := Lib.hid (fun V => wrong29 V M hm)
    have HC := Lib.hid hc
    clear hm hc
    go_wp2_with (first
      | (go_at_call 29; refine (HW.out _).mono ?_; rintro e wz ⟨rfl, rfl⟩)
      | (go_at_call 18; refine (nf_k HU.out H0.out HN0.out HQ.out pages HPG.out).mono ?_; rintro e U1 ⟨pf, bf, rfl, hf⟩; have HF1 := Lib.hid hf; clear hf)
      | (go_at_call 19; refine (HAP.out w U U1 pf bf a3 l3 c3 HG.out H1.out HB1.out HU.out HF1.out (by omega) H3.out HB3.out).mono ?_; rintro e U2 ⟨held, be', rfl, hf⟩; have HA1 := Lib.hid hf; clear hf))
    obtain ⟨wg, g1, g2, g3, g4, g5, g6⟩ := HUP.out U2 pf bf be' HA1.out
    have hb1 : ∀ a, a1 = some a → a.block < wg.heap.size := fun a e => by have := HB1.out a e; omega
    have hb4 : ∀ a, a4 = some a → a.block < wg.heap.size := fun a e => by have := HB4.out a e; omega
    have G1 := Lib.hid g1; have G2 := Lib.hid g2; have G3 := Lib.hid g3; have G4 := Lib.hid g4; have G5 := Lib.hid g5; have G6 := Lib.hid g6; have HB1G := Lib.hid hb1; have HB4G := Lib.hid hb4
    clear g1 g2 g3 g4 g5 g6 hb1 hb4
    go_wp2_with (first
      | (go_at_call 29; refine (HW.out _).mono ?_; rintro e wz ⟨rfl, rfl⟩)
      | (go_at_call 18; refine (nf_k G2.out G4.out HN0.out HQ.out pages HPG.out).mono ?_; rintro e U3 ⟨pf2, bf2, rfl, hf⟩; have HF2 := Lib.hid hf; clear hf)
      | (go_at_call 19; refine (HAP.out wg U2 U3 pf2 bf2 a4 l4 c4 G3.out G5.out HB1G.out G2.out HF2.out (by omega) G6.out HB4G.out).mono ?_; rintro e U4 ⟨held2, be2, rfl, hf⟩; have HA2 := Lib.hid hf; clear hf)
      | (go_at_call_of 23 (Value.pointer (some ⟨pf, 0, none⟩)); refine (image_no U4 _ pf bf be' f' (HFI.out _ _ _ _ _ _ _ _ _ HA1.out G1.out HA2.out) HC.out).mono ?_; rintro e U4' ⟨rfl, rfl⟩)
      | (go_at_call_of 23 (Value.pointer (some ⟨pf2, 0, none⟩)); refine (image_no U4 _ pf2 bf2 be2 f' HA2.out.rep HC.out).mono ?_; rintro e U4' ⟨rfl, rfl⟩)
      | (go_at_call 21; fail))
    refine (HSM.out U4 U4 none none 0 0 [] 0 rfl (by omega) (Bytes.nil _ _) (Bytes.nil _ _) ⟨0, rfl⟩).mono ?_
    rintro e w5 ⟨rfl, k5, rfl⟩
    go_wp2_with (first
      | (go_at_call 24; refine (HOO.out _ pf bf be' _ ((HFI.out _ _ _ _ _ _ _ _ _ HA1.out G1.out HA2.out).only (F := fun _ => False) ((Only.refl _ _).drewN k5) fun b x => x.elim)).mono ?_; rintro e U6 ⟨A3, cc3, rfl, hby, hbl⟩; have HB6 := Lib.hid (And.intro hby hbl); clear hby hbl)
      | (go_at_call 21; fail))
    refine (HSM.out U6 U6 A3 a0 cc3 c0 old old.length rfl HQ.out HB6.out.1 ((HA2.out.kp.bytes G4.out).keep fun a _ hlt => HB6.out.2.block _ hlt) ⟨0, rfl⟩).mono ?_
    rintro e w7 ⟨rfl, k7, rfl⟩
    go_wp2_with (first
      | (go_at_call 29; refine (HW.out _).mono ?_; rintro e wz ⟨rfl, rfl⟩))
    exact ⟨rfl, rfl⟩
end Go.Proofs.YtkmgcggoemlaaaaGreatDoor
end

section
/- The law Any of package firmwarelaw returns true for every input: any bytes end; what is not right is told and not committed, however it is cut. No condition: any image, any bytes, any size, any pieces. -/
set_option linter.unusedSimpArgs false
set_option linter.unusedVariables false
set_option linter.constructorNameAsVariable false
set_option maxRecDepth 100000
namespace Go.Proofs.YtkmgcggoemlaaaaGreatDoor
open Go Go.Fw Go.Conc Go.RowKit Go.Fwm Go.ChangeShapes Go.WideShapes Go.ChangeAt

theorem any_lifted (os : Os) (started : os.Started) (H : Type) (enc : TypeId × Value → H) :
    ReturnsInLeavingWide {} Tryz.checked os 8 .any (fun w args => (Rows.anySpec.pre enc Tryz.prog Tryz.f8 [] false w args ∧ laidMetH Tryz.prog laidL w) ∧ sizedMet enc Tryz.prog Tryz.f8 (OpenSpec.ofChange Rows.anySpec) false w args)
      (Rows.anySpec.post enc Tryz.prog Tryz.f8 false true false false) := by
  refine rl_and (C := Tryz.checked) (X := fun w _ => laidMetH Tryz.prog laidL w) (fun _ _ _ hh h => h.of_heap hh) own started Tryz.func8
    (ChangeSpec.witness_at (enc := enc) (C := Tryz.checked) (os := os) (X := fun w _ => laidMetH Tryz.prog laidL w) false (laidWorld os) #[.slice none 0 0, .slice none 0 0, .int .i64 0, .slice none 0 0, .slice none 0 0] 8 rfl (by kernel_rfl) (by kernel_rfl) (by kernel_rfl) (by kernel_rfl) (by kernel_rfl) (laidWorld_met os _)) ?_
  intro W base args ds gs before hval0 hW hL hsh
  have hval : ∀ (j : Nat) t v, Tryz.f8.params[j]? = some t → args[j]? = some v → Value.okWide Tryz.prog W .any base t v := hval0
  have hW' := hW
  obtain ⟨p, q, hA0, hV, rfl, hfz, hnd⟩ := hW
  have hA : DataW.TrodAll enc Tryz.prog W 0 (fun _ => true) true Tryz.f8.params.toList args.toList ds p := hA0
  rw [Tryz.params8] at hA hval
  obtain ⟨v0, vs0, d0, ds0, p0, q0, hargs, rfl, rfl, h0, r0⟩ := trodAll_cons hA
  obtain ⟨v1, vs1, d1, ds1, p1, q1, rfl, rfl, rfl, h1, r1⟩ := trodAll_cons r0
  obtain ⟨v2, vs2, d2, ds2, p2, q2, rfl, rfl, rfl, h2, r2⟩ := trodAll_cons r1
  obtain ⟨v3, vs3, d3, ds3, p3, q3, rfl, rfl, rfl, h3, r3⟩ := trodAll_cons r2
  obtain ⟨v4, vs4, d4, ds4, p4, q4, rfl, rfl, rfl, h4, r4⟩ := trodAll_cons r3
  obtain ⟨rfl, rfl, rfl⟩ := trodAll_nil r4
  obtain rfl : args = #[v0, v1, v2, v3, v4] := by cases args; simp_all
  obtain ⟨rfl, rfl⟩ := trodVars_none hV
  obtain ⟨a0, l0, c0, b0, rfl, s0⟩ := arg22 (hval 0 22 v0 rfl rfl) h0
  obtain ⟨a1, l1, c1, b1, rfl, s1⟩ := arg22 (hval 1 22 v1 rfl rfl) h1
  obtain ⟨n2, rfl, rfl, rfl, w2⟩ := open_int Tryz.underlying3 (hval 2 3 v2 rfl rfl) h2
  obtain ⟨a3, l3, c3, rfl, s3⟩ := arg23 (hval 3 23 v3 rfl rfl) h3
  obtain ⟨a4, l4, c4, rfl, s4⟩ := arg23 (hval 4 23 v4 rfl rfl) h4
  have hlt : ∀ {t : TypeId} {v : Value} {d : DataW H} {ps : List MemPlace}, DataW.Trod enc Tryz.prog W 0 (fun _ => true) true t v d ps → ∀ x ∈ ps, x.block < W.heap.size := fun h => by obtain ⟨m, hm⟩ := h; exact DataW.trod_lt m _ _ _ hm
  have hbl : ∀ x, (∃ c t fr, W.heap[x]? = some (Obj.cells c t fr)) → x < W.heap.size := fun x ⟨c, t, fr, e⟩ => (Array.getElem?_eq_some_iff.1 e).1
  clear hA0 hval0
  refine start_row (handle_of_laid hL) (shaped2 hsh) (by kernel_rfl) (fun i x hx => ?_) fun w hs hg hb hi => ?_
  · rcases i with _ | _ | _ | _ | _ | i
    · simp at hx; subst hx; exact .inr ⟨_, _, _, rfl, s0.cells⟩
    · simp at hx; subst hx; exact .inr ⟨_, _, _, rfl, s1.cells⟩
    · simp at hx; subst hx; exact .inl ⟨_, _, rfl⟩
    · simp at hx; subst hx; exact .inr ⟨_, _, _, rfl, s3.cells⟩
    · simp at hx; subst hx; exact .inr ⟨_, _, _, rfl, s4.cells⟩
    · simp at hx
  · refine any_priv (W := W) (fun W' bel => ?_) hg (bounds_i64 w2) (hb _ _ s0.bytes) s0.len_ (hb _ _ s1.bytes) s1.len_ s1.le s1.cap_le (hi _ _ s3.ints) (hi _ _ s4.ints) s0.nil_ (fun a e => by rw [hs]; exact hbl _ (s0.cells a e)) (fun a e => by rw [hs]; exact hbl _ (s1.cells a e)) (fun a e => by rw [hs]; exact hbl _ (s3.cells a e)) (fun a e => by rw [hs]; exact hbl _ (s4.cells a e))
    exact ⟨_, _, _, [], _, [], hW', trodAll_mk1 (shut_bool Tryz.underlying4 _), (trodAll_cons_mk (Below.trod laidOut (by kernel_rfl) (of_decide_eq_true (by kernel_rfl)) h0 bel (hlt h0)) (trodAll_cons_mk (Below.trod laidOut (by kernel_rfl) (of_decide_eq_true (by kernel_rfl)) h1 bel (hlt h1)) (trodAll_cons_mk (shut_int Tryz.underlying3 w2) (trodAll_cons_mk (Below.trod laidOut (by kernel_rfl) (of_decide_eq_true (by kernel_rfl)) h3 bel (hlt h3)) (trodAll_cons_mk (Below.trod laidOut (by kernel_rfl) (of_decide_eq_true (by kernel_rfl)) h4 bel (hlt h4)) trodAll_mk0))))), rfl, bel.frame _, fun h => by cases h⟩

theorem any_row : Rows.AnySaid :=
  OpenClaim.holds_of_wide_leaving 8 Tryz.f8 rfl rfl rfl rfl rfl rfl rfl ⟨rfl, rfl, rfl, rfl, rfl⟩ rfl rfl rfl rfl rfl (by kernel_rfl) Tryz.func8 (by kernel_rfl)
    (of_decide_eq_true (by kernel_rfl)) (by unfold Func.isWrapper; first | (rw [if_pos (by decide +kernel)]; kernel_rfl) | (rw [if_neg (by decide +kernel)]; exact ⟨rfl, rfl⟩))
    (fun os started H enc _ => any_lifted os started H enc)
theorem any_card : Rows.AnyCardSaid :=
  card_goes .later [.handle] true (true, "a92912a9f4f08fbf195758ad90ff77dd450bbb634acd63370d8d1a8325452fc3") true true
    any_row (by kernel_rfl) any_row_tie rfl ⟨rfl, rfl⟩ (by kernel_rfl) rfl
    (fun f fn hf hfn => by
      obtain rfl : f = 8 := Option.some.inj ((show Tryz.prog.funcNamed Rows.anyRow.func = some 8 by kernel_rfl).symm.trans hf) |>.symm
      obtain rfl : fn = Tryz.f8 := (Option.some.inj (Tryz.func8.symm.trans hfn)).symm
      exact ⟨by kernel_rfl, fun j t ht => by
        have h3 : t ∈ [3, 22, 23] := by
          rw [Tryz.params8] at ht
          rcases j with _ | _ | _ | _ | _ | j <;> simp at ht <;> subst ht <;> decide
        have h4 : [3, 22, 23].all (fun t => Tryz.prog.wantsStandIn t == false) = true := by kernel_rfl
        exact beq_iff_eq.1 (List.all_eq_true.1 h4 t h3)⟩)
    (by kernel_rfl)
#print axioms any_card
end Go.Proofs.YtkmgcggoemlaaaaGreatDoor
end
