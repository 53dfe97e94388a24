/-
  The law Turns of package firmwarelaw returns true for every input: several appliers in turns, of as many flashes: none hangs on another.
  No condition: any old images, any new ones, any turns.
-/
import Derived.Test.YtkmgcggoemlaaaaGreatDoorJ25
import Derived.Test.YtkmgcggoemlaaaaGreatDoorJ27
import Derived.Test.YtkmgcggoemlaaaaGreatDoorCards
import Derived.Test.YtkmgcggoemlaaaaGreatDoorTie

section
/- The law Turns, in a private world. No condition. -/
set_option linter.unusedSimpArgs false
set_option linter.unusedVariables false
set_option linter.constructorNameAsVariable false
namespace Go.Proofs.YtkmgcggoemlaaaaGreatDoor
open Go Go.Fw Go.Conc Go.RowKit Go.Fwm

theorem fa_lit285 (f : Nat → Value) (D : List Deferred) : fa 285 f D = ⟨#[f 0, f 1, f 2, f 3, f 4, f 5, f 6, f 7, f 8, f 9, f 10, f 11, f 12, f 13, f 14, f 15, f 16, f 17, f 18, f 19, f 20, f 21, f 22, f 23, f 24, f 25, f 26, f 27, f 28, f 29, f 30, f 31, f 32, f 33, f 34, f 35, f 36, f 37, f 38, f 39, f 40, f 41, f 42, f 43, f 44, f 45, f 46, f 47, f 48, f 49, f 50, f 51, f 52, f 53, f 54, f 55, f 56, f 57, f 58, f 59, f 60, f 61, f 62, f 63, f 64, f 65, f 66, f 67, f 68, f 69, f 70, f 71, f 72, f 73, f 74, f 75, f 76, f 77, f 78, f 79, f 80, f 81, f 82, f 83, f 84, f 85, f 86, f 87, f 88, f 89, f 90, f 91, f 92, f 93, f 94, f 95, f 96, f 97, f 98, f 99, f 100, f 101, f 102, f 103, f 104, f 105, f 106, f 107, f 108, f 109, f 110, f 111, f 112, f 113, f 114, f 115, f 116, f 117, f 118, f 119, f 120, f 121, f 122, f 123, f 124, f 125, f 126, f 127, f 128, f 129, f 130, f 131, f 132, f 133, f 134, f 135, f 136, f 137, f 138, f 139, f 140, f 141, f 142, f 143, f 144, f 145, f 146, f 147, f 148, f 149, f 150, f 151, f 152, f 153, f 154, f 155, f 156, f 157, f 158, f 159, f 160, f 161, f 162, f 163, f 164, f 165, f 166, f 167, f 168, f 169, f 170, f 171, f 172, f 173, f 174, f 175, f 176, f 177, f 178, f 179, f 180, f 181, f 182, f 183, f 184, f 185, f 186, f 187, f 188, f 189, f 190, f 191, f 192, f 193, f 194, f 195, f 196, f 197, f 198, f 199, f 200, f 201, f 202, f 203, f 204, f 205, f 206, f 207, f 208, f 209, f 210, f 211, f 212, f 213, f 214, f 215, f 216, f 217, f 218, f 219, f 220, f 221, f 222, f 223, f 224, f 225, f 226, f 227, f 228, f 229, f 230, f 231, f 232, f 233, f 234, f 235, f 236, f 237, f 238, f 239, f 240, f 241, f 242, f 243, f 244, f 245, f 246, f 247, f 248, f 249, f 250, f 251, f 252, f 253, f 254, f 255, f 256, f 257, f 258, f 259, f 260, f 261, f 262, f 263, f 264, f 265, f 266, f 267, f 268, f 269, f 270, f 271, f 272, f 273, f 274, f 275, f 276, f 277, f 278, f 279, f 280, f 281, f 282, f 283, f 284], D⟩ := by kernel_rfl
section
variable {ρ : Operand → Value} {o : Oper} {x y : Operand} {W : World}
theorem ex_len59 {A : Option Addr} {l c : Nat} (ho : o.op = .call { callee := .builtin .len, args := #[x], argTypes := #[59] }) (hx : ρ x = .slice A l c) : (execOp ρ o).run Tryz.prog W = .ok (.value (.int .i64 (l : Int))) W := by
  unfold execOp; simp only [ho, resolve, List.map_toArray, List.map_cons, List.map_nil, hx]; go_simp
theorem ex_idx59 {b oo l c k : Nat} (ho : o.op = .indexAddr 59 x y) (hx : ρ x = .slice (some ⟨b, oo, none⟩) l c) (hy : ρ y = .int .i64 (k : Int)) (hk : k < l) : (execOp ρ o).run Tryz.prog W = .ok (.value (.pointer (some ⟨b, oo + k, none⟩))) W := by
  have hk0 : (0 : Int) ≤ (k : Int) := by omega
  have hk1 : (k : Int) < (l : Int) := by omega
  unfold execOp; simp only [ho, hx, hy]; go_simp
end
theorem up_ind {Jf : (Nat → Value) → World → Prop} {I : Nat → (Nat → Value) → World → Prop} (n : Nat) (step : ∀ k F w, k ≤ n → I k F w → (k < n → ∀ F' w', I (k + 1) F' w' → Jf F' w') → Jf F w) (F : Nat → Value) (w : World) (h : I 0 F w) : Jf F w := by
  have key : ∀ m k F w, n - k = m → k ≤ n → I k F w → Jf F w := by
    intro m
    induction m with
    | zero => exact fun k F w hm hk hI => step k F w hk hI fun h => by omega
    | succ m ih => exact fun k F w hm hk hI => step k F w hk hI fun h F' w' hI' => ih (k + 1) F' w' (by omega) (by omega) hI'
  exact key n 0 F w (by omega) (Nat.zero_le _) h
/-- The new images. -/
def newf (z1 : Nat → List UInt8) (l1 j : Nat) : List UInt8 := if j < l1 then z1 j else []
/-- Ahead of a round of the first loop. -/
def TI (w : World) (a0 a1 a2 : Option Addr) (l0 c0 l1 c1 l2 c2 : Nat) (z0 z1 : Nat → List UInt8) (k : Nat) (F : Nat → Value) (V : World) : Prop :=
  F 0 = .slice a0 l0 c0 ∧ F 1 = .slice a1 l1 c1 ∧ F 2 = .slice a2 l2 c2 ∧ F 13 = .int .i64 (k : Int) ∧ ∃ L M Vs X c, F 8 = Vs 0 ∧ F 9 = Vs 1 ∧ F 10 = Vs 2 ∧ F 11 = Vs 3 ∧ F 12 = Vs 4 ∧ Tu w V L M k Vs X c z0 (newf z1 l1) (PP z0 (newf z1 l1)) (fun _ => false) fun _ => True
set_option maxRecDepth 100000 in
set_option maxHeartbeats 8000000 in
theorem turns_priv {W w : World} {Post : Value → World → Prop} (hpost : ∀ W', Below W.heap.size W W' → Post (.bool true) W') (hg : GV w)
    {a0 a1 a2 : Option Addr} {l0 c0 l1 c1 l2 c2 : Nat} {z0 z1 : Nat → List UInt8} (h0 : BbR w a0 l0 z0) (h1 : BbR w a1 l1 z1) (h2 : TnR w a2 l2) :
    CEnds Tryz.prog FN W.heap.size W Post [] [Frame.enter Tryz.prog 12 #[.slice a0 l0 c0, .slice a1 l1 c1, .slice a2 l2 c2] .normal] w := by
  have hJ := cEnds_clo (P := Tryz.prog) (FN := FN) (N0 := W.heap.size) (W0 := W) (Post := Post) (Ch := [])
  rw [enter_fa _ _ 285 Tryz.func12 rfl rfl (by simp)]
  refine hJ.seq (hJ.region ?_)
  refine hJ.opf lst rfl rfl (by kernel_rfl) rfl (w' := w) (fun tp => ex_assign (x := .const (.bool false)) rfl rfl) ?_
  refine hJ.region_end (hJ.seq (hJ.region ?_))
  refine hJ.callop rfl (wanted_plain rfl _) rfl (by kernel_rfl) (by kernel_rfl) ?_
  rw [Array.map_empty]
  refine works_ends hg (atOp_at _) fun w1 y1 o1 => ?_
  rw [finish_fa rfl rfl]
  refine hJ.opf lst rfl rfl (by kernel_rfl) rfl (w' := w1) (v := .bool true) (fun tp => ex_assign rfl ((fa_eval (by decide)).trans rfl)) ?_
  refine hJ.region_end (hJ.seq ?_)
  refine fa_gen (Jf := fun a => CEnds _ _ _ _ _ _ [(bas 12 .normal).at a _] _) fun F hF => ?_
  have f0 : F 0 = .slice a0 l0 c0 := (hF 0).trans rfl
  have f1 : F 1 = .slice a1 l1 c1 := (hF 1).trans rfl
  have f2 : F 2 = .slice a2 l2 c2 := (hF 2).trans rfl
  have f7 : F 7 = .bool true := (hF 7).trans rfl
  clear hF
  refine hJ.code lst (by kernel_rfl) rfl rfl (by kernel_rfl) (N := fun a' w' => a'.tmps.size = 285 ∧ a'.defers = [] ∧ a'.eval (.tmp 0) = .slice a0 l0 c0 ∧ a'.eval (.tmp 1) = .slice a1 l1 c1 ∧ a'.eval (.tmp 2) = .slice a2 l2 c2 ∧ (l2 ≤ 65536 ∧ 0 < l0 ∧ l0 ≤ 8) ∧ ∃ tp, w' = Go.Fw.tpd w1 tp) (R := fun a' w' => a'.defers = [] ∧ a'.eval (.tmp 6) = .bool true) (fun tp => ?_) (fun a' w' h => ?_) (fun a' w' td h => law_done Tryz.func12 rfl (by kernel_rfl) h.1 h.2 hpost)
  · rw [fa_lit285, f0, f1, f2, f7]
    dsimp only
    clear f0 f1 f2 f7
    by_cases q2 : l2 ≤ 65536
    · have q2' : ¬ ((65536 : Int) < (l2 : Int)) := by omega
      by_cases q0 : l0 = 0
      · subst q0
        go_wp2
        exact ⟨rfl, rfl⟩
      · have q0' : ¬ ((l0 : Int) = 0) := by omega
        by_cases q8 : l0 ≤ 8
        · have q8' : ¬ ((8 : Int) < (l0 : Int)) := by omega
          go_wp2
          refine ⟨rfl, rfl, rfl, rfl, rfl, ?_⟩
          first | exact ⟨⟨q2, by omega, q8⟩, _, rfl⟩ | exact ⟨by omega, _, rfl⟩ | exact ⟨_, rfl⟩
        · have q8' : (8 : Int) < (l0 : Int) := by omega
          go_wp2
          exact ⟨rfl, rfl⟩
    · have q2' : (65536 : Int) < (l2 : Int) := by omega
      go_wp2
      exact ⟨rfl, rfl⟩
  obtain ⟨k1, k2, f0, f1, f2, ⟨q2, q0, q8⟩, tp, rfl⟩ := h
  refine hJ.back tp ?_
  obtain ⟨F, rfl, hF⟩ := act_fa k1 k2
  rw [hF _ (by decide)] at f0 f1 f2
  clear k1 k2 hF
  have hk1 : Kp w w1 := ⟨by omega, o1⟩
  refine hJ.seq (hJ.region ?_)
  refine hJ.opf lst rfl rfl (by kernel_rfl) rfl (w' := w1) (fun tp => ex_assign (x := .const (.slice none 0 0)) rfl rfl) ?_
  refine hJ.region_end ?_
  refine hJ.seq (hJ.region ?_)
  refine hJ.opf lst rfl rfl (by kernel_rfl) rfl (w' := w1) (fun tp => ex_assign (x := .const (.slice none 0 0)) rfl rfl) ?_
  refine hJ.region_end ?_
  refine hJ.seq (hJ.region ?_)
  refine hJ.opf lst rfl rfl (by kernel_rfl) rfl (w' := w1) (fun tp => ex_assign (x := .const (.slice none 0 0)) rfl rfl) ?_
  refine hJ.region_end ?_
  refine hJ.seq (hJ.region ?_)
  refine hJ.opf lst rfl rfl (by kernel_rfl) rfl (w' := w1) (fun tp => ex_assign (x := .const (.slice none 0 0)) rfl rfl) ?_
  refine hJ.region_end ?_
  refine hJ.seq (hJ.region ?_)
  refine hJ.opf lst rfl rfl (by kernel_rfl) rfl (w' := w1) (fun tp => ex_assign (x := .const (.slice none 0 0)) rfl rfl) ?_
  refine hJ.region_end ?_
  refine hJ.seq (hJ.seq (hJ.region ?_))
  refine hJ.opf lst rfl rfl (by kernel_rfl) rfl (w' := w1) (fun tp => ex_assign (x := .const (.int .i64 0)) rfl rfl) ?_
  refine hJ.region_end (hJ.block (hJ.loop ?_))
  refine up_ind (Jf := fun F V => CEnds Tryz.prog FN W.heap.size W Post [] [(bas 12 .normal).at (fa 285 F []) _] V) (I := TI w a0 a1 a2 l0 c0 l1 c1 l2 c2 z0 z1) l0 ?_ _ _ ?_
  rotate_left
  · refine ⟨f0, f1, f2, rfl, [], [], fun _ => .slice none 0 0, fun _ => [], fun _ => ⟨0, 0, 0, 0, ⟨Ap.init, Fl.init [] 64⟩⟩, rfl, rfl, rfl, rfl, rfl, hk1, ?_, ?_, ?_, Rws.nil _ _ _, Crew.nil _ _ _, fun _ _ => rfl, ?_, ?_, ?_, ?_, ?_, ?_, ?_⟩
    all_goals first | (intro b hb; simp at hb; done) | (intro j hj; exact absurd hj (Nat.not_lt_zero _))
  clear f0 f1 f2
  intro k F V hk hI next
  obtain ⟨f0, f1, f2, f13, L, M, Vs, X, c, f8, f9, f10, f11, f12, hT⟩ := hI
  refine hJ.seq (hJ.seq (hJ.region ?_))
  refine hJ.opf lst rfl rfl (by kernel_rfl) rfl (w' := V) (v := .int .i64 (k : Int)) (fun tp => ex_move rfl ((fa_eval (by decide)).trans f13)) ?_
  refine hJ.opf lst rfl rfl (by kernel_rfl) rfl (w' := V) (v := .slice a0 l0 c0) (fun tp => ex_move rfl ((fa_eval (by decide)).trans f0)) ?_
  refine hJ.opf lst rfl rfl (by kernel_rfl) rfl (w' := V) (fun tp => ex_len59 rfl ((fa_eval (by decide)).trans rfl)) ?_
  refine hJ.opf lst rfl rfl (by kernel_rfl) rfl (w' := V) (v := .bool (decide ((k : Int) < (l0 : Int)))) (fun tp => ex_lss rfl ((fa_eval (by decide)).trans rfl) ((fa_eval (by decide)).trans rfl)) ?_
  refine hJ.region_end (hJ.cond ((fa_eval (by decide)).trans rfl) ?_)
  by_cases hkl : k < l0
  · have hd : decide ((k : Int) < (l0 : Int)) = true := by simp; omega
    rw [hd]
    refine hJ.skip (hJ.seq (hJ.block (hJ.seq (hJ.region ?_))))
    obtain ⟨kb, ko, kA, kc, rfl, hcell, hB0, hlc, hcm, hA0, hAlt⟩ := h0 k hkl
    have hcellV : V.cell? ⟨kb, ko + k, none⟩ = some (.slice kA (z0 k).length kc) := (World.cell?_of_block (a := ⟨kb, ko + k, none⟩) (hT.kp.old _ (block_lt_of_cell (a := ⟨kb, ko + k, none⟩) hcell))).trans hcell
    refine hJ.opf lst rfl rfl (by kernel_rfl) rfl (w' := V) (fun tp => ex_assign (x := .const (.slice none 0 0)) rfl rfl) ?_
    refine hJ.region_end (hJ.seq ?_)
    refine fa_gen (Jf := fun a => CEnds _ _ _ _ _ _ [(bas 12 .normal).at a _] _) fun G hG => ?_
    have g0 : G 0 = .slice (some ⟨kb, ko, none⟩) l0 c0 := (hG 0).trans f0
    have g1 : G 1 = .slice a1 l1 c1 := (hG 1).trans f1
    have g2 : G 2 = .slice a2 l2 c2 := (hG 2).trans f2
    have g8 : G 8 = Vs 0 := (hG 8).trans f8
    have g9 : G 9 = Vs 1 := (hG 9).trans f9
    have g10 : G 10 = Vs 2 := (hG 10).trans f10
    have g11 : G 11 = Vs 3 := (hG 11).trans f11
    have g12 : G 12 = Vs 4 := (hG 12).trans f12
    have g13 : G 13 = .int .i64 (k : Int) := (hG 13).trans f13
    have g14 : G 14 = .slice none 0 0 := (hG 14).trans rfl
    clear hG f0 f1 f2 f8 f9 f10 f11 f12 f13
    clear F
    refine hJ.code lst (by kernel_rfl) rfl rfl (by kernel_rfl) (N := fun a' w' => a'.tmps.size = 285 ∧ a'.defers = [] ∧ ∃ nA nl nc, Iz w (.slice nA nl nc) (newf z1 l1 k) ∧ nl = (newf z1 l1 k).length ∧ a'.eval (.tmp 0) = .slice (some ⟨kb, ko, none⟩) l0 c0 ∧ a'.eval (.tmp 1) = .slice a1 l1 c1 ∧ a'.eval (.tmp 2) = .slice a2 l2 c2 ∧ a'.eval (.tmp 8) = Vs 0 ∧ a'.eval (.tmp 9) = Vs 1 ∧ a'.eval (.tmp 10) = Vs 2 ∧ a'.eval (.tmp 11) = Vs 3 ∧ a'.eval (.tmp 12) = Vs 4 ∧ a'.eval (.tmp 13) = .int .i64 (k : Int) ∧ a'.eval (.tmp 14) = .slice nA nl nc ∧ ∃ tp, w' = Go.Fw.tpd V tp) (R := fun a' w' => False) (fun tp => ?_) (fun a' w' h => ?_) (fun a' w' td h => h.elim)
    · rw [fa_lit285, g0, g1, g2, g8, g9, g10, g11, g12, g13, g14]
      dsimp only
      clear g0 g1 g2 g8 g9 g10 g11 g12 g13 g14
      by_cases hk1 : k < l1
      · obtain ⟨jb, jo, jA, jc, rfl, jcell, jB0, jlc, jcm, jA0, jAlt⟩ := h1 k hk1
        have jcellV : (Go.Fw.tpd V tp).cell? ⟨jb, jo + k, none⟩ = some (.slice jA (z1 k).length jc) := (World.cell?_of_block (a := ⟨jb, jo + k, none⟩) (hT.kp.old _ (block_lt_of_cell (a := ⟨jb, jo + k, none⟩) jcell))).trans jcell
        have hd1 : (k : Int) < (l1 : Int) := by omega
        have hd0 : (0 : Int) ≤ (k : Int) := by omega
        have hnf : newf z1 l1 k = z1 k := if_pos hk1
        have HI := Lib.hid (show Iz w (.slice jA (z1 k).length jc) (newf z1 l1 k) by rw [hnf]; exact ⟨jA, jc, rfl, jB0, jlc, jcm, jA0, jAlt⟩)
        have HNF := Lib.hid hnf
        clear jcell jB0 jlc jcm jA0 jAlt hnf hk1 hcell hcellV hkl hd hk
        clear hJ hpost h0 h1 h2 hT hg next hB0 hA0 hAlt o1
        go_wp2
        exact ⟨rfl, rfl, jA, (z1 k).length, jc, HI.out, by rw [HNF.out], rfl, rfl, rfl, rfl, rfl, rfl, rfl, rfl, rfl, rfl, _, rfl⟩
      · have hd1 : ¬ ((k : Int) < (l1 : Int)) := by omega
        have hnf : newf z1 l1 k = [] := if_neg hk1
        have HNF := Lib.hid hnf
        clear hnf hk1 hcell hcellV hkl hd hk
        clear hJ hpost h0 h1 h2 hT hg next hB0 hA0 hAlt o1
        go_wp2
        refine ⟨rfl, rfl, none, 0, 0, ?_, by rw [HNF.out]; rfl, rfl, rfl, rfl, rfl, rfl, rfl, rfl, rfl, rfl, rfl, _, rfl⟩
        rw [HNF.out]
        exact ⟨none, 0, rfl, Bytes.nil _ _, Nat.le_refl _, Nat.zero_le _, fun _ => rfl, fun a e => by cases e⟩
    clear g0 g1 g2 g8 g9 g10 g11 g12 g13 g14
    obtain ⟨k1, k2, nA, nl, nc, hIz, hnl, g0, g1, g2, g8, g9, g10, g11, g12, g13, g14, tp, rfl⟩ := h
    obtain ⟨G, rfl, hF⟩ := act_fa k1 k2
    rw [hF _ (by decide)] at g0 g1 g2 g8 g9 g10 g11 g12 g13 g14
    clear k1 k2 hF
    refine hJ.back tp (hJ.seq ?_)
    refine hJ.code lst (by kernel_rfl) rfl rfl (by kernel_rfl) (N := fun a' w' => a'.tmps.size = 285 ∧ a'.defers = [] ∧ a'.eval (.tmp 0) = .slice (some ⟨kb, ko, none⟩) l0 c0 ∧ a'.eval (.tmp 1) = .slice a1 l1 c1 ∧ a'.eval (.tmp 2) = .slice a2 l2 c2 ∧ a'.eval (.tmp 8) = Vs 0 ∧ a'.eval (.tmp 9) = Vs 1 ∧ a'.eval (.tmp 10) = Vs 2 ∧ a'.eval (.tmp 11) = Vs 3 ∧ a'.eval (.tmp 12) = Vs 4 ∧ a'.eval (.tmp 13) = .int .i64 (k : Int) ∧ a'.eval (.tmp 14) = .slice nA nl nc ∧ a'.eval (.tmp 15) = .bool (decide ((z0 k).length ≤ 4096)) ∧ ∃ tp, w' = Go.Fw.tpd V tp) (R := fun a' w' => False) (fun tp => ?_) (fun a' w' h => ?_) (fun a' w' td h => h.elim)
    · rw [fa_lit285, g0, g1, g2, g8, g9, g10, g11, g12, g13, g14]
      dsimp only
      clear g0 g1 g2 g8 g9 g10 g11 g12 g13 g14
      have hcV : (Go.Fw.tpd V tp).cell? ⟨kb, ko + k, none⟩ = some (.slice kA (z0 k).length kc) := hcellV
      have hk0 : (0 : Int) ≤ (k : Int) := by omega
      have hk1' : (k : Int) < (l0 : Int) := by omega
      have HW := Lib.hid (image14 (Go.Fw.tpd V tp) kA (z0 k).length kc)
      clear hcellV
      clear hJ hpost h0 h1 h2 hT hg next hB0 hA0 hAlt o1 hcell hkl hd hk hIz hnl
      
      go_wp2_with (go_at_call 14; refine HW.out.mono ?_; rintro e w' ⟨rfl, rfl⟩)
      exact ⟨rfl, rfl, rfl, rfl, rfl, rfl, rfl, rfl, rfl, rfl, rfl, rfl, rfl, _, rfl⟩
    clear g0 g1 g2 g8 g9 g10 g11 g12 g13 g14
    obtain ⟨k1, k2, g0, g1, g2, g8, g9, g10, g11, g12, g13, g14, g15, tp, rfl⟩ := h
    obtain ⟨G, rfl, hF⟩ := act_fa k1 k2
    rw [hF _ (by decide)] at g0 g1 g2 g8 g9 g10 g11 g12 g13 g14 g15
    clear k1 k2 hF
    refine hJ.back tp (hJ.seq ?_)
    refine hJ.code lst (by kernel_rfl) rfl rfl (by kernel_rfl) (N := fun a' w' => a'.tmps.size = 285 ∧ a'.defers = [] ∧ a'.eval (.tmp 0) = .slice (some ⟨kb, ko, none⟩) l0 c0 ∧ a'.eval (.tmp 1) = .slice a1 l1 c1 ∧ a'.eval (.tmp 2) = .slice a2 l2 c2 ∧ a'.eval (.tmp 8) = Vs 0 ∧ a'.eval (.tmp 9) = Vs 1 ∧ a'.eval (.tmp 10) = Vs 2 ∧ a'.eval (.tmp 11) = Vs 3 ∧ a'.eval (.tmp 12) = Vs 4 ∧ a'.eval (.tmp 13) = .int .i64 (k : Int) ∧ a'.eval (.tmp 14) = .slice nA nl nc ∧ a'.eval (.tmp 15) = .bool (decide ((z0 k).length ≤ 4096)) ∧ a'.eval (.tmp 16) = .bool (decide (nl ≤ 4096)) ∧ ∃ tp, w' = Go.Fw.tpd V tp) (R := fun a' w' => False) (fun tp => ?_) (fun a' w' h => ?_) (fun a' w' td h => h.elim)
    · rw [fa_lit285, g0, g1, g2, g8, g9, g10, g11, g12, g13, g14, g15]
      dsimp only
      clear g0 g1 g2 g8 g9 g10 g11 g12 g13 g14 g15
      have HW := Lib.hid (image14 (Go.Fw.tpd V tp) nA nl nc)
      clear hcellV
      clear hJ hpost h0 h1 h2 hT hg next hB0 hA0 hAlt o1 hcell hkl hd hk hIz hnl
      
      go_wp2_with (go_at_call 14; refine HW.out.mono ?_; rintro e w' ⟨rfl, rfl⟩)
      exact ⟨rfl, rfl, rfl, rfl, rfl, rfl, rfl, rfl, rfl, rfl, rfl, rfl, rfl, rfl, _, rfl⟩
    clear g0 g1 g2 g8 g9 g10 g11 g12 g13 g14 g15
    obtain ⟨k1, k2, g0, g1, g2, g8, g9, g10, g11, g12, g13, g14, g15, g16, tp, rfl⟩ := h
    obtain ⟨G, rfl, hF⟩ := act_fa k1 k2
    rw [hF _ (by decide)] at g0 g1 g2 g8 g9 g10 g11 g12 g13 g14 g15 g16
    clear k1 k2 hF
    refine hJ.back tp (hJ.seq ?_)
    refine hJ.code lst (by kernel_rfl) rfl rfl (by kernel_rfl) (N := fun a' w' => a'.tmps.size = 285 ∧ a'.defers = [] ∧ ((z0 k).length ≤ 4096 ∧ nl ≤ 4096) ∧ a'.eval (.tmp 0) = .slice (some ⟨kb, ko, none⟩) l0 c0 ∧ a'.eval (.tmp 1) = .slice a1 l1 c1 ∧ a'.eval (.tmp 2) = .slice a2 l2 c2 ∧ a'.eval (.tmp 8) = Vs 0 ∧ a'.eval (.tmp 9) = Vs 1 ∧ a'.eval (.tmp 10) = Vs 2 ∧ a'.eval (.tmp 11) = Vs 3 ∧ a'.eval (.tmp 12) = Vs 4 ∧ a'.eval (.tmp 13) = .int .i64 (k : Int) ∧ a'.eval (.tmp 14) = .slice nA nl nc ∧ ∃ tp, w' = Go.Fw.tpd V tp) (R := fun a' w' => a'.defers = [] ∧ a'.eval (.tmp 6) = .bool true) (fun tp => ?_) (fun a' w' h => ?_) (fun a' w' td h => law_done Tryz.func12 rfl (by kernel_rfl) h.1 h.2 hpost)
    · rw [fa_lit285, g0, g1, g2, g8, g9, g10, g11, g12, g13, g14, g15, g16]
      dsimp only
      clear g0 g1 g2 g8 g9 g10 g11 g12 g13 g14 g15 g16
      clear hcellV
      clear hJ hpost h0 h1 h2 hT hg next hB0 hA0 hAlt o1 hcell hkl hd hk hIz hnl
      
      by_cases q1 : (z0 k).length ≤ 4096
      · rw [decide_eq_true q1]
        by_cases q2 : nl ≤ 4096
        · rw [decide_eq_true q2]
          go_wp2
          exact ⟨rfl, rfl, ⟨q1, q2⟩, rfl, rfl, rfl, rfl, rfl, rfl, rfl, rfl, rfl, rfl, _, rfl⟩
        · rw [decide_eq_false q2]
          go_wp2
          exact ⟨rfl, rfl⟩
      · rw [decide_eq_false q1]
        go_wp2
        exact ⟨rfl, rfl⟩
    clear g0 g1 g2 g8 g9 g10 g11 g12 g13 g14 g15 g16
    obtain ⟨k1, k2, ⟨hz0, hnl4⟩, g0, g1, g2, g8, g9, g10, g11, g12, g13, g14, tp, rfl⟩ := h
    obtain ⟨G, rfl, hF⟩ := act_fa k1 k2
    rw [hF _ (by decide)] at g0 g1 g2 g8 g9 g10 g11 g12 g13 g14
    clear k1 k2 hF
    refine hJ.back tp ?_
    obtain ⟨nA', nc', hv, hnB, hnlc, hncm, hnA0, hnAlt⟩ := hIz
    have hIz2 : Iz w (.slice nA nl nc) (newf z1 l1 k) := ⟨nA', nc', hv, hnB, hnlc, hncm, hnA0, hnAlt⟩
    cases hv
    clear hnl
    obtain ⟨va, hva⟩ : ∃ va : Value, va = .slice kA (z0 k).length kc := ⟨_, rfl⟩
    obtain ⟨vb, hvb⟩ : ∃ vb : Value, vb = .slice nA (newf z1 l1 k).length nc := ⟨_, rfl⟩
    rw [← hva] at hcellV
    rw [← hvb] at g14
    refine hJ.seq (hJ.region ?_)
    refine hJ.opf lst rfl rfl (by kernel_rfl) rfl (w' := V) (fun tp => ex_move rfl ((fa_eval (by decide)).trans g0)) ?_
    refine hJ.opf lst rfl rfl (by kernel_rfl) rfl (w' := V) (fun tp => ex_move rfl ((fa_eval (by decide)).trans g13)) ?_
    refine hJ.opf lst rfl rfl (by kernel_rfl) rfl (w' := V) (fun tp => ex_idx59 rfl ((fa_eval (by decide)).trans rfl) ((fa_eval (by decide)).trans rfl) hkl) ?_
    refine hJ.opf lst rfl rfl (by kernel_rfl) rfl (w' := V) (fun tp => ex_load22 rfl ((fa_eval (by decide)).trans rfl) hcellV) ?_
    refine hJ.opf lst rfl rfl (by kernel_rfl) rfl (w' := V) (v := vb) (fun tp => ex_move rfl ((fa_eval (by decide)).trans g14)) ?_
    refine hJ.callop rfl (wanted_plain rfl _) rfl (by kernel_rfl) (by kernel_rfl) ?_
    rw [m2 (v := va) (u := vb) ((fa_eval (by decide)).trans rfl) ((fa_eval (by decide)).trans rfl)]
    rw [hva] at hcellV
    rw [hvb] at g14
    subst hva hvb
    refine gend_ends (hT.kp.bytes hB0) (hT.kp.bytes hnB) hz0 hnl4 (atOp_at _) (fun a e => by have := hAlt a e; have := hT.kp.size; omega) (fun a e => by have := hnAlt a e; have := hT.kp.size; omega) fun p w2 hp hp2 hp3 => ?_
    rw [finish_fa rfl rfl]
    refine hJ.opf lst rfl rfl (by kernel_rfl) rfl (w' := w2) (v := .tuple #[p, .bool true]) (fun tp => ex_move rfl ((fa_eval (by decide)).trans rfl)) ?_
    refine hJ.opf lst rfl rfl (by kernel_rfl) rfl (w' := w2) (v := p) (fun tp => ex_extract rfl ((fa_eval (by decide)).trans rfl) rfl) ?_
    refine hJ.opf lst rfl rfl (by kernel_rfl) rfl (w' := w2) (v := .bool true) (fun tp => ex_extract rfl ((fa_eval (by decide)).trans rfl) rfl) ?_
    refine hJ.opf lst rfl rfl (by kernel_rfl) rfl (w' := w2) (v := p) (fun tp => ex_assign rfl ((fa_eval (by decide)).trans rfl)) ?_
    refine hJ.opf lst rfl rfl (by kernel_rfl) rfl (w' := w2) (v := .bool true) (fun tp => ex_assign rfl ((fa_eval (by decide)).trans rfl)) ?_
    refine hJ.region_end (hJ.seq (hJ.region ?_))
    -- NewFlash
    have hcell2 : w2.cell? ⟨kb, ko + k, none⟩ = some (.slice kA (z0 k).length kc) := (World.cell?_of_block (a := ⟨kb, ko + k, none⟩) (hp.old _ (block_lt_of_cell (a := ⟨kb, ko + k, none⟩) hcellV))).trans hcellV
    obtain ⟨M', hM'⟩ : ∃ M', M' = p.ownBlock.toList ++ M := ⟨_, rfl⟩
    obtain ⟨XX, hXX⟩ : ∃ XX : Nat → Prop, XX = fun b => Rl w L M' b ∨ ∃ j, j < k ∧ (c j).ao b := ⟨_, rfl⟩
    have hkV := hT.kp.size
    have hpo : ∀ b, b ∈ p.ownBlock.toList → p.ownBlock = some b := fun b hb => by simpa using hb
    have hplt : ∀ b, p.ownBlock = some b → b < w2.heap.size := fun b e => (hp.own.lt e)
    have hXlt : ∀ b, XX b → b < w2.heap.size ∧ b ≠ V.heap.size := by
      intro b hb
      rw [hXX] at hb
      have hs := hp.size
      have lt1 : b < V.heap.size → b < w2.heap.size ∧ b ≠ V.heap.size := fun h => ⟨by omega, by omega⟩
      rcases hb with (x | x | x) | ⟨j, hj, x⟩
      · exact lt1 (by omega)
      · exact lt1 (hT.lt b (.inl x))
      · rw [hM'] at x
        rcases List.mem_append.1 x with y | y
        · exact ⟨hplt b (hpo b y), fun e => hp2 (by rw [← e]; exact hpo b y)⟩
        · exact lt1 (hT.lt b (.inr y))
      · exact lt1 (hT.crew.lt hj b x)
    refine hJ.opf lst rfl rfl (by kernel_rfl) rfl (w' := w2) (fun tp => ex_move rfl ((fa_eval (by decide)).trans g0)) ?_
    refine hJ.opf lst rfl rfl (by kernel_rfl) rfl (w' := w2) (fun tp => ex_move rfl ((fa_eval (by decide)).trans g13)) ?_
    refine hJ.opf lst rfl rfl (by kernel_rfl) rfl (w' := w2) (fun tp => ex_idx59 rfl ((fa_eval (by decide)).trans rfl) ((fa_eval (by decide)).trans rfl) hkl) ?_
    refine hJ.opf lst rfl rfl (by kernel_rfl) rfl (w' := w2) (fun tp => ex_load22 rfl ((fa_eval (by decide)).trans rfl) hcell2) ?_
    refine hJ.callf lst rfl rfl rfl (by kernel_rfl) (by kernel_rfl) (by kernel_rfl) rfl #[.slice kA (z0 k).length kc, .int .i64 64] (m2 ((fa_eval (by decide)).trans rfl) rfl) (R := fun v w3 => ∃ pf bf, v = .pointer (some ⟨pf, 0, none⟩) ∧ FRep w3 XX pf bf V.heap.size (Fl.init (z0 k) 64) ∧ Only (fun _ => False) w2 w3 ∧ w2.heap.size ≤ pf ∧ w2.heap.size ≤ bf) (fun tp => ?_) ?_
    · refine (newflash_ok (Go.Fw.tpd w2 tp) XX kA (z0 k).length kc (z0 k) rfl hz0 (show Bytes w2 kA (z0 k) from (hT.kp.bytes hB0).keep fun a _ hlt => hp.old _ hlt) hA0 64 (by decide) V.heap.size hp3 (fun b x => (hXlt b x).1) (fun x => (hXlt _ x).2 rfl)).mono ?_
      rintro e w3 ⟨pf, bf, rfl, q1, q2, q3, q4⟩
      exact ⟨_, rfl, pf, bf, rfl, q1, ⟨q2.size, fun b hb _ => q2.block b hb⟩, q3, q4⟩
    rintro v w3 ⟨pf, bf, rfl, hF3, ho3, hpf, hbf⟩
    refine hJ.opf lst rfl rfl (by kernel_rfl) rfl (w' := w3) (fun tp => ex_assign rfl ((fa_eval (by decide)).trans rfl)) ?_
    refine hJ.region_end (hJ.seq (hJ.region ?_))
    -- New
    refine hJ.opf lst rfl rfl (by kernel_rfl) rfl (w' := w3) (fun tp => ex_move rfl ((fa_eval (by decide)).trans rfl)) ?_
    refine hJ.callf lst rfl rfl rfl (by kernel_rfl) (by kernel_rfl) (by kernel_rfl) rfl #[.pointer (some ⟨pf, 0, none⟩)] (m1 ((fa_eval (by decide)).trans rfl)) (R := fun v w4 => v = .pointer (some ⟨w3.heap.size, 0, none⟩) ∧ ARep w4 XX w3.heap.size pf bf V.heap.size Ap.init (Fl.init (z0 k) 64) ∧ Only (fun _ => False) w3 w4) (fun tp => ?_) ?_
    · refine (new_ok (Go.Fw.tpd w3 tp) XX pf bf V.heap.size (Fl.init (z0 k) 64) (hF3.tpd tp) (fun b x => Nat.lt_of_lt_of_le (hXlt b x).1 ho3.le) ⟨fun x => by have := (hXlt _ x).1; omega, fun x => by have := (hXlt _ x).1; omega, fun x => (hXlt _ x).2 rfl⟩).mono ?_
      rintro e w4 ⟨rfl, q1, q2⟩
      exact ⟨_, rfl, rfl, q1, ⟨q2.size, fun b hb _ => q2.block b hb⟩⟩
    rintro v w4 ⟨rfl, hA4, ho4⟩
    refine hJ.opf lst rfl rfl (by kernel_rfl) rfl (w' := w4) (fun tp => ex_assign rfl ((fa_eval (by decide)).trans rfl)) ?_
    refine hJ.region_end (hJ.seq ?_)
    obtain ⟨d, hd4⟩ : ∃ d : Cr, d = ⟨w3.heap.size, pf, bf, V.heap.size, ⟨Ap.init, Fl.init (z0 k) 64⟩⟩ := ⟨_, rfl⟩
    have ho24 : Only (fun _ => False) V w4 := ⟨by have := hp.size; have := ho3.le; have := ho4.le; omega, fun b hb hn => by
      have h2 := hp.size; have h3 := ho3.le
      rw [ho4.keep b (by omega) hn, ho3.keep b (by omega) hn, hp.old b hb]⟩
    have hJn : Tj w w4 L M' (k + 1) (fun _ => k) Vs X (upC c k d) z0 (newf z1 l1) (PP z0 (newf z1 l1)) (fun _ => false) fun _ => True := by
      refine hT.join (M' := M') (d := d) ho24 (fun b hb => by rw [hM']; exact List.mem_append_right _ hb) (fun b hb => ?_) ?_ (fun b hb => ?_) ⟨hz0, hnl4⟩ fun _ => ⟨0, rfl, by rw [hd4]; rfl⟩
      · rw [hM'] at hb
        rcases List.mem_append.1 hb with y | y
        · have y' := hpo b y
          exact .inr ⟨hp.far b y', by have := hplt b y'; have := ho3.le; have := ho4.le; omega⟩
        · exact .inl y
      · rw [hXX] at hA4
        rw [hd4]
        exact hA4
      · rw [hd4] at hb
        have := hp.size
        have := ho3.le
        rcases hb with x | x | x | x
        · have x' : b = w3.heap.size := x; omega
        · have x' : b = pf := x; omega
        · have x' : b = bf := x; omega
        · have x' : b = V.heap.size := x; omega
    have hpz : Pz w4 M' p (PP z0 (newf z1 l1) k) := by
      obtain ⟨B, m, cc, rfl, hl, hc, hcm', hB00, hBb⟩ := hp.own.slice3
      have hb4 : Bytes w4 B (PP z0 (newf z1 l1) k) := (hp.own.bytes rfl).keep fun a e hlt => by rw [ho4.keep _ (Nat.lt_of_lt_of_le hlt ho3.le) (fun x => x), ho3.keep _ hlt (fun x => x)]
      refine ⟨B, cc, by rw [show (PP z0 (newf z1 l1) k).length = m from hl], hb4, by rw [show (PP z0 (newf z1 l1) k).length = m from hl]; exact hc, hcm', hB00, fun a e => ⟨?_, ?_⟩⟩
      · have hb5 := hp.own
        rcases hb5.2 with ⟨x, _⟩ | ⟨g, cap, cur, x, _⟩
        · cases x; cases e
        · cases x; cases e; rfl
      · rw [hM']
        exact List.mem_append_left _ (by rw [hBb a e]; simp)
    obtain ⟨pB, pm, pcc, rfl, hpl1, hpc1, hpcm1, hpB0, hpBb⟩ := hp.own.slice3
    refine fa_gen (Jf := fun a => CEnds _ _ _ _ _ _ [(bas 12 .normal).at a _] _) fun H hH => ?_
    have i0 : H 0 = .slice (some ⟨kb, ko, none⟩) l0 c0 := (hH 0).trans g0
    have i1 : H 1 = .slice a1 l1 c1 := (hH 1).trans g1
    have i2 : H 2 = .slice a2 l2 c2 := (hH 2).trans g2
    have i8 : H 8 = Vs 0 := (hH 8).trans g8
    have i9 : H 9 = Vs 1 := (hH 9).trans g9
    have i10 : H 10 = Vs 2 := (hH 10).trans g10
    have i11 : H 11 = Vs 3 := (hH 11).trans g11
    have i12 : H 12 = Vs 4 := (hH 12).trans g12
    have i13 : H 13 = .int .i64 (k : Int) := (hH 13).trans g13
    have i14 : H 14 = .slice nA (newf z1 l1 k).length nc := (hH 14).trans g14
    have i17 : H 17 = .slice pB pm pcc := (hH 17).trans rfl
    have i18 : H 18 = .bool true := (hH 18).trans rfl
    have i19 : H 19 = .pointer (some ⟨pf, 0, none⟩) := (hH 19).trans rfl
    have i20 : H 20 = .pointer (some ⟨w3.heap.size, 0, none⟩) := (hH 20).trans rfl
    clear hH g0 g1 g2 g8 g9 g10 g11 g12 g13 g14
    clear G
    refine hJ.code lst (by kernel_rfl) rfl rfl (by kernel_rfl) (N := fun a' w' => a'.tmps.size = 285 ∧ a'.defers = [] ∧ a'.eval (.tmp 0) = .slice (some ⟨kb, ko, none⟩) l0 c0 ∧ a'.eval (.tmp 1) = .slice a1 l1 c1 ∧ a'.eval (.tmp 2) = .slice a2 l2 c2 ∧ a'.eval (.tmp 8) = Vs 0 ∧ a'.eval (.tmp 9) = Vs 1 ∧ a'.eval (.tmp 10) = Vs 2 ∧ a'.eval (.tmp 11) = Vs 3 ∧ a'.eval (.tmp 12) = Vs 4 ∧ a'.eval (.tmp 13) = .int .i64 (k : Int) ∧ a'.eval (.tmp 14) = .slice nA (newf z1 l1 k).length nc ∧ a'.eval (.tmp 17) = .slice pB pm pcc ∧ a'.eval (.tmp 19) = .pointer (some ⟨pf, 0, none⟩) ∧ a'.eval (.tmp 20) = .pointer (some ⟨w3.heap.size, 0, none⟩) ∧ ∃ tp, w' = Go.Fw.tpd w4 tp) (R := fun a' w' => False) (fun tp => ?_) (fun a' w' h => ?_) (fun a' w' td h => h.elim)
    · rw [fa_lit285, i0, i1, i2, i8, i9, i10, i11, i12, i13, i14, i17, i18, i19, i20]
      dsimp only
      clear i0 i1 i2 i8 i9 i10 i11 i12 i13 i14 i17 i18 i19 i20
      clear hJ hpost h0 h1 h2 hT hg next hB0 hA0 hAlt o1 hcell hkl hd hk hIz2 hcellV hcell2 hnB hnlc hncm hnA0 hnAlt hM' hXX hkV hpo hplt hXlt hF3 ho3 hA4 ho4 hd4 ho24 hp2 hp3 hpf hbf hlc hcm hz0 hnl4 hpl1 hpc1 hpcm1 hpB0 hpBb
      
      clear hJn hpz hp
      go_wp2
      exact ⟨rfl, rfl, rfl, rfl, rfl, rfl, rfl, rfl, rfl, rfl, rfl, rfl, rfl, rfl, rfl, _, rfl⟩
    clear i0 i1 i2 i8 i9 i10 i11 i12 i13 i14 i17 i18 i19 i20
    obtain ⟨k1, k2, i0, i1, i2, i8, i9, i10, i11, i12, i13, i14, i17, i19, i20, tp, rfl⟩ := h
    obtain ⟨I, rfl, hF⟩ := act_fa k1 k2
    rw [hF _ (by decide)] at i0 i1 i2 i8 i9 i10 i11 i12 i13 i14 i17 i19 i20
    clear k1 k2 hF
    refine hJ.back tp ?_
    refine hJ.code lst (by kernel_rfl) rfl rfl (by kernel_rfl) (N := fun a' w' => a'.tmps.size = 285 ∧ a'.defers = [] ∧ ∃ Vs', a'.eval (.tmp 0) = .slice (some ⟨kb, ko, none⟩) l0 c0 ∧ a'.eval (.tmp 1) = .slice a1 l1 c1 ∧ a'.eval (.tmp 2) = .slice a2 l2 c2 ∧ a'.eval (.tmp 8) = Vs' 0 ∧ a'.eval (.tmp 9) = Vs' 1 ∧ a'.eval (.tmp 10) = Vs' 2 ∧ a'.eval (.tmp 11) = Vs' 3 ∧ a'.eval (.tmp 12) = Vs' 4 ∧ a'.eval (.tmp 13) = .int .i64 (k : Int) ∧ ∃ L' X', Tu w w' L' M' (k + 1) Vs' X' (upC c k d) z0 (newf z1 l1) (PP z0 (newf z1 l1)) (fun _ => false) fun _ => True) (R := fun a' w' => False) (fun tp => ?_) (fun a' w' h => ?_) (fun a' w' td h => h.elim)
    · rw [fa_lit285, i0, i1, i2, i8, i9, i10, i11, i12, i13, i14, i17, i19, i20]
      dsimp only
      clear i0 i1 i2 i8 i9 i10 i11 i12 i13 i14 i17 i19 i20
      have HT0 := Lib.hid (show Tj w (Go.Fw.tpd w4 tp) L M' (k + 1) (fun _ => k) Vs X (upC c k d) z0 (newf z1 l1) (PP z0 (newf z1 l1)) (fun _ => false) fun _ => True from hJn.below ⟨Nat.le_refl _, fun b _ _ => rfl⟩)
      have HPZ := Lib.hid (show Pz (Go.Fw.tpd w4 tp) M' (.slice pB pm pcc) (PP z0 (newf z1 l1) k) from hpz.only (F := fun _ => False) ⟨Nat.le_refl _, fun b _ _ => rfl⟩ fun b x => x.elim)
      have HD := Lib.hid hd4
      have HIZ := Lib.hid hIz2
      have HK8 := Lib.hid (show k ≤ 100 by omega)
      clear hJ hpost h0 h1 h2 hT hg next hB0 hA0 hAlt o1 hcell hkl hd hk hIz2 hcellV hcell2 hnB hnlc hncm hnA0 hnAlt hM' hXX hkV hpo hplt hXlt hF3 ho3 hA4 ho4 hd4 ho24 hp2 hp3 hpf hbf hlc hcm hz0 hnl4 hpl1 hpc1 hpcm1 hpB0 hpBb
      
      clear hJn hpz hp
      generalize Go.Fw.tpd w4 tp = U at HT0 HPZ ⊢
      go_wp2_with (first
        | (at_builtin; refine Tj.app 0 (by decide) rfl (.tmp 101) (.tmp 103) 61 rfl Tryz.underlying61 (HT0.out.below ((Only.refl _ _).alloc _)) rfl U.heap.size 1 (.pointer (some ⟨pf, 0, none⟩)) rfl (cell_one_new _ _ _) rfl (by show k ≤ 100; exact HK8.out) (by show Value.pointer (some ⟨pf, 0, none⟩) = .pointer (some ⟨(upC c k d k).pf, 0, none⟩); rw [upC_same, HD.out]) ?_; intro v1 U1 L1 HT1 HP1x; have HPZ1 := Lib.hid (HP1x.out _ _ (HPZ.out.only (F := fun _ => False) ((Only.refl _ _).alloc _) fun b x => x.elim)))
        | (at_builtin; refine Tj.app 1 (by decide) rfl (.tmp 105) (.tmp 107) 62 rfl Tryz.underlying62 (HT1.out.below ((Only.refl _ _).alloc _)) rfl U1.heap.size 1 (.pointer (some ⟨w3.heap.size, 0, none⟩)) rfl (cell_one_new _ _ _) rfl (by show k ≤ 100; exact HK8.out) (by show Value.pointer (some ⟨w3.heap.size, 0, none⟩) = .pointer (some ⟨(upC c k d k).pa, 0, none⟩); rw [upC_same, HD.out]) ?_; intro v2 U2 L2 HT2 HP2x; have HPZ2 := Lib.hid (HP2x.out _ _ (HPZ1.out.only (F := fun _ => False) ((Only.refl _ _).alloc _) fun b x => x.elim)))
        | (at_builtin; refine Tj.app 2 (by decide) rfl (.tmp 109) (.tmp 111) 59 rfl Tryz.underlying59 (HT2.out.below ((Only.refl _ _).alloc _)) rfl U2.heap.size 1 (.slice pB pm pcc) rfl (cell_one_new _ _ _) rfl (by show k ≤ 100; exact HK8.out) ((HPZ2.out).only (F := fun _ => False) ((Only.refl _ _).alloc _) fun b x => x.elim) ?_; intro v3 U3 L3 HT3 HP3x; have HPZ3 := Lib.hid (HP3x.out _ _ (HPZ2.out.only (F := fun _ => False) ((Only.refl _ _).alloc _) fun b x => x.elim)))
        | (at_builtin; refine Tj.app 3 (by decide) rfl (.tmp 113) (.tmp 114) 63 rfl Tryz.underlying63 (HT3.out.below ((Only.refl _ _).alloc _)) rfl U3.heap.size 1 (.bool false) rfl (cell_one_new _ _ _) rfl (by show k ≤ 100; exact HK8.out) (rfl) ?_; intro v4 U4 L4 HT4 HP4x; have HPZ4 := Lib.hid (HP4x.out _ _ (HPZ3.out.only (F := fun _ => False) ((Only.refl _ _).alloc _) fun b x => x.elim)))
        | (at_builtin; refine Tj.app 4 (by decide) rfl (.tmp 116) (.tmp 118) 59 rfl Tryz.underlying59 (HT4.out.below ((Only.refl _ _).alloc _)) rfl U4.heap.size 1 (.slice nA (newf z1 l1 k).length nc) rfl (cell_one_new _ _ _) rfl (by show k ≤ 100; exact HK8.out) (HIZ.out) ?_; intro v5 U5 L5 HT5 HP5x; have HPZ5 := Lib.hid (HP5x.out _ _ (HPZ4.out.only (F := fun _ => False) ((Only.refl _ _).alloc _) fun b x => x.elim))))
      exact ⟨rfl, rfl, _, rfl, rfl, rfl, rfl, rfl, rfl, rfl, rfl, rfl, L5, _, HT5.out.tu fun i hi => (by
        have hi' : i = 0 ∨ i = 1 ∨ i = 2 ∨ i = 3 ∨ i = 4 := by omega
        rcases hi' with rfl | rfl | rfl | rfl | rfl <;> rfl)⟩
    clear i0 i1 i2 i8 i9 i10 i11 i12 i13 i14 i17 i19 i20
    obtain ⟨k1, k2, Vs', i0, i1, i2, i8, i9, i10, i11, i12, i13, L', X', hTn⟩ := h
    obtain ⟨I, rfl, hF⟩ := act_fa k1 k2
    rw [hF _ (by decide)] at i0 i1 i2 i8 i9 i10 i11 i12 i13
    clear k1 k2 hF
    refine hJ.inBlock (hJ.region ?_)
    refine hJ.opf lst rfl rfl (by kernel_rfl) rfl (w' := w') (fun tp => ex_move rfl ((fa_eval (by decide)).trans i13)) ?_
    refine hJ.opf lst rfl rfl (by kernel_rfl) rfl (w' := w') (v := .int .i64 ((k + 1 : Nat) : Int)) (fun tp => ex_addN rfl ((fa_eval (by decide)).trans rfl) rfl (by omega)) ?_
    refine hJ.opf lst rfl rfl (by kernel_rfl) rfl (w' := w') (fun tp => ex_assign rfl ((fa_eval (by decide)).trans rfl)) ?_
    refine hJ.region_end (hJ.inLoop ?_)
    refine next hkl _ _ ⟨?_, ?_, ?_, rfl, L', M', Vs', X', upC c k d, ?_, ?_, ?_, ?_, ?_, hTn⟩
    · exact i0
    · exact i1
    · exact i2
    · exact i8
    · exact i9
    · exact i10
    · exact i11
    · exact i12
  · have hd : decide ((k : Int) < (l0 : Int)) = false := by simp; omega
    rw [hd]
    refine hJ.exit rfl ?_
    obtain rfl : k = l0 := by omega
    clear hd hkl next hk
    obtain ⟨g, p, hv⟩ := hT.rowAt q0
    rw [hv 0 (by decide)] at f8
    rw [hv 1 (by decide)] at f9
    rw [hv 2 (by decide)] at f10
    rw [hv 3 (by decide)] at f11
    rw [hv 4 (by decide)] at f12
    refine fa_gen (Jf := fun a => CEnds _ _ _ _ _ _ [(bas 12 .normal).at a _] _) fun G hG => ?_
    have g0 := (hG 0).trans f0
    have g1 := (hG 1).trans f1
    have g2 := (hG 2).trans f2
    have g8 := (hG 8).trans f8
    have g9 := (hG 9).trans f9
    have g10 := (hG 10).trans f10
    have g11 := (hG 11).trans f11
    have g12 := (hG 12).trans f12
    clear hG f0 f1 f2 f8 f9 f10 f11 f12 f13
    refine hJ.code lst (by kernel_rfl) rfl rfl (by kernel_rfl) (N := fun _ _ => False) (R := fun a' w' => a'.defers = [] ∧ a'.eval (.tmp 6) = .bool true) (fun tp => ?_) (fun _ _ h => h.elim) (fun a' w' td h => law_done Tryz.func12 rfl (by kernel_rfl) h.1 h.2 hpost)
    rw [fa_lit285, g0, g1, g2, g8, g9, g10, g11, g12]
    dsimp only
    clear g0 g1 g2 g8 g9 g10 g11 g12
    have HT0 := Lib.hid (show Tu w (Go.Fw.tpd V tp) L M k Vs X c z0 (newf z1 l1) (PP z0 (newf z1 l1)) (fun _ => false) (fun q => (fun _ : Nat => false) q = false) from (hT.below (w' := Go.Fw.tpd V tp) ⟨Nat.le_refl _, fun b _ _ => rfl⟩).okTo (ok' := fun q => (fun _ : Nat => false) q = false) fun j _ _ => .inl trivial)
    have HG := Lib.hid hg; have H0 := Lib.hid h0; have H2 := Lib.hid h2; have HV := Lib.hid hv; have HQ2 := Lib.hid q2; have HQ8 := Lib.hid q8
    clear hJ hpost h0 h1 h2 hT hg hk1 o1 hv q2 f7 y1
    generalize Go.Fw.tpd V tp = U at HT0 ⊢
    go_wp2
    go_loopw [21] (fun i wr => ∃ (j : Nat) (X : Nat → List Value) (c : Nat → Cr) (rest : Nat → List UInt8) (e : Nat → Bool), i = .int .i64 j ∧ j ≤ l2 ∧ Tu w wr L M k Vs X c z0 (newf z1 l1) rest e (fun q => e q = false)) (fun i _ => l2 - (intOf i).toNat)
    case atStart => exact ⟨0, X, c, PP z0 (newf z1 l1), fun _ => false, rfl, Nat.zero_le _, HT0.out.okTo fun _ _ _ => .inl trivial⟩
    case round =>
      clear HT0
      obtain ⟨j, X, c, rest, e, rfl, hj, hT⟩ := hrel
      have HT := Lib.hid hT
      have HJ := Lib.hid hj
      by_cases hjl : j < l2
      · obtain ⟨tb, to_, y1, y2, rfl, hy1, hy2, r1, r2⟩ := H2.out j hjl
        have hw1 : wr.cell? ⟨tb, to_ + j * 2, none⟩ = some (.int .i64 y1) := (World.cell?_of_block (a := ⟨tb, to_ + j * 2, none⟩) (hT.kp.old _ (block_lt_of_cell (a := ⟨tb, to_ + j * 2, none⟩) hy1))).trans hy1
        have hw2 : wr.cell? ⟨tb, to_ + j * 2 + 1, none⟩ = some (.int .i64 y2) := (World.cell?_of_block (a := ⟨tb, to_ + j * 2 + 1, none⟩) (hT.kp.old _ (block_lt_of_cell (a := ⟨tb, to_ + j * 2, none⟩) hy1))).trans hy2
        obtain ⟨q, hq, hqk⟩ : ∃ q : Nat, (IntKind.u64.wrap y1).tmod (k : Int) = (q : Int) ∧ q < k := by
          obtain ⟨Z, hZ⟩ : ∃ Z, Z = IntKind.u64.wrap y1 := ⟨_, rfl⟩
          rw [← hZ]
          have z0 : 0 ≤ Z := by rw [hZ]; unfold IntKind.wrap; simp [IntKind.signed, IntKind.bits]; omega
          have z1 : 0 ≤ Z.tmod (k : Int) := Int.tmod_nonneg _ z0
          have z2 : Z.tmod (k : Int) < k := Int.tmod_lt_of_pos _ (by omega)
          exact ⟨(Z.tmod (k : Int)).toNat, by omega, by omega⟩
        have hk8 := HQ8.out
        have hwk : IntKind.u64.wrap (k : Int) = (k : Int) := by unfold IntKind.wrap; simp [IntKind.signed, IntKind.bits]; omega
        have hwq : IntKind.i64.wrap (q : Int) = (q : Int) := wrap_i64 q (by omega)
        have hk0 : ((k : Int) == 0) = false := by simp; omega
        have hq0 : (0 : Int) ≤ (q : Int) := by omega
        have hq1 : (q : Int) < (k : Int) := by omega
        have hj0 : (0 : Int) ≤ (j : Int) := by omega
        have hj1 : (j : Int) < (l2 : Int) := by omega
        have hcs := hT.cs HV.out hqk
        have hc3 := hcs.c3
        have HQK := Lib.hid hqk
        have HJL := Lib.hid hjl
        have HQ2' := HQ2.out
        by_cases he : e q = true
        · rw [he] at hc3
          clear hcs hT hk8 he hqk hjl hy1 hy2 r1 r2
          go_wp2
          go_roundw
          case rel => have := HJL.out; exact ⟨j + 1, X, c, rest, e, by go_num, by omega, HT.out⟩
          case measure => have := HJL.out; simp [intOf]; omega
        · have he' : e q = false := by simpa using he
          rw [he'] at hc3
          clear he
          have HE := Lib.hid he'
          clear he'
          obtain ⟨A2, p2, hc2, hB2, hl2, hm2, hn2, hA2⟩ := hcs.c2
          have hc1 := hcs.c1
          obtain ⟨ln, hln⟩ : ∃ ln, ln = (rest q).length := ⟨_, rfl⟩
          rw [← hln] at hc2 hl2
          have HB2 := Lib.hid hB2; have HL2 := Lib.hid hl2; have HM2 := Lib.hid hm2; have HN2 := Lib.hid hn2; have HA2 := Lib.hid hA2; have HLN := Lib.hid hln
          clear hcs hT hk8 hqk hjl hy1 hy2 r1 hB2 hm2 hn2 hA2 hln
          by_cases hneg : y2 < 0
          · by_cases hz : ln = 0
            · subst hz
              have HRE := Lib.hid (show rest q = [] from List.eq_nil_of_length_eq_zero HLN.out.symm)
              clear r2 hl2
              go_wp2_with (first
                | (go_at_call 32; refine (HT.out.finish0 HQK.out HE.out HRE.out).mono ?_; rintro e1 w5 ⟨v, c5, FX, x, rfl, hT5, hfl, hnum, hcm⟩; have HT5 := Lib.hid hT5; have HFL := Lib.hid hfl; have HNUM := Lib.hid hnum; have HCM := Lib.hid hcm; clear hT5 hfl hnum hcm)
                | (go_at_call 16; refine (HT5.out.tell HG.out HFL.out).mono ?_; rintro e1 w6 ⟨rfl, hT6⟩; rw [HNUM.out]; have hcs6 := hT6.cs HV.out HQK.out; obtain ⟨A6, p6, hc26, _⟩ := hcs6.c2; rw [HRE.out] at hc26; have hc06 := hcs6.c0; have HT6 := Lib.hid hT6; clear hT6 hcs6)
                | (go_at_call 23; refine (HT6.out.image HQK.out).mono ?_; rintro e1 w7 ⟨A7, m7, p7, rfl, hT7⟩; rw [HCM.out]; have hcs7 := hT7.cs HV.out HQK.out; obtain ⟨A8, p8, hc27, _⟩ := hcs7.c2; rw [HRE.out] at hc27; have hc37 := hcs7.c3; have hf37 := hcs7.f3; have HT7 := Lib.hid hT7; clear hT7 hcs7))
              go_roundw
              case rel => have := HJL.out; exact ⟨j + 1, _, c5, rest, upX e q true, by go_num, by omega, HT7.out.ended HV.out HQK.out⟩
              case measure => have := HJL.out; simp [intOf]; omega
            · have hz1 : ((ln : Int) == 0) = false := by simp; omega
              have hz2 : (0 : Int) < (ln : Int) := by omega
              have HRE := Lib.hid (show 0 < (rest q).length by have := HLN.out; omega)
              clear r2 hl2 hz
              go_wp2_with (first
                | (go_at_call 32; refine (HT.out.finish5 HQK.out HE.out HRE.out).mono ?_; rintro e1 w5 ⟨v, c5, FX, x, rfl, hT5, hfl, hnum, hcm⟩; have HT5 := Lib.hid hT5; have HFL := Lib.hid hfl; have HNUM := Lib.hid hnum; have HCM := Lib.hid hcm; clear hT5 hfl hnum hcm)
                | (go_at_call 16; refine (HT5.out.tell HG.out HFL.out).mono ?_; rintro e1 w6 ⟨rfl, hT6⟩; rw [HNUM.out]; have hcs6 := hT6.cs HV.out HQK.out; obtain ⟨A6, p6, hc26, _⟩ := hcs6.c2; rw [← HLN.out] at hc26; have hc06 := hcs6.c0; have HT6 := Lib.hid hT6; clear hT6 hcs6)
                | (go_at_call 23; refine (HT6.out.image HQK.out).mono ?_; rintro e1 w7 ⟨A7, m7, p7, rfl, hT7⟩; rw [HCM.out]; have hcs7 := hT7.cs HV.out HQK.out; obtain ⟨A8, p8, hc27, _⟩ := hcs7.c2; rw [← HLN.out] at hc27; have hc37 := hcs7.c3; have hf37 := hcs7.f3; have HT7 := Lib.hid hT7; clear hT7 hcs7))
              go_roundw
              case rel => have := HJL.out; exact ⟨j + 1, _, c5, rest, upX e q true, by go_num, by omega, HT7.out.ended HV.out HQK.out⟩
              case measure => have := HJL.out; simp [intOf]; omega
          · have hng : ¬ y2 < 0 := hneg
            obtain ⟨m, hm, hm100⟩ : ∃ m : Nat, y2.tmod 100 = (m : Int) ∧ m < 100 := ⟨(y2.tmod 100).toNat, by have := Int.tmod_nonneg 100 (show 0 ≤ y2 by omega); omega, by have := Int.tmod_lt_of_pos y2 (show (0 : Int) < 100 by decide); omega⟩
            clear r2 hneg
            by_cases hgt : ln < m
            · have hgt2 : (ln : Int) < (m : Int) := by omega
              have hnl : ln ≤ ln := Nat.le_refl _
              have hni : ((ln : Nat) : Int) ≤ (p2 : Int) := by omega
              have hn0 : (0 : Int) ≤ ((ln : Nat) : Int) := by omega
              have HNL := Lib.hid hnl
              clear hnl hl2
              go_wp2
              obtain ⟨W2, hW2⟩ : ∃ W2, wr.drew = W2 := ⟨_, rfl⟩
              have d1 : W2.cell? ⟨g 1, q, none⟩ = some (.pointer (some ⟨(c q).pa, 0, none⟩)) := by rw [← hW2]; exact hc1
              have d2 : W2.cell? ⟨g 2, q, none⟩ = some (.slice A2 ln p2) := by rw [← hW2]; exact hc2
              have HTD := Lib.hid (show Tu w W2 L M k Vs X c z0 (newf z1 l1) rest e (fun q => e q = false) by rw [← hW2]; exact HT.out.below (w' := wr.drew) ⟨Nat.le_refl _, fun b _ _ => rfl⟩)
              have HBD := Lib.hid (show Bytes W2 A2 (rest q) by rw [← hW2]; exact HB2.out)
              refine wp_region_still_tail 10 (by kernel_rfl) (by kernel_rfl) ?_
              change wpStill _ _ wr.drew _ _ _
              rw [hW2]
              have HW := Lib.hid hW2
              clear hW2
              simp only [List.take_succ_cons, List.take_zero, List.drop_succ_cons, List.drop_zero]
              repeat still_step
              refine wpStill_nil ?_
              change wpList _ _ _ _ _ wr.drew
              rw [HW.out]
              clear d1 d2 hc1 hc2 hc3
              go_wp2_with (first
                | (go_at_call 33; refine (HTD.out.feed HG.out HQK.out HE.out (A := A2) (m := ln) (q := ln) (by rw [List.length_take]; have := HLN.out; have := HNL.out; omega) rfl (HBD.out.take _) (fun a e1 => (HA2.out a e1).2)).mono ?_; rintro e1 w5 ⟨rfl, c5, hT5, m0, hr5, hx5⟩; have hcs5 := hT5.cs HV.out HQK.out; obtain ⟨A5, p5, hc25, hB5, hl5, hm5, hn5, hA5⟩ := hcs5.c2; have hf25 := hcs5.f2; rw [← HLN.out] at hc25 hl5; have i5 : ((ln : Nat) : Int) ≤ (p5 : Int) := (by omega); have i6 : ((ln : Nat) : Int) ≤ (ln : Int) := (by have := HNL.out; omega); have HT5 := Lib.hid hT5; have HR5 := Lib.hid hr5; have HX5 := Lib.hid hx5; have HB5 := Lib.hid hB5; have HL5 := Lib.hid hl5; have HM5 := Lib.hid hm5; have HN5 := Lib.hid hn5; have HA5 := Lib.hid hA5; clear hT5 hr5 hx5 hcs5 hB5 hl5 hm5 hn5 hA5)
                | (go_at_call 16; have hTc := HT5.out.cut (q := ln) HV.out HQK.out (by rw [← HLN.out]; exact HNL.out) HR5.out HX5.out HB5.out (by rw [← HLN.out]; exact HL5.out) HM5.out HN5.out HA5.out; rw [← HLN.out] at hTc; (try rw [Nat.sub_self] at hTc); with_reducible refine (hTc.tell0 HG.out).mono ?_; rintro e1 w6 ⟨rfl, hT6⟩; have HT6 := Lib.hid hT6; clear hT6 hTc))
              go_roundw
              case rel => refine ⟨j + 1, _, c5, upX rest q ((rest q).drop ln), e, rfl, HJL.out, HT6.out⟩
              case measure => have := HJL.out; simp [intOf]; omega
            · have hgt2 : ¬ ((ln : Int) < (m : Int)) := by omega
              have hnl : m ≤ ln := by omega
              have hni : ((m : Nat) : Int) ≤ (p2 : Int) := by omega
              have hn0 : (0 : Int) ≤ ((m : Nat) : Int) := by omega
              have HNL := Lib.hid hnl
              clear hnl hl2 hgt
              go_wp2
              obtain ⟨W2, hW2⟩ : ∃ W2, wr.drew = W2 := ⟨_, rfl⟩
              have d1 : W2.cell? ⟨g 1, q, none⟩ = some (.pointer (some ⟨(c q).pa, 0, none⟩)) := by rw [← hW2]; exact hc1
              have d2 : W2.cell? ⟨g 2, q, none⟩ = some (.slice A2 ln p2) := by rw [← hW2]; exact hc2
              have HTD := Lib.hid (show Tu w W2 L M k Vs X c z0 (newf z1 l1) rest e (fun q => e q = false) by rw [← hW2]; exact HT.out.below (w' := wr.drew) ⟨Nat.le_refl _, fun b _ _ => rfl⟩)
              have HBD := Lib.hid (show Bytes W2 A2 (rest q) by rw [← hW2]; exact HB2.out)
              refine wp_region_still_tail 10 (by kernel_rfl) (by kernel_rfl) ?_
              change wpStill _ _ wr.drew _ _ _
              rw [hW2]
              have HW := Lib.hid hW2
              clear hW2
              simp only [List.take_succ_cons, List.take_zero, List.drop_succ_cons, List.drop_zero]
              repeat still_step
              refine wpStill_nil ?_
              change wpList _ _ _ _ _ wr.drew
              rw [HW.out]
              clear d1 d2 hc1 hc2 hc3
              go_wp2_with (first
                | (go_at_call 33; refine (HTD.out.feed HG.out HQK.out HE.out (A := A2) (m := m) (q := m) (by rw [List.length_take]; have := HLN.out; have := HNL.out; omega) rfl (HBD.out.take _) (fun a e1 => (HA2.out a e1).2)).mono ?_; rintro e1 w5 ⟨rfl, c5, hT5, m0, hr5, hx5⟩; have hcs5 := hT5.cs HV.out HQK.out; obtain ⟨A5, p5, hc25, hB5, hl5, hm5, hn5, hA5⟩ := hcs5.c2; have hf25 := hcs5.f2; rw [← HLN.out] at hc25 hl5; have i5 : ((ln : Nat) : Int) ≤ (p5 : Int) := (by omega); have i6 : ((m : Nat) : Int) ≤ (ln : Int) := (by have := HNL.out; omega); have HT5 := Lib.hid hT5; have HR5 := Lib.hid hr5; have HX5 := Lib.hid hx5; have HB5 := Lib.hid hB5; have HL5 := Lib.hid hl5; have HM5 := Lib.hid hm5; have HN5 := Lib.hid hn5; have HA5 := Lib.hid hA5; clear hT5 hr5 hx5 hcs5 hB5 hl5 hm5 hn5 hA5)
                | (go_at_call 16; have hTc := HT5.out.cut (q := m) HV.out HQK.out (by rw [← HLN.out]; exact HNL.out) HR5.out HX5.out HB5.out (by rw [← HLN.out]; exact HL5.out) HM5.out HN5.out HA5.out; rw [← HLN.out] at hTc; (try rw [Nat.sub_self] at hTc); with_reducible refine (hTc.tell0 HG.out).mono ?_; rintro e1 w6 ⟨rfl, hT6⟩; have HT6 := Lib.hid hT6; clear hT6 hTc))
              go_roundw
              case rel => refine ⟨j + 1, _, c5, upX rest q ((rest q).drop m), e, rfl, HJL.out, HT6.out⟩
              case measure => have := HJL.out; simp [intOf]; omega
      · clear hT hj
        have HTZ := Lib.hid (HT.out.okTo (ok' := fun q => e q = false ∧ 0 ≤ q) fun q _ h => .inl h.1)
        clear HT
        go_wp2
        go_loopw [29] (fun i w3 => ∃ (r : Nat) (c : Nat → Cr), i = .int .i64 r ∧ r ≤ k ∧ Tu w w3 L M k Vs X c z0 (newf z1 l1) rest e (fun q => e q = false ∧ r ≤ q)) (fun i _ => k - (intOf i).toNat)
        case atStart => exact ⟨0, c, rfl, Nat.zero_le _, HTZ.out.okTo fun q _ h => .inl ⟨h.1, Nat.zero_le _⟩⟩
        case round =>
          clear HTZ
          obtain ⟨r, c, rfl, hr, hT⟩ := hrel
          have HTC := Lib.hid hT
          by_cases hrk : r < k
          · obtain ⟨ob, oo, oA, oc, rfl, ocell, oB, _⟩ := H0.out r hrk
            have hk8 := HQ8.out
            have hr0 : (0 : Int) ≤ (r : Int) := by omega
            have hr1 : (r : Int) < (k : Int) := by omega
            have hcs := hT.cs HV.out hrk
            have hc3 := hcs.c3
            have HRK := Lib.hid hrk
            by_cases he : e r = true
            · rw [he] at hc3
              clear hcs hT hk8 he hrk ocell oB hr hjl
              go_wp2
              go_roundw
              case rel => refine ⟨r + 1, c, rfl, HRK.out, HTC.out.okTo fun q _ h => .inl ⟨h.1, by have := h.2; omega⟩⟩
              case measure => have := HRK.out; simp [intOf]; omega
            · have he' : e r = false := by simpa using he
              rw [he'] at hc3
              obtain ⟨A2, p2, hc2, hB2, hl2, hm2, hn2, hA2⟩ := hcs.c2
              have hc1 := hcs.c1
              have HE := Lib.hid he'; have HOC := Lib.hid ocell; have HOB := Lib.hid oB
              have HB2 := Lib.hid hB2; have HA2 := Lib.hid hA2
              clear hcs hT hk8 he he' hrk ocell oB hr hB2 hl2 hm2 hn2 hA2 hjl
              go_wp2
              obtain ⟨W2, hW2⟩ : ∃ W2, wr.drew = W2 := ⟨_, rfl⟩
              have d1 : W2.cell? ⟨g 1, r, none⟩ = some (.pointer (some ⟨(c r).pa, 0, none⟩)) := by rw [← hW2]; exact hc1
              have d2 : W2.cell? ⟨g 2, r, none⟩ = some (.slice A2 (rest r).length p2) := by rw [← hW2]; exact hc2
              have HTD := Lib.hid (show Tu w W2 L M k Vs X c z0 (newf z1 l1) rest e (fun q => e q = false ∧ r ≤ q) by rw [← hW2]; exact HTC.out.below (w' := wr.drew) ⟨Nat.le_refl _, fun b _ _ => rfl⟩)
              have HBD := Lib.hid (show Bytes W2 A2 (rest r) by rw [← hW2]; exact HB2.out)
              refine wp_region_still_tail 8 (by kernel_rfl) (by kernel_rfl) ?_
              change wpStill _ _ wr.drew _ _ _
              rw [hW2]
              have HW := Lib.hid hW2
              clear hW2
              simp only [List.take_succ_cons, List.take_zero, List.drop_succ_cons, List.drop_zero]
              repeat still_step
              refine wpStill_nil ?_
              change wpList _ _ _ _ _ wr.drew
              rw [HW.out]
              clear d1 d2 hc1 hc2 hc3
              go_wp2_with (first
                | (go_at_call 33; refine (HTD.out.feedRest HG.out HRK.out ⟨HE.out, Nat.le_refl _⟩ HBD.out (fun a e1 => (HA2.out a e1).2)).mono ?_; rintro e1 w5 ⟨rfl, c5, hT5, m0, hm5, hx5⟩; have hcs5 := hT5.cs HV.out HRK.out; have hc15 := hcs5.c1; have HT5 := Lib.hid hT5; have HM5 := Lib.hid hm5; have HX5 := Lib.hid hx5; clear hT5 hm5 hx5 hcs5)
                | (go_at_call 32; refine (HT5.out.finishAt HRK.out HX5.out HM5.out).mono ?_; rintro e1 w6 ⟨rfl, c6, hT6, hx6⟩; have hcs6 := hT6.cs HV.out HRK.out; have hc06 := hcs6.c0; have hc46 := hcs6.c4; have HT6 := Lib.hid hT6; have HX6 := Lib.hid hx6; clear hT6 hx6 hcs6 hc15))
              obtain ⟨A4, p4, hc46, hB4⟩ := hc46
              have HB4 := Lib.hid hB4
              clear hB4
              obtain ⟨W3, hW3⟩ : ∃ W3, w6.drew = W3 := ⟨_, rfl⟩
              have k6 := HT6.out.kp.old ob (block_lt_of_cell (a := ⟨ob, oo + r, none⟩) HOC.out)
              have d0 : W3.cell? ⟨g 0, r, none⟩ = some (.pointer (some ⟨(c6 r).pf, 0, none⟩)) := by rw [← hW3]; exact hc06
              have d4 : W3.cell? ⟨g 4, r, none⟩ = some (.slice A4 (newf z1 l1 r).length p4) := by rw [← hW3]; exact hc46
              have d5 : W3.cell? ⟨ob, oo + r, none⟩ = some (.slice oA (z0 r).length oc) := by rw [← hW3]; exact (World.cell?_of_block (w := w) (w' := w6) (a := ⟨ob, oo + r, none⟩) k6).trans HOC.out
              have HTE := Lib.hid (show Tu w W3 L M k Vs X c6 z0 (newf z1 l1) rest e _ by rw [← hW3]; exact HT6.out.below (w' := w6.drew) ⟨Nat.le_refl _, fun b _ _ => rfl⟩)
              clear k6
              refine wp_region_still_tail 12 (by kernel_rfl) (by kernel_rfl) ?_
              change wpStill _ _ w6.drew _ _ _
              rw [hW3]
              have HWW := Lib.hid hW3
              clear hW3
              simp only [List.take_succ_cons, List.take_zero, List.drop_succ_cons, List.drop_zero]
              repeat still_step
              refine wpStill_nil ?_
              change wpList _ _ _ _ _ w6.drew
              rw [HWW.out]
              clear d0 d4 d5 hc06 hc46
              go_wp2_with (first
                | (go_at_call 20; refine (HTE.out.holds HRK.out HOB.out HB4.out HX6.out).mono ?_; rintro e1 w7 ⟨rfl, hT7⟩; have HT7 := Lib.hid hT7; clear hT7)
                | (go_at_call 16; first | (refine (HT8.out.tell0 HG.out).mono ?_; rintro e1 w9 ⟨rfl, hT9⟩; have HT9 := Lib.hid hT9; clear hT9) | (refine (HT7.out.tell0 HG.out).mono ?_; rintro e1 w8 ⟨rfl, hT8⟩; have HT8 := Lib.hid hT8; clear hT8)))
              go_roundw
              case rel => refine ⟨r + 1, c6, rfl, HRK.out, HT9.out.okTo fun q _ h => .inl ⟨⟨⟨h.1, by have := h.2; omega⟩, by have := h.2; omega⟩, by have := h.2; omega⟩⟩
              case measure => have := HRK.out; simp [intOf]; omega
          · clear hT HTC
            go_wp2
            exact ⟨rfl, rfl⟩
end Go.Proofs.YtkmgcggoemlaaaaGreatDoor
end

section
/- The law Turns of package firmwarelaw returns true for every input: several appliers in turns, of as many flashes: none hangs on another. No condition: any old images, any new ones, any turns. -/
set_option linter.unusedSimpArgs false
set_option linter.unusedVariables false
set_option linter.constructorNameAsVariable false
set_option maxRecDepth 100000
namespace Go.Proofs.YtkmgcggoemlaaaaGreatDoor
open Go Go.Fw Go.Conc Go.RowKit Go.Fwm Go.ChangeShapes Go.WideShapes Go.ChangeAt

theorem turns_lifted (os : Os) (started : os.Started) (H : Type) (enc : TypeId × Value → H) :
    ReturnsInLeavingWide {} Tryz.checked os 12 .any (fun w args => (Rows.turnsSpec.pre enc Tryz.prog Tryz.f12 [] false w args ∧ laidMetH Tryz.prog laidL w) ∧ sizedMet enc Tryz.prog Tryz.f12 (OpenSpec.ofChange Rows.turnsSpec) false w args)
      (Rows.turnsSpec.post enc Tryz.prog Tryz.f12 false true false false) := by
  refine rl_and (C := Tryz.checked) (X := fun w _ => laidMetH Tryz.prog laidL w) (fun _ _ _ hh h => h.of_heap hh) own started Tryz.func12
    (ChangeSpec.witness_at (enc := enc) (C := Tryz.checked) (os := os) (X := fun w _ => laidMetH Tryz.prog laidL w) false (laidWorld os) #[.slice none 0 0, .slice none 0 0, .slice none 0 0] 8 rfl (by kernel_rfl) (by kernel_rfl) (by kernel_rfl) (by kernel_rfl) (by kernel_rfl) (laidWorld_met os _)) ?_
  intro W base args ds gs before hval0 hW hL hsh
  have hval : ∀ (j : Nat) t v, Tryz.f12.params[j]? = some t → args[j]? = some v → Value.okWide Tryz.prog W .any base t v := hval0
  have hW' := hW
  obtain ⟨p, q, hA0, hV, rfl, hfz, hnd⟩ := hW
  have hA : DataW.TrodAll enc Tryz.prog W 0 (fun _ => true) true Tryz.f12.params.toList args.toList ds p := hA0
  rw [Tryz.params12] at hA hval
  obtain ⟨v0, vs0, d0, ds0, p0, q0, hargs, rfl, rfl, h0, r0⟩ := trodAll_cons hA
  obtain ⟨v1, vs1, d1, ds1, p1, q1, rfl, rfl, rfl, h1, r1⟩ := trodAll_cons r0
  obtain ⟨v2, vs2, d2, ds2, p2, q2, rfl, rfl, rfl, h2, r2⟩ := trodAll_cons r1
  obtain ⟨rfl, rfl, rfl⟩ := trodAll_nil r2
  obtain rfl : args = #[v0, v1, v2] := by cases args; simp_all
  obtain ⟨rfl, rfl⟩ := trodVars_none hV
  obtain ⟨a0, l0, c0, rfl, s0⟩ := arg59 (hval 0 59 v0 rfl rfl) h0
  obtain ⟨a1, l1, c1, rfl, s1⟩ := arg59 (hval 1 59 v1 rfl rfl) h1
  obtain ⟨a2, l2, c2, rfl, s2⟩ := arg60 (hval 2 60 v2 rfl rfl) h2
  have hlt : ∀ {t : TypeId} {v : Value} {d : DataW H} {ps : List MemPlace}, DataW.Trod enc Tryz.prog W 0 (fun _ => true) true t v d ps → ∀ x ∈ ps, x.block < W.heap.size := fun h => by obtain ⟨m, hm⟩ := h; exact DataW.trod_lt m _ _ _ hm
  have hbl : ∀ x, (∃ c t fr, W.heap[x]? = some (Obj.cells c t fr)) → x < W.heap.size := fun x ⟨c, t, fr, e⟩ => (Array.getElem?_eq_some_iff.1 e).1
  clear hA0 hval0
  refine start_row2 (handle_of_laid hL) (shaped2 hsh) (by kernel_rfl) (fun i x hx => ?_) fun w hs hg hb hi hc => ?_
  · rcases i with _ | _ | _ | i
    · simp at hx; subst hx; exact .inr ⟨_, _, _, rfl, s0.cells⟩
    · simp at hx; subst hx; exact .inr ⟨_, _, _, rfl, s1.cells⟩
    · simp at hx; subst hx; exact .inr ⟨_, _, _, rfl, s2.cells⟩
    · simp at hx
  · obtain ⟨z0, hz0⟩ := (s0.prv hb (by have := hg.lt; omega) hs fun A v hx hcell hok => hc 0 _ A v rfl (by obtain ⟨x, e1, e2⟩ := hx; rw [e1]; exact congrArg some e2) hcell hok)
    obtain ⟨z1, hz1⟩ := (s1.prv hb (by have := hg.lt; omega) hs fun A v hx hcell hok => hc 1 _ A v rfl (by obtain ⟨x, e1, e2⟩ := hx; rw [e1]; exact congrArg some e2) hcell hok)
    refine turns_priv (W := W) (fun W' bel => ?_) hg hz0 hz1 (s2.prv hb (by have := hg.lt; omega) fun A v hx hcell hok => hc 2 _ A v rfl (by obtain ⟨x, e1, e2⟩ := hx; rw [e1]; exact congrArg some e2) hcell hok)
    exact ⟨_, _, _, [], _, [], hW', trodAll_mk1 (shut_bool Tryz.underlying4 _), (trodAll_cons_mk (Below.trod laidOut (by kernel_rfl) (of_decide_eq_true (by kernel_rfl)) h0 bel (hlt h0)) (trodAll_cons_mk (Below.trod laidOut (by kernel_rfl) (of_decide_eq_true (by kernel_rfl)) h1 bel (hlt h1)) (trodAll_cons_mk (Below.trod laidOut (by kernel_rfl) (of_decide_eq_true (by kernel_rfl)) h2 bel (hlt h2)) trodAll_mk0))), rfl, bel.frame _, fun h => by cases h⟩

theorem turns_row : Rows.TurnsSaid :=
  OpenClaim.holds_of_wide_leaving 12 Tryz.f12 rfl rfl rfl rfl rfl rfl rfl ⟨rfl, rfl, rfl, rfl, rfl⟩ rfl rfl rfl rfl rfl (by kernel_rfl) Tryz.func12 (by kernel_rfl)
    (of_decide_eq_true (by kernel_rfl)) (by unfold Func.isWrapper; first | (rw [if_pos (by decide +kernel)]; kernel_rfl) | (rw [if_neg (by decide +kernel)]; exact ⟨rfl, rfl⟩))
    (fun os started H enc _ => turns_lifted os started H enc)
theorem turns_card : Rows.TurnsCardSaid :=
  card_goes .later [.handle] true (true, "a92912a9f4f08fbf195758ad90ff77dd450bbb634acd63370d8d1a8325452fc3") true true
    turns_row (by kernel_rfl) turns_row_tie rfl ⟨rfl, rfl⟩ (by kernel_rfl) rfl
    (fun f fn hf hfn => by
      obtain rfl : f = 12 := Option.some.inj ((show Tryz.prog.funcNamed Rows.turnsRow.func = some 12 by kernel_rfl).symm.trans hf) |>.symm
      obtain rfl : fn = Tryz.f12 := (Option.some.inj (Tryz.func12.symm.trans hfn)).symm
      exact ⟨by kernel_rfl, fun j t ht => by
        have h3 : t ∈ [59, 60] := by
          rw [Tryz.params12] at ht
          rcases j with _ | _ | _ | j <;> simp at ht <;> subst ht <;> decide
        have h4 : [59, 60].all (fun t => Tryz.prog.wantsStandIn t == false) = true := by kernel_rfl
        exact beq_iff_eq.1 (List.all_eq_true.1 h4 t h3)⟩)
    (by kernel_rfl)
#print axioms turns_card
end Go.Proofs.YtkmgcggoemlaaaaGreatDoor
end
