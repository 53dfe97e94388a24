/-
  Part 14 of the common ground of this seat: what single parts show stands ahead of each.
  No condition.
-/
import Derived.Test.YtkmgcggoemlaaaaGreatDoorJ13
import Derived.Outline
import Derived.Laws.BitsAllLaws
import Derived.StillTailTactics

section
/- Erase of a page. No condition. -/
set_option linter.unusedSimpArgs false
set_option linter.unusedVariables false
namespace Go.Proofs.YtkmgcggoemlaaaaGreatDoor
open Go.RowKit Go.Fwm

theorem FRep.fresh_set {w : World} {X : Nat → Prop} {pf bf be : Nat} {f : Fl} (h : FRep w X pf bf be f) (j : Nat) (x : UInt8) : FRep (w.setCell ⟨bf, j, none⟩ (.int .u8 (x.toNat : Int))) X pf bf be { f with fresh := f.fresh.set j x } := by
  obtain ⟨⟨ao, co, cf, ve, h1, h2, h3, h4, h5, h6⟩, hfr, ne1, ne2, ne3, hb, o1, o2, o3, o4, o5, o6, o7⟩ := h
  have hon : Only (fun b => b = bf) w (w.setCell ⟨bf, j, none⟩ (.int .u8 (x.toNat : Int))) := (Only.refl _ w).set _ (.inl rfl)
  have e : (f.fresh.set j x).map enc = (f.fresh.map enc).set j (.int .u8 (x.toNat : Int)) := by rw [List.map_set]; rfl
  refine ⟨⟨ao, co, cf, ve, ?_, h2.only hon fun a ha => ?_, h3, fun a ha => Nat.lt_of_lt_of_le (h4 a ha) hon.le, ⟨?_, h5.2⟩, by simpa using h6⟩, ?_, ne1, ne2, ne3, Nat.lt_of_lt_of_le hb hon.le, o1, by simpa using o2, o3, by simpa using o4, o5, o6, o7⟩
  · have := h1.setNe (a := ⟨bf, j, none⟩) (.int .u8 (x.toNat : Int)) ne1
    simpa [flCells] using this
  · exact fun e => h3 a ha (.inr (.inr (.inl e)))
  · exact h5.1.kept (row := some bf) ⟨rfl, rfl, rfl, hon.le, fun k hk hne => hon.keep k hk fun e => hne (by rw [e])⟩ (by
      cases hv : ve.ownBlock with
      | none => exact .inl rfl
      | some k => exact .inr fun e => by cases e; exact ne3 (h5.2 _ hv))
  · show Blk _ bf 5 _
    rw [e]
    exact hfr.set j _

/-- The flash alone has turned. -/
structure FAt (w : World) (X : Nat → Prop) (pf bf be : Nat) (f : Fl) (w' : World) (be' : Nat) : Prop where
  rep : FRep w' X pf bf be' f
  bq : be' = be ∨ w.heap.size ≤ be'
  on : Only (FF pf bf be) w w'
theorem FAt.then_ {w w' w'' : World} {X : Nat → Prop} {pf bf be be' be'' : Nat} {f f' : Fl} (h : FAt w X pf bf be f w' be') (k : FAt w' X pf bf be' f' w'' be'') : FAt w X pf bf be f' w'' be'' := by
  refine ⟨k.rep, ?_, h.on.trans k.on fun b hb x => ?_⟩
  · rcases k.bq with e | e
    · rw [e]; exact h.bq
    · exact .inr (Nat.le_trans h.on.le e)
  · rcases x with x | x | x
    · exact .inl x
    · exact .inr (.inl x)
    · rcases h.bq with y | y
      · exact .inr (.inr (x.trans y))
      · omega
theorem FAt.of {w w' : World} {X : Nat → Prop} {pf bf be : Nat} {f' : Fl} (h : FTo w X pf bf be f' w') : ∃ be', FAt w X pf bf be f' w' be' := by
  obtain ⟨be', h1, h2, h3⟩ := h
  exact ⟨be', h1, h2, h3⟩
theorem FAt.to {w w' : World} {X : Nat → Prop} {pf bf be be' : Nat} {f' : Fl} (h : FAt w X pf bf be f' w' be') : FTo w X pf bf be f' w' := ⟨be', h.rep, h.bq, h.on⟩
theorem FAt.drewN {w w' : World} {X : Nat → Prop} {pf bf be be' : Nat} {f : Fl} (h : FAt w X pf bf be f w' be') (k : Nat) : FAt w X pf bf be f (w'.drewN k) be' := by
  obtain ⟨⟨⟨ao, co, cf, ve, h1, h2, h3, h4, h5, h6⟩, hfr, r1, r2, r3, r4, r5, r6, r7, r8, r9, r10, r11⟩, hb, hon⟩ := h
  exact ⟨⟨⟨ao, co, cf, ve, h1, h2, h3, h4, h5, h6⟩, hfr, r1, r2, r3, r4, r5, r6, r7, r8, r9, r10, r11⟩, hb, hon.drewN k⟩
theorem FAt.fresh_set {w w' : World} {X : Nat → Prop} {pf bf be be' : Nat} {f : Fl} (h : FAt w X pf bf be f w' be') (j : Nat) (x : UInt8) :
    FAt w X pf bf be { f with fresh := f.fresh.set j x } (w'.setCell ⟨bf, j, none⟩ (.int .u8 (x.toNat : Int))) be' :=
  ⟨h.rep.fresh_set j x, h.bq, h.on.set _ (.inl (.inr (.inl rfl)))⟩

/-- Facts for a walk over the flash's new slot. -/
theorem FRep.facts {w : World} {X : Nat → Prop} {pf bf be : Nat} {f : Fl} (h : FRep w X pf bf be f) : ∃ cf, w.cell? ⟨pf, 1, none⟩ = some (.slice (some ⟨bf, 0, none⟩) f.fresh.length cf) ∧ w.cell? ⟨pf, 6, none⟩ = some (.int .u8 (f.torn.toNat : Int)) ∧ f.fresh.length ≤ cf ∧ cf ≤ maxLen ∧
    ∀ j, j < f.fresh.length → w.cell? ⟨bf, j, none⟩ = some (.int .u8 ((f.fresh.getD j 0).toNat : Int)) ∧ w.frozen? ⟨bf, j, none⟩ = false := by
  obtain ⟨ao, co, cf, ve, h1, h2, h3, h4, h5, h6, h7, _⟩ := h.blk
  refine ⟨cf, h1.cell rfl, h1.cell rfl, h6, h7, fun j hj => ⟨h.fresh.cell ?_, h.fresh.free j⟩⟩
  simp [enc, hj]

theorem setFrom_succ_255 (l : List UInt8) (p n : Nat) : setFrom l p (fun _ _ => 255) (n + 1) = (setFrom l p (fun _ _ => 255) n).set (p * 64 + n) 255 := by
  show (setFrom l p (fun _ _ => 255) n).modify (p * 64 + n) (fun _ => 255) = _
  apply List.ext_getElem?
  intro i
  rw [List.getElem?_modify, List.getElem?_set]
  by_cases h : p * 64 + n = i
  · subst h; simp; split <;> simp_all
  · simp [h]

theorem news_new (w : World) (cs : Array Value) (t : TypeId) : ∀ j u, cs.toList[j]? = some u → (w.alloc (.cells cs t)).cell? ((⟨w.heap.size, 0, none⟩ : Addr).add j) = some u := by
  intro j u hu
  rw [show (⟨w.heap.size, 0, none⟩ : Addr).add j = ⟨w.heap.size, j, none⟩ by unfold Addr.add; split <;> simp_all]
  rw [World.cell_blk (heap_alloc_new w (.cells cs t))]
  simpa using hu
end Go.Proofs.YtkmgcggoemlaaaaGreatDoor
namespace Go
open Go Go.Fwm Go.RowKit Go.Proofs.YtkmgcggoemlaaaaGreatDoor
def Fwm.Fl.ev (f : Fl) (k p : Nat) : Fl := { f with events := f.events ++ [(k, p)] }
end Go
namespace Go.Proofs.YtkmgcggoemlaaaaGreatDoor
open Go.RowKit Go.Fwm
end Go.Proofs.YtkmgcggoemlaaaaGreatDoor
namespace Go
open Go Go.Fwm Go.RowKit Go.Proofs.YtkmgcggoemlaaaaGreatDoor
def Fwm.Fl.fr (f : Fl) (l : List UInt8) : Fl := { f with fresh := l }
end Go
namespace Go.Proofs.YtkmgcggoemlaaaaGreatDoor
open Go.RowKit Go.Fwm
theorem Fl.fr_fr (f : Fl) (l m : List UInt8) : (f.fr l).fr m = f.fr m := rfl
theorem Fl.fr_fresh (f : Fl) (l : List UInt8) : (f.fr l).fresh = l := rfl
theorem Fl.fr_self (f : Fl) : f.fr f.fresh = f := rfl
theorem Fl.fr_eq {f : Fl} {l : List UInt8} (h : f.fresh = l) : f.fr l = f := by subst h; rfl
theorem Fl.cut_fresh (f : Fl) : f.cut.fresh = f.fresh := by unfold Fl.cut; split <;> rfl
theorem Fl.cut_torn (f : Fl) : f.cut.torn = f.torn := by unfold Fl.cut; split <;> rfl
theorem Fl.ev_cutB (f : Fl) (k p : Nat) : (f.ev k p).cutB = f.cutB := rfl
theorem FAt.fr {w w' : World} {X : Nat → Prop} {pf bf be be' : Nat} {f : Fl} {l : List UInt8} (h : FAt w X pf bf be (f.fr l) w' be') (j : Nat) (x : UInt8) : FAt w X pf bf be (f.fr (l.set j x)) (w'.setCell ⟨bf, j, none⟩ (.int .u8 (x.toNat : Int))) be' := h.fresh_set j x

/-- The list of events is one longer: for a walk at its append. -/
theorem event_step (w : World) (X : Nat → Prop) (pf bf be : Nat) (f : Fl) (h : FRep w X pf bf be f) (k p : Nat) (he : f.events.length < 1000000000) {ve : Value} (hc2 : w.cell? ⟨pf, 2, none⟩ = some ve) :
    (w.alloc (.cells #[.int .i64 (k : Int), .int .i64 (p : Int)] 80)).ownsRow 0 80 2 ve f.events.length (evCells f.events) ∧
    ∀ v' w1, w1.ownsRow 0 80 2 v' (f.events.length + 1) (evCells f.events ++ [.int .i64 (k : Int), .int .i64 (p : Int)]) → (w.alloc (.cells #[.int .i64 (k : Int), .int .i64 (p : Int)] 80)).grownBy w1 ve.ownBlock →
      (∀ b, v'.ownBlock = some b → ve.ownBlock = some b ∨ (w.alloc (.cells #[.int .i64 (k : Int), .int .i64 (p : Int)] 80)).heap.size ≤ b) →
      (∃ be', FAt w X pf bf be (f.ev k p) (w1.setCell ⟨pf, 2, none⟩ v') be') ∧ w1.cell? ⟨pf, 2, none⟩ = some ve ∧ w1.frozen? ⟨pf, 2, none⟩ = false ∧ ∃ A n c, v' = .slice A n c := by
  obtain ⟨ao, co, cf, ve2, h1, h2, h3, h4, h5, h6⟩ := h.blk
  have e : ve2 = ve := by
    have := (h1.cell (i := 2) (v := ve2) rfl).symm.trans hc2
    exact Option.some.inj this
  subst e
  refine ⟨h5.1.alloc _, fun v' w1 g1 g2 g3 => ?_⟩
  have hon : Only (fun b => some b = ve2.ownBlock) w w1 := by
    refine ⟨?_, fun b hb hn => ?_⟩
    · have := g2.size; simp at this; omega
    · rw [g2.block b (by simp; omega) hn, heap_alloc_old w _ hb]
  obtain ⟨be', q1, q2, q3⟩ := h.event (w2 := w) h1 h5 k p hon g1 (fun b hb => (g3 b hb).imp id fun x => by simp at x; omega) he
  have hpf := h1.only hon (fun e => h.ne2 (h5.2 pf e.symm))
  exact ⟨⟨be', q1, q2, q3⟩, hpf.cell rfl, hpf.free 2, by rcases g1.2 with ⟨h, _⟩ | ⟨g, cap, cur, h, _⟩ <;> exact ⟨_, _, _, h⟩⟩

set_option maxHeartbeats 1000000 in
theorem erase_bad (w : World) (X : Nat → Prop) (pf bf be : Nat) (f : Fl) (h : FRep w X pf bf be f) (p : Nat) (hp : ¬ p < f.pages) :
    Calls Tryz.prog 109 #[.pointer (some ⟨pf, 0, none⟩), .int .i64 (p : Int)] w fun e w' => e = .returned (errV (f.erase p).err) ∧ FTo w X pf bf be (f.erase p).f w' := by
  have e1 : f.erase p = { err := some 8, f } := by unfold Fl.erase; rw [if_neg hp]
  have hpg := page_ok w X pf bf be f h p
  rw [decide_eq_false hp] at hpg
  have hR : FTo w X pf bf be f w := ⟨be, h, .inl rfl, Only.refl _ _⟩
  rw [e1]
  clear e1 h hp
  go_enter Tryz.func109, Tryz.ntmps109
  go_wp2_with (go_at_call 113; refine hpg.mono ?_; rintro e w' ⟨rfl, rfl⟩)
  go_ret
  exact ⟨rfl, hR⟩

set_option maxRecDepth 100000 in
set_option maxHeartbeats 2000000 in
theorem erase_good (w : World) (X : Nat → Prop) (pf bf be : Nat) (f : Fl) (h : FRep w X pf bf be f) (p : Nat) (hp : p < f.pages) (he : f.events.length < 1000000000) (hc : f.cutB = false) :
    Calls Tryz.prog 109 #[.pointer (some ⟨pf, 0, none⟩), .int .i64 (p : Int)] w fun e w' => e = .returned (errV (f.erase p).err) ∧ FTo w X pf bf be (f.erase p).f w' := by
  have e1 : f.erase p = { err := none, f := (f.ev 0 p).cut.fr (setFrom f.fresh p (fun _ _ => 255) 64) } := by
    unfold Fl.erase Fl.tornN; rw [if_pos hp, hc]; rfl
  rw [e1]
  have hpg := page_ok w X pf bf be f h p
  rw [decide_eq_true hp] at hpg
  have hpl : p * 64 + 64 ≤ f.fresh.length := by unfold Fl.pages at hp; omega
  have hfl := h.fresh_le
  obtain ⟨i0, hi, hz0, hz1, hz2⟩ := info_parts info80
  obtain ⟨ve, hc2, hfz2⟩ : ∃ ve, w.cell? ⟨pf, 2, none⟩ = some ve ∧ w.frozen? ⟨pf, 2, none⟩ = false := by
    obtain ⟨ao, co, cf, ve, h1, _⟩ := h.blk
    exact ⟨ve, h1.cell rfl, h1.free 2⟩
  obtain ⟨ho, hst⟩ := event_step w X pf bf be f h 0 p he hc2
  have hcut : (f.ev 0 p).cutB = false := hc
  have HS := Lib.hid hst; clear hst
  have HO := Lib.hid ho; clear ho
  have HC := Lib.hid hcut; clear hcut hc e1 h
  go_enter Tryz.func109, Tryz.ntmps109
  go_wp2_with (first | (go_at_call 113; refine hpg.mono ?_; rintro e w' ⟨rfl, rfl⟩) | (at_builtin; refine wpList_append_where ?g1 (.tmp 16) (.tmp 19) 74 ?g2 80 i0 (.agg #[.int .i64 0, .int .i64 0]) 2 16 ?g3 ?g4 ?g5 ?g6 ?g7 ?g8 ?g9 ve f.events.length (evCells f.events) ?g10 ?g11 ⟨w.heap.size, 0, none⟩ 1 1 [.int .i64 0, .int .i64 (p : Int)] ?g12 ?g13 ?g14 ?g15 ?g16 ?g17 ?g18))
  case g1 => exact rfl
  case g2 => exact rfl
  case g3 => exact Tryz.underlying74
  case g4 => exact hi
  case g5 => exact hz0
  case g6 => exact hz1
  case g7 => exact hz2
  case g8 => exact rfl
  case g9 => exact Nat.two_pos
  case g10 => exact rfl
  case g11 => exact HO.out
  case g12 => exact rfl
  case g13 => exact rfl
  case g14 =>
    exact news_new w #[.int .i64 0, .int .i64 (p : Int)] 80
  case g15 => intro u hu; simp at hu; rcases hu with rfl | rfl <;> rfl
  case g16 => simp only [maxLen]; omega
  case g17 => omega
  case g18 =>
    intro v' w1 h1 h2 h3
    obtain ⟨⟨be1, hat⟩, k1, k2, A', n', c', rfl⟩ := HS.out v' w1 h1 h2 (by simpa using h3)
    have HA := Lib.hid hat; clear hat h1 h2 h3
    go_wp2_with (go_at_call 60; refine (cut_ok _ X pf bf be1 _ HA.out.rep).mono ?_; rintro e w' ⟨rfl, hto⟩; rw [HC.out])
    obtain ⟨be2, hat2⟩ := FAt.of hto
    have H2 := Lib.hid (HA.out.then_ hat2)
    clear hat2 hto k1 k2
    go_loopw [25] (fun i wr => ∃ k : Nat, k ≤ 64 ∧ i = .int .i64 k ∧ ∃ be', FAt w X pf bf be ((f.ev 0 p).cut.fr (setFrom f.fresh p (fun _ _ => 255) k)) wr be') (fun i _ => 64 - (intOf i).toNat)
    case atStart => exact ⟨0, Nat.zero_le _, rfl, be2, by show FAt w X pf bf be ((f.ev 0 p).cut.fr (f.ev 0 p).fresh) w' be2; rw [Fl.fr_eq (Fl.cut_fresh (f.ev 0 p))]; exact H2.out⟩
    case round =>
      obtain ⟨k, hk, rfl, be3, h3⟩ := hrel
      by_cases hlt : k < 64
      · obtain ⟨cf, q1, q2, q3, q4, q5⟩ := h3.rep.facts
        obtain ⟨q6, q7⟩ := q5 (p * 64 + k) (by simp only [Fl.fr_fresh, setFrom_length]; omega)
        simp only [Fl.fr_fresh, setFrom_length] at q1 q3
        have H3 := Lib.hid h3; clear h3 q5
        go_wp2
        go_roundw
        case rel => exact ⟨k + 1, by omega, by go_num, be3, by rw [setFrom_succ_255]; exact H3.out.fr (p * 64 + k) 255⟩
        case measure => simp [intOf]; omega
      · have hk' : k = 64 := by omega
        have H3 := Lib.hid h3; clear h3
        have E := Lib.hid hk'; clear hk'
        go_wp2
        go_ret
        exact ⟨rfl, by have := H3.out; rw [E.out] at this; exact this.to⟩
set_option maxRecDepth 100000 in
set_option maxHeartbeats 2000000 in
theorem erase_cut (w : World) (X : Nat → Prop) (pf bf be : Nat) (f : Fl) (h : FRep w X pf bf be f) (p : Nat) (hp : p < f.pages) (he : f.events.length < 1000000000) (hc : f.cutB = true) :
    Calls Tryz.prog 109 #[.pointer (some ⟨pf, 0, none⟩), .int .i64 (p : Int)] w fun e w' => e = .returned (errV (f.erase p).err) ∧ FTo w X pf bf be (f.erase p).f w' := by
  have e1 : f.erase p = { err := some 7, f := (f.ev 0 p).cut.fr (setFrom f.fresh p (fun _ _ => 255) (f.torn.toNat % 64)) } := by
    unfold Fl.erase Fl.tornN; rw [if_pos hp, hc]
    rw [show min (f.torn.toNat % 64) 64 = f.torn.toNat % 64 by omega]; rfl
  rw [e1]
  have hpg := page_ok w X pf bf be f h p
  rw [decide_eq_true hp] at hpg
  have hpl : p * 64 + 64 ≤ f.fresh.length := by unfold Fl.pages at hp; omega
  have hfl := h.fresh_le
  obtain ⟨i0, hi, hz0, hz1, hz2⟩ := info_parts info80
  obtain ⟨ve, hc2, hfz2⟩ : ∃ ve, w.cell? ⟨pf, 2, none⟩ = some ve ∧ w.frozen? ⟨pf, 2, none⟩ = false := by
    obtain ⟨ao, co, cf, ve, h1, _⟩ := h.blk
    exact ⟨ve, h1.cell rfl, h1.free 2⟩
  obtain ⟨ho, hst⟩ := event_step w X pf bf be f h 0 p he hc2
  have hcut : (f.ev 0 p).cutB = true := hc
  have HS := Lib.hid hst; clear hst
  have HO := Lib.hid ho; clear ho
  have HC := Lib.hid hcut; clear hcut hc e1 h
  go_enter Tryz.func109, Tryz.ntmps109
  go_wp2_with (first | (go_at_call 113; refine hpg.mono ?_; rintro e w' ⟨rfl, rfl⟩) | (at_builtin; refine wpList_append_where ?g1 (.tmp 16) (.tmp 19) 74 ?g2 80 i0 (.agg #[.int .i64 0, .int .i64 0]) 2 16 ?g3 ?g4 ?g5 ?g6 ?g7 ?g8 ?g9 ve f.events.length (evCells f.events) ?g10 ?g11 ⟨w.heap.size, 0, none⟩ 1 1 [.int .i64 0, .int .i64 (p : Int)] ?g12 ?g13 ?g14 ?g15 ?g16 ?g17 ?g18))
  case g1 => exact rfl
  case g2 => exact rfl
  case g3 => exact Tryz.underlying74
  case g4 => exact hi
  case g5 => exact hz0
  case g6 => exact hz1
  case g7 => exact hz2
  case g8 => exact rfl
  case g9 => exact Nat.two_pos
  case g10 => exact rfl
  case g11 => exact HO.out
  case g12 => exact rfl
  case g13 => exact rfl
  case g14 =>
    exact news_new w #[.int .i64 0, .int .i64 (p : Int)] 80
  case g15 => intro u hu; simp at hu; rcases hu with rfl | rfl <;> rfl
  case g16 => simp only [maxLen]; omega
  case g17 => omega
  case g18 =>
    intro v' w1 h1 h2 h3
    obtain ⟨⟨be1, hat⟩, k1, k2, A', n', c', rfl⟩ := HS.out v' w1 h1 h2 (by simpa using h3)
    have HA := Lib.hid hat; clear hat h1 h2 h3
    go_wp2_with (go_at_call 60; refine (cut_ok _ X pf bf be1 _ HA.out.rep).mono ?_; rintro e w' ⟨rfl, hto⟩; rw [HC.out])
    obtain ⟨be2, hat2⟩ := FAt.of hto
    have H2 := Lib.hid (HA.out.then_ hat2)
    clear hat2 hto k1 k2
    go_loopw [25] (fun i wr => ∃ k : Nat, k ≤ f.torn.toNat % 64 ∧ i = .int .i64 k ∧ ∃ be', FAt w X pf bf be ((f.ev 0 p).cut.fr (setFrom f.fresh p (fun _ _ => 255) k)) wr be') (fun i _ => 64 - (intOf i).toNat)
    case atStart => exact ⟨0, Nat.zero_le _, rfl, be2, by show FAt w X pf bf be ((f.ev 0 p).cut.fr (f.ev 0 p).fresh) w' be2; rw [Fl.fr_eq (Fl.cut_fresh (f.ev 0 p))]; exact H2.out⟩
    case round =>
      obtain ⟨k, hk, rfl, be3, h3⟩ := hrel
      obtain ⟨cf, q1, q2, q3, q4, q5⟩ := h3.rep.facts
      obtain ⟨q6, q7⟩ := q5 (p * 64 + k) (by simp only [Fl.fr_fresh, setFrom_length]; omega)
      simp only [Fl.fr_fresh, setFrom_length] at q1 q3
      have htn : ((f.ev 0 p).cut.fr (setFrom f.fresh p (fun _ _ => 255) k)).torn.toNat = f.torn.toNat := by show (f.ev 0 p).cut.torn.toNat = _; rw [Fl.cut_torn]; rfl
      rw [htn] at q2
      obtain ⟨T, hT⟩ : ∃ T, f.torn.toNat = T := ⟨_, rfl⟩
      have hT256 : f.torn.toNat < 256 := f.torn.toNat_lt
      rw [hT] at q2 hk hT256
      have H3 := Lib.hid h3; clear h3 q5
      have HT := Lib.hid hT; clear hT htn
      have hk64 : k < 64 := by omega
      by_cases hlt : k < T % 64
      · have hd : ((k : Int) ≥ (T : Int) % 64) = False := by simp; omega
        have hd' : decide ((T : Int) % 64 ≤ (k : Int)) = false := by simp; omega
        clear hd
        go_wp2
        go_roundw
        case rel => exact ⟨k + 1, by rw [HT.out]; omega, by go_num, be3, by rw [setFrom_succ_255]; exact H3.out.fr (p * 64 + k) 255⟩
        case measure => simp [intOf]; omega
      · have hd' : decide ((T : Int) % 64 ≤ (k : Int)) = true := by simp; omega
        have E := Lib.hid (show k = T % 64 by omega)
        go_wp2
        go_ret
        exact ⟨rfl, by have := H3.out; rw [E.out, ← HT.out] at this; exact this.to⟩
theorem erase_ok (w : World) (X : Nat → Prop) (pf bf be : Nat) (f : Fl) (h : FRep w X pf bf be f) (p : Nat) (he : f.events.length < 1000000000) :
    Calls Tryz.prog 109 #[.pointer (some ⟨pf, 0, none⟩), .int .i64 (p : Int)] w fun e w' => e = .returned (errV (f.erase p).err) ∧ FTo w X pf bf be (f.erase p).f w' := by
  by_cases hp : p < f.pages
  · cases hc : f.cutB with
    | false => exact erase_good w X pf bf be f h p hp he hc
    | true => exact erase_cut w X pf bf be f h p hp he hc
  · exact erase_bad w X pf bf be f h p hp
end Go.Proofs.YtkmgcggoemlaaaaGreatDoor
end

section
/- Program of a page. No condition. -/
set_option linter.unusedSimpArgs false
set_option linter.unusedVariables false
namespace Go.Proofs.YtkmgcggoemlaaaaGreatDoor
open Go.RowKit Go.Fwm

theorem u8and (x y : UInt8) : bits .and .u8 (x.toNat : Int) (y.toNat : Int) = ((x &&& y).toNat : Int) := by
  rw [u8_and_nat x.toNat y.toNat x.toNat_lt y.toNat_lt, UInt8.toNat_and]
theorem setFrom_succ_and (l : List UInt8) (p : Nat) (zs : List UInt8) (k : Nat) {x y : UInt8} (hlt : p * 64 + k < l.length) (hx : (setFrom l p (fun i x => x &&& zs.getD i 0) k).getD (p * 64 + k) 0 = x) (hy : zs.getD k 0 = y) :
    setFrom l p (fun i x => x &&& zs.getD i 0) (k + 1) = (setFrom l p (fun i x => x &&& zs.getD i 0) k).set (p * 64 + k) (x &&& y) := by
  show (setFrom l p (fun i x => x &&& zs.getD i 0) k).modify (p * 64 + k) (fun x => x &&& zs.getD k 0) = _
  have hl := setFrom_length l p (fun i x => x &&& zs.getD i 0) k
  generalize setFrom l p (fun i x => x &&& zs.getD i 0) k = m at hx hl
  apply List.ext_getElem?
  intro i
  rw [List.getElem?_modify, List.getElem?_set, hy]
  by_cases h : p * 64 + k = i
  · subst h
    have : m[p * 64 + k]? = some x := by
      have hlt' : p * 64 + k < m.length := by omega
      rw [← hx]; simp [hlt']
    rw [if_pos rfl, if_pos (by omega), this]
    simp
  · simp [h]
theorem program_read {w w' : World} {F : Nat → Prop} {B : Option Addr} {zs : List UInt8} (hB : Bytes w B zs) (h : Only F w w') (hA : Away F B) {k : Nat} (hk : k < zs.length) :
    ∃ y bb oo, zs.getD k 0 = y ∧ B = some ⟨bb, oo, none⟩ ∧ w'.cell? ⟨bb, oo + k, none⟩ = some (.int .u8 (y.toNat : Int)) := by
  obtain ⟨b, o, e, hc⟩ := hB.only h hA k hk
  exact ⟨_, b, o, rfl, e, by rw [hc]; simp [hk]⟩
set_option maxHeartbeats 1000000 in
theorem program_bad (w : World) (X : Nat → Prop) (pf bf be : Nat) (f : Fl) (h : FRep w X pf bf be f) (p : Nat) (B : Option Addr) (cb : Nat) (zs : List UInt8) (hz : zs.length ≤ 64) (hB : Bytes w B zs) (hA : Away (FF pf bf be) B) (hp : ¬ p < f.pages) :
    Calls Tryz.prog 110 #[.pointer (some ⟨pf, 0, none⟩), .int .i64 (p : Int), .slice B zs.length cb] w fun e w' => e = .returned (errV (f.program p zs).err) ∧ FTo w X pf bf be (f.program p zs).f w' := by
  have e1 : f.program p zs = { err := some 8, f } := by unfold Fl.program; rw [if_neg hp]
  have hpg := page_ok w X pf bf be f h p
  rw [decide_eq_false hp] at hpg
  have hR : FTo w X pf bf be f w := ⟨be, h, .inl rfl, Only.refl _ _⟩
  rw [e1]
  clear e1 h hp
  go_enter Tryz.func110, Tryz.ntmps110
  go_wp2_with (go_at_call 113; refine hpg.mono ?_; rintro e w' ⟨rfl, rfl⟩)
  go_ret
  exact ⟨rfl, hR⟩

set_option maxRecDepth 100000 in
set_option maxHeartbeats 2000000 in
theorem program_good (w : World) (X : Nat → Prop) (pf bf be : Nat) (f : Fl) (h : FRep w X pf bf be f) (p : Nat) (B : Option Addr) (cb : Nat) (zs : List UInt8) (hz : zs.length ≤ 64) (hB : Bytes w B zs) (hA : Away (FF pf bf be) B) (hp : p < f.pages) (he : f.events.length < 1000000000) (hc : f.cutB = false) :
    Calls Tryz.prog 110 #[.pointer (some ⟨pf, 0, none⟩), .int .i64 (p : Int), .slice B zs.length cb] w fun e w' => e = .returned (errV (f.program p zs).err) ∧ FTo w X pf bf be (f.program p zs).f w' := by
  have e1 : f.program p zs = { err := none, f := (f.ev 1 p).cut.fr (setFrom f.fresh p (fun i x => x &&& zs.getD i 0) zs.length) } := by
    unfold Fl.program Fl.tornN; rw [if_pos hp, hc]; rfl
  rw [e1]
  have hpg := page_ok w X pf bf be f h p
  rw [decide_eq_true hp] at hpg
  have hpl : p * 64 + 64 ≤ f.fresh.length := by unfold Fl.pages at hp; omega
  have hfl := h.fresh_le
  obtain ⟨i0, hi, hz0, hz1, hz2⟩ := info_parts info80
  obtain ⟨ve, hc2, hfz2⟩ : ∃ ve, w.cell? ⟨pf, 2, none⟩ = some ve ∧ w.frozen? ⟨pf, 2, none⟩ = false := by
    obtain ⟨ao, co, cf, ve, h1, _⟩ := h.blk
    exact ⟨ve, h1.cell rfl, h1.free 2⟩
  obtain ⟨ho, hst⟩ := event_step w X pf bf be f h 1 p he hc2
  have hcut : (f.ev 1 p).cutB = false := hc
  have HS := Lib.hid hst; clear hst
  have HO := Lib.hid ho; clear ho
  have HC := Lib.hid hcut; clear hcut hc e1 h
  obtain ⟨N, hN⟩ : ∃ N, zs.length = N := ⟨_, rfl⟩
  have HB := Lib.hid hB; clear hB
  rw [hN] at hz ⊢
  have HZ := Lib.hid hN; clear hN
  go_enter Tryz.func110, Tryz.ntmps110
  go_wp2_with (first | (go_at_call 113; refine hpg.mono ?_; rintro e w' ⟨rfl, rfl⟩) | (at_builtin; refine wpList_append_where ?g1 (.tmp 24) (.tmp 27) 74 ?g2 80 i0 (.agg #[.int .i64 0, .int .i64 0]) 2 16 ?g3 ?g4 ?g5 ?g6 ?g7 ?g8 ?g9 ve f.events.length (evCells f.events) ?g10 ?g11 ⟨w.heap.size, 0, none⟩ 1 1 [.int .i64 1, .int .i64 (p : Int)] ?g12 ?g13 ?g14 ?g15 ?g16 ?g17 ?g18))
  case g1 => exact rfl
  case g2 => exact rfl
  case g3 => exact Tryz.underlying74
  case g4 => exact hi
  case g5 => exact hz0
  case g6 => exact hz1
  case g7 => exact hz2
  case g8 => exact rfl
  case g9 => exact Nat.two_pos
  case g10 => exact rfl
  case g11 => exact HO.out
  case g12 => exact rfl
  case g13 => exact rfl
  case g14 =>
    exact news_new w #[.int .i64 1, .int .i64 (p : Int)] 80
  case g15 => intro u hu; simp at hu; rcases hu with rfl | rfl <;> rfl
  case g16 => simp only [maxLen]; omega
  case g17 => omega
  case g18 =>
    intro v' w1 h1 h2 h3
    obtain ⟨⟨be1, hat⟩, k1, k2, A', n', c', rfl⟩ := HS.out v' w1 h1 h2 (by simpa using h3)
    have HA := Lib.hid hat; clear hat h1 h2 h3
    go_wp2_with (go_at_call 60; refine (cut_ok _ X pf bf be1 _ HA.out.rep).mono ?_; rintro e w' ⟨rfl, hto⟩; rw [HC.out])
    obtain ⟨be2, hat2⟩ := FAt.of hto
    have H2 := Lib.hid (HA.out.then_ hat2)
    clear hat2 hto k1 k2
    go_loopw [35] (fun i wr => ∃ k : Nat, k ≤ N ∧ i = .int .i64 k ∧ ∃ be', FAt w X pf bf be ((f.ev 1 p).cut.fr (setFrom f.fresh p (fun i x => x &&& zs.getD i 0) k)) wr be') (fun i _ => N - (intOf i).toNat)
    case atStart => exact ⟨0, Nat.zero_le _, rfl, be2, by show FAt w X pf bf be ((f.ev 1 p).cut.fr (f.ev 1 p).fresh) w' be2; rw [Fl.fr_eq (Fl.cut_fresh (f.ev 1 p))]; exact H2.out⟩
    case round =>
      obtain ⟨k, hk, rfl, be3, h3⟩ := hrel
      by_cases hlt : k < N
      · obtain ⟨cf, q1, q2, q3, q4, q5⟩ := h3.rep.facts
        obtain ⟨q6, q7⟩ := q5 (p * 64 + k) (by simp only [Fl.fr_fresh, setFrom_length]; omega)
        simp only [Fl.fr_fresh, setFrom_length] at q1 q3 q6
        obtain ⟨x, hx⟩ : ∃ x, (setFrom f.fresh p (fun i x => x &&& zs.getD i 0) k).getD (p * 64 + k) 0 = x := ⟨_, rfl⟩
        rw [hx] at q6
        obtain ⟨y, bb, oo, hy, rfl, hyc⟩ := program_read HB.out h3.on hA (k := k) (by rw [HZ.out]; exact hlt)
        have hand := u8and x y
        have hst := setFrom_succ_and f.fresh p zs k (by omega) hx hy
        have H3 := Lib.hid h3; clear h3 q5
        have HX := Lib.hid hst; clear hst hx hy
        have HD := Lib.hid hand; clear hand
        go_wp2
        go_roundw
        case rel => exact ⟨k + 1, by omega, by go_num, be3, by rw [HX.out, HD.out]; exact H3.out.fr (p * 64 + k) (x &&& y)⟩
        case measure => simp [intOf]; omega
      · have hk' : k = N := by omega
        have H3 := Lib.hid h3; clear h3
        have E := Lib.hid hk'; clear hk'
        go_wp2
        go_ret
        exact ⟨rfl, by have := H3.out; rw [E.out] at this; exact this.to⟩
set_option maxRecDepth 100000 in
set_option maxHeartbeats 2000000 in
theorem program_cut (w : World) (X : Nat → Prop) (pf bf be : Nat) (f : Fl) (h : FRep w X pf bf be f) (p : Nat) (B : Option Addr) (cb : Nat) (zs : List UInt8) (hz : zs.length ≤ 64) (hB : Bytes w B zs) (hA : Away (FF pf bf be) B) (hp : p < f.pages) (he : f.events.length < 1000000000) (hc : f.cutB = true) :
    Calls Tryz.prog 110 #[.pointer (some ⟨pf, 0, none⟩), .int .i64 (p : Int), .slice B zs.length cb] w fun e w' => e = .returned (errV (f.program p zs).err) ∧ FTo w X pf bf be (f.program p zs).f w' := by
  have e1 : f.program p zs = { err := some 7, f := (f.ev 1 p).cut.fr (setFrom f.fresh p (fun i x => x &&& zs.getD i 0) (min (f.torn.toNat % 64) zs.length)) } := by
    unfold Fl.program Fl.tornN; rw [if_pos hp, hc]; rfl
  rw [e1]
  have hpg := page_ok w X pf bf be f h p
  rw [decide_eq_true hp] at hpg
  have hpl : p * 64 + 64 ≤ f.fresh.length := by unfold Fl.pages at hp; omega
  have hfl := h.fresh_le
  obtain ⟨i0, hi, hz0, hz1, hz2⟩ := info_parts info80
  obtain ⟨ve, hc2, hfz2⟩ : ∃ ve, w.cell? ⟨pf, 2, none⟩ = some ve ∧ w.frozen? ⟨pf, 2, none⟩ = false := by
    obtain ⟨ao, co, cf, ve, h1, _⟩ := h.blk
    exact ⟨ve, h1.cell rfl, h1.free 2⟩
  obtain ⟨ho, hst⟩ := event_step w X pf bf be f h 1 p he hc2
  have hcut : (f.ev 1 p).cutB = true := hc
  have HS := Lib.hid hst; clear hst
  have HO := Lib.hid ho; clear ho
  have HC := Lib.hid hcut; clear hcut hc e1 h
  obtain ⟨N, hN⟩ : ∃ N, zs.length = N := ⟨_, rfl⟩
  have HB := Lib.hid hB; clear hB
  rw [hN] at hz ⊢
  have HZ := Lib.hid hN; clear hN
  go_enter Tryz.func110, Tryz.ntmps110
  go_wp2_with (first | (go_at_call 113; refine hpg.mono ?_; rintro e w' ⟨rfl, rfl⟩) | (at_builtin; refine wpList_append_where ?g1 (.tmp 24) (.tmp 27) 74 ?g2 80 i0 (.agg #[.int .i64 0, .int .i64 0]) 2 16 ?g3 ?g4 ?g5 ?g6 ?g7 ?g8 ?g9 ve f.events.length (evCells f.events) ?g10 ?g11 ⟨w.heap.size, 0, none⟩ 1 1 [.int .i64 1, .int .i64 (p : Int)] ?g12 ?g13 ?g14 ?g15 ?g16 ?g17 ?g18))
  case g1 => exact rfl
  case g2 => exact rfl
  case g3 => exact Tryz.underlying74
  case g4 => exact hi
  case g5 => exact hz0
  case g6 => exact hz1
  case g7 => exact hz2
  case g8 => exact rfl
  case g9 => exact Nat.two_pos
  case g10 => exact rfl
  case g11 => exact HO.out
  case g12 => exact rfl
  case g13 => exact rfl
  case g14 =>
    exact news_new w #[.int .i64 1, .int .i64 (p : Int)] 80
  case g15 => intro u hu; simp at hu; rcases hu with rfl | rfl <;> rfl
  case g16 => simp only [maxLen]; omega
  case g17 => omega
  case g18 =>
    intro v' w1 h1 h2 h3
    obtain ⟨⟨be1, hat⟩, k1, k2, A', n', c', rfl⟩ := HS.out v' w1 h1 h2 (by simpa using h3)
    have HA := Lib.hid hat; clear hat h1 h2 h3
    go_wp2_with (go_at_call 60; refine (cut_ok _ X pf bf be1 _ HA.out.rep).mono ?_; rintro e w' ⟨rfl, hto⟩; rw [HC.out])
    obtain ⟨be2, hat2⟩ := FAt.of hto
    have H2 := Lib.hid (HA.out.then_ hat2)
    clear hat2 hto k1 k2
    go_loopw [35] (fun i wr => ∃ k : Nat, k ≤ N ∧ k ≤ f.torn.toNat % 64 ∧ i = .int .i64 k ∧ ∃ be', FAt w X pf bf be ((f.ev 1 p).cut.fr (setFrom f.fresh p (fun i x => x &&& zs.getD i 0) k)) wr be') (fun i _ => N - (intOf i).toNat)
    case atStart => exact ⟨0, Nat.zero_le _, Nat.zero_le _, rfl, be2, by show FAt w X pf bf be ((f.ev 1 p).cut.fr (f.ev 1 p).fresh) w' be2; rw [Fl.fr_eq (Fl.cut_fresh (f.ev 1 p))]; exact H2.out⟩
    case round =>
      obtain ⟨k, hk, hkt, rfl, be3, h3⟩ := hrel
      have hT256 : f.torn.toNat < 256 := f.torn.toNat_lt
      by_cases hlt : k < N
      · obtain ⟨cf, q1, q2, q3, q4, q5⟩ := h3.rep.facts
        obtain ⟨q6, q7⟩ := q5 (p * 64 + k) (by simp only [Fl.fr_fresh, setFrom_length]; omega)
        simp only [Fl.fr_fresh, setFrom_length] at q1 q3 q6
        have htn : ((f.ev 1 p).cut.fr (setFrom f.fresh p (fun i x => x &&& zs.getD i 0) k)).torn.toNat = f.torn.toNat := by show (f.ev 1 p).cut.torn.toNat = _; rw [Fl.cut_torn]; rfl
        rw [htn] at q2
        obtain ⟨T, hT⟩ : ∃ T, f.torn.toNat = T := ⟨_, rfl⟩
        rw [hT] at q2 hkt hT256
        obtain ⟨x, hx⟩ : ∃ x, (setFrom f.fresh p (fun i x => x &&& zs.getD i 0) k).getD (p * 64 + k) 0 = x := ⟨_, rfl⟩
        rw [hx] at q6
        obtain ⟨y, bb, oo, hy, rfl, hyc⟩ := program_read HB.out h3.on hA (k := k) (by rw [HZ.out]; exact hlt)
        have hand := u8and x y
        have hst := setFrom_succ_and f.fresh p zs k (by omega) hx hy
        have H3 := Lib.hid h3; clear h3 q5
        have HX := Lib.hid hst; clear hst hx hy
        have HD := Lib.hid hand; clear hand
        have HT := Lib.hid hT; clear hT htn
        by_cases hlt2 : k < T % 64
        · have hd' : decide ((T : Int) % 64 ≤ (k : Int)) = false := by simp; omega
          go_wp2
          go_roundw
          case rel => exact ⟨k + 1, by omega, by rw [HT.out]; omega, by go_num, be3, by rw [HX.out, HD.out]; exact H3.out.fr (p * 64 + k) (x &&& y)⟩
          case measure => simp [intOf]; omega
        · have hd' : decide ((T : Int) % 64 ≤ (k : Int)) = true := by simp; omega
          have E := Lib.hid (show k = min (T % 64) N by omega)
          go_wp2
          go_ret
          exact ⟨rfl, by have := H3.out; rw [E.out, ← HT.out] at this; exact this.to⟩
      · have H3 := Lib.hid h3; clear h3
        have E := Lib.hid (show k = min (f.torn.toNat % 64) N by omega)
        clear hkt hT256
        go_wp2
        go_ret
        exact ⟨rfl, by have := H3.out; rw [E.out] at this; exact this.to⟩
theorem program_ok (w : World) (X : Nat → Prop) (pf bf be : Nat) (f : Fl) (h : FRep w X pf bf be f) (p : Nat) (B : Option Addr) (cb : Nat) (zs : List UInt8) (hz : zs.length ≤ 64) (hB : Bytes w B zs) (hA : Away (FF pf bf be) B) (he : f.events.length < 1000000000) :
    Calls Tryz.prog 110 #[.pointer (some ⟨pf, 0, none⟩), .int .i64 (p : Int), .slice B zs.length cb] w fun e w' => e = .returned (errV (f.program p zs).err) ∧ FTo w X pf bf be (f.program p zs).f w' := by
  by_cases hp : p < f.pages
  · cases hc : f.cutB with
    | false => exact program_good w X pf bf be f h p B cb zs hz hB hA hp he hc
    | true => exact program_cut w X pf bf be f h p B cb zs hz hB hA hp he hc
  · exact program_bad w X pf bf be f h p B cb zs hz hB hA hp
end Go.Proofs.YtkmgcggoemlaaaaGreatDoor
end

section
/- slices.Clone of whatever bytes; Commit, Cut, Restore, Old, Image and Read of a flash. No condition. -/
set_option linter.unusedSimpArgs false
set_option linter.unusedVariables false
namespace Go.Proofs.YtkmgcggoemlaaaaGreatDoor
open Go.RowKit Go.Fwm

/-- What a clone of bytes is. -/
structure Fresh (w w' : World) (A : Option Addr) (n c : Nat) (zs : List UInt8) : Prop where
  bytes : Bytes w' A zs
  len : zs.length = n
  new_ : ∀ a, A = some a → w.heap.size ≤ a.block ∧ a.block < w'.heap.size ∧ a.spot = none ∧ a.off = 0
  cap : n ≤ c ∧ c ≤ maxLen
  nil_ : A = none → n = 0 ∧ c = 0
  own : ∀ a, A = some a → ∃ cs : Array Value, w'.heap[a.block]? = some (.cells cs 5 (0, 0)) ∧ cs.size = c

set_option maxHeartbeats 400000 in
theorem clone_nil (w : World) : Calls Tryz.prog 38 #[.slice none 0 0] w fun e w' => e = .returned (.slice none 0 0) ∧ w = w' := by
  have heq : ∀ w : World, (binOp .eql 22 (.slice none 0 0) (.slice none 0 0)).run Tryz.prog w = .ok (.bool true) w := fun w => by
    simp only [binOp, Sem.run_bind, run_equal_slice_nil w 22 5 none 0 0 Tryz.underlying22]; rfl
  go_enter Tryz.func38, Tryz.ntmps38
  go_wp2
  go_ret
  exact ⟨rfl, rfl⟩

set_option maxHeartbeats 1000000 in
theorem clone_some (w : World) (a : Addr) (m c : Nat) (zs : List UInt8) (hm : zs.length = m) (hn : m ≤ 65536) (hx : Bytes w (some a) zs) :
    Calls Tryz.prog 38 #[.slice (some a) m c] w fun e w' => ∃ g' cap', e = .returned (.slice (some ⟨g', 0, none⟩) m cap') ∧ Fresh w w' (some ⟨g', 0, none⟩) m cap' zs ∧ Below w.heap.size w w' := by
  obtain ⟨i0, hi, hz0, hz1, hz2⟩ := info_parts info5
  have hw2 : (w.alloc (.cells #[] 5)).ownsRow w.heap.size 5 1 (.slice (some ⟨w.heap.size, 0, none⟩) 0 0) 0 [] :=
    ⟨rfl, .inr ⟨w.heap.size, 0, #[], rfl, Nat.le_refl _, heap_alloc_new w _, Nat.le_refl _, Nat.zero_le _, rfl, rfl⟩⟩
  have hsrc : ∀ j u, (zs.map enc)[j]? = some u → (w.alloc (.cells #[] 5)).cell? (a.add j) = some u := fun j u hj => by
    have hjl : j < zs.length := by have := (List.getElem?_eq_some_iff.1 hj).1; simpa using this
    obtain ⟨b', o', hA', hc⟩ := hx j hjl
    cases hA'
    have hv : u = .int .u8 (zs[j].toNat : Int) := by simp [hjl, enc] at hj; exact hj.symm
    rw [hv, show (⟨b', o', none⟩ : Addr).add j = ⟨b', o' + j, none⟩ by unfold Addr.add; split <;> simp_all]
    exact (World.cell?_alloc_lt w _ _ (block_lt_of_cell hc)).trans hc
  have HS := Lib.hid hsrc; clear hsrc
  have hone : ∀ v ∈ zs.map enc, v.oneCell' = true := by intro v hv; obtain ⟨z, _, rfl⟩ := List.mem_map.1 hv; rfl
  have HO := Lib.hid hone; clear hone
  have HW := Lib.hid hw2; clear hw2
  have HX := Lib.hid hx; clear hx
  have heq : ∀ w : World, (binOp .eql 22 (.slice (some a) m c) (.slice none 0 0)).run Tryz.prog w = .ok (.bool false) w := fun w => by
    simp only [binOp, Sem.run_bind, run_equal_slice_nil w 22 5 (some a) m c Tryz.underlying22]; rfl
  go_enter Tryz.func38, Tryz.ntmps38
  go_wp2_with (at_builtin; go_loud (refine wpList_append_own _ ?g1 (.tmp 5) (.tmp 6) 22 ?g2 w.heap.size 5 i0 (.int .u8 0) 1 1 ?g3 ?g4 ?g5 ?g6 ?g7 ?g8 ?g9 (.slice (some ⟨w.heap.size, 0, none⟩) 0 0) 0 [] ?g10 ?g11 a m c (zs.map enc) ?g12 ?g13 ?g14 ?g15 ?g16 ?g17 ?g18 ?g19))
  case g1 => exact rfl
  case g2 => exact rfl
  case g3 => exact Tryz.underlying22
  case g4 => exact hi
  case g5 => exact hz0
  case g6 => exact hz1
  case g7 => exact hz2
  case g8 => exact rfl
  case g9 => exact Nat.one_pos
  case g10 => exact rfl
  case g11 => exact HW.out
  case g12 => exact rfl
  case g13 => rw [Nat.mul_one, List.length_map]; exact hm
  case g14 => exact HS.out
  case g15 => exact HO.out
  case g16 => simp only [maxLen]; omega
  case g17 => omega
  case g18 => simp
  case g19 =>
    intro v' w' hown hgr hnil
    replace hown : w'.ownsRow w.heap.size 5 1 v' m (zs.map enc) := by simpa using hown
    obtain ⟨cap', cur, hv, hl, hcm, hsz, htake⟩ : ∃ cap' cur, (∃ g', v' = .slice (some ⟨g', 0, none⟩) m cap' ∧ w.heap.size ≤ g' ∧ w'.heap[g']? = some (.cells cur 5 (0, 0))) ∧ m ≤ cap' ∧ cap' ≤ maxLen ∧ cur.size = cap' * 1 ∧ cur.toList.take (m * 1) = zs.map enc := by
      rcases hown.2 with ⟨h, _⟩ | ⟨g', cap', cur, h1, h2, h3, h4, h5, h6, h7⟩
      · exact (hnil h).elim
      · exact ⟨cap', cur, ⟨g', h1, h2, h3⟩, h4, h5, h6, h7⟩
    obtain ⟨g', rfl, hg', hcur⟩ := hv
    have HT := Lib.hid htake; clear htake
    have HG := Lib.hid hgr; clear hgr
    clear hown hnil
    go_wp2
    go_ret
    have htake := HT.out
    refine ⟨g', cap', rfl, ⟨Bytes.of_piece (cap := cap') ⟨cur, hcur, by omega, by omega, fun k hk => ?_⟩, hm, fun a ha => ?_, ⟨hl, hcm⟩, fun h => (by cases h), fun a ha => ?_⟩, ?_⟩
    · have e : (cur.toList.take (m * 1))[k]? = (zs.map enc)[k]? := by rw [htake]
      rw [List.getElem?_take, if_pos (by omega)] at e
      simpa [hk] using e
    · cases ha; exact ⟨hg', (Array.getElem?_eq_some_iff.1 hcur).1, rfl, rfl⟩
    · cases ha; exact ⟨cur, hcur, by omega⟩
    · exact ((Below.refl _ w).alloc (Nat.le_refl _) _).grown HG.out (by simp) (fun k e => by simp [Value.ownBlock] at e; omega)

theorem clone_any (w : World) (A : Option Addr) (m c : Nat) (zs : List UInt8) (hm : zs.length = m) (hn : m ≤ 65536) (hx : Bytes w A zs) (hA : A = none → c = 0) :
    Calls Tryz.prog 38 #[.slice A m c] w fun e w' => ∃ A' cap', e = .returned (.slice A' m cap') ∧ Fresh w w' A' m cap' zs ∧ Below w.heap.size w w' := by
  cases A with
  | some a => exact (clone_some w a m c zs hm hn hx).mono fun e w' ⟨g, cap, h1, h2, h3⟩ => ⟨_, cap, h1, h2, h3⟩
  | none =>
    obtain rfl := hA rfl
    have : zs = [] := by
      cases zs with
      | nil => rfl
      | cons z zs => obtain ⟨b, o, h, _⟩ := hx 0 (by simp); cases h
    subst this
    simp at hm
    subst hm
    exact (clone_nil w).mono fun e w' ⟨h1, h2⟩ => ⟨none, 0, h1, ⟨Bytes.nil _ _, rfl, fun a h => by (cases h), ⟨Nat.le_refl _, Nat.zero_le _⟩, fun _ => ⟨rfl, rfl⟩, fun a h => by cases h⟩, h2 ▸ Below.refl _ _⟩

set_option maxHeartbeats 1000000 in
theorem old_ok (w : World) (X : Nat → Prop) (pf bf be : Nat) (f : Fl) (h : FRep w X pf bf be f) :
    Calls Tryz.prog 24 #[.pointer (some ⟨pf, 0, none⟩)] w fun e w' => ∃ A c, e = .returned (.slice A f.old.length c) ∧ Fresh w w' A f.old.length c f.old ∧ Below w.heap.size w w' := by
  obtain ⟨ao, co, cf, ve, h1, h2, h3, h4, h5, h6, h7, h8, h9, h10⟩ := h.blk
  have hc : w.cell? ⟨pf, 0, none⟩ = some (.slice ao f.old.length co) := h1.cell rfl
  have hcl := clone_any w ao f.old.length co f.old rfl (by have := h.old_le; omega) h2 h10
  clear h h1 h2 h3 h4 h5 h6 h7 h8 h9 h10
  go_enter Tryz.func24, Tryz.ntmps24
  go_wp2_with (go_at_call 38; refine hcl.mono ?_; rintro e w' ⟨A, c, rfl, hf, hb⟩)
  go_ret
  exact ⟨_, _, rfl, hf, hb⟩
set_option maxHeartbeats 1000000 in
theorem image_no (w : World) (X : Nat → Prop) (pf bf be : Nat) (f : Fl) (h : FRep w X pf bf be f) (hc : f.committed = false) :
    Calls Tryz.prog 23 #[.pointer (some ⟨pf, 0, none⟩)] w fun e w' => e = .returned (.tuple #[.slice none 0 0, .bool false]) ∧ w = w' := by
  obtain ⟨ao, co, cf, ve, h1, _⟩ := h.blk
  have hc4 : w.cell? ⟨pf, 4, none⟩ = some (.bool f.committed) := h1.cell rfl
  rw [hc] at hc4
  clear h h1 hc
  go_enter Tryz.func23, Tryz.ntmps23
  go_wp2
  go_ret2
  exact ⟨rfl, rfl⟩
set_option maxRecDepth 100000 in
set_option maxHeartbeats 1000000 in
theorem image_yes (w : World) (X : Nat → Prop) (pf bf be : Nat) (f : Fl) (h : FRep w X pf bf be f) (hc : f.committed = true) :
    Calls Tryz.prog 23 #[.pointer (some ⟨pf, 0, none⟩)] w fun e w' => ∃ A c, e = .returned (.tuple #[.slice A f.length c, .bool true]) ∧ Fresh w w' A f.length c (f.fresh.take f.length) ∧ Below w.heap.size w w' := by
  obtain ⟨ao, co, cf, ve, h1, h2, h3, h4, h5, h6, h7, _⟩ := h.blk
  have hc4 : w.cell? ⟨pf, 4, none⟩ = some (.bool f.committed) := h1.cell rfl
  have hc1 : w.cell? ⟨pf, 1, none⟩ = some (.slice (some ⟨bf, 0, none⟩) f.fresh.length cf) := h1.cell rfl
  have hc3 : w.cell? ⟨pf, 3, none⟩ = some (.int .i64 (f.length : Int)) := h1.cell rfl
  rw [hc] at hc4
  have hl := h.len_le
  have hfl := h.fresh_le
  have hb : ∀ k, Bytes (w.drewN k) (some ⟨bf, 0, none⟩) (f.fresh.take f.length) := fun k => Bytes.take (Bytes.of_blk (rest := []) (by have := h.fresh; simpa using this.drewN k)) _
  have hcl := fun k c => clone_any (w.drewN k) (some ⟨bf, 0, none⟩) f.length c (f.fresh.take f.length) (by simp; omega) (by omega) (hb k) (fun h => by cases h)
  have HC := Lib.hid hcl
  unfold maxLen at h7
  clear h h1 h2 h3 h4 h5 hc hb hcl
  go_enter Tryz.func23, Tryz.ntmps23
  go_wp2
  obtain ⟨w2, hw2⟩ : ∃ w2, w.drew = w2 := ⟨_, rfl⟩
  have d1 : w2.cell? ⟨pf, 1, none⟩ = some (.slice (some ⟨bf, 0, none⟩) f.fresh.length cf) := by rw [← hw2]; exact hc1
  have d3 : w2.cell? ⟨pf, 3, none⟩ = some (.int .i64 (f.length : Int)) := by rw [← hw2]; exact hc3
  refine wp_region_still_tail 9 (by kernel_rfl) (by kernel_rfl) ?_
  change wpStill _ _ w.drew _ _ _
  rw [hw2]
  have HW := Lib.hid hw2; clear hw2
  simp only [List.take_succ_cons, List.take_zero, List.drop_succ_cons, List.drop_zero]
  have i1 : (f.length : Int) ≤ (cf : Int) := by omega
  repeat still_step
  refine wpStill_nil ?_
  change wpList _ _ _ _ _ w.drew
  rw [HW.out]
  go_wp2_with (go_at_call 38; rw [← HW.out]; refine (HC.out 1 cf).mono ?_; rintro e w' ⟨A, c, rfl, hf, hb⟩)
  go_ret2
  exact ⟨_, _, rfl, ⟨hf.bytes, hf.len, hf.new_, hf.cap, hf.nil_, hf.own⟩, Below.trans (show Below w.heap.size w (w.drewN 1) from ⟨rfl, rfl, rfl, Nat.le_refl _, fun _ _ => rfl⟩) hb⟩
end Go.Proofs.YtkmgcggoemlaaaaGreatDoor
end

section
/- Commit, Cut, Restore and Read of a flash. No condition. -/
set_option linter.unusedSimpArgs false
set_option linter.unusedVariables false
namespace Go.Proofs.YtkmgcggoemlaaaaGreatDoor
open Go.RowKit Go.Fwm

theorem FRep.field {w : World} {X : Nat → Prop} {pf bf be : Nat} {f : Fl} (h : FRep w X pf bf be f) (i : Nat) (v : Value) (f' : Fl) (e : ∀ ao co cf ve, flCells f' ao co bf cf ve = (flCells f ao co bf cf ve).set i v)
    (e1 : f'.old = f.old) (e2 : f'.fresh = f.fresh) (e3 : f'.events = f.events) (b1 : f'.length ≤ f.fresh.length) (b2 : f'.wait ≤ 1000000000 ∧ -1 ≤ f'.wait) (b3 : f'.reads ≤ 1000000000000) (b4 : f'.longest ≤ 1000000) :
    FRep (w.setCell ⟨pf, i, none⟩ v) X pf bf be f' := by
  obtain ⟨⟨ao, co, cf, ve, h1, h2, h3, h4, h5, h6⟩, hfr, ne1, ne2, ne3, hb, o1, o2, o3, o4, o5, o6, o7⟩ := h
  have hon : Only (fun b => b = pf) w (w.setCell ⟨pf, i, none⟩ v) := (Only.refl _ w).set _ (.inl rfl)
  refine ⟨⟨ao, co, cf, ve, ?_, ?_, h3, fun a ha => Nat.lt_of_lt_of_le (h4 a ha) hon.le, ⟨?_, h5.2⟩, by rw [e1, e2]; exact h6⟩, ?_, ne1, ne2, ne3, Nat.lt_of_lt_of_le hb hon.le, by rw [e1]; exact o1, by rw [e2]; exact o2, by rw [e3]; exact o3, by rw [e2]; exact b1, b2, b3, b4⟩
  · rw [e]; exact h1.set i v
  · rw [e1]; exact h2.only hon fun a ha e => h3 a ha (.inr (.inl e))
  · rw [e3]
    exact h5.1.kept (row := some pf) ⟨rfl, rfl, rfl, hon.le, fun k hk hne => hon.keep k hk fun e => hne (by rw [e])⟩ (by
      cases hv : ve.ownBlock with
      | none => exact .inl rfl
      | some k => exact .inr fun e => by cases e; exact ne2 (h5.2 _ hv))
  · rw [e2]; exact hfr.setNe _ (Ne.symm ne1)
theorem FAt.field {w w' : World} {X : Nat → Prop} {pf bf be be' : Nat} {f : Fl} (h : FAt w X pf bf be f w' be') (i : Nat) (v : Value) (f' : Fl) (e : ∀ ao co cf ve, flCells f' ao co bf cf ve = (flCells f ao co bf cf ve).set i v)
    (e1 : f'.old = f.old) (e2 : f'.fresh = f.fresh) (e3 : f'.events = f.events) (b1 : f'.length ≤ f.fresh.length) (b2 : f'.wait ≤ 1000000000 ∧ -1 ≤ f'.wait) (b3 : f'.reads ≤ 1000000000000) (b4 : f'.longest ≤ 1000000) :
    FAt w X pf bf be f' (w'.setCell ⟨pf, i, none⟩ v) be' := ⟨h.rep.field i v f' e e1 e2 e3 b1 b2 b3 b4, h.bq, h.on.set _ (.inl (.inl rfl))⟩
theorem FAt.refl {w : World} {X : Nat → Prop} {pf bf be : Nat} {f : Fl} (h : FRep w X pf bf be f) : FAt w X pf bf be f w be := ⟨h, .inl rfl, Only.refl _ _⟩
theorem FRep.only {w w' : World} {X : Nat → Prop} {pf bf be : Nat} {f : Fl} (h : FRep w X pf bf be f) {F : Nat → Prop} (hon : Only F w w') (hF : ∀ b, F b → b < w.heap.size → X b ∧ b ≠ pf ∧ b ≠ bf ∧ b ≠ be) : FRep w' X pf bf be f := by
  obtain ⟨⟨ao, co, cf, ve, h1, h2, h3, h4, h5, h6⟩, hfr, ne1, ne2, ne3, hb, o1, o2, o3, o4, o5, o6, o7⟩ := h
  refine ⟨⟨ao, co, cf, ve, h1.only hon fun x => (hF _ x h1.lt).2.1 rfl, h2.keep fun a ha hlt => hon.keep _ hlt fun x => h3 a ha (.inl (hF _ x hlt).1), h3, fun a ha => Nat.lt_of_lt_of_le (h4 a ha) hon.le, ⟨?_, h5.2⟩, h6⟩, hfr.only hon fun x => (hF _ x hfr.lt).2.2.1 rfl, ne1, ne2, ne3, Nat.lt_of_lt_of_le hb hon.le, o1, o2, o3, o4, o5, o6, o7⟩
  refine ⟨h5.1.1, ?_⟩
  rcases h5.1.2 with hn | ⟨g, cap, cur, rfl, hbb, hgg, rest⟩
  · exact .inl hn
  · have hg : g = be := h5.2 g rfl
    subst hg
    refine .inr ⟨g, cap, cur, rfl, hbb, ?_, rest⟩
    rw [hon.keep g hb fun x => (hF _ x hb).2.2.2 rfl]
    exact hgg
theorem FAt.only {w w' w'' : World} {X : Nat → Prop} {pf bf be be' : Nat} {f : Fl} (h : FAt w X pf bf be f w' be') (k : Only (fun _ => False) w' w'') : FAt w X pf bf be f w'' be' :=
  ⟨h.rep.only k fun b x => x.elim, h.bq, h.on.trans k fun b _ x => x.elim⟩

set_option maxHeartbeats 1000000 in
theorem commit_bad (w : World) (X : Nat → Prop) (pf bf be : Nat) (f : Fl) (h : FRep w X pf bf be f) (n : Nat) (hn : f.fresh.length < n) :
    Calls Tryz.prog 44 #[.pointer (some ⟨pf, 0, none⟩), .int .i64 (n : Int)] w fun e w' => e = .returned (errV (f.commit n).err) ∧ FTo w X pf bf be (f.commit n).f w' := by
  have e1 : f.commit n = { err := some 4, f } := by unfold Fl.commit; rw [if_pos hn]
  obtain ⟨cf, q1, _⟩ := h.facts
  have hR : FTo w X pf bf be f w := ⟨be, h, .inl rfl, Only.refl _ _⟩
  rw [e1]
  clear e1 h
  go_enter Tryz.func44, Tryz.ntmps44
  go_wp2
  go_ret
  exact ⟨rfl, hR⟩
set_option maxHeartbeats 1000000 in
theorem commit_cut (w : World) (X : Nat → Prop) (pf bf be : Nat) (f : Fl) (h : FRep w X pf bf be f) (n : Nat) (hn : ¬ f.fresh.length < n) (hc : f.cutB = true) :
    Calls Tryz.prog 44 #[.pointer (some ⟨pf, 0, none⟩), .int .i64 (n : Int)] w fun e w' => e = .returned (errV (f.commit n).err) ∧ FTo w X pf bf be (f.commit n).f w' := by
  have e1 : f.commit n = { err := some 7, f := f.cut } := by unfold Fl.commit; rw [if_neg hn, hc]; rfl
  obtain ⟨cf, q1, _⟩ := h.facts
  have hcut := cut_ok w X pf bf be f h
  rw [hc] at hcut
  rw [e1]
  clear e1 h hc
  go_enter Tryz.func44, Tryz.ntmps44
  go_wp2_with (go_at_call 60; refine hcut.mono ?_; rintro e w' ⟨rfl, hto⟩)
  go_ret
  exact ⟨rfl, hto⟩
set_option maxRecDepth 100000 in
set_option maxHeartbeats 2000000 in
theorem commit_good (w : World) (X : Nat → Prop) (pf bf be : Nat) (f : Fl) (h : FRep w X pf bf be f) (n : Nat) (hn : ¬ f.fresh.length < n) (hc : f.cutB = false) (he : f.events.length < 1000000000) :
    Calls Tryz.prog 44 #[.pointer (some ⟨pf, 0, none⟩), .int .i64 (n : Int)] w fun e w' => e = .returned (errV (f.commit n).err) ∧ FTo w X pf bf be (f.commit n).f w' := by
  have e1 : f.commit n = { err := none, f := { (f.cut.ev 2 n) with length := n, committed := true } } := by
    have hev : f.cut.events = f.events := by unfold Fl.cut; split <;> rfl
    unfold Fl.commit Fl.ev
    rw [if_neg hn, hc, hev]
    rfl
  have hfl := h.fresh_le
  obtain ⟨cf, q1, _⟩ := h.facts
  have hcut := cut_ok w X pf bf be f h
  rw [hc] at hcut
  rw [e1]
  have hcf : f.cut.fresh.length = f.fresh.length := by rw [Fl.cut_fresh]
  have hce : f.cut.events.length = f.events.length := by unfold Fl.cut; split <;> rfl
  obtain ⟨i0, hi, hz0, hz1, hz2⟩ := info_parts info80
  have HCF := Lib.hid hcf; clear hcf
  have HCE := Lib.hid hce; clear hce
  clear e1 h hc
  go_enter Tryz.func44, Tryz.ntmps44
  go_wp2_with (first | (go_at_call 60; refine hcut.mono ?_; rintro e w' ⟨rfl, hto⟩; obtain ⟨be1, hat⟩ := FAt.of hto; obtain ⟨ve, hc2, hfz2⟩ : ∃ ve, w'.cell? ⟨pf, 2, none⟩ = some ve ∧ w'.frozen? ⟨pf, 2, none⟩ = false := (by obtain ⟨ao, co, cf, ve, h1, _⟩ := hat.rep.blk; exact ⟨ve, h1.cell rfl, h1.free 2⟩); obtain ⟨ho, hst⟩ := event_step w' X pf bf be1 f.cut hat.rep 2 n (by rw [HCE.out]; exact he) hc2; have HS := Lib.hid hst; clear hst; have HO := Lib.hid ho; clear ho; have HA := Lib.hid hat; clear hat hto) | (at_builtin; refine wpList_append_where ?g1 (.tmp 24) (.tmp 27) 74 ?g2 80 i0 (.agg #[.int .i64 0, .int .i64 0]) 2 16 ?g3 ?g4 ?g5 ?g6 ?g7 ?g8 ?g9 ve f.cut.events.length (evCells f.cut.events) ?g10 ?g11 ⟨w'.heap.size, 0, none⟩ 1 1 [.int .i64 2, .int .i64 (n : Int)] ?g12 ?g13 ?g14 ?g15 ?g16 ?g17 ?g18))
  case g1 => exact rfl
  case g2 => exact rfl
  case g3 => exact Tryz.underlying74
  case g4 => exact hi
  case g5 => exact hz0
  case g6 => exact hz1
  case g7 => exact hz2
  case g8 => exact rfl
  case g9 => exact Nat.two_pos
  case g10 => exact rfl
  case g11 => exact HO.out
  case g12 => exact rfl
  case g13 => exact rfl
  case g14 => exact news_new w' #[.int .i64 2, .int .i64 (n : Int)] 80
  case g15 => intro u hu; simp at hu; rcases hu with rfl | rfl <;> rfl
  case g16 => rw [HCE.out]; simp only [maxLen]; omega
  case g17 => rw [HCE.out]; omega
  case g18 =>
    intro v' w1 h1 h2 h3
    obtain ⟨⟨be2, hat⟩, k1, k2, A', n', c', rfl⟩ := HS.out v' w1 h1 h2 (by simpa using h3)
    have H2 := Lib.hid (HA.out.then_ hat)
    obtain ⟨x3, y3, hf3⟩ : (∃ x, w1.cell? ⟨pf, 3, none⟩ = some x) ∧ (∃ x, w1.cell? ⟨pf, 4, none⟩ = some x) ∧ ∀ i, w1.frozen? ⟨pf, i, none⟩ = false := (by
      obtain ⟨ao, co, cf, ve, g1, _⟩ := hat.rep.blk
      have e3 : (w1.setCell ⟨pf, 2, none⟩ (.slice A' n' c')).cell? ⟨pf, 3, none⟩ = w1.cell? ⟨pf, 3, none⟩ := World.cell?_setCell_other _ _ _ _ (by simp)
      have e4 : (w1.setCell ⟨pf, 2, none⟩ (.slice A' n' c')).cell? ⟨pf, 4, none⟩ = w1.cell? ⟨pf, 4, none⟩ := World.cell?_setCell_other _ _ _ _ (by simp)
      exact ⟨⟨_, e3 ▸ g1.cell rfl⟩, ⟨_, e4 ▸ g1.cell rfl⟩, fun i => by simpa using g1.free i⟩)
    have y4 := hf3 4
    have y5 := hf3 3
    obtain ⟨x4, y3⟩ := y3
    obtain ⟨x5, x3⟩ := x3
    clear hat h1 h2 h3 hf3
    go_wp2
    go_ret
    refine ⟨rfl, FAt.to (be' := be2) ?_⟩
    refine FAt.field (f := { (f.cut.ev 2 n) with length := n }) ?_ 4 _ _ (fun _ _ _ _ => rfl) rfl rfl rfl ?_ ?_ ?_ ?_
    · refine FAt.field (f := f.cut.ev 2 n) H2.out 3 _ _ (fun _ _ _ _ => rfl) rfl rfl rfl ?_ H2.out.rep.wait_le H2.out.rep.reads_le H2.out.rep.longest_le
      show n ≤ f.cut.fresh.length
      rw [HCF.out]; omega
    · show n ≤ f.cut.fresh.length
      rw [HCF.out]; omega
    · exact H2.out.rep.wait_le
    · exact H2.out.rep.reads_le
    · exact H2.out.rep.longest_le
theorem commit_ok (w : World) (X : Nat → Prop) (pf bf be : Nat) (f : Fl) (h : FRep w X pf bf be f) (n : Nat) (he : f.events.length < 1000000000) :
    Calls Tryz.prog 44 #[.pointer (some ⟨pf, 0, none⟩), .int .i64 (n : Int)] w fun e w' => e = .returned (errV (f.commit n).err) ∧ FTo w X pf bf be (f.commit n).f w' := by
  by_cases hn : f.fresh.length < n
  · exact commit_bad w X pf bf be f h n hn
  · cases hc : f.cutB with
    | true => exact commit_cut w X pf bf be f h n hn hc
    | false => exact commit_good w X pf bf be f h n hn hc he
end Go.Proofs.YtkmgcggoemlaaaaGreatDoor
end
