/-
  Part 18 of the common ground of this seat: what single parts show stands ahead of each.
  No condition.
-/
import Derived.Test.YtkmgcggoemlaaaaGreatDoorJ17
import Derived.Test.YtkmgcggoemlaaaaGreatDoorJ11
import Derived.Test.YtkmgcggoemlaaaaGreatDoorJ12
import Derived.WalkSpells
import Derived.Deep.RegionHeld3
import Derived.Deep.DrawnRows
import Derived.Test.YtkmgcggoemlaaaaGreatDoorJ13

section
/- api.Tell; a fault is laid in the applier; New, Held. No condition. -/
set_option linter.unusedSimpArgs false
set_option linter.unusedVariables false
namespace Go.Proofs.YtkmgcggoemlaaaaGreatDoor
open Go.RowKit Go.Fwm

theorem GV.alloc {w : World} (h : GV w) (o : Obj) : GV (w.alloc o) := (World.cell?_alloc_lt _ _ ⟨0, 0, none⟩ h.lt).trans h
theorem GV.keep {w w' : World} (h : GV w) (e : w'.heap[0]? = w.heap[0]?) : GV w' := (World.cell?_of_block (a := ⟨0, 0, none⟩) e).trans h
theorem GV.only {w w' : World} {F : Nat → Prop} (h : GV w) (k : Only F w w') (hn : ¬ F 0) : GV w' := h.keep (k.keep 0 h.lt hn)
theorem GV.below {w w' : World} (h : GV w) (k : Below w.heap.size w w') : GV w' := h.keep (k.block 0 h.lt)

set_option maxHeartbeats 4000000 in
theorem tell_nil (w : World) : Calls Tryz.prog 16 #[.nilIface] w fun e w' => e = .returned (.int .i64 0) ∧ Below w.heap.size w w' := by
  have hb : Below w.heap.size w (w.alloc (.cells #[.int .i64 0] 30)) := (Below.refl _ w).alloc (Nat.le_refl _) _
  have HB := Lib.hid hb; clear hb
  go_enter Tryz.func16, Tryz.ntmps16
  go_wp2
  go_ret
  exact ⟨rfl, HB.out⟩
set_option maxHeartbeats 4000000 in
theorem tell_errno (w : World) (hg : GV w) (n : Int) : Calls Tryz.prog 16 #[.iface 30 (.int .i64 n)] w fun e w' => e = .returned (.int .i64 n) ∧ Below w.heap.size w w' := by
  have has := as_errno n ⟨w.heap.size, 0, none⟩ (.int .i64 0) (w.alloc (.cells #[.int .i64 0] 30)) (hg.alloc _) (by simp) (by simp)
  have hb : ∀ w', w' = (((((w.alloc (.cells #[.int .i64 0] 30)).alloc (.cells #[.pointer (some ⟨w.heap.size, 0, none⟩)] 72)).alloc (.cells #[.pointer (some ⟨2, 72, none⟩), .pointer (some ⟨(w.alloc (.cells #[.int .i64 0] 30)).heap.size, 0, none⟩), .int .u64 150] 109)).alloc (.cells #[.pointer (some ⟨2, 72, none⟩), .pointer (some ⟨(w.alloc (.cells #[.int .i64 0] 30)).heap.size, 0, none⟩), .int .u64 150] 109)).alloc (.cells #[.int .i64 n] 30)).setCell ⟨w.heap.size, 0, none⟩ (.int .i64 n) → Below w.heap.size w w' ∧ w'.cell? ⟨w.heap.size, 0, none⟩ = some (.int .i64 n) := by
    rintro w' rfl
    refine ⟨((((((Below.refl _ w).alloc (Nat.le_refl _) _).alloc (by simp) _).alloc (by simp; omega) _).alloc (by simp; omega) _).alloc (by simp; omega) _).setCell (p := ⟨w.heap.size, 0, none⟩) (Nat.le_refl _) _, ?_⟩
    rw [World.cell?_setCell_same']
    · rw [World.cell?_alloc_lt _ _ ⟨w.heap.size, 0, none⟩ (by simp; omega), World.cell?_alloc_lt _ _ ⟨w.heap.size, 0, none⟩ (by simp; omega), World.cell?_alloc_lt _ _ ⟨w.heap.size, 0, none⟩ (by simp; omega), World.cell?_alloc_lt _ _ ⟨w.heap.size, 0, none⟩ (by simp)]; simp
  have HAS := Lib.hid has; clear has
  have HB := Lib.hid hb; clear hb
  go_enter Tryz.func16, Tryz.ntmps16
  go_wp2_with (go_at_call 35; refine HAS.out.mono ?_; rintro e w1 ⟨rfl, hw1⟩; obtain ⟨hbl, hc⟩ := HB.out w1 hw1; have HBL := Lib.hid hbl; clear hw1 hbl)
  go_ret
  exact ⟨rfl, HBL.out⟩
set_option maxHeartbeats 4000000 in
theorem tell_fault (w : World) (hg : GV w) (fb : Nat) (n : Int) (hfb : w.cell? ⟨fb, 1, none⟩ = some (.int .i64 n)) : Calls Tryz.prog 16 #[.iface 96 (.pointer (some ⟨fb, 0, none⟩))] w fun e w' => e = .returned (.int .i64 n) ∧ Below w.heap.size w w' := by
  have has := as_fault fb n ⟨w.heap.size, 0, none⟩ (.int .i64 0) (w.alloc (.cells #[.int .i64 0] 30)) (hg.alloc _) (by simp) (by simp) ((World.cell?_alloc_lt _ _ ⟨fb, 1, none⟩ (block_lt_of_cell hfb)).trans hfb)
  have hb : ∀ w', w' = (((((w.alloc (.cells #[.int .i64 0] 30)).alloc (.cells #[.pointer (some ⟨w.heap.size, 0, none⟩)] 72)).alloc (.cells #[.pointer (some ⟨2, 72, none⟩), .pointer (some ⟨(w.alloc (.cells #[.int .i64 0] 30)).heap.size, 0, none⟩), .int .u64 150] 109)).alloc (.cells #[.pointer (some ⟨2, 72, none⟩), .pointer (some ⟨(w.alloc (.cells #[.int .i64 0] 30)).heap.size, 0, none⟩), .int .u64 150] 109)).alloc (.cells #[.int .i64 n] 30)).setCell ⟨w.heap.size, 0, none⟩ (.int .i64 n) → Below w.heap.size w w' ∧ w'.cell? ⟨w.heap.size, 0, none⟩ = some (.int .i64 n) := by
    rintro w' rfl
    refine ⟨((((((Below.refl _ w).alloc (Nat.le_refl _) _).alloc (by simp) _).alloc (by simp; omega) _).alloc (by simp; omega) _).alloc (by simp; omega) _).setCell (p := ⟨w.heap.size, 0, none⟩) (Nat.le_refl _) _, ?_⟩
    rw [World.cell?_setCell_same']
    · rw [World.cell?_alloc_lt _ _ ⟨w.heap.size, 0, none⟩ (by simp; omega), World.cell?_alloc_lt _ _ ⟨w.heap.size, 0, none⟩ (by simp; omega), World.cell?_alloc_lt _ _ ⟨w.heap.size, 0, none⟩ (by simp; omega), World.cell?_alloc_lt _ _ ⟨w.heap.size, 0, none⟩ (by simp)]; simp
  have HAS := Lib.hid has; clear has
  have HB := Lib.hid hb; clear hb
  go_enter Tryz.func16, Tryz.ntmps16
  go_wp2_with (go_at_call 35; refine HAS.out.mono ?_; rintro e w1 ⟨rfl, hw1⟩; obtain ⟨hbl, hc⟩ := HB.out w1 hw1; have HBL := Lib.hid hbl; clear hw1 hbl)
  go_ret
  exact ⟨rfl, HBL.out⟩
theorem tell_ok (w : World) (hg : GV w) (F : Nat → Prop) (v : Value) (x : Flt) (h : FltV w F v x) : Calls Tryz.prog 16 #[v] w fun e w' => e = .returned (.int .i64 (x.num : Int)) ∧ Below w.heap.size w w' := by
  cases x with
  | none => obtain rfl : v = _ := h; exact tell_nil w
  | errno n => obtain rfl : v = _ := h; exact tell_errno w hg n
  | wrapped n =>
    obtain ⟨b, at_, rfl, _, h3⟩ := h
    exact tell_fault w hg b n (h3.cell rfl)

/-! ### faults -/
theorem AAt.setFault {w w' : World} {G : Nat → Prop} {pa pf bf be be' : Nat} {a : Ap} {f : Fl} (h : AAt w G pa pf bf be a f w' be') (v : Value) (x : Flt) (hv : FltV w' (AF_ (PX pa G) pf bf be') v x) :
    AAt w G pa pf bf be { a with fault := x } f (w'.setCell ⟨pa, 4, none⟩ v) be' := by
  obtain ⟨⟨⟨vf, A0, c0, h1, h2, h3, h4, h5, h6⟩, hfl, ne, ng, hg, hi⟩, hbq, hon⟩ := h
  have ho : Only (fun b => b = pa) w' (w'.setCell ⟨pa, 4, none⟩ v) := (Only.refl _ _).set _ (.inl rfl)
  refine ⟨⟨⟨v, A0, c0, h1.set 4 v, ?_, h3.only ho fun x hx e => h4 x hx (.inl (.inl e)), h4, fun x hx => Nat.lt_of_lt_of_le (h5 x hx) ho.le, h6⟩, hfl.only ho fun b x _ => ?_, ne, ng, fun b hb => Nat.lt_of_lt_of_le (hg b hb) ho.le, { hi with }⟩, hbq, hon.set _ (.inl (.inl rfl))⟩
  · cases x with
    | none => exact hv
    | errno n => exact hv
    | wrapped n =>
      obtain ⟨b, at_, q1, q2, q3⟩ := hv
      exact ⟨b, at_, q1, q2, q3.setNe _ fun e => q2 (.inl (.inl e))⟩
  · subst x
    exact ⟨.inl rfl, ne.1, ne.2.1, ne.2.2⟩
theorem AAt.below {w w' w'' : World} {G : Nat → Prop} {pa pf bf be be' : Nat} {a : Ap} {f : Fl} (h : AAt w G pa pf bf be a f w' be') (k : Below w'.heap.size w' w'') : AAt w G pa pf bf be a f w'' be' :=
  h.only ⟨k.size, fun b hb _ => k.block b hb⟩
theorem AAt.lt {w w' : World} {G : Nat → Prop} {pa pf bf be be' : Nat} {a : Ap} {f : Fl} (h : AAt w G pa pf bf be a f w' be') (b : Nat) (hb : AF_ (PX pa G) pf bf be' b) : b < w'.heap.size := by
  obtain ⟨vf, A, c, h1, _⟩ := h.rep.blk
  rcases hb with (rfl | hb) | rfl | rfl | rfl
  · exact h1.lt
  · exact h.rep.glt b hb
  · obtain ⟨_, _, _, _, g1, _⟩ := h.rep.fl.blk; exact g1.lt
  · exact h.rep.fl.fresh.lt
  · exact h.rep.fl.belt

theorem FRep.wider {w : World} {X X' : Nat → Prop} {pf bf be : Nat} {f : Fl} (h : FRep w X pf bf be f) (hX : ∀ b, b < w.heap.size → X' b → X b) : FRep w X' pf bf be f := by
  obtain ⟨⟨ao, co, cf, ve, h1, h2, h3, h4, h5, h6⟩, rest⟩ := h
  refine ⟨⟨ao, co, cf, ve, h1, h2, fun a ha x => ?_, h4, h5, h6⟩, by assumption, by assumption, by assumption, by assumption, by assumption, by assumption, by assumption, by assumption, by assumption, by assumption, by assumption, by assumption⟩
  rcases x with x | x
  · exact h3 a ha (.inl (hX _ (h4 a ha) x))
  · exact h3 a ha (.inr x)
/-! ### New, Held -/
set_option maxHeartbeats 4000000 in
theorem new_ok (w : World) (G : Nat → Prop) (pf bf be : Nat) (f : Fl) (h : FRep w G pf bf be f) (hG : ∀ b, G b → b < w.heap.size) (hng : ¬ G pf ∧ ¬ G bf ∧ ¬ G be) :
    Calls Tryz.prog 31 #[.pointer (some ⟨pf, 0, none⟩)] w fun e w' => e = .returned (.pointer (some ⟨w.heap.size, 0, none⟩)) ∧ ARep w' G w.heap.size pf bf be Ap.init f ∧ Below w.heap.size w w' := by
  have hb : Below w.heap.size w (w.alloc (.cells (apCells Ap.init pf .nilIface (.slice none 0 0)).toArray 93)) := (Below.refl _ w).alloc (Nat.le_refl _) _
  obtain ⟨_, _, _, _, g1, _⟩ := h.blk
  have l1 := g1.lt
  have l2 := h.fresh.lt
  have l3 := h.belt
  have hr : ARep (w.alloc (.cells (apCells Ap.init pf .nilIface (.slice none 0 0)).toArray 93)) G w.heap.size pf bf be Ap.init f := by
    refine ⟨⟨.nilIface, none, 0, heap_alloc_new w _, rfl, Bytes.nil _ _, fun a h => (by cases h), fun a h => (by cases h), Nat.le_refl _, Nat.zero_le _⟩, ?_, ⟨by omega, by omega, by omega⟩, ⟨fun x => by have := hG _ x; omega, hng⟩, fun b hb => by have := hG b hb; simp; omega, ⟨rfl, by decide, by decide, by decide, by decide, by decide, by decide, by decide, by decide, by decide⟩⟩
    exact (h.wider (X' := PX w.heap.size G) fun b hb x => x.elim (fun e => by omega) id).only (F := fun _ => False) ((Only.refl _ _).alloc _) fun b x => x.elim
  have HB := Lib.hid hb; clear hb
  have HR := Lib.hid hr; clear hr
  go_enter Tryz.func31, Tryz.ntmps31
  go_wp2
  go_ret
  exact ⟨rfl, HR.out, HB.out⟩
end Go.Proofs.YtkmgcggoemlaaaaGreatDoor
end

section
/- The applier's Feed. No condition. -/
set_option linter.unusedSimpArgs false
set_option linter.unusedVariables false
namespace Go.Proofs.YtkmgcggoemlaaaaGreatDoor
open Go.RowKit Go.Fwm

/-- What takes the next byte. -/
theorem byte_call (w : World) (G : Nat → Prop) (pa pf bf be : Nat) (a : Ap) (f : Fl) (h : ARep w G pa pf bf be a f) {f0 : Fl} {R0 : Nat} {out : List UInt8} (hI : Inv f0 R0 out a f) (he : f.events.length < 999970000) (hrd : f.reads < 999999980000) (b : UInt8) :
    Calls Tryz.prog (stF a.st) #[.pointer (some ⟨pa, 0, none⟩), .int .u8 (b.toNat : Int)] w (STo w G pa pf bf be (a.stepB f b)) := by
  have hd := hI.dig
  have hlp := hI.lp
  have hpg := hI.pg
  have hml := hI.ml
  cases hst : a.st with
  | oldSize => rw [hst] at hd; exact oldSize_ok w G pa pf bf be a f h b hst hd
  | oldSum => rw [hst] at hd; exact oldSum_ok w G pa pf bf be a f h b hst hd (by omega)
  | newSize => rw [hst] at hd; exact newSize_ok w G pa pf bf be a f h b hst hd (by omega)
  | step => exact step_ok w G pa pf bf be a f h b hst
  | counted => rw [hst] at hd; exact counted_ok w G pa pf bf be a f h b hst hd hml hI.op (hI.size (by rw [hst]; rfl)) (by omega) (by omega)
  | own => obtain ⟨c0, c1⟩ := hI.count (by rw [hst]; rfl); exact own_ok w G pa pf bf be a f h b hst (by omega) c0 (by omega)
  | place =>
    rw [hst] at hd
    obtain ⟨c0, c1⟩ := hI.count (by rw [hst]; rfl)
    cases hw : (a.number b).whole with
    | false => exact place_not w G pa pf bf be a f h b hst hd hw
    | true => exact place_yes w G pa pf bf be a f h b hst hd hw (hI.size (by rw [hst]; rfl)) (by omega) (by omega) (by omega)
  | beside => exact beside_ok w G pa pf bf be a f h b hst hml (by omega)
  | fin => rw [hst] at hd; exact fin_ok w G pa pf bf be a f h b hst hd
  | over => exact over_ok w G pa pf bf be a f h b hst

theorem run_enter {P : Program} {f : FuncId} {fn : Func} {c : Code} (hf : P.funcs[f]? = some fn) (hname : (fn.name == "runtime.NumGoroutine") = false) (hb : fn.body = some c) (args : Array Value) (w : World) :
    (callFunc f args).run P w = .ok (.enter f args) w := by
  have h1 : fn.name ≠ "runtime.NumGoroutine" := by simpa using hname
  simp [callFunc, hf, h1, hb]
theorem st_enter (s : St) (args : Array Value) (w : World) : (callFunc (stF s) args).run Tryz.prog w = .ok (.enter (stF s) args) w := by
  cases s with
  | oldSize => exact run_enter Tryz.func43 (by kernel_rfl) rfl args w
  | oldSum => exact run_enter Tryz.func59 (by kernel_rfl) rfl args w
  | newSize => exact run_enter Tryz.func71 (by kernel_rfl) rfl args w
  | step => exact run_enter Tryz.func84 (by kernel_rfl) rfl args w
  | counted => exact run_enter Tryz.func97 (by kernel_rfl) rfl args w
  | own => exact run_enter Tryz.func105 (by kernel_rfl) rfl args w
  | place => exact run_enter Tryz.func106 (by kernel_rfl) rfl args w
  | beside => exact run_enter Tryz.func107 (by kernel_rfl) rfl args w
  | fin => exact run_enter Tryz.func85 (by kernel_rfl) rfl args w
  | over => exact run_enter Tryz.func98 (by kernel_rfl) rfl args w
/-- An applier's value of a fault. -/
theorem ARep.fault {w : World} {G : Nat → Prop} {pa pf bf be : Nat} {a : Ap} {f : Fl} (h : ARep w G pa pf bf be a f) : ∃ vf, w.cell? ⟨pa, 4, none⟩ = some vf ∧ FltV w (AF_ (PX pa G) pf bf be) vf a.fault := by
  obtain ⟨vf, A, c, h1, h2, _⟩ := h.blk
  exact ⟨vf, h1.cell rfl, h2⟩
theorem FltV.neq {w : World} {F : Nat → Prop} {v : Value} {x : Flt} (h : FltV w F v x) : (∃ t u, v = .iface t u) ∨ (v = .nilIface ∧ x = .none) := by
  cases x with
  | none => exact .inr ⟨h, rfl⟩
  | errno n => exact .inl ⟨_, _, h⟩
  | wrapped n => obtain ⟨b, a, h1, _⟩ := h; exact .inl ⟨_, _, h1⟩
theorem FltV.some_ne {w : World} {F : Nat → Prop} {v : Value} {x : Flt} (h : FltV w F v x) (hx : x ≠ .none) : ∃ t u, v = .iface t u := by
  rcases h.neq with h | ⟨_, h⟩
  · exact h
  · exact absurd h hx
/-- .. in the midst of a chunk. -/
structure Fd (w : World) (G : Nat → Prop) (pa pf bf be : Nat) (y : AF) (wr : World) : Prop where
  ex : ∃ be', AAt w G pa pf bf be y.a y.f wr be'
/-- What Feed and Finish hand back. -/
def FeTo (w : World) (G : Nat → Prop) (pa pf bf be : Nat) (y : AF) (x : Flt) (e : Ending) (w' : World) : Prop :=
  ∃ be' v, e = .returned v ∧ AAt w G pa pf bf be y.a y.f w' be' ∧ FltV w' (AF_ (PX pa G) pf bf be') v x
end Go.Proofs.YtkmgcggoemlaaaaGreatDoor
namespace Go
open Go Go.Fwm Go.RowKit Go.Proofs.YtkmgcggoemlaaaaGreatDoor
theorem Fwm.Inv.evs_le {f0 f : Fl} {R0 : Nat} {out : List UInt8} {a : Ap} (h : Inv f0 R0 out a f) : f.events.length ≤ f0.events.length + 200 := by
  have e : ∀ j, (evs j).length = j := fun j => by simp [evs]
  have hml := h.ml
  have hlp := h.lp
  have hpg := h.pg
  cases he : ended a.st with
  | false =>
    have := (h.body he).fi.ev
    rw [this, List.length_append, e]
    omega
  | true =>
    have := (h.done he).2.fi.ev
    rw [this, List.length_append, e]
    omega
end Go
namespace Go.Proofs.YtkmgcggoemlaaaaGreatDoor
open Go.RowKit Go.Fwm
end Go.Proofs.YtkmgcggoemlaaaaGreatDoor
namespace Go
open Go Go.Fwm Go.RowKit Go.Proofs.YtkmgcggoemlaaaaGreatDoor
theorem Fwm.Inv.rd_le {f0 f : Fl} {R0 : Nat} {out : List UInt8} {a : Ap} (h : Inv f0 R0 out a f) : f.reads ≤ R0 + 8192 := by
  have := h.rd
  have hml := h.ml
  have hlp := h.lp
  have hpg := h.pg
  split at this <;> omega

end Go
namespace Go.Proofs.YtkmgcggoemlaaaaGreatDoor
open Go.RowKit Go.Fwm
set_option maxRecDepth 100000 in
set_option maxHeartbeats 8000000 in
theorem feed_ok (w : World) (G : Nat → Prop) (pa pf bf be : Nat) (x : AF) (h : ARep w G pa pf bf be x.a x.f) (hg : GV w) (hz : ¬ AO pa pf bf be 0) {f0 : Fl} {R0 : Nat} (hS : Stt f0 R0 x) (hE : f0.events.length ≤ 1000000) (hR : R0 ≤ 100000000000)
    (A : Option Addr) (n c : Nat) (zs : List UInt8) (hl : zs.length = n) (hn : n ≤ 1000000) (hx : Bytes w A zs) (ha : Away (AO pa pf bf be) A) (hat : x.a.at_ + n ≤ 1000000000000) :
    Calls Tryz.prog 33 #[.pointer (some ⟨pa, 0, none⟩), .slice A n c] w (FeTo w G pa pf bf be (x.feed zs) (x.feed zs).a.fault) := by
  have hkat : ∀ k, k ≤ n → (x.feed (zs.take k)).a.at_ ≤ x.a.at_ + k := fun k hk => by
    have := feed_at (zs.take k) x
    rw [List.length_take] at this
    omega
  have hstep : ∀ k (hk : k < zs.length), x.feed (zs.take (k + 1)) = (x.feed (zs.take k)).byte zs[k] := fun k hk => by
    rw [List.take_succ_eq_append_getElem hk, feed_app]; rfl
  have hall : x.feed (zs.take n) = x.feed zs := by rw [List.take_of_length_le (by omega)]
  have hbad : ∀ k, k ≤ n → (x.feed (zs.take k)).a.fault ≠ .none → x.feed zs = x.feed (zs.take k) := fun k hk hf => by
    conv => lhs; rw [← List.take_append_drop k zs, feed_app]
    exact feed_bad hf _
  have hst : ∀ k, Stt f0 R0 (x.feed (zs.take k)) := fun k => hS.feed _
  have h0 : Fd w G pa pf bf be (x.feed (zs.take 0)) w := ⟨be, AAt.refl h⟩
  have HK := Lib.hid hkat; clear hkat
  have HST := Lib.hid hstep; clear hstep
  have HALL := Lib.hid hall; clear hall
  have HBAD := Lib.hid hbad; clear hbad
  have HS := Lib.hid hst; clear hst
  have H0 := Lib.hid h0; clear h0
  have HX := Lib.hid hx; clear hx
  have HA := Lib.hid ha; clear ha
  have hgv : ∀ w' be' a' f', AAt w G pa pf bf be a' f' w' be' → GV w' := fun w' be' a' f' h => hg.only h.on hz
  have HG := Lib.hid hgv; clear hg hgv
  have HL := Lib.hid hl; clear hl
  clear h hS
  go_enter Tryz.func33, Tryz.ntmps33
  go_wp2
  go_loopw [12] (fun i wr => ∃ k : Nat, k ≤ n ∧ i = .int .i64 k ∧ Fd w G pa pf bf be (x.feed (zs.take k)) wr) (fun i _ => n - (intOf i).toNat)
  case atStart => exact ⟨0, Nat.zero_le _, rfl, H0.out⟩
  case round =>
    obtain ⟨k, hk, rfl, ⟨be1, hat1⟩⟩ := hrel
    obtain ⟨vf, y4, hv4⟩ := hat1.rep.fault
    by_cases hlt : k < n
    · have hkz : k < zs.length := by rw [HL.out]; exact hlt
      have hby := HX.out.only hat1.on HA.out
      obtain ⟨b8, o8, rfl, hc8⟩ := hby k hkz
      by_cases hf : (x.feed (zs.take k)).a.fault = .none
      · have hS1 := HS.out k
        have hk1 := HK.out k hk
        have hstp := HST.out k hkz
        have hbad := HBAD.out (k + 1) (by omega)
        obtain ⟨y, hy⟩ : ∃ y, x.feed (zs.take k) = y := ⟨_, rfl⟩
        rw [hstp] at hbad
        rw [hy] at hS1 hk1 hstp hat1 hv4 hf hbad
        obtain rfl : vf = .nilIface := by rw [hf] at hv4; exact hv4
        obtain ⟨out, hI⟩ : ∃ out, Inv f0 R0 out y.a y.f := by
          cases hS1 with
          | ok out h => exact ⟨out, h⟩
          | bad e h _ => rw [hf] at h; split at h <;> cases h
        have hev := hI.evs_le
        have hrd := hI.rd_le
        obtain ⟨b, hbz⟩ : ∃ b, zs[k] = b := ⟨_, rfl⟩
        rw [hbz] at hstp hc8 hbad
        have hbc := byte_call wr G pa pf bf be1 y.a y.f hat1.rep hI (by omega) (by omega) b
        have y1 := hat1.rep.facts.c1
        unfold stV at y1
        have hcf := st_enter y.a.st
        obtain ⟨F, hF⟩ : ∃ F, stF y.a.st = F := ⟨_, rfl⟩
        rw [hF] at y1 hbc hcf
        have hat_ := stepB_at y.a y.f b
        have hok := @byte_ok y hf b
        have herr := @byte_err y hf b
        obtain ⟨r, hr⟩ : ∃ r, y.a.stepB y.f b = r := ⟨_, rfl⟩
        rw [hr] at hbc hat_ hok
        simp only [hr] at herr
        have HBC := Lib.hid hbc
        have HAT := Lib.hid hat1
        have HY := Lib.hid hy
        have HSTP := Lib.hid hstp
        clear hbc hat1 hy hstp hv4 hf hbz hr hF hI hS1 hby
        cases hre : r.err with
        | none =>
          have hok := hok hre
          have HOK := Lib.hid hok
          have HX1 := Lib.hid hre
          have HAT_ := Lib.hid hat_
          clear hok hre herr hbad hat_
          have hsf := fun W : World => run_store Tryz.prog W ⟨pa, 1, none⟩ (.func (.func (stF r.st)) #[] #[]) .plain rfl
          go_wp2_with (refine HBC.out.mono ?_; rintro e w1 hto; obtain ⟨v, rfl, hv, be2, hat2⟩ := hto; obtain rfl := hv HX1.out; rw [HX1.out]; unfold errV stV; have z1 := hat2.rep.facts.c1; unfold stV at z1; have z2 := hat2.rep.facts.c2; have zf1 := hat2.rep.facts.fz 1; have zf2 := hat2.rep.facts.fz 2; rw [HAT_.out] at z2; have HA2 := Lib.hid hat2; clear hat2 hv)
          go_roundw
          case rel =>
            refine ⟨k + 1, by omega, by go_num, ⟨be2, ?_⟩⟩
            rw [HSTP.out, HOK.out]
            have := (HA2.out.setSt r.st).setAt (y.a.at_ + 1) (by omega)
            rw [show ((y.a.at_ + 1 : Nat) : Int) = (y.a.at_ : Int) + 1 by omega] at this
            have e : ({ { r.a with st := r.st } with at_ := y.a.at_ + 1 } : Ap) = r.next := by unfold R.next; rw [HAT_.out]
            rw [e] at this
            exact HAT.out.then_ this
          case measure => simp [intOf]; omega
        | some e9 =>
          have herr := herr hre
          have hne : (y.byte b).a.fault ≠ .none := by rw [herr]; simp only; split <;> simp
          have hbad := hbad hne
          have HBAD2 := Lib.hid hbad
          have HERR := Lib.hid herr
          have HX1 := Lib.hid hre
          have HAT_ := Lib.hid hat_
          clear hok hre herr hbad hat_ hne
          by_cases h7 : e9 = 7
          · subst h7
            go_wp2_with (first | (go_at_call 16; go_must (refine HT.out.mono ?_; rintro e w2 ⟨rfl, hbl⟩; have hat5 := HA4.out.below hbl; obtain ⟨vf5, z5, hv5⟩ := hat5.rep.fault; obtain rfl : vf5 = _ := hv5; have HA5 := Lib.hid hat5; clear hat5 hbl)) | (refine HBC.out.mono ?_; rintro e w1 hto; obtain ⟨v, rfl, hv, be2, hat2⟩ := hto; rw [HX1.out]; unfold errV; have zf4 := hat2.rep.facts.fz 4; have hat4 := hat2.setFault (.iface 30 (.int .i64 7)) (.errno 7) rfl; obtain ⟨vf3, z3, _⟩ := hat2.rep.fault; have ht := tell_errno _ (HG.out _ _ _ _ (HAT.out.then_ hat4)) 7; have HT := Lib.hid ht; have HA4 := Lib.hid hat4; clear hat2 hat4 hv ht))
            go_ret
            rw [HBAD2.out, HERR.out]
            exact ⟨be2, _, rfl, HAT.out.then_ HA5.out, rfl⟩
          · have hi7 : ((e9 : Int) == 7) = false := by simp; omega
            have H7 := Lib.hid h7; clear h7
            go_wp2_with (first | (go_at_call 16; go_must (refine HT.out.mono ?_; rintro e w2 ⟨rfl, hbl⟩; have hat5 := HA4.out.below hbl; obtain ⟨vf5, z5, hv5⟩ := hat5.rep.fault; obtain rfl : vf5 = _ := hv5; have y2 := hat5.rep.facts.c2; have zf5 := hat5.rep.facts.fz 4; have hpl : pa < w2.heap.size := block_lt_of_cell y2; simp only [HAT_.out] at y2; have HA5 := Lib.hid hat5; clear hat5 hbl)) | (refine HBC.out.mono ?_; rintro e w1 hto; obtain ⟨v, rfl, hv, be2, hat2⟩ := hto; rw [HX1.out]; unfold errV; have zf4 := hat2.rep.facts.fz 4; have hat4 := hat2.setFault (.iface 30 (.int .i64 (e9 : Int))) (.errno e9) rfl; obtain ⟨vf3, z3, _⟩ := hat2.rep.fault; have ht := tell_errno _ (HG.out _ _ _ _ (HAT.out.then_ hat4)) (e9 : Int); have HT := Lib.hid ht; have HA4 := Lib.hid hat4; clear hat2 hat4 hv ht))
            go_ret
            rw [HBAD2.out, HERR.out]
            simp only
            rw [if_neg H7.out]
            have hnf : ¬ AF_ (PX pa G) pf bf be2 w2.heap.size := fun q => by have := HA5.out.lt _ q; omega
            have hbk : Blk (w2.alloc (.cells #[.int .i64 (y.a.at_ : Int), .int .i64 (e9 : Int)] 98)) w2.heap.size 98 [.int .i64 (y.a.at_ : Int), .int .i64 (e9 : Int)] := heap_alloc_new w2 _
            rw [← World.setCell_alloc_past _ pa 4 _ hpl]
            exact ⟨be2, _, rfl, HAT.out.then_ ((HA5.out.alloc _).setFault _ (.wrapped e9) ⟨_, _, rfl, hnf, hbk⟩), ⟨_, _, rfl, hnf, hbk.setNe _ (by show w2.heap.size ≠ pa; omega)⟩⟩
      · obtain ⟨t9, u9, rfl⟩ := hv4.some_ne hf
        have hb := HBAD.out k hk hf
        have HB := Lib.hid hb
        have HV := Lib.hid hv4
        have HAT := Lib.hid hat1
        clear hv4 hat1 hf hb hby
        go_wp2
        go_ret
        rw [HB.out]
        exact ⟨be1, _, rfl, HAT.out, HV.out⟩
    · obtain rfl : k = n := by omega
      have HV := Lib.hid hv4
      have HAT := Lib.hid hat1
      clear hv4 hat1
      go_wp2
      go_ret
      rw [← HALL.out]
      exact ⟨be1, _, rfl, HAT.out, HV.out⟩
end Go.Proofs.YtkmgcggoemlaaaaGreatDoor
end

section
/- The applier's Finish, Held. No condition. -/
set_option linter.unusedSimpArgs false
set_option linter.unusedVariables false
namespace Go.Proofs.YtkmgcggoemlaaaaGreatDoor
open Go.RowKit Go.Fwm

theorem neq_fn (F : FuncId) (w : World) : (binOp .neq 87 (.func (.func F) #[] #[]) .nilFunc).run Tryz.prog w = .ok (.bool true) w := by kernel_rfl
set_option maxHeartbeats 4000000 in
theorem finish_bad (w : World) (G : Nat → Prop) (pa pf bf be : Nat) (x : AF) (h : ARep w G pa pf bf be x.a x.f) (hf : x.a.fault ≠ .none) :
    Calls Tryz.prog 32 #[.pointer (some ⟨pa, 0, none⟩)] w (FeTo w G pa pf bf be x.finish.x x.finish.fault) := by
  rw [fin_bad hf]
  obtain ⟨vf, y4, hv4⟩ := h.fault
  obtain ⟨t9, u9, rfl⟩ := hv4.some_ne hf
  have HV := Lib.hid hv4
  have HH := Lib.hid h
  clear hv4 h hf
  go_enter Tryz.func32, Tryz.ntmps32
  go_wp2
  go_ret
  exact ⟨be, _, rfl, AAt.refl HH.out, HV.out⟩
set_option maxRecDepth 100000 in
set_option maxHeartbeats 4000000 in
theorem finish_short (w : World) (G : Nat → Prop) (pa pf bf be : Nat) (x : AF) (h : ARep w G pa pf bf be x.a x.f) (hf : x.a.fault = .none) (hd : x.a.digits ≠ -1) :
    Calls Tryz.prog 32 #[.pointer (some ⟨pa, 0, none⟩)] w (FeTo w G pa pf bf be x.finish.x x.finish.fault) := by
  rw [fin_short hf hd]
  obtain ⟨vf, y4, hv4⟩ := h.fault
  rw [hf] at hv4
  obtain rfl : vf = .nilIface := hv4
  have y1 := h.facts.c1
  unfold stV at y1
  have hnf := neq_fn (stF x.a.st)
  have y6 := h.facts.c6
  have z4 := h.facts.fz 4
  have hi : (x.a.digits == -1) = false := by simpa using hd
  have hR : AAt w G pa pf bf be { x.a with fault := .errno 5 } x.f (w.setCell ⟨pa, 4, none⟩ (.iface 30 (.int .i64 5))) be := (AAt.refl h).setFault _ (.errno 5) rfl
  have HR := Lib.hid hR
  clear h hf hd hR
  go_enter Tryz.func32, Tryz.ntmps32
  go_wp2
  go_ret
  exact ⟨be, _, rfl, HR.out, rfl⟩
set_option maxRecDepth 100000 in
set_option maxHeartbeats 4000000 in
theorem finish_end (w : World) (G : Nat → Prop) (pa pf bf be : Nat) (x : AF) (h : ARep w G pa pf bf be x.a x.f) (hf : x.a.fault = .none) (hd : x.a.digits = -1) (he : x.f.events.length < 1000000000) :
    Calls Tryz.prog 32 #[.pointer (some ⟨pa, 0, none⟩)] w (FeTo w G pa pf bf be x.finish.x x.finish.fault) := by
  obtain ⟨RES, hRES⟩ : ∃ RES, x.finish = RES := ⟨_, rfl⟩
  have e1 : RES = match (x.f.commit x.a.length).err with
      | some e => { fault := .errno e, x := { a := { x.a with fault := .errno e }, f := (x.f.commit x.a.length).f } }
      | none => { fault := .none, x := { a := { x.a with fault := .errno 9 }, f := (x.f.commit x.a.length).f } } := by
    rw [← hRES]; unfold AF.finish; rw [if_neg (by rw [hf]; simp), if_neg (by simpa using hd)]; rfl
  rw [hRES]
  obtain ⟨vf, y4, hv4⟩ := h.fault
  rw [hf] at hv4
  obtain rfl : vf = .nilIface := hv4
  have y1 := h.facts.c1
  unfold stV at y1
  have hnf := neq_fn (stF x.a.st)
  have y6 := h.facts.c6
  rw [hd] at y6
  have hcm := commit_ok w.drew (PX pa G) pf bf be x.f ((AAt.refl h).drew.rep.fl) x.a.length he
  obtain ⟨L, hL⟩ : ∃ L, x.a.length = L := ⟨_, rfl⟩
  obtain ⟨r, hr⟩ : ∃ r, x.f.commit x.a.length = r := ⟨_, rfl⟩
  rw [hr] at hcm e1
  rw [hL] at hcm
  have hH : ∀ w2, FTo w.drew (PX pa G) pf bf be r.f w2 → ∃ be1, AAt w G pa pf bf be x.a r.f w2 be1 := by
    intro w2 hto
    obtain ⟨be2, hat⟩ := FAt.of hto
    exact ⟨be2, (AAt.refl h).drew.then_ ((AAt.refl h).drew.rep.flash hat)⟩
  have HC := Lib.hid hcm; clear hcm
  have HH := Lib.hid hH; clear hH
  have H1 := Lib.hid e1; clear e1
  have hl := h.inv.length
  have c0 := h.facts.c0
  have c8 := h.facts.c8
  rw [hL] at c8 hl
  have HRP := Lib.hid h; clear h
  clear hf hd hr hRES hL
  go_enter Tryz.func32, Tryz.ntmps32
  go_wp2
  refine wp_region_still_tail 8 (by kernel_rfl) (by kernel_rfl) ?_
  change wpStill _ _ (World.drew _) _ _ _
  have d0 : w.drew.cell? ⟨pa, 0, none⟩ = some (.pointer (some ⟨pf, 0, none⟩)) := c0
  have d8 : w.drew.cell? ⟨pa, 8, none⟩ = some (.int .i64 (L : Int)) := c8
  clear c0 c8 y1 y4 y6
  generalize hw2 : World.drew _ = w2 at HC HH d0 d8 ⊢
  have HW := Lib.hid hw2; clear hw2
  simp only [List.take_succ_cons, List.take_zero, List.drop_succ_cons, List.drop_zero]
  repeat still_step
  refine wpStill_nil ?_
  change wpList _ _ _ _ _ (World.drew _)
  rw [HW.out]
  cases hre : r.err with
  | some e9 =>
    have hh := H1.out
    rw [hre] at hh
    have HRES := Lib.hid hh
    have HX := Lib.hid hre
    clear hh hre H1
    go_wp2_with (go_at_call 44; go_must (refine HC.out.mono ?_; rintro e w3 ⟨rfl, hto⟩; rw [HX.out]; unfold errV; obtain ⟨be1, hat⟩ := HH.out _ hto; have zf4 := hat.rep.facts.fz 4; obtain ⟨vf3, z3, _⟩ := hat.rep.fault; have HA := Lib.hid hat; clear hto hat))
    go_ret
    rw [HRES.out]
    exact ⟨be1, _, rfl, HA.out.setFault _ (.errno e9) rfl, rfl⟩
  | none =>
    have hh := H1.out
    rw [hre] at hh
    have HRES := Lib.hid hh
    have HX := Lib.hid hre
    clear hh hre H1
    go_wp2_with (go_at_call 44; go_must (refine HC.out.mono ?_; rintro e w3 ⟨rfl, hto⟩; rw [HX.out]; unfold errV; obtain ⟨be1, hat⟩ := HH.out _ hto; have zf4 := hat.rep.facts.fz 4; obtain ⟨vf3, z3, _⟩ := hat.rep.fault; have HA := Lib.hid hat; clear hto hat))
    go_ret
    rw [HRES.out]
    exact ⟨be1, _, rfl, HA.out.setFault _ (.errno 9) rfl, rfl⟩
theorem finish_ok (w : World) (G : Nat → Prop) (pa pf bf be : Nat) (x : AF) (h : ARep w G pa pf bf be x.a x.f) (he : x.f.events.length < 1000000000) :
    Calls Tryz.prog 32 #[.pointer (some ⟨pa, 0, none⟩)] w (FeTo w G pa pf bf be x.finish.x x.finish.fault) := by
  by_cases hf : x.a.fault = .none
  · by_cases hd : x.a.digits = -1
    · exact finish_end w G pa pf bf be x h hf hd he
    · exact finish_short w G pa pf bf be x h hf hd
  · exact finish_bad w G pa pf bf be x h hf
set_option maxHeartbeats 4000000 in
theorem held_ok (w : World) (G : Nat → Prop) (pa pf bf be : Nat) (a : Ap) (f : Fl) (h : ARep w G pa pf bf be a f) :
    Calls Tryz.prog 39 #[.pointer (some ⟨pa, 0, none⟩)] w fun e w' => ∃ n : Int, e = .returned (.int .i64 n) ∧ w' = w := by
  obtain ⟨A, c, y76, _, _, _, _, hc⟩ := h.c76
  have hc2 := hc
  unfold maxLen at hc2
  have HC := Lib.hid hc
  clear h hc
  go_enter Tryz.func39, Tryz.ntmps39
  go_wp2
  go_ret
  exact ⟨_, rfl, rfl⟩
end Go.Proofs.YtkmgcggoemlaaaaGreatDoor
end

section
/- api.NewFlash. No condition. -/
set_option linter.unusedSimpArgs false
set_option linter.unusedVariables false
namespace Go.Proofs.YtkmgcggoemlaaaaGreatDoor
open Go.RowKit Go.Fwm
attribute [local go_sem ↓] Go.wp_at_zero Go.wp_at_succ

/-- The new slot, k of whose cells have been laid. -/
def row (k N : Nat) : List Value := (List.range N).map fun i => .int .u8 (if i < k then ((i * 7 + 90) % 256 : Nat) else 0)
theorem row_get {k N i : Nat} (h : i < N) : (row k N)[i]? = some (.int .u8 (if i < k then ((i * 7 + 90) % 256 : Nat) else 0)) := by simp [row, h]
theorem row_set {k N : Nat} : (row k N).set k (.int .u8 ((k * 7 + 90) % 256 : Nat)) = row (k + 1) N := by
  apply List.ext_getElem?
  intro i
  rw [List.getElem?_set]
  by_cases hi : i < N
  · by_cases e : k = i
    · subst e
      rw [if_pos rfl, row_get hi, if_pos (by simpa [row] using hi), if_pos (by omega)]
    · rw [if_neg e, row_get hi, row_get hi]
      congr 3
      exact propext (by omega)
  · have e1 : (row k N)[i]? = none := by simp [row]; omega
    have e2 : (row (k + 1) N)[i]? = none := by simp [row]; omega
    rw [e1, e2]
    split
    · rename_i h; subst h; rw [if_neg (by simp [row]; omega)]
    · rfl
theorem row_zero (N : Nat) : row 0 N = List.replicate N (.int .u8 0) := by
  apply List.ext_getElem?
  intro i
  by_cases hi : i < N
  · rw [row_get hi]; simp [hi]
  · simp [row, hi]
theorem row_full (N : Nat) : row N N = ((List.range N).map fun i => UInt8.ofNat (i * 7 + 90)).map enc := by
  apply List.ext_getElem?
  intro i
  by_cases hi : i < N
  · rw [row_get hi]; simp [hi, enc]
  · simp [row, hi]
/-- What NewFlash has laid. -/
structure Nf (w : World) (old : List UInt8) (N : Nat) (pf bf k : Nat) (wr : World) : Prop where
  ex : ∃ A c, Blk wr pf 76 [.slice A old.length c, .slice (some ⟨bf, 0, none⟩) N N, .slice none 0 0, .int .i64 0, .bool false, .int .i64 (-1), .int .u8 0, .int .i64 0, .int .i64 0] ∧ Bytes wr A old ∧ (A = none → c = 0) ∧ old.length ≤ c ∧ c ≤ maxLen ∧ ∀ x, A = some x → w.heap.size ≤ x.block ∧ x.block < wr.heap.size ∧ x.block ≠ pf ∧ x.block ≠ bf
  fr : Blk wr bf 5 (row k N)
  pfn : w.heap.size ≤ pf
  bfn : w.heap.size ≤ bf
  ne : pf ≠ bf
  be : Below w.heap.size w wr
theorem Nf.set {w wr : World} {old : List UInt8} {N pf bf k : Nat} (h : Nf w old N pf bf k wr) : Nf w old N pf bf (k + 1) (wr.setCell ⟨bf, k, none⟩ (.int .u8 ((k * 7 + 90) % 256 : Nat))) := by
  obtain ⟨⟨A, c, h1, h2, h3, h4, h5, h6⟩, hfr, p, q, ne, be⟩ := h
  have hon : Only (fun b => b = bf) wr (wr.setCell ⟨bf, k, none⟩ (.int .u8 ((k * 7 + 90) % 256 : Nat))) := (Only.refl _ _).set _ (.inl rfl)
  refine ⟨⟨A, c, h1.setNe _ ne, h2.only hon fun x hx e => (h6 x hx).2.2.2 e, h3, h4, h5, fun x hx => ?_⟩, ?_, p, q, ne, be.setCell (p := ⟨bf, k, none⟩) q _⟩
  · obtain ⟨y1, y2, y3, y4⟩ := h6 x hx
    exact ⟨y1, Nat.lt_of_lt_of_le y2 hon.le, y3, y4⟩
  · rw [← row_set]; exact hfr.set k _
theorem Nf.rep {w wr : World} {X : Nat → Prop} {old : List UInt8} {pages : Int} {pf bf be : Nat} (h : Nf w old (newPages old pages * 64) pf bf (newPages old pages * 64) wr) (hn : old.length ≤ 4096) (hbe : be < w.heap.size) (hX : ∀ b, X b → b < w.heap.size) : FRep wr X pf bf be (Fl.init old pages) := by
  obtain ⟨⟨A, c, h1, h2, h3, h4, h5, h6⟩, hfr, p, q, ne, hb⟩ := h
  have hP : newPages old pages ≤ 64 := by unfold newPages; omega
  have hlen : (Fl.init old pages).fresh.length = newPages old pages * 64 := by simp [Fl.init]
  refine ⟨⟨A, c, newPages old pages * 64, .slice none 0 0, ?_, h2, fun a ha x => ?_, fun a ha => (h6 a ha).2.1, ⟨⟨rfl, .inl ⟨rfl, rfl⟩⟩, fun k hk => (by cases hk)⟩, by rw [hlen]; exact Nat.le_refl _, by simp only [maxLen]; omega, h4, h5, h3⟩, ?_, ne, by omega, by omega, by have := hb.size; omega, hn, by rw [hlen]; omega, Nat.zero_le _, Nat.zero_le _, ⟨by show (-1 : Int) ≤ _; decide, by show (-1 : Int) ≤ -1; decide⟩, Nat.zero_le _, Nat.zero_le _⟩
  · have e : flCells (Fl.init old pages) A c bf (newPages old pages * 64) (.slice none 0 0) = [.slice A old.length c, .slice (some ⟨bf, 0, none⟩) (newPages old pages * 64) (newPages old pages * 64), .slice none 0 0, .int .i64 0, .bool false, .int .i64 (-1), .int .u8 0, .int .i64 0, .int .i64 0] := by
      unfold flCells; rw [hlen]; rfl
    rw [e]; exact h1
  · obtain ⟨y1, y2, y3, y4⟩ := h6 a ha
    rcases x with x | x | x | x
    · have := hX _ x; omega
    · exact y3 x
    · exact y4 x
    · omega
  · rw [row_full] at hfr; exact hfr
set_option maxRecDepth 100000 in
set_option maxHeartbeats 8000000 in
theorem newflash_ok (w : World) (X : Nat → Prop) (A : Option Addr) (n c : Nat) (old : List UInt8) (hl : old.length = n) (hn : n ≤ 4096) (hx : Bytes w A old) (hA : A = none → c = 0) (pages : Int) (hp : -9223372036854775808 ≤ pages ∧ pages ≤ 9223372036854775807) (be : Nat) (hbe : be < w.heap.size) (hX : ∀ b, X b → b < w.heap.size) (hXb : ¬ X be) :
    Calls Tryz.prog 18 #[.slice A n c, .int .i64 pages] w fun e w' => ∃ pf bf, e = .returned (.pointer (some ⟨pf, 0, none⟩)) ∧ FRep w' X pf bf be (Fl.init old pages) ∧ Below w.heap.size w w' ∧ w.heap.size ≤ pf ∧ w.heap.size ≤ bf := by
  obtain ⟨P, hP⟩ : ∃ P, newPages old pages = P := ⟨_, rfl⟩
  have hPl : P ≤ 64 := by rw [← hP]; unfold newPages; omega
  have hcl : ∀ W : World, Below w.heap.size w W → Calls Tryz.prog 38 #[.slice A n c] W fun e w' => ∃ A' cap', e = .returned (.slice A' n cap') ∧ Fresh W w' A' n cap' old ∧ Below W.heap.size W w' := fun W hW =>
    clone_any W A n c old hl (by omega) (hx.only (F := fun _ => False) ⟨hW.size, fun b hb _ => hW.block b hb⟩ fun _ _ x => x) hA
  obtain ⟨m, hm⟩ : ∃ m : Int, m = min pages 64 := ⟨_, rfl⟩
  have hmn : ∀ W, (Builtin.min_ #[3, 3] 3 #[.int .i64 pages, .int .i64 64]).run Tryz.prog W = .ok (.int .i64 m) W := fun W => by
    rw [run_min_int2]
    congr 2
    split <;> omega
  have hmx : ∀ W, (Builtin.max_ #[3, 3, 3] 3 #[.int .i64 (((n : Int) + 64 - 1) / 64), .int .i64 m, .int .i64 0]).run Tryz.prog W = .ok (.int .i64 (P : Int)) W := fun W => by
    have e : ∀ x y z : Int, (Builtin.max_ #[3, 3, 3] 3 #[.int .i64 x, .int .i64 y, .int .i64 z]).run Tryz.prog W = .ok (.int .i64 (if z > (if y > x then y else x) then z else (if y > x then y else x))) W := fun x y z => by
      simp [Builtin.max_, Builtin.max2]
    rw [e]
    congr 2
    unfold newPages at hP
    rw [hl] at hP
    split <;> split at * <;> omega
  have hmk := run_make_u8 (P * 64) (by omega)
  rw [show ((P * 64 : Nat) : Int) = (P : Int) * 64 by omega] at hmk
  have HCL := Lib.hid hcl; clear hcl
  have HX := Lib.hid hx; clear hx
  have hrep : ∀ pf bf wr, Nf w old (P * 64) pf bf (P * 64) wr → FRep wr X pf bf be (Fl.init old pages) := fun pf bf wr h => by
    rw [← hP] at h; exact h.rep (by omega) hbe hX
  have HR := Lib.hid hrep; clear hrep
  clear hm hP hl hX
  go_enter Tryz.func18, Tryz.ntmps18
  go_wp2
  have j1 : IntKind.i64.wrap ((P : Int) * 64) = (P : Int) * 64 := IntWalk.i64_in _ (by omega)
  have B1 : Below w.heap.size w w.drew := (Below.refl _ w).drew
  have B2 := fun o => B1.alloc (Nat.le_refl _) o
  go_region_held3 (fun _ => True) (trivial) (first | (go_at_call 38; (first | refine (HCL.out _ B1).mono ?_ | refine (HCL.out _ (B2 _)).mono ?_); rintro e w1 ⟨A1, c1, rfl, hf1, hb1⟩))
  · obtain ⟨pf, hpf⟩ : ∃ pf, w1.heap.size + 1 = pf := ⟨_, rfl⟩
    obtain ⟨bf, hbf⟩ : ∃ bf, w1.heap.size = bf := ⟨_, rfl⟩
    obtain ⟨W3, hW3⟩ : ∃ W3, ((w1.alloc (Obj.cells (Array.replicate (P * 64) (Value.int IntKind.u8 0)) 5)).alloc (Obj.cells #[Value.slice A1 n c1, Value.slice (some ⟨w1.heap.size, 0, none⟩) (P * 64) (P * 64), Value.slice none 0 0, Value.int IntKind.i64 0, Value.bool false, Value.int IntKind.i64 (-1), Value.int IntKind.u8 0, Value.int IntKind.i64 0, Value.int IntKind.i64 0] 76)) = W3 := ⟨_, rfl⟩
    have hN : Nf w old (P * 64) pf bf 0 W3 := by
      rw [← hW3, ← hpf, ← hbf]
      have hon : Only (fun _ => False) w1 ((w1.alloc (Obj.cells (Array.replicate (P * 64) (Value.int IntKind.u8 0)) 5)).alloc (Obj.cells #[Value.slice A1 n c1, Value.slice (some ⟨w1.heap.size, 0, none⟩) (P * 64) (P * 64), Value.slice none 0 0, Value.int IntKind.i64 0, Value.bool false, Value.int IntKind.i64 (-1), Value.int IntKind.u8 0, Value.int IntKind.i64 0, Value.int IntKind.i64 0] 76)) := ((Only.refl _ _).alloc _).alloc _
      have hsz := hb1.size
      have hsz : w.heap.size ≤ w1.heap.size := hsz
      refine ⟨⟨A1, c1, ?_, hf1.bytes.only hon fun _ _ x => x, fun e => (hf1.nil_ e).2, by rw [hf1.len]; exact hf1.cap.1, hf1.cap.2, fun x hx => ?_⟩, ?_, by omega, hsz, by omega, ((B1.trans hb1).alloc hsz _).alloc (by simp; omega) _⟩
      · rw [hf1.len]
        have := heap_alloc_new (w1.alloc (Obj.cells (Array.replicate (P * 64) (Value.int IntKind.u8 0)) 5)) (Obj.cells #[Value.slice A1 n c1, Value.slice (some ⟨w1.heap.size, 0, none⟩) (P * 64) (P * 64), Value.slice none 0 0, Value.int IntKind.i64 0, Value.bool false, Value.int IntKind.i64 (-1), Value.int IntKind.u8 0, Value.int IntKind.i64 0, Value.int IntKind.i64 0] 76)
        rw [show (w1.alloc (Obj.cells (Array.replicate (P * 64) (Value.int IntKind.u8 0)) 5)).heap.size = w1.heap.size + 1 by simp] at this
        exact this
      · obtain ⟨y1, y2, _⟩ := hf1.new_ x hx
        exact ⟨y1, by simp; omega, by omega, by omega⟩
      · rw [row_zero]
        refine Blk.alloc ?_ _
        show _ = _
        rw [List.toArray_replicate]; exact heap_alloc_new w1 _
    rw [hW3, hpf, hbf]
    clear hW3 hpf hbf hf1 hb1 hmk hmx hmn B1 B2 HCL j1
    have q1 : W3.cell? ⟨pf, 1, none⟩ = some (.slice (some ⟨bf, 0, none⟩) (P * 64) (P * 64)) := by obtain ⟨_, _, g, _⟩ := hN.ex; exact g.cell rfl
    have HN := Lib.hid hN; clear hN
    go_wp2
    go_loopw [29] (fun i wr => ∃ k : Nat, k ≤ P * 64 ∧ i = .int .i64 k ∧ Nf w old (P * 64) pf bf k wr) (fun i _ => P * 64 - (intOf i).toNat)
    case atStart => exact ⟨0, Nat.zero_le _, rfl, HN.out⟩
    case round =>
      obtain ⟨k, hk, rfl, hN⟩ := hrel
      by_cases hlt : k < P * 64
      · have q2 : wr.cell? ⟨pf, 1, none⟩ = some (.slice (some ⟨bf, 0, none⟩) (P * 64) (P * 64)) := by obtain ⟨_, _, g, _⟩ := hN.ex; exact g.cell rfl
        have q3 := hN.fr.cell (row_get hlt)
        have q4 := hN.fr.free k
        have HN2 := Lib.hid hN; clear hN
        go_wp2
        go_roundw
        case rel => exact ⟨k + 1, by omega, by go_num, by have := HN2.out.set; rw [show (((k * 7 + 90) % 256 : Nat) : Int) = ((k : Int) * 7 + 90) % 256 by omega] at this; exact this⟩
        case measure => simp [intOf]; omega
      · obtain rfl : k = P * 64 := by omega
        have HN2 := Lib.hid hN; clear hN
        go_wp2
        go_ret
        exact ⟨pf, bf, rfl, HR.out pf bf _ HN2.out, HN2.out.be, HN2.out.pfn, HN2.out.bfn⟩
  · obtain ⟨pf, hpf⟩ : ∃ pf, w1.heap.size = pf := ⟨_, rfl⟩
    obtain ⟨bf, hbf⟩ : ∃ bf, w.heap.size = bf := ⟨_, rfl⟩
    obtain ⟨W3, hW3⟩ : ∃ W3, (w1.alloc (Obj.cells #[Value.slice A1 n c1, Value.slice (some ⟨w.heap.size, 0, none⟩) (P * 64) (P * 64), Value.slice none 0 0, Value.int IntKind.i64 0, Value.bool false, Value.int IntKind.i64 (-1), Value.int IntKind.u8 0, Value.int IntKind.i64 0, Value.int IntKind.i64 0] 76)) = W3 := ⟨_, rfl⟩
    have hN : Nf w old (P * 64) pf bf 0 W3 := by
      rw [← hW3, ← hpf, ← hbf]
      have hon : Only (fun _ => False) w1 (w1.alloc (Obj.cells #[Value.slice A1 n c1, Value.slice (some ⟨w.heap.size, 0, none⟩) (P * 64) (P * 64), Value.slice none 0 0, Value.int IntKind.i64 0, Value.bool false, Value.int IntKind.i64 (-1), Value.int IntKind.u8 0, Value.int IntKind.i64 0, Value.int IntKind.i64 0] 76)) := (Only.refl _ _).alloc _
      have hsz := hb1.size
      have hsz : w.heap.size + 1 ≤ w1.heap.size := by simpa using hsz
      have hfr : Blk (w.drew.alloc (Obj.cells (Array.replicate (P * 64) (Value.int IntKind.u8 0)) 5)) w.heap.size 5 (row 0 (P * 64)) := by
        rw [row_zero]
        show _ = _
        rw [List.toArray_replicate]; exact heap_alloc_new w.drew _
      refine ⟨⟨A1, c1, ?_, hf1.bytes.only hon fun _ _ x => x, fun e => (hf1.nil_ e).2, by rw [hf1.len]; exact hf1.cap.1, hf1.cap.2, fun x hx => ?_⟩, ?_, by omega, Nat.le_refl _, by omega, ?_⟩
      · rw [hf1.len]
        exact heap_alloc_new w1 _
      · obtain ⟨y1, y2, _⟩ := hf1.new_ x hx
        have y1 : w.heap.size + 1 ≤ x.block := by simpa using y1
        exact ⟨by omega, by simp; omega, by omega, by omega⟩
      · exact (hfr.keep (hb1.block _ (by simp))).alloc _
      · exact ((B2 _).trans (hb1.mono (by simp))).alloc (by omega) _
    rw [hW3, hpf, hbf]
    clear hW3 hpf hbf hf1 hb1 hmk hmx hmn B1 B2 HCL j1
    have q1 : W3.cell? ⟨pf, 1, none⟩ = some (.slice (some ⟨bf, 0, none⟩) (P * 64) (P * 64)) := by obtain ⟨_, _, g, _⟩ := hN.ex; exact g.cell rfl
    have HN := Lib.hid hN; clear hN
    go_wp2
    go_loopw [29] (fun i wr => ∃ k : Nat, k ≤ P * 64 ∧ i = .int .i64 k ∧ Nf w old (P * 64) pf bf k wr) (fun i _ => P * 64 - (intOf i).toNat)
    case atStart => exact ⟨0, Nat.zero_le _, rfl, HN.out⟩
    case round =>
      obtain ⟨k, hk, rfl, hN⟩ := hrel
      by_cases hlt : k < P * 64
      · have q2 : wr.cell? ⟨pf, 1, none⟩ = some (.slice (some ⟨bf, 0, none⟩) (P * 64) (P * 64)) := by obtain ⟨_, _, g, _⟩ := hN.ex; exact g.cell rfl
        have q3 := hN.fr.cell (row_get hlt)
        have q4 := hN.fr.free k
        have HN2 := Lib.hid hN; clear hN
        go_wp2
        go_roundw
        case rel => exact ⟨k + 1, by omega, by go_num, by have := HN2.out.set; rw [show (((k * 7 + 90) % 256 : Nat) : Int) = ((k : Int) * 7 + 90) % 256 by omega] at this; exact this⟩
        case measure => simp [intOf]; omega
      · obtain rfl : k = P * 64 := by omega
        have HN2 := Lib.hid hN; clear hN
        go_wp2
        go_ret
        exact ⟨pf, bf, rfl, HR.out pf bf _ HN2.out, HN2.out.be, HN2.out.pfn, HN2.out.bfn⟩
end Go.Proofs.YtkmgcggoemlaaaaGreatDoor
end

section
/- An applier beside other memory; Feed behind a fault. No condition. -/
set_option linter.unusedSimpArgs false
set_option linter.unusedVariables false
namespace Go.Proofs.YtkmgcggoemlaaaaGreatDoor
open Go.RowKit Go.Fwm

section
variable {w w' w'' : World} {G G' : Nat → Prop} {pa pf bf be be' : Nat} {a : Ap} {f : Fl}
/-- More memory is known to be others'. -/
theorem ARep.takeIn (h : ARep w G pa pf bf be a f) (hb : Only (fun _ => False) w w') (hG : ∀ b, b < w.heap.size → G' b → G b) (hlt : ∀ b, G' b → b < w'.heap.size) : ARep w' G' pa pf bf be a f := by
  have hk := h.only hb fun b x => x.elim
  obtain ⟨vf, A, c, h1, h2, h3, h4, h5, h6⟩ := h.blk
  have hfl := h.fl.wider (X' := PX pa G') fun b hb x => x.imp id (hG b hb)
  obtain ⟨_, _, _, _, g1, _⟩ := h.fl.blk
  have hAF : ∀ b, b < w.heap.size → AF_ (PX pa G') pf bf be b → AF_ (PX pa G) pf bf be b := fun b hb x => x.imp (fun y => y.imp id (hG b hb)) id
  refine ⟨⟨vf, A, c, h1.only hb fun x => x, ?_, h3.only hb fun _ _ x => x, fun x hx y => h4 x hx (hAF _ (h5 x hx) y), fun x hx => Nat.lt_of_lt_of_le (h5 x hx) hb.le, h6⟩, hfl.only hb fun b x => x.elim, h.ne, ⟨fun x => h.ng.1 (hG _ h1.lt x), fun x => h.ng.2.1 (hG _ g1.lt x), fun x => h.ng.2.2.1 (hG _ h.fl.fresh.lt x), fun x => h.ng.2.2.2 (hG _ h.fl.belt x)⟩, hlt, h.inv⟩
  cases hf : a.fault with
  | none => rw [hf] at h2; exact h2
  | errno n => rw [hf] at h2; exact h2
  | wrapped n =>
    rw [hf] at h2
    obtain ⟨b, at_, q1, q2, q3⟩ := h2
    exact ⟨b, at_, q1, fun x => q2 (hAF _ q3.lt x), q3.only hb fun x => x⟩
theorem ARep.give (h : ARep w G' pa pf bf be a f) (hG : ∀ b, G b → G' b) : ARep w G pa pf bf be a f := by
  obtain ⟨vf, A, c, h1, h2, h3, h4, h5, h6⟩ := h.blk
  have hAF : ∀ b, AF_ (PX pa G) pf bf be b → AF_ (PX pa G') pf bf be b := fun b x => x.imp (fun y => y.imp id (hG b)) id
  refine ⟨⟨vf, A, c, h1, ?_, h3, fun x hx y => h4 x hx (hAF _ y), h5, h6⟩, h.fl.wider fun b _ x => x.imp id (hG b), h.ne, ⟨fun x => h.ng.1 (hG _ x), fun x => h.ng.2.1 (hG _ x), fun x => h.ng.2.2.1 (hG _ x), fun x => h.ng.2.2.2 (hG _ x)⟩, fun b hb => h.glt b (hG b hb), h.inv⟩
  cases hf : a.fault with
  | none => rw [hf] at h2; exact h2
  | errno n => rw [hf] at h2; exact h2
  | wrapped n =>
    rw [hf] at h2
    obtain ⟨b, at_, q1, q2, q3⟩ := h2
    exact ⟨b, at_, q1, fun x => q2 (hAF _ x), q3⟩
end
theorem FltV.but {w w' : World} {F : Nat → Prop} {v : Value} {x : Flt} {g : Nat} (h : FltV w F v x) (k : But g w w') (hg : F g) : FltV w' F v x := by
  cases x with
  | none => exact h
  | errno n => exact h
  | wrapped n =>
    obtain ⟨b, at_, q1, q2, q3⟩ := h
    exact ⟨b, at_, q1, q2, q3.keep (k.block b fun e => q2 (e ▸ hg))⟩
theorem FltV.below {w w' : World} {F : Nat → Prop} {v : Value} {x : Flt} (h : FltV w F v x) (k : Below w.heap.size w w') : FltV w' F v x := by
  cases x with
  | none => exact h
  | errno n => exact h
  | wrapped n =>
    obtain ⟨b, at_, q1, q2, q3⟩ := h
    exact ⟨b, at_, q1, q2, q3.keep (k.block b q3.lt)⟩
theorem FltV.imp {w : World} {F F' : Nat → Prop} {v : Value} {x : Flt} (h : FltV w F v x) (hF : ∀ b, F' b → F b) : FltV w F' v x := by
  cases x with
  | none => exact h
  | errno n => exact h
  | wrapped n =>
    obtain ⟨b, at_, q1, q2, q3⟩ := h
    exact ⟨b, at_, q1, fun x => q2 (hF b x), q3⟩

set_option maxRecDepth 100000 in
set_option maxHeartbeats 4000000 in
theorem feed_done (w : World) (G : Nat → Prop) (pa pf bf be : Nat) (x : AF) (h : ARep w G pa pf bf be x.a x.f) (hf : x.a.fault ≠ .none) (A : Option Addr) (n c : Nat) (zs : List UInt8) (hl : zs.length = n) (hn : n ≤ 1000000) (hx : Bytes w A zs) :
    Calls Tryz.prog 33 #[.pointer (some ⟨pa, 0, none⟩), .slice A n c] w (FeTo w G pa pf bf be x x.a.fault) := by
  obtain ⟨vf, y4, hv4⟩ := h.fault
  obtain ⟨t9, u9, rfl⟩ := hv4.some_ne hf
  have HV := Lib.hid hv4; clear hv4
  have HH := Lib.hid h; clear h
  clear hf
  go_enter Tryz.func33, Tryz.ntmps33
  go_wp2
  go_loopw [12] (fun i wr => ∃ k : Nat, k ≤ n ∧ i = .int .i64 k ∧ wr = w) (fun i _ => n - (intOf i).toNat)
  case atStart => exact ⟨0, Nat.zero_le _, rfl, rfl⟩
  case round =>
    obtain ⟨k, hk, rfl, rfl⟩ := hrel
    by_cases hlt : k < n
    · obtain ⟨b8, o8, rfl, hc8⟩ := hx k (by omega)
      go_wp2
      go_ret
      exact ⟨be, _, rfl, AAt.refl HH.out, HV.out⟩
    · obtain rfl : k = n := by omega
      go_wp2
      go_ret
      exact ⟨be, _, rfl, AAt.refl HH.out, HV.out⟩
end Go.Proofs.YtkmgcggoemlaaaaGreatDoor
end
