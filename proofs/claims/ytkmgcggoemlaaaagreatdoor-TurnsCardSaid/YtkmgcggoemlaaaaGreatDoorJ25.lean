/-
  Part 25 of the common ground of this seat: what single parts show stands ahead of each.
  No condition.
-/
import Derived.Test.YtkmgcggoemlaaaaGreatDoorJ24
import Derived.Test.YtkmgcggoemlaaaaGreatDoorJ09
import Derived.Conc.LeavingOf
import Derived.Test.YtkmgcggoemlaaaaGreatDoorRows
import Derived.OpenShut
import Derived.ShutString
import Derived.ChangeOld
import Derived.ChangeSame
import Derived.ChangeVars
import Derived.JoinedOf
import Derived.LaidLaws
import Derived.LaidHandle
import Derived.Stop.Joined
import Derived.Test.YtkmgcggoemlaaaaGreatDoorJ23
import Derived.SevenTiedAt
import Derived.Test.YtkmgcggoemlaaaaGreatDoorJ12
import Derived.Test.YtkmgcggoemlaaaaGreatDoorJ20

section
/- The start of a row: a private world, frozen, of what the arguments reach. No condition. -/
set_option linter.unusedSimpArgs false
set_option linter.unusedVariables false
namespace Go.Proofs.YtkmgcggoemlaaaaGreatDoor
open Go Go.Fw Go.Conc Go.RowKit Go.Fwm

theorem rel_ex_n {G : Nat} (β : Ren G) : ∀ (n : Nat) (V : Value), SizeOf.sizeOf V ≤ n → ∃ v, VR FN β v V := by
  intro n
  induction n with
  | zero => intro V h; cases V <;> simp at h
  | succ n ih =>
    have harr : ∀ xs : Array Value, SizeOf.sizeOf xs ≤ n → ∃ ys : Array Value, ys.size = xs.size ∧ ∀ (i : Nat) (x X : Value), ys[i]? = some x → xs[i]? = some X → VR FN β x X := fun xs hxs => by
      have h : ∀ i : Fin xs.size, ∃ v, VR FN β v xs[i] := fun i => ih xs[i] (by have := Array.sizeOf_getElem xs i.val i.isLt; simp only [Fin.getElem_fin]; omega)
      refine ⟨Array.ofFn fun i => (h i).choose, by simp, fun i x X hx hX => ?_⟩
      obtain ⟨hi, rfl⟩ := Array.getElem?_eq_some_iff.1 hX
      simp [hi] at hx
      subst hx
      exact (h ⟨i, hi⟩).choose_spec
    intro V hV
    cases V with
    | bool b => exact ⟨_, .bool b⟩
    | int k m => exact ⟨_, .int k m⟩
    | float k m => exact ⟨_, .junk rfl⟩
    | complex k a b => exact ⟨_, .junk rfl⟩
    | string x => exact ⟨_, .string x⟩
    | pointer a =>
      cases a with
      | none => exact ⟨_, .ptr0⟩
      | some a => exact ⟨_, .junk rfl⟩
    | slice a l c =>
      cases a with
      | none => exact ⟨_, .slice0 l c⟩
      | some a => exact ⟨_, .junk rfl⟩
    | map a =>
      cases a with
      | none => exact ⟨_, .mapNil⟩
      | some a => exact ⟨_, .junk rfl⟩
    | chan r => exact ⟨_, .chan r⟩
    | func f xs ys => exact ⟨_, .junkF f xs ys⟩
    | nilFunc => exact ⟨_, .nilFunc⟩
    | iface t v => exact ⟨_, .junk rfl⟩
    | nilIface => exact ⟨_, .nilIface⟩
    | agg xs =>
      obtain ⟨ys, h1, h2⟩ := harr xs (by simp at hV; omega)
      exact ⟨.agg ys, .agg h1 h2⟩
    | tuple xs =>
      obtain ⟨ys, h1, h2⟩ := harr xs (by simp at hV; omega)
      exact ⟨.tuple ys, .tuple h1 h2⟩
theorem rel_ex {G : Nat} (β : Ren G) (V : Value) : ∃ v, VR FN β v V := rel_ex_n β _ V (Nat.le_refl _)
/-- A slice with no room, which is not nil. -/
def isE : Value → Bool
  | .slice (some _) 0 0 => true
  | _ => false
/-- What stands for it in the private world. -/
def eV : Value := .slice (some ⟨0, 0, none⟩) 0 0
theorem isE_some {V : Value} (h : isE V = true) : ∃ a, V = .slice (some a) 0 0 := by
  cases V with
  | slice a l c => cases a with
    | none => cases h
    | some a => cases l <;> cases c <;> first | exact ⟨a, rfl⟩ | cases h
  | _ => cases h
open Classical in
noncomputable def pvl {G : Nat} (β : Ren G) (V : Value) : Value := if isE V then eV else if VR FN β V V then V else (rel_ex β V).choose
theorem pvl_rel {G : Nat} (β : Ren G) (V : Value) : VR FN β (pvl β V) V := by
  unfold pvl; split
  · rename_i h
    obtain ⟨a, rfl⟩ := isE_some h
    exact .sliceE _ _
  · split
    · assumption
    · exact (rel_ex β V).choose_spec
theorem pvl_same {G : Nat} {β : Ren G} {V : Value} (h : VR FN β V V) (he : isE V = false) : pvl β V = V := by unfold pvl; rw [he]; exact if_pos h
theorem pvl_E {G : Nat} {β : Ren G} {V : Value} (he : isE V = true) : pvl β V = eV := by unfold pvl; rw [he]; rfl
noncomputable def pwO {G : Nat} (β : Ren G) : Obj → Obj
  | .cells c t fr => .cells (c.map (pvl β)) t (0, max c.size fr.2)
  | o => o
noncomputable def pw {G : Nat} (β : Ren G) (W : World) : World := { W with heap := W.heap.map (pwO β) }
theorem pw_size {G : Nat} (β : Ren G) (W : World) : (pw β W).heap.size = W.heap.size := by simp [pw]
theorem pw_get {G : Nat} (β : Ren G) (W : World) (b : Nat) : (pw β W).heap[b]? = (W.heap[b]?).map (pwO β) := by simp [pw]
theorem pw_cell' {G : Nat} {β : Ren G} {W : World} {a : Addr} {v : Value} (h : W.cell? a = some v) : (pw β W).cell? a = some (pvl β v) := by
  have e := pw_get β W a.block
  unfold World.cell? at h ⊢
  rw [e]
  cases ho : W.heap[a.block]? with
  | none => rw [ho] at h; cases h
  | some o =>
    rw [ho] at h
    cases o with
    | cells c t fr =>
      simp only [Option.map_some, pwO]
      simp only at h
      split at h
      · cases h
      · rename_i hs
        rw [if_neg hs, Array.getElem?_map, h]
        rfl
    | _ => cases h
theorem pw_cell {G : Nat} {β : Ren G} {W : World} {a : Addr} {v : Value} (h : W.cell? a = some v) (hv : VR FN β v v) (he : isE v = false) : (pw β W).cell? a = some v := by
  rw [pw_cell' h, pvl_same hv he]
theorem pw_bytes {G : Nat} {β : Ren G} {W : World} {A : Option Addr} {zs : List UInt8} (h : Bytes W A zs) : Bytes (pw β W) A zs := fun i hi => by
  obtain ⟨b, o, e, hc⟩ := h i hi
  exact ⟨b, o, e, pw_cell hc (.int _ _) rfl⟩
theorem pw_ints {G : Nat} {β : Ren G} {W : World} {A : Option Addr} {n : Nat} (h : Ints W A n) : Ints (pw β W) A n := fun i hi => by
  obtain ⟨b, o, z, e, hc, hz⟩ := h i hi
  exact ⟨b, o, z, e, pw_cell hc (.int _ _) rfl, hz⟩
open Classical in
/-- Blocks that go to themselves. -/
noncomputable def rn0 (S : Nat → Prop) : Ren Tryz.prog.globals.size where
  f b := if b = 0 ∨ b = Tryz.prog.globals.size ∨ S b then some b else none
  inj b b' B h h' := by
    split at h <;> split at h'
    · simp_all
    · cases h'
    · cases h
    · cases h
  glob b B h := by
    split at h
    · cases h; exact ⟨Iff.rfl, fun _ => rfl⟩
    · cases h
  sp b h := by rcases h with h | h <;> simp [h]
theorem rn0_f {S : Nat → Prop} {b : Nat} (h : b = 0 ∨ b = Tryz.prog.globals.size ∨ S b) : (rn0 S).f b = some b := if_pos h
theorem rn0_inv {S : Nat → Prop} {b B : Nat} (h : (rn0 S).f b = some B) : b = B ∧ (b = 0 ∨ b = Tryz.prog.globals.size ∨ S b) := by
  unfold rn0 at h
  simp only at h
  split at h
  · exact ⟨Option.some.inj h, by assumption⟩
  · cases h
def isCells : Obj → Bool
  | .cells _ _ _ => true
  | _ => false
theorem isCells_some {o : Option Obj} (h : o.map isCells = some true) : ∃ c t fr, o = some (.cells c t fr) := by
  cases o with
  | none => cases h
  | some o =>
    cases o with
    | cells c t fr => exact ⟨c, t, fr, rfl⟩
    | _ => cases h
theorem cells_of_cell {W : World} {a : Addr} {v : Value} (h : W.cell? a = some v) : ∃ c t fr, W.heap[a.block]? = some (.cells c t fr) := by
  unfold World.cell? at h
  cases ho : W.heap[a.block]? with
  | none => rw [ho] at h; cases h
  | some o =>
    rw [ho] at h
    cases o with
    | cells c t fr => exact ⟨c, t, fr, rfl⟩
    | _ => cases h
theorem pw_wr {S : Nat → Prop} {W : World} (hS : ∀ b, (b = 0 ∨ b = Tryz.prog.globals.size ∨ S b) → ∃ c t fr, W.heap[b]? = some (.cells c t fr)) (hG : Tryz.prog.globals.size ≤ W.heap.size) : WR FN (rn0 S) (pw (rn0 S) W) W := by
  refine ⟨fun b B hb => ?_, by rw [pw_size]; exact hG, hG⟩
  obtain ⟨rfl, h⟩ := rn0_inv hb
  obtain ⟨c, t, fr, e⟩ := hS b h
  refine .inl ⟨c.map (pvl (rn0 S)), c, t, (0, max c.size fr.2), fr, by rw [pw_get, e]; rfl, e, ⟨by simp, fun i x X hx hX => ?_⟩, fun off ho => ?_⟩
  · rw [Array.getElem?_map, hX] at hx
    cases hx
    exact pvl_rel _ _
  · obtain ⟨h1, h2⟩ := ho
    refine ⟨Nat.zero_le _, ?_⟩
    show off < max c.size fr.2
    omega
theorem pw_fz {S : Nat → Prop} {W : World} (hS : ∀ b, (b = 0 ∨ b = Tryz.prog.globals.size ∨ S b) → ∃ c t fr, W.heap[b]? = some (.cells c t fr)) {b B : Nat} (hb : (rn0 S).f b = some B) : Fz (pw (rn0 S) W) b := by
  obtain ⟨rfl, h⟩ := rn0_inv hb
  obtain ⟨c, t, fr, e⟩ := hS b h
  refine .inl ⟨c.map (pvl (rn0 S)), t, (0, max c.size fr.2), by rw [pw_get, e]; rfl, fun off ho => ⟨Nat.zero_le _, ?_⟩⟩
  simp at ho
  show off < max c.size fr.2
  omega
/-- ████ FROM THE PRIVATE WORLD TO THE RUN OF A ROW. ████ -/
theorem start {S : Nat → Prop} {W : World} {f : FuncId} {args : Array Value} {Post : Value → World → Prop} (hS : ∀ b, (b = 0 ∨ b = Tryz.prog.globals.size ∨ S b) → ∃ c t fr, W.heap[b]? = some (.cells c t fr)) (hG : Tryz.prog.globals.size ≤ W.heap.size)
    (hb : bodyOk Tryz.prog f = true) (ha : ∀ (i : Nat) x, args[i]? = some x → VR FN (rn0 S) x x)
    (h : CEnds Tryz.prog FN W.heap.size W Post [] [Frame.enter Tryz.prog f args .normal] (pw (rn0 S) W)) :
    ∃ M last o w' t', runNT Tryz.prog (M + 1) (solo (G (Frame.enter Tryz.prog f args .normal) []) W) #[] = (.ended o w', t') ∧ runN Tryz.prog M (solo (G (Frame.enter Tryz.prog f args .normal) []) W) = .next last ∧
      step Tryz.prog last = .ended o w' ∧ Conc.Good Tryz.prog Post last o w' t' := by
  have harr : ArrR FN (rn0 S) args args := ⟨rfl, fun i x X hx hX => by rw [hx] at hX; cases hX; exact ha i x hx⟩
  exact h (rn0 S) #[G (Frame.enter Tryz.prog f args .normal) []] W none #[] (fun _ => 0) ⟨⟨[Frame.enter Tryz.prog f args .normal], rfl, .cons (enter_frR .normal (by decide) hb harr) .nil⟩, pw_wr hS hG, ⟨fun i g hi hg => absurd (Array.getElem?_eq_some_iff.1 hg).1 (by simp; omega), fun j _ => by unfold Deaf Trace.deaf; simp⟩, pastT_nil, Nat.le_refl _, fun _ _ => rfl, fun b B hb _ => pw_fz hS hb, rfl, rfl, rfl, fun c hc => (by cases hc), List.nodup_nil⟩
end Go.Proofs.YtkmgcggoemlaaaaGreatDoor
end

section
/- The frame of this seat's rows: what the arguments are, the variable that is laid, the witness, the end. No condition. -/
set_option linter.unusedSimpArgs false
set_option linter.unusedVariables false
set_option linter.constructorNameAsVariable false
set_option maxRecDepth 100000
namespace Go.Proofs.YtkmgcggoemlaaaaGreatDoor
open Go Go.Fw Go.Conc Go.RowKit Go.Fwm Go.ChangeShapes Go.WideShapes Go.ChangeAt

/-- Of a row that leans on laid variables: out of a good run from each start. -/
theorem rl_and {H : Type} {enc : TypeId × Value → H} {a : Assume} {C : Checked} {os : Os} {f : FuncId} {fn : Func} {s : ChangeSpec} {conds : List PathCond} {apart fresh handsOn again : Bool} {X : World → Array Value → Prop}
    (hX : ∀ (w w' : World) (args : Array Value), w.heap = w'.heap → X w args → X w' args)
    (own : ownKnob C.prog.godebug = none) (started : os.Started) (hfn : C.prog.funcs[f]? = some fn)
    (witness : ∃ (w : World) (tape : Tape) (i : Input), w.os = os ∧ (w.forCall tape i).Shaped C.prog ∧ i.vars = [] ∧ Input.okWide C.prog (w.forCall tape i) .any w.heap.size f i ∧
      ((s.pre enc C.prog fn conds apart (w.forCall tape i).memory i.args ∧ X (w.forCall tape i).memory i.args) ∧ sizedMet enc C.prog fn (OpenSpec.ofChange s) apart (w.forCall tape i).memory i.args) ∧ a.holds C.prog (lone (Frame.enter C.prog f i.args .normal) [] (w.forCall tape i)))
    (runs : ∀ (W : World) (base : Nat) (args : Array Value) (ds gs : List (DataW H)) (before : List MemPlace),
      (∀ (j : Nat) t v, fn.params[j]? = some t → args[j]? = some v → Value.okWide C.prog W .any base t v) →
      DataW.Whole enc C.prog fn.params.toList s.vars apart W args.toList ds gs before → X W args → W.ShapedOpen C.prog →
      ∃ M last o w' t', runNT C.prog (M + 1) (solo (G (Frame.enter C.prog f args .normal) []) W) #[] = (.ended o w', t') ∧ runN C.prog M (solo (G (Frame.enter C.prog f args .normal) []) W) = .next last ∧
        step C.prog last = .ended o w' ∧ Conc.Good C.prog (fun v W' => s.post enc C.prog fn apart fresh handsOn again W args v W') last o w' t') :
    ReturnsInLeavingWide a C os f .any (fun w args => (s.pre enc C.prog fn conds apart w args ∧ X w args) ∧ sizedMet enc C.prog fn (OpenSpec.ofChange s) apart w args) (s.post enc C.prog fn apart fresh handsOn again) := by
  refine returnsInLeavingWide_of_good own started witness ?_
  intro w tape i _ hsh _ hok hpre _
  obtain ⟨_, _, _, fn', hfn', _, _, _, _, hval⟩ := hok
  have e : fn' = fn := Option.some.inj (hfn'.symm.trans hfn)
  subst e
  obtain ⟨⟨⟨ds, gs, before, hw, hc⟩, hx⟩, hz⟩ := hpre
  have hw' := DataW.Whole.of_heap (w' := w.forCall tape i) (by rfl) hw
  obtain ⟨M, last, o, w', t', h1, h2, h3, h4⟩ := runs (w.forCall tape i) w.heap.size i.args ds gs before hval hw' (hX _ _ _ (by rfl) hx) hsh
  exact ⟨M, last, o, w', t', h1, h2, h3, h4.mono fun v hp => ChangeSpec.post_blind hp⟩

theorem own : ownKnob Tryz.prog.godebug = none := by kernel_rfl
theorem laidOut : laidOutB Tryz.prog = true := by kernel_rfl
theorem et : Tryz.prog.globalNamed "errors.errorType" = some 0 := by kernel_rfl
theorem rt : (Tryz.prog.cutTypes.find? (·.1 == "internal/reflectlite.rtype")).map (·.2) = some 133 := by kernel_rfl
theorem size_ : Tryz.prog.types.size = 209 := by kernel_rfl
theorem oneRow : ((List.range 209).filter fun t => Tryz.prog.rowNamed t [101, 114, 114, 111, 114]) = [27] := by kernel_rfl
theorem glob2 : Tryz.prog.globals.size = 2 := by kernel_rfl
def laidL : List (String × DataW Unit) := [("errors.errorType", Rows.laid_errors_errorType)]
theorem handle_of_laid {W : World} (h : laidMetH Tryz.prog laidL W) : GV W := by
  have h' : laidMet Tryz.prog [] W ∧ handlesMet Tryz.prog laidL W := h
  obtain ⟨name, u, ty, e1, e2, e3, e4, e5⟩ := h'.2 _ (List.mem_singleton.2 rfl)
  have en : name = [101, 114, 114, 111, 114] := (Option.some.inj e1).symm
  subst en
  obtain rfl := Option.some.inj (rt.symm.trans e2)
  have hm : ty ∈ (List.range 209).filter fun t => Tryz.prog.rowNamed t [101, 114, 114, 111, 114] := List.mem_filter.2 ⟨List.mem_range.2 (by rw [← size_]; exact e3), e4⟩
  rw [oneRow] at hm
  obtain rfl := List.mem_singleton.1 hm
  have hh : typeHandle Tryz.prog 27 = .pointer (some ⟨2, 27, none⟩) := by kernel_rfl
  rw [hh] at e5
  unfold GV
  simpa using World.var?_cell et e5 0
/-- A world that meets the condition. -/
noncomputable def laidWorld (os : Os) : World :=
  let w0 := World.holding Tryz.prog os ⟨#[], #[], []⟩
  { w0 with heap := w0.heap.modify 0 fun
      | .cells _ t frozen => .cells #[.iface 133 (.agg #[.pointer (some ⟨2, 27, none⟩)])] t frozen
      | o => o }
theorem laidWorld_met (os : Os) (args : Array Value) : laidMetH Tryz.prog laidL ((laidWorld os).forCall (fun _ _ => 0) ⟨#[], args, []⟩).memory :=
  laidMetH_of_parts (laidMet_nil _ _) (by kernel_rfl)
theorem shaped2 {W : World} (h : W.ShapedOpen Tryz.prog) : ∃ c t fr, W.heap[2]? = some (.cells c t fr) := by
  have h0 : ((begin Tryz.prog (fun _ _ => 0) default).world.heap[2]?).map isCells = some true := by kernel_rfl
  obtain ⟨c, t, fr, e⟩ := isCells_some h0
  obtain ⟨o, o0, h1, h2, h3⟩ := h.2 2 (by rw [glob2]; exact Nat.le_refl _) (Array.getElem?_eq_some_iff.1 e).1
  have hl : World.looseAt (2 - Tryz.prog.globals.size) = false := by rw [glob2]; rfl
  rw [hl] at h3
  rw [e] at h2
  cases h2
  have h4 : o = _ := h3
  exact ⟨c, t, fr, h1.trans (by rw [h4])⟩

/-! ### arguments -/
/-- Bytes that came in. -/
structure SB (W : World) (a : Option Addr) (len cap : Nat) (bs : List UInt8) : Prop where
  len_ : bs.length = len
  bytes : Bytes W a bs
  le : len ≤ cap
  cap_le : cap ≤ maxLen
  nil_ : a = none → cap = 0
  cells : ∀ x, a = some x → ∃ c t fr, W.heap[x.block]? = some (.cells c t fr)
/-- Integers that came in. -/
structure SI (W : World) (a : Option Addr) (len cap : Nat) : Prop where
  ints : Ints W a len
  cells : ∀ x, a = some x → ∃ c t fr, W.heap[x.block]? = some (.cells c t fr)
theorem shape_cells {W : World} {b : Nat} {x : TypeId × Nat} (h : W.shape? b = some x) : ∃ c t fr, W.heap[b]? = some (.cells c t fr) := by
  unfold World.shape? at h
  cases ho : W.heap[b]? with
  | none => rw [ho] at h; cases h
  | some o =>
    rw [ho] at h
    cases o with
    | cells c t fr => exact ⟨c, t, fr, rfl⟩
    | _ => cases h
theorem has_of {W : World} {base : Nat} {t e : TypeId} {x : Addr} {len cap : Nat} (ht : Tryz.prog.underlying t = some (.slice e)) (h : Value.okWide Tryz.prog W .any base t (.slice (some x) len cap)) : len ≤ cap ∧ x.spot = none ∧ ∃ c t fr, W.heap[x.block]? = some (.cells c t fr) := by
  simp only [Value.okWide, ht, Cell.okWide, Cell.ok] at h
  obtain ⟨h1, _, _, h3, r, n, h4, _⟩ := h
  exact ⟨h1, h3, shape_cells h4⟩
theorem nil_of {W : World} {base : Nat} {t e : TypeId} {len cap : Nat} (ht : Tryz.prog.underlying t = some (.slice e)) (h : Value.okWide Tryz.prog W .any base t (.slice none len cap)) : len = 0 ∧ cap = 0 := by
  simp only [Value.okWide, ht, Cell.okWide] at h
  cases len <;> cases cap <;> first | exact ⟨rfl, rfl⟩ | (simp [Cell.ok, ht] at h)
theorem arg22 {H : Type} {enc : TypeId × Value → H} {W : World} {base : Nat} {v : Value} {d : DataW H} {p : List MemPlace} (hv : Value.okWide Tryz.prog W .any base 22 v) (h0 : DataW.Trod enc Tryz.prog W 0 (fun _ => true) true 22 v d p) :
    ∃ a len cap bs, v = .slice a len cap ∧ SB W a len cap bs := by
  obtain ⟨a, len, cap, rfl⟩ := okWide_slice Tryz.underlying22 hv
  obtain ⟨fuel, hf⟩ := h0
  rcases open_ints Tryz.underlying22 Tryz.underlying5 (by kernel_rfl) hf with ⟨hcs, _⟩ | ⟨x, l, c, zs, hcs, _, hl, hm, hz, _, hcell, hwz⟩
  · simp [Value.cells] at hcs
    obtain ⟨rfl, rfl, rfl⟩ := hcs
    exact ⟨none, 0, 0, [], rfl, rfl, Bytes.nil _ _, Nat.le_refl _, Nat.zero_le _, fun _ => rfl, fun x e => by cases e⟩
  · simp [Value.cells] at hcs
    obtain ⟨rfl, rfl, rfl⟩ := hcs
    obtain ⟨_, hsp, hc⟩ := has_of Tryz.underlying22 hv
    obtain ⟨b, off, spot⟩ := x
    obtain rfl : spot = none := hsp
    simp at hz
    refine ⟨_, len, cap, (zs.take len).map fun n => UInt8.ofNat n.toNat, rfl, by simp; omega, fun i hi => ⟨b, off, rfl, ?_⟩, hl, hm, fun e => (by cases e), fun x e => by cases e; exact hc⟩
    simp only [List.length_map, List.length_take] at hi
    have hil : i < zs.length := by omega
    have h1 := hcell i hil
    have e : (⟨b, off, none⟩ : Addr).add i = ⟨b, off + i, none⟩ := by unfold Addr.add; split <;> simp_all
    rw [e] at h1
    rw [h1]
    have hw := hwz zs[i] (List.getElem_mem _)
    have hr : 0 ≤ zs[i] ∧ zs[i] ≤ 255 := by
      simp [Lit.wf, IntKind.min, IntKind.max, IntKind.signed, IntKind.bits] at hw
      exact hw
    simp [hil]
    omega
theorem arg23 {H : Type} {enc : TypeId × Value → H} {W : World} {base : Nat} {v : Value} {d : DataW H} {p : List MemPlace} (hv : Value.okWide Tryz.prog W .any base 23 v) (h0 : DataW.Trod enc Tryz.prog W 0 (fun _ => true) true 23 v d p) :
    ∃ a len cap, v = .slice a len cap ∧ SI W a len cap := by
  obtain ⟨a, len, cap, rfl⟩ := okWide_slice Tryz.underlying23 hv
  obtain ⟨fuel, hf⟩ := h0
  rcases open_ints Tryz.underlying23 Tryz.underlying3 (by kernel_rfl) hf with ⟨hcs, _⟩ | ⟨x, l, c, zs, hcs, _, hl, hm, hz, _, hcell, hwz⟩
  · simp [Value.cells] at hcs
    obtain ⟨rfl, rfl, rfl⟩ := hcs
    exact ⟨none, 0, 0, rfl, ints_nil _ _, fun x e => by cases e⟩
  · simp [Value.cells] at hcs
    obtain ⟨rfl, rfl, rfl⟩ := hcs
    obtain ⟨_, hsp, hc⟩ := has_of Tryz.underlying23 hv
    obtain ⟨b, off, spot⟩ := x
    obtain rfl : spot = none := hsp
    simp at hz
    refine ⟨_, len, cap, rfl, fun i hi => ?_, fun x e => by cases e; exact hc⟩
    have hil : i < zs.length := by omega
    have h1 := hcell i hil
    have e : (⟨b, off, none⟩ : Addr).add i = ⟨b, off + i, none⟩ := by unfold Addr.add; split <;> simp_all
    rw [e] at h1
    have hw := hwz zs[i] (List.getElem_mem _)
    have hr : -9223372036854775808 ≤ zs[i] ∧ zs[i] ≤ 9223372036854775807 := by
      simp [Lit.wf, IntKind.min, IntKind.max, IntKind.signed, IntKind.bits] at hw
      exact hw
    exact ⟨b, off, zs[i], rfl, by rw [h1]; simp [hil], hr.1, hr.2⟩
/-- What an argument may be. -/
def ArgOk (W : World) (v : Value) : Prop := (∃ k n, v = .int k n) ∨ ∃ a l c, v = .slice a l c ∧ ∀ x, a = some x → ∃ c t fr, W.heap[x.block]? = some (.cells c t fr)
/-- ████ A ROW's RUN, OUT OF A WALK IN A PRIVATE WORLD. ████ -/
theorem start_row {W : World} {f : FuncId} {args : Array Value} {Post : Value → World → Prop} (hg : GV W) (h2 : ∃ c t fr, W.heap[2]? = some (.cells c t fr)) (hb : bodyOk Tryz.prog f = true) (ha : ∀ (i : Nat) x, args[i]? = some x → ArgOk W x)
    (h : ∀ w, w.heap.size = W.heap.size → GV w → (∀ A zs, Bytes W A zs → Bytes w A zs) → (∀ A n, Ints W A n → Ints w A n) → CEnds Tryz.prog FN W.heap.size W Post [] [Frame.enter Tryz.prog f args .normal] w) :
    ∃ M last o w' t', runNT Tryz.prog (M + 1) (solo (G (Frame.enter Tryz.prog f args .normal) []) W) #[] = (.ended o w', t') ∧ runN Tryz.prog M (solo (G (Frame.enter Tryz.prog f args .normal) []) W) = .next last ∧
      step Tryz.prog last = .ended o w' ∧ Conc.Good Tryz.prog Post last o w' t' := by
  let S : Nat → Prop := fun b => ∃ (i : Nat) (x : Value), args[i]? = some x ∧ x.ownBlock = some b
  have hS : ∀ b, (b = 0 ∨ b = Tryz.prog.globals.size ∨ S b) → ∃ c t fr, W.heap[b]? = some (.cells c t fr) := by
    rintro b (rfl | rfl | ⟨i, x, h1, h3⟩)
    · exact cells_of_cell hg
    · rw [glob2]; exact h2
    · rcases ha i x h1 with ⟨k, n, rfl⟩ | ⟨a, l, c, rfl, hc⟩
      · cases h3
      · cases a with
        | none => cases h3
        | some x => cases h3; exact hc x rfl
  have h2s : 2 < W.heap.size := by obtain ⟨c, t, fr, e⟩ := h2; exact (Array.getElem?_eq_some_iff.1 e).1
  refine start hS (by rw [glob2]; omega) hb (fun i x hx => ?_) (h _ (pw_size _ _) (pw_cell hg ?_ rfl) (fun A zs hx => pw_bytes hx) (fun A n hx => pw_ints hx))
  · rcases ha i x hx with ⟨k, n, rfl⟩ | ⟨a, l, c, rfl, hc⟩
    · exact .int _ _
    · cases a with
      | none => exact .slice0 _ _
      | some y => exact .slice _ _ ⟨rn0_f (.inr (.inr ⟨i, _, hx, rfl⟩)), rfl, rfl⟩
  · refine .iface _ (.agg rfl fun i x X hx hX => ?_)
    rw [hx] at hX
    cases hX
    rcases i with _ | i
    · simp at hx; subst hx
      exact .ptr ⟨rn0_f (.inr (.inl glob2.symm)), rfl, rfl⟩
    · simp at hx
/-- The law's own return. -/
theorem law_done {f : FuncId} {fn : Func} {t : Tmp} {a : Act} {td : List Item} {W w : World} {Post : Value → World → Prop} {Ch : List Nat} (hf : Tryz.prog.funcs[f]? = some fn) (hr : fn.results = #[.tmp t]) (hi : Tryz.prog.inits.idxOf? f = none) (hd : a.defers = []) (hv : a.eval (.tmp t) = .bool true)
    (hpost : ∀ W', Below W.heap.size W W' → Post (.bool true) W') : CEnds Tryz.prog FN W.heap.size W Post Ch [({ (bas f .normal).at a td with mode := .returning } : Frame)] w := by
  refine CEnds.done rfl hd rfl hf (by rw [hr]; simp [okRes]) hi ?_
  intro β V W' hV hw h1 h2 h3 h4 h5
  have e : ({ (bas f .normal).at a td with mode := .returning } : Frame).tmps.getD t undef = .bool true := hv
  rw [res_one hr, e] at hV
  cases hV
  exact hpost W' ⟨h3, h5, h4, h2, h1⟩
end Go.Proofs.YtkmgcggoemlaaaaGreatDoor
end

section
/- Tools for the laws: flashes and what is applied to them, while the arguments stand. No condition. -/
set_option linter.unusedSimpArgs false
set_option linter.unusedVariables false
namespace Go.Proofs.YtkmgcggoemlaaaaGreatDoor
open Go Go.Fw Go.Conc Go.RowKit Go.Fwm

/-- The blocks of w stand; the next two are there, and nobody needs them. -/
structure Kp (w V : World) : Prop where
  size : w.heap.size + 1 < V.heap.size
  old : ∀ b, b < w.heap.size → V.heap[b]? = w.heap[b]?
theorem Kp.gv {w V : World} (h : Kp w V) (hg : GV w) : GV V := (World.cell?_of_block (w := w) (h.old 0 hg.lt)).trans hg
theorem Kp.bytes {w V : World} (h : Kp w V) {A : Option Addr} {zs : List UInt8} (hx : Bytes w A zs) : Bytes V A zs := hx.keep fun a _ hlt => h.old _ hlt
theorem Kp.ints {w V : World} (h : Kp w V) {A : Option Addr} {n : Nat} (hx : Ints w A n) : Ints V A n := hx.keep fun a _ hlt => h.old _ hlt
theorem Kp.next {w V V' : World} (h : Kp w V) (hs : V.heap.size ≤ V'.heap.size) (ho : ∀ b, b < w.heap.size → V'.heap[b]? = V.heap[b]?) : Kp w V' := ⟨Nat.lt_of_lt_of_le h.size hs, fun b hb => (ho b hb).trans (h.old b hb)⟩
theorem Kp.below {w V V' : World} (h : Kp w V) (k : Below V.heap.size V V') : Kp w V' := h.next k.size fun b hb => k.block b (by have := h.size; omega)
theorem Kp.tpd {w V : World} (h : Kp w V) (tp : Tape) : Kp w (Go.Fw.tpd V tp) := ⟨h.size, h.old⟩
theorem Kp.drewN {w V : World} (h : Kp w V) (k : Nat) : Kp w (V.drewN k) := ⟨h.size, h.old⟩
theorem Kp.rin {w V V' : World} {v : Value} {zs : List UInt8} (h : Kp w V) (k : Rin V V' v zs) : Kp w V' := h.next k.size fun b hb => k.old b (by have := h.size; omega)
theorem Kp.app {w V V' : World} {v v' : Value} {zs : List UInt8} (h : Kp w V) (k : App V V' v v' zs) (hv : ∀ g, v.ownBlock = some g → w.heap.size < g) : Kp w V' :=
  h.next k.grown.size fun b hb => k.grown.block b (by have := h.size; omega) fun e => by have := hv b e.symm; omega
/-- A flash that has just been made, in V1 out of V. -/
structure Nf1 (w V V1 : World) (pf bf : Nat) (f : Fl) : Prop where
  rep : FRep V1 (fun b => b = w.heap.size + 1) pf bf w.heap.size f
  below : Below V.heap.size V V1
  pf_ : V.heap.size ≤ pf
  bf_ : V.heap.size ≤ bf
theorem nf_k {w V : World} (hk : Kp w V) {A : Option Addr} {c : Nat} {old : List UInt8} (h : Bytes w A old) (n0 : A = none → c = 0) (hol : old.length ≤ 4096) (pages : Int) (hp : -9223372036854775808 ≤ pages ∧ pages ≤ 9223372036854775807) :
    Calls Tryz.prog 18 #[.slice A old.length c, .int .i64 pages] V fun e V1 => ∃ pf bf, e = .returned (.pointer (some ⟨pf, 0, none⟩)) ∧ Nf1 w V V1 pf bf (Fl.init old pages) :=
  (newflash_ok V (fun b => b = w.heap.size + 1) A old.length c old rfl hol (hk.bytes h) n0 pages hp w.heap.size (by have := hk.size; omega) (fun b x => by have := hk.size; omega) (by omega)).mono fun e V1 ⟨pf, bf, h1, h2, h3, h4, h5⟩ => ⟨pf, bf, h1, h2, h3, h4, h5⟩
/-- Of a flash that a patch has been applied to, in V2 out of V1 (and V): all else that lay in V stands. -/
structure Ap1 (w V V2 : World) (pf bf be : Nat) (f : Fl) : Prop where
  rep : FRep V2 (fun b => b = w.heap.size + 1) pf bf be f
  kp : Kp w V2
  size : V.heap.size ≤ V2.heap.size
  keep : ∀ b, b < V.heap.size → b ≠ w.heap.size → V2.heap[b]? = V.heap[b]?
  pf_ : V.heap.size ≤ pf
  bf_ : V.heap.size ≤ bf
  be_ : be = w.heap.size ∨ V.heap.size ≤ be
theorem ap_k {w V V1 : World} {pf bf : Nat} {old : List UInt8} {pages : Int} (hF : Nf1 w V V1 pf bf (Fl.init old pages)) (hk : Kp w V) (hg : GV w) (hol : old.length ≤ 4096)
    {B : Option Addr} {n c : Nat} {patch : List UInt8} (hl : patch.length = n) (hn : n ≤ 1000000) (hc : n ≤ c) (hcm : c ≤ maxLen) (hx : Bytes V B patch) (hB : ∀ a, B = some a → a.block ≠ w.heap.size ∧ a.block < V.heap.size)
    {C : Option Addr} {m d : Nat} (hm : m ≤ 1000000) (hy : Ints w C m) (hC : ∀ a, C = some a → a.block < w.heap.size) :
    Calls Tryz.prog 19 #[.pointer (some ⟨pf, 0, none⟩), .slice B n c, .slice C m d] V1 fun e V2 => ∃ held be', e = .returned (.tuple #[.int .i64 ((AF.feed ⟨Ap.init, Fl.init old pages⟩ patch).a.fault.num : Int), .int .i64 (((Fl.init old pages).apply patch).fault.num : Int), .bool held]) ∧
      Ap1 w V V2 pf bf be' ((Fl.init old pages).apply patch).x.f := by
  have hs := hk.size
  refine (nf_applied hF.below (hk.gv hg) hF.rep (fun b x => by omega) hF.pf_ hF.bf_ (by have := hg.lt; omega) hol hl hn hc hcm hx (fun a e => hB a e) hm (hk.ints hy) (fun a e => by have := hC a e; omega)).mono ?_
  rintro e V2 ⟨held, be', rfl, h1, h2, h3⟩
  have h4 := hF.below.size
  have p1 := hF.pf_
  have p2 := hF.bf_
  have hkeep : ∀ b, b < V.heap.size → b ≠ w.heap.size → V2.heap[b]? = V.heap[b]? := fun b hb hne => (h3.keep b (by omega) (by rintro (x | x | x) <;> omega)).trans (hF.below.block b hb)
  refine ⟨held, be', rfl, h1, hk.next (by have := h3.le; omega) fun b hb => hkeep b (by omega) (by omega), by have := h3.le; omega, hkeep, hF.pf_, hF.bf_, ?_⟩
  rcases h2 with x | x
  · exact .inl x
  · exact .inr (by omega)
theorem Row.keepB {w w' : World} {v : Value} {zs : List UInt8} (h : Row w v zs) (hk : ∀ g, v.ownBlock = some g → g < w.heap.size → w'.heap[g]? = w.heap[g]?) : Row w' v zs := by
  refine ⟨h.1, ?_⟩
  rcases h.2 with x | ⟨g, cap, cur, h1, h2, h3, h4⟩
  · exact .inl x
  · exact .inr ⟨g, cap, cur, h1, h2, (hk g (by rw [h1]; rfl) (Array.getElem?_eq_some_iff.1 h3).1).trans h3, h4⟩
theorem newPages64 {old : List UInt8} (h : old.length ≤ 4096) : newPages old 64 = 64 := by unfold newPages; omega
theorem Nf1.tpd {w V V1 : World} {pf bf : Nat} {f : Fl} (h : Nf1 w V V1 pf bf f) (tp : Tape) : Nf1 w (Go.Fw.tpd V tp) (Go.Fw.tpd V1 tp) pf bf f :=
  ⟨h.rep.only (F := fun _ => False) ⟨Nat.le_refl _, fun _ _ _ => rfl⟩ fun b x => x.elim, ⟨h.below.os, rfl, h.below.output, h.below.size, h.below.block⟩, h.pf_, h.bf_⟩
theorem Ap1.of_tpd {w V V2 : World} {pf bf be : Nat} {f : Fl} {tp : Tape} (h : Ap1 w (Go.Fw.tpd V tp) V2 pf bf be f) : Ap1 w V V2 pf bf be f := ⟨h.rep, h.kp, h.size, h.keep, h.pf_, h.bf_, h.be_⟩
theorem FRep.tpd {w : World} {X : Nat → Prop} {pf bf be : Nat} {f : Fl} (h : FRep w X pf bf be f) (tp : Tape) : FRep (Go.Fw.tpd w tp) X pf bf be f :=
  h.only (F := fun _ => False) ⟨Nat.le_refl _, fun _ _ _ => rfl⟩ fun b x => x.elim
/-- A world whose blocks are w's and one more: the next garbage is another one. -/
theorem Kp.up {w V : World} (h : Kp w V) (hs : w.heap.size + 2 < V.heap.size) : ∃ wg : World, wg.heap.size = w.heap.size + 1 ∧ Kp wg V ∧ ∀ b, b < w.heap.size → wg.heap[b]? = w.heap[b]? := by
  refine ⟨{ V with heap := V.heap.extract 0 (w.heap.size + 1) }, by simp; omega, ⟨?_, fun b hb => ?_⟩, fun b hb => ?_⟩
  · simp; omega
  · simp at hb
    simp [Array.getElem?_extract]
    omega
  · rw [← h.old b hb]
    simp [Array.getElem?_extract]
    omega
theorem Ap1.only {w V V2 : World} {pf bf be : Nat} {f : Fl} (h : Ap1 w V V2 pf bf be f) : Only (fun b => b = w.heap.size) V V2 := ⟨h.size, fun b hb hn => h.keep b hb hn⟩
theorem equalIn_nil (d : Nat) (V : World) : (Op.equalIn (d + 1) 22 (.slice none 0 0) (.slice none 0 0)).run Tryz.prog V = .ok true V := by
  unfold Op.equalIn
  simp [run_underlying Tryz.underlying22]
theorem nil_eq (V : World) : (binOp .eql 22 (.slice none 0 0) (.slice none 0 0)).run Tryz.prog V = .ok (.bool true) V := by
  simp [binOp, run_underlying Tryz.underlying22]
  rw [show Op.equal 22 (.slice none 0 0) (.slice none 0 0) = Op.equalIn (9999 + 1) 22 (.slice none 0 0) (.slice none 0 0) from rfl, equalIn_nil]
  rfl
end Go.Proofs.YtkmgcggoemlaaaaGreatDoor
end

section
/- The tied card of a row that can start goroutines. No condition. -/
namespace Go.Proofs.YtkmgcggoemlaaaaGreatDoor
open Go
/-- The builder's, with the cell 'goes'. -/
theorem card_goes (Lk : Looks) {p : Pinned} {s : OpenSpec} {c : OpenClaim} (kinds : List LaidKind) (tests : Bool) (har : Bool × String) (lk goes : Bool)
    (hc : c.holds p s) (hw : c.wfByText s = true)
    (htie : c.laidByTextAt Lk p kinds tests)
    (hst : c.start = .entering) (hnb : c.noBlocks = false ∧ c.again = false) (hm : p.checked.prog.mainIs = some (har.1, har.2.toList)) (hn : (!har.1 && har.2.isEmpty && !lk) = false)
    (hl : ∀ f fn, p.checked.prog.funcNamed c.func = some f → p.checked.prog.funcs[f]? = some fn → lk = p.checked.prog.looks [] ∧ ∀ (j : Nat) t, fn.params[j]? = some t → p.checked.prog.wantsStandIn t = false)
    (hg : goes = c.goesBy p.checked.prog) :
    Claim7.holds p (.plain s) { stood := { row := c, standIns := [], harness := har, looks := lk }, kinds := [], alts := [], goes := goes, laidByText := true, laidKinds := kinds, laidTests := tests, laidLooks := Lk } := by
  have h6 : ∀ r : OpenClaim, Claim7.isSixth { stood := { row := r, standIns := [], harness := har, looks := lk }, kinds := [] } = false := fun r => by simpa [Claim7.isSixth] using hn
  exact ⟨Claim7.tied_new_at Lk kinds tests (Claim7.new_of_sixth hc har lk hst hnb hm (h6 c) hl) hw, (fun D hD => by cases hD), htie, (fun h => by cases h), hg⟩
end Go.Proofs.YtkmgcggoemlaaaaGreatDoor
end

section
/- The law's image and wrong. No condition. -/
set_option linter.unusedSimpArgs false
set_option linter.unusedVariables false
namespace Go.Proofs.YtkmgcggoemlaaaaGreatDoor
open Go Go.Fw Go.Conc Go.RowKit Go.Fwm

set_option maxRecDepth 100000 in
theorem image14 (w : World) (A : Option Addr) (n c : Nat) : Calls Tryz.prog 14 #[.slice A n c] w fun e w' => e = .returned (.bool (decide (n ≤ 4096))) ∧ w' = w := by
  by_cases h : n ≤ 4096
  · have e : decide (n ≤ 4096) = true := by simp [h]
    rw [e]
    have h' : ¬ ((4096 : Int) < (n : Int)) := by omega
    go_enter Tryz.func14, Tryz.ntmps14
    go_wp2
    go_ret
    exact ⟨rfl, rfl⟩
  · have e : decide (n ≤ 4096) = false := by simp [h]
    rw [e]
    have h' : ((4096 : Int) < (n : Int)) := by omega
    go_enter Tryz.func14, Tryz.ntmps14
    go_wp2
    go_ret
    exact ⟨congrArg (fun b => Ending.returned (.bool b)) (decide_eq_false (by omega)), rfl⟩
set_option maxRecDepth 100000 in
theorem wrong29 (w : World) (m : Nat) (h : m = 2 ∨ m = 3 ∨ m = 4 ∨ m = 5 ∨ m = 6) : Calls Tryz.prog 29 #[.int .i64 (m : Int)] w fun e w' => e = .returned (.bool true) ∧ w' = w := by
  rcases h with rfl | rfl | rfl | rfl | rfl
  all_goals
    (go_enter Tryz.func29, Tryz.ntmps29
     go_wp2
     go_ret
     exact ⟨rfl, rfl⟩)
end Go.Proofs.YtkmgcggoemlaaaaGreatDoor
end

section
/- The model: when the power is cut: a call answers so, or does what it does with power. No condition. -/
namespace Go.Fwm

/-- The same flash, whose power will not be cut. -/
def Fl.unw (f : Fl) : Fl := { f with wait := -1 }
theorem Fl.unw_cut (f : Fl) : f.unw.cut = f.unw := by unfold Fl.cut; rw [if_neg (by show ¬ (0 : Int) < -1; omega)]
theorem Fl.unw_cutB (f : Fl) : f.unw.cutB = false := rfl
theorem Fl.cut_unw (f : Fl) : f.cut.unw = f.unw := by unfold Fl.cut; split <;> rfl
/-- As with power, or: the power is cut. -/
def Sim (e e' : Option Nat) (P : Prop) : Prop := e = some 7 ∨ (e = e' ∧ P)
theorem Fl.erase_sim (f : Fl) (p : Nat) : Sim (f.erase p).err (f.unw.erase p).err ((f.unw.erase p).f = (f.erase p).f.unw) := by
  unfold Fl.erase
  rw [show f.unw.pages = f.pages from rfl]
  by_cases hp : p < f.pages
  · rw [if_pos hp, if_pos hp]
    cases hc : f.cutB with
    | true => exact .inl rfl
    | false =>
      refine .inr ⟨rfl, ?_⟩
      show ({ ({ f.unw with events := f.events ++ [(0, p)] } : Fl).cut with fresh := setFrom f.fresh p (fun _ _ => 255) (f.unw.tornN 64) } : Fl) = ({ ({ f with events := f.events ++ [(0, p)] } : Fl).cut with fresh := setFrom f.fresh p (fun _ _ => 255) (f.tornN 64) } : Fl).unw
      have h1 : f.unw.tornN 64 = f.tornN 64 := by unfold Fl.tornN; rw [hc]; rfl
      rw [h1]
      have h2 : ({ f.unw with events := f.events ++ [(0, p)] } : Fl).cut = ({ f with events := f.events ++ [(0, p)] } : Fl).cut.unw := by
        rw [Fl.cut_unw]; exact Fl.unw_cut { f with events := f.events ++ [(0, p)] }
      rw [h2]; rfl
  · rw [if_neg hp, if_neg hp]
    exact .inr ⟨rfl, rfl⟩
theorem Fl.program_sim (f : Fl) (p : Nat) (b : List UInt8) : Sim (f.program p b).err (f.unw.program p b).err ((f.unw.program p b).f = (f.program p b).f.unw) := by
  unfold Fl.program
  rw [show f.unw.pages = f.pages from rfl]
  by_cases hp : p < f.pages
  · rw [if_pos hp, if_pos hp]
    cases hc : f.cutB with
    | true => exact .inl rfl
    | false =>
      refine .inr ⟨rfl, ?_⟩
      show ({ ({ f.unw with events := f.events ++ [(1, p)] } : Fl).cut with fresh := setFrom f.fresh p (fun i x => x &&& b.getD i 0) (f.unw.tornN b.length) } : Fl) = ({ ({ f with events := f.events ++ [(1, p)] } : Fl).cut with fresh := setFrom f.fresh p (fun i x => x &&& b.getD i 0) (f.tornN b.length) } : Fl).unw
      have h1 : f.unw.tornN b.length = f.tornN b.length := by unfold Fl.tornN; rw [hc]; rfl
      rw [h1]
      have h2 : ({ f.unw with events := f.events ++ [(1, p)] } : Fl).cut = ({ f with events := f.events ++ [(1, p)] } : Fl).cut.unw := by
        rw [Fl.cut_unw]; exact Fl.unw_cut { f with events := f.events ++ [(1, p)] }
      rw [h2]; rfl
  · rw [if_neg hp, if_neg hp]
    exact .inr ⟨rfl, rfl⟩
theorem Fl.commit_sim (f : Fl) (n : Nat) : Sim (f.commit n).err (f.unw.commit n).err ((f.unw.commit n).f = (f.commit n).f.unw) := by
  unfold Fl.commit
  rw [show f.unw.fresh = f.fresh from rfl, Fl.unw_cutB]
  split
  · exact .inr ⟨rfl, rfl⟩
  · cases hc : f.cutB with
    | true => exact .inl rfl
    | false =>
      refine .inr ⟨rfl, ?_⟩
      show ({ f.unw.cut with events := f.events ++ [(2, n)], length := n, committed := true } : Fl) = ({ f.cut with events := f.events ++ [(2, n)], length := n, committed := true } : Fl).unw
      rw [Fl.unw_cut, ← Fl.cut_unw f]; rfl
theorem Fl.read_sim (f : Fl) (i n : Nat) : Sim (f.read i n).err (f.unw.read i n).err ((f.unw.read i n).f = (f.read i n).f.unw ∧ (f.unw.read i n).buf = (f.read i n).buf) := by
  unfold Fl.read
  rw [Fl.unw_cutB]
  cases hc : f.cutB with
  | true => exact .inl rfl
  | false =>
    refine .inr ⟨rfl, ?_, rfl⟩
    show ({ f.unw.cut with reads := f.reads + 1, longest := max f.longest n } : Fl) = ({ f.cut with reads := f.reads + 1, longest := max f.longest n } : Fl).unw
    rw [Fl.unw_cut, ← Fl.cut_unw f]; rfl
/-- Of a call on an applier. -/
def ASim (r r' : AR) : Prop := Sim r.err r'.err (r'.a = r.a ∧ r'.f = r.f.unw)
theorem Ap.read_sim (a : Ap) (f : Fl) (i n : Nat) : ASim (a.read f i n) (a.read f.unw i n) := by
  unfold Ap.read ASim
  rcases Fl.read_sim f i (min n 64) with h | ⟨h1, h2, h3⟩
  · left; simp only [h]
  · right
    simp only [h1, h2, h3]
    exact ⟨trivial, trivial, trivial⟩
theorem Ap.write_sim (a : Ap) (f : Fl) (p n : Nat) : ASim (a.write f p n) (a.write f.unw p n) := by
  unfold Ap.write ASim
  rcases Fl.erase_sim f p with h | ⟨h1, h2⟩
  · left; simp only [h]
  · simp only [h1, h2]
    cases he : (f.unw.erase p).err with
    | some e => right; exact ⟨rfl, rfl, rfl⟩
    | none =>
      simp only
      rcases Fl.program_sim (f.erase p).f p (a.page.take n) with q | ⟨q1, q2⟩
      · exact .inl q
      · exact .inr ⟨q1, by trivial, q2⟩
theorem ASim.same (a : Ap) (f : Fl) (e : Option Nat) : ASim { err := e, a, f } { err := e, a, f := f.unw } := .inr ⟨rfl, rfl, rfl⟩
theorem Ap.put_sim (a : Ap) (f : Fl) (b : UInt8) : ASim (a.put f b) (a.put f.unw b) := by
  unfold Ap.put
  simp only
  split
  · exact Ap.write_sim _ _ _ _
  · exact ASim.same _ _ _
theorem Ap.flush_sim (a : Ap) (f : Fl) : ASim (a.flush f) (a.flush f.unw) := by
  unfold Ap.flush
  split
  · exact Ap.write_sim _ _ _ _
  · exact ASim.same _ _ _
theorem Ap.puts_sim (l : List UInt8) : ∀ (a : Ap) (f : Fl), ASim (a.puts f l) (a.puts f.unw l) := by
  induction l with
  | nil => intro a f; exact ASim.same _ _ _
  | cons b l ih =>
    intro a f
    unfold Ap.puts
    rcases Ap.put_sim a f b with h | ⟨h1, h2, h3⟩
    · simp only [h]; exact .inl rfl
    · simp only [h1, h2, h3]
      cases he : (a.put f.unw b).err with
      | some e => exact .inr ⟨rfl, rfl, rfl⟩
      | none => exact ih _ _
theorem Ap.copyL_sim : ∀ (k n : Nat) (a : Ap) (f : Fl) (i : Nat), ASim (a.copyL f i k n) (a.copyL f.unw i k n)
  | 0, n, a, f, i => by unfold Ap.copyL; exact ASim.same _ _ _
  | k + 1, n, a, f, i => by
    unfold Ap.copyL
    split
    · exact ASim.same _ _ _
    · rcases Ap.read_sim a f i n with h | ⟨h1, h2, h3⟩
      · simp only [h]; exact .inl rfl
      · simp only [h1, h2, h3]
        cases he : (a.read f.unw i n).err with
        | some e => exact .inr ⟨rfl, rfl, rfl⟩
        | none =>
          simp only
          rcases Ap.puts_sim (a.read f i n).a.buf (a.read f i n).a (a.read f i n).f with q | ⟨q1, q2, q3⟩
          · simp only [q]; exact .inl rfl
          · simp only [q1, q2, q3]
            cases hp : ((a.read f i n).a.puts (a.read f i n).f.unw (a.read f i n).a.buf).err with
            | some e => exact .inr ⟨rfl, rfl, rfl⟩
            | none => exact Ap.copyL_sim k _ _ _ _
theorem Ap.copy_sim (a : Ap) (f : Fl) (i n : Nat) : ASim (a.copy f i n) (a.copy f.unw i n) := by
  unfold Ap.copy
  split
  · exact ASim.same _ _ _
  · exact Ap.copyL_sim _ _ _ _ _
def SSim (r r' : SumR) : Prop := Sim r.err r'.err (r'.a = r.a ∧ r'.f = r.f.unw ∧ r'.got = r.got)
theorem Ap.sumOld_sim : ∀ (k : Nat) (a : Ap) (f : Fl) (g i : Nat), SSim (a.sumOld f g k i) (a.sumOld f.unw g k i)
  | 0, a, f, g, i => by unfold Ap.sumOld; exact .inr ⟨rfl, rfl, rfl, rfl⟩
  | k + 1, a, f, g, i => by
    unfold Ap.sumOld
    split
    · exact .inr ⟨rfl, rfl, rfl, rfl⟩
    · rcases Ap.read_sim a f i (a.size - i) with h | ⟨h1, h2, h3⟩
      · simp only [h]; exact .inl rfl
      · simp only [h1, h2, h3]
        cases he : (a.read f.unw i (a.size - i)).err with
        | some e => exact .inr ⟨rfl, rfl, rfl, rfl⟩
        | none => exact Ap.sumOld_sim k _ _ _ _
def RSim (r r' : R) : Prop := Sim r.err r'.err (r'.a = r.a ∧ r'.f = r.f.unw ∧ r'.st = r.st)
theorem Ap.more_sim (a : Ap) (f : Fl) : RSim (a.more f) (a.more f.unw) := by
  unfold Ap.more
  split
  · exact .inr ⟨rfl, rfl, rfl, rfl⟩
  · rcases Ap.flush_sim a f with h | ⟨h1, h2, h3⟩
    · exact .inl h
    · exact .inr ⟨h1, h2, h3, rfl⟩
theorem RSim.same (a : Ap) (f : Fl) (e : Option Nat) (s : St) : RSim { err := e, st := s, a, f } { err := e, st := s, a, f := f.unw } := .inr ⟨rfl, rfl, rfl, rfl⟩
theorem Ap.stepB_sim (a : Ap) (f : Fl) (b : UInt8) : RSim (a.stepB f b) (a.stepB f.unw b) := by
  unfold Ap.stepB
  cases a.st with
  | oldSize => simp only; split <;> exact RSim.same _ _ _ _
  | oldSum =>
    simp only
    split
    · rw [show f.unw.old = f.old from rfl]
      split
      · exact RSim.same _ _ _ _
      · rcases Ap.sumOld_sim (((a.addSum b).fixed b).a.size + 1) ((a.addSum b).fixed b).a f 0 0 with h | ⟨h1, h2, h3, h4⟩
        · simp only [h]; exact .inl rfl
        · simp only [h1, h2, h3, h4]
          cases he : (((a.addSum b).fixed b).a.sumOld f.unw 0 (((a.addSum b).fixed b).a.size + 1) 0).err with
          | some e => exact .inr ⟨rfl, rfl, rfl, rfl⟩
          | none => simp only; split <;> exact RSim.same _ _ _ _
    · exact RSim.same _ _ _ _
  | newSize =>
    simp only
    split
    · rw [show f.unw.pages = f.pages from rfl]
      split
      · exact RSim.same _ _ _ _
      · exact Ap.more_sim _ _
    · exact RSim.same _ _ _ _
  | step => simp only; split <;> exact RSim.same _ _ _ _
  | counted =>
    simp only
    split
    · split
      · exact RSim.same _ _ _ _
      · split
        · exact RSim.same _ _ _ _
        · split
          · exact RSim.same _ _ _ _
          · rcases Ap.copy_sim { (a.number b).a with count := (a.number b).a.value } f (a.number b).a.made (a.number b).a.value with h | ⟨h1, h2, h3⟩
            · exact .inl h
            · exact .inr ⟨h1, h2, h3, rfl⟩
    · exact RSim.same _ _ _ _
  | own =>
    simp only
    rcases Ap.put_sim (a.addSum b) f b with h | ⟨h1, h2, h3⟩
    · simp only [h]; exact .inl rfl
    · simp only [h1, h2, h3]
      cases he : ((a.addSum b).put f.unw b).err with
      | some e => exact .inr ⟨rfl, rfl, rfl, rfl⟩
      | none =>
        simp only
        split
        · exact RSim.same _ _ _ _
        · exact Ap.more_sim _ _
  | place =>
    simp only
    split
    · rcases Ap.copy_sim (a.number b).a f (a.number b).a.value (a.number b).a.count with h | ⟨h1, h2, h3⟩
      · simp only [h]; exact .inl rfl
      · simp only [h1, h2, h3]
        cases he : ((a.number b).a.copy f.unw (a.number b).a.value (a.number b).a.count).err with
        | some e => exact .inr ⟨rfl, rfl, rfl, rfl⟩
        | none => exact Ap.more_sim _ _
    · exact RSim.same _ _ _ _
  | beside =>
    simp only
    split
    · exact RSim.same _ _ _ _
    · rcases Ap.put_sim (a.addSum b) f b with h | ⟨h1, h2, h3⟩
      · simp only [h]; exact .inl rfl
      · simp only [h1, h2, h3]
        cases he : ((a.addSum b).put f.unw b).err with
        | some e => exact .inr ⟨rfl, rfl, rfl, rfl⟩
        | none => exact Ap.more_sim _ _
  | fin => simp only; split <;> first | exact RSim.same _ _ _ _ | (split <;> exact RSim.same _ _ _ _)
  | over => exact RSim.same _ _ _ _
/-- Behind bytes: the power was cut; or all is as with power. -/
def FSim (x y : AF) : Prop := x.a.fault = .errno 7 ∨ (y.a = x.a ∧ y.f = x.f.unw)
theorem AF.byte_sim {x y : AF} (h : FSim x y) (b : UInt8) : FSim (x.byte b) (y.byte b) := by
  rcases h with h | ⟨h1, h2⟩
  · rw [byte_bad (by rw [h]; simp)]; exact .inl h
  · unfold AF.byte
    rw [h1, h2]
    by_cases hf : x.a.fault ≠ .none
    · rw [if_pos hf, if_pos hf]; exact .inr ⟨h1, h2⟩
    · rw [if_neg hf, if_neg hf]
      rcases Ap.stepB_sim x.a x.f b with q | ⟨q1, q2, q3, q4⟩
      · simp only [q]; exact .inl rfl
      · simp only [q1, q2, q3, q4]
        cases (x.a.stepB x.f.unw b).err with
        | some e => exact .inr ⟨rfl, rfl⟩
        | none => exact .inr ⟨rfl, rfl⟩
theorem AF.feed_sim (l : List UInt8) : ∀ {x y : AF}, FSim x y → FSim (x.feed l) (y.feed l) := by
  induction l with
  | nil => intro x y h; exact h
  | cons b l ih => intro x y h; exact ih (AF.byte_sim h b)
/-- All of a patch: the power was cut; or all is as with power. -/
theorem apply_sim (f : Fl) (l : List UInt8) : (f.apply l).fault = .errno 7 ∨ ((f.unw.apply l).fault = (f.apply l).fault ∧ (f.unw.apply l).x.a = (f.apply l).x.a ∧ (f.unw.apply l).x.f = (f.apply l).x.f.unw) := by
  have h := AF.feed_sim l (x := { a := Ap.init, f }) (y := { a := Ap.init, f := f.unw }) (.inr ⟨rfl, rfl⟩)
  unfold Fl.apply
  generalize AF.feed { a := Ap.init, f } l = x at h
  generalize AF.feed { a := Ap.init, f := f.unw } l = y at h
  rcases h with h | ⟨h1, h2⟩
  · left; rw [fin_bad (by rw [h]; simp)]; exact h
  · unfold AF.finish
    rw [h1, h2]
    by_cases hf : x.a.fault ≠ .none
    · rw [if_pos hf, if_pos hf]; exact .inr ⟨rfl, h1, h2⟩
    · rw [if_neg hf, if_neg hf]
      split
      · exact .inr ⟨rfl, rfl, rfl⟩
      · rcases Fl.commit_sim x.f x.a.length with q | ⟨q1, q2⟩
        · left; simp only [q]
        · simp only [q1, q2]
          cases (x.f.unw.commit x.a.length).err with
          | some e => exact .inr ⟨rfl, rfl, rfl⟩
          | none => exact .inr ⟨rfl, rfl, rfl⟩
end Go.Fwm
end

section
/- The model: what is done to the new slot, whatever is fed; a patch that is right, when the power may be cut. No condition. -/
namespace Go.Fwm

/-- It is committed, or not. -/
inductive AllS (f : Fl) (y : FinR) : Prop
  | done (n : Nat) (hf : y.fault = .none) (h : FI f (2 * ((n + 63) / 64)) { y.x.f with events := f.events ++ evs (2 * ((n + 63) / 64)), committed := f.committed, length := f.length }) (hc : y.x.f.committed = true) (hl : y.x.f.length = n)
      (he : y.x.f.events = f.events ++ evs (2 * ((n + 63) / 64)) ++ [(2, n)]) (hr : y.x.f.reads ≤ f.reads + 8192)
  | not (j : Nat) (hf : y.fault ≠ .none) (h : FI f j y.x.f) (hr : y.x.f.reads ≤ f.reads + 8192)
theorem Inv.reads {f0 f : Fl} {R0 : Nat} {out : List UInt8} {a : Ap} (h : Inv f0 R0 out a f) : f.reads ≤ R0 + 8192 := by
  have h1 := h.rd
  have h2 := h.ml
  have h3 := h.lp
  have h4 := h.pg
  split at h1 <;> omega
theorem apply_all (f : Fl) (h1 : f.old.length ≤ 4096) (h2 : f.pages ≤ 64) (l : List UInt8) : AllS f (f.apply l) := by
  cases ((init_stt f h1 h2).feed l).finish with
  | done out h hs hf ha hfl hw =>
    have hD := (h.done (by rw [hs]; rfl)).2
    have hc := hD.fi.cut
    have hm : (AF.feed { a := Ap.init, f } l).a.made = out.length := hD.made
    obtain ⟨c1, c2, c3, c4, c5, c6, c7, c8⟩ := Fl.cut_keep (AF.feed { a := Ap.init, f } l).f
    rw [hm] at hc
    have he : (AF.feed { a := Ap.init, f } l).f.events = f.events ++ evs (2 * ((out.length + 63) / 64)) := by rw [← hm]; exact hD.fi.ev
    refine .done out.length hf ?_ ?_ ?_ ?_ ?_
    · show FI f _ { (AF.finish _).x.f with events := _, committed := _, length := _ }
      rw [hfl]
      exact ⟨hc.old, hc.fresh, rfl, rfl, hc.torn, rfl, hc.longest, hc.wait⟩
    · show (AF.finish _).x.f.committed = _; rw [hfl]
    · show (AF.finish _).x.f.length = _; rw [hfl]
    · show (AF.finish _).x.f.events = _; rw [hfl]; show (AF.feed { a := Ap.init, f } l).f.events ++ _ = _; rw [he]
    · show (AF.finish _).x.f.reads ≤ _; rw [hfl]; show (Fl.cut _).reads ≤ _; rw [c4]; exact h.reads
  | short out h hs hf ha hfl =>
    obtain ⟨j, hj⟩ := h.fi
    refine .not j ?_ ?_ ?_
    · show (AF.finish _).fault ≠ _; rw [hf]; simp
    · show FI f j (AF.finish _).x.f; rw [hfl]; exact hj
    · show (AF.finish _).x.f.reads ≤ _; rw [hfl]; exact h.reads
  | pow out h hw hw0 hf ha hfl =>
    obtain ⟨j, hj⟩ := h.fi
    refine .not j ?_ ?_ ?_
    · show (AF.finish _).fault ≠ _; rw [hf]; simp
    · show FI f j (AF.finish _).x.f; rw [hfl]; exact hj
    · show (AF.finish _).x.f.reads ≤ _; rw [hfl]; exact h.reads
  | bad e hx h hf hy =>
    obtain ⟨j, hj⟩ := h.fi
    refine .not j ?_ ?_ ?_
    · show (AF.finish _).fault ≠ _; rw [hf, hx]; split <;> simp
    · show FI f j (AF.finish _).x.f; rw [hy]; exact hj
    · show (AF.finish _).x.f.reads ≤ _; rw [hy]; exact h.rd
/-- A patch that is right: the power was cut; or the new image lies there. -/
inductive PowS (f : Fl) (old new : List UInt8) (y : FinR) : Prop
  | cut (j : Nat) (hf : y.fault = .errno 7) (h : FI f j y.x.f) (hr : y.x.f.reads ≤ f.reads + 8192)
  | good (hf : y.fault = .none) (hc : y.x.f.committed = true) (hl : y.x.f.length = new.length) (hn : y.x.f.fresh.take new.length = new) (ho : y.x.f.old = old) (hfr : y.x.f.fresh.length = f.fresh.length)
      (he : y.x.f.events = f.events ++ evs (2 * ((new.length + 63) / 64)) ++ [(2, new.length)]) (hr : y.x.f.reads ≤ f.reads + 8192)
theorem patch_pow (f : Fl) (old new : List UInt8) (ho : old.length ≤ 4096) (hf : f.old = old) (hp : f.pages ≤ 64) (hn : new.length ≤ f.pages * 64) : PowS f old new (f.apply (patchG (lgOf old) old new)) := by
  have hall := apply_all f (by rw [hf]; exact ho) hp (patchG (lgOf old) old new)
  have hrd : (f.apply (patchG (lgOf old) old new)).x.f.reads ≤ f.reads + 8192 := by cases hall <;> assumption
  rcases apply_sim f (patchG (lgOf old) old new) with h | ⟨h1, h2, h3⟩
  · cases hall with
    | done n hf' => rw [h] at hf'; cases hf'
    | not j hf' hj => exact .cut j h hj hrd
  · have h := patch_applied f.unw (by show (-1 : Int) < 0; omega) (by show f.old.length ≤ 4096; rw [hf]; exact ho) hp new (steps (lgOf old) old new) (by show Leads f.old new [] _; rw [hf]; exact steps_leads (lgOf_ok old) new) hn
    have e : f.unw.old = old := hf
    rw [e] at h
    obtain ⟨g1, g2, g3, g4, g5, g6, g7, g8⟩ := h
    have h1 : (f.unw.apply (patchOf old new.length (steps (lgOf old) old new))).fault = _ := h1
    have h3 : (f.unw.apply (patchOf old new.length (steps (lgOf old) old new))).x.f = _ := h3
    rw [h3] at g2 g3 g4 g5 g6 g7
    exact .good (h1.symm.trans g1) g2 g3 g4 g5 g6 g7 hrd
end Go.Fwm
end

section
/- The model: a patch that is cut off; one that goes on. No condition. -/
namespace Go.Fwm
open Go.Proofs.YtkmgcggoemlaaaaGreatDoor

theorem over_byte {x : AF} (hf : x.a.fault = .none) (hs : x.a.st = .over) (b : UInt8) : (x.byte b).a.fault = .wrapped 6 := by
  unfold AF.byte
  rw [if_neg (by rw [hf]; simp)]
  unfold Ap.stepB
  rw [hs]
  simp
/-- Behind its end: told. -/
theorem more_fed (f : Fl) (hw : f.wait < 0) (h1 : f.old.length ≤ 4096) (h2 : f.pages ≤ 64) (new : List UInt8) (l : List Stp) (hl : Leads f.old new [] l) (hn : new.length ≤ f.pages * 64) (more : List UInt8) (hm : more ≠ []) :
    (f.apply (patchOf f.old new.length l ++ more)).fault = .wrapped 6 := by
  obtain ⟨hI, hs⟩ := patch_fed f hw h1 h2 new l hl hn
  cases more with
  | nil => exact absurd rfl hm
  | cons b rest =>
    have h6 := over_byte hI.nofault hs b
    have e : AF.feed { a := Ap.init, f } (patchOf f.old new.length l ++ b :: rest) = (AF.feed { a := Ap.init, f } (patchOf f.old new.length l)).byte b := by
      rw [feed_app, feed_cons, feed_bad (by rw [h6]; simp)]
    show (AF.finish (AF.feed _ _)).fault = _
    rw [e]
    unfold AF.finish
    rw [if_pos (by rw [h6]; simp)]
    exact h6
/-- A part of it: not at its end. -/
theorem short_fed (f : Fl) (hw : f.wait < 0) (h1 : f.old.length ≤ 4096) (h2 : f.pages ≤ 64) (new : List UInt8) (l : List Stp) (hl : Leads f.old new [] l) (hn : new.length ≤ f.pages * 64) (k : Nat) (hk : k < (patchOf f.old new.length l).length) :
    (AF.feed { a := Ap.init, f } ((patchOf f.old new.length l).take k)).a.fault = .none ∧ (f.apply ((patchOf f.old new.length l).take k)).fault = .errno 5 := by
  obtain ⟨hI, hs⟩ := patch_fed f hw h1 h2 new l hl hn
  obtain ⟨b, rest, hd⟩ : ∃ b rest, (patchOf f.old new.length l).drop k = b :: rest := by
    cases hd : (patchOf f.old new.length l).drop k with
    | nil => have := congrArg List.length hd; simp at this; omega
    | cons b rest => exact ⟨b, rest, rfl⟩
  have e : AF.feed { a := Ap.init, f } (patchOf f.old new.length l) = (AF.feed { a := Ap.init, f } ((patchOf f.old new.length l).take k)).feed (b :: rest) := by
    rw [← feed_app, ← hd, List.take_append_drop]
  have hS := (init_stt f h1 h2).feed ((patchOf f.old new.length l).take k)
  have hnf : (AF.feed { a := Ap.init, f } ((patchOf f.old new.length l).take k)).a.fault = .none := by
    cases hS with
    | ok out h => exact h.nofault
    | bad e' hf h =>
      exfalso
      have h3 := hI.nofault
      have hne : (AF.feed { a := Ap.init, f } ((patchOf f.old new.length l).take k)).a.fault ≠ .none := by rw [hf]; split <;> simp
      rw [e, feed_bad hne] at h3
      exact hne h3
  refine ⟨hnf, ?_⟩
  cases hS.finish with
  | done out h hs' hf ha hfl hw' =>
    exfalso
    have h6 := over_byte hnf hs' b
    have h3 := hI.nofault
    rw [e, feed_cons, feed_bad (by rw [h6]; simp), h6] at h3
    cases h3
  | short out h hs' hf ha hfl => exact hf
  | pow out h hw' hw0 hf ha hfl => omega
  | bad e' hx h hf hy => exfalso; rw [hnf] at hx; split at hx <;> cases hx
end Go.Fwm
namespace Go.Proofs.YtkmgcggoemlaaaaGreatDoor
open Go.Fwm
theorem init_le (old : List UInt8) (h : old.length ≤ 4096) (pages : Int) : (Fl.init old pages).pages ≤ 64 := by rw [init_pages]; exact newPages_le old h pages
theorem nf_short {old next : List UInt8} {pages : Int} (hol : old.length ≤ 4096) (hfit : next.length ≤ newPages old pages * 64) {k : Nat} (hk : k < (patchG (lgOf old) old next).length) :
    (AF.feed ⟨Ap.init, Fl.init old pages⟩ ((patchG (lgOf old) old next).take k)).a.fault.num = 0 ∧ ((Fl.init old pages).apply ((patchG (lgOf old) old next).take k)).fault.num = 5 ∧ ((Fl.init old pages).apply ((patchG (lgOf old) old next).take k)).x.f.committed = false := by
  obtain ⟨h1, h2⟩ := short_fed (Fl.init old pages) (by show (-1 : Int) < 0; decide) hol (init_le old hol pages) next (steps (lgOf old) old next) (steps_leads (lgOf_ok old) next) (by rw [init_pages]; exact hfit) k hk
  refine ⟨?_, ?_, ?_⟩
  · show (AF.feed _ (List.take k (patchOf old next.length (steps (lgOf old) old next)))).a.fault.num = 0
    have e : (Fl.init old pages).old = old := rfl
    rw [e] at h1; rw [h1]; rfl
  · show (Fl.apply _ (List.take k (patchOf old next.length (steps (lgOf old) old next)))).fault.num = 5
    have e : (Fl.init old pages).old = old := rfl
    rw [e] at h2; rw [h2]; rfl
  · have e : (Fl.init old pages).old = old := rfl
    rw [e] at h2
    have h3 := apply_any (Fl.init old pages) hol (init_le old hol pages) (List.take k (patchOf old next.length (steps (lgOf old) old next)))
    rcases h3.num with ⟨h4, _⟩ | ⟨_, h5⟩
    · rw [h2] at h4; cases h4
    · exact h5
theorem nf_more {old next : List UInt8} {pages : Int} (hol : old.length ≤ 4096) (hfit : next.length ≤ newPages old pages * 64) {more : List UInt8} (hm : more ≠ []) :
    ((Fl.init old pages).apply (patchG (lgOf old) old next ++ more)).fault.num = 6 ∧ ((Fl.init old pages).apply (patchG (lgOf old) old next ++ more)).x.f.committed = false := by
  have h2 := more_fed (Fl.init old pages) (by show (-1 : Int) < 0; decide) hol (init_le old hol pages) next (steps (lgOf old) old next) (steps_leads (lgOf_ok old) next) (by rw [init_pages]; exact hfit) more hm
  have e : (Fl.init old pages).old = old := rfl
  rw [e] at h2
  refine ⟨?_, ?_⟩
  · show (Fl.apply _ (patchOf old next.length (steps (lgOf old) old next) ++ more)).fault.num = 6
    rw [h2]; rfl
  · have h3 := apply_any (Fl.init old pages) hol (init_le old hol pages) (patchOf old next.length (steps (lgOf old) old next) ++ more)
    rcases h3.num with ⟨h4, _⟩ | ⟨_, h5⟩
    · rw [h2] at h4; cases h4
    · exact h5
end Go.Proofs.YtkmgcggoemlaaaaGreatDoor
end
