/-
  Part 2 of the common ground of this seat: what single parts show stands ahead of each.
  No condition.
-/
import Derived.Test.YtkmgcggoemlaaaaGreatDoorJ01

section
/- The operations of the model, one by one, continued: instructions. No condition. -/
namespace Go.Fw
open Go

section
variable {G : Nat} {P : Program} {FN : FuncId → Bool} {β : Ren G}

theorem ArrR.ofFn_mod {z Z : Array Value} (h : ArrR FN β z Z) (n : Nat) (hz : z.size ≠ 0 ∨ n = 0) :
    ArrR FN β ((Array.range n).map (z[· % z.size]!)) ((Array.range n).map (Z[· % Z.size]!)) := by
  refine ⟨by simp, fun i x X hx hX => ?_⟩
  simp only [Array.getElem?_map, Option.map_eq_some_iff] at hx hX
  obtain ⟨j, hj, rfl⟩ := hx
  obtain ⟨J, hJ, rfl⟩ := hX
  rw [hj] at hJ; cases hJ
  have hn : n ≠ 0 := by rintro rfl; simp at hj
  have hz' : z.size ≠ 0 := hz.resolve_right hn
  have hlt : j % z.size < z.size := Nat.mod_lt _ (by omega)
  have hlt' : j % Z.size < Z.size := by rw [← h.1]; exact hlt
  rw [getElem!_pos z _ hlt, getElem!_pos Z _ hlt']
  refine h.2 (j % z.size) _ _ (Array.getElem?_eq_getElem hlt) ?_
  have : j % z.size = j % Z.size := by rw [h.1]
  simp only [this]
  exact Array.getElem?_eq_getElem hlt'

theorem rel_alloc {t : TypeId} (h : zeroOk P t = true) : SemR P FN (VR FN) β (Instr.alloc t true (.tuple #[])) (Instr.alloc t true (.tuple #[])) := by
  unfold Instr.alloc
  refine SemR.bnd (rel_zeroValue t h) fun δ hd v V hv => ?_
  refine SemR.bnd (rel_newVar hv) fun ε he a A ha => .pur (.ptr ha)
theorem rel_box {t : TypeId} {v V : Value} (h : VR FN β v V) : SemR P FN (VR FN) β (Instr.box t v) (Instr.box t V) := by
  unfold Instr.box
  exact SemR.bnd (rel_newVar h) fun ε he a A ha => .pur (.ptr ha)
theorem rel_loadAt {t : TypeId} {v V : Value} (h : VR FN β v V) : SemR P FN (VR FN) β (Instr.loadAt t v) (Instr.loadAt t V) := by
  unfold Instr.loadAt
  exact SemR.bnd (rel_sureAddr h) fun δ hd a A ha => rel_loadVar ha
theorem rel_storeAt {t : TypeId} {a A v V : Value} (ha : VR FN β a A) (hv : VR FN β v V) : SemR P FN Eq2 β (Instr.storeAt t a v) (Instr.storeAt t A V) := by
  unfold Instr.storeAt
  exact SemR.bnd (rel_sureAddr ha) fun δ hd a A hr => rel_storeVar hr (hv.mono hd)

def sizedT (P : Program) (t : TypeId) : Bool := match P.info? t with
  | some i => i.size != 0
  | none => true
theorem rel_size_ne {t : TypeId} (h : sizedT P t = true) : SemR P FN (fun _ a A => a = A ∧ a ≠ 0) β (sizeOf t) (sizeOf t) := by
  unfold sizedT at h
  refine .program ?_
  show SemR P FN _ β (Sem.bind (Sem.bind (.pure P) _) _) (Sem.bind (Sem.bind (.pure P) _) _)
  simp only [Sem.bind]
  cases hi : P.info? t with
  | none => exact .dead (Dead.bind (dead_stuck _) _)
  | some i =>
    rw [hi] at h
    exact .pur ⟨rfl, by simpa using h⟩
def fieldOk (P : Program) (s : TypeId) (k : Nat) : Bool := match P.underlying s with
  | some (.struct fields) => match fields[k]? with
    | some f => sizedT P f.type
    | none => true
  | _ => true
theorem rel_fieldAt {s k : Nat} {v V : Value} (h : VR FN β v V) (hok : fieldOk P s k = true) : SemR P FN (VR FN) β (Instr.fieldAt s v k) (Instr.fieldAt s V k) := by
  unfold Instr.fieldAt
  refine SemR.bnd (rel_und s) fun δ hd d D e => ?_
  obtain ⟨rfl, hu⟩ := e
  unfold fieldOk at hok
  rw [hu] at hok
  cases d with
  | struct fields =>
    simp only at hok ⊢
    cases hf : fields[k]? with
    | none => exact .stuck_
    | some f =>
      rw [hf] at hok
      refine SemR.bnd (rel_sureAddr (h.mono hd)) fun ε he a A ha => ?_
      refine SemR.bnd (RA := AR) ?_ fun ζ hz b B hb => .pur (.ptr hb)
      unfold fieldPlace
      refine SemR.bnd (rel_size_ne hok) fun ζ hz n N hn => ?_
      obtain ⟨rfl, hn⟩ := hn
      rw [if_neg hn, if_neg hn]
      exact .pur ((ha.add _).mono hz)
  | _ => exact .stuck_

def slcT (P : Program) (t : TypeId) : Bool := match P.underlying t with
  | some (.slice _) | some (.array _ _) => true
  | none => true
  | _ => false
theorem rel_indexTail {t : TypeId} (k : IntKind) (i : Int) (b B : Option Addr) (len : Nat) (elem : TypeId) (h : (b = none ∧ B = none) ∨ ∃ a A, b = some a ∧ B = some A ∧ (AR β a A ∨ len = 0)) :
    SemR P FN (VR FN) β
      (do
        let d ← underlying t
        let tiny : Bool := decide (len ≤ 1) && (match d with | .array _ _ => true | _ => false)
        match b with
        | some a => (if 0 ≤ i ∧ i < ↑len then (sizeOf elem >>= fun n => pure (Value.pointer (some (a.add (i.toNat * n))))) else if tiny = true then unsupported (.noEntry "op/indexAddr.an index out of range at an array of length 0 or 1 (ledger 616)") else boundsPanic k i (↑len) BoundsCode.index)
        | none => boundsPanic k i 0 BoundsCode.index)
      (do
        let d ← underlying t
        let tiny : Bool := decide (len ≤ 1) && (match d with | .array _ _ => true | _ => false)
        match B with
        | some a => (if 0 ≤ i ∧ i < ↑len then (sizeOf elem >>= fun n => pure (Value.pointer (some (a.add (i.toNat * n))))) else if tiny = true then unsupported (.noEntry "op/indexAddr.an index out of range at an array of length 0 or 1 (ledger 616)") else boundsPanic k i (↑len) BoundsCode.index)
        | none => boundsPanic k i 0 BoundsCode.index) := by
  refine SemR.same_bind (rel_underlying t) fun ε he d => ?_
  rcases h with ⟨rfl, rfl⟩ | ⟨a, A, rfl, rfl, ha⟩
  · exact .bnp
  · simp only
    split
    · rename_i hlt
      rcases ha with ha | rfl
      · refine SemR.same_bind (rel_sizeOf elem) fun η hη n => ?_
        exact .pur (.ptr (((ha.mono he).mono hη).add _))
      · omega
    · generalize (decide (len ≤ 1) && _) = tiny
      cases tiny
      · exact SemR.bnp (k := k) (x := i) (y := len) (c := .index)
      · exact SemR.unsup (u := .noEntry _) trivial
theorem rel_indexAt {t : TypeId} {x X i I : Value} (hx : VR FN β x X) (hi : VR FN β i I) : SemR P FN (VR FN) β (Instr.indexAt t x i) (Instr.indexAt t X I) := by
  unfold Instr.indexAt
  refine SemR.bnd (rel_asIntOf hi) fun δ hd k K e => ?_
  cases e
  obtain ⟨k, i⟩ := k
  refine SemR.same_bind (rel_underlying t) fun ε he d => ?_
  have hx' := (hx.mono hd).mono he
  cases d with
  | array n e =>
    refine SemR.bnd (rel_sureAddr hx') fun ζ hz a A ha => ?_
    exact rel_indexTail k i _ _ n e (.inr ⟨_, _, rfl, rfl, .inl ha⟩)
  | slice e =>
    cases hx' with
    | slice0 l c => exact rel_indexTail k i _ _ l e (.inl ⟨rfl, rfl⟩)
    | slice l c ha => exact rel_indexTail k i _ _ l e (.inr ⟨_, _, rfl, rfl, .inl ha⟩)
    | sliceE a A => exact rel_indexTail k i _ _ 0 e (.inr ⟨_, _, rfl, rfl, .inr rfl⟩)
    | _ => exact .dead (Dead.bind (dead_stuck _) _)
  | _ => exact .dead (Dead.bind (dead_stuck _) _)

/-! ### slices -/
def OptR (FN : FuncId → Bool) (β : Ren G) : Option Value → Option Value → Prop
  | none, none => True
  | some v, some V => VR FN β v V
  | _, _ => False
theorem OptR.mono {γ : Ren G} (h : β.le γ) {v V : Option Value} (x : OptR FN β v V) : OptR FN γ v V := by
  cases v <;> cases V <;> first | exact x | exact VR.mono h x
def EqLe (y : Nat) : Ren G → Nat → Nat → Prop := fun _ a A => a = A ∧ a ≤ y
def EqBd (c : Nat) : Ren G → Nat × Nat × Nat → Nat × Nat × Nat → Prop := fun _ a A => a = A ∧ a.2.1 ≤ c ∧ a.2.2 ≤ c
theorem rel_sliceBound {x X : Value} (h : VR FN β x X) (y : Nat) (c : BoundsCode) : SemR P FN (EqLe y) β (Instr.sliceBound x y c) (Instr.sliceBound X y c) := by
  unfold Instr.sliceBound
  refine SemR.bnd (rel_asIntOf h) fun δ hd k K e => ?_
  cases e
  obtain ⟨k, i⟩ := k
  simp only
  split
  · exact .pur ⟨rfl, by omega⟩
  · exact .bnp
theorem rel_sliceBounds {isS : Bool} {len cap : Nat} {l L h H m M : Option Value} (hl : OptR FN β l L) (hh : OptR FN β h H) (hm : OptR FN β m M) :
    SemR P FN (EqBd (max len cap)) β (Instr.sliceBounds isS len cap l h m) (Instr.sliceBounds isS len cap L H M) := by
  unfold Instr.sliceBounds
  cases m with
  | none =>
    cases M with
    | some _ => exact hm.elim
    | none =>
    refine SemR.bnd (RA := EqLe cap) (.pur ⟨rfl, Nat.le_refl _⟩) fun δ hd m M0 e0 => ?_
    obtain ⟨rfl, hmc⟩ := e0
    cases h with
    | none =>
      cases H with
      | some _ => exact hh.elim
      | none =>
      refine SemR.bnd (RA := EqLe len) (.pur ⟨rfl, Nat.le_refl _⟩) fun ε he h H0 eh => ?_
      obtain ⟨rfl, hhl⟩ := eh
      cases l with
      | none => cases L with
        | none => exact SemR.same_bind (.pur rfl) fun _ _ _ => .pur ⟨rfl, by simp only; omega, by simp only; omega⟩
        | some _ => exact hl.elim
      | some l => cases L with
        | none => exact hl.elim
        | some L => exact SemR.bnd (rel_sliceBound (VR.mono he (VR.mono hd hl)) _ _) fun _ _ a A e => by obtain ⟨rfl, _⟩ := e; exact .pur ⟨rfl, by simp only; omega, by simp only; omega⟩
    | some h =>
      cases H with
      | none => exact hh.elim
      | some H =>
      refine SemR.bnd (rel_sliceBound (VR.mono hd hh) _ _) fun ε he a A e => ?_
      obtain ⟨rfl, hal⟩ := e
      cases l with
      | none => cases L with
        | none => exact SemR.same_bind (.pur rfl) fun _ _ _ => .pur ⟨rfl, by simp only; omega, by simp only; omega⟩
        | some _ => exact hl.elim
      | some l => cases L with
        | none => exact hl.elim
        | some L => exact SemR.bnd (rel_sliceBound (VR.mono he (VR.mono hd hl)) _ _) fun _ _ a A e => by obtain ⟨rfl, _⟩ := e; exact .pur ⟨rfl, by simp only; omega, by simp only; omega⟩
  | some m =>
    cases M with
    | none => exact hm.elim
    | some M =>
    refine SemR.bnd (rel_sliceBound hm _ _) fun δ hd b B e => ?_
    obtain ⟨rfl, hmc⟩ := e
    cases h with
    | none =>
      cases H with
      | some _ => exact hh.elim
      | none => exact .dead (Dead.bind (dead_stuck _) _)
    | some h =>
      cases H with
      | none => exact hh.elim
      | some H =>
      refine SemR.bnd (rel_sliceBound (VR.mono hd hh) _ _) fun ε he a A e => ?_
      obtain ⟨rfl, hal⟩ := e
      cases l with
      | none => cases L with
        | none => exact SemR.same_bind (.pur rfl) fun _ _ _ => .pur ⟨rfl, by simp only; omega, by simp only; omega⟩
        | some _ => exact hl.elim
      | some l => cases L with
        | none => exact hl.elim
        | some L => exact SemR.bnd (rel_sliceBound (VR.mono he (VR.mono hd hl)) _ _) fun _ _ a A e => by obtain ⟨rfl, _⟩ := e; exact .pur ⟨rfl, by simp only; omega, by simp only; omega⟩

/-- Slicing a slice (or an array through its address), not a string. -/
theorem rel_slice {t : TypeId} {x X : Value} {l L h H m M : Option Value} (hx : VR FN β x X) (hl : OptR FN β l L) (hh : OptR FN β h H) (hm : OptR FN β m M) (hok : slcT P t = true) :
    SemR P FN (VR FN) β (Instr.sliceAt t x l h m) (Instr.sliceAt t X L H M) := by
  unfold slcT at hok
  unfold Instr.sliceAt
  refine SemR.bnd (rel_und t) fun δ hd d D e => ?_
  obtain ⟨rfl, hu⟩ := e
  rw [hu] at hok
  cases d with
  | array n e =>
    refine SemR.bnd (rel_sureAddr (hx.mono hd)) fun ε he a A ha => ?_
    have ld := (hl.mono hd).mono he
    have hd' := (hh.mono hd).mono he
    have md := (hm.mono hd).mono he
    refine SemR.bnd (rel_sliceBounds ld hd' md) fun ζ hz b B e => ?_
    obtain ⟨rfl, _⟩ := e
    obtain ⟨lo, hi, mx⟩ := b
    refine SemR.same_bind (rel_sizeOf _) fun η hη n => ?_
    refine .pur (.slice _ _ ?_)
    split
    · exact (ha.mono hz).mono hη
    · exact ((ha.mono hz).mono hη).add _
  | slice e =>
    show SemR P FN (VR FN) δ (Instr.slice t x l h m) (Instr.slice t X L H M)
    unfold Instr.slice
    refine SemR.bnd (rel_und t) fun ε he d D e' => ?_
    obtain ⟨rfl, hu'⟩ := e'
    rw [hu] at hu'; cases hu'
    have hx' := (hx.mono hd).mono he
    have ld := (hl.mono hd).mono he
    have hd' := (hh.mono hd).mono he
    have md := (hm.mono hd).mono he
    cases hx' with
    | slice0 n c =>
      refine SemR.bnd (rel_sliceBounds ld hd' md) fun ζ hz b B e => ?_
      obtain ⟨rfl, hmx⟩ := e
      obtain ⟨lo, hi, mx⟩ := b
      refine SemR.same_bind (rel_sizeOf _) fun η hη n => ?_
      simp only [Option.map_none, ite_self]
      exact .pur (.slice0 _ _)
    | slice n c ha =>
      refine SemR.bnd (rel_sliceBounds ld hd' md) fun ζ hz b B e => ?_
      obtain ⟨rfl, hmx⟩ := e
      obtain ⟨lo, hi, mx⟩ := b
      refine SemR.same_bind (rel_sizeOf _) fun η hη n => ?_
      refine .pur ?_
      simp only [Option.map_some]
      split
      · exact .slice _ _ ((ha.mono hz).mono hη)
      · exact .slice _ _ (((ha.mono hz).mono hη).add _)
    | sliceE a A =>
      refine SemR.bnd (rel_sliceBounds ld hd' md) fun ζ hz b B e => ?_
      obtain ⟨rfl, hmx⟩ := e
      obtain ⟨lo, hi, mx⟩ := b
      refine SemR.same_bind (rel_sizeOf _) fun η hη n => ?_
      refine .pur ?_
      obtain ⟨hh1, hm1⟩ := hmx
      have hh1 : hi ≤ max 0 0 := hh1
      have hm1 : mx ≤ max 0 0 := hm1
      obtain rfl : hi = 0 := by omega
      obtain rfl : mx = 0 := by omega
      simp only [Option.map_some, Nat.zero_sub]
      split <;> exact .sliceE _ _
    | _ => exact .stuck_
  | _ => cases hok
end
end Go.Fw
end

section
/- The operations of the model, one by one, continued: arithmetic and comparison. No condition. -/
namespace Go.Fw
open Go

section
variable {P : Program} {FN : FuncId → Bool} {β : Ren P.globals.size}

theorem dead_unsup {α : Type} {u : Unsupported} (h : HaltOk (.unsupported u)) : Dead (Go.unsupported u : Sem α) := .halt h
theorem rel_viewAt {r R : Nat} (h : β.f r = some R) : SemR P FN (fun _ a A => a = none ∧ A = none) β (viewAt r) (viewAt R) := by
  unfold viewAt
  refine .shape h fun x => ?_
  cases x with
  | some x => exact .pur ⟨rfl, rfl⟩
  | none => exact .getObj h fun a A l ha => .pur ⟨rfl, rfl⟩
def NumR : Ren P.globals.size → Option (Addr × Bool) → Option (Addr × Bool) → Prop := fun β x X => (x = none ∧ X = none) ∨ ∃ a A l, x = some (a, l) ∧ X = some (A, l) ∧ AR β a A
theorem rel_numberAt {r R : Nat} (h : β.f r = some R) : SemR P FN NumR β (numberAt r) (numberAt R) := by
  unfold numberAt
  refine .shape h fun x => ?_
  cases x with
  | some x => exact .pur (.inl ⟨rfl, rfl⟩)
  | none => exact .getObj h fun a A l ha => .pur (.inr ⟨a, A, l, rfl, rfl, ha⟩)
theorem rel_behindNumber {a A : Addr} (h : AR β a A) : SemR P FN (fun δ x X => AR δ x.1 X.1 ∧ x.2 = X.2) β (behindNumber a) (behindNumber A) := by
  unfold behindNumber
  refine SemR.bnd (rel_numberAt h.1) fun δ hd x X e => ?_
  rcases e with ⟨rfl, rfl⟩ | ⟨b, B, l, rfl, rfl, hb⟩
  · exact .pur ⟨h.mono hd, rfl⟩
  · exact .pur ⟨hb, rfl⟩
theorem rel_noView {a A : Addr} (h : AR β a A) : SemR P FN Eq2 β (noView a) (noView A) := by
  unfold noView
  refine SemR.bnd (rel_viewAt h.1) fun δ hd x X e => ?_
  obtain ⟨rfl, rfl⟩ := e
  exact .pur rfl
theorem rel_byteOf {a A : Addr} (h : AR β a A) : SemR P FN Eq2 β (byteOf a) (byteOf A) := by
  unfold byteOf
  obtain ⟨hb, ho, hs⟩ := h
  rw [hs, ho]
  cases a.spot with
  | some s => exact .pur rfl
  | none =>
    refine .program ?_
    show SemR P FN Eq2 β (Sem.bind (.pure P) _) (Sem.bind (.pure P) _)
    simp only [Sem.bind]
    refine SemR.bnd (rel_noView (P := P) ⟨hb, ho, hs⟩) fun δ hd _ _ _ => ?_
    refine .shape (hd _ _ hb) fun x => ?_
    cases x with
    | none => exact .stuck_
    | some x =>
      obtain ⟨e, n⟩ := x
      simp only [Sem.bind]
      show SemR P FN Eq2 δ (if _ then _ else _) (if _ then _ else _)
      split
      · exact .pur rfl
      · split
        · exact .pur rfl
        · exact .stuck_

theorem blk_eq {a b A B : Addr} (ha : AR β a A) (hb : AR β b B) : (a.block == b.block) = (A.block == B.block) := by
  rw [Bool.eq_iff_iff, beq_iff_eq, beq_iff_eq]
  constructor
  · intro e; have h1 := ha.1; have h2 := hb.1; rw [e, h2] at h1; exact (Option.some.inj h1).symm
  · intro e; exact β.inj _ _ B.block (by rw [← e]; exact ha.1) hb.1
theorem blk_lt {a A : Addr} (ha : AR β a A) : (a.block < P.globals.size) ↔ (A.block < P.globals.size) := (β.glob _ _ ha.1).1
theorem addr_eq {a b A B : Addr} (ha : AR β a A) (hb : AR β b B) : (a == b) = (A == B) := by
  have h := blk_eq ha hb
  rw [Bool.eq_iff_iff] at h ⊢
  simp only [beq_iff_eq] at h ⊢
  obtain ⟨a1, a2, a3⟩ := a
  obtain ⟨b1, b2, b3⟩ := b
  obtain ⟨A1, A2, A3⟩ := A
  obtain ⟨B1, B2, B3⟩ := B
  obtain ⟨_, e1, e2⟩ := ha
  obtain ⟨_, e3, e4⟩ := hb
  simp only at h e1 e2 e3 e4
  simp only [Addr.mk.injEq, h, e1, e2, e3, e4]

theorem rel_twoPlaces {a b A B : Addr} (ha : AR β a A) (hb : AR β b B) : SemR P FN Eq2 β (Op.twoPlaces a b) (Op.twoPlaces A B) := by
  unfold Op.twoPlaces
  refine .program ?_
  show SemR P FN Eq2 β (Sem.bind (.pure P) _) (Sem.bind (.pure P) _)
  simp only [Sem.bind]
  have e1 : (a.block != b.block) = (A.block != B.block) := by simp only [bne, blk_eq ha hb]
  have e2 : decide (a.block ≥ P.globals.size) = decide (A.block ≥ P.globals.size) := by
    have := blk_lt ha
    rw [decide_eq_decide]; omega
  rw [e1, e2]
  split
  · exact .dead (Dead.bind (dead_unsup (by exact trivial)) _)
  · refine SemR.bnd (rel_byteOf ha) fun δ hd x X e => ?_
    cases e
    refine SemR.bnd (rel_byteOf (hb.mono hd)) fun ε he y Y e => ?_
    cases e
    exact .pur rfl
theorem rel_addrSub {k : IntKind} {a b A B : Addr} (ha : AR β a A) (hb : AR β b B) : SemR P FN (VR FN) β (Op.addrSub k a b) (Op.addrSub k A B) := by
  unfold Op.addrSub
  exact SemR.bnd (rel_twoPlaces ha hb) fun δ hd x X e => by cases e; exact .pur (.int _ _)
theorem rel_addrCmp {op : BinOp} {a b A B : Addr} (ha : AR β a A) (hb : AR β b B) : SemR P FN (VR FN) β (Op.addrCmp op a b) (Op.addrCmp op A B) := by
  unfold Op.addrCmp
  refine SemR.bnd (rel_twoPlaces ha hb) fun δ hd x X e => ?_
  cases e
  obtain ⟨x, y⟩ := x
  cases op <;> first | exact .pur (.bool _) | exact .unsup trivial
theorem rel_addrMod {k : IntKind} {a A : Addr} {n : Int} (ha : AR β a A) : SemR P FN (VR FN) β (Op.addrMod k a n) (Op.addrMod k A n) := by
  unfold Op.addrMod
  refine .shape ha.1 fun x => ?_
  cases x with
  | none => exact .unsup trivial
  | some x =>
    obtain ⟨e, m⟩ := x
    simp only [Sem.bind]
    refine SemR.same_bind (rel_typeInfo e) fun δ hd i => ?_
    split
    · exact .dead (Dead.bind (dead_unsup (by exact trivial)) _)
    · exact SemR.bnd (rel_byteOf (ha.mono hd)) fun ε he y Y e => by cases e; exact .pur (.int _ _)
def PtrR : Ren P.globals.size → Value → Value → Prop := fun β v V => (v = .pointer none ∧ V = .pointer none) ∨ ∃ a A, v = .pointer (some a) ∧ V = .pointer (some A) ∧ AR β a A
theorem rel_unsafeAdd {t : TypeId} {x X y Y : Value} (hx : VR FN β x X) (hy : VR FN β y Y) : SemR P FN (PtrR) β (Builtin.unsafeAdd_ #[] t #[x, y]) (Builtin.unsafeAdd_ #[] t #[X, Y]) := by
  unfold Builtin.unsafeAdd_
  cases hx with
  | ptr0 =>
    refine SemR.bnd (rel_asInt hy) fun δ hd n N e => ?_
    cases e
    by_cases h0 : n = 0
    · simp only [h0, if_true]
      exact .dead (Dead.bind (dead_unsup (by exact trivial)) _)
    · simp only [h0, if_false]
      by_cases h1 : n < 0
      · simp only [h1, if_true]
        exact .dead (Dead.bind (dead_unsup (by exact trivial)) _)
      · simp only [h1, if_false]
        exact .unsup (by exact trivial)
  | @ptr a A ha =>
    refine SemR.bnd (rel_asInt hy) fun δ hd n N e => ?_
    cases e
    have ha' := ha.mono hd
    by_cases h0 : n = 0
    · simp only [h0, if_true]
      refine SemR.bnd (rel_viewAt ha'.1) fun ε he x X e => ?_
      obtain ⟨rfl, rfl⟩ := e
      exact .pur (.inr ⟨a, A, rfl, rfl, ha'.mono he⟩)
    · simp only [h0, if_false]
      by_cases h1 : n < 0
      · simp only [h1, if_true]
        exact .dead (Dead.bind (dead_unsup (by exact trivial)) _)
      · simp only [h1, if_false]
        refine .shape ha'.1 fun x => ?_
        cases x with
        | none => exact .unsup (by exact trivial)
        | some x =>
          obtain ⟨e, m⟩ := x
          refine .program ?_
          simp only [Sem.bind]
          rw [ha.2.1]
          cases cellAtBytes P P.depth e (m / P.cellsOf e) a.off n with
          | none => exact .unsup (by exact trivial)
          | some off => exact .pur (.inr ⟨_, _, rfl, rfl, ha'.1, rfl, ha.2.2⟩)
  | _ => exact .stuck_
theorem rel_asNumber {a A : Addr} {l : Bool} (ha : AR β a A) : SemR P FN (VR FN) β (asNumber a l) (asNumber A l) := by
  unfold asNumber
  refine .new ⟨ha, rfl⟩ fun r R hr => ?_
  exact .pure (.ptr ⟨Ren.ext_same _ _ _ hr, rfl, rfl⟩)
theorem rel_movedNumber {t : TypeId} {x X y Y : Value} (hx : VR FN β x X) (hy : VR FN β y Y) : SemR P FN (VR FN) β (movedNumber t x y) (movedNumber t X Y) := by
  unfold movedNumber
  refine SemR.same_bind (rel_underlying t) fun δ hd d => ?_
  have key : SemR P FN (VR FN) δ
      (do
        let .pointer (some n) := x | Builtin.unsafeAdd_ #[] t #[x, y]
        let (a, lost) ← behindNumber n
        match ← Builtin.unsafeAdd_ #[] t #[.pointer (some a), y] with
        | .pointer (some b) => asNumber b lost
        | v => pure v)
      (do
        let .pointer (some n) := X | Builtin.unsafeAdd_ #[] t #[X, Y]
        let (a, lost) ← behindNumber n
        match ← Builtin.unsafeAdd_ #[] t #[.pointer (some a), Y] with
        | .pointer (some b) => asNumber b lost
        | v => pure v) := by
    have hx' := hx.mono hd
    have hy' := hy.mono hd
    have toV : ∀ {ε : Ren P.globals.size} {s S : Sem Value}, SemR P FN (PtrR) ε s S → SemR P FN (VR FN) ε s S := fun h => by
      have := SemR.bind (RB := VR FN) (f := Sem.pure) (F := Sem.pure) h fun ε he v V e => by
        rcases e with ⟨rfl, rfl⟩ | ⟨a, A, rfl, rfl, ha⟩
        · exact .pure .ptr0
        · exact .pure (.ptr ha)
      rwa [Sem.bind_pure', Sem.bind_pure'] at this
    cases hx' with
    | @ptr n N hn =>
      refine SemR.bnd (rel_behindNumber hn) fun ε he p Q e => ?_
      obtain ⟨p1, p2⟩ := p
      obtain ⟨q1, q2⟩ := Q
      obtain ⟨e1, e2⟩ := e
      simp only at e1 e2
      subst e2
      refine SemR.bnd (rel_unsafeAdd (.ptr e1) (hy'.mono he)) fun ζ hz v V e => ?_
      rcases e with ⟨rfl, rfl⟩ | ⟨b, B, rfl, rfl, hb⟩
      · exact .pur .ptr0
      · exact rel_asNumber hb
    | junk h =>
      show SemR P FN (VR FN) δ (Builtin.unsafeAdd_ #[] t #[.map (some 0), y]) _
      unfold Builtin.unsafeAdd_
      exact .stuck_
    | _ => exact toV (rel_unsafeAdd (hx.mono hd) hy')
  cases d with
  | unsafePointer => exact SemR.dead (Dead.halt (h := .unsupported (.unsafePointer "arithmetic at a pointer's type")) trivial)
  | _ => exact key

/-! ### integers -/
theorem rel_intArith {op : BinOp} {k : IntKind} {x y : Int} : SemR P FN (VR FN) β (Op.intArith op k x y) (Op.intArith op k x y) := by
  unfold Op.intArith
  cases op <;> first | exact .pur (.int _ _) | exact .stuck_
theorem rel_intDiv {op : BinOp} {k : IntKind} {x y : Int} : SemR P FN (VR FN) β (Op.intDiv op k x y) (Op.intDiv op k x y) := by
  unfold Op.intDiv
  split
  · exact .rtp
  · cases op <;> first | exact .pur (.int _ _) | exact .stuck_
theorem rel_intBits {op : BinOp} {k : IntKind} {x y : Int} : SemR P FN (VR FN) β (Op.intBits op k x y) (Op.intBits op k x y) := by
  unfold Op.intBits
  cases op <;> first | exact .pur (.int _ _) | exact .stuck_
theorem rel_intCmp {op : BinOp} {x y : Int} : SemR P FN (VR FN) β (Op.intCmp op x y) (Op.intCmp op x y) := by
  unfold Op.intCmp
  cases op <;> first | exact .pur (.bool _) | exact .stuck_
theorem rel_shift {op : BinOp} {k yk : IntKind} {x y : Int} : SemR P FN (VR FN) β (Op.shift op k x yk y) (Op.shift op k x yk y) := by
  unfold Op.shift
  split
  · exact .rtp
  · cases op <;> first | exact .pur (.int _ _) | exact .stuck_
end
end Go.Fw
end

section
/- The operations of the model, one by one, continued: binary operations. No condition. -/
namespace Go.Fw
open Go

section
variable {P : Program} {FN : FuncId → Bool} {β : Ren P.globals.size}

def intT (P : Program) (t : TypeId) : Bool := match P.underlying t with
  | some (.int _) | some .bool => true
  | none => true
  | _ => false

theorem rel_und' {t : TypeId} {γ : Type} {RB : Ren P.globals.size → γ → γ → Prop} {f F : TypeDesc → Sem γ} (h : ∀ δ, β.le δ → ∀ d, P.underlying t = some d → SemR P FN RB δ (f d) (F d)) :
    SemR P FN RB β (underlying t >>= f) (underlying t >>= F) :=
  SemR.bnd (rel_und t) fun δ hd d D e => by obtain ⟨rfl, hu⟩ := e; exact h δ hd d hu

theorem rel_eq_int {t : TypeId} {x X y Y : Value} (ht : intT P t = true) (hx : VR FN β x X) (hy : VR FN β y Y) : SemR P FN Eq2 β (Op.equal t x y) (Op.equal t X Y) := by
  unfold Op.equal
  rw [show Op.maxDepth = 9999 + 1 from rfl, Op.equalIn, Op.equalIn]
  refine rel_und' fun δ hd d hu => ?_
  unfold intT at ht
  rw [hu] at ht
  have hx' := hx.mono hd
  have hy' := hy.mono hd
  cases d with
  | bool => cases hx' <;> cases hy' <;> first | exact .pur rfl | exact .stuck_
  | int k =>
    cases hx' with
    | int k1 a =>
      cases hy' with
      | int k2 b =>
        show SemR P FN Eq2 δ (if _ then _ else _) (if _ then _ else _)
        split
        · exact .pur rfl
        · exact .stuck_
      | ptr hb =>
        cases a with
        | ofNat n => cases n with
          | zero => exact .pur rfl
          | succ n => exact .unsup (by exact trivial)
        | negSucc n => exact .unsup (by exact trivial)
      | ptr0 => exact .unsup (by exact trivial)
      | _ => exact .stuck_
    | ptr0 => cases hy' <;> exact .unsup (by exact trivial)
    | @ptr a A ha =>
      cases hy' with
      | int k2 b =>
        cases b with
        | ofNat n => cases n with
          | zero => exact .pur rfl
          | succ n => exact .unsup (by exact trivial)
        | negSucc n => exact .unsup (by exact trivial)
      | @ptr b B hb =>
        refine SemR.bnd (rel_behindNumber ha) fun ε he p Q e1 => ?_
        obtain ⟨p1, p2⟩ := p
        obtain ⟨q1, q2⟩ := Q
        obtain ⟨e1, e2⟩ := e1
        simp only at e1 e2
        refine SemR.bnd (rel_behindNumber (hb.mono he)) fun ζ hz r R e3 => ?_
        obtain ⟨r1, r2⟩ := r
        obtain ⟨s1, s2⟩ := R
        obtain ⟨e3, e4⟩ := e3
        simp only at e3 e4
        have e1' := e1.mono hz
        refine .program ?_
        show SemR P FN Eq2 ζ (Sem.bind (.pure P) _) (Sem.bind (.pure P) _)
        simp only [Sem.bind]
        have c1 : (p1.block == r1.block && decide (p1.block < P.globals.size)) = (q1.block == s1.block && decide (q1.block < P.globals.size)) := by
          rw [blk_eq e1' e3, decide_eq_decide.2 (blk_lt e1')]
        simp only [c1]
        split
        · refine SemR.bnd (rel_byteOf e1') fun η hη m M e5 => ?_
          cases e5
          refine SemR.bnd (rel_byteOf (e3.mono hη)) fun θ hθ n N e6 => ?_
          cases e6
          exact .pur rfl
        · refine SemR.same_bind (rel_typeInfo t) fun η hη i => ?_
          split
          · rw [addr_eq e1' e3]
            split
            · exact .pur rfl
            · exact .unsup (by exact trivial)
          · exact .unsup (by exact trivial)
      | _ => exact .unsup (by exact trivial)
    | _ => cases hy' <;> first | exact .stuck_ | exact .unsup (by exact trivial)
  | _ => cases ht

/-- Against nil: of a pointer's, a slice's, a function's, an interface's type. -/
def nilT (P : Program) (t : TypeId) : Bool := match P.underlying t with
  | some (.pointer _) | some (.slice _) | some (.func _ _ _) | some (.interface _) => true
  | none => true
  | _ => false
def nilV : Value → Bool
  | .pointer none | .slice none _ _ | .nilFunc | .nilIface => true
  | _ => false
theorem rel_eq_nil {t : TypeId} {x X y : Value} (ht : nilT P t = true) (hx : VR FN β x X) (hy : nilV y = true) : SemR P FN Eq2 β (Op.equal t x y) (Op.equal t X y) := by
  unfold Op.equal
  rw [show Op.maxDepth = 9999 + 1 from rfl, Op.equalIn, Op.equalIn]
  refine rel_und' fun δ hd d hu => ?_
  unfold nilT at ht
  rw [hu] at ht
  have hx' := hx.mono hd
  unfold nilV at hy
  split at hy <;> first | (cases hy; done) | skip
  all_goals (cases d <;> first | (cases ht; done) | (cases hx' <;> first | exact .pur rfl | exact .stuck_))

/-- What is not looked into: an integer's type, or against nil. -/
theorem und_left {α : Type} {RB : Ren P.globals.size → α → α → Prop} {t : TypeId} {f : TypeDesc → Sem α} {S : Sem α} (h : ∀ d, P.underlying t = some d → SemR P FN RB β (f d) S) : SemR P FN RB β (underlying t >>= f) S := by
  refine .progL ?_
  show SemR P FN RB β (Sem.bind (Sem.bind (.pure P) _) _) S
  simp only [Sem.bind]
  cases hd : P.underlying t with
  | none => exact .dead (Dead.bind (dead_stuck _) _)
  | some d => exact h d hd
theorem assoc_left {α γ δ : Type} {RB : Ren P.globals.size → δ → δ → Prop} {s : Sem α} {f : α → Sem γ} {g : γ → Sem δ} {S : Sem δ} (h : SemR P FN RB β (s >>= fun x => f x >>= g) S) : SemR P FN RB β ((s >>= f) >>= g) S := by
  rwa [show ((s >>= f) >>= g) = (s >>= fun x => f x >>= g) from bind_assoc s f g]
theorem eqJ_l {α : Type} {RB : Ren P.globals.size → α → α → Prop} {t : TypeId} {y : Value} {g : Bool → Sem α} {S : Sem α} (ht : intT P t = true) : SemR P FN RB β (Op.equal t (.map (some 0)) y >>= g) S := by
  unfold Op.equal
  rw [show Op.maxDepth = 9999 + 1 from rfl, Op.equalIn]
  refine assoc_left (und_left fun d hu => ?_)
  unfold intT at ht
  rw [hu] at ht
  cases d <;> first | (cases ht; done) | (cases y <;> first | exact .dead (Dead.bind (dead_stuck _) _) | exact .dead (Dead.bind (Dead.halt (h := .unsupported .addressObserved) trivial) _))
theorem eqJ_r {α : Type} {RB : Ren P.globals.size → α → α → Prop} {t : TypeId} {x : Value} {g : Bool → Sem α} {S : Sem α} (ht : intT P t = true) : SemR P FN RB β (Op.equal t x (.map (some 0)) >>= g) S := by
  unfold Op.equal
  rw [show Op.maxDepth = 9999 + 1 from rfl, Op.equalIn]
  refine assoc_left (und_left fun d hu => ?_)
  unfold intT at ht
  rw [hu] at ht
  cases d <;> first
    | (cases ht; done)
    | (cases x with
       | pointer a => cases a <;> (first | exact .dead (Dead.bind (dead_stuck _) _) | exact .dead (Dead.bind (Dead.halt (h := .unsupported .addressObserved) trivial) _))
       | _ => first | exact .dead (Dead.bind (dead_stuck _) _) | exact .dead (Dead.bind (Dead.halt (h := .unsupported .addressObserved) trivial) _))
theorem eqJ_n {α : Type} {RB : Ren P.globals.size → α → α → Prop} {t : TypeId} {y : Value} {g : Bool → Sem α} {S : Sem α} (ht : nilT P t = true) (hy : nilV y = true) : SemR P FN RB β (Op.equal t (.map (some 0)) y >>= g) S := by
  unfold Op.equal
  rw [show Op.maxDepth = 9999 + 1 from rfl, Op.equalIn]
  refine assoc_left (und_left fun d hu => ?_)
  unfold nilT at ht
  rw [hu] at ht
  unfold nilV at hy
  split at hy <;> first | (cases hy; done) | skip
  all_goals (cases d <;> first | (cases ht; done) | exact .dead (Dead.bind (dead_stuck _) _))
theorem eqGuard_opq {op : BinOp} {t : TypeId} {x y : Operand} {a b : Value} (h : opaqueV a = true ∨ opaqueV b = true) : eqGuard op t x y a b = Pure.pure () := by
  rcases h with h | h
  · cases op <;> first | rfl | (cases a <;> first | (cases h; done) | rfl)
  · cases op <;> first | rfl | (cases a <;> first | rfl | (cases b <;> first | (cases h; done) | rfl))
theorem rel_eqGuardIn {t : TypeId} {x X y Y : Value} (ht : intT P t = true) : SemR P FN Eq2 β (Op.eqGuardIn Op.maxDepth t x y) (Op.eqGuardIn Op.maxDepth t X Y) := by
  rw [show Op.maxDepth = 9999 + 1 from rfl, Op.eqGuardIn, Op.eqGuardIn]
  refine rel_und' fun δ hd d hu => ?_
  unfold intT at ht
  rw [hu] at ht
  cases d <;> first | (cases ht; done) | exact .pur rfl
theorem eqGuardType_int {t : TypeId} (ht : intT P t = true) (d : Nat) : P.eqGuardType (d + 1) t = false := by
  unfold intT at ht
  unfold Program.eqGuardType
  cases hu : P.underlying t with
  | none => rfl
  | some d => rw [hu] at ht; cases d <;> first | (cases ht; done) | rfl
theorem rel_guardTail {t : TypeId} {why : String} {x X y Y : Value} (ht : intT P t = true) :
    SemR P FN Eq2 β (do if ← Op.eqGuardIn Op.maxDepth t x y then unsupported (.noEntry why)) (do if ← Op.eqGuardIn Op.maxDepth t X Y then unsupported (.noEntry why)) := by
  refine SemR.bnd (rel_eqGuardIn ht) fun δ hd c C e => ?_
  cases e
  cases c
  · exact .pur rfl
  · exact .unsup (by exact trivial)
theorem rel_guardAgg {t : TypeId} {why : String} {x X y Y : Value} (ht : intT P t = true) :
    SemR P FN Eq2 β
      (do
        if !(← program).eqGuardType (← program).depth t then return
        if ← Op.eqGuardIn Op.maxDepth t x y then unsupported (.noEntry why))
      (do
        if !(← program).eqGuardType (← program).depth t then return
        if ← Op.eqGuardIn Op.maxDepth t X Y then unsupported (.noEntry why)) := by
  refine .program ?_
  show SemR P FN Eq2 β (Sem.bind (.pure P) _) (Sem.bind (.pure P) _)
  simp only [Sem.bind]
  refine .program ?_
  show SemR P FN Eq2 β (Sem.bind (.pure P) _) (Sem.bind (.pure P) _)
  simp only [Sem.bind]
  cases P.eqGuardType P.depth t
  · exact .pur rfl
  · exact rel_guardTail ht
theorem rel_eqGuard_int {op : BinOp} {t : TypeId} {x y : Operand} {a A b B : Value} (ht : intT P t = true) (ha : VR FN β a A) (hb : VR FN β b B) :
    SemR P FN Eq2 β (eqGuard op t x y a b) (eqGuard op t x y A B) := by
  have key : ∀ op, (op = .eql ∨ op = .neq) → SemR P FN Eq2 β (eqGuard op t x y a b) (eqGuard op t x y A B) := by
    rintro op (rfl | rfl)
    all_goals
      cases ha <;> cases hb <;> first
        | exact .pur rfl
        | exact rel_guardAgg ht
        | (rw [eqGuard_opq (.inl rfl), eqGuard_opq (.inl (by assumption))]; exact .pur rfl)
        | (rw [eqGuard_opq (.inr rfl), eqGuard_opq (.inr (by assumption))]; exact .pur rfl)
        | (cases x <;> cases y <;> first | exact .pur rfl | exact rel_guardTail ht)
  cases op <;> first | exact .pur rfl | exact key _ (.inl rfl) | exact key _ (.inr rfl)
theorem rel_eqGuard_nil {op : BinOp} {t : TypeId} {x : Operand} {a A b : Value} (ha : VR FN β a A) (hb : nilV b = true) :
    SemR P FN Eq2 β (eqGuard op t x (.const b) a b) (eqGuard op t x (.const b) A b) := by
  have key : ∀ op, (op = .eql ∨ op = .neq) → SemR P FN Eq2 β (eqGuard op t x (.const b) a b) (eqGuard op t x (.const b) A b) := by
    unfold nilV at hb
    rintro op (rfl | rfl)
    all_goals
      split at hb <;> first | (cases hb; done) | skip
      all_goals (cases ha <;> first | exact .pur rfl | (rw [eqGuard_opq (.inl rfl), eqGuard_opq (.inl (by assumption))]; exact .pur rfl) | (cases x <;> exact .pur rfl))
  cases op <;> first | exact .pur rfl | exact key _ (.inl rfl) | exact key _ (.inr rfl)

theorem rel_stringOp {op : BinOp} {x y : ByteArray} : SemR P FN (VR FN) β (Op.stringOp op x y) (Op.stringOp op x y) := by
  unfold Op.stringOp
  cases op with
  | add =>
    show SemR P FN (VR FN) β (if _ then _ else _) (if _ then _ else _)
    split
    · exact .unsup (by exact trivial)
    · exact .pur (.string _)
  | eql => show SemR P FN (VR FN) β (Pure.pure (Value.bool _)) (Pure.pure (Value.bool _)); exact .pur (.bool _)
  | neq => show SemR P FN (VR FN) β (Pure.pure (Value.bool _)) (Pure.pure (Value.bool _)); exact .pur (.bool _)
  | lss => show SemR P FN (VR FN) β (Pure.pure (Value.bool _)) (Pure.pure (Value.bool _)); exact .pur (.bool _)
  | leq => show SemR P FN (VR FN) β (Pure.pure (Value.bool _)) (Pure.pure (Value.bool _)); exact .pur (.bool _)
  | gtr => show SemR P FN (VR FN) β (Pure.pure (Value.bool _)) (Pure.pure (Value.bool _)); exact .pur (.bool _)
  | geq => show SemR P FN (VR FN) β (Pure.pure (Value.bool _)) (Pure.pure (Value.bool _)); exact .pur (.bool _)
  | _ => exact .stuck_

theorem rel_binOp_ii {op : BinOp} {t : TypeId} {k k' : IntKind} {a b : Int} : SemR P FN (VR FN) β (binOp op t (.int k a) (.int k' b)) (binOp op t (.int k a) (.int k' b)) := by
  cases op with
  | shl => exact rel_shift (op := .shl) (k := k) (yk := k') (x := a) (y := b)
  | shr => exact rel_shift (op := .shr) (k := k) (yk := k') (x := a) (y := b)
  | _ =>
    show SemR P FN (VR FN) β (if _ then _ else _) (if _ then _ else _)
    split
    · exact .stuck_
    · first | exact rel_intArith | exact rel_intDiv | exact rel_intBits | exact rel_intCmp
theorem rel_binOp_ss {op : BinOp} {t : TypeId} {a b : ByteArray} : SemR P FN (VR FN) β (binOp op t (.string a) (.string b)) (binOp op t (.string a) (.string b)) := by
  cases op <;> first | exact rel_stringOp (op := .add) (x := a) (y := b) | exact rel_stringOp (op := .eql) (x := a) (y := b) | exact rel_stringOp (op := .neq) (x := a) (y := b) | exact rel_stringOp (op := .lss) (x := a) (y := b) | exact rel_stringOp (op := .leq) (x := a) (y := b) | exact rel_stringOp (op := .gtr) (x := a) (y := b) | exact rel_stringOp (op := .geq) (x := a) (y := b) | exact .stuck_
theorem rel_boolOf {s S : Sem Bool} (h : SemR P FN Eq2 β s S) : SemR P FN (VR FN) β (do pure (.bool (← s))) (do pure (.bool (← S))) :=
  SemR.bnd h fun δ hd a A e => by cases e; exact .pur (.bool _)
theorem rel_boolOfN {s S : Sem Bool} (h : SemR P FN Eq2 β s S) : SemR P FN (VR FN) β (do pure (.bool (!(← s)))) (do pure (.bool (!(← S)))) :=
  SemR.bnd h fun δ hd a A e => by cases e; exact .pur (.bool _)
theorem rel_behind2 {γ : Type} {RB : Ren P.globals.size → γ → γ → Prop} {a A : Addr} {f F : Addr × Bool → Sem γ} (ha : AR β a A)
    (h : ∀ δ, β.le δ → ∀ (p q : Addr × Bool), AR δ p.1 q.1 → SemR P FN RB δ (f p) (F q)) : SemR P FN RB β (behindNumber a >>= f) (behindNumber A >>= F) :=
  SemR.bnd (rel_behindNumber ha) fun δ hd p q e => h δ hd p q e.1

theorem rel_binOp_eql {t : TypeId} {x X y Y : Value} (ht : intT P t = true) (hx : VR FN β x X) (hy : VR FN β y Y) : SemR P FN (VR FN) β (binOp .eql t x y) (binOp .eql t X Y) := by
  have h := rel_boolOf (rel_eq_int ht hx hy)
  cases hx with
  | int k a => cases hy with
    | int k' b => exact rel_binOp_ii
    | junk hj => exact eqJ_r ht
    | _ => exact h
  | string a => cases hy with
    | string b => exact rel_binOp_ss
    | junk hj => exact eqJ_r ht
    | _ => exact h
  | junk hj => cases hy <;> exact eqJ_l ht
  | _ => cases hy <;> first | exact h | exact eqJ_r ht
theorem rel_binOp_neq {t : TypeId} {x X y Y : Value} (ht : intT P t = true) (hx : VR FN β x X) (hy : VR FN β y Y) : SemR P FN (VR FN) β (binOp .neq t x y) (binOp .neq t X Y) := by
  have h := rel_boolOfN (rel_eq_int ht hx hy)
  cases hx with
  | int k a => cases hy with
    | int k' b => exact rel_binOp_ii
    | junk hj => exact eqJ_r ht
    | _ => exact h
  | string a => cases hy with
    | string b => exact rel_binOp_ss
    | junk hj => exact eqJ_r ht
    | _ => exact h
  | junk hj => cases hy <;> exact eqJ_l ht
  | _ => cases hy <;> first | exact h | exact eqJ_r ht
theorem rel_binOp_nil {op : BinOp} (hop : op = .eql ∨ op = .neq) {t : TypeId} {x X y : Value} (ht : nilT P t = true) (hx : VR FN β x X) (hy : nilV y = true) : SemR P FN (VR FN) β (binOp op t x y) (binOp op t X y) := by
  have h1 := rel_boolOf (rel_eq_nil ht hx hy)
  have h2 := rel_boolOfN (rel_eq_nil ht hx hy)
  unfold nilV at hy
  rcases hop with rfl | rfl
  · split at hy <;> first | (cases hy; done) | skip
    all_goals (cases hx <;> first | exact h1 | exact eqJ_n ht rfl)
  · split at hy <;> first | (cases hy; done) | skip
    all_goals (cases hx <;> first | exact h2 | exact eqJ_n ht rfl)
theorem rel_binOp_num {op : BinOp} (h1 : op ≠ .eql) (h2 : op ≠ .neq) {t : TypeId} {x X y Y : Value} (ht : intT P t = true) (hx : VR FN β x X) (hy : VR FN β y Y) : SemR P FN (VR FN) β (binOp op t x y) (binOp op t X Y) := by
  have hmn : ∀ {x X y Y : Value}, VR FN β x X → VR FN β y Y → SemR P FN (VR FN) β (do if (← underlying t) matches .unsafePointer then movedPointer t x y else movedNumber t x y) (do if (← underlying t) matches .unsafePointer then movedPointer t X Y else movedNumber t X Y) := fun hx hy => by
    refine rel_und' fun δ hd d hu => ?_
    unfold intT at ht
    rw [hu] at ht
    cases d <;> first | (cases ht; done) | exact rel_movedNumber (hx.mono hd) (hy.mono hd)
  cases op with
  | eql => exact absurd rfl h1
  | neq => exact absurd rfl h2
  | add =>
    cases hx with
    | int k a => cases hy with
      | int k' b => exact rel_binOp_ii
      | ptr0 => exact rel_movedNumber (t := t) (x := .pointer none) (X := .pointer none) (y := .int k a) (Y := .int k a) .ptr0 (.int _ _)
      | @ptr b B hb => exact rel_movedNumber (t := t) (x := .pointer (some b)) (X := .pointer (some B)) (y := .int k a) (Y := .int k a) (.ptr hb) (.int _ _)
      | _ => exact .stuck_
    | ptr0 => cases hy with
      | int k b => exact hmn .ptr0 (.int k b)
      | _ => exact .unsup (by exact trivial)
    | ptr ha => cases hy with
      | int k b => exact hmn (.ptr ha) (.int k b)
      | _ => exact .unsup (by exact trivial)
    | string a => cases hy with
      | string b => exact rel_binOp_ss
      | _ => first | exact .stuck_ | exact .unsup (by exact trivial)
    | _ => cases hy <;> first | exact .stuck_ | exact .unsup (by exact trivial)
  | sub =>
    cases hx with
    | int k a => cases hy with
      | int k' b => exact rel_binOp_ii
      | _ => first | exact .stuck_ | exact .unsup (by exact trivial)
    | ptr0 => cases hy with
      | int k b => exact rel_movedNumber (t := t) (x := .pointer none) (X := .pointer none) (y := .int k (-b)) (Y := .int k (-b)) .ptr0 (.int _ _)
      | _ => exact .unsup (by exact trivial)
    | @ptr a A ha => cases hy with
      | int k b => exact rel_movedNumber (t := t) (x := .pointer (some a)) (X := .pointer (some A)) (y := .int k (-b)) (Y := .int k (-b)) (.ptr ha) (.int _ _)
      | @ptr b B hb => exact rel_behind2 ha fun δ hd p q h => rel_behind2 (AR.mono hd hb) fun ε he r s h' => rel_addrSub (h.mono he) h'
      | _ => exact .unsup (by exact trivial)
    | string a => cases hy with
      | string b => exact rel_binOp_ss
      | _ => first | exact .stuck_ | exact .unsup (by exact trivial)
    | _ => cases hy <;> first | exact .stuck_ | exact .unsup (by exact trivial)
  | lss =>
    cases hx with
    | int k a => cases hy with
      | int k' b => exact rel_binOp_ii
      | _ => first | exact .stuck_ | exact .unsup (by exact trivial)
    | @ptr a A ha => cases hy with
      | @ptr b B hb => exact rel_behind2 ha fun δ hd p q h => rel_behind2 (AR.mono hd hb) fun ε he r s h' => rel_addrCmp (h.mono he) h'
      | _ => exact .unsup (by exact trivial)
    | string a => cases hy with
      | string b => exact rel_binOp_ss
      | _ => first | exact .stuck_ | exact .unsup (by exact trivial)
    | _ => cases hy <;> first | exact .stuck_ | exact .unsup (by exact trivial)
  | leq =>
    cases hx with
    | int k a => cases hy with
      | int k' b => exact rel_binOp_ii
      | _ => first | exact .stuck_ | exact .unsup (by exact trivial)
    | @ptr a A ha => cases hy with
      | @ptr b B hb => exact rel_behind2 ha fun δ hd p q h => rel_behind2 (AR.mono hd hb) fun ε he r s h' => rel_addrCmp (h.mono he) h'
      | _ => exact .unsup (by exact trivial)
    | string a => cases hy with
      | string b => exact rel_binOp_ss
      | _ => first | exact .stuck_ | exact .unsup (by exact trivial)
    | _ => cases hy <;> first | exact .stuck_ | exact .unsup (by exact trivial)
  | gtr =>
    cases hx with
    | int k a => cases hy with
      | int k' b => exact rel_binOp_ii
      | _ => first | exact .stuck_ | exact .unsup (by exact trivial)
    | @ptr a A ha => cases hy with
      | @ptr b B hb => exact rel_behind2 ha fun δ hd p q h => rel_behind2 (AR.mono hd hb) fun ε he r s h' => rel_addrCmp (h.mono he) h'
      | _ => exact .unsup (by exact trivial)
    | string a => cases hy with
      | string b => exact rel_binOp_ss
      | _ => first | exact .stuck_ | exact .unsup (by exact trivial)
    | _ => cases hy <;> first | exact .stuck_ | exact .unsup (by exact trivial)
  | geq =>
    cases hx with
    | int k a => cases hy with
      | int k' b => exact rel_binOp_ii
      | _ => first | exact .stuck_ | exact .unsup (by exact trivial)
    | @ptr a A ha => cases hy with
      | @ptr b B hb => exact rel_behind2 ha fun δ hd p q h => rel_behind2 (AR.mono hd hb) fun ε he r s h' => rel_addrCmp (h.mono he) h'
      | _ => exact .unsup (by exact trivial)
    | string a => cases hy with
      | string b => exact rel_binOp_ss
      | _ => first | exact .stuck_ | exact .unsup (by exact trivial)
    | _ => cases hy <;> first | exact .stuck_ | exact .unsup (by exact trivial)
  | rem =>
    cases hx with
    | int k a => cases hy with
      | int k' b => exact rel_binOp_ii
      | _ => first | exact .stuck_ | exact .unsup (by exact trivial)
    | @ptr a A ha => cases hy with
      | int k b => exact rel_behind2 ha fun δ hd p q h => rel_addrMod h
      | _ => exact .unsup (by exact trivial)
    | string a => cases hy with
      | string b => exact rel_binOp_ss
      | _ => first | exact .stuck_ | exact .unsup (by exact trivial)
    | _ => cases hy <;> first | exact .stuck_ | exact .unsup (by exact trivial)
  | and =>
    cases hx with
    | int k a => cases hy with
      | int k' b => exact rel_binOp_ii
      | @ptr b B hb => exact rel_behind2 hb fun δ hd p q h => rel_addrMod h
      | _ => first | exact .stuck_ | exact .unsup (by exact trivial)
    | @ptr a A ha => cases hy with
      | int k b => exact rel_behind2 ha fun δ hd p q h => rel_addrMod h
      | _ => exact .unsup (by exact trivial)
    | string a => cases hy with
      | string b => exact rel_binOp_ss
      | _ => first | exact .stuck_ | exact .unsup (by exact trivial)
    | _ => cases hy <;> first | exact .stuck_ | exact .unsup (by exact trivial)
  | _ =>
    cases hx with
    | int k a => cases hy with
      | int k' b => exact rel_binOp_ii
      | _ => first | exact .stuck_ | exact .unsup (by exact trivial)
    | string a => cases hy with
      | string b => exact rel_binOp_ss
      | _ => first | exact .stuck_ | exact .unsup (by exact trivial)
    | _ => cases hy <;> first | exact .stuck_ | exact .unsup (by exact trivial)
end
end Go.Fw
end
