/-
  Part 3 of the common ground of this seat: what single parts show stands ahead of each.
  No condition.
-/
import Derived.Test.YtkmgcggoemlaaaaGreatDoorJ02
import Derived.Laws.Sem

section
/- The operations of the model, one by one, continued: unary operations, conversions, built-in functions, literals. No condition. -/
namespace Go.Fw
open Go

section
variable {P : Program} {FN : FuncId → Bool} {β : Ren P.globals.size}

theorem rel_unary {op : UnOp} {x X : Value} (hx : VR FN β x X) : SemR P FN (VR FN) β (Op.unary op x) (Op.unary op X) := by
  cases op <;> cases hx <;> first | exact rel_intArith (op := .sub) (x := 0) | exact rel_intBits (op := .xor) | exact .pur (.bool _) | exact .stuck_ | exact .unsup (by exact trivial)
def convOk (P : Program) (s d : TypeId) : Bool := match P.underlying s, P.underlying d with
  | some (.int _), some (.int _) => true
  | none, _ | _, none => true
  | _, _ => false
theorem rel_convert {s d : TypeId} {x X : Value} (hok : convOk P s d = true) (hx : VR FN β x X) : SemR P FN (VR FN) β (convert s d x) (convert s d X) := by
  unfold convert
  refine rel_und' fun δ hd a ha => ?_
  refine rel_und' fun ε he b hb => ?_
  unfold convOk at hok
  rw [ha, hb] at hok
  have hx' := (hx.mono hd).mono he
  cases a <;> first | (cases hok; done) | skip
  cases b <;> first | (cases hok; done) | skip
  cases hx' with
  | int k n => exact .pur (.int _ _)
  | ptr h => exact .unsup (by exact trivial)
  | _ => exact .unsup (by exact trivial)
theorem rel_asBool {x X : Value} (hx : VR FN β x X) : SemR P FN Eq2 β (asBool x) (asBool X) := by
  cases hx <;> first | exact .pur rfl | exact .stuck_
theorem rel_extract {x X : Value} (hx : VR FN β x X) (i : Nat) : SemR P FN (VR FN) β (Instr.extract x i) (Instr.extract X i) := by
  unfold Instr.extract
  cases hx with
  | @tuple xs XS h1 h2 =>
    have h : ArrR FN β xs XS := ⟨h1, h2⟩
    simp only
    cases hi : xs[i]? with
    | none => exact .stuck_
    | some v =>
      obtain ⟨V, hV, hR⟩ := h.get hi
      rw [hV]; exact .pur hR
  | _ => exact .stuck_
theorem rel_makeInterface {t : TypeId} {x X : Value} (hx : VR FN β x X) : SemR P FN (VR FN) β (Instr.makeInterface t x) (Instr.makeInterface t X) := by
  unfold Instr.makeInterface
  refine rel_und' fun δ hd a ha => ?_
  cases a <;> first | exact .stuck_ | exact .pur (.iface _ (hx.mono hd))
theorem rel_part {t : TypeId} {xs XS : Array Value} (h : ArrR FN β xs XS) (off : Nat) : SemR P FN (VR FN) β (part t xs off) (part t XS off) := by
  unfold part
  refine SemR.same_bind (rel_isAgg t) fun δ hd b => ?_
  cases b with
  | true =>
    refine SemR.same_bind (rel_sizeOf t) fun ε he n => ?_
    exact .pur (VR.agg' (((h.mono hd).mono he).extract _ _))
  | false =>
    simp only [Bool.false_eq_true, if_false]
    cases hi : xs[off]? with
    | none => exact .stuck_
    | some v =>
      obtain ⟨V, hV, hR⟩ := h.get hi
      rw [hV]; exact .pur (hR.mono hd)
theorem rel_asAgg {x X : Value} (hx : VR FN β x X) : SemR P FN (ArrR' FN) β (asAgg x) (asAgg X) := by
  cases hx with
  | agg h1 h2 => exact .pur ⟨h1, h2⟩
  | _ => exact .stuck_
theorem rel_field {t : TypeId} {x X : Value} (hx : VR FN β x X) (i : Nat) : SemR P FN (VR FN) β (Instr.field t x i) (Instr.field t X i) := by
  unfold Instr.field
  refine rel_und' fun δ hd a ha => ?_
  cases a with
  | struct fields =>
    simp only
    cases fields[i]? with
    | none => exact .stuck_
    | some f => exact SemR.bnd (rel_asAgg (hx.mono hd)) fun ε he xs XS h => rel_part h _
  | _ => exact .stuck_
theorem rel_index {t : TypeId} {x X i I : Value} (hx : VR FN β x X) (hi : VR FN β i I) : SemR P FN (VR FN) β (Instr.index t x i) (Instr.index t X I) := by
  unfold Instr.index
  refine SemR.bnd (rel_asIntOf hi) fun δ hd k K e => ?_
  cases e
  obtain ⟨k, n⟩ := k
  refine rel_und' fun ε he a ha => ?_
  have hx' := (hx.mono hd).mono he
  cases a with
  | array len elem =>
    cases hx' with
    | agg h1 h2 =>
      show SemR P FN (VR FN) ε (if _ then _ else _) (if _ then _ else _)
      split
      · refine SemR.same_bind (rel_sizeOf elem) fun ζ hz m => ?_
        exact rel_part (ArrR.mono hz ⟨h1, h2⟩) _
      · exact .bnp
    | _ => exact .stuck_
  | string =>
    cases hx' with
    | string s =>
      show SemR P FN (VR FN) ε (match (if 0 ≤ n then s[n.toNat]? else none) with | some b => pure (.int .u8 b.toNat) | none => boundsPanic k n s.size .index) (match (if 0 ≤ n then s[n.toNat]? else none) with | some b => pure (.int .u8 b.toNat) | none => boundsPanic k n s.size .index)
      cases (if 0 ≤ n then s[n.toNat]? else none) with
      | none => exact .bnp
      | some b => exact .pur (.int _ _)
    | _ => exact .stuck_
  | _ => exact .stuck_

/-! ### len, cap -/
def seqT (P : Program) (t : TypeId) : Bool := match P.underlying t with
  | some (.slice _) | some .string | none => true
  | _ => false
theorem rel_len {t ty : TypeId} {x X : Value} (hok : seqT P t = true) (hx : VR FN β x X) : SemR P FN (VR FN) β (Builtin.len_ #[t] ty #[x]) (Builtin.len_ #[t] ty #[X]) := by
  unfold Builtin.len_
  refine rel_und' (P := P) (FN := FN) (β := β) fun δ hd a ha => ?_
  have ha : P.underlying t = some a := ha
  unfold seqT at hok
  rw [ha] at hok
  have hx' := hx.mono hd
  cases a <;> first | (cases hok; done) | (cases hx' <;> first | exact .pur (.int _ _) | exact .stuck_)
theorem rel_cap {t ty : TypeId} {x X : Value} (hok : seqT P t = true) (hx : VR FN β x X) : SemR P FN (VR FN) β (Builtin.cap_ #[t] ty #[x]) (Builtin.cap_ #[t] ty #[X]) := by
  unfold Builtin.cap_
  refine rel_und' (P := P) (FN := FN) (β := β) fun δ hd a ha => ?_
  have ha : P.underlying t = some a := ha
  unfold seqT at hok
  rw [ha] at hok
  have hx' := hx.mono hd
  cases a <;> first | (cases hok; done) | (cases hx' <;> first | exact .pur (.int _ _) | exact .stuck_)
theorem rel_max2 {x X y Y : Value} (hx : VR FN β x X) (hy : VR FN β y Y) : SemR P FN (VR FN) β (Builtin.max2 x y) (Builtin.max2 X Y) := by
  cases hx with
  | int k a => cases hy with
    | int k b => exact .pur (.int _ _)
    | ptr h => exact .unsup (by exact trivial)
    | _ => exact .stuck_
  | ptr h => cases hy <;> exact .unsup (by exact trivial)
  | string a => cases hy with
    | string b =>
      refine SemR.bnd (rel_stringOp (op := .geq)) fun δ hd a A h => ?_
      refine SemR.bnd (rel_asBool h) fun ε he b B h => ?_
      cases h
      exact .pur (.string _)
    | ptr h => exact .unsup (by exact trivial)
    | _ => exact .stuck_
  | _ => cases hy with
    | ptr h => exact .unsup (by exact trivial)
    | _ => exact .stuck_
theorem rel_min2 {x X y Y : Value} (hx : VR FN β x X) (hy : VR FN β y Y) : SemR P FN (VR FN) β (Builtin.min2 x y) (Builtin.min2 X Y) := by
  cases hx with
  | int k a => cases hy with
    | int k b => exact .pur (.int _ _)
    | ptr h => exact .unsup (by exact trivial)
    | _ => exact .stuck_
  | ptr h => cases hy <;> exact .unsup (by exact trivial)
  | string a => cases hy with
    | string b =>
      refine SemR.bnd (rel_stringOp (op := .leq)) fun δ hd a A h => ?_
      refine SemR.bnd (rel_asBool h) fun ε he b B h => ?_
      cases h
      exact .pur (.string _)
    | ptr h => exact .unsup (by exact trivial)
    | _ => exact .stuck_
  | _ => cases hy with
    | ptr h => exact .unsup (by exact trivial)
    | _ => exact .stuck_
theorem rel_foldM {f : Value → Value → Sem Value} (hf : ∀ {β : Ren P.globals.size} {x X y Y}, VR FN β x X → VR FN β y Y → SemR P FN (VR FN) β (f x y) (f X Y)) :
    ∀ {l L : List Value} {β : Ren P.globals.size} {x X : Value}, LstR FN β l L → VR FN β x X → SemR P FN (VR FN) β (l.foldlM f x) (L.foldlM f X)
  | [], [], _, _, _, _, hx => .pur hx
  | v :: l, V :: L, β, x, X, h, hx => by
    simp only [List.foldlM_cons]
    exact SemR.bnd (hf hx h.1) fun δ hd a A ha => rel_foldM hf (h.2.mono hd) ha
  | [], _ :: _, _, _, _, h, _ => h.elim
  | _ :: _, [], _, _, _, h, _ => h.elim
theorem rel_max {ts : Array TypeId} {ty : TypeId} {xs XS : Array Value} (h : ArrR FN β xs XS) : SemR P FN (VR FN) β (Builtin.max_ ts ty xs) (Builtin.max_ ts ty XS) := by
  unfold Builtin.max_
  have hl := h.list
  revert hl
  cases xs.toList <;> cases XS.toList <;> intro hl <;> first | exact .stuck_ | exact hl.elim | exact rel_foldM rel_max2 hl.2 hl.1
theorem rel_min {ts : Array TypeId} {ty : TypeId} {xs XS : Array Value} (h : ArrR FN β xs XS) : SemR P FN (VR FN) β (Builtin.min_ ts ty xs) (Builtin.min_ ts ty XS) := by
  unfold Builtin.min_
  have hl := h.list
  revert hl
  cases xs.toList <;> cases XS.toList <;> intro hl <;> first | exact .stuck_ | exact hl.elim | exact rel_foldM rel_min2 hl.2 hl.1

/-! ### copy, append, clear -/
/-- So many cells of it may be asked for. -/
def FcOk (x : Value) (n : Nat) : Prop := ∀ a, x = .slice (some a) 0 0 → n = 0
theorem rel_lenOf2 {x X : Value} (hx : VR FN β x X) : SemR P FN (fun _ a A => a = A ∧ FcOk x a) β (Builtin.lenOf x) (Builtin.lenOf X) := by
  cases hx <;> first | exact .stuck_ | exact .pur ⟨rfl, fun a e => by cases e <;> rfl⟩
theorem rel_lenOf {x X : Value} (hx : VR FN β x X) : SemR P FN Eq2 β (Builtin.lenOf x) (Builtin.lenOf X) := by
  cases hx <;> first | exact .pur rfl | exact .stuck_
theorem ArrR.bytes {γ : Ren P.globals.size} (s : ByteArray) : ArrR FN γ (s.data.map fun b => Value.int .u8 b.toNat) (s.data.map fun b => Value.int .u8 b.toNat) := by
  refine ⟨rfl, fun i x X hx hX => ?_⟩
  rw [hx] at hX; cases hX
  simp only [Array.getElem?_map, Option.map_eq_some_iff] at hx
  obtain ⟨b, _, rfl⟩ := hx
  exact .int _ _
theorem rel_firstCells {x X : Value} (hx : VR FN β x X) (size n : Nat) (hn : FcOk x n) : SemR P FN (ArrR' FN) β (Builtin.firstCells size n x) (Builtin.firstCells size n X) := by
  cases hx with
  | slice l c ha => exact rel_loadCells ha _
  | sliceE a A =>
    obtain rfl := hn a rfl
    unfold Builtin.firstCells
    simp only [Nat.zero_mul]
    exact .pur ArrR.nil
  | slice0 l c => exact .pur ArrR.nil
  | string s => exact .pur (ArrR.bytes _)
  | _ => exact .stuck_
theorem rel_noCells {v V : Value} (hv : VR FN β v V) (m : Nat) : SemR P FN (fun _ a A => a = #[] ∧ A = #[]) β (Builtin.firstCells m 0 v) (Builtin.firstCells m 0 V) := by
  cases hv with
  | slice l c ha => unfold Builtin.firstCells; simp only [Nat.zero_mul]; exact .pur ⟨rfl, rfl⟩
  | sliceE a A => unfold Builtin.firstCells; simp only [Nat.zero_mul]; exact .pur ⟨rfl, rfl⟩
  | slice0 l c => exact .pur ⟨rfl, rfl⟩
  | string s =>
    have e : ((s.extract 0 0).data.map fun b => Value.int .u8 b.toNat) = #[] := by
      apply Array.eq_empty_of_size_eq_zero
      simp
    exact .pur ⟨e, e⟩
  | _ => exact .stuck_
theorem rel_copy {t ty t' : TypeId} {x X y Y : Value} (hx : VR FN β x X) (hy : VR FN β y Y) : SemR P FN (VR FN) β (Builtin.copy_ #[t, t'] ty #[x, y]) (Builtin.copy_ #[t, t'] ty #[X, Y]) := by
  unfold Builtin.copy_
  refine rel_und' (P := P) (FN := FN) (β := β) fun δ hd a ha => ?_
  cases a with
  | slice elem =>
    have hx' := hx.mono hd
    have hy' := hy.mono hd
    cases hx' with
    | slice0 l c =>
      refine SemR.bnd (rel_lenOf2 hy') fun ε he n N e => ?_
      obtain ⟨rfl, hfc⟩ := e
      refine SemR.same_bind (rel_sizeOf elem) fun ζ hz m => ?_
      refine SemR.bnd (rel_firstCells ((hy'.mono he).mono hz) _ _ (fun a e => by have h1 := hfc a e; have h2 : Nat.min n l ≤ n := Nat.min_le_left n l; omega)) fun η hη cs CS hc => ?_
      exact .pur (.int _ _)
    | sliceE a A =>
      refine SemR.bnd (rel_lenOf2 hy') fun ε he n N e => ?_
      obtain ⟨rfl, hfc⟩ := e
      refine SemR.same_bind (rel_sizeOf elem) fun ζ hz m => ?_
      have hy2 := (hy'.mono he).mono hz
      rw [show Nat.min n 0 = 0 from Nat.min_zero n]
      refine SemR.bnd (rel_noCells hy2 m) fun η hη cs CS hc => ?_
      obtain ⟨rfl, rfl⟩ := hc
      exact .pur (.int _ _)
    | slice l c hA =>
      refine SemR.bnd (rel_lenOf2 hy') fun ε he n N e => ?_
      obtain ⟨rfl, hfc⟩ := e
      refine SemR.same_bind (rel_sizeOf elem) fun ζ hz m => ?_
      refine SemR.bnd (rel_firstCells ((hy'.mono he).mono hz) _ _ (fun a e => by have h1 := hfc a e; have h2 : Nat.min n l ≤ n := Nat.min_le_left n l; omega)) fun η hη cs CS hc => ?_
      refine SemR.bnd (rel_storeCells (((hA.mono he).mono hz).mono hη) (ArrR.list hc)) fun θ hθ _ _ _ => ?_
      exact .pur (.int _ _)
    | _ => exact .stuck_
  | _ => exact .stuck_
theorem zeroCells_eq (z : Array Value) (n : Nat) : Builtin.zeroCells z n = (Array.range (n * z.size)).map (z[· % z.size]!) := rfl
theorem ArrR.zeroCells {z Z : Array Value} (h : ArrR FN β z Z) (n : Nat) : ArrR FN β (Builtin.zeroCells z n) (Builtin.zeroCells Z n) := by
  rw [zeroCells_eq, zeroCells_eq, ← h.1]
  have := ArrR.ofFn_mod h (n * z.size) (by by_cases h0 : z.size = 0; exact .inr (by rw [h0]; simp); exact .inl h0)
  rwa [← h.1] at this
def sliceZeroOk (P : Program) (t : TypeId) : Bool := match P.underlying t with
  | some (.slice e) => zeroOk P e
  | _ => true
theorem rel_clear {t ty : TypeId} {x X : Value} (hok : sliceZeroOk P t = true) (hx : VR FN β x X) : SemR P FN (VR FN) β (Builtin.clear_ #[t] ty #[x]) (Builtin.clear_ #[t] ty #[X]) := by
  unfold Builtin.clear_
  refine rel_und' (P := P) (FN := FN) (β := β) fun δ hd a ha => ?_
  have ha : P.underlying t = some a := ha
  unfold sliceZeroOk at hok
  rw [ha] at hok
  have hx' := hx.mono hd
  have fin : ∀ {γ : Ren P.globals.size}, SemR P FN (VR FN) γ (Pure.pure (Value.tuple #[])) (Pure.pure (Value.tuple #[])) := .pur (VR.tuple' ArrR.nil)
  cases hx' with
  | slice0 l c => cases a <;> exact fin
  | sliceE _ _ => cases a <;> exact fin
  | slice l c hA =>
    cases l with
    | zero => cases a <;> exact fin
    | succ l => cases a with
      | slice elem =>
        refine SemR.bnd (rel_zeroValue elem hok) fun ε he z Z hz => ?_
        exact SemR.bnd (rel_storeCells (hA.mono he) (ArrR.list (ArrR.zeroCells hz.cells _))) fun ζ hz _ _ _ => fin
      | _ => exact .dead (Dead.bind (dead_stuck _) _)
  | mapNil => cases a <;> exact fin
  | junk h =>
    cases a <;> exact .getObjD (δ.sp 0 (.inl rfl)) fun a l => Dead.halt (h := .stuck "clear: map expected") trivial
  | _ => cases a <;> exact .dead (Dead.bind (dead_stuck _) _)
end
end Go.Fw
end

section
/- The operations of the model, one by one, continued: append, make, composite literals. No condition. -/
namespace Go.Fw
open Go

section
variable {P : Program} {FN : FuncId → Bool} {β : Ren P.globals.size}

theorem rel_askRoom (n : Nat) : SemR P FN Eq2 β (askRoom n) (askRoom n) := by
  unfold askRoom
  split
  · exact .mark trivial (.pure rfl)
  · exact .pur rfl
theorem dead_bindT {α γ : Type} {s : Sem α} {f : α → Sem γ} (h : Dead s) : Dead (s >>= f) := h.bind f
theorem SemR.deadB {α γ : Type} {RA : Ren P.globals.size → γ → γ → Prop} {s : Sem α} {f : α → Sem γ} {S : Sem γ} (h : Dead s) : SemR P FN RA β (s >>= f) S := .dead (h.bind f)

/-- Behind the test on the capacity, where the slice grows. -/
theorem rel_grow {elem : TypeId} {x X y Y : Value} (hok : zeroOk P elem = true) (hx : VR FN β x X) (hy : VR FN β y Y) (size l c n : Nat) (fx : FcOk x l) (fy : FcOk y n) :
    SemR P FN (VR FN) β
      (do
        let newCap ← choose (.appendCap (l + n) c elem)
        askRoom (newCap * (← typeInfo elem).bytes)
        let old ← Builtin.firstCells size l x
        let new ← Builtin.firstCells size n y
        let rest := Builtin.zeroCells (← zeroValue elem).cells (newCap - (l + n))
        pure (.slice (some (← newRow elem (old ++ new ++ rest))) (l + n) newCap))
      (do
        let newCap ← choose (.appendCap (l + n) c elem)
        askRoom (newCap * (← typeInfo elem).bytes)
        let old ← Builtin.firstCells size l X
        let new ← Builtin.firstCells size n Y
        let rest := Builtin.zeroCells (← zeroValue elem).cells (newCap - (l + n))
        pure (.slice (some (← newRow elem (old ++ new ++ rest))) (l + n) newCap)) := by
  refine .choose fun m => ?_
  show SemR P FN (VR FN) β (Sem.bind (.pure m) _) (Sem.bind (.pure m) _)
  simp only [Sem.bind]
  refine SemR.same_bind (rel_typeInfo elem) fun δ1 h1 i => ?_
  refine SemR.same_bind (rel_askRoom _) fun δ2 h2 _ => ?_
  have h12 := Ren.le_trans h1 h2
  refine SemR.bnd (rel_firstCells (hx.mono h12) _ _ fx) fun δ3 h3 old OLD ho => ?_
  refine SemR.bnd (rel_firstCells (hy.mono (Ren.le_trans h12 h3)) _ _ fy) fun δ4 h4 nw NW hn => ?_
  refine SemR.bnd (rel_zeroValue elem hok) fun δ5 h5 z Z hz => ?_
  have ho' : ArrR FN δ5 old OLD := ArrR.mono h5 (ArrR.mono h4 ho)
  have hn' : ArrR FN δ5 nw NW := ArrR.mono h5 hn
  refine SemR.bnd (rel_newRow ((ho'.app hn').app (ArrR.zeroCells hz.cells _))) fun δ6 h6 a A ha => ?_
  exact .pur (.slice _ _ ha)
theorem dead_mayShare {α : Type} (size l n : Nat) (b : Option Addr) (x : Value) (f : Bool → Sem α) (hf : ∀ v, Dead (f v)) : Dead (Builtin.mayShare size l n b x >>= f) := by
  have hc : ∀ (a : Addr) (m : Nat) {γ : Type} (g : Bool → Sem γ), (∀ v, Dead (g v)) → Dead (Builtin.holdsCells a m >>= g) := fun a m γ g hg => by
    refine .shape fun x => ?_
    cases x with
    | none => exact hg _
    | some x => exact hg _
  have tl : ∀ there : Bool, Dead ((do
      if !there then return true
      match x with
      | .slice (some b') _ _ => do pure (!(← Builtin.holdsCells b' (n * size)) || b.any (·.block == b'.block))
      | _ => pure false : Sem Bool) >>= f) := fun there => by
    cases there with
    | false => exact hf _
    | true =>
      cases x with
      | slice a l c => cases a with
        | none => exact hf _
        | some a =>
          show Dead ((Builtin.holdsCells a (n * size) >>= _) >>= f)
          rw [bind_assoc]
          exact hc _ _ _ fun v => hf _
      | _ => exact hf _
  unfold Builtin.mayShare
  cases b with
  | none => exact tl true
  | some a =>
    show Dead ((Builtin.holdsCells a (l * size) >>= _) >>= f)
    rw [bind_assoc]
    refine hc _ _ _ fun v => ?_
    refine .frozen fun u => ?_
    exact tl (v && !u)
theorem rel_append {t ty : TypeId} {x X y Y : Value} (hok : sliceZeroOk P t = true) (hx : VR FN β x X) (hy : VR FN β y Y) :
    SemR P FN (VR FN) β (Builtin.append_ #[t, t] ty #[x, y]) (Builtin.append_ #[t, t] ty #[X, Y]) := by
  unfold Builtin.append_
  refine rel_und' (P := P) (FN := FN) (β := β) fun δ hd a ha => ?_
  have ha : P.underlying t = some a := ha
  unfold sliceZeroOk at hok
  rw [ha] at hok
  cases a with
  | slice elem =>
    have hok : zeroOk P elem = true := hok
    have grow : ∀ {γ : Ren P.globals.size} {v V : Value} (b B : Option Addr) (l c n size : Nat) (f F : Sem Value), VR FN γ v V → VR FN γ y Y → FcOk v l → FcOk y n →
        SemR P FN (VR FN) γ
          (do
            let i ← typeInfo elem
            if ((l + n : Nat) : Int) > IntKind.i64.max ∧ i.bytes = 0 then (do
              runtimePanic (.error "growslice: len out of range")
              f)
            else (do
              let j ← typeInfo elem
              if Builtin.nextslicecap (l + n) c * j.bytes > 2 ^ 48 then (do
                (do
                  let s ← Builtin.mayShare size l n b y
                  if (!s) = true then (do
                    mark Mark.noRoom
                    unsupported (Unsupported.resourceLimit "append: a slice or a string whose bytes no memory bears"))
                  else unsupported (Unsupported.resourceLimit "append: a slice or a string whose bytes no memory bears"))
                let newCap ← choose (.appendCap (l + n) c elem)
                let k ← typeInfo elem
                askRoom (newCap * k.bytes)
                let old ← Builtin.firstCells size l v
                let new ← Builtin.firstCells size n y
                let z ← zeroValue elem
                let r ← newRow elem (old ++ new ++ Builtin.zeroCells z.cells (newCap - (l + n)))
                pure (Value.slice (some r) (l + n) newCap))
              else (do
                let newCap ← choose (.appendCap (l + n) c elem)
                let k ← typeInfo elem
                askRoom (newCap * k.bytes)
                let old ← Builtin.firstCells size l v
                let new ← Builtin.firstCells size n y
                let z ← zeroValue elem
                let r ← newRow elem (old ++ new ++ Builtin.zeroCells z.cells (newCap - (l + n)))
                pure (Value.slice (some r) (l + n) newCap))))
          (do
            let i ← typeInfo elem
            if ((l + n : Nat) : Int) > IntKind.i64.max ∧ i.bytes = 0 then (do
              runtimePanic (.error "growslice: len out of range")
              F)
            else (do
              let j ← typeInfo elem
              if Builtin.nextslicecap (l + n) c * j.bytes > 2 ^ 48 then (do
                (do
                  let s ← Builtin.mayShare size l n B Y
                  if (!s) = true then (do
                    mark Mark.noRoom
                    unsupported (Unsupported.resourceLimit "append: a slice or a string whose bytes no memory bears"))
                  else unsupported (Unsupported.resourceLimit "append: a slice or a string whose bytes no memory bears"))
                let newCap ← choose (.appendCap (l + n) c elem)
                let k ← typeInfo elem
                askRoom (newCap * k.bytes)
                let old ← Builtin.firstCells size l V
                let new ← Builtin.firstCells size n Y
                let z ← zeroValue elem
                let r ← newRow elem (old ++ new ++ Builtin.zeroCells z.cells (newCap - (l + n)))
                pure (Value.slice (some r) (l + n) newCap))
              else (do
                let newCap ← choose (.appendCap (l + n) c elem)
                let k ← typeInfo elem
                askRoom (newCap * k.bytes)
                let old ← Builtin.firstCells size l V
                let new ← Builtin.firstCells size n Y
                let z ← zeroValue elem
                let r ← newRow elem (old ++ new ++ Builtin.zeroCells z.cells (newCap - (l + n)))
                pure (Value.slice (some r) (l + n) newCap)))) := by
      intro γ v V b B l c n size f F hv hy fv fy
      refine SemR.same_bind (rel_typeInfo elem) fun θ hθ i => ?_
      by_cases h1 : ((l + n : Nat) : Int) > IntKind.i64.max ∧ i.bytes = 0
      · rw [if_pos h1]; exact .deadB (dead_runtimePanic _)
      · rw [if_neg h1, if_neg h1]
        refine SemR.same_bind (rel_typeInfo elem) fun κ hκ j => ?_
        by_cases h2 : Builtin.nextslicecap (l + n) c * j.bytes > 2 ^ 48
        · rw [if_pos h2]
          refine .deadB (dead_mayShare size l n b y _ fun v => ?_)
          cases v
          · exact .mark trivial (.halt (h := .unsupported (.resourceLimit _)) trivial)
          · exact .halt (h := .unsupported (.resourceLimit _)) trivial
        · rw [if_neg h2, if_neg h2]
          exact rel_grow hok ((hv.mono hθ).mono hκ) ((hy.mono hθ).mono hκ) size l c n fv fy
    have hx' := hx.mono hd
    have hy' := hy.mono hd
    cases hx' with
    | slice0 l c =>
      refine SemR.same_bind (rel_sizeOf elem) fun ε he size => ?_
      refine rel_und' (P := P) (FN := FN) fun ζ hz a2 ha2 => ?_
      have ha2 : P.underlying t = some a2 := ha2
      rw [ha] at ha2; cases ha2
      simp only [pure_bind]
      simp only [Bool.false_eq_true, if_false]
      refine SemR.bnd (rel_lenOf2 ((hy'.mono he).mono hz)) fun η hη n N e => ?_
      obtain ⟨rfl, fy⟩ := e
      simp only [Bool.not_false, if_true, false_or]
      have hy4 := ((hy'.mono he).mono hz).mono hη
      by_cases hle : l + n ≤ c
      · rw [if_pos hle, if_pos hle]
        exact SemR.bnd (rel_firstCells hy4 _ _ fy) fun θ hθ cs CS hc => .pur (.slice0 _ _)
      · rw [if_neg hle, if_neg hle]
        exact grow none none l c n size _ _ (.slice0 l c) hy4 (fun a e => by cases e) fy
    | @slice a A l c hA =>
      refine SemR.same_bind (rel_sizeOf elem) fun ε he size => ?_
      refine rel_und' (P := P) (FN := FN) fun ζ hz a2 ha2 => ?_
      have ha2 : P.underlying t = some a2 := ha2
      rw [ha] at ha2; cases ha2
      simp only [pure_bind]
      simp only [Bool.false_eq_true, if_false]
      refine SemR.bnd (rel_lenOf2 ((hy'.mono he).mono hz)) fun η hη n N e => ?_
      obtain ⟨rfl, fy⟩ := e
      simp only [Bool.not_false, if_true, false_or]
      have hy4 := ((hy'.mono he).mono hz).mono hη
      have hA4 := ((hA.mono he).mono hz).mono hη
      by_cases hle : l + n ≤ c
      · rw [if_pos hle, if_pos hle]
        refine SemR.bnd (rel_firstCells hy4 _ _ fy) fun θ hθ cs CS hc => ?_
        refine SemR.bnd (rel_storeCells ((hA4.mono hθ).add _) (ArrR.list hc)) fun κ hκ _ _ _ => ?_
        exact .pur (.slice _ _ ((hA4.mono hθ).mono hκ))
      · rw [if_neg hle, if_neg hle]
        exact grow (some a) (some A) l c n size _ _ (.slice l c hA4) hy4 (fun a e => by cases e; rfl) fy
    | sliceE a A =>
      refine SemR.same_bind (rel_sizeOf elem) fun ε he size => ?_
      refine rel_und' (P := P) (FN := FN) fun ζ hz a2 ha2 => ?_
      have ha2 : P.underlying t = some a2 := ha2
      rw [ha] at ha2; cases ha2
      simp only [pure_bind]
      simp only [Bool.false_eq_true, if_false]
      refine SemR.bnd (rel_lenOf2 ((hy'.mono he).mono hz)) fun η hη n N e => ?_
      obtain ⟨rfl, fy⟩ := e
      simp only [Bool.not_false, if_true, false_or]
      have hy4 := ((hy'.mono he).mono hz).mono hη
      by_cases hle : 0 + n ≤ 0
      · rw [if_pos hle, if_pos hle]
        obtain rfl : n = 0 := by omega
        refine SemR.bnd (rel_noCells hy4 size) fun θ hθ cs CS hc => ?_
        obtain ⟨rfl, rfl⟩ := hc
        exact .pur (.sliceE _ _)
      · rw [if_neg hle, if_neg hle]
        exact grow (some a) (some A) 0 0 n size _ _ (.sliceE a A) hy4 (fun a e => rfl) fy
    | _ => exact .stuck_
  | _ => exact .stuck_
end
end Go.Fw
end

section
/- Related operations, part 7: makeSlice, makeFunc, pick, nilCheck, build, buildSlice. No condition. -/
namespace Go.Fw
open Go
variable {P : Program} {FN : FuncId → Bool} {β : Ren P.globals.size}

theorem rel_pick {c C a A b B : Value} (hc : VR FN β c C) (ha : VR FN β a A) (hb : VR FN β b B) :
    SemR P FN (VR FN) β (do pure (if ← asBool c then a else b)) (do pure (if ← asBool C then A else B)) := by
  refine SemR.bnd (rel_asBool hc) fun δ hd x X hx => ?_
  obtain rfl : x = X := hx
  cases x
  · exact .pur (hb.mono hd)
  · exact .pur (ha.mono hd)

theorem rel_makeFunc {f : FuncId} {xs XS ys YS : Array Value} (hf : FN f = true) (h1 : ArrR FN β xs XS) (h2 : ArrR FN β ys YS) :
    SemR P FN (VR FN) β (Instr.makeFunc (.func f) xs ys) (Instr.makeFunc (.func f) XS YS) := .pur (.func hf h1.1 h1.2 h2.1 h2.2)

/-- The zero value of the type fills a cell at least. -/
def zeroNe (P : Program) (t : TypeId) : Bool := match P.info? t with
  | some i => match i.zero with
    | some v => v.cells.size != 0
    | none => true
  | none => true
theorem rel_zeroValueN (t : TypeId) (h : zeroOk P t = true) (h' : zeroNe P t = true) : SemR P FN (fun δ z Z => VR FN δ z Z ∧ z.cells.size ≠ 0) β (zeroValue t) (zeroValue t) := by
  unfold zeroOk at h
  unfold zeroNe at h'
  refine .program ?_
  show SemR P FN _ β (Sem.bind (Sem.bind (.pure P) _) _) (Sem.bind (Sem.bind (.pure P) _) _)
  simp only [Sem.bind]
  cases hi : P.info? t with
  | none => exact .dead (Dead.bind (dead_stuck _) _)
  | some i =>
    rw [hi] at h h'
    show SemR P FN _ β (Sem.bind (.pure i) _) (Sem.bind (.pure i) _)
    simp only [Sem.bind]
    cases hz : i.zero with
    | none => exact .unsup trivial
    | some v => simp only [hz] at h h'; exact .pur ⟨VR.of_plain 5 v h, by simpa using h'⟩
def makeOk (P : Program) (t : TypeId) : Bool := match P.underlying t with
  | some (.slice e) => zeroOk P e && zeroNe P e
  | _ => true

theorem rel_made {elem : TypeId} (hz : zeroOk P elem = true) (hz' : zeroNe P elem = true) (l c n : Nat) :
    SemR P FN (VR FN) β
      (if n = 0 then (do let zero ← (pure #[] : Sem (Array Value)); let a ← newRow elem (Array.map (fun x => zero[x % zero.size]!) (Array.range n)); pure (Value.slice (some a) l c))
        else (do let z ← zeroValue elem; let zero ← (pure z.cells : Sem (Array Value)); let a ← newRow elem (Array.map (fun x => zero[x % zero.size]!) (Array.range n)); pure (Value.slice (some a) l c)))
      (if n = 0 then (do let zero ← (pure #[] : Sem (Array Value)); let a ← newRow elem (Array.map (fun x => zero[x % zero.size]!) (Array.range n)); pure (Value.slice (some a) l c))
        else (do let z ← zeroValue elem; let zero ← (pure z.cells : Sem (Array Value)); let a ← newRow elem (Array.map (fun x => zero[x % zero.size]!) (Array.range n)); pure (Value.slice (some a) l c))) := by
  have tail : ∀ (δ : Ren P.globals.size) (z Z : Array Value), ArrR FN δ z Z → (z.size ≠ 0 ∨ n = 0) → SemR P FN (VR FN) δ (do let a ← newRow elem (Array.map (fun x => z[x % z.size]!) (Array.range n)); pure (Value.slice (some a) l c))
      (do let a ← newRow elem (Array.map (fun x => Z[x % Z.size]!) (Array.range n)); pure (Value.slice (some a) l c)) := fun δ z Z h hne => by
    refine SemR.bnd (rel_newRow ?_) fun γ hg a A ha => .pur (.slice l c ha)
    exact ArrR.ofFn_mod h n hne
  by_cases h : n = 0
  · rw [if_pos h]
    exact tail β #[] #[] ArrR.nil (.inr h)
  · rw [if_neg h]
    exact SemR.bnd (rel_zeroValueN elem hz hz') fun δ hd z Z hzz => tail δ _ _ hzz.1.cells (.inl hzz.2)

theorem rel_makeSlice {t : TypeId} {x X y Y : Value} (hok : makeOk P t = true) (hx : VR FN β x X) (hy : VR FN β y Y) :
    SemR P FN (VR FN) β (Instr.makeSlice t x y) (Instr.makeSlice t X Y) := by
  unfold Instr.makeSlice
  refine rel_und' fun δ hd d hu => ?_
  cases d with
  | slice elem =>
    refine SemR.bnd (rel_asInt (hx.mono hd)) fun δ1 hd1 l L hl => ?_
    obtain rfl : l = L := hl
    refine SemR.bnd (rel_asInt (hy.mono (Ren.le_trans hd hd1))) fun δ2 hd2 c C hc => ?_
    obtain rfl : c = C := hc
    refine SemR.bnd (rel_typeInfo elem) fun δ3 hd3 i I hi => ?_
    obtain rfl : i = I := hi
    have hz : zeroOk P elem = true ∧ zeroNe P elem = true := by
      unfold makeOk at hok
      have hu' : P.underlying t = some (.slice elem) := hu
      rw [hu'] at hok
      simpa using hok
    dsimp only
    by_cases h1 : (decide (IntKind.i64.wrap c < 0) || decide (↑i.bytes * IntKind.i64.wrap c > 2 ^ 48) || decide (IntKind.i64.wrap l < 0) || decide (IntKind.i64.wrap l > IntKind.i64.wrap c)) = true
    · rw [if_pos h1]
      split
      · exact .deadB (dead_runtimePanic _)
      · split
        · exact .deadB (dead_runtimePanic _)
        · refine .dead (.choose fun x => ?_)
          exact (dead_runtimePanic (α := Unit) (.error (if (x == 1) = true then "makeslice: cap out of range" else "makeslice: len out of range"))).bind _
    · rw [if_neg h1]
      refine SemR.bnd (rel_askRoom _) fun δ4 hd4 u U hu' => ?_
      refine SemR.bnd (rel_sizeOf elem) fun δ5 hd5 s S hs => ?_
      obtain rfl : s = S := hs
      exact rel_made hz.1 hz.2 _ _ _
  | _ => exact SemR.stuck_

/-! ### composite literals -/
/-- Related parts: the same numbers, related values. -/
def PartsR (FN : FuncId → Bool) (β : Ren P.globals.size) : List (Nat × Value) → List (Nat × Value) → Prop
  | [], [] => True
  | x :: xs, X :: XS => (x.1 = X.1 ∧ VR FN β x.2 X.2) ∧ PartsR FN β xs XS
  | _, _ => False
theorem PartsR.mono {γ : Ren P.globals.size} (h : β.le γ) : ∀ {l L : List (Nat × Value)}, PartsR FN β l L → PartsR FN γ l L
  | [], [], _ => trivial
  | _ :: _, _ :: _, ⟨a, b⟩ => ⟨⟨a.1, a.2.mono h⟩, PartsR.mono h b⟩
  | [], _ :: _, x => x.elim
  | _ :: _, [], x => x.elim

theorem rel_setFold {cs CS : Array Value} (h : ArrR FN β cs CS) (off : Nat) : ∀ (l L : List Value) (j : Nat), LstR FN β l L →
    ArrR FN β ((l.zipIdx j).foldl (fun cs (c, j) => cs.setIfInBounds (off + j) c) cs) ((L.zipIdx j).foldl (fun cs (c, j) => cs.setIfInBounds (off + j) c) CS) := by
  intro l
  induction l generalizing cs CS with
  | nil =>
    intro L j hl
    cases L with
    | nil => exact h
    | cons => exact hl.elim
  | cons x l ih =>
    intro L j hl
    cases L with
    | nil => exact hl.elim
    | cons X L => exact ih (h.set hl.1 _) L (j + 1) hl.2

theorem fill_cons (place : Nat → Option (Nat × Nat)) (cs : Array Value) (i : Nat) (v : Value) (l : List (Nat × Value)) :
    Instr.fill place cs ((i, v) :: l) = match place i with
      | none => none
      | some (off, size) => if v.cells.size ≠ size || off + v.cells.size > cs.size then none else Instr.fill place (v.cells.zipIdx.foldl (fun cs (c, j) => cs.setIfInBounds (off + j) c) cs) l := rfl
theorem zipIdx_foldl_list (off : Nat) (x cs : Array Value) :
    x.zipIdx.foldl (fun cs (c, j) => cs.setIfInBounds (off + j) c) cs = (x.toList.zipIdx).foldl (fun cs (c, j) => cs.setIfInBounds (off + j) c) cs := by
  rw [← Array.foldl_toList]; simp
theorem rel_fill (place : Nat → Option (Nat × Nat)) : ∀ (l L : List (Nat × Value)) (cs CS : Array Value), PartsR FN β l L → ArrR FN β cs CS →
    (Instr.fill place cs l = none ∧ Instr.fill place CS L = none) ∨ ∃ r R, Instr.fill place cs l = some r ∧ Instr.fill place CS L = some R ∧ ArrR FN β r R := by
  intro l
  induction l with
  | nil =>
    intro L cs CS hp hc
    cases L with
    | nil => exact .inr ⟨cs, CS, by rw [Instr.fill], by rw [Instr.fill], hc⟩
    | cons => exact hp.elim
  | cons x l ih =>
    intro L cs CS hp hc
    cases L with
    | nil => exact hp.elim
    | cons X L =>
      obtain ⟨i, v⟩ := x
      obtain ⟨I, V⟩ := X
      obtain ⟨⟨hi, hv⟩, hp'⟩ := hp
      simp only at hi hv
      subst hi
      rw [fill_cons, fill_cons]
      cases place i with
      | none => exact .inl ⟨rfl, rfl⟩
      | some os =>
        obtain ⟨off, size⟩ := os
        have e1 : v.cells.size = V.cells.size := hv.cells.1
        simp only [e1, hc.1]
        split
        · exact .inl ⟨rfl, rfl⟩
        · refine ih L _ _ hp' ?_
          rw [zipIdx_foldl_list, zipIdx_foldl_list]
          exact rel_setFold hc off _ _ 0 hv.cells.list

theorem rel_buildSlice {t : TypeId} {len : Nat} {l L : Array (Nat × Value)} (hok : makeOk P t = true) (hp : PartsR FN β l.toList L.toList) :
    SemR P FN (VR FN) β (Instr.buildSlice t len l) (Instr.buildSlice t len L) := by
  unfold Instr.buildSlice
  refine rel_und' fun δ hd d hu => ?_
  cases d with
  | slice elem =>
    have hz : zeroOk P elem = true ∧ zeroNe P elem = true := by
      unfold makeOk at hok
      have hu' : P.underlying t = some (.slice elem) := hu
      rw [hu'] at hok
      simpa using hok
    refine SemR.bnd (rel_sizeOf elem) fun δ1 hd1 s S hs => ?_
    obtain rfl : s = S := hs
    have tail : ∀ (γ : Ren P.globals.size) (_ : β.le γ) (z Z : Array Value), ArrR FN γ z Z → (z.size ≠ 0 ∨ len * s = 0) →
        (Instr.fill (fun i => some (i * s, s)) ((Array.range (len * s)).map (z[· % z.size]!)) l.toList = none ∧ Instr.fill (fun i => some (i * s, s)) ((Array.range (len * s)).map (Z[· % Z.size]!)) L.toList = none) ∨
        ∃ r R, Instr.fill (fun i => some (i * s, s)) ((Array.range (len * s)).map (z[· % z.size]!)) l.toList = some r ∧ Instr.fill (fun i => some (i * s, s)) ((Array.range (len * s)).map (Z[· % Z.size]!)) L.toList = some R ∧ ArrR FN γ r R :=
      fun γ hγ z Z h hne => rel_fill (fun i => some (i * s, s)) l.toList L.toList _ _ (hp.mono hγ) (ArrR.ofFn_mod h (len * s) hne)
    dsimp only
    have hle : β.le δ1 := Ren.le_trans hd hd1
    by_cases h1 : len * s > 2 ^ 24
    · rw [if_pos h1]
      exact .deadB (dead_unsup trivial)
    · rw [if_neg h1, if_neg h1]
      by_cases h0 : len * s = 0
      · rw [if_pos h0, if_pos h0]
        simp only [pure_bind]
        rcases tail δ1 hle #[] #[] ArrR.nil (.inr h0) with ⟨e1, e2⟩ | ⟨r, R, e1, e2, hr⟩
        · rw [e1, e2]; exact SemR.stuck_
        · rw [e1, e2]; exact SemR.bnd (rel_newRow hr) fun γ hg a A ha => .pur (VR.slice len len ha)
      · rw [if_neg h0, if_neg h0]
        refine SemR.bnd (rel_zeroValueN elem hz.1 hz.2) fun δ2 hd2 z Z hzz => ?_
        simp only [pure_bind]
        rcases tail δ2 (Ren.le_trans hle hd2) _ _ hzz.1.cells (.inl hzz.2) with ⟨e1, e2⟩ | ⟨r, R, e1, e2, hr⟩
        · rw [e1, e2]; exact SemR.stuck_
        · rw [e1, e2]; exact SemR.bnd (rel_newRow hr) fun γ hg a A ha => .pur (VR.slice len len ha)
  | _ => exact SemR.stuck_

theorem rel_mapM {f : Field → Sem (Nat × Nat)} (hf : ∀ {β : Ren P.globals.size} x, SemR P FN Eq2 β (f x) (f x)) : ∀ (l : List Field) {β : Ren P.globals.size}, SemR P FN Eq2 β (l.mapM f) (l.mapM f)
  | [], β => by rw [List.mapM_nil]; exact .pur rfl
  | x :: l, β => by
    rw [List.mapM_cons]
    exact SemR.same_bind (hf x) fun δ hd a => SemR.same_bind (rel_mapM hf l) fun δ' hd' b => .pur rfl

theorem rel_build {t : TypeId} {l L : Array (Nat × Value)} (hok : zeroOk P t = true) (hp : PartsR FN β l.toList L.toList) :
    SemR P FN (VR FN) β (Instr.build t l) (Instr.build t L) := by
  unfold Instr.build
  refine SemR.bnd (rel_zeroValue t hok) fun δ hd z Z hz => ?_
  refine rel_und' fun δ1 hd1 d hu => ?_
  have hle := Ren.le_trans hd hd1
  have hzc : ArrR FN δ1 z.cells Z.cells := (hz.mono hd1).cells
  cases d with
  | struct fields =>
    have hm : SemR P FN Eq2 δ1 (fields.mapM fun f => do pure (f.offset, ← sizeOf f.type)) (fields.mapM fun f => do pure (f.offset, ← sizeOf f.type)) := by
      rw [Array.mapM_eq_mapM_toList]
      refine SemR.same_bind (rel_mapM (fun x => SemR.same_bind (rel_sizeOf x.type) fun _ _ a => .pur rfl) _) fun _ _ a => .pur rfl
    refine SemR.bnd hm fun δ2 hd2 pl PL hpl => ?_
    obtain rfl : pl = PL := hpl
    rcases rel_fill (pl[·]?) l.toList L.toList _ _ (hp.mono (Ren.le_trans hle hd2)) (hzc.mono hd2) with ⟨e1, e2⟩ | ⟨r, R, e1, e2, hr⟩
    · rw [e1, e2]; exact SemR.stuck_
    · rw [e1, e2]; exact .pur (VR.agg' hr)
  | array n elem =>
    refine SemR.bnd (rel_sizeOf elem) fun δ2 hd2 s S hs => ?_
    obtain rfl : s = S := hs
    rcases rel_fill (fun i => some (i * s, s)) l.toList L.toList _ _ (hp.mono (Ren.le_trans hle hd2)) (hzc.mono hd2) with ⟨e1, e2⟩ | ⟨r, R, e1, e2, hr⟩
    · rw [e1, e2]; exact SemR.stuck_
    · rw [e1, e2]; exact .pur (VR.agg' hr)
  | _ => exact SemR.stuck_
end Go.Fw
end

section
/- Related operations, part 8: calls, nilCheck, the builtin functions. No condition. -/
namespace Go.Fw
open Go
variable {P : Program} {FN : FuncId → Bool} {β : Ren P.globals.size}

def bodyOk (P : Program) (f : FuncId) : Bool := match P.funcs[f]? with
  | none => false
  | some fn => fn.name != "runtime.NumGoroutine" && fn.body.isSome

/-- What an operation asks of the machine: a value, nothing, or a call of a function of the list. -/
inductive NextR (FN : FuncId → Bool) (β : Ren P.globals.size) : Next → Next → Prop
  | value {v V : Value} (h : VR FN β v V) : NextR FN β (.value v) (.value V)
  | skip : NextR FN β .skip .skip
  | enter {f : FuncId} {xs XS : Array Value} (hf : FN f = true) (hb : bodyOk P f = true) (h : ArrR FN β xs XS) : NextR FN β (.enter f xs) (.enter f XS)

theorem rel_v {s S : Sem Value} (h : SemR P FN (VR FN) β s S) : SemR P FN (NextR FN) β (do pure (.value (← s))) (do pure (.value (← S))) :=
  SemR.bnd h fun _ _ _ _ hv => .pur (.value hv)
theorem rel_u {s S : Sem Unit} (h : SemR P FN Eq2 β s S) : SemR P FN (NextR FN) β (do s; pure .skip) (do S; pure .skip) :=
  SemR.bnd h fun _ _ _ _ _ => .pur .skip

/-- A call of f is related to itself. -/
def CallOk (P : Program) (FN : FuncId → Bool) (f : FuncId) : Prop :=
  ∀ (β : Ren P.globals.size) (xs XS : Array Value), ArrR FN β xs XS → SemR P FN (NextR FN) β (callFunc f xs) (callFunc f XS)

theorem callOk_body {f : FuncId} (h : bodyOk P f = true) (hf : FN f = true) : CallOk P FN f := by
  intro β xs XS hx
  unfold callFunc
  refine .program ?_
  show SemR P FN (NextR FN) β (Sem.bind (.pure P) _) (Sem.bind (.pure P) _)
  simp only [Sem.bind]
  have hb := h
  unfold bodyOk at h
  cases hfn : P.funcs[f]? with
  | none => rw [hfn] at h; cases h
  | some fn =>
    rw [hfn] at h
    simp only [Bool.and_eq_true, bne_iff_ne, ne_eq] at h
    have h1 : (fn.name == "runtime.NumGoroutine") = false := by simpa using h.1
    have h2 : fn.body.isNone = false := by
      cases hb : fn.body with
      | none => rw [hb] at h; simp at h
      | some c => rfl
    simp only [h1, h2, Bool.false_eq_true, if_false]
    exact .pur (.enter hf hb hx)

theorem rel_callValue {f F : Value} {xs XS : Array Value} (hall : ∀ g, FN g = true → CallOk P FN g) (hf : VR FN β f F) (hx : ArrR FN β xs XS) :
    SemR P FN (NextR FN) β (do let d ← Deferred.ofValue f xs; invoke d.target d.args) (do let d ← Deferred.ofValue F XS; invoke d.target d.args) := by
  cases hf with
  | func hg h1 h2 h3 h4 =>
    rename_i g fs FS ys YS
    show SemR P FN (NextR FN) β (Sem.bind (.pure _) _) (Sem.bind (.pure _) _)
    simp only [Sem.bind]
    exact hall g hg β _ _ ((ArrR.app ⟨h1, h2⟩ hx).app ⟨h3, h4⟩)
  | nilFunc =>
    show SemR P FN (NextR FN) β (Sem.bind (.pure _) _) _
    simp only [Sem.bind]
    unfold invoke
    exact .dead (dead_runtimePanic _)
  | junkF f ys zs =>
    show SemR P FN (NextR FN) β (Sem.bind (.pure _) _) _
    simp only [Sem.bind]
    have e : ((#[Value.nilIface] : Array Value) ++ xs)[0]? = some .nilIface := by rw [Array.getElem?_append_left (by show 0 < 1; omega)]; rfl
    unfold invoke
    simp only [e]
    unfold callMethod
    exact .dead (dead_runtimePanic _)
  | @bound g ys YS h1 h2 =>
    show SemR P FN (NextR FN) β (Sem.bind (.pure _) _) _
    simp only [Sem.bind]
    have e : ((#[Value.nilIface, .int .i64 (g : Int)] : Array Value) ++ xs)[0]? = some .nilIface := by rw [Array.getElem?_append_left (by show 0 < 2; omega)]; rfl
    unfold invoke
    simp only [e]
    unfold callMethod
    exact .dead (dead_runtimePanic _)
  | _ => exact .deadB (dead_stuck _)
end Go.Fw
end
