/-
  Part 26 of the common ground of this seat: what single parts show stands ahead of each.
  No condition.
-/
import Derived.Test.YtkmgcggoemlaaaaGreatDoorJ25
import Derived.Deep.Slices
import Derived.Test.YtkmgcggoemlaaaaGreatDoorJ18
import Derived.Test.YtkmgcggoemlaaaaGreatDoorJ13

section
/- The start of a row whose arguments hold slices: what stands in their memory. No condition. -/
set_option linter.unusedSimpArgs false
set_option linter.unusedVariables false
set_option linter.constructorNameAsVariable false
set_option maxRecDepth 100000
namespace Go.Proofs.YtkmgcggoemlaaaaGreatDoor
open Go Go.Fw Go.Conc Go.RowKit Go.Fwm

/-- What a cell of an argument may hold. -/
def CellOk (W : World) (v : Value) : Prop := (∃ k n, v = .int k n) ∨ ∃ a l c, v = .slice a l c ∧ ∀ x, a = some x → (l = 0 ∧ c = 0) ∨ ∃ cs t fr, W.heap[x.block]? = some (.cells cs t fr)
def prv (v : Value) : Value := if isE v then eV else v
theorem prv_int (k : IntKind) (n : Int) : prv (.int k n) = .int k n := rfl
theorem start_row2 {W : World} {f : FuncId} {args : Array Value} {Post : Value → World → Prop} (hg : GV W) (h2 : ∃ c t fr, W.heap[2]? = some (.cells c t fr)) (hb : bodyOk Tryz.prog f = true) (ha : ∀ (i : Nat) x, args[i]? = some x → ArgOk W x)
    (h : ∀ w, w.heap.size = W.heap.size → GV w → (∀ A zs, Bytes W A zs → Bytes w A zs) → (∀ A n, Ints W A n → Ints w A n) → (∀ (i : Nat) x A v, args[i]? = some x → x.ownBlock = some A.block → W.cell? A = some v → CellOk W v → w.cell? A = some (prv v)) →
      CEnds Tryz.prog FN W.heap.size W Post [] [Frame.enter Tryz.prog f args .normal] w) :
    ∃ M last o w' t', runNT Tryz.prog (M + 1) (solo (G (Frame.enter Tryz.prog f args .normal) []) W) #[] = (.ended o w', t') ∧ runN Tryz.prog M (solo (G (Frame.enter Tryz.prog f args .normal) []) W) = .next last ∧
      step Tryz.prog last = .ended o w' ∧ Conc.Good Tryz.prog Post last o w' t' := by
  let S : Nat → Prop := fun b => (∃ (i : Nat) (x : Value), args[i]? = some x ∧ x.ownBlock = some b) ∨ ∃ (i : Nat) (x : Value) (A : Addr) (v : Value), args[i]? = some x ∧ x.ownBlock = some A.block ∧ W.cell? A = some v ∧ CellOk W v ∧ isE v = false ∧ v.ownBlock = some b
  have hS : ∀ b, (b = 0 ∨ b = Tryz.prog.globals.size ∨ S b) → ∃ c t fr, W.heap[b]? = some (.cells c t fr) := by
    rintro b (rfl | rfl | ⟨i, x, h1, h3⟩ | ⟨i, x, A, v, h1, h3, h4, h5, h6, h7⟩)
    · exact cells_of_cell hg
    · rw [glob2]; exact h2
    · rcases ha i x h1 with ⟨k, n, rfl⟩ | ⟨a, l, c, rfl, hc⟩
      · cases h3
      · cases a with
        | none => cases h3
        | some x => cases h3; exact hc x rfl
    · rcases h5 with ⟨k, n, rfl⟩ | ⟨a, l, c, rfl, hc⟩
      · cases h7
      · cases a with
        | none => cases h7
        | some y =>
          cases h7
          rcases hc y rfl with ⟨rfl, rfl⟩ | hc
          · cases h6
          · exact hc
  have h2s : 2 < W.heap.size := by obtain ⟨c, t, fr, e⟩ := h2; exact (Array.getElem?_eq_some_iff.1 e).1
  refine start hS (by rw [glob2]; omega) hb (fun i x hx => ?_) (h _ (pw_size _ _) (pw_cell hg ?_ rfl) (fun A zs hx => pw_bytes hx) (fun A n hx => pw_ints hx) fun i x A v hx ho hv hok => ?_)
  · rcases ha i x hx with ⟨k, n, rfl⟩ | ⟨a, l, c, rfl, hc⟩
    · exact .int _ _
    · cases a with
      | none => exact .slice0 _ _
      | some y => exact .slice _ _ ⟨rn0_f (.inr (.inr (.inl ⟨i, _, hx, rfl⟩))), rfl, rfl⟩
  · refine .iface _ (.agg rfl fun i x X hx hX => ?_)
    rw [hx] at hX
    cases hX
    rcases i with _ | i
    · simp at hx; subst hx
      exact .ptr ⟨rn0_f (.inr (.inl glob2.symm)), rfl, rfl⟩
    · simp at hx
  · rw [pw_cell' hv]
    congr 1
    cases he : isE v with
    | true => unfold prv; rw [he, pvl_E he]; rfl
    | false =>
      unfold prv
      rw [he, pvl_same ?_ he]
      · rfl
      · have hok' := hok
        rcases hok with ⟨k, n, rfl⟩ | ⟨a, l, c, rfl, hc⟩
        · exact .int _ _
        · cases a with
          | none => exact .slice0 _ _
          | some y => exact .slice _ _ ⟨rn0_f (.inr (.inr (.inr ⟨i, x, A, _, hx, ho, hv, hok', he, rfl⟩))), rfl, rfl⟩
/-- A cell that holds bytes. -/
structure CB (w : World) (v : Value) (zs : List UInt8) : Prop where
  ex : ∃ A c, v = .slice A zs.length c ∧ Bytes w A zs ∧ zs.length ≤ c ∧ c ≤ maxLen ∧ (A = none → c = 0) ∧ ∀ a, A = some a → a.block < w.heap.size
end Go.Proofs.YtkmgcggoemlaaaaGreatDoor
end

section
/- Arguments that hold slices: rows of bytes, of pieces, of turns. No condition. -/
set_option linter.unusedSimpArgs false
set_option linter.unusedVariables false
set_option linter.constructorNameAsVariable false
set_option maxRecDepth 100000
namespace Go.Proofs.YtkmgcggoemlaaaaGreatDoor
open Go Go.Fw Go.Conc Go.RowKit Go.Fwm Go.ChangeShapes Go.WideShapes Go.ChangeAt

theorem spot_of_cell {W : World} {a : Addr} {v : Value} (h : W.cell? a = some v) : a.spot = none := by
  unfold World.cell? at h
  split at h
  · split at h
    · cases h
    · rename_i hs
      cases hsp : a.spot with
      | none => rfl
      | some x => rw [hsp] at hs; simp at hs
  · cases h
theorem add_zero_ (a : Addr) : a.add 0 = a := by simp [Addr.add]
theorem add_off (b o i : Nat) : (⟨b, o, none⟩ : Addr).add i = ⟨b, o + i, none⟩ := by unfold Addr.add; split <;> simp_all
/-- Bytes that a cell of an argument holds. -/
structure IB (W : World) (v : Value) (zs : List UInt8) : Prop where
  ex : ∃ A c, v = .slice A zs.length c ∧ Bytes W A zs ∧ zs.length ≤ c ∧ c ≤ maxLen ∧ (A = none → c = 0)
  ok : CellOk W v
theorem ib_of {H : Type} {enc : TypeId × Value → H} {W : World} {fuel : Nat} {cs : List Value} {x : DataW H × List MemPlace} (h : DataW.trod enc Tryz.prog W 0 (fun _ => true) true fuel 22 cs = some x) : ∃ v zs, cs = [v] ∧ IB W v zs := by
  rcases open_ints Tryz.underlying22 Tryz.underlying5 (by kernel_rfl) h with ⟨hcs, _⟩ | ⟨x, l, c, zs, hcs, _, hl, hm, hz, _, hcell, hwz⟩
  · exact ⟨_, [], hcs, ⟨none, 0, rfl, Bytes.nil _ _, Nat.le_refl _, Nat.zero_le _, fun _ => rfl⟩, .inr ⟨none, 0, 0, rfl, fun y e => by cases e⟩⟩
  · simp at hz
    refine ⟨_, (zs.take l).map fun n => UInt8.ofNat n.toNat, hcs, ?_⟩
    have hlen : ((zs.take l).map fun n => UInt8.ofNat n.toNat).length = l := by simp; omega
    rcases Nat.eq_zero_or_pos c with hc0 | hc0
    · obtain rfl : l = 0 := by omega
      subst hc0
      exact ⟨⟨some x, 0, by rw [hlen], by rw [List.take_zero]; exact Bytes.nil _ _, by rw [hlen]; exact Nat.le_refl _, hm, fun e => (by cases e)⟩, .inr ⟨some x, 0, 0, rfl, fun y e => .inl ⟨rfl, rfl⟩⟩⟩
    · have h0 := hcell 0 (by omega)
      rw [add_zero_] at h0
      have hsp := spot_of_cell h0
      have hcl := cells_of_cell h0
      obtain ⟨b, off, spot⟩ := x
      obtain rfl : spot = none := hsp
      refine ⟨⟨_, c, by rw [hlen], fun i hi => ⟨b, off, rfl, ?_⟩, by rw [hlen]; exact hl, hm, fun e => (by cases e)⟩, .inr ⟨_, l, c, rfl, fun y e => by cases e; exact .inr hcl⟩⟩
      simp only [List.length_map, List.length_take] at hi
      have hil : i < zs.length := by omega
      have h1 := hcell i hil
      rw [add_off] at h1
      rw [h1]
      have hw := hwz zs[i] (List.getElem_mem _)
      have hr : 0 ≤ zs[i] ∧ zs[i] ≤ 255 := by
        simp [Lit.wf, IntKind.min, IntKind.max, IntKind.signed, IntKind.bits] at hw
        exact hw
      simp [hil]
      omega
/-- .. in the private world. -/
theorem ib_prv {W w : World} {v : Value} {zs : List UInt8} (h : IB W v zs) (hb : ∀ A zs, Bytes W A zs → Bytes w A zs) (h0 : 0 < W.heap.size) :
    ∃ A c, prv v = .slice A zs.length c ∧ Bytes w A zs ∧ zs.length ≤ c ∧ c ≤ maxLen ∧ (A = none → c = 0) ∧ ∀ x, A = some x → x.block < W.heap.size := by
  obtain ⟨A, c, rfl, h1, h2, h3, h4⟩ := h.ex
  unfold prv
  cases he : isE (.slice A zs.length c) with
  | true =>
    obtain ⟨a, e⟩ := isE_some he
    simp only [Value.slice.injEq] at e
    obtain ⟨rfl, e2, rfl⟩ := e
    have : zs = [] := List.eq_nil_of_length_eq_zero e2
    subst this
    exact ⟨_, 0, rfl, Bytes.nil _ _, Nat.le_refl _, Nat.zero_le _, fun e => (by cases e), fun x e => by cases e; exact h0⟩
  | false =>
    refine ⟨A, c, rfl, hb _ _ h1, h2, h3, h4, fun x e => ?_⟩
    subst e
    rcases h.ok with ⟨k, n, e⟩ | ⟨a, l, c', e, hc⟩
    · cases e
    · cases e
      rcases hc x rfl with ⟨e1, e2⟩ | ⟨cs, t, fr, e1⟩
      · exfalso
        rw [e1, e2] at he
        cases he
      · exact (Array.getElem?_eq_some_iff.1 e1).1
/-- Pieces that came in. -/
structure SP (W : World) (a : Option Addr) (len : Nat) : Prop where
  at_ : ∀ i, i < len → ∃ b o z1 z2 v zs, a = some ⟨b, o, none⟩ ∧ W.cell? ⟨b, o + i * 3, none⟩ = some (.int .i64 z1) ∧ W.cell? ⟨b, o + i * 3 + 1, none⟩ = some (.int .i64 z2) ∧ W.cell? ⟨b, o + i * 3 + 2, none⟩ = some v ∧ IB W v zs ∧
    (-9223372036854775808 ≤ z1 ∧ z1 ≤ 9223372036854775807) ∧ (-9223372036854775808 ≤ z2 ∧ z2 ≤ 9223372036854775807)
  cells : ∀ x, a = some x → ∃ c t fr, W.heap[x.block]? = some (.cells c t fr)
theorem arg50 {H : Type} {enc : TypeId × Value → H} {W : World} {base : Nat} {v : Value} {d : DataW H} {p : List MemPlace} (hv : Value.okWide Tryz.prog W .any base 50 v) (h0 : DataW.Trod enc Tryz.prog W 0 (fun _ => true) true 50 v d p) :
    ∃ a len cap, v = .slice a len cap ∧ SP W a len := by
  obtain ⟨a, len, cap, rfl⟩ := okWide_slice Tryz.underlying50 hv
  obtain ⟨fuel, hf⟩ := h0
  rcases Deep.open_slice Tryz.underlying50 hf with ⟨hcs, _⟩ | ⟨x, l, c, m, n, D, Pl, hcs, _, hl, hm, hmm, _, hat⟩
  · simp [Value.cells] at hcs
    obtain ⟨rfl, rfl, rfl⟩ := hcs
    exact ⟨none, 0, 0, rfl, fun i hi => absurd hi (Nat.not_lt_zero _), fun x e => by cases e⟩
  · simp [Value.cells] at hcs
    obtain ⟨rfl, rfl, rfl⟩ := hcs
    obtain ⟨_, hsp, hc⟩ := has_of Tryz.underlying50 hv
    obtain ⟨b, off, spot⟩ := x
    obtain rfl : spot = none := hsp
    have hC : Tryz.prog.cellsOf 52 = 3 := by kernel_rfl
    have hmm' : m = cap := by rw [hmm]; rfl
    refine ⟨_, len, cap, rfl, fun i hi => ?_, fun x e => by cases e; exact hc⟩
    obtain ⟨cs', hcells, ht⟩ := hat i (by omega)
    rw [hC] at hcells
    obtain ⟨_, hlen, hcell⟩ := World.cells?_some hcells
    obtain ⟨xs, n', _, _, _, hxl, hfi⟩ := DataW.trod_struct Tryz.underlying52 ht
    have c3 : Tryz.prog.cellsOf 3 = 1 := by kernel_rfl
    have c22 : Tryz.prog.cellsOf 22 = 1 := by kernel_rfl
    have f0 : DataW.trod enc Tryz.prog W 0 (fun _ => true) true n' 3 ((cs'.drop 0).take (Tryz.prog.cellsOf 3)) = xs[0]? := hfi 0 _ rfl
    have f1 : DataW.trod enc Tryz.prog W 0 (fun _ => true) true n' 3 ((cs'.drop 1).take (Tryz.prog.cellsOf 3)) = xs[1]? := hfi 1 _ rfl
    have f2 : DataW.trod enc Tryz.prog W 0 (fun _ => true) true n' 22 ((cs'.drop 2).take (Tryz.prog.cellsOf 22)) = xs[2]? := hfi 2 _ rfl
    rw [c3] at f0 f1
    rw [c22] at f2
    match cs', hlen, xs, hxl with
    | [u0, u1, u2], _, [x0, x1, x2], _ =>
      have g0 := hcell 0 (by omega)
      have g1 := hcell 1 (by omega)
      have g2 := hcell 2 (by omega)
      rw [add_off, add_off] at g0 g1 g2
      simp at g0 g1 g2 f0 f1 f2
      obtain ⟨z1, e1, _, w1⟩ := DataW.trod_int Tryz.underlying3 f0
      obtain ⟨z2, e2, _, w2⟩ := DataW.trod_int Tryz.underlying3 f1
      obtain ⟨v3, zs, e3, hib⟩ := ib_of f2
      simp at e1 e2 e3
      subst e1 e2 e3
      exact ⟨b, off, z1, z2, _, zs, rfl, g0, g1, g2, hib, bounds_i64 w1, bounds_i64 w2⟩
/-- .. in the private world. -/
def PcR (w : World) (a : Option Addr) (len : Nat) : Prop := ∀ i, i < len → ∃ b o z1 z2 A c zs, a = some ⟨b, o, none⟩ ∧ w.cell? ⟨b, o + i * 3, none⟩ = some (.int .i64 z1) ∧ w.cell? ⟨b, o + i * 3 + 1, none⟩ = some (.int .i64 z2) ∧
  w.cell? ⟨b, o + i * 3 + 2, none⟩ = some (.slice A (List.length (α := UInt8) zs) c) ∧ Bytes w A zs ∧ (-9223372036854775808 ≤ z1 ∧ z1 ≤ 9223372036854775807) ∧ (-9223372036854775808 ≤ z2 ∧ z2 ≤ 9223372036854775807)
theorem SP.prv {W w : World} {a : Option Addr} {len : Nat} (h : SP W a len) (hb : ∀ A zs, Bytes W A zs → Bytes w A zs) (h0 : 0 < W.heap.size) (hc : ∀ A v, (∃ x, a = some x ∧ x.block = A.block) → W.cell? A = some v → CellOk W v → w.cell? A = some (prv v)) : PcR w a len := by
  intro i hi
  obtain ⟨b, o, z1, z2, v, zs, ha, g0, g1, g2, hib, r1, r2⟩ := h.at_ i hi
  obtain ⟨A, c, e, hB, _, _, _, _⟩ := ib_prv hib hb h0
  refine ⟨b, o, z1, z2, A, c, zs, ha, hc ⟨b, o + i * 3, none⟩ _ ⟨_, ha, rfl⟩ g0 (.inl ⟨_, _, rfl⟩), hc ⟨b, o + i * 3 + 1, none⟩ _ ⟨_, ha, rfl⟩ g1 (.inl ⟨_, _, rfl⟩), ?_, hB, r1, r2⟩
  rw [hc ⟨b, o + i * 3 + 2, none⟩ _ ⟨_, ha, rfl⟩ g2 hib.ok, e]
theorem PcR.keep {w w' : World} {a : Option Addr} {len : Nat} (h : PcR w a len) (e : ∀ b, b < w.heap.size → w'.heap[b]? = w.heap[b]?) : PcR w' a len := by
  intro i hi
  obtain ⟨b, o, z1, z2, A, c, zs, ha, g0, g1, g2, hB, r1, r2⟩ := h i hi
  have hb := e b (block_lt_of_cell (a := ⟨b, o + i * 3, none⟩) g0)
  exact ⟨b, o, z1, z2, A, c, zs, ha, (World.cell?_of_block (a := ⟨b, _, none⟩) hb).trans g0, (World.cell?_of_block (a := ⟨b, _, none⟩) hb).trans g1, (World.cell?_of_block (a := ⟨b, _, none⟩) hb).trans g2, hB.keep fun a' _ hlt => e _ hlt, r1, r2⟩
end Go.Proofs.YtkmgcggoemlaaaaGreatDoor
end

section
/- Arguments that are rows of bytes, and turns. No condition. -/
set_option linter.unusedSimpArgs false
set_option linter.unusedVariables false
set_option linter.constructorNameAsVariable false
set_option maxRecDepth 100000
namespace Go.Proofs.YtkmgcggoemlaaaaGreatDoor
open Go Go.Fw Go.Conc Go.RowKit Go.Fwm Go.ChangeShapes Go.WideShapes Go.ChangeAt

/-- Rows of bytes that came in. -/
structure SB2 (W : World) (a : Option Addr) (len : Nat) : Prop where
  at_ : ∀ i, i < len → ∃ b o v zs, a = some ⟨b, o, none⟩ ∧ W.cell? ⟨b, o + i, none⟩ = some v ∧ IB W v zs
  cells : ∀ x, a = some x → ∃ c t fr, W.heap[x.block]? = some (.cells c t fr)
theorem arg59 {H : Type} {enc : TypeId × Value → H} {W : World} {base : Nat} {v : Value} {d : DataW H} {p : List MemPlace} (hv : Value.okWide Tryz.prog W .any base 59 v) (h0 : DataW.Trod enc Tryz.prog W 0 (fun _ => true) true 59 v d p) :
    ∃ a len cap, v = .slice a len cap ∧ SB2 W a len := by
  obtain ⟨a, len, cap, rfl⟩ := okWide_slice Tryz.underlying59 hv
  obtain ⟨fuel, hf⟩ := h0
  rcases Deep.open_slice Tryz.underlying59 hf with ⟨hcs, _⟩ | ⟨x, l, c, m, n, D, Pl, hcs, _, hl, hm, hmm, _, hat⟩
  · simp [Value.cells] at hcs
    obtain ⟨rfl, rfl, rfl⟩ := hcs
    exact ⟨none, 0, 0, rfl, fun i hi => absurd hi (Nat.not_lt_zero _), fun x e => by cases e⟩
  · simp [Value.cells] at hcs
    obtain ⟨rfl, rfl, rfl⟩ := hcs
    obtain ⟨_, hsp, hc⟩ := has_of Tryz.underlying59 hv
    obtain ⟨b, off, spot⟩ := x
    obtain rfl : spot = none := hsp
    have hC : Tryz.prog.cellsOf 22 = 1 := by kernel_rfl
    have hmm' : m = cap := by rw [hmm]; rfl
    refine ⟨_, len, cap, rfl, fun i hi => ?_, fun x e => by cases e; exact hc⟩
    obtain ⟨cs', hcells, ht⟩ := hat i (by omega)
    rw [hC] at hcells
    obtain ⟨_, hlen, hcell⟩ := World.cells?_some hcells
    obtain ⟨u, zs, rfl, hib⟩ := ib_of ht
    have g0 := hcell 0 (by omega)
    rw [add_off, add_off] at g0
    simp at g0
    exact ⟨b, off, u, zs, rfl, g0, hib⟩
/-- .. in the private world. -/
def BbR (w : World) (a : Option Addr) (len : Nat) (zss : Nat → List UInt8) : Prop := ∀ i, i < len → ∃ b o A c, a = some ⟨b, o, none⟩ ∧ w.cell? ⟨b, o + i, none⟩ = some (.slice A (zss i).length c) ∧ Bytes w A (zss i) ∧ (zss i).length ≤ c ∧ c ≤ maxLen ∧ (A = none → c = 0) ∧ ∀ x, A = some x → x.block < w.heap.size
theorem SB2.prv {W w : World} {a : Option Addr} {len : Nat} (h : SB2 W a len) (hb : ∀ A zs, Bytes W A zs → Bytes w A zs) (h0 : 0 < W.heap.size) (hs : w.heap.size = W.heap.size) (hc : ∀ A v, (∃ x, a = some x ∧ x.block = A.block) → W.cell? A = some v → CellOk W v → w.cell? A = some (prv v)) : ∃ zss, BbR w a len zss := by
  have key : ∀ i, ∃ zs : List UInt8, i < len → ∃ b o A c, a = some ⟨b, o, none⟩ ∧ w.cell? ⟨b, o + i, none⟩ = some (.slice A zs.length c) ∧ Bytes w A zs ∧ zs.length ≤ c ∧ c ≤ maxLen ∧ (A = none → c = 0) ∧ ∀ x, A = some x → x.block < w.heap.size := fun i => by
    by_cases hi : i < len
    · obtain ⟨b, o, v, zs, ha, g0, hib⟩ := h.at_ i hi
      obtain ⟨A, c, e, hB, h1, h2, h3, h4⟩ := ib_prv hib hb h0
      exact ⟨zs, fun _ => ⟨b, o, A, c, ha, by rw [hc ⟨b, o + i, none⟩ _ ⟨_, ha, rfl⟩ g0 hib.ok, e], hB, h1, h2, h3, by rw [hs]; exact h4⟩⟩
    · exact ⟨[], fun x => absurd x hi⟩
  exact ⟨fun i => Classical.choose (key i), fun i hi => Classical.choose_spec (key i) hi⟩
theorem BbR.keep {w w' : World} {a : Option Addr} {len : Nat} {zss : Nat → List UInt8} (h : BbR w a len zss) (hs : w.heap.size ≤ w'.heap.size) (e : ∀ b, b < w.heap.size → w'.heap[b]? = w.heap[b]?) : BbR w' a len zss := by
  intro i hi
  obtain ⟨b, o, A, c, ha, g0, hB, h1, h2, h3, h4⟩ := h i hi
  have hb := e b (block_lt_of_cell (a := ⟨b, o + i, none⟩) g0)
  exact ⟨b, o, A, c, ha, (World.cell?_of_block (a := ⟨b, _, none⟩) hb).trans g0, hB.keep fun a' _ hlt => e _ hlt, h1, h2, h3, fun x hx => Nat.lt_of_lt_of_le (h4 x hx) hs⟩

/-- Turns that came in. -/
def TnR (w : World) (a : Option Addr) (len : Nat) : Prop := ∀ i, i < len → ∃ b o z1 z2, a = some ⟨b, o, none⟩ ∧ w.cell? ⟨b, o + i * 2, none⟩ = some (.int .i64 z1) ∧ w.cell? ⟨b, o + i * 2 + 1, none⟩ = some (.int .i64 z2) ∧ (-9223372036854775808 ≤ z1 ∧ z1 ≤ 9223372036854775807) ∧ (-9223372036854775808 ≤ z2 ∧ z2 ≤ 9223372036854775807)
structure ST (W : World) (a : Option Addr) (len : Nat) : Prop where
  at_ : TnR W a len
  cells : ∀ x, a = some x → ∃ c t fr, W.heap[x.block]? = some (.cells c t fr)
theorem arg60 {H : Type} {enc : TypeId × Value → H} {W : World} {base : Nat} {v : Value} {d : DataW H} {p : List MemPlace} (hv : Value.okWide Tryz.prog W .any base 60 v) (h0 : DataW.Trod enc Tryz.prog W 0 (fun _ => true) true 60 v d p) :
    ∃ a len cap, v = .slice a len cap ∧ ST W a len := by
  obtain ⟨a, len, cap, rfl⟩ := okWide_slice Tryz.underlying60 hv
  obtain ⟨fuel, hf⟩ := h0
  rcases Deep.open_slice Tryz.underlying60 hf with ⟨hcs, _⟩ | ⟨x, l, c, m, n, D, Pl, hcs, _, hl, hm, hmm, _, hat⟩
  · simp [Value.cells] at hcs
    obtain ⟨rfl, rfl, rfl⟩ := hcs
    exact ⟨none, 0, 0, rfl, fun i hi => absurd hi (Nat.not_lt_zero _), fun x e => by cases e⟩
  · simp [Value.cells] at hcs
    obtain ⟨rfl, rfl, rfl⟩ := hcs
    obtain ⟨_, hsp, hc⟩ := has_of Tryz.underlying60 hv
    obtain ⟨b, off, spot⟩ := x
    obtain rfl : spot = none := hsp
    have hC : Tryz.prog.cellsOf 67 = 2 := by kernel_rfl
    have hmm' : m = cap := by rw [hmm]; rfl
    refine ⟨_, len, cap, rfl, fun i hi => ?_, fun x e => by cases e; exact hc⟩
    obtain ⟨cs', hcells, ht⟩ := hat i (by omega)
    rw [hC] at hcells
    obtain ⟨_, hlen, hcell⟩ := World.cells?_some hcells
    obtain ⟨xs, n', _, _, _, hxl, hfi⟩ := DataW.trod_struct Tryz.underlying67 ht
    have c3 : Tryz.prog.cellsOf 3 = 1 := by kernel_rfl
    have f0 : DataW.trod enc Tryz.prog W 0 (fun _ => true) true n' 3 ((cs'.drop 0).take (Tryz.prog.cellsOf 3)) = xs[0]? := hfi 0 _ rfl
    have f1 : DataW.trod enc Tryz.prog W 0 (fun _ => true) true n' 3 ((cs'.drop 1).take (Tryz.prog.cellsOf 3)) = xs[1]? := hfi 1 _ rfl
    rw [c3] at f0 f1
    match cs', hlen, xs, hxl with
    | [u0, u1], _, [x0, x1], _ =>
      have g0 := hcell 0 (by omega)
      have g1 := hcell 1 (by omega)
      rw [add_off, add_off] at g0 g1
      simp at g0 g1 f0 f1
      obtain ⟨z1, e1, _, w1⟩ := DataW.trod_int Tryz.underlying3 f0
      obtain ⟨z2, e2, _, w2⟩ := DataW.trod_int Tryz.underlying3 f1
      simp at e1 e2
      subst e1 e2
      exact ⟨b, off, z1, z2, rfl, g0, g1, bounds_i64 w1, bounds_i64 w2⟩
theorem ST.prv {W w : World} {a : Option Addr} {len : Nat} (h : ST W a len) (hb : ∀ A zs, Bytes W A zs → Bytes w A zs) (h0 : 0 < W.heap.size) (hc : ∀ A v, (∃ x, a = some x ∧ x.block = A.block) → W.cell? A = some v → CellOk W v → w.cell? A = some (prv v)) : TnR w a len := by
  intro i hi
  obtain ⟨b, o, z1, z2, ha, g0, g1, r1, r2⟩ := h.at_ i hi
  exact ⟨b, o, z1, z2, ha, hc ⟨b, o + i * 2, none⟩ _ ⟨_, ha, rfl⟩ g0 (.inl ⟨_, _, rfl⟩), hc ⟨b, o + i * 2 + 1, none⟩ _ ⟨_, ha, rfl⟩ g1 (.inl ⟨_, _, rfl⟩), r1, r2⟩
theorem TnR.keep {w w' : World} {a : Option Addr} {len : Nat} (h : TnR w a len) (e : ∀ b, b < w.heap.size → w'.heap[b]? = w.heap[b]?) : TnR w' a len := by
  intro i hi
  obtain ⟨b, o, z1, z2, ha, g0, g1, r1, r2⟩ := h i hi
  have hb := e b (block_lt_of_cell (a := ⟨b, o + i * 2, none⟩) g0)
  exact ⟨b, o, z1, z2, ha, (World.cell?_of_block (a := ⟨b, _, none⟩) hb).trans g0, (World.cell?_of_block (a := ⟨b, _, none⟩) hb).trans g1, r1, r2⟩
end Go.Proofs.YtkmgcggoemlaaaaGreatDoor
end

section
/- Several appliers beside each other. No condition. -/
set_option linter.unusedSimpArgs false
set_option linter.unusedVariables false
namespace Go.Proofs.YtkmgcggoemlaaaaGreatDoor
open Go.RowKit Go.Fwm

section
variable {w w' w'' : World} {G G' : Nat → Prop} {pa pf bf be be' : Nat} {a : Ap} {f : Fl}
/-- Other memory has turned, and more memory is others'. -/
theorem ARep.move (h : ARep w G pa pf bf be a f) {F : Nat → Prop} (hb : Only F w w') (hF : ∀ b, F b → b < w.heap.size → G b) (hG : ∀ b, b < w.heap.size → G' b → G b) (hlt : ∀ b, G' b → b < w'.heap.size) : ARep w' G' pa pf bf be a f := by
  obtain ⟨vf, A, c, h1, h2, h3, h4, h5, h6⟩ := h.blk
  have hfl := h.fl.wider (X' := PX pa G') fun b hb x => x.imp id (hG b hb)
  obtain ⟨_, _, _, _, g1, _⟩ := h.fl.blk
  have hAF : ∀ b, b < w.heap.size → AF_ (PX pa G') pf bf be b → AF_ (PX pa G) pf bf be b := fun b hb x => x.imp (fun y => y.imp id (hG b hb)) id
  have hk := h.only hb hF
  have hfl2 : FRep w' (PX pa G) pf bf be f := hk.fl
  have hfl3 : FRep w' (PX pa G') pf bf be f := by
    obtain ⟨ao, co, cf, ve, q1, q2, q3, q4, q5⟩ := h.fl.blk
    obtain ⟨ao', co', cf', ve', r1, r2, r3, r4, r5⟩ := hfl2.blk
    have q1' : Blk w' pf 76 (flCells f ao co bf cf ve) := q1.only hb fun x => h.ng.2.1 (hF _ x q1.lt)
    have e : ao' = ao := by
      have z1 := r1.cell (i := 0) (v := .slice ao' f.old.length co') rfl
      have z2 := q1'.cell (i := 0) (v := .slice ao f.old.length co) rfl
      rw [z1] at z2
      simp at z2
      exact z2.1
    subst e
    exact { hfl2 with blk := ⟨ao', co', cf', ve', r1, r2, fun x hx y => q3 x hx (hAF _ (q4 x hx) y), r4, r5⟩ }
  refine ⟨⟨vf, A, c, h1.only hb fun x => h.ng.1 (hF _ x h1.lt), ?_, h3.only hb fun x hx y => h4 x hx (.inl (.inr (hF _ y (h5 x hx)))), fun x hx y => h4 x hx (hAF _ (h5 x hx) y), fun x hx => Nat.lt_of_lt_of_le (h5 x hx) hb.le, h6⟩, hfl3, h.ne, ⟨fun x => h.ng.1 (hG _ h1.lt x), fun x => h.ng.2.1 (hG _ g1.lt x), fun x => h.ng.2.2.1 (hG _ h.fl.fresh.lt x), fun x => h.ng.2.2.2 (hG _ h.fl.belt x)⟩, hlt, h.inv⟩
  cases hf : a.fault with
  | none => rw [hf] at h2; exact h2
  | errno n => rw [hf] at h2; exact h2
  | wrapped n =>
    rw [hf] at h2
    obtain ⟨b, at_, q1, q2, q3⟩ := h2
    exact ⟨b, at_, q1, fun x => q2 (hAF _ q3.lt x), q3.only hb fun x => q2 (.inl (.inr (hF _ x q3.lt)))⟩
end
/-- One applier of several, and its flash. -/
structure Cr where
  pa : Nat
  pf : Nat
  bf : Nat
  be : Nat
  x : AF
def Cr.ao (c : Cr) : Nat → Prop := AO c.pa c.pf c.bf c.be
/-- What is not c k's. -/
def Oth (R : Nat → Prop) (n : Nat) (c : Nat → Cr) (k : Nat) (b : Nat) : Prop := R b ∨ ∃ j, j < n ∧ j ≠ k ∧ (c j).ao b
/-- n appliers, beside each other and beside R. -/
structure Crew (w : World) (R : Nat → Prop) (n : Nat) (c : Nat → Cr) : Prop where
  rep : ∀ k, k < n → ARep w (Oth R n c k) (c k).pa (c k).pf (c k).bf (c k).be (c k).x.a (c k).x.f
def upC (c : Nat → Cr) (k : Nat) (d : Cr) : Nat → Cr := fun j => if j = k then d else c j
@[simp] theorem upC_same (c : Nat → Cr) (k : Nat) (d : Cr) : upC c k d k = d := if_pos rfl
theorem upC_ne (c : Nat → Cr) {k j : Nat} (d : Cr) (h : j ≠ k) : upC c k d j = c j := if_neg h
section
variable {w w' : World} {R R' : Nat → Prop} {n : Nat} {c : Nat → Cr}
theorem ARep.aolt {G : Nat → Prop} {pa pf bf be : Nat} {a : Ap} {f : Fl} (h : ARep w G pa pf bf be a f) (b : Nat) (hb : AO pa pf bf be b) : b < w.heap.size := by
  obtain ⟨vf, A, c, h1, _⟩ := h.blk
  rcases hb with rfl | rfl | rfl | rfl
  · exact h1.lt
  · obtain ⟨_, _, _, _, g1, _⟩ := h.fl.blk; exact g1.lt
  · exact h.fl.fresh.lt
  · exact h.fl.belt
theorem Crew.lt (h : Crew w R n c) {k : Nat} (hk : k < n) (b : Nat) (hb : (c k).ao b) : b < w.heap.size := (h.rep k hk).aolt b hb
/-- Other memory has turned. -/
theorem Crew.only (h : Crew w R n c) {F : Nat → Prop} (ho : Only F w w') (hF : ∀ b, F b → b < w.heap.size → R b) : Crew w' R n c :=
  ⟨fun k hk => (h.rep k hk).only ho fun b x hb => .inl (hF b x hb)⟩
/-- .. and R has grown. -/
theorem Crew.move (h : Crew w R n c) {F : Nat → Prop} (ho : Only F w w') (hF : ∀ b, F b → b < w.heap.size → R b) (hR : ∀ b, b < w.heap.size → R' b → R b) (hlt : ∀ b, R' b → b < w'.heap.size) : Crew w' R' n c :=
  ⟨fun k hk => (h.rep k hk).move ho (fun b x hb => .inl (hF b x hb)) (fun b hb x => x.imp (hR b hb) id) fun b x => x.elim (hlt b) fun ⟨j, hj, _, hb⟩ => Nat.lt_of_lt_of_le (h.lt hj b hb) ho.le⟩
/-- A call on one of them. -/
theorem Crew.step (h : Crew w R n c) {k : Nat} (hk : k < n) {y : AF} {be' : Nat} (ha : AAt w (Oth R n c k) (c k).pa (c k).pf (c k).bf (c k).be y.a y.f w' be') : Crew w' R n (upC c k { c k with be := be', x := y }) := by
  refine ⟨fun j hj => ?_⟩
  by_cases e : j = k
  · subst e
    rw [upC_same]
    refine ha.rep.give fun b x => x.imp id fun ⟨i, hi, hne, hb⟩ => ⟨i, hi, hne, ?_⟩
    rwa [upC_ne _ _ hne] at hb
  · rw [upC_ne _ _ e]
    refine (h.rep j hj).move ha.on (fun b x _ => .inr ⟨k, hk, fun z => e z.symm, x⟩) (fun b hb x => ?_) fun b x => ?_
    · refine x.imp id fun ⟨i, hi, hne, hx⟩ => ⟨i, hi, hne, ?_⟩
      by_cases ei : i = k
      · subst ei
        rw [upC_same] at hx
        rcases hx with x | x | x | x
        · exact .inl x
        · exact .inr (.inl x)
        · exact .inr (.inr (.inl x))
        · rcases ha.bq with y | y
          · exact .inr (.inr (.inr (x.trans y)))
          · have : b = be' := x
            omega
      · rwa [upC_ne _ _ ei] at hx
    · rcases x with x | ⟨i, hi, hne, hx⟩
      · exact ha.rep.glt b (.inl x)
      · by_cases ei : i = k
        · subst ei
          rw [upC_same] at hx
          exact ha.rep.aolt b hx
        · rw [upC_ne _ _ ei] at hx
          exact Nat.lt_of_lt_of_le (h.lt hi b hx) ha.on.le
/-- One more. -/
theorem Crew.join (h : Crew w R n c) {F : Nat → Prop} {d : Cr} (ho : Only F w w') (hF : ∀ b, F b → b < w.heap.size → R b) (hR' : ∀ b, b < w.heap.size → R' b → R b) (hR : ∀ b, R' b → b < w'.heap.size) (hd : ARep w' (fun b => R' b ∨ ∃ j, j < n ∧ (c j).ao b) d.pa d.pf d.bf d.be d.x.a d.x.f) (hn : ∀ b, d.ao b → w.heap.size ≤ b) : Crew w' R' (n + 1) (upC c n d) := by
  refine ⟨fun j hj => ?_⟩
  by_cases e : j = n
  · subst e
    rw [upC_same]
    refine hd.give fun b x => x.imp id fun ⟨i, hi, hne, hb⟩ => ⟨i, by omega, ?_⟩
    rwa [upC_ne _ _ hne] at hb
  · have hj' : j < n := by omega
    rw [upC_ne _ _ e]
    refine (h.rep j hj').move ho (fun b x hb => .inl (hF b x hb)) (fun b hb x => ?_) fun b x => ?_
    · refine x.imp (hR' b hb) fun ⟨i, hi, hne, hx⟩ => ?_
      by_cases ei : i = n
      · subst ei
        rw [upC_same] at hx
        have := hn b hx
        omega
      · rw [upC_ne _ _ ei] at hx
        exact ⟨i, by omega, hne, hx⟩
    · rcases x with x | ⟨i, hi, hne, hx⟩
      · exact hR b x
      · by_cases ei : i = n
        · subst ei
          rw [upC_same] at hx
          exact hd.aolt b hx
        · rw [upC_ne _ _ ei] at hx
          exact Nat.lt_of_lt_of_le (h.lt (by omega) b hx) ho.le
theorem Crew.nil (w : World) (R : Nat → Prop) (c : Nat → Cr) : Crew w R 0 c := ⟨fun k hk => absurd hk (Nat.not_lt_zero _)⟩
end
end Go.Proofs.YtkmgcggoemlaaaaGreatDoor
end

section
/- Rows of a law's own, beside each other. No condition. -/
set_option linter.unusedSimpArgs false
set_option linter.unusedVariables false
namespace Go.Proofs.YtkmgcggoemlaaaaGreatDoor
open Go.RowKit Go.Fwm

theorem ownsRow_keep {w w' : World} {base : Nat} {e : TypeId} {size : Nat} {v : Value} {n : Nat} {xs : List Value} (h : w.ownsRow base e size v n xs) (k : ∀ b, v.ownBlock = some b → b < w.heap.size → w'.heap[b]? = w.heap[b]?) : w'.ownsRow base e size v n xs := by
  refine ⟨h.1, ?_⟩
  rcases h.2 with x | ⟨g, cap, cur, rfl, h1, h2, h3⟩
  · exact .inl x
  · refine .inr ⟨g, cap, cur, rfl, h1, (k g rfl ?_).trans h2, h3⟩
    have := (Array.getElem?_eq_some_iff.1 h2).1
    exact this
def upX {α : Type} (c : Nat → α) (k : Nat) (d : α) : Nat → α := fun j => if j = k then d else c j
@[simp] theorem upX_same {α : Type} (c : Nat → α) (k : Nat) (d : α) : upX c k d k = d := if_pos rfl
theorem upX_ne {α : Type} (c : Nat → α) {k j : Nat} (d : α) (h : j ≠ k) : upX c k d j = c j := if_neg h
/-- m rows, of cells of one value each; their blocks are among L's. -/
structure Rws (w : World) (L : List Nat) (m : Nat) (E : Nat → TypeId) (V : Nat → Value) (X : Nat → List Value) : Prop where
  own : ∀ i, i < m → w.ownsRow 0 (E i) 1 (V i) (X i).length (X i)
  ne : ∀ i j, i < m → j < m → i ≠ j → ∀ b, (V i).ownBlock = some b → (V j).ownBlock ≠ some b
  inL : ∀ i, i < m → ∀ b, (V i).ownBlock = some b → b ∈ L
section
variable {w w' : World} {L L' : List Nat} {m : Nat} {E : Nat → TypeId} {V : Nat → Value} {X : Nat → List Value}
theorem Rws.nil (w : World) (m : Nat) (E : Nat → TypeId) : Rws w [] m E (fun _ => .slice none 0 0) (fun _ => []) :=
  ⟨fun i _ => World.ownsRow_nil _ _ _ _, fun i j _ _ _ b h => by simp [Value.ownBlock] at h, fun i _ b h => by simp [Value.ownBlock] at h⟩
theorem Rws.only (h : Rws w L m E V X) {F : Nat → Prop} (ho : Only F w w') (hF : ∀ b, F b → b < w.heap.size → b ∉ L) : Rws w' L m E V X :=
  ⟨fun i hi => ownsRow_keep (h.own i hi) fun b hb hlt => ho.keep b hlt fun x => hF b x hlt (h.inL i hi b hb), h.ne, h.inL⟩
theorem Rws.more (h : Rws w L m E V X) (hL : ∀ b, b ∈ L → b ∈ L') : Rws w L' m E V X := ⟨h.own, h.ne, fun i hi b hb => hL b (h.inL i hi b hb)⟩
/-- An append to row i. -/
theorem Rws.push (h : Rws w L m E V X) {i : Nat} (hi : i < m) {y v' : Value} (h1 : w'.ownsRow 0 (E i) 1 v' ((X i).length + 1) (X i ++ [y])) (h2 : w.grownBy w' (V i).ownBlock) (h3 : ∀ k, v'.ownBlock = some k → (V i).ownBlock = some k ∨ w.heap.size ≤ k) (hlt : ∀ b, b ∈ L → b < w.heap.size) :
    ∃ L', Rws w' L' m E (upX V i v') (upX X i (X i ++ [y])) ∧ (∀ b, b ∈ L → b ∈ L') ∧ (∀ b, b ∈ L' → b ∈ L ∨ w.heap.size ≤ b) ∧ (∀ b, b ∈ L' → b < w'.heap.size) ∧ Only (fun b => b ∈ L) w w' := by
  have ho : Only (fun b => b ∈ L) w w' := ⟨h2.size, fun b hb hn => h2.block b hb fun e => hn (h.inL i hi b e.symm)⟩
  refine ⟨v'.ownBlock.toList ++ L, ⟨fun j hj => ?_, fun j k hj hk hne b hb => ?_, fun j hj b hb => ?_⟩, fun b hb => List.mem_append_right _ hb, fun b hb => ?_, fun b hb => ?_, ho⟩
  · by_cases e : j = i
    · subst e
      rw [upX_same, upX_same]
      simpa using h1
    · rw [upX_ne _ _ e, upX_ne _ _ e]
      exact ownsRow_keep (h.own j hj) fun b hb hlt => h2.block b hlt fun x => h.ne j i hj hi e b hb x.symm
  · by_cases ej : j = i
    · subst ej
      rw [upX_same] at hb
      rw [upX_ne _ _ (fun e => hne e.symm)]
      rcases h3 b hb with x | x
      · exact h.ne j k hj hk hne b x
      · intro hb'
        have := hlt b (h.inL k hk b hb')
        omega
    · rw [upX_ne _ _ ej] at hb
      by_cases ek : k = i
      · subst ek
        rw [upX_same]
        intro hb'
        rcases h3 b hb' with x | x
        · exact h.ne j k hj hk hne b hb x
        · have := hlt b (h.inL j hj b hb)
          omega
      · rw [upX_ne _ _ ek]
        exact h.ne j k hj hk hne b hb
  · by_cases e : j = i
    · subst e
      rw [upX_same] at hb
      simp [hb]
    · rw [upX_ne _ _ e] at hb
      exact List.mem_append_right _ (h.inL j hj b hb)
  · rcases List.mem_append.1 hb with x | x
    · have hx : v'.ownBlock = some b := by simpa using x
      exact (h3 b hx).imp (fun e => h.inL i hi b e) id
    · exact .inl x
  · rcases List.mem_append.1 hb with x | x
    · have hx : v'.ownBlock = some b := by simpa using x
      exact (h1.lt b hx).2
    · exact Nat.lt_of_lt_of_le (hlt b x) h2.size
/-- Where row i lies. -/
theorem Rws.slice (h : Rws w L m E V X) {i : Nat} (hi : i < m) (hn : 0 < (X i).length) : ∃ g cap, V i = .slice (some ⟨g, 0, none⟩) (X i).length cap ∧ g ∈ L ∧ (X i).length ≤ cap ∧ cap ≤ maxLen ∧ (∀ j, j < (X i).length → w.cell? ⟨g, j, none⟩ = (X i)[j]?) ∧ ∀ j, w.frozen? ⟨g, j, none⟩ = false := by
  have ho := h.own i hi
  rcases ho.2 with ⟨_, e⟩ | ⟨g, cap, cur, e, h1, h2, h3, h4, _⟩
  · omega
  · have hm := h.inL i hi g (by rw [e]; rfl)
    rw [e] at ho
    exact ⟨g, cap, e, hm, h3, h4, fun j hj => ho.cellAt j (by omega), ho.frozenAt⟩
/-- A store into row i. -/
theorem Rws.set (h : Rws w L m E V X) {i : Nat} (hi : i < m) {g cap : Nat} (hv : V i = .slice (some ⟨g, 0, none⟩) (X i).length cap) (j : Nat) (u : Value) : Rws (w.setCell ⟨g, j, none⟩ u) L m E V (upX X i ((X i).set j u)) ∧ Only (fun b => b ∈ L) w (w.setCell ⟨g, j, none⟩ u) := by
  have hg : g ∈ L := h.inL i hi g (by rw [hv]; rfl)
  refine ⟨⟨fun k hk => ?_, h.ne, h.inL⟩, (Only.refl _ _).set _ (.inl hg)⟩
  by_cases e : k = i
  · subst e
    rw [upX_same]
    have := h.own k hk
    rw [hv] at this ⊢
    simpa using (this.stored j u).1
  · rw [upX_ne _ _ e]
    refine ownsRow_keep (h.own k hk) fun b hb _ => Below.heap_setCell w ⟨g, j, none⟩ u b fun x => ?_
    have x' : b = g := x
    subst x'
    exact h.ne k i hk hi e b hb (by rw [hv]; rfl)
end
end Go.Proofs.YtkmgcggoemlaaaaGreatDoor
end

section
/- The law Turns: what lies there between two turns. No condition. -/
set_option linter.unusedSimpArgs false
set_option linter.unusedVariables false
namespace Go.Proofs.YtkmgcggoemlaaaaGreatDoor
open Go Go.Fw Go.Conc Go.RowKit Go.Fwm

/-- What is left of a patch. -/
def Pz (w : World) (L : List Nat) (v : Value) (zs : List UInt8) : Prop :=
  ∃ A cp, v = .slice A zs.length cp ∧ Bytes w A zs ∧ zs.length ≤ cp ∧ cp ≤ maxLen ∧ (A = none → cp = 0) ∧ ∀ a, A = some a → a.spot = none ∧ a.block ∈ L
/-- An image that came in. -/
def Iz (w : World) (v : Value) (zs : List UInt8) : Prop :=
  ∃ A cp, v = .slice A zs.length cp ∧ Bytes w A zs ∧ zs.length ≤ cp ∧ cp ≤ maxLen ∧ (A = none → cp = 0) ∧ ∀ a, A = some a → a.block < w.heap.size
def Et : Nat → TypeId
  | 0 => 34 | 1 => 64 | 2 => 22 | 3 => 4 | _ => 22
noncomputable def PP (old new : Nat → List UInt8) (j : Nat) : List UInt8 := patchG (lgOf (old j)) (old j) (new j)
/-- The law's own memory: behind the arguments. -/
def Rl (w0 : World) (L M : List Nat) (b : Nat) : Prop := b < w0.heap.size ∨ b ∈ L ∨ b ∈ M
structure Tu (w0 w : World) (L M : List Nat) (n : Nat) (V : Nat → Value) (X : Nat → List Value) (c : Nat → Cr) (old new rest : Nat → List UInt8) (e : Nat → Bool) (ok : Nat → Prop) : Prop where
  kp : Kp w0 w
  lt : ∀ b, b ∈ L ∨ b ∈ M → b < w.heap.size
  ge : ∀ b, b ∈ L ∨ b ∈ M → w0.heap.size ≤ b
  dis : ∀ b, b ∈ L → b ∉ M
  rows : Rws w L 5 Et V X
  crew : Crew w (Rl w0 L M) n c
  len : ∀ i, i < 5 → (X i).length = n
  x0 : ∀ j, j < n → (X 0)[j]? = some (.pointer (some ⟨(c j).pf, 0, none⟩))
  x1 : ∀ j, j < n → (X 1)[j]? = some (.pointer (some ⟨(c j).pa, 0, none⟩))
  x2 : ∀ j, j < n → ∃ v, (X 2)[j]? = some v ∧ Pz w M v (rest j)
  x3 : ∀ j, j < n → (X 3)[j]? = some (.bool (e j))
  x4 : ∀ j, j < n → ∃ v, (X 4)[j]? = some v ∧ Iz w0 v (new j)
  sz : ∀ j, j < n → (old j).length ≤ 4096 ∧ (new j).length ≤ 4096
  live : ∀ j, j < n → ok j → ∃ m, rest j = (PP old new j).drop m ∧ (c j).x = AF.feed ⟨Ap.init, Fl.init (old j) 64⟩ ((PP old new j).take m)

theorem Pz.only {w w' : World} {L : List Nat} {v : Value} {zs : List UInt8} (h : Pz w L v zs) {F : Nat → Prop} (ho : Only F w w') (hF : ∀ b, F b → b < w.heap.size → b ∉ L) : Pz w' L v zs := by
  obtain ⟨A, cp, h1, h2, h3, h4, h5, h6⟩ := h
  exact ⟨A, cp, h1, h2.keep fun a ha hlt => ho.keep _ hlt fun x => hF _ x hlt (h6 a ha).2, h3, h4, h5, h6⟩
theorem Pz.more {w : World} {L L' : List Nat} {v : Value} {zs : List UInt8} (h : Pz w L v zs) (hL : ∀ b, b ∈ L → b ∈ L') : Pz w L' v zs := by
  obtain ⟨A, cp, h1, h2, h3, h4, h5, h6⟩ := h
  exact ⟨A, cp, h1, h2, h3, h4, h5, fun a ha => ⟨(h6 a ha).1, hL _ (h6 a ha).2⟩⟩
section
variable {w0 w w' : World} {L M : List Nat} {n : Nat} {V : Nat → Value} {X : Nat → List Value} {c : Nat → Cr} {old new rest : Nat → List UInt8} {e : Nat → Bool} {ok : Nat → Prop}
/-- A call on applier k. -/
theorem Tu.step (h : Tu w0 w L M n V X c old new rest e ok) {k : Nat} (hk : k < n) {y : AF} {be' : Nat} (ha : AAt w (Oth (Rl w0 L M) n c k) (c k).pa (c k).pf (c k).bf (c k).be y.a y.f w' be')
    (hl : ok k → ∃ m, rest k = (PP old new k).drop m ∧ y = AF.feed ⟨Ap.init, Fl.init (old k) 64⟩ ((PP old new k).take m)) :
    Tu w0 w' L M n V X (upC c k { c k with be := be', x := y }) old new rest e ok := by
  have hng := (h.crew.rep k hk).ng
  have hF : ∀ b, AO (c k).pa (c k).pf (c k).bf (c k).be b → ¬ Rl w0 L M b := by
    rintro b (rfl | rfl | rfl | rfl) x
    · exact hng.1 (.inl x)
    · exact hng.2.1 (.inl x)
    · exact hng.2.2.1 (.inl x)
    · exact hng.2.2.2 (.inl x)
  refine ⟨h.kp.next ha.on.le fun b hb => ha.on.keep b (by have := h.kp.size; omega) fun x => hF b x (.inl hb), fun b hb => Nat.lt_of_lt_of_le (h.lt b hb) ha.on.le, h.ge, h.dis, h.rows.only ha.on fun b x _ y => hF b x (.inr (.inl y)), h.crew.step hk ha, h.len, fun j hj => ?_, fun j hj => ?_, fun j hj => ?_, h.x3, h.x4, h.sz, fun j hj he => ?_⟩
  · by_cases ej : j = k
    · subst ej; rw [upC_same]; exact h.x0 j hj
    · rw [upC_ne _ _ ej]; exact h.x0 j hj
  · by_cases ej : j = k
    · subst ej; rw [upC_same]; exact h.x1 j hj
    · rw [upC_ne _ _ ej]; exact h.x1 j hj
  · obtain ⟨v, h1, h2⟩ := h.x2 j hj
    exact ⟨v, h1, h2.only ha.on fun b x _ y => hF b x (.inr (.inr y))⟩
  · by_cases ej : j = k
    · subst ej; rw [upC_same]; exact hl he
    · rw [upC_ne _ _ ej]; exact h.live j hj he
/-- Below: a call that turns nothing. -/
theorem Tu.below (h : Tu w0 w L M n V X c old new rest e ok) (hb : Only (fun _ => False) w w') : Tu w0 w' L M n V X c old new rest e ok :=
  ⟨h.kp.next hb.le fun b hlt => hb.keep b (by have := h.kp.size; omega) fun x => x, fun b hm => Nat.lt_of_lt_of_le (h.lt b hm) hb.le, h.ge, h.dis, h.rows.only hb fun b x => x.elim, h.crew.only hb fun b x => x.elim, h.len, h.x0, h.x1, fun j hj => by
    obtain ⟨v, h1, h2⟩ := h.x2 j hj
    exact ⟨v, h1, h2.only hb fun b x => x.elim⟩, h.x3, h.x4, h.sz, h.live⟩
/-- What is known of those that are live, anew. -/
theorem Tu.okTo (h : Tu w0 w L M n V X c old new rest e ok) {ok' : Nat → Prop} (hl : ∀ j, j < n → ok' j → ok j ∨ ∃ m, rest j = (PP old new j).drop m ∧ (c j).x = AF.feed ⟨Ap.init, Fl.init (old j) 64⟩ ((PP old new j).take m)) : Tu w0 w L M n V X c old new rest e ok' :=
  { h with live := fun j hj hok => (hl j hj hok).elim (h.live j hj) id }
theorem Tu.own (h : Tu w0 w L M n V X c old new rest e ok) (ho : Only (fun b => b ∈ L) w w') : Kp w0 w' ∧ (∀ b, b ∈ L ∨ b ∈ M → b < w'.heap.size) ∧ Crew w' (Rl w0 L M) n c ∧ ∀ v zs, Pz w M v zs → Pz w' M v zs :=
  ⟨h.kp.next ho.le fun b hb => ho.keep b (by have := h.kp.size; omega) fun x => by have := h.ge b (.inl x); omega, fun b hb => Nat.lt_of_lt_of_le (h.lt b hb) ho.le, h.crew.only ho fun b x _ => .inr (.inl x), fun v zs hp => hp.only ho fun b x _ => h.dis b x⟩
/-- ends[k] = true -/
theorem Tu.setEnd (h : Tu w0 w L M n V X c old new rest e ok) {k g cap : Nat} (hk : k < n) (hv : V 3 = .slice (some ⟨g, 0, none⟩) (X 3).length cap) :
    Tu w0 (w.setCell ⟨g, k, none⟩ (.bool true)) L M n V (upX X 3 ((X 3).set k (.bool true))) c old new rest (upX e k true) ok := by
  obtain ⟨h1, h2⟩ := h.rows.set (i := 3) (by decide) hv k (.bool true)
  obtain ⟨o1, o2, o3, o4⟩ := h.own h2
  have hl3 := h.len 3 (by decide)
  refine ⟨o1, o2, h.ge, h.dis, h1, o3, fun i hi => ?_, h.x0, h.x1, fun j hj => ?_, fun j hj => ?_, h.x4, h.sz, h.live⟩
  · by_cases ei : i = 3
    · subst ei; rw [upX_same, List.length_set]; exact hl3
    · rw [upX_ne _ _ ei]; exact h.len i hi
  · obtain ⟨v, q1, q2⟩ := h.x2 j hj
    exact ⟨v, q1, o4 _ _ q2⟩
  · rw [upX_same, List.getElem?_set]
    by_cases ej : k = j
    · subst ej; rw [if_pos rfl, if_pos (by omega), upX_same]
    · rw [if_neg ej, upX_ne _ _ fun x => ej x.symm]; exact h.x3 j hj
/-- ps[k] = .. -/
theorem Tu.setRest (h : Tu w0 w L M n V X c old new rest e ok) {k g cap : Nat} (hk : k < n) (hv : V 2 = .slice (some ⟨g, 0, none⟩) (X 2).length cap) {v : Value} {zs : List UInt8} (hp : Pz w M v zs) (hok : ¬ ok k) :
    Tu w0 (w.setCell ⟨g, k, none⟩ v) L M n V (upX X 2 ((X 2).set k v)) c old new (upX rest k zs) e ok := by
  obtain ⟨h1, h2⟩ := h.rows.set (i := 2) (by decide) hv k v
  obtain ⟨o1, o2, o3, o4⟩ := h.own h2
  have hl3 := h.len 2 (by decide)
  refine ⟨o1, o2, h.ge, h.dis, h1, o3, fun i hi => ?_, h.x0, h.x1, fun j hj => ?_, h.x3, h.x4, h.sz, fun j hj hj' => ?_⟩
  · by_cases ei : i = 2
    · subst ei; rw [upX_same, List.length_set]; exact hl3
    · rw [upX_ne _ _ ei]; exact h.len i hi
  · rw [upX_same, List.getElem?_set]
    by_cases ej : k = j
    · subst ej; rw [if_pos rfl, if_pos (by omega), upX_same]; exact ⟨v, rfl, o4 _ _ hp⟩
    · rw [if_neg ej, upX_ne _ _ fun x => ej x.symm]
      obtain ⟨v, q1, q2⟩ := h.x2 j hj
      exact ⟨v, q1, o4 _ _ q2⟩
  · have ej : j ≠ k := fun x => hok (x ▸ hj')
    rw [upX_ne _ _ ej]; exact h.live j hj hj'
end
end Go.Proofs.YtkmgcggoemlaaaaGreatDoor
end

section
/- The law Turns: what a patch does, fed in part or whole. No condition. -/
set_option linter.unusedSimpArgs false
set_option linter.unusedVariables false
namespace Go.Proofs.YtkmgcggoemlaaaaGreatDoor
open Go Go.Fw Go.Conc Go.RowKit Go.Fwm

theorem fit64 (old : List UInt8) (h : old.length ≤ 4096) : 4096 ≤ newPages old 64 * 64 := by
  unfold newPages; omega
section
variable {old new : List UInt8} (ho : old.length ≤ 4096) (hn : new.length ≤ 4096)
include ho hn
theorem whole_ap : ((Fl.init old 64).apply (patchG (lgOf old) old new)).fault = .none ∧ ((Fl.init old 64).apply (patchG (lgOf old) old new)).x.f.committed = true ∧ ((Fl.init old 64).apply (patchG (lgOf old) old new)).x.f.length = new.length ∧ ((Fl.init old 64).apply (patchG (lgOf old) old new)).x.f.fresh.take new.length = new ∧ ((Fl.init old 64).apply (patchG (lgOf old) old new)).x.f.old = old := by
  have h := patch_applied (Fl.init old 64) (by show (-1 : Int) < 0; omega) ho (init_le old ho 64) new (steps (lgOf old) old new) (steps_leads (lgOf_ok old) new) (by rw [init_pages]; exact Nat.le_trans hn (fit64 old ho))
  obtain ⟨g1, g2, g3, g4, g5, _⟩ := h
  exact ⟨g1, g2, g3, g4, g5⟩
theorem part_feed (k : Nat) : (AF.feed ⟨Ap.init, Fl.init old 64⟩ ((patchG (lgOf old) old new).take k)).a.fault = .none := by
  have hs := short_fed (Fl.init old 64) (by show (-1 : Int) < 0; decide) ho (init_le old ho 64) new (steps (lgOf old) old new) (steps_leads (lgOf_ok old) new) (by rw [init_pages]; exact Nat.le_trans hn (fit64 old ho))
  by_cases hk : k < (patchG (lgOf old) old new).length
  · exact (hs k hk).1
  · rw [List.take_of_length_le (by omega)]
    by_cases hf : (AF.feed ⟨Ap.init, Fl.init old 64⟩ (patchG (lgOf old) old new)).a.fault = .none
    · exact hf
    · have h1 := (whole_ap ho hn).1
      unfold Fl.apply at h1
      rw [fin_bad hf] at h1
      exact absurd h1 hf
/-- Finish ahead of the end. -/
theorem part_fin (k : Nat) (hk : k < (patchG (lgOf old) old new).length) :
    (AF.feed ⟨Ap.init, Fl.init old 64⟩ ((patchG (lgOf old) old new).take k)).finish.fault.num = 5 ∧ (AF.feed ⟨Ap.init, Fl.init old 64⟩ ((patchG (lgOf old) old new).take k)).finish.x.f.committed = false := by
  obtain ⟨_, h2, h3⟩ := nf_short (pages := 64) ho (Nat.le_trans hn (fit64 old ho)) hk
  exact ⟨h2, h3⟩
end
/-- .. in pieces. -/
theorem feed_more (x : AF) (l : List UInt8) (m n : Nat) : (x.feed (l.take m)).feed ((l.drop m).take n) = x.feed (l.take (m + n)) := by
  rw [← feed_app, List.take_add]
end Go.Proofs.YtkmgcggoemlaaaaGreatDoor
end

section
/- The law Turns: the calls on one of several appliers. No condition. -/
set_option linter.unusedSimpArgs false
set_option linter.unusedVariables false
namespace Go.Proofs.YtkmgcggoemlaaaaGreatDoor
open Go Go.Fw Go.Conc Go.RowKit Go.Fwm

section
variable {w0 w w' : World} {L M : List Nat} {n : Nat} {V : Nat → Value} {X : Nat → List Value} {c : Nat → Cr} {old new rest : Nat → List UInt8} {e : Nat → Bool} {ok : Nat → Prop}
theorem Tu.far (h : Tu w0 w L M n V X c old new rest e ok) {k : Nat} (hk : k < n) (b : Nat) (hb : AO (c k).pa (c k).pf (c k).bf (c k).be b) : ¬ Rl w0 L M b := by
  have hng := (h.crew.rep k hk).ng
  rcases hb with rfl | rfl | rfl | rfl
  · exact fun x => hng.1 (.inl x)
  · exact fun x => hng.2.1 (.inl x)
  · exact fun x => hng.2.2.1 (.inl x)
  · exact fun x => hng.2.2.2 (.inl x)
theorem Tu.gv (h : Tu w0 w L M n V X c old new rest e ok) (hg : GV w0) : GV w := h.kp.gv hg
theorem Tu.feed (h : Tu w0 w L M n V X c old new rest e ok) (hg : GV w0) {k : Nat} (hk : k < n) (hok : ok k) {A : Option Addr} {m cp q : Nat} {zs : List UInt8} (hl : zs.length = m) (hzs : zs = (rest k).take q) (hx : Bytes w A zs) (hA : ∀ a, A = some a → a.block ∈ M) :
    Calls Tryz.prog 33 #[.pointer (some ⟨(c k).pa, 0, none⟩), .slice A m cp] w fun e' w' => e' = .returned .nilIface ∧ ∃ c', Tu w0 w' L M n V X c' old new rest e (fun j => ok j ∧ j ≠ k) ∧ ∃ m0, rest k = (PP old new k).drop m0 ∧ (c' k).x = AF.feed ⟨Ap.init, Fl.init (old k) 64⟩ ((PP old new k).take (m0 + q)) := by
  obtain ⟨m0, hr, hc⟩ := h.live k hk hok
  obtain ⟨so, sn⟩ := h.sz k hk
  have hpl := patchG_len (old k) (new k)
  have hS0 := init_stt (Fl.init (old k) 64) so (init_le (old k) so 64)
  have hzl : zs.length ≤ (PP old new k).length := by rw [hzs, hr]; simp; omega
  have hpl' : (PP old new k).length ≤ 20000 := by unfold PP; omega
  have hat : (c k).x.a.at_ ≤ 20000 := by
    rw [hc]
    have := feed_at ((PP old new k).take m0) ⟨Ap.init, Fl.init (old k) 64⟩
    rw [List.length_take] at this
    have e0 : (AF.mk Ap.init (Fl.init (old k) 64)).a.at_ = 0 := rfl
    omega
  have hy : (c k).x.feed zs = AF.feed ⟨Ap.init, Fl.init (old k) 64⟩ ((PP old new k).take (m0 + q)) := by
    rw [hzs, hr, hc, feed_more]
  have hnf : ((c k).x.feed zs).a.fault = .none := by rw [hy]; exact part_feed so sn _
  have hS : Stt (Fl.init (old k) 64) (Fl.init (old k) 64).reads (c k).x := by rw [hc]; exact hS0.feed _
  have := feed_ok w _ (c k).pa (c k).pf (c k).bf (c k).be (c k).x (h.crew.rep k hk) (h.gv hg) (fun x => h.far hk 0 x (.inl hg.lt)) hS (by show 0 ≤ 1000000; omega) (by show 0 ≤ 100000000000; omega) A m cp zs hl (by omega) hx (fun a ha x => h.far hk _ x (.inr (.inr (hA a ha)))) (by omega)
  refine this.mono ?_
  rintro e' w' ⟨be', v, rfl, h1, h2⟩
  rw [hnf] at h2
  have hv : v = .nilIface := h2
  subst hv
  have h3 := (h.okTo (ok' := fun j => ok j ∧ j ≠ k) fun j hj hq => .inl hq.1).step hk h1 fun hq => absurd rfl hq.2
  exact ⟨rfl, _, h3, m0, hr, by rw [upC_same]; exact hy⟩
theorem Tu.finish (h : Tu w0 w L M n V X c old new rest e ok) {k : Nat} (hk : k < n) (hok : ok k) :
    Calls Tryz.prog 32 #[.pointer (some ⟨(c k).pa, 0, none⟩)] w fun e' w' => ∃ v c' F x, e' = .returned v ∧ Tu w0 w' L M n V X c' old new rest e (fun j => ok j ∧ j ≠ k) ∧ FltV w' F v x ∧
      ((rest k = [] ∧ x = .none ∧ (c' k).x.f.committed = true ∧ (c' k).x.f.length = (new k).length ∧ (c' k).x.f.fresh.take (new k).length = new k ∧ (c' k).x.f.old = old k) ∨ (0 < (rest k).length ∧ x.num = 5 ∧ (c' k).x.f.committed = false)) := by
  obtain ⟨m0, hr, hc⟩ := h.live k hk hok
  obtain ⟨so, sn⟩ := h.sz k hk
  have hS0 := init_stt (Fl.init (old k) 64) so (init_le (old k) so 64)
  have hS : Stt (Fl.init (old k) 64) (Fl.init (old k) 64).reads (c k).x := by rw [hc]; exact hS0.feed _
  have hev := (h.crew.rep k hk).fl.ev_le
  have hev2 : (c k).x.f.events.length < 1000000000 := by
    have hf : (c k).x.a.fault = .none := by rw [hc]; exact part_feed so sn _
    cases hS with
    | ok out hI => 
      have := hI.evs_le
      have e0 : (Fl.init (old k) 64).events.length = 0 := rfl
      omega
    | _ => rename_i e1 hf1 _; rw [hf] at hf1; split at hf1 <;> cases hf1
  refine (finish_ok w _ (c k).pa (c k).pf (c k).bf (c k).be (c k).x (h.crew.rep k hk) hev2).mono ?_
  rintro e' w' ⟨be', v, rfl, h1, h2⟩
  have h3 := (h.okTo (ok' := fun j => ok j ∧ j ≠ k) fun j hj hq => .inl hq.1).step hk h1 fun hq => absurd rfl hq.2
  refine ⟨v, _, _, _, rfl, h3, h2, ?_⟩
  rw [upC_same]
  by_cases hm : m0 < (PP old new k).length
  · refine .inr ⟨by rw [hr]; simp; omega, ?_⟩
    rw [hc]
    exact part_fin so sn m0 hm
  · refine .inl ⟨by rw [hr]; exact List.drop_of_length_le (by omega), ?_⟩
    rw [hc, List.take_of_length_le (by omega)]
    exact whole_ap so sn
theorem Tu.tell (h : Tu w0 w L M n V X c old new rest e ok) (hg : GV w0) {F : Nat → Prop} {v : Value} {x : Flt} (hv : FltV w F v x) :
    Calls Tryz.prog 16 #[v] w fun e' w' => e' = .returned (.int .i64 (x.num : Int)) ∧ Tu w0 w' L M n V X c old new rest e ok :=
  (tell_ok w (h.gv hg) F v x hv).mono fun e' w' ⟨h1, h2⟩ => ⟨h1, h.below (Only.below h2)⟩
theorem Tu.image (h : Tu w0 w L M n V X c old new rest e ok) {k : Nat} (hk : k < n) :
    Calls Tryz.prog 23 #[.pointer (some ⟨(c k).pf, 0, none⟩)] w fun e' w' => ∃ A m cp, e' = .returned (.tuple #[.slice A m cp, .bool (c k).x.f.committed]) ∧ Tu w0 w' L M n V X c old new rest e ok := by
  have hf := (h.crew.rep k hk).fl
  by_cases hc : (c k).x.f.committed = true
  · refine (image_yes w _ _ _ _ _ hf hc).mono ?_
    rintro e' w' ⟨A, cp, rfl, _, h2⟩
    exact ⟨A, _, cp, by rw [hc], h.below (Only.below h2)⟩
  · have hc' : (c k).x.f.committed = false := by simpa using hc
    refine (image_no w _ _ _ _ _ hf hc').mono ?_
    rintro e' w' ⟨rfl, rfl⟩
    exact ⟨none, 0, 0, by rw [hc'], h⟩
theorem Tu.holds (h : Tu w0 w L M n V X c old new rest e ok) {k : Nat} (hk : k < n) {A B : Option Addr} {ca cb : Nat} (ho : Bytes w0 A (old k)) (hn : Bytes w0 B (new k))
    (hx : (c k).x.f.committed = true ∧ (c k).x.f.length = (new k).length ∧ (c k).x.f.fresh.take (new k).length = new k ∧ (c k).x.f.old = old k) :
    Calls Tryz.prog 20 #[.pointer (some ⟨(c k).pf, 0, none⟩), .slice A (old k).length ca, .slice B (new k).length cb] w fun e' w' => e' = .returned (.bool true) ∧ Tu w0 w' L M n V X c old new rest e ok :=
  (holds_ok w _ _ _ _ _ (h.crew.rep k hk).fl A B ca cb (old k) (new k) hx.1 hx.2.1 hx.2.2.1 hx.2.2.2 (h.kp.bytes ho) (h.kp.bytes hn)).mono fun e' w' ⟨h1, h2⟩ => ⟨h1, h.below (Only.below h2)⟩
end
end Go.Proofs.YtkmgcggoemlaaaaGreatDoor
end

section
/- The law Turns: one applier more. No condition. -/
set_option linter.unusedSimpArgs false
set_option linter.unusedVariables false
namespace Go.Proofs.YtkmgcggoemlaaaaGreatDoor
open Go Go.Fw Go.Conc Go.RowKit Go.Fwm

/-- What row i holds for j. -/
def Rx (w0 w : World) (M : List Nat) (c : Nat → Cr) (new rest : Nat → List UInt8) (e : Nat → Bool) (i j : Nat) (v : Value) : Prop :=
  match i with
  | 0 => v = .pointer (some ⟨(c j).pf, 0, none⟩)
  | 1 => v = .pointer (some ⟨(c j).pa, 0, none⟩)
  | 2 => Pz w M v (rest j)
  | 3 => v = .bool (e j)
  | _ => Iz w0 v (new j)
/-- In the midst of the appends: row i is N i long. -/
structure Tj (w0 w : World) (L M : List Nat) (n : Nat) (N : Nat → Nat) (V : Nat → Value) (X : Nat → List Value) (c : Nat → Cr) (old new rest : Nat → List UInt8) (e : Nat → Bool) (ok : Nat → Prop) : Prop where
  kp : Kp w0 w
  lt : ∀ b, b ∈ L ∨ b ∈ M → b < w.heap.size
  ge : ∀ b, b ∈ L ∨ b ∈ M → w0.heap.size ≤ b
  dis : ∀ b, b ∈ L → b ∉ M
  rows : Rws w L 5 Et V X
  crew : Crew w (Rl w0 L M) n c
  len : ∀ i, i < 5 → (X i).length = N i
  xs : ∀ i, i < 5 → ∀ j, j < N i → ∃ v, (X i)[j]? = some v ∧ Rx w0 w M c new rest e i j v
  sz : ∀ j, j < n → (old j).length ≤ 4096 ∧ (new j).length ≤ 4096
  live : ∀ j, j < n → ok j → ∃ m, rest j = (PP old new j).drop m ∧ (c j).x = AF.feed ⟨Ap.init, Fl.init (old j) 64⟩ ((PP old new j).take m)
section
variable {w0 w w' : World} {L M : List Nat} {n : Nat} {N : Nat → Nat} {V : Nat → Value} {X : Nat → List Value} {c : Nat → Cr} {old new rest : Nat → List UInt8} {e : Nat → Bool} {ok : Nat → Prop}
theorem Tj.tu (h : Tj w0 w L M n N V X c old new rest e ok) (hN : ∀ i, i < 5 → N i = n) : Tu w0 w L M n V X c old new rest e ok := by
  refine ⟨h.kp, h.lt, h.ge, h.dis, h.rows, h.crew, fun i hi => (h.len i hi).trans (hN i hi), fun j hj => ?_, fun j hj => ?_, fun j hj => ?_, fun j hj => ?_, fun j hj => ?_, h.sz, h.live⟩
  · obtain ⟨v, h1, h2⟩ := h.xs 0 (by decide) j (by rw [hN 0 (by decide)]; exact hj)
    rw [h1, show v = _ from h2]
  · obtain ⟨v, h1, h2⟩ := h.xs 1 (by decide) j (by rw [hN 1 (by decide)]; exact hj)
    rw [h1, show v = _ from h2]
  · exact h.xs 2 (by decide) j (by rw [hN 2 (by decide)]; exact hj)
  · obtain ⟨v, h1, h2⟩ := h.xs 3 (by decide) j (by rw [hN 3 (by decide)]; exact hj)
    rw [h1, show v = _ from h2]
  · exact h.xs 4 (by decide) j (by rw [hN 4 (by decide)]; exact hj)
theorem Rx.only {i j : Nat} {v : Value} (h : Rx w0 w M c new rest e i j v) {F : Nat → Prop} (ho : Only F w w') (hF : ∀ b, F b → b < w.heap.size → b ∉ M) : Rx w0 w' M c new rest e i j v := by
  unfold Rx at *
  split at h <;> first | exact h | exact h.only ho hF
/-- An append to row i. -/
theorem Tj.push (h : Tj w0 w L M n N V X c old new rest e ok) {i : Nat} (hi : i < 5) {y v' : Value} (h1 : w'.ownsRow 0 (Et i) 1 v' ((X i).length + 1) (X i ++ [y])) (h2 : w.grownBy w' (V i).ownBlock) (h3 : ∀ k, v'.ownBlock = some k → (V i).ownBlock = some k ∨ w.heap.size ≤ k) (hy : Rx w0 w M c new rest e i (N i) y) :
    ∃ L', Tj w0 w' L' M n (upX N i (N i + 1)) (upX V i v') (upX X i (X i ++ [y])) c old new rest e ok := by
  obtain ⟨L', r1, r2, r3, r4, ho⟩ := h.rows.push hi h1 h2 h3 fun b hb => h.lt b (.inl hb)
  have hk := h.kp.size
  refine ⟨L', h.kp.next ho.le fun b hb => ho.keep b (by omega) fun x => by have := h.ge b (.inl x); omega, fun b hb => ?_, fun b hb => ?_, fun b hb hm => ?_, r1, ?_, fun j hj => ?_, fun j hj q hq => ?_, h.sz, h.live⟩
  · rcases hb with x | x
    · exact r4 b x
    · exact Nat.lt_of_lt_of_le (h.lt b (.inr x)) ho.le
  · rcases hb with x | x
    · rcases r3 b x with y | y
      · exact h.ge b (.inl y)
      · omega
    · exact h.ge b (.inr x)
  · rcases r3 b hb with y | y
    · exact h.dis b y hm
    · have := h.lt b (.inr hm)
      omega
  · refine h.crew.move ho (fun b x _ => .inr (.inl x)) (fun b hb x => ?_) fun b x => ?_
    · rcases x with x | x | x
      · exact .inl x
      · rcases r3 b x with y | y
        · exact .inr (.inl y)
        · omega
      · exact .inr (.inr x)
    · have := ho.le
      rcases x with x | x | x
      · omega
      · exact r4 b x
      · exact Nat.lt_of_lt_of_le (h.lt b (.inr x)) ho.le
  · by_cases ej : j = i
    · subst ej; rw [upX_same, upX_same, List.length_append, h.len j hj]; rfl
    · rw [upX_ne _ _ ej, upX_ne _ _ ej]; exact h.len j hj
  · by_cases ej : j = i
    · subst ej
      rw [upX_same] at hq ⊢
      have hl := h.len j hj
      by_cases eq : q < N j
      · obtain ⟨v, q1, q2⟩ := h.xs j hj q eq
        exact ⟨v, by rw [List.getElem?_append_left (by omega)]; exact q1, q2.only ho fun b x _ => h.dis b x⟩
      · obtain rfl : q = N j := by omega
        exact ⟨y, by rw [List.getElem?_append_right (by omega), hl, Nat.sub_self]; rfl, hy.only ho fun b x _ => h.dis b x⟩
    · rw [upX_ne _ _ ej] at hq ⊢
      obtain ⟨v, q1, q2⟩ := h.xs j hj q hq
      exact ⟨v, q1, q2.only ho fun b x _ => h.dis b x⟩
/-- One applier more, ahead of the appends. -/
theorem Tu.join (h : Tu w0 w L M n V X c old new rest e ok) {M' : List Nat} {d : Cr} (ho : Only (fun _ => False) w w') (hM : ∀ b, b ∈ M → b ∈ M') (hM' : ∀ b, b ∈ M' → b ∈ M ∨ (w.heap.size ≤ b ∧ b < w'.heap.size))
    (hd : ARep w' (fun b => Rl w0 L M' b ∨ ∃ j, j < n ∧ (c j).ao b) d.pa d.pf d.bf d.be d.x.a d.x.f) (hn : ∀ b, d.ao b → w.heap.size ≤ b) (hs : (old n).length ≤ 4096 ∧ (new n).length ≤ 4096)
    (hl : ok n → ∃ m, rest n = (PP old new n).drop m ∧ d.x = AF.feed ⟨Ap.init, Fl.init (old n) 64⟩ ((PP old new n).take m)) :
    Tj w0 w' L M' (n + 1) (fun _ => n) V X (upC c n d) old new rest e ok := by
  have h0 := h.below ho
  have hk := h.kp.size
  have hlt : ∀ b, b ∈ L ∨ b ∈ M' → b < w'.heap.size := fun b hb => by
    rcases hb with x | x
    · exact h0.lt b (.inl x)
    · rcases hM' b x with y | y
      · exact h0.lt b (.inr y)
      · exact y.2
  refine ⟨h0.kp, hlt, fun b hb => ?_, fun b hb hm => ?_, h0.rows, h.crew.join ho (fun b x => x.elim) (fun b hb x => ?_) (fun b x => ?_) hd hn, h.len, fun i hi j hj => ?_, fun j hj => ?_, fun j hj hok => ?_⟩
  · rcases hb with x | x
    · exact h.ge b (.inl x)
    · rcases hM' b x with y | y
      · exact h.ge b (.inr y)
      · omega
  · rcases hM' b hm with y | y
    · exact h.dis b hb y
    · have := h.lt b (.inl hb); omega
  · rcases x with x | x | x
    · exact .inl x
    · exact .inr (.inl x)
    · rcases hM' b x with y | y
      · exact .inr (.inr y)
      · omega
  · rcases x with x | x
    · have := ho.le; omega
    · exact hlt b x
  · have hne : j ≠ n := by omega
    have hi' : i = 0 ∨ i = 1 ∨ i = 2 ∨ i = 3 ∨ i = 4 := by omega
    rcases hi' with rfl | rfl | rfl | rfl | rfl
    · exact ⟨_, h.x0 j hj, by show _ = _; rw [upC_ne _ _ hne]⟩
    · exact ⟨_, h.x1 j hj, by show _ = _; rw [upC_ne _ _ hne]⟩
    · obtain ⟨v, q1, q2⟩ := h0.x2 j hj
      exact ⟨v, q1, q2.more hM⟩
    · exact ⟨_, h.x3 j hj, rfl⟩
    · exact h.x4 j hj
  · rcases Nat.lt_or_ge j n with x | x
    · exact h.sz j x
    · obtain rfl : j = n := by omega
      exact hs
  · rcases Nat.lt_or_ge j n with x | x
    · rw [upC_ne _ _ (by omega)]; exact h.live j x hok
    · obtain rfl : j = n := by omega
      rw [upC_same]; exact hl hok
end
end Go.Proofs.YtkmgcggoemlaaaaGreatDoor
end
