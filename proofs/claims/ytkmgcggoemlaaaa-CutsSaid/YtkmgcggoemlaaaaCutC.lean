/-
  The law Cuts, part 3: the closure of firmware.Pieces, over the closure of slices.Chunk.
  No condition.
-/
import Derived.Test.YtkmgcggoemlaaaaCutB
import Derived.Shelf.RegionOpen
namespace Go.Proofs.Ytkmgcggoemlaaaa.cuts
open Go.RowKit Go.Shelf
attribute [local go_sem] Oper.semAt_some

/-- What lies outside of the five blocks from B0 on lies as it lay. -/
structure Outs (B0 : Nat) (W W' : World) : Prop where
  os : W'.os = W.os
  tape : W'.tape = W.tape
  output : W'.output = W.output
  size : W.heap.size ≤ W'.heap.size
  block : ∀ b, b < W.heap.size → (b < B0 ∨ B0 + 5 ≤ b) → W'.heap[b]? = W.heap[b]?
section
variable {B0 : Nat} {W W' W'' : World}
theorem Outs.refl (B0 : Nat) (W : World) : Outs B0 W W := ⟨rfl, rfl, rfl, Nat.le_refl _, fun _ _ _ => rfl⟩
theorem Outs.trans (h : Outs B0 W W') (k : Outs B0 W' W'') : Outs B0 W W'' :=
  ⟨k.os.trans h.os, k.tape.trans h.tape, k.output.trans h.output, Nat.le_trans h.size k.size, fun b hb hr => (k.block b (by have := h.size; omega) hr).trans (h.block b hb hr)⟩
theorem Outs.alloc (h : Outs B0 W W') (o : Obj) : Outs B0 W (W'.alloc o) :=
  h.trans ⟨rfl, rfl, rfl, by simp, fun b hb _ => Below.heap_alloc W' o b hb⟩
theorem Outs.drew (h : Outs B0 W W') : Outs B0 W W'.drew := ⟨h.os, h.tape, h.output, h.size, h.block⟩
theorem Outs.putObj (h : Outs B0 W W') (l : Nat) (hl : B0 ≤ l) (hl' : l < B0 + 5) (o : Obj) : Outs B0 W (W'.putObj l o) :=
  h.trans ⟨rfl, rfl, rfl, by simp, fun b _ hb => World.putObj_heap_other (by omega)⟩
theorem Outs.below (h : Outs B0 W W') (k : Below W'.heap.size W' W'') : Outs B0 W W'' :=
  h.trans ⟨k.os, k.tape, k.output, k.size, fun b hb _ => k.block b hb⟩
end

/-- Piece number k of the bytes zs. -/
def pz (zs : List Int) (nn k : Nat) : List Int := (zs.drop (k * nn)).take (plen zs.length nn k)
theorem pz_length (zs : List Int) (nn k : Nat) : (pz zs nn k).length = plen zs.length nn k := by
  unfold pz plen; rw [List.length_take, List.length_drop]; omega
theorem bytes_pz {W : World} {rb nn k : Nat} {zs : List Int} (h : W.heap[rb]? = some (.cells (zs.map enc ++ [enc 71, enc 72]).toArray 5 (0, 0))) : Bytes W (some ⟨rb, k * nn, none⟩) (pz zs nn k) := by
  intro j hj
  refine ⟨rb, k * nn, rfl, ?_⟩
  have hj' := hj
  rw [pz_length] at hj'
  unfold plen at hj'
  rw [World.cell_blk h]
  have e : (pz zs nn k)[j] = zs[k * nn + j]'(by omega) := by simp [pz]
  rw [e]
  have hb : k * nn + j < zs.length := by omega
  simp [List.getElem?_append_left, hb, enc]

set_option maxHeartbeats 1000000 in
theorem chunk_ok (n : Nat) (v : Value) (nn : Nat) (hv : ∃ a l c, v = .slice a l c) (h1 : 1 ≤ nn) (w : World) :
    CallsIn Fence.wide n Try.prog 13 #[v, .int .i64 (nn : Nat)] w fun e w' => e = .returned (.func (.func 15) #[] #[.pointer (some ⟨w.heap.size, 0, none⟩), .pointer (some ⟨w.heap.size + 1, 0, none⟩)]) ∧
      w' = (w.alloc (.cells #[v] 25)).alloc (.cells #[.int .i64 (nn : Nat)] 3) := by
  obtain ⟨a, l, c, rfl⟩ := hv
  have hlt : ¬ ((nn : Int) < 1) := by omega
  refine callsIn_of_wp Try.func13 rfl trivial ?_ rfl
  simp only [Try.ntmps13, List.size_toArray, List.length_cons, List.length_nil, Nat.reduceAdd, Nat.reduceSub, Array.replicate_succ, Array.replicate_zero, List.push_toArray, List.append_toArray, List.nil_append, List.cons_append]
  gi_wp2
  go_ret
  exact ⟨rfl, rfl⟩

/-- Between two rounds of Pieces's loop. -/
structure PJ (J0 : Nat → World → Prop) (B0 l rb len nn : Nat) (r : Loop) (k : Nat) (V : World) : Prop where
  out : J0 k V
  y : V.heap[B0]? = some (.cells #[.func (.yield l) #[] #[]] 33 (0, 0))
  s : V.heap[B0 + 1]? = some (.cells #[.slice (some ⟨rb, 0, none⟩) len (len + 2)] 25 (0, 0))
  n : V.heap[B0 + 2]? = some (.cells #[.int .i64 (nn : Nat)] 3 (0, 0))
  d : V.heap[B0 + 3]? = some (.deferred (some []))
  l : V.heap[B0 + 4]? = some (.loop r)

theorem RoundIn.anyDepth {F : Fence} (hd : F.depth = none) {m m' : Nat} {P : Program} {l : Nat} {f : FuncId} {tmps : Array Value} {assign body : Code} {w : World} {R : Ending → World → Prop}
    (h : RoundIn F m P l f tmps assign body w R) : RoundIn F m' P l f tmps assign body w R := ⟨h.1, fun c cs _ => h.2 c cs (fun d e => by rw [hd] at e; cases e)⟩
theorem YieldAt.anyDepth {F : Fence} (hd : F.depth = none) {m : Nat} (m' : Nat) {P : Program} {l : Nat} {args : Array Value} {W : World} {R : Ending → World → Prop} (h : YieldAt F m P l args W R) : YieldAt F m' P l args W R := by
  obtain ⟨fn, tmps, assign, body, hy, hR⟩ := h
  exact ⟨fn, tmps, assign, body, hy, RoundIn.anyDepth hd hR⟩

theorem wpIn_code {F : Fence} {n : Nat} {P : Program} {Q : Exit → Act → World → Prop} {a : Act} {w : World} {c c' : Code} (h : c = c') (hw : c'.wpIn F n P Q a w) : c.wpIn F n P Q a w := h ▸ hw

theorem yieldTwo {n m l l' B0 len nn k e : Nat} {zs : List Int} {J0 Jx0 : Nat → World → Prop} {W0 W : World} {g cap : Nat} (he : plen len nn k = e)
    (hY0 : ∀ k W0 W g cap, J0 k W0 → B0 + 5 ≤ W0.heap.size → Outs B0 W0 W → W0.heap.size ≤ g → Piece W g (pz zs nn k) cap → k * nn < zs.length →
      YieldAt Fence.wide n Try.prog l #[.slice (some ⟨g, 0, none⟩) (plen zs.length nn k) cap] W fun e W' =>
        ((e = .returned (.bool true) ∧ J0 (k + 1) W') ∨ (e = .returned (.bool false) ∧ Jx0 (k + 1) W')) ∧ ∀ b, B0 ≤ b → b < B0 + 5 → W'.heap[b]? = W.heap[b]?)
    (h1 : J0 k W0) (h1' : B0 + 5 ≤ W0.heap.size) (h2 : Outs B0 W0 W) (h3 : W0.heap.size ≤ g) (h4 : Piece W g (pz zs nn k) cap) (h5 : k * nn < zs.length) (hl : zs.length = len) :
    YieldAt (Fence.wide.inRound l') m Try.prog l #[.slice (some ⟨g, 0, none⟩) e cap] W fun x W' => ∃ b : Bool, x = .returned (.bool b) ∧ (b = true → J0 (k + 1) W') ∧ (b = false → Jx0 (k + 1) W') ∧ ∀ b, B0 ≤ b → b < B0 + 5 → W'.heap[b]? = W.heap[b]? := by
  have h := YieldAt.mono (hY0 k W0 W g cap h1 h1' h2 h3 h4 h5) (R' := fun x W' => ∃ b : Bool, x = .returned (.bool b) ∧ (b = true → J0 (k + 1) W') ∧ (b = false → Jx0 (k + 1) W') ∧ ∀ b, B0 ≤ b → b < B0 + 5 → W'.heap[b]? = W.heap[b]?) (by
    rintro x W' ⟨⟨rfl, h⟩ | ⟨rfl, h⟩, hk⟩
    · exact ⟨true, rfl, fun _ => h, fun e => (by cases e), hk⟩
    · exact ⟨false, rfl, fun e => (by cases e), fun _ => h, hk⟩)
  rw [hl, he] at h
  obtain ⟨fn, tp, as', bo, hy, hR⟩ := YieldAt.anyDepth rfl m h
  exact ⟨fn, tp, as', bo, hy, hR⟩

set_option maxRecDepth 100000 in
set_option maxHeartbeats 2000000 in
theorem pieces1_in (n l B0 Bn0 Bp0 rb nn : Nat) (zs : List Int) (hn : 3 ≤ n) (hlen : zs.length ≤ 65536) (hnn : 1 ≤ nn) (hnm : nn ≤ 9223372036854775807) (J0 Jx0 : Nat → World → Prop)
    (hJ0 : ∀ k W W', J0 k W → Outs B0 W W' → J0 k W') (hJx0 : ∀ k W W', Jx0 k W → Outs B0 W W' → Jx0 k W')
    (hJr : ∀ k W, J0 k W → W.heap[rb]? = some (.cells (zs.map enc ++ [enc 71, enc 72]).toArray 5 (0, 0)))
    (hY0 : ∀ k W0 W g cap, J0 k W0 → B0 + 5 ≤ W0.heap.size → Outs B0 W0 W → W0.heap.size ≤ g → Piece W g (pz zs nn k) cap → k * nn < zs.length →
      YieldAt Fence.wide n Try.prog l #[.slice (some ⟨g, 0, none⟩) (plen zs.length nn k) cap] W fun e W' =>
        ((e = .returned (.bool true) ∧ J0 (k + 1) W') ∨ (e = .returned (.bool false) ∧ Jx0 (k + 1) W')) ∧ ∀ b, B0 ≤ b → b < B0 + 5 → W'.heap[b]? = W.heap[b]?)
    (W : World) (hB : W.heap.size = B0) (hBn : W.cell? ⟨Bn0, 0, none⟩ = some (.int .i64 (nn : Nat))) (hBp : W.cell? ⟨Bp0, 0, none⟩ = some (.slice (some ⟨rb, 0, none⟩) zs.length (zs.length + 2))) (h0 : J0 0 W) :
    CallsIn Fence.wide n Try.prog 12 #[.func (.yield l) #[] #[], .pointer (some ⟨Bn0, 0, none⟩), .pointer (some ⟨Bp0, 0, none⟩)] W fun e W' => (∃ v, e = .returned v) ∧
      ((∃ K, J0 K W' ∧ zs.length ≤ K * nn ∧ ∀ k, k < K → k * nn < zs.length) ∨ ∃ K, Jx0 (K + 1) W' ∧ ∀ k, k < K + 1 → k * nn < zs.length) := by
  have hBn' : Bn0 < W.heap.size := block_lt_of_cell hBn
  have hBp' : Bp0 < W.heap.size := block_lt_of_cell hBp
  have hlt : ¬ ((nn : Int) < 1) := by omega
  subst hB
  obtain ⟨len, hl⟩ : ∃ len, zs.length = len := ⟨_, rfl⟩
  rw [hl] at hBp
  refine callsIn_of_wp_marks Try.func12 rfl trivial ?_ rfl
  simp only [Try.ntmps12, List.size_toArray, List.length_cons, List.length_nil, Nat.reduceAdd, Nat.reduceSub, Array.replicate_succ, Array.replicate_zero, List.push_toArray, List.append_toArray, List.nil_append, List.cons_append]
  gi_wp2
  refine ⟨trivial, fun _ => by omega, (chunk_ok _ _ nn ⟨_, _, _, rfl⟩ hnn _).mono ?_⟩
  rintro e w' ⟨rfl, rfl⟩
  gi_wp2
  refine range_in rfl (by omega) (gf := 15) (lb := #[.pointer (some ⟨W.heap.size + 1, 0, none⟩), .pointer (some ⟨W.heap.size + 1 + 1, 0, none⟩)]) (by simp [Act.eval]) trivial (enters_of Try.func15 (by kernel_rfl) rfl) ?_
  intro fn _ r W1 hr hW1
  obtain ⟨W5, hW5⟩ : ∃ W5, ((W.alloc (.cells #[.func (.yield l) #[] #[]] 33)).alloc (.cells #[.slice (some ⟨rb, 0, none⟩) len (len + 2)] 25)).alloc (.cells #[.int .i64 (nn : Nat)] 3) = W5 := ⟨_, rfl⟩
  rw [hW5] at hW1 hr ⊢
  have hs5 : W5.heap.size = W.heap.size + 3 := by rw [← hW5]; simp
  rw [hs5] at hr ⊢
  have hold : ∀ b, b < W5.heap.size → W1.heap[b]? = W5.heap[b]? := fun b hb => by
    rw [hW1]; exact (Below.heap_alloc _ _ b (by simp; omega)).trans (Below.heap_alloc _ _ b hb)
  have hJ1 : PJ J0 W.heap.size l rb len nn r 0 W1 := by
    refine ⟨?_, ?_, ?_, ?_, ?_, ?_⟩
    · refine hJ0 0 W W1 h0 ?_
      rw [hW1, ← hW5]
      exact (((((Outs.refl _ W).alloc _).alloc _).alloc _).alloc _).alloc _
    · rw [hold _ (by omega), ← hW5]
      exact (Below.heap_alloc _ _ _ (by simp; omega)).trans ((Below.heap_alloc _ _ _ (by simp)).trans (World.alloc_heap_new W _))
    · rw [hold _ (by omega), ← hW5]
      refine (Below.heap_alloc _ _ _ (by simp)).trans ?_
      have := World.alloc_heap_new (W.alloc (.cells #[.func (.yield l) #[] #[]] 33)) (.cells #[.slice (some ⟨rb, 0, none⟩) len (len + 2)] 25)
      rwa [World.size_alloc] at this
    · rw [hold _ (by omega), ← hW5]
      have := World.alloc_heap_new ((W.alloc (.cells #[.func (.yield l) #[] #[]] 33)).alloc (.cells #[.slice (some ⟨rb, 0, none⟩) len (len + 2)] 25)) (.cells #[.int .i64 (nn : Nat)] 3)
      rwa [World.size_alloc, World.size_alloc] at this
    · rw [hW1, ← hs5]
      exact (Below.heap_alloc _ _ _ (by simp)).trans (World.alloc_heap_new W5 _)
    · rw [hW1]
      have := World.alloc_heap_new (W5.alloc (.deferred (some []))) (.loop r)
      rwa [World.size_alloc, hs5] at this
  have hchunk := chunk1_in (n - 1) (W.heap.size + 3 + 1) (W.heap.size + 1) (W.heap.size + 1 + 1) rb len nn (by omega) (by omega) hnn hnm (PJ J0 W.heap.size l rb len nn r)
    (fun k V => Jx0 k V ∧ V.heap[W.heap.size + 3]? = some (.deferred (some [])) ∧ V.heap[W.heap.size + 4]? = some (.loop { r with state := .done, pending := some .ret }))
    (fun k V h => ⟨by rw [World.cell_blk h.s]; rfl, by rw [World.cell_blk h.n]; rfl⟩)
    (fun k V h => ⟨hJ0 k V _ h.out (Outs.refl _ V).drew, h.y, h.s, h.n, h.d, h.l⟩) ?round W1 hJ1
  case round =>
    intro k V hV hk
    have hmx : Try.prog.follows .mixedOrders = true := by kernel_rfl
    have hra := congrArg Loop.assign hr
    have hrb := congrArg Loop.body hr
    have hrt := congrArg Loop.tmps hr
    have hrp := congrArg Loop.params hr
    simp only at hra hrb hrt hrp
    obtain ⟨e, he⟩ : ∃ e, plen len nn k = e := ⟨_, rfl⟩
    rw [he]
    have he0 : 0 < e := by rw [← he]; unfold plen; omega
    have he1 : e ≤ 65536 := by rw [← he]; unfold plen; omega
    refine yield_round (r := r) hV.l (by rw [hr]) (by rw [hr]) trivial (args := #[.slice (some ⟨rb, k * nn, none⟩) e e]) (by rw [hrp]; rfl)
      { tmps := #[.func (.yield l) #[] #[], .pointer (some ⟨Bn0, 0, none⟩), .pointer (some ⟨Bp0, 0, none⟩), .pointer (some ⟨W.heap.size, 0, none⟩), .slice (some ⟨rb, k * nn, none⟩) e e, .int .i64 (nn : Nat), .bool false, .slice (some ⟨rb, 0, none⟩) len (len + 2), .int .i64 (nn : Nat),
          .func (.func 15) #[] #[.pointer (some ⟨W.heap.size + 1, 0, none⟩), .pointer (some ⟨W.heap.size + 1 + 1, 0, none⟩)], .slice (some ⟨rb, k * nn, none⟩) e e, undef, undef, undef, undef, undef], defers := [] } ?asg ?bod
    case asg =>
      intro K hK
      rw [hra, hrt, hrp]
      gi_wp2
      exact hK
    case bod =>
      intro Wb hWb hLb
      refine wpIn_code hrb ?_
      have hcy : Wb.cell? ⟨W.heap.size, 0, none⟩ = some (.func (.yield l) #[] #[]) := by
        rw [hWb, World.cell_blk ((World.putObj_heap_other (by omega)).trans hV.y)]; rfl
      have hJb : J0 k Wb := by rw [hWb]; exact hJ0 k V _ hV.out ((Outs.refl _ V).putObj _ (by omega) (by omega) _)
      have hbz : Bytes Wb.drew (some ⟨rb, k * nn, none⟩) (pz zs nn k) := bytes_pz (nn := nn) (k := k) (hJr k Wb hJb)
      have hpl : (pz zs nn k).length = e := by rw [pz_length, hl, he]
      have hob : Outs W.heap.size V Wb := by rw [hWb]; exact (Outs.refl _ V).putObj _ (by omega) (by omega) _
      have hsz : Wb.heap.size = V.heap.size := by rw [hWb]; simp
      have hsame : ∀ b, b ≠ W.heap.size + 4 → Wb.heap[b]? = V.heap[b]? := fun b hb => by rw [hWb]; exact World.putObj_heap_other (by omega)
      have hVl : W.heap.size + 4 < V.heap.size := (Array.getElem?_eq_some_iff.1 hV.l).1
      clear hWb hra hrb hrt hrp hr
      have h14 : Fence.wide.fn 14 := trivial
      have hWlt : W.heap.size < Wb.drew.heap.size := block_lt_of_cell hcy
      have hd : 1 ≤ n - 1 - 1 := by omega
      gi_wp2
      gi_region_with_o (first
        | (gi_at_call 14; refine (CallsIn.inRound (W.heap.size + 3 + 1) (callsIn_wide.2 (clone_ok _ rb (k * nn) e e (pz zs nn k) hpl he0 he1 hbz))).mono ?_; rintro x w' ⟨g', cap', rfl, hg', hP, hb⟩; have hcy' : w'.cell? ⟨W.heap.size, 0, none⟩ = some (.func (.yield l) #[] #[]) := (hb.cell (p := ⟨W.heap.size, 0, none⟩) hWlt).trans hcy; (obtain ⟨fn', tp', as', bo', hy, hR⟩ : YieldAt (Fence.wide.inRound (W.heap.size + 3 + 1)) (n - 1 - 1 - 1) Try.prog l #[.slice (some ⟨g', 0, none⟩) e cap'] w' (fun x W' => ∃ b : Bool, x = .returned (.bool b) ∧ (b = true → J0 (k + 1) W') ∧ (b = false → Jx0 (k + 1) W') ∧ ∀ b, W.heap.size ≤ b → b < W.heap.size + 5 → W'.heap[b]? = w'.heap[b]?) := yieldTwo he hY0 hV.out (by omega) (hob.drew.below hb) (by have := hg'; simp at this; omega) hP (by omega) hl))
        | (refine hR.mono ?_; rintro x3 W3 ⟨bb, rfl, ht, hf, hk3⟩))
      all_goals
        have hfin : ∀ b, W.heap.size ≤ b → b < W.heap.size + 5 → W3.heap[b]? = Wb.heap[b]? := fun b h1 h2 => (hk3 b h1 h2).trans (hb.block b (by show b < Wb.heap.size; omega))
        have hl3 : W3.heap[W.heap.size + 3 + 1]? = some (.loop { r with state := .busy }) := (hfin _ (by omega) (by omega)).trans hLb
        cases bb with
        | true =>
          have hJ3 := ht rfl
          clear ht hf
          gi_wp2
          have hP' : PJ J0 W.heap.size l rb len nn r (k + 1) (W3.putObj (W.heap.size + 3 + 1) (.loop r)) := by
            have ho : ∀ b, W.heap.size ≤ b → b < W.heap.size + 4 → (W3.putObj (W.heap.size + 3 + 1) (.loop r)).heap[b]? = V.heap[b]? := fun b h1 h2 => (World.putObj_heap_other (by omega)).trans ((hfin b h1 (by omega)).trans (hsame b (by omega)))
            exact ⟨hJ0 (k + 1) W3 _ hJ3 ((Outs.refl _ W3).putObj _ (by omega) (by omega) _), (ho _ (by omega) (by omega)).trans hV.y, (ho _ (by omega) (by omega)).trans hV.s, (ho _ (by omega) (by omega)).trans hV.n, (ho _ (by omega) (by omega)).trans hV.d,
              World.putObj_heap_same (Array.getElem?_eq_some_iff.1 hl3).1⟩
          exact ⟨hl3, .inl ⟨rfl, hP'⟩⟩
        | false =>
          have hJ3 := hf rfl
          clear ht hf
          gi_wp2
          exact ⟨hl3, .inr ⟨rfl, hJx0 (k + 1) W3 _ hJ3 ((Outs.refl _ W3).putObj _ (by omega) (by omega) _), (World.putObj_heap_other (by omega)).trans ((hfin _ (by omega) (by omega)).trans ((hsame _ (by omega)).trans hV.d)),
            World.putObj_heap_same (Array.getElem?_eq_some_iff.1 hl3).1⟩⟩
  clear hr
  refine hchunk.mono ?_
  rintro e W2 ⟨hv, ⟨K, hK, hK1, hK2⟩ | ⟨K, ⟨hK, hKd, hKl⟩, hK2⟩⟩
  · refine ⟨hv, .inl ⟨hK.l, ?_⟩⟩
    have hd : (W2.putObj (W.heap.size + 3 + 1) (.loop { r with state := .exhausted })).heap[W.heap.size + 3]? = some (.deferred (some [])) := (World.putObj_heap_other (by omega)).trans hK.d
    gi_wp2
    refine ⟨by simp, .inl ⟨_, _, rfl, run_takeDeferred hd, ?_⟩⟩
    refine ⟨_, results_none rfl _ _ _, ⟨_, rfl⟩, .inl ⟨K, hJ0 K W2 _ hK.out (((Outs.refl _ W2).putObj _ (by omega) (by omega) _).putObj _ (by omega) (by omega) _), by omega, fun k hk => by have := hK2 k hk; omega⟩⟩
  · refine ⟨hv, .inr ⟨.ret, hKl, ?_⟩⟩
    have hd : (W2.putObj (W.heap.size + 3 + 1) (.loop { r with state := .exhausted, pending := some .ret })).heap[W.heap.size + 3]? = some (.deferred (some [])) := (World.putObj_heap_other (by omega)).trans hKd
    gi_wp2
    refine ⟨by simp, .inl ⟨_, _, rfl, run_takeDeferred hd, ?_⟩⟩
    refine ⟨_, results_none rfl _ _ _, ⟨_, rfl⟩, .inr ⟨K, hJx0 (K + 1) W2 _ hK (((Outs.refl _ W2).putObj _ (by omega) (by omega) _).putObj _ (by omega) (by omega) _), fun k hk => by have := hK2 k hk; omega⟩⟩
end Go.Proofs.Ytkmgcggoemlaaaa.cuts
