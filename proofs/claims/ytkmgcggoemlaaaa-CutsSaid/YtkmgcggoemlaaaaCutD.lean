/-
  The law Cuts, part 4: plain.Collect over firmware.Pieces.
  No condition.
-/
import Derived.Test.YtkmgcggoemlaaaaCutC
import Derived.Maps.AppendAt
import Derived.RangeFuncBox
namespace Go.Proofs.Ytkmgcggoemlaaaa.cuts
open Go.RowKit Go.Shelf
attribute [local go_sem] Oper.semAt_some
theorem info25 : (Try.prog.info? 25).map (fun i => (i.zero, i.size, i.bytes)) = some (some (.slice none 0 0), 1, 24) := by kernel_rfl

/-- The slices that stand for the pieces ps (block, capacity). -/
def hdrs (len nn : Nat) (ps : List (Nat × Nat)) : List Value := ps.mapIdx fun i p => .slice (some ⟨p.1, 0, none⟩) (plen len nn i) p.2
structure Pcs (V : World) (base : Nat) (zs : List Int) (nn : Nat) (ps : List (Nat × Nat)) : Prop where
  at_ : ∀ i p, ps[i]? = some p → base ≤ p.1 ∧ Piece V p.1 (pz zs nn i) p.2
  nodup : (ps.map (·.1)).Nodup
structure CJ (w : World) (zs : List Int) (nn : Nat) (most : Int) (r : Loop) (k : Nat) (V : World) : Prop where
  below : Below w.heap.size w V
  b0 : V.heap[w.heap.size]? = some (.cells #[.int .i64 most] 3 (0, 0))
  row : ∃ (v : Value) (ps : List (Nat × Nat)), V.heap[w.heap.size + 1]? = some (.cells #[v] 27 (0, 0)) ∧ V.ownsRow (w.heap.size + 11) 25 1 v k (hdrs zs.length nn ps) ∧ ps.length = k ∧ Pcs V (w.heap.size + 11) zs nn ps
  d : V.heap[w.heap.size + 4]? = some (.deferred (some []))
  l : V.heap[w.heap.size + 5]? = some (.loop r)

theorem ownsRow_block {V V' : World} {base : Nat} {e : TypeId} {size n : Nat} {v : Value} {xs : List Value} (h : V.ownsRow base e size v n xs) (hb : ∀ g, v.ownBlock = some g → V'.heap[g]? = V.heap[g]?) : V'.ownsRow base e size v n xs := by
  refine ⟨h.1, ?_⟩
  rcases h.2 with h' | ⟨g, cap, cur, rfl, h1, h2, h3⟩
  · exact .inl h'
  · exact .inr ⟨g, cap, cur, rfl, h1, (hb g rfl).trans h2, h3⟩
theorem ownBlock_ge {V : World} {base : Nat} {e : TypeId} {size n : Nat} {v : Value} {xs : List Value} (h : V.ownsRow base e size v n xs) {g : Nat} (hg : v.ownBlock = some g) : base ≤ g ∧ g < V.heap.size ∧ ∃ cur, V.heap[g]? = some (.cells cur e (0, 0)) := by
  rcases h.2 with ⟨rfl, _⟩ | ⟨g', cap, cur, rfl, h1, h2, h3⟩
  · simp [Value.ownBlock] at hg
  · obtain rfl : g' = g := by simpa [Value.ownBlock] using hg
    exact ⟨h1, (Array.getElem?_eq_some_iff.1 h2).1, cur, h2⟩
theorem Piece.lt {V : World} {g : Nat} {zs : List Int} {cap : Nat} (h : Piece V g zs cap) : g < V.heap.size := by
  obtain ⟨cs, h1, _⟩ := h
  exact (Array.getElem?_eq_some_iff.1 h1).1
theorem Piece.block {V V' : World} {g : Nat} {zs : List Int} {cap : Nat} (h : Piece V g zs cap) (hb : V'.heap[g]? = V.heap[g]?) : Piece V' g zs cap := by
  obtain ⟨cs, h1, h2⟩ := h
  exact ⟨cs, hb.trans h1, h2⟩
theorem Pcs.block {V V' : World} {base : Nat} {zs : List Int} {nn : Nat} {ps : List (Nat × Nat)} (h : Pcs V base zs nn ps) (hb : ∀ g cs, base ≤ g → V.heap[g]? = some (.cells cs 5 (0, 0)) → V'.heap[g]? = V.heap[g]?) : Pcs V' base zs nn ps :=
  ⟨fun i p hp => ⟨(h.at_ i p hp).1, (h.at_ i p hp).2.block (by obtain ⟨cs, h1, _⟩ := (h.at_ i p hp).2; exact hb _ cs (h.at_ i p hp).1 h1)⟩, h.nodup⟩
theorem CJ.outs {w : World} {zs : List Int} {nn : Nat} {most : Int} {r : Loop} {k : Nat} {V V' : World} (h : CJ w zs nn most r k V) (ho : Outs (w.heap.size + 6) V V') : CJ w zs nn most r k V' := by
  have hl : w.heap.size + 5 < V.heap.size := (Array.getElem?_eq_some_iff.1 h.l).1
  obtain ⟨v, ps, h1, h2, h3, h4⟩ := h.row
  exact ⟨h.below.trans ⟨ho.os, ho.tape, ho.output, ho.size, fun b hb => ho.block b (by omega) (.inl (by omega))⟩, (ho.block _ (by omega) (.inl (by omega))).trans h.b0,
    ⟨v, ps, (ho.block _ (by omega) (.inl (by omega))).trans h1, ownsRow_block h2 (fun g hg => ho.block g (ownBlock_ge h2 hg).2.1 (.inr (by have := (ownBlock_ge h2 hg).1; omega))), h3,
      h4.block fun g cs hg hc => ho.block g (Array.getElem?_eq_some_iff.1 hc).1 (.inr (by omega))⟩,
    (ho.block _ (by omega) (.inl (by omega))).trans h.d, (ho.block _ (by omega) (.inl (by omega))).trans h.l⟩

theorem CJ.done {w : World} {zs : List Int} {nn : Nat} {most : Int} {r : Loop} {k : Nat} {V : World} (h : CJ w zs nn most r k V) (o o' : Obj) :
    Below w.heap.size w ((V.putObj (w.heap.size + 4 + 1) o).putObj (w.heap.size + 4) o') ∧ (V.putObj (w.heap.size + 4 + 1) o).heap[w.heap.size + 4]? = some (.deferred (some [])) ∧
    ∃ v ps, (V.putObj (w.heap.size + 4 + 1) o).heap[w.heap.size + 1]? = some (.cells #[v] 27 (0, 0)) ∧ ((V.putObj (w.heap.size + 4 + 1) o).putObj (w.heap.size + 4) o').ownsRow (w.heap.size + 11) 25 1 v k (hdrs zs.length nn ps) ∧ ps.length = k ∧
      Pcs ((V.putObj (w.heap.size + 4 + 1) o).putObj (w.heap.size + 4) o') (w.heap.size + 11) zs nn ps := by
  obtain ⟨v, ps, h1, h2, h3, h4⟩ := h.row
  have hb : ∀ b, b ≠ w.heap.size + 4 → b ≠ w.heap.size + 5 → ((V.putObj (w.heap.size + 4 + 1) o).putObj (w.heap.size + 4) o').heap[b]? = V.heap[b]? := fun b hb1 hb2 =>
    (World.putObj_heap_other hb1).trans (World.putObj_heap_other hb2)
  exact ⟨h.below.trans ⟨rfl, rfl, rfl, by simp, fun b hb' => hb b (by omega) (by omega)⟩, (World.putObj_heap_other (by omega)).trans h.d, v, ps, (World.putObj_heap_other (by omega)).trans h1,
    ownsRow_block h2 (fun g hg => hb g (by have := (ownBlock_ge h2 hg).1; omega) (by have := (ownBlock_ge h2 hg).1; omega)), h3, h4.block fun g cs hg hc => hb g (by omega) (by omega)⟩

set_option maxHeartbeats 1000000 in
theorem pieces_ok (n : Nat) (v : Value) (m : Int) (hv : ∃ a l c, v = .slice a l c) (w : World) :
    CallsIn Fence.wide n Try.prog 11 #[v, .int .i64 m] w fun e w' => e = .returned (.func (.func 12) #[] #[.pointer (some ⟨w.heap.size + 1, 0, none⟩), .pointer (some ⟨w.heap.size, 0, none⟩)]) ∧
      w' = (w.alloc (.cells #[v] 25)).alloc (.cells #[.int .i64 m] 3) := by
  obtain ⟨a, l, c, rfl⟩ := hv
  refine callsIn_of_wp Try.func11 rfl trivial ?_ rfl
  simp only [Try.ntmps11, List.size_toArray, List.length_cons, List.length_nil, Nat.reduceAdd, Nat.reduceSub, Array.replicate_succ, Array.replicate_zero, List.push_toArray, List.append_toArray, List.nil_append, List.cons_append]
  gi_wp2
  go_ret
  exact ⟨rfl, rfl⟩

set_option maxHeartbeats 1000000 in
theorem collect_none (n : Nat) (v : Value) (m most : Int) (hv : ∃ a l c, v = .slice a l c) (hm : most ≤ 0) (w : World) :
    CallsIn Fence.wide n Try.prog 8 #[v, .int .i64 m, .int .i64 most] w fun e w' => e = .returned (.slice none 0 0) ∧ Below w.heap.size w w' := by
  obtain ⟨a, l, c, rfl⟩ := hv
  refine callsIn_of_wp Try.func8 rfl trivial ?_ rfl
  simp only [Try.ntmps8, List.size_toArray, List.length_cons, List.length_nil, Nat.reduceAdd, Nat.reduceSub, Array.replicate_succ, Array.replicate_zero, List.push_toArray, List.append_toArray, List.nil_append, List.cons_append]
  gi_wp2
  go_ret
  exact ⟨rfl, ((Below.refl _ w).alloc (Nat.le_refl _) _).alloc (by simp) _⟩

set_option maxRecDepth 100000 in
set_option maxHeartbeats 2000000 in
theorem collect_ok (n : Nat) (rb nn : Nat) (zs : List Int) (most : Int) (hn : 5 ≤ n) (hlen : zs.length ≤ 65536) (hnn : 1 ≤ nn) (hnm : nn ≤ 9223372036854775807) (hm : 0 < most) (hmm : most ≤ 65536) (w : World)
    (hrb : w.heap[rb]? = some (.cells (zs.map enc ++ [enc 71, enc 72]).toArray 5 (0, 0))) :
    CallsIn Fence.wide n Try.prog 8 #[.slice (some ⟨rb, 0, none⟩) zs.length (zs.length + 2), .int .i64 (nn : Nat), .int .i64 most] w fun e w' => Below w.heap.size w w' ∧
      ∃ v K ps, e = .returned v ∧ w'.ownsRow (w.heap.size + 11) 25 1 v K (hdrs zs.length nn ps) ∧ ps.length = K ∧ Pcs w' (w.heap.size + 11) zs nn ps ∧ ((K : Int) = most ∨ ((K : Int) < most ∧ zs.length ≤ K * nn)) ∧ ∀ k, k < K → k * nn < zs.length := by
  obtain ⟨len, hl⟩ : ∃ len, zs.length = len := ⟨_, rfl⟩
  rw [hl]
  refine callsIn_of_wp_marks Try.func8 rfl trivial ?_ rfl
  simp only [Try.ntmps8, List.size_toArray, List.length_cons, List.length_nil, Nat.reduceAdd, Nat.reduceSub, Array.replicate_succ, Array.replicate_zero, List.push_toArray, List.append_toArray, List.nil_append, List.cons_append]
  gi_wp2
  refine ⟨trivial, fun _ => by omega, (pieces_ok _ _ _ ⟨_, _, _, rfl⟩ _).mono ?_⟩
  rintro e w' ⟨rfl, rfl⟩
  gi_wp2
  refine range_in rfl (by omega) (gf := 12) (lb := #[.pointer (some ⟨w.heap.size + 3, 0, none⟩), .pointer (some ⟨w.heap.size + 2, 0, none⟩)]) (by simp [Act.eval]) trivial (enters_of Try.func12 (by kernel_rfl) rfl) ?_
  intro fn _ r W1 hr hW1
  obtain ⟨W5, hW5⟩ : ∃ W5, (((w.alloc (.cells #[.int .i64 most] 3)).alloc (.cells #[.slice none 0 0] 27)).alloc (.cells #[.slice (some ⟨rb, 0, none⟩) len (len + 2)] 25)).alloc (.cells #[.int .i64 (nn : Nat)] 3) = W5 := ⟨_, rfl⟩
  rw [hW5] at hW1 hr ⊢
  have hs5 : W5.heap.size = w.heap.size + 4 := by rw [← hW5]; simp
  rw [hs5] at hr ⊢
  have hs1 : W1.heap.size = w.heap.size + 6 := by rw [hW1]; simp; omega
  have hold : ∀ b, b < W5.heap.size → W1.heap[b]? = W5.heap[b]? := fun b hb => by
    rw [hW1]; exact (Below.heap_alloc _ _ b (by simp; omega)).trans (Below.heap_alloc _ _ b hb)
  have h5 : W5.heap[w.heap.size]? = some (.cells #[.int .i64 most] 3 (0, 0)) ∧ W5.heap[w.heap.size + 1]? = some (.cells #[.slice none 0 0] 27 (0, 0)) ∧
      W5.heap[w.heap.size + 2]? = some (.cells #[.slice (some ⟨rb, 0, none⟩) len (len + 2)] 25 (0, 0)) ∧ W5.heap[w.heap.size + 3]? = some (.cells #[.int .i64 (nn : Nat)] 3 (0, 0)) := by
    rw [← hW5]
    refine ⟨?_, ?_, ?_, ?_⟩
    · exact (Below.heap_alloc _ _ _ (by simp; omega)).trans ((Below.heap_alloc _ _ _ (by simp; omega)).trans ((Below.heap_alloc _ _ _ (by simp)).trans (World.alloc_heap_new w _)))
    · refine (Below.heap_alloc _ _ _ (by simp)).trans ((Below.heap_alloc _ _ _ (by simp)).trans ?_)
      have := World.alloc_heap_new (w.alloc (.cells #[.int .i64 most] 3)) (.cells #[.slice none 0 0] 27)
      rwa [World.size_alloc] at this
    · refine (Below.heap_alloc _ _ _ (by simp)).trans ?_
      have := World.alloc_heap_new ((w.alloc (.cells #[.int .i64 most] 3)).alloc (.cells #[.slice none 0 0] 27)) (.cells #[.slice (some ⟨rb, 0, none⟩) len (len + 2)] 25)
      rwa [World.size_alloc, World.size_alloc] at this
    · have := World.alloc_heap_new (((w.alloc (.cells #[.int .i64 most] 3)).alloc (.cells #[.slice none 0 0] 27)).alloc (.cells #[.slice (some ⟨rb, 0, none⟩) len (len + 2)] 25)) (.cells #[.int .i64 (nn : Nat)] 3)
      rwa [World.size_alloc, World.size_alloc, World.size_alloc] at this
  obtain ⟨h50, h51, h52, h53⟩ := h5
  have hb5 : Below w.heap.size w W5 := by
    rw [← hW5]
    exact ((((Below.refl _ w).alloc (Nat.le_refl _) _).alloc (by simp) _).alloc (by simp; omega) _).alloc (by simp; omega) _
  have hJ1 : CJ w zs nn most r 0 W1 := by
    refine ⟨?_, (hold _ (by omega)).trans h50, ⟨.slice none 0 0, [], (hold _ (by omega)).trans h51, ⟨rfl, .inl ⟨rfl, rfl⟩⟩, rfl, ⟨fun i p hp => (by simp at hp), by simp⟩⟩, ?_, ?_⟩
    · rw [hW1]; exact (hb5.alloc hb5.size _).alloc (by have := hb5.size; simp; omega) _
    · rw [hW1, ← hs5]; exact (Below.heap_alloc _ _ _ (by simp)).trans (World.alloc_heap_new W5 _)
    · rw [hW1]
      have := World.alloc_heap_new (W5.alloc (.deferred (some []))) (.loop r)
      rwa [World.size_alloc, hs5] at this
  clear hW5
  have hpieces := pieces1_in (n - 1) (w.heap.size + 4 + 1) (w.heap.size + 6) (w.heap.size + 3) (w.heap.size + 2) rb nn zs (by omega) hlen hnn hnm
    (fun k V => CJ w zs nn most r k V ∧ (k : Int) < most) (fun k V => CJ w zs nn most { r with state := .done, pending := some (.exit 0) } k V ∧ (k : Int) = most)
    (fun k V V' h ho => ⟨h.1.outs ho, h.2⟩) (fun k V V' h ho => ⟨h.1.outs ho, h.2⟩)
    (fun k V h => (h.1.below.block rb (Array.getElem?_eq_some_iff.1 hrb).1).trans hrb) ?round W1 hs1
    (by rw [World.cell_blk ((hold _ (by omega)).trans h53)]; rfl) (by rw [hl, World.cell_blk ((hold _ (by omega)).trans h52)]; rfl) ⟨hJ1, by omega⟩
  case round =>
    intro k W0 V g cap hJ hbig0 hO hg hP hk
    have hC := hJ.1.outs hO
    obtain ⟨i0, hi, hz0, hz1, hz2⟩ := info_parts info25
    have hra := congrArg Loop.assign hr
    have hrb' := congrArg Loop.body hr
    have hrt := congrArg Loop.tmps hr
    have hrp := congrArg Loop.params hr
    simp only at hra hrb' hrt hrp
    obtain ⟨e, he⟩ : ∃ e, plen zs.length nn k = e := ⟨_, rfl⟩
    rw [he]
    obtain ⟨v, ps, hb1', hrow', hpl, hpc'⟩ := hJ.1.row
    have hW0 : w.heap.size + 1 < W0.heap.size := (Array.getElem?_eq_some_iff.1 hb1').1
    have hb1 := (hO.block _ hW0 (.inl (by omega))).trans hb1'
    have hrow := ownsRow_block hrow' (fun g hg => hO.block g (ownBlock_ge hrow' hg).2.1 (.inr (by have := (ownBlock_ge hrow' hg).1; omega)))
    have hpc := hpc'.block (fun g cs hg hc => hO.block g (Array.getElem?_eq_some_iff.1 hc).1 (.inr (by omega)))
    have hnd : ((ps ++ [(g, cap)]).map (·.1)).Nodup := by
      rw [List.map_append, List.nodup_append]
      refine ⟨hpc'.nodup, by simp, fun a ha b hb => ?_⟩
      obtain ⟨p, hp, rfl⟩ := List.mem_map.1 ha
      obtain ⟨i, hi'⟩ := List.mem_iff_getElem?.1 hp
      have := (hpc'.at_ i p hi').2.lt
      simp at hb
      omega
    have hbig : w.heap.size + 11 ≤ V.heap.size := by have := hO.size; omega
    refine yield_round (r := r) hC.l (by rw [hr]) (by rw [hr]) trivial (args := #[.slice (some ⟨g, 0, none⟩) e cap]) (by rw [hrp]; rfl)
      { tmps := #[.slice (some ⟨rb, 0, none⟩) len (len + 2), .int .i64 (nn : Nat), .int .i64 most, undef, undef, .pointer (some ⟨w.heap.size, 0, none⟩), .slice none 0 0, .pointer (some ⟨w.heap.size + 1, 0, none⟩), .slice (some ⟨g, 0, none⟩) e cap, .int .i64 most, .bool (decide (most ≤ 0)), undef,
          .slice (some ⟨rb, 0, none⟩) len (len + 2), .int .i64 (nn : Nat), .func (.func 12) #[] #[.pointer (some ⟨w.heap.size + 1 + 1 + 1, 0, none⟩), .pointer (some ⟨w.heap.size + 1 + 1, 0, none⟩)], .slice (some ⟨g, 0, none⟩) e cap,
          undef, undef, undef, undef, undef, undef, undef, undef, undef], defers := [] } ?asg ?bod
    case asg =>
      intro K hK
      rw [hra, hrt, hrp]
      gi_wp2
      exact hK
    case bod =>
      intro Wb hWb hLb
      refine wpIn_code hrb' ?_
      have hob : ∀ b, b ≠ w.heap.size + 5 → Wb.heap[b]? = V.heap[b]? := fun b hb => by rw [hWb]; exact World.putObj_heap_other (by omega)
      have hsz : Wb.heap.size = V.heap.size := by rw [hWb]; simp
      have hbe : Below w.heap.size w Wb := by rw [hWb]; exact hC.below.trans ⟨rfl, rfl, rfl, by simp, fun b hb => World.putObj_heap_other (by omega)⟩
      have hVs : w.heap.size + 5 < V.heap.size := (Array.getElem?_eq_some_iff.1 hC.l).1
      clear hWb hra hrb' hrt hrp hr
      have hv2 : Boxed Wb (w.heap.size + 1) 27 v := (hob _ (by omega)).trans hb1
      have hc2 := hv2.cell
      have hf2 := hv2.frozen
      have hm2 : Wb.cell? ⟨w.heap.size, 0, none⟩ = some (.int .i64 most) := by rw [World.cell_blk ((hob _ (by omega)).trans hC.b0)]; rfl
      have hrow2 : Wb.ownsRow (w.heap.size + 11) 25 1 v k (hdrs zs.length nn ps) := ownsRow_block hrow fun g hg => hob g (by have := (ownBlock_ge hrow hg).1; omega)
      have hone : ∀ u ∈ [Value.slice (some ⟨g, 0, none⟩) e cap], u.oneCell' = true := by simp [Value.oneCell']
      have hWs : w.heap.size + 11 ≤ Wb.heap.size := by have := hO.size; rw [hsz]; exact Nat.le_trans hbig (by omega)
      have hk65 : k < 65536 := by omega
      have hN1 : k + 1 ≤ maxLen := by simp only [maxLen]; omega
      have hlt2 : w.heap.size + 1 < Wb.heap.size := by omega
      have hgl := hP.lt
      rw [← hsz] at hgl hbig hVs
      clear hsz
      gi_wp2_with (gi_at_builtin; go_loud (refine wpListIn_append_own _ rfl _ _ 27 rfl (w.heap.size + 11) 25 i0 (.slice none 0 0) 1 24 Try.underlying27 hi hz0 hz1 hz2 rfl (by decide) _ _ _ rfl (hrow2.alloc _) ⟨Wb.heap.size, 0, none⟩ 1 1 [.slice (some ⟨g, 0, none⟩) e cap] rfl rfl (cell_one_new _ _ _) hone hN1 (by omega) (by simp; omega) ?_; intro v' w3 hown' hg3 _; obtain ⟨g', cap', rfl⟩ := ownsRow_succ hown'; have hv3 : Boxed w3 (w.heap.size + 1) 27 v := (hv2.alloc _).kept hg3 (fun e => by have := (ownBlock_ge hrow2 e.symm).1; omega); have hc3 := hv3.cell; have hf3 := hv3.frozen; have hm3 : w3.cell? ⟨w.heap.size, 0, none⟩ = some (.int .i64 most) := (World.cell?_of_block (a := ⟨w.heap.size, 0, none⟩) ((hg3.block w.heap.size (by simp; omega) (fun e => by have := (ownBlock_ge hrow2 e.symm).1; omega)).trans (Below.heap_alloc _ _ _ (by omega)))).trans hm2))
      all_goals
        obtain ⟨W4, hW4⟩ : ∃ W4, w3.setCell ⟨w.heap.size + 1, 0, none⟩ (.slice (some ⟨g', 0, none⟩) (k + 1) cap') = W4 := ⟨_, rfl⟩
        have hkeep : ∀ b, b < Wb.heap.size → b ≠ w.heap.size + 1 → v.ownBlock ≠ some b → W4.heap[b]? = Wb.heap[b]? := fun b hb h1 h2 => by
          rw [← hW4]
          exact (Below.heap_setCell w3 ⟨w.heap.size + 1, 0, none⟩ _ b h1).trans ((hg3.block b (by simp; omega) (fun e => h2 e.symm)).trans (Below.heap_alloc _ _ b hb))
        have hsmall : ∀ b, b < w.heap.size + 11 → v.ownBlock ≠ some b := fun b hb e => by have := (ownBlock_ge hrow2 e).1; omega
        have hl4 : W4.heap[w.heap.size + 4 + 1]? = some (.loop { r with state := .busy }) := (hkeep _ (by omega) (by omega) (hsmall _ (by omega))).trans hLb
        have hbox4 : Boxed W4 (w.heap.size + 1) 27 (.slice (some ⟨g', 0, none⟩) (k + 1) cap') := by rw [← hW4]; exact hv3.set _
        have hown4 : W4.ownsRow (w.heap.size + 11) 25 1 (.slice (some ⟨g', 0, none⟩) (k + 1) cap') (k + 1) (hdrs zs.length nn (ps ++ [(g, cap)])) := by
          have e1 : hdrs zs.length nn (ps ++ [(g, cap)]) = hdrs zs.length nn ps ++ [.slice (some ⟨g, 0, none⟩) e cap] := by
            unfold hdrs; rw [List.mapIdx_concat, hpl, he]
          rw [e1, ← hW4]
          exact ownsRow_block hown' fun x hx => Below.heap_setCell w3 ⟨w.heap.size + 1, 0, none⟩ _ x (by have := (ownBlock_ge hown' hx).1; show x ≠ w.heap.size + 1; omega)
        have hbel4 : Below w.heap.size w W4 := by
          rw [← hW4]
          exact ((hbe.alloc (by omega) _).grown hg3 (by simp; omega) (fun x hx => by have := (ownBlock_ge hrow2 hx).1; omega)).setCell (p := ⟨w.heap.size + 1, 0, none⟩) (by show w.heap.size ≤ w.heap.size + 1; omega) _
        have hpc4 : Pcs W4 (w.heap.size + 11) zs nn (ps ++ [(g, cap)]) := by
          have hcells : ∀ x cs, w.heap.size + 11 ≤ x → V.heap[x]? = some (.cells cs 5 (0, 0)) → W4.heap[x]? = V.heap[x]? := fun x cs hx hc => by
            have hxb : Wb.heap[x]? = some (.cells cs 5 (0, 0)) := (hob x (by omega)).trans hc
            refine (hkeep x (Array.getElem?_eq_some_iff.1 hxb).1 (by omega) (fun e => ?_)).trans (hob x (by omega))
            obtain ⟨cur, hcur⟩ := (ownBlock_ge hrow2 e).2.2
            rw [hxb] at hcur; cases hcur
          refine ⟨fun i p hp => ?_, hnd⟩
          rw [List.getElem?_append] at hp
          split at hp
          · exact (hpc.block hcells).at_ i p hp
          · rename_i hge
            have hi0 : i - ps.length = 0 := by
              rcases Nat.eq_zero_or_pos (i - ps.length) with h | h
              · exact h
              · rw [List.getElem?_eq_none (by simp; omega)] at hp; cases hp
            rw [hi0] at hp
            simp at hp
            subst hp
            obtain rfl : i = k := by omega
            obtain ⟨cs, hcs, hcs'⟩ := hP
            exact ⟨by show w.heap.size + 11 ≤ g; omega, cs, (hcells g cs (by omega) hcs).trans hcs, hcs'⟩
        have hfinal : ∀ rX : Loop, CJ w zs nn most rX (k + 1) (W4.putObj (w.heap.size + 4 + 1) (.loop rX)) := fun rX => by
          have ho : ∀ b, b ≠ w.heap.size + 5 → (W4.putObj (w.heap.size + 4 + 1) (.loop rX)).heap[b]? = W4.heap[b]? := fun b hb => World.putObj_heap_other (by omega)
          refine ⟨hbel4.trans ⟨rfl, rfl, rfl, by simp, fun b hb => ho b (by omega)⟩, ?_, ⟨_, ps ++ [(g, cap)], (ho _ (by omega)).trans hbox4, ownsRow_block hown4 (fun x hx => ho x (by have := (ownBlock_ge hown4 hx).1; omega)), by simp [hpl],
            hpc4.block fun x cs hx _ => ho x (by omega)⟩, ?_, World.putObj_heap_same (Array.getElem?_eq_some_iff.1 hl4).1⟩
          · exact (ho _ (by omega)).trans ((hkeep _ (by omega) (by omega) (hsmall _ (by omega))).trans ((hob _ (by omega)).trans hC.b0))
          · exact (ho _ (by omega)).trans ((hkeep _ (by omega) (by omega) (hsmall _ (by omega))).trans ((hob _ (by omega)).trans hC.d))
        have hrange : ∀ rX : Loop, ∀ b, w.heap.size + 6 ≤ b → b < w.heap.size + 6 + 5 → (W4.putObj (w.heap.size + 4 + 1) (.loop rX)).heap[b]? = V.heap[b]? := fun rX b h1 h2 =>
          (World.putObj_heap_other (by omega)).trans ((hkeep b (by omega) (by omega) (hsmall b (by omega))).trans (hob b (by omega)))
        rw [hW4]
        clear hW4
      · rename_i hq
        have hq' : (k : Int) + 1 = most := by simpa using hq
        exact ⟨hl4, .inr ⟨rfl, hfinal _, by omega⟩, hrange _⟩
      · rename_i hq
        have hq' : (k : Int) + 1 ≠ most := by simpa using hq
        have := hJ.2
        exact ⟨hl4, .inl ⟨rfl, hfinal _, by omega⟩, hrange _⟩
  clear hr
  refine hpieces.mono ?_
  rintro e W2 ⟨hv, ⟨K, ⟨hK, hKm⟩, hK1, hK2⟩ | ⟨K, ⟨hK, hKm⟩, hK2⟩⟩
  · refine ⟨hv, .inl ⟨hK.l, ?_⟩⟩
    obtain ⟨hB, hd, v, ps, hb1, hrow, hpl, hpc⟩ := hK.done (.loop { r with state := .exhausted }) (.deferred none)
    obtain ⟨V', hV'⟩ : ∃ V', W2.putObj (w.heap.size + 4 + 1) (.loop { r with state := .exhausted }) = V' := ⟨_, rfl⟩
    rw [hV'] at hB hd hb1 hrow hpc ⊢
    clear hV'
    have hcl : V'.cell? ⟨w.heap.size + 1, 0, none⟩ = some v := by rw [World.cell_blk hb1]; rfl
    gi_wp2
    refine ⟨by simp, .inl ⟨_, _, rfl, run_takeDeferred hd, ?_⟩⟩
    exact ⟨_, results_tmp rfl _ _ _, hB, v, K, ps, rfl, by rw [← hl]; exact hrow, hpl, hpc, .inr ⟨hKm, by omega⟩, fun k hk => by have := hK2 k hk; omega⟩
  · refine ⟨hv, .inr ⟨.exit 0, hK.l, ?_⟩⟩
    obtain ⟨hB, hd, v, ps, hb1, hrow, hpl, hpc⟩ := hK.done (.loop { r with state := .exhausted, pending := some (.exit 0) }) (.deferred none)
    obtain ⟨V', hV'⟩ : ∃ V', W2.putObj (w.heap.size + 4 + 1) (.loop { r with state := .exhausted, pending := some (.exit 0) }) = V' := ⟨_, rfl⟩
    rw [hV'] at hB hd hb1 hrow hpc ⊢
    clear hV'
    have hcl : V'.cell? ⟨w.heap.size + 1, 0, none⟩ = some v := by rw [World.cell_blk hb1]; rfl
    gi_wp2
    refine ⟨by simp, .inl ⟨_, _, rfl, run_takeDeferred hd, ?_⟩⟩
    exact ⟨_, results_tmp rfl _ _ _, hB, v, K + 1, ps, rfl, by rw [← hl]; exact hrow, hpl, hpc, .inl hKm, fun k hk => by have := hK2 k hk; omega⟩
end Go.Proofs.Ytkmgcggoemlaaaa.cuts
