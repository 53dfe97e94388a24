/-
  The law Cuts, part 5: Collect where the pieces' length is below 1.
  No condition.
-/
import Derived.Test.YtkmgcggoemlaaaaCutD
namespace Go.Proofs.Ytkmgcggoemlaaaa.cuts
open Go.RowKit Go.Shelf
attribute [local go_sem] Oper.semAt_some

set_option maxHeartbeats 1000000 in
theorem pieces1_low (n l Bn0 Bp0 : Nat) (m : Int) (hm : m < 1) (W : World) (hBn : W.cell? ⟨Bn0, 0, none⟩ = some (.int .i64 m)) :
    CallsIn Fence.wide n Try.prog 12 #[.func (.yield l) #[] #[], .pointer (some ⟨Bn0, 0, none⟩), .pointer (some ⟨Bp0, 0, none⟩)] W fun e W' => (∃ v, e = .returned v) ∧ W' = W.alloc (.cells #[.func (.yield l) #[] #[]] 33) := by
  have hBn' : Bn0 < W.heap.size := block_lt_of_cell hBn
  refine callsIn_of_wp Try.func12 rfl trivial ?_ rfl
  simp only [Try.ntmps12, List.size_toArray, List.length_cons, List.length_nil, Nat.reduceAdd, Nat.reduceSub, Array.replicate_succ, Array.replicate_zero, List.push_toArray, List.append_toArray, List.nil_append, List.cons_append]
  gi_wp2
  refine bodyPost_ret (results_none rfl _ _ _) rfl ?_
  exact ⟨⟨_, rfl⟩, rfl⟩

set_option maxRecDepth 100000 in
set_option maxHeartbeats 2000000 in
theorem collect_low (n : Nat) (v0 : Value) (m most : Int) (hv : ∃ a l c, v0 = .slice a l c) (hn : 5 ≤ n) (hm0 : m < 1) (hm : 0 < most) (w : World) :
    CallsIn Fence.wide n Try.prog 8 #[v0, .int .i64 m, .int .i64 most] w fun e w' => e = .returned (.slice none 0 0) ∧ Below w.heap.size w w' := by
  obtain ⟨a0, l0, c0, rfl⟩ := hv
  refine callsIn_of_wp_marks Try.func8 rfl trivial ?_ rfl
  simp only [Try.ntmps8, List.size_toArray, List.length_cons, List.length_nil, Nat.reduceAdd, Nat.reduceSub, Array.replicate_succ, Array.replicate_zero, List.push_toArray, List.append_toArray, List.nil_append, List.cons_append]
  gi_wp2
  refine ⟨trivial, fun _ => by omega, (pieces_ok _ _ _ ⟨_, _, _, rfl⟩ _).mono ?_⟩
  rintro e w' ⟨rfl, rfl⟩
  gi_wp2
  refine range_in rfl (by omega) (gf := 12) (lb := #[.pointer (some ⟨w.heap.size + 3, 0, none⟩), .pointer (some ⟨w.heap.size + 2, 0, none⟩)]) (by simp [Act.eval]) trivial (enters_of Try.func12 (by kernel_rfl) rfl) ?_
  intro fn _ r W1 hr hW1
  obtain ⟨W5, hW5⟩ : ∃ W5, (((w.alloc (.cells #[.int .i64 most] 3)).alloc (.cells #[.slice none 0 0] 27)).alloc (.cells #[.slice a0 l0 c0] 25)).alloc (.cells #[.int .i64 m] 3) = W5 := ⟨_, rfl⟩
  rw [hW5] at hW1 hr ⊢
  have hs5 : W5.heap.size = w.heap.size + 4 := by rw [← hW5]; simp
  rw [hs5] at hr ⊢
  have hold : ∀ b, b < W5.heap.size → W1.heap[b]? = W5.heap[b]? := fun b hb => by
    rw [hW1]; exact (Below.heap_alloc _ _ b (by simp; omega)).trans (Below.heap_alloc _ _ b hb)
  have h51 : W5.heap[w.heap.size + 1]? = some (.cells #[.slice none 0 0] 27 (0, 0)) := by
    rw [← hW5]
    refine (Below.heap_alloc _ _ _ (by simp)).trans ((Below.heap_alloc _ _ _ (by simp)).trans ?_)
    have := World.alloc_heap_new (w.alloc (.cells #[.int .i64 most] 3)) (.cells #[.slice none 0 0] 27)
    rwa [World.size_alloc] at this
  have h53 : W5.heap[w.heap.size + 3]? = some (.cells #[.int .i64 m] 3 (0, 0)) := by
    rw [← hW5]
    have := World.alloc_heap_new (((w.alloc (.cells #[.int .i64 most] 3)).alloc (.cells #[.slice none 0 0] 27)).alloc (.cells #[.slice a0 l0 c0] 25)) (.cells #[.int .i64 m] 3)
    rwa [World.size_alloc, World.size_alloc, World.size_alloc] at this
  have hb5 : Below w.heap.size w W5 := by
    rw [← hW5]
    exact ((((Below.refl _ w).alloc (Nat.le_refl _) _).alloc (by simp) _).alloc (by simp; omega) _).alloc (by simp; omega) _
  have hd1 : W1.heap[w.heap.size + 4]? = some (.deferred (some [])) := by
    rw [hW1, ← hs5]; exact (Below.heap_alloc _ _ _ (by simp)).trans (World.alloc_heap_new W5 _)
  have hl1 : W1.heap[w.heap.size + 5]? = some (.loop r) := by
    rw [hW1]
    have := World.alloc_heap_new (W5.alloc (.deferred (some []))) (.loop r)
    rwa [World.size_alloc, hs5] at this
  have hb1 : Below w.heap.size w W1 := by rw [hW1]; exact (hb5.alloc hb5.size _).alloc (by have := hb5.size; simp; omega) _
  have hs1 : W1.heap.size = w.heap.size + 6 := by rw [hW1]; simp; omega
  clear hW5
  refine (pieces1_low (n - 1) (w.heap.size + 4 + 1) (w.heap.size + 3) (w.heap.size + 2) m hm0 W1 (by rw [World.cell_blk ((hold _ (by omega)).trans h53)]; rfl)).mono ?_
  rintro e W2 ⟨hv, hW2⟩
  have h2 : ∀ b, b < w.heap.size + 6 → W2.heap[b]? = W1.heap[b]? := fun b hb => by rw [hW2]; exact Below.heap_alloc _ _ b (by omega)
  refine ⟨hv, .inl ⟨(h2 _ (by omega)).trans hl1, ?_⟩⟩
  obtain ⟨V', hV'⟩ : ∃ V', W2.putObj (w.heap.size + 4 + 1) (.loop { r with state := .exhausted }) = V' := ⟨_, rfl⟩
  have hcl : V'.cell? ⟨w.heap.size + 1, 0, none⟩ = some (.slice none 0 0) := by
    rw [← hV', World.cell_blk ((World.putObj_heap_other (by omega)).trans ((h2 _ (by omega)).trans ((hold _ (by omega)).trans h51)))]; rfl
  have hd : V'.heap[w.heap.size + 4]? = some (.deferred (some [])) := by rw [← hV']; exact (World.putObj_heap_other (by omega)).trans ((h2 _ (by omega)).trans hd1)
  have hB : Below w.heap.size w V' := by
    rw [← hV', hW2]
    exact (hb1.alloc hb1.size _).trans ⟨rfl, rfl, rfl, by simp, fun b hb => World.putObj_heap_other (by omega)⟩
  rw [hV']
  clear hV' hr hW1
  gi_wp2
  refine ⟨by simp, .inl ⟨_, _, rfl, run_takeDeferred hd, ?_⟩⟩
  exact ⟨_, results_tmp rfl _ _ _, rfl, hB.trans ⟨rfl, rfl, rfl, by simp, fun b hb => World.putObj_heap_other (by omega)⟩⟩
end Go.Proofs.Ytkmgcggoemlaaaa.cuts
