/-
  The law Cuts, part 2: the closure of slices.Chunk.
  No condition.
-/
import Derived.RangeFuncNested
import Derived.RangeFuncBound
import Derived.RangeFuncCalls
import Derived.RangeFuncLeaves
import Derived.Shelf.Abstract
import Derived.WalkKit
import Derived.OwnWalkIn
import Derived.TacticsInMore
import Derived.LoopNIn
import Derived.LoopIn
import Derived.Test.YtkmgcggoemlaaaaCutA
namespace Go.Proofs.Ytkmgcggoemlaaaa.cuts
open Go.RowKit Go.Shelf
attribute [local go_sem] Oper.semAt_some

/-- How long piece number k is. -/
def plen (len n k : Nat) : Nat := min n (len - k * n)

set_option maxRecDepth 100000 in
set_option maxHeartbeats 2000000 in
theorem chunk1_in (n l Bs Bn rb len nn : Nat) (h1 : 1 ≤ n) (hlen : len ≤ 65536) (hnn : 1 ≤ nn) (hnm : nn ≤ 9223372036854775807) (J Jx : Nat → World → Prop)
    (hJ : ∀ k W, J k W → W.cell? ⟨Bs, 0, none⟩ = some (.slice (some ⟨rb, 0, none⟩) len (len + 2)) ∧ W.cell? ⟨Bn, 0, none⟩ = some (.int .i64 (nn : Nat)))
    (hJd : ∀ k W, J k W → J k W.drew)
    (hY : ∀ k W, J k W → k * nn < len → YieldAt Fence.wide (n - 1) Try.prog l #[.slice (some ⟨rb, k * nn, none⟩) (plen len nn k) (plen len nn k)] W fun e W' => (e = .returned (.bool true) ∧ J (k + 1) W') ∨ (e = .returned (.bool false) ∧ Jx (k + 1) W'))
    (W : World) (h0 : J 0 W) :
    CallsIn Fence.wide n Try.prog 15 #[.func (.yield l) #[] #[], .pointer (some ⟨Bs, 0, none⟩), .pointer (some ⟨Bn, 0, none⟩)] W fun e W' => (∃ v, e = .returned v) ∧
      ((∃ K, J K W' ∧ len ≤ K * nn ∧ ∀ k, k < K → k * nn < len) ∨ ∃ K, Jx (K + 1) W' ∧ ∀ k, k < K + 1 → k * nn < len) := by
  refine callsIn_of_wp Try.func15 rfl trivial ?_ rfl
  simp only [Try.ntmps15, List.size_toArray, List.length_cons, List.length_nil, Nat.reduceAdd, Nat.reduceSub, Array.replicate_succ, Array.replicate_zero, List.push_toArray, List.append_toArray, List.nil_append, List.cons_append]
  gi_wp2
  gi_loopw [4] (fun i wr => ∃ k : Nat, i = .int .i64 ((k * nn : Nat) : Int) ∧ J k wr ∧ ∀ j, j < k → j * nn < len)
    (fun i _ => len - (intOf i).toNat)
  case atStart => exact ⟨0, by simp, h0, fun j hj => absurd hj (by omega)⟩
  case round =>
    obtain ⟨k, rfl, hJs, hkl⟩ := hrel
    obtain ⟨hs, hb⟩ := hJ k wr hJs
    obtain ⟨q, hq⟩ : ∃ q, k * nn = q := ⟨_, rfl⟩
    rw [hq]
    by_cases hlt : q < len
    · have hY' := hY k wr.drew (hJd k wr hJs) (by omega)
      obtain ⟨fn, tmps, assign, body, hy, hR⟩ := hY'
      rw [hq] at hy
      have hov : q + nn ≤ 9223372036854775807 := by
        rcases Nat.eq_zero_or_pos k with h | h
        · subst h; simp at hq; omega
        · have : 1 * nn ≤ k * nn := Nat.mul_le_mul_right _ h
          omega
      have hk1 : (k + 1) * nn = q + nn := by rw [Nat.succ_mul, hq]
      have hkl' : ∀ j, j < k + 1 → j * nn < len := fun j hj => by
        rcases Nat.lt_or_ge j k with h | h
        · exact hkl j h
        · obtain rfl : j = k := by omega
          omega
      have HK := Lib.hid hkl'; clear hkl' hkl
      by_cases hsm : len - q < nn
      · have e : plen len nn k = len - q := by unfold plen; rw [hq]; omega
        rw [e] at hy
        clear e
        gi_wp2
        gi_region
        gi_wp2
        refine hR.mono ?_
        rintro e W3 (⟨rfl, hJ3⟩ | ⟨rfl, hJx3⟩)
        · obtain ⟨hs3, hb3⟩ := hJ (k + 1) W3 hJ3
          gi_wp2
          go_roundw
          case rel => exact ⟨k + 1, by rw [hk1]; go_num, hJ3, HK.out⟩
          case measure => simp [intOf]; omega
        · gi_wp2
          refine bodyPost_ret (results_none rfl _ _ _) rfl ?_
          exact ⟨⟨_, rfl⟩, .inr ⟨k, hJx3, HK.out⟩⟩
      · have e : plen len nn k = nn := by unfold plen; rw [hq]; omega
        rw [e] at hy
        clear e
        gi_wp2
        gi_region
        gi_wp2
        refine hR.mono ?_
        rintro e W3 (⟨rfl, hJ3⟩ | ⟨rfl, hJx3⟩)
        · obtain ⟨hs3, hb3⟩ := hJ (k + 1) W3 hJ3
          gi_wp2
          go_roundw
          case rel => exact ⟨k + 1, by rw [hk1]; go_num, hJ3, HK.out⟩
          case measure => simp [intOf]; omega
        · gi_wp2
          refine bodyPost_ret (results_none rfl _ _ _) rfl ?_
          exact ⟨⟨_, rfl⟩, .inr ⟨k, hJx3, HK.out⟩⟩
    · gi_wp2
      go_end0
      exact ⟨⟨_, rfl⟩, .inl ⟨k, hJs, by omega, hkl⟩⟩

/-! ### a round; the statement -/
/-- How a round's body may be left. -/
def endPost (l : Nat) (r : Loop) (R : Ending → World → Prop) : Exit → Act → World → Prop
  | .normal, _, W => W.heap[l]? = some (.loop { r with state := .busy }) ∧ R (.returned (.bool true)) (W.putObj l (.loop r))
  | .ret, _, W => W.heap[l]? = some (.loop { r with state := .busy }) ∧ R (.returned (.bool false)) (W.putObj l (.loop { r with state := .done, pending := some .ret }))
  | .exit id, _, W => W.heap[l]? = some (.loop { r with state := .busy }) ∧ R (.returned (.bool false)) (W.putObj l (.loop { r with state := .done, pending := some (.exit id) }))
  | _, _, _ => False

theorem yield_round {F : Fence} {n l : Nat} {P : Program} {W : World} {r : Loop} {args : Array Value} {R : Ending → World → Prop} (hl : W.heap[l]? = some (.loop r)) (hs : r.state = .ready) (hp : r.pending = none) (hfn : F.fn r.fn)
    (hargs : args.size = r.params.size) (a1 : Act)
    (hassign : ∀ K : Act → World → Prop, K a1 W → r.assign.wpIn (F.inRound l) n P (Exit.then K (fun _ _ _ => False)) { tmps := (r.params.zip args).foldl (fun tmps (t, a) => tmps.setIfInBounds t a) r.tmps, defers := [] } W)
    (hbody : ∀ Wb, Wb = W.putObj l (.loop { r with state := .busy }) → Wb.heap[l]? = some (.loop { r with state := .busy }) → r.body.wpIn (F.inRound l) n P (endPost l r R) a1 Wb) : YieldAt F n P l args W R := by
  have hlt : l < W.heap.size := (Array.getElem?_eq_some_iff.1 hl).1
  refine ⟨r.fn, _, r.assign, r.body, run_yield hl hargs, roundIn_of_wpIn hfn (hassign _ ⟨_, run_beginRound hl hs, ?_⟩)⟩
  refine wpIn_mono (hbody _ rfl (World.putObj_heap_same hlt)) ?_
  obtain ⟨st, pe, rfn, rt, rp, ra, rb, rd⟩ := r
  simp only at hs hp
  subst hs; subst hp
  rintro e a3 W3 hq
  cases e with
  | normal => exact ⟨_, _, run_endRound none hq.1, hq.2⟩
  | ret => exact ⟨_, _, run_endRound (some .ret) hq.1, hq.2⟩
  | exit id => exact ⟨_, _, run_endRound (some (.exit id)) hq.1, hq.2⟩
  | goto t => exact hq.elim
  | panic ch => exact hq.elim
  | outgrown => exact hq.elim

theorem range_in {F : Fence} {n : Nat} {P : Program} {w : World} {g : Operand} {ps : Array Tmp} {assign body : Code} {Q : Exit → Act → World → Prop} {a : Act} (hro : F.round = none) (h1 : 1 ≤ n) {gf : Nat} {lb : Array Value}
    (hg : a.eval g = .func (.func gf) #[] lb) (hFg : F.fn gf) (eg : ∀ args w, (callFunc gf args).run P w = .ok (.enter gf args) w)
    (h : ∀ fn, F.fn fn → ∀ (r : Loop) (W1 : World), r = { state := .ready, pending := none, fn, tmps := a.tmps, params := ps, assign, body, defers := w.heap.size } → W1 = (w.alloc (.deferred (some []))).alloc (.loop r) →
      CallsIn F (n - 1) P gf (#[.func (.yield (w.heap.size + 1)) #[] #[]] ++ lb) W1 fun e W2 => (∃ v, e = .returned v) ∧
        ((W2.heap[w.heap.size + 1]? = some (.loop r) ∧ Q .normal { a with defers := { target := .collected w.heap.size, args := #[] } :: a.defers } (W2.putObj (w.heap.size + 1) (.loop { r with state := .exhausted }))) ∨
         ∃ c, W2.heap[w.heap.size + 1]? = some (.loop { r with state := .done, pending := some c }) ∧
           c.wpIn F n P Q { a with defers := { target := .collected w.heap.size, args := #[] } :: a.defers } (W2.putObj (w.heap.size + 1) (.loop { r with state := .exhausted, pending := some c })))) :
    (Code.rangeFunc g ps assign body).wpIn F n P Q a w := by
  refine wpIn_rangeFunc fun fn hfn => ?_
  rw [hro]
  obtain ⟨r, hr⟩ : ∃ r : Loop, r = { state := .ready, pending := none, fn, tmps := a.tmps, params := ps, assign, body, defers := w.heap.size } := ⟨_, rfl⟩
  refine ⟨w.heap.size + 1, [{ target := .collected w.heap.size, args := #[] }], (w.alloc (.deferred (some []))).alloc (.loop r), { target := .fn (.func gf) lb, args := #[.func (.yield (w.heap.size + 1)) #[] #[]] }, (w.alloc (.deferred (some []))).alloc (.loop r), gf,
    #[.func (.yield (w.heap.size + 1)) #[] #[]] ++ lb, (w.alloc (.deferred (some []))).alloc (.loop r), ?_, ?_, ?_, ?_, fun _ => h1, ?_⟩
  · rw [hr]; exact run_enterLoop_outer _ _ _ _ _
  · simp only [resolve, hg]
    simp [go_sem]
  · intro f' hf'; simp [Target.leads] at hf'; subst hf'; exact hFg
  · simp [invoke, go_sem, eg]
  · refine (h fn hfn r _ hr rfl).mono ?_
    rintro e W2 ⟨⟨v, rfl⟩, ⟨hl, hq⟩ | ⟨c, hl, hq⟩⟩
    · have he := run_endLoop (P := P) hl (by rw [hr]; simp)
      rw [show r.pending = none by rw [hr]] at he
      refine ⟨none, _, he, ?_⟩
      rw [show r.pending = none by rw [hr]] at hq
      exact hq
    · exact ⟨some c, _, run_endLoop (P := P) hl (by simp), hq⟩
end Go.Proofs.Ytkmgcggoemlaaaa.cuts
