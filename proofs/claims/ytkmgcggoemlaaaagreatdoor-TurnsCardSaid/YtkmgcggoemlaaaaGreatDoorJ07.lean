/-
  Part 7 of the common ground of this seat: what single parts show stands ahead of each.
  No condition.
-/
import Derived.Test.YtkmgcggoemlaaaaGreatDoorJ06
import Derived.Conc.Beside
import Derived.Conc.CrowdComm
import Derived.Conc.Token

section
/- Goroutine 0 beside leavers: its private steps are carried out by the machine. No condition. -/
set_option linter.unusedVariables false
set_option linter.unusedSimpArgs false
namespace Go.Fw
open Go Go.Conc
open Go.ConcN (sumTo upd sumTo_upd upd_ne upd_same)
variable {P : Program} {FN : FuncId → Bool}

/-! ### the trace -/
structure PastT (t : Trace) : Prop where
  clean : ∀ said, ¬ Race said t
  known : ∀ i a, touchAt t i = some a → a.loc.isMemory = true → Knows t 0 i
  hears : Deaf t 0 = 0

def NoWord (e : Event) : Prop := e.loc ≠ .mark .disable ∧ e.loc ≠ .mark .enable

theorem deafBehind_noWord {d : Nat} {es : Array Event} (h : ∀ e ∈ es, NoWord e) : deafBehind d es = d := by
  unfold deafBehind
  obtain ⟨l⟩ := es
  simp only [List.foldl_toArray']
  induction l generalizing d with
  | nil => rfl
  | cons e l ih =>
    rw [List.foldl_cons]
    obtain ⟨h1, h2⟩ := h e (by simp)
    have ih' := @ih d fun e' he' => h e' (by simp at he' ⊢; exact .inr he')
    split
    · rename_i hx; exact absurd hx h1
    · rename_i hx; exact absurd hx h2
    · exact ih'

theorem EvR.noWord {G : Nat} {γ : Ren G} {w W : World} {e : Event} (h : EvR γ w W e) : NoWord e := by
  rcases h with ⟨A, h, _⟩ | ⟨m, h, hm⟩ | ⟨R, b, h, _⟩
  · exact ⟨by rw [h]; simp, by rw [h]; simp⟩
  · constructor <;> (intro hx; rw [h] at hx; cases hx; exact hm)
  · exact ⟨by rw [h]; simp, by rw [h]; simp⟩

theorem PastT.app0 {t u : Trace} (h : PastT t) (hu : ∀ op ∈ u, op.g = 0) (hd : Deaf (t ++ u) 0 = Deaf t 0) : PastT (t ++ u) := by
  refine ⟨fun said => noRace_append (h.clean said) hu fun i a ha op hop b hb hc => h.known i a ha hc.2.1, fun i a ha hm => ?_, hd.trans h.hears⟩
  obtain ⟨x, hx, hxa⟩ := touch_of ha
  rcases getElem?_append_cases hx with ⟨_, hx'⟩ | ⟨_, hxu⟩
  · exact (h.known i a (by rw [touchAt_of hx']; exact hxa) hm).app u
  · have := knows_own hx
    rw [hu x hxu] at this
    exact this
theorem PastT.own {t : Trace} (h : PastT t) {fn : FuncId} {pos : String} {es : Array Event} (he : ∀ e ∈ es, NoWord e) : PastT (t ++ MemOp.ofEvents 0 fn pos es) :=
  h.app0 (fun op hop => by obtain ⟨e, _, rfl⟩ := Go.Conc.mem_ofEvents hop; rfl) (by rw [Deaf_own, deafBehind_noWord he])
theorem PastT.mute {t : Trace} (h : PastT t) {g : Nat} (hg : g ≠ 0) {fn : FuncId} {pos : String} {es : Array Event} (he : ∀ e ∈ es, e.mute = true) : PastT (t ++ MemOp.ofEvents g fn pos es) := by
  have hu : ∀ op ∈ MemOp.ofEvents g fn pos es, op.g = g := fun op hop => by obtain ⟨e, _, rfl⟩ := Go.Conc.mem_ofEvents hop; rfl
  have hn : ∀ op ∈ MemOp.ofEvents g fn pos es, op.act.touch? = none := fun op hop => by obtain ⟨e, h1, rfl⟩ := Go.Conc.mem_ofEvents hop; exact touch_mute (he e h1)
  refine ⟨fun said => noRace_append (h.clean said) hu fun i a ha op hop b hb hc => (by rw [hn op hop] at hb; cases hb), fun i a ha hm => ?_, (Deaf_other t hg _ hu).trans h.hears⟩
  obtain ⟨x, hx, hxa⟩ := touch_of ha
  rcases getElem?_append_cases hx with ⟨_, hx'⟩ | ⟨_, hxu⟩
  · exact (h.known i a (by rw [touchAt_of hx']; exact hxa) hm).app _
  · rw [hn x hxu] at hxa; cases hxa
theorem PastT.over {t : Trace} (h : PastT t) : t.HandedOver := by
  rintro i g hg hne ⟨x, hx, hm, _⟩
  obtain ⟨q, z, h1, h2, h3⟩ := h.known i x hx hm
  refine ⟨q, by simp [Trace.g?, h1, h2], ?_⟩
  rcases h3 with rfl | h3
  · simp only [Trace.g?, h1, Option.map_some, Option.some.injEq] at hg
    exact absurd (hg.symm.trans h2) hne
  · exact h3
theorem pastT_nil : PastT #[] := ⟨fun said => by rintro ⟨i, j, _, ⟨a, b, ha, _⟩, _⟩; simp [Trace.act?] at ha, fun i a ha => by simp [touchAt, Trace.act?] at ha, rfl⟩

/-! ### the machine's rest -/
/-- A block that no private step can turn. -/
def Fz (w : World) (b : Nat) : Prop := FrzAll w b ∨ ∃ a l, w.heap[b]? = some (.number a l)
theorem Fz.keep {β γ : Ren P.globals.size} {w W w' W' : World} (hr : RunR FN β γ w W w' W') {b B : Nat} (hb : β.f b = some B) (h : Fz w b) : W'.heap[B]? = W.heap[B]? ∧ w'.heap[b]? = w.heap[b]? ∧ Fz w' b := by
  rcases h with h | ⟨a, l, h⟩
  · exact ⟨(hr.keepF b B hb h).1, (hr.keepF b B hb h).2, .inl (h.of_fz hr.fz)⟩
  · obtain ⟨h1, h2⟩ := hr.keepN b B a l hb h
    exact ⟨h2, h1, .inr ⟨a, l, h1.trans h⟩⟩

/-- What is known of the machine while goroutine 0 is the only one that does more than leave. 'N0', 'W0': the blocks that were there at the beginning stand; 'Ch': channels that have been made, and not used yet. -/
structure CfgR (P : Program) (FN : FuncId → Bool) (N0 : Nat) (W0 : World) (Ch : List Nat) (fs : List Frame) (w : World) (β : Ren P.globals.size) (gs : Array Goroutine) (W : World) (t : Trace) (q : Nat → Nat) : Prop where
  g0 : ∃ FS, gs[0]? = some (gorL FS) ∧ FrsR P FN β fs FS
  wr : WR FN β w W
  lv : Leavers P t gs q
  past : PastT t
  n0 : N0 ≤ W.heap.size
  old : ∀ B, B < N0 → W.heap[B]? = W0.heap[B]?
  oldf : ∀ b B, β.f b = some B → B < N0 → Fz w b
  os : W.os = W0.os
  out : W.output = W0.output
  tp : W.tape = W0.tape
  ch : ∀ c ∈ Ch, N0 ≤ c ∧ W.heap[c]? = some (.chan 0 #[] false 0 0 false)
  chd : Ch.Nodup

/-- From here the machine comes to a good end. -/
def CEnds (P : Program) (FN : FuncId → Bool) (N0 : Nat) (W0 : World) (Post : Value → World → Prop) (Ch : List Nat) (fs : List Frame) (w : World) : Prop :=
  ∀ (β : Ren P.globals.size) (gs : Array Goroutine) (W : World) (sl : Option (Nat × Nat)) (t : Trace) (q : Nat → Nat), CfgR P FN N0 W0 Ch fs w β gs W t q →
    ∃ N last o w' t', runNT P (N + 1) (crowd gs W sl) t = (.ended o w', t') ∧ runN P N (crowd gs W sl) = .next last ∧ step P last = .ended o w' ∧ Good P Post last o w' t'

theorem run_more {M M' : Machine} {t ops : Trace} {Q : Machine → Outcome → World → Trace → Prop} (hs : stepT P M = (.next M', ops)) (h : ∃ N last o w' t', runNT P (N + 1) M' (t ++ ops) = (.ended o w', t') ∧ runN P N M' = .next last ∧ step P last = .ended o w' ∧ Q last o w' t') :
    ∃ N last o w' t', runNT P (N + 1) M t = (.ended o w', t') ∧ runN P N M = .next last ∧ step P last = .ended o w' ∧ Q last o w' t' := by
  obtain ⟨N, last, o, w', t', h1, h2, h3, h4⟩ := h
  refine ⟨N + 1, last, o, w', t', ?_, ?_, h3, h4⟩
  · rw [runNT, hs]; exact h1
  · rw [runN, show step P M = .next M' by rw [step, hs]]; exact h2

theorem chan_notin {β : Ren P.globals.size} {w W : World} (h : WR FN β w W) {c : Nat} {cap : Nat} {buf : Array Value} {cl : Bool} {s r : Nat} {tm : Bool} (hc : W.heap[c]? = some (.chan cap buf cl s r tm)) (b : Nat) : β.f b ≠ some c := by
  intro hb
  rcases h.blk b c hb with ⟨c', C, t', fr', FR, e1, e2, _⟩ | ⟨a, A, l, g1, g2, _⟩
  · rw [hc] at e2; cases e2
  · rw [hc] at g2; cases g2

/-- An own step keeps what is known of the rest. -/
theorem keep_old {β γ : Ren P.globals.size} {w W w' W' : World} (hr : RunR FN β γ w W w' W') {N : Nat} (hN : N ≤ W.heap.size) (hf : ∀ b B, β.f b = some B → B < N → Fz w b) :
    (∀ B, B < N → W'.heap[B]? = W.heap[B]?) ∧ ∀ b B, γ.f b = some B → B < N → Fz w' b := by
  refine ⟨fun B hB => ?_, fun b B hb hB => ?_⟩
  · by_cases h : ∃ b, β.f b = some B
    · obtain ⟨b, hb⟩ := h
      exact ((hf b B hb hB).keep hr hb).1
    · exact hr.keep B (by omega) fun b hb => h ⟨b, hb⟩
  · rcases hr.new_ b B hb with h | ⟨_, h, _⟩
    · exact ((hf b B h hB).keep hr h).2.2
    · omega

theorem gorL_running {fs : List Frame} (h : fs ≠ []) : (gorL fs).status = .running := by
  cases fs with
  | nil => exact absurd rfl h
  | cons _ _ => rfl
theorem frs_ne {β : Ren P.globals.size} {fs FS : List Frame} (h : FrsR P FN β fs FS) (hne : fs ≠ []) : FS ≠ [] := by
  cases h with
  | nil => exact absurd rfl hne
  | cons _ _ => simp

/-- Who moves beside leavers: goroutine 0, or a leaver. -/
theorem leaver_step {gs : Array Goroutine} {W : World} {sl : Option (Nat × Nat)} {t : Trace} {q : Nat → Nat} {a : Goroutine} (h0 : gs[0]? = some a) (hrun : a.status = .running) (hL : Leavers P t gs q) (hP : PastT t) :
    (∃ d sl', stepT P (crowd gs W sl) = runT P (crowd gs (W.at d) sl') 0) ∨
      ∃ d sl' gs' ops q', stepT P (crowd gs W sl) = (.next (crowd gs' (W.at d) sl'), ops) ∧ gs'.size = gs.size ∧ gs'[0]? = some a ∧ Leavers P (t ++ ops) gs' q' ∧ PastT (t ++ ops) ∧ sumTo gs'.size q' < sumTo gs.size q := by
  have haw : ∀ g ∈ gs, awake g := by
    intro g hg
    obtain ⟨i, hi, rfl⟩ := Array.mem_iff_getElem.1 hg
    rcases Nat.eq_zero_or_pos i with rfl | hpos
    · have : gs[0] = a := by simpa [Array.getElem?_eq_getElem hi] using h0
      rw [this]; exact awake_of (.inl hrun)
    · exact awake_of ((hL.old i _ hpos (Array.getElem?_eq_getElem hi)).status.elim .inl fun x => .inr (.inr x))
  obtain ⟨i, g, d, sl', hi, hg, hst⟩ := crowd_pick (P := P) (w := W) (sl := sl) haw ⟨0, a, h0, hrun⟩
  rcases Nat.eq_zero_or_pos i with rfl | hpos
  · exact .inl ⟨d, sl', hst⟩
  · have hq := hL.old i g hpos hi
    have hi0 : (i == 0) = false := by simp; omega
    have hlt : i < gs.size := (Array.getElem?_eq_some_iff.1 hi).1
    cases hqi : q i with
    | zero => rw [hqi] at hq; rw [hq.1] at hg; cases hg
    | succ k =>
      rw [hqi] at hq
      rcases hq with ⟨hf, _⟩ | ⟨_, g', es, hm, hstp, hq'⟩
      · rw [hf] at hg; cases hg
      have hrunT := runT_crowd_go (P := P) (sl := sl') (i := i) hi (by rw [hi0]; exact hstp (W.at d))
      have hsz : ((gs.map (woken P g g' (W.at d))).setIfInBounds i g').size = gs.size := by simp
      have hsum : sumTo gs.size (upd q i k) + (k + 1) = sumTo gs.size q + k := by
        have := sumTo_upd q k id hlt
        simpa [hqi] using this
      refine .inr ⟨d, sl', (gs.map (woken P g g' (W.at d))).setIfInBounds i g', MemOp.ofEvents i g.frame.fn g.frame.place es, upd q i k, hst.trans hrunT, hsz, ?_, ⟨fun j x hj hx => ?_, fun j hj => ?_⟩, hP.mute (by omega) hm, by rw [hsz]; omega⟩
      · have hne : i ≠ 0 := by omega
        rw [Array.getElem?_setIfInBounds_ne hne, Array.getElem?_map, h0]
        simp [woken_run hrun]
      · by_cases hji : i = j
        · subst hji
          rw [Array.getElem?_setIfInBounds_self_of_lt (by simpa using hlt)] at hx
          obtain rfl := Option.some.inj hx
          rw [upd_same, Deaf_own]
          exact hq'
        · rw [Array.getElem?_setIfInBounds_ne hji, Array.getElem?_map] at hx
          obtain ⟨y, hy, rfl⟩ := Option.map_eq_some_iff.1 hx
          have hqj := hL.old j y hj hy
          rw [woken_quitsD hqj, upd_ne q k (Ne.symm hji), Deaf_other t hji _ (fun op hop => by obtain ⟨e, _, rfl⟩ := Go.Conc.mem_ofEvents hop; rfl)]
          exact hqj
      · rw [Deaf_other t (g' := i) (by simp at hj; omega) _ (fun op hop => by obtain ⟨e, _, rfl⟩ := Go.Conc.mem_ofEvents hop; rfl)]
        exact hL.above j (by simpa using hj)

/-- Leavers stay leavers behind a step of goroutine 0's. -/
theorem leavers_own {gs : Array Goroutine} {t : Trace} {q : Nat → Nat} {a a' : Goroutine} {W' : World} (h0 : gs[0]? = some a) (hL : Leavers P t gs q) {u : Trace} (hu : ∀ op ∈ u, op.g = 0) :
    Leavers P (t ++ u) ((gs.map (woken P a a' W')).setIfInBounds 0 a') q := by
  refine ⟨fun j x hj hx => ?_, fun j hj => ?_⟩
  · have hne : 0 ≠ j := by omega
    rw [Array.getElem?_setIfInBounds_ne hne, Array.getElem?_map] at hx
    obtain ⟨y, hy, rfl⟩ := Option.map_eq_some_iff.1 hx
    have hq := hL.old j y hj hy
    rw [woken_quitsD hq, Deaf_other t (by omega) _ hu]
    exact hq
  · have hlt : 0 < gs.size := (Array.getElem?_eq_some_iff.1 h0).1
    rw [Deaf_other t (g' := 0) (by simp at hj; omega) _ hu]
    exact hL.above j (by simpa using hj)

section
variable {N0 : Nat} {W0 : World} {Post : Value → World → Prop} {Ch : List Nat}

theorem CfgR.at_ {fs : List Frame} {w : World} {β : Ren P.globals.size} {gs gs' : Array Goroutine} {W : World} {t t' : Trace} {q q' : Nat → Nat} (h : CfgR P FN N0 W0 Ch fs w β gs W t q) (d : Nat) (h0 : gs'[0]? = gs[0]?) (hl : Leavers P t' gs' q') (hp : PastT t') :
    CfgR P FN N0 W0 Ch fs w β gs' (W.at d) t' q' := ⟨by rw [h0]; exact h.g0, h.wr.heap rfl rfl, hl, hp, h.n0, h.old, h.oldf, h.os, h.out, h.tp, h.ch, h.chd⟩

theorem cEnds_clo : Clo P FN (CEnds P FN N0 W0 Post Ch) where
  vac fs w h := fun β gs W sl t q hc => by
    obtain ⟨FS, _, h2⟩ := hc.g0
    exact (h β FS W h2 hc.wr).elim
  tp fs w tp h := fun β gs W sl t q hc => h β gs W sl t q ⟨hc.g0, hc.wr.tpd tp, hc.lv, hc.past, hc.n0, hc.old, hc.oldf, hc.os, hc.out, hc.tp, hc.ch, hc.chd⟩
  step fs w F K hne hneF hs hn := by
    intro β gs W sl t q hc
    generalize hM : sumTo gs.size q = M
    induction M using Nat.strongRecOn generalizing gs W sl t q with
    | _ M ih =>
      obtain ⟨FS, hg0, hfs⟩ := hc.g0
      have hrun : (gorL FS).status = .running := gorL_running (frs_ne hfs hne)
      rcases leaver_step (W := W) (sl := sl) hg0 hrun hc.lv hc.past with ⟨d, sl', hst⟩ | ⟨d, sl', gs', ops, q', hst, hsz, h0', hL', hP', hlt⟩
      · -- goroutine 0
        have ht := tp_tapeFor w (W.at d)
        obtain ⟨γ, FS', W', ES, h1, h2, h3, h4⟩ := hs (tapeFor w (W.at d)) β FS (W.at d) hfs ((hc.wr.tpd _).heap rfl rfl) ht
        have hgo := h3 (0 == 0)
        have hrunT := runT_crowd_go (P := P) (sl := sl') (i := 0) hg0 hgo
        have hlt0 : 0 < gs.size := (Array.getElem?_eq_some_iff.1 hg0).1
        refine run_more (hst.trans hrunT) (hn (tapeFor w (W.at d)) γ _ W' sl' _ q ⟨⟨FS', by simp [hlt0], h1⟩, h2.wr, leavers_own hg0 hc.lv fun op hop => by obtain ⟨e, _, rfl⟩ := Go.Conc.mem_ofEvents hop; rfl, hc.past.own fun e he => (h4 e he).noWord, ?_, fun B hB => ?_, ?_, h2.os.trans hc.os, h2.out.trans hc.out, h2.tape.trans hc.tp, fun c hcc => ?_, hc.chd⟩)
        · have h5 : W'.heap.size + w.heap.size = W.heap.size + (K (tapeFor w (W.at d))).heap.size := h2.size
          have h6 : w.heap.size ≤ (K (tapeFor w (W.at d))).heap.size := h2.grow
          have := hc.n0
          omega
        · exact ((keep_old h2 hc.n0 hc.oldf).1 B hB).trans (hc.old B hB)
        · exact (keep_old h2 hc.n0 hc.oldf).2
        · obtain ⟨g1, g2⟩ := hc.ch c hcc
          exact ⟨g1, (h2.keep c (Array.getElem?_eq_some_iff.1 g2).1 fun b hb => chan_notin hc.wr g2 b hb).trans g2⟩
      · exact run_more hst (ih (sumTo gs'.size q') (by omega) gs' (W.at d) sl' (t ++ ops) q' (hc.at_ d (by rw [h0', hg0]) hL' hP') rfl)

/-- The end of the whole call. -/
theorem CEnds.done {fr : Frame} {w : World} {fn : Func} (hm : fr.mode = .returning) (hd : fr.defers = []) (hk : fr.kind = .normal) (hf : P.funcs[fr.fn]? = some fn) (hr : fn.results.all okRes = true) (hi : P.inits.idxOf? fr.fn = none)
    (h : ∀ (β : Ren P.globals.size) V W, VR FN β (resV fn fr.tmps) V → WR FN β w W → (∀ B, B < N0 → W.heap[B]? = W0.heap[B]?) → N0 ≤ W.heap.size → W.os = W0.os → W.output = W0.output → W.tape = W0.tape → Post V W) : CEnds P FN N0 W0 Post Ch [fr] w := by
  intro β gs W sl t q hc
  generalize hM : sumTo gs.size q = M
  induction M using Nat.strongRecOn generalizing gs W sl t q with
  | _ M ih =>
    obtain ⟨FS, hg0, hfs⟩ := hc.g0
    have hrun : (gorL FS).status = .running := gorL_running (frs_ne hfs (by simp))
    rcases leaver_step (W := W) (sl := sl) hg0 hrun hc.lv hc.past with ⟨d, sl', hst⟩ | ⟨d, sl', gs', ops, q', hst, hsz, h0', hL', hP', hlt⟩
    · cases hfs with
      | cons x t' =>
        cases t' with
        | nil =>
          rename_i FR
          have hend : stepG P true (gorL [FR]) (W.at d) = .ended (.done (resV fn FR.tmps)) (W.at d) #[] := by
            have h1 := x.mode.trans hm
            have h2 := x.defers.trans hd
            have h3 := x.kind.2.trans hk
            have h4 : P.funcs[FR.fn]? = some fn := by rw [x.fn]; exact hf
            have h5 : P.inits.idxOf? FR.fn = none := by rw [x.fn]; exact hi
            cases FR
            simp only at h1 h2 h3 h4 h5
            subst h1 h2 h3
            have hs : ∀ f, seen P f #[] = #[] := fun f => by simp [seen]
            simp [gorL, gor, stepG, unwind, h4, results_eq hr, Sem.runT, GStep.after, doReturn, hs, Sem.run, h5]
          have hrunT := runT_many_ended (P := P) (sl := sl') (i := 0) hg0 (show stepG P (0 == 0) (gorL [FR]) (W.at d) = _ from hend)
          have hP' := hc.past.own (fn := (gorL [FR]).frame.fn) (pos := (gorL [FR]).frame.place) (es := #[]) (fun e he => by simp at he)
          have e0 : MemOp.ofEvents 0 (gorL [FR]).frame.fn (gorL [FR]).frame.place #[] = #[] := by simp [MemOp.ofEvents]
          rw [e0] at hrunT hP'
          refine ⟨0, crowd gs W sl, .done (resV fn FR.tmps), W.at d, t ++ #[], ?_, rfl, ?_, ?_⟩
          · rw [runNT, hst, hrunT]
          · rw [step, hst, hrunT]
          · refine ⟨_, rfl, h β _ (W.at d) (resV_rel x.tmps) (hc.wr.heap rfl rfl) hc.old hc.n0 hc.os hc.out hc.tp, hP'.clean, hP'.over, ⟨fun x hx => ?_, rfl⟩, fun j x hx hj => ?_⟩
            · obtain ⟨j, hj⟩ := List.mem_iff_getElem?.1 hx
              rw [List.getElem?_drop] at hj
              exact ⟨_, (hc.lv.old (1 + j) x (by omega) (by simpa [crowd] using hj)).leaves⟩
            · have hq := hc.lv.old j x (by omega) hx
              refine ⟨q j, ?_⟩
              have e : (t ++ #[]).deaf j (t ++ #[]).size = Deaf t j := by simp [Deaf]
              rw [e]
              exact hq.hears _
    · exact run_more hst (ih (sumTo gs'.size q') (by omega) gs' (W.at d) sl' (t ++ ops) q' (hc.at_ d (by rw [h0', hg0]) hL' hP') rfl)
end
end Go.Fw
end

section
/- A sender and a receiver: what each does alone, as scripts; the trace while both are at work. No condition. -/
set_option linter.unusedVariables false
set_option linter.unusedSimpArgs false
namespace Go.Fw
open Go Go.Conc
variable {P : Program} {FN : FuncId → Bool}

/-! ### scripts -/
def SimRecv (P : Program) (FN : FuncId → Bool) (c : Nat) (fs : List Frame) (z : Value) (nx : Value → Bool → List Frame) : Prop :=
  ∀ (β : Ren P.globals.size) (FS : List Frame), FrsR P FN β fs FS → ∃ Z, VR FN β z Z ∧ (∀ m W, stepG P m (gorL FS) W = .comm (gorL FS) #[rcase c Z] true (.recv true) W #[]) ∧
    ∀ v V ok, VR FN β v V → ∃ FS', FrsR P FN β (nx v ok) FS' ∧ FS' ≠ [] ∧ Go.Conc.served (gorL FS) (recvd true V ok) = gorL FS'
def SimSend (P : Program) (FN : FuncId → Bool) (c : Nat) (fs : List Frame) (v : Value) (fs' : List Frame) : Prop :=
  ∀ (β : Ren P.globals.size) (FS : List Frame), FrsR P FN β fs FS → ∃ V Z FS', VR FN β v V ∧ (∀ m W, stepG P m (gorL FS) W = .comm (gorL FS) #[scase c V Z] true .send W #[]) ∧ FrsR P FN β fs' FS' ∧ FS' ≠ [] ∧ Go.Conc.served (gorL FS) undef = gorL FS'
def SimClose (P : Program) (FN : FuncId → Bool) (c : Nat) (fs : List Frame) : Prop :=
  ∀ (β : Ren P.globals.size) (FS : List Frame), FrsR P FN β fs FS → mayWake P (gorL FS) = true ∧ ∃ (g' : Goroutine) (k : Nat), g'.status = .running ∧ QuitsD P k 0 g' ∧
    ∀ W s r, W.heap[c]? = some (.chan 0 #[] false s r false) → stepG P false (gorL FS) W = .go g' (W.setChan c 0 #[] true s r false) (closeEvents c)

/-- It receives these values, finds the channel closed, and is then in K. -/
inductive Rcv (P : Program) (FN : FuncId → Bool) (c : Nat) (K : List Frame → World → Prop) : List Value → List Frame → World → Prop
  | step {L : List Value} {fs : List Frame} {w : World} (F : Tape → List Frame) (G : Tape → World) (hne : fs ≠ []) (hneF : ∀ tp, F tp ≠ []) (hs : ∀ tp, SimF P FN fs (tpd w tp) (F tp) (G tp)) (hn : ∀ tp, Rcv P FN c K L (F tp) (G tp)) : Rcv P FN c K L fs w
  | recv {v : Value} {L : List Value} {fs : List Frame} {w : World} {z : Value} {nx : Value → Bool → List Frame} (hne : fs ≠ []) (h : SimRecv P FN c fs z nx) (hn : Rcv P FN c K L (nx v true) w) : Rcv P FN c K (v :: L) fs w
  | shut {fs : List Frame} {w : World} {z : Value} {nx : Value → Bool → List Frame} (hne : fs ≠ []) (h : SimRecv P FN c fs z nx) (hk : ∃ tp, K (nx z false) (tpd w tp)) : Rcv P FN c K [] fs w
  | vac {L : List Value} {fs : List Frame} {w : World} (h : ∀ (β : Ren P.globals.size) (FS : List Frame) (W : World), FrsR P FN β fs FS → WR FN β w W → False) : Rcv P FN c K L fs w
/-- It sends these values, closes the channel, and leaves. -/
inductive Snd (P : Program) (FN : FuncId → Bool) (c : Nat) : List Value → List Frame → World → Prop
  | step {L : List Value} {fs : List Frame} {w : World} (F : Tape → List Frame) (G : Tape → World) (hne : fs ≠ []) (hneF : ∀ tp, F tp ≠ []) (hs : ∀ tp, SimF P FN fs (tpd w tp) (F tp) (G tp)) (hn : ∀ tp, Snd P FN c L (F tp) (G tp)) : Snd P FN c L fs w
  | send {v : Value} {L : List Value} {fs fs' : List Frame} {w : World} (hne : fs ≠ []) (h : SimSend P FN c fs v fs') (hn : Snd P FN c L fs' w) : Snd P FN c (v :: L) fs w
  | close {fs : List Frame} {w : World} (hne : fs ≠ []) (h : SimClose P FN c fs) : Snd P FN c [] fs w
  | vac {L : List Value} {fs : List Frame} {w : World} (h : ∀ (β : Ren P.globals.size) (FS : List Frame) (W : World), FrsR P FN β fs FS → WR FN β w W → False) : Snd P FN c L fs w

theorem rcv_clo (c : Nat) (K : List Frame → World → Prop) (L : List Value) : Clo P FN (Rcv P FN c K L) where
  step fs w F G hne hneF hs hn := .step F G hne hneF hs hn
  vac fs w h := .vac h
  tp fs w t h := by
    generalize hw : tpd w t = w1 at h
    induction h generalizing w with
    | step F G hne hneF hs hn ih => subst hw; exact .step F G hne hneF (fun tp => hs tp) hn
    | recv hne h hn ih => subst hw; exact .recv hne h (ih _ rfl)
    | shut hne h hk => subst hw; exact .shut hne h hk
    | vac h => subst hw; exact .vac fun β FS W h1 h2 => h β FS W h1 (h2.tpd t)
theorem snd_clo (c : Nat) (L : List Value) : Clo P FN (Snd P FN c L) where
  step fs w F G hne hneF hs hn := .step F G hne hneF hs hn
  vac fs w h := .vac h
  tp fs w t h := by
    generalize hw : tpd w t = w1 at h
    induction h generalizing w with
    | step F G hne hneF hs hn ih => subst hw; exact .step F G hne hneF (fun tp => hs tp) hn
    | send hne h hn ih => subst hw; exact .send hne h (ih _ rfl)
    | close hne h => subst hw; exact .close hne h
    | vac h => subst hw; exact .vac fun β FS W h1 h2 => h β FS W h1 (h2.tpd t)

/-! ### the trace -/
def blk : Loc → Nat
  | .cell a => a.block
  | .obj r => r
  | _ => 0

structure PhT (N n : Nat) (T0 T1 : Nat → Prop) (t : Trace) : Prop where
  clean : ∀ said, ¬ Race said t
  d0 : Deaf t 0 = 0
  d1 : Deaf t n = 0
  k0 : ∀ i a, touchAt t i = some a → a.loc.isMemory = true → Knows t 0 i ∨ (t.g? i = some n ∧ (T1 (blk a.loc) ∨ (a.write = false ∧ blk a.loc < N)))
  k1 : ∀ i a, touchAt t i = some a → a.loc.isMemory = true → Knows t n i ∨ (t.g? i = some 0 ∧ (T0 (blk a.loc) ∨ (a.write = false ∧ blk a.loc < N)))

/-- What a step of one of the two may list. -/
def EvP (N : Nat) (T : Nat → Prop) (e : Event) : Prop := NoWord e ∧ ∀ x, (MemAct.ofEvent e).touch? = some x → x.loc.isMemory = true → T (blk x.loc) ∨ (x.write = false ∧ blk x.loc < N)

theorem g?_app {t u : Trace} {i g : Nat} (h : t.g? i = some g) : (t ++ u).g? i = some g := by
  obtain ⟨op, ho, hg⟩ := Option.map_eq_some_iff.1 h
  rw [g?_old (lt_size_of_getElem? ho)]; exact h
theorem Deaf_quiet (t : Trace) (g : Nat) (u : Trace) (hu : ∀ op ∈ u, op.act ≠ .mark .disable ∧ op.act ≠ .mark .enable) : Deaf (t ++ u) g = Deaf t g := by
  obtain ⟨l⟩ := u
  rw [Deaf_append]
  induction l generalizing t with
  | nil => rfl
  | cons y l ih =>
    have e1 : deafStep g (Deaf t g) y = Deaf t g := by
      have hy := hu y (by simp)
      unfold deafStep
      split
      · rename_i h; exact absurd h hy.1
      · rename_i h; exact absurd h hy.2
      · rfl
    rw [List.foldl_cons, e1]
    exact ih t (fun op hop => hu op (by simp at hop ⊢; exact .inr hop))
theorem quiet_ofEvents {g : Nat} {fn : FuncId} {pos : String} {es : Array Event} (h : ∀ e ∈ es, NoWord e) : ∀ op ∈ MemOp.ofEvents g fn pos es, op.act ≠ .mark .disable ∧ op.act ≠ .mark .enable := by
  intro op hop
  obtain ⟨e, he, rfl⟩ := Go.Conc.mem_ofEvents hop
  obtain ⟨h1, h2⟩ := h e he
  obtain ⟨loc, wr, sy⟩ := e
  cases loc with
  | mark m =>
    have e1 : MemAct.ofEvent ⟨.mark m, wr, sy⟩ = .mark m := by cases wr <;> cases sy <;> rfl
    simp only [e1]
    exact ⟨fun h => h1 (by cases h; rfl), fun h => h2 (by cases h; rfl)⟩
  | obj c => cases wr <;> cases sy <;> simp [MemAct.ofEvent]
  | _ => simp [MemAct.ofEvent]

section
variable {N n : Nat} {T0 T1 : Nat → Prop} {t u : Trace}

/-- Operations that touch nothing. -/
theorem PhT.quiet (h : PhT N n T0 T1 t) (hu : ∀ op ∈ u, op.act.touch? = none ∧ op.act ≠ .mark .disable ∧ op.act ≠ .mark .enable) : PhT N n T0 T1 (t ++ u) := by
  have key : ∀ i a, touchAt (t ++ u) i = some a → touchAt t i = some a ∧ i < t.size := fun i a ha => by
    obtain ⟨x, hx, hxa⟩ := touch_of ha
    rcases getElem?_append_cases hx with ⟨hi, hx'⟩ | ⟨_, hxu⟩
    · exact ⟨by rw [touchAt_of hx']; exact hxa, hi⟩
    · rw [(hu x hxu).1] at hxa; cases hxa
  refine ⟨fun said => ?_, (Deaf_quiet t 0 u fun op ho => (hu op ho).2).trans h.d0, (Deaf_quiet t n u fun op ho => (hu op ho).2).trans h.d1, fun i a ha hm => ?_, fun i a ha hm => ?_⟩
  · rintro ⟨i, j, hij, ⟨a, b, ha, hb, hc⟩, n1, n2⟩
    obtain ⟨ha', hi⟩ := key i a ha
    obtain ⟨hb', hj⟩ := key j b hb
    exact h.clean said ⟨i, j, hij, ⟨a, b, ha', hb', hc⟩, fun e => n1 (hb_app u e), fun e => n2 (hb_app u e)⟩
  · exact (h.k0 i a (key i a ha).1 hm).imp (·.app u) fun ⟨h1, h2⟩ => ⟨g?_app h1, h2⟩
  · exact (h.k1 i a (key i a ha).1 hm).imp (·.app u) fun ⟨h1, h2⟩ => ⟨g?_app h1, h2⟩

theorem PhT.own0 (h : PhT N n T0 T1 t) {T0' : Nat → Prop} (h1 : ∀ B, T0 B → T0' B) (hT0 : ∀ B, T0' B → N ≤ B) (hT1 : ∀ B, T1 B → N ≤ B) (hdj : ∀ B, T0' B → T1 B → False) {fn : FuncId} {pos : String} {es : Array Event} (he : ∀ e ∈ es, EvP N T0' e) :
    PhT N n T0' T1 (t ++ MemOp.ofEvents 0 fn pos es) := by
  have hu : ∀ op ∈ MemOp.ofEvents 0 fn pos es, op.g = 0 := fun op hop => by obtain ⟨e, _, rfl⟩ := Go.Conc.mem_ofEvents hop; rfl
  have ht : ∀ op ∈ MemOp.ofEvents 0 fn pos es, ∀ b, op.act.touch? = some b → b.loc.isMemory = true → T0' (blk b.loc) ∨ (b.write = false ∧ blk b.loc < N) := fun op hop b hb hm => by
    obtain ⟨e, h1, rfl⟩ := Go.Conc.mem_ofEvents hop; exact (he e h1).2 b hb hm
  have hq := quiet_ofEvents (g := 0) (fn := fn) (pos := pos) (fun e h => (he e h).1)
  refine ⟨fun said => noRace_append (h.clean said) hu fun i a ha op hop b hb hc => ?_, (Deaf_quiet t 0 _ hq).trans h.d0, (Deaf_quiet t n _ hq).trans h.d1, fun i a ha hm => ?_, fun i a ha hm => ?_⟩
  · obtain ⟨hl, hm, hw, _⟩ := hc
    rcases h.k0 i a ha hm with hk | ⟨_, hk⟩
    · exact hk
    · exfalso
      have := ht op hop b hb (hl ▸ hm)
      rw [← hl] at this
      rcases this with h5 | ⟨h5, h6⟩ <;> rcases hk with h7 | ⟨h7, h8⟩
      · exact hdj _ h5 h7
      · have := hT0 _ h5; omega
      · have := hT1 _ h7; omega
      · rcases hw with hw | hw
        · rw [h7] at hw; cases hw
        · rw [h5] at hw; cases hw
  · obtain ⟨x, hx, hxa⟩ := touch_of ha
    rcases getElem?_append_cases hx with ⟨_, hx'⟩ | ⟨_, hxu⟩
    · exact (h.k0 i a (by rw [touchAt_of hx']; exact hxa) hm).imp (·.app _) fun ⟨h1, h2⟩ => ⟨g?_app h1, h2⟩
    · have := knows_own hx
      rw [hu x hxu] at this
      exact .inl this
  · obtain ⟨x, hx, hxa⟩ := touch_of ha
    rcases getElem?_append_cases hx with ⟨_, hx'⟩ | ⟨_, hxu⟩
    · exact (h.k1 i a (by rw [touchAt_of hx']; exact hxa) hm).imp (·.app _) fun ⟨h3, h2⟩ => ⟨g?_app h3, h2.imp (h1 _) id⟩
    · exact .inr ⟨by simp [Trace.g?, hx, hu x hxu], ht x hxu a hxa hm⟩
theorem PhT.own1 (h : PhT N n T0 T1 t) {T1' : Nat → Prop} (h1 : ∀ B, T1 B → T1' B) (hT0 : ∀ B, T0 B → N ≤ B) (hT1 : ∀ B, T1' B → N ≤ B) (hdj : ∀ B, T0 B → T1' B → False) {fn : FuncId} {pos : String} {es : Array Event} (he : ∀ e ∈ es, EvP N T1' e) :
    PhT N n T0 T1' (t ++ MemOp.ofEvents n fn pos es) := by
  have hu : ∀ op ∈ MemOp.ofEvents n fn pos es, op.g = n := fun op hop => by obtain ⟨e, _, rfl⟩ := Go.Conc.mem_ofEvents hop; rfl
  have ht : ∀ op ∈ MemOp.ofEvents n fn pos es, ∀ b, op.act.touch? = some b → b.loc.isMemory = true → T1' (blk b.loc) ∨ (b.write = false ∧ blk b.loc < N) := fun op hop b hb hm => by
    obtain ⟨e, h1, rfl⟩ := Go.Conc.mem_ofEvents hop; exact (he e h1).2 b hb hm
  have hq := quiet_ofEvents (g := n) (fn := fn) (pos := pos) (fun e h => (he e h).1)
  refine ⟨fun said => noRace_append (h.clean said) hu fun i a ha op hop b hb hc => ?_, (Deaf_quiet t 0 _ hq).trans h.d0, (Deaf_quiet t n _ hq).trans h.d1, fun i a ha hm => ?_, fun i a ha hm => ?_⟩
  · obtain ⟨hl, hm, hw, _⟩ := hc
    rcases h.k1 i a ha hm with hk | ⟨_, hk⟩
    · exact hk
    · exfalso
      have := ht op hop b hb (hl ▸ hm)
      rw [← hl] at this
      rcases this with h5 | ⟨h5, h6⟩ <;> rcases hk with h7 | ⟨h7, h8⟩
      · exact hdj _ h7 h5
      · have := hT1 _ h5; omega
      · have := hT0 _ h7; omega
      · rcases hw with hw | hw
        · rw [h7] at hw; cases hw
        · rw [h5] at hw; cases hw
  · obtain ⟨x, hx, hxa⟩ := touch_of ha
    rcases getElem?_append_cases hx with ⟨_, hx'⟩ | ⟨_, hxu⟩
    · exact (h.k0 i a (by rw [touchAt_of hx']; exact hxa) hm).imp (·.app _) fun ⟨h3, h2⟩ => ⟨g?_app h3, h2.imp (h1 _) id⟩
    · exact .inr ⟨by simp [Trace.g?, hx, hu x hxu], ht x hxu a hxa hm⟩
  · obtain ⟨x, hx, hxa⟩ := touch_of ha
    rcases getElem?_append_cases hx with ⟨_, hx'⟩ | ⟨_, hxu⟩
    · exact (h.k1 i a (by rw [touchAt_of hx']; exact hxa) hm).imp (·.app _) fun ⟨h1, h2⟩ => ⟨g?_app h1, h2⟩
    · have := knows_own hx
      rw [hu x hxu] at this
      exact .inl this

/-- Leavers say nothing that counts. -/
theorem PhT.mute (h : PhT N n T0 T1 t) {g : Nat} (h0 : g ≠ 0) (hn : g ≠ n) {fn : FuncId} {pos : String} {es : Array Event} (he : ∀ e ∈ es, e.mute = true) : PhT N n T0 T1 (t ++ MemOp.ofEvents g fn pos es) := by
  have hu : ∀ op ∈ MemOp.ofEvents g fn pos es, op.g = g := fun op hop => by obtain ⟨e, _, rfl⟩ := Go.Conc.mem_ofEvents hop; rfl
  have ht : ∀ op ∈ MemOp.ofEvents g fn pos es, op.act.touch? = none := fun op hop => by obtain ⟨e, h1, rfl⟩ := Go.Conc.mem_ofEvents hop; exact touch_mute (he e h1)
  have key : ∀ i a, touchAt (t ++ MemOp.ofEvents g fn pos es) i = some a → touchAt t i = some a := fun i a ha => by
    obtain ⟨x, hx, hxa⟩ := touch_of ha
    rcases getElem?_append_cases hx with ⟨hi, hx'⟩ | ⟨_, hxu⟩
    · rw [touchAt_of hx']; exact hxa
    · rw [ht x hxu] at hxa; cases hxa
  exact ⟨fun said => noRace_append (h.clean said) hu fun i a ha op hop b hb hc => (by rw [ht op hop] at hb; cases hb), (Deaf_other t h0 _ hu).trans h.d0, (Deaf_other t hn _ hu).trans h.d1,
    fun i a ha hm => (h.k0 i a (key i a ha) hm).imp (·.app _) fun ⟨h1, h2⟩ => ⟨g?_app h1, h2⟩, fun i a ha hm => (h.k1 i a (key i a ha) hm).imp (·.app _) fun ⟨h1, h2⟩ => ⟨g?_app h1, h2⟩⟩

/-- At the go statement: all that goroutine 0 knew the child knows. -/
theorem PhT.fork (h : PastT t) (hn : n ≠ 0) (hd : Deaf t n = 0) {fn fn' : FuncId} {pos pos' : String} : PhT N n (fun _ => False) (fun _ => False) (t ++ #[{ g := 0, fn := fn, pos := pos, act := .go n }, { g := n, fn := fn', pos := pos', act := .start }]) := by
  let u : Trace := #[{ g := 0, fn := fn, pos := pos, act := .go n }, { g := n, fn := fn', pos := pos', act := .start }]
  show PhT N n _ _ (t ++ u)
  have hu : ∀ op ∈ u, op.act.touch? = none ∧ op.act ≠ .mark .disable ∧ op.act ≠ .mark .enable := fun op hop => by
    simp only [u, List.mem_toArray, List.mem_cons, List.not_mem_nil, or_false] at hop
    rcases hop with rfl | rfl <;> simp [MemAct.touch?]
  have e0 : (t ++ u)[t.size]? = some { g := 0, fn := fn, pos := pos, act := .go n } := by
    rw [Array.getElem?_append_right (Nat.le_refl _)]; simp [u]
  have e1 : (t ++ u)[t.size + 1]? = some { g := n, fn := fn', pos := pos', act := .start } := by
    rw [Array.getElem?_append_right (by omega)]; simp [u]
  have d0 : ∀ i g, i ≤ t.size + 2 → (t ++ u).deaf g i = t.deaf g (min i t.size) := fun i g hi => by
    rcases Nat.lt_or_ge i (t.size + 1) with h1 | h1
    · rw [deaf_old (by omega), Nat.min_eq_left (by omega)]
    · have a1 : (t ++ u).deaf g (t.size + 1) = t.deaf g t.size := by rw [deaf_succ e0, deaf_old (Nat.le_refl _)]; rfl
      rcases Nat.lt_or_ge i (t.size + 2) with h2 | h2
      · obtain rfl : i = t.size + 1 := by omega
        rw [a1, Nat.min_eq_right (by omega)]
      · obtain rfl : i = t.size + 2 := by omega
        rw [deaf_succ e1, a1, Nat.min_eq_right (by omega)]; rfl
  have hgo : (t ++ u).heard t.size := ⟨0, by simp [Trace.g?, e0], by rw [d0 _ _ (by omega)]; simpa [Deaf] using h.hears⟩
  have hst : (t ++ u).heard (t.size + 1) := ⟨n, by simp [Trace.g?, e1], by rw [d0 _ _ (by omega), Nat.min_eq_right (by omega)]; exact hd⟩
  have edge : HappensBefore (t ++ u) t.size (t.size + 1) := .single (.inr ⟨.spawn (child := n) (by rw [act?_of e0]) (by rw [act?_of e1]) (by simp [Trace.g?, e1]), hgo, hst⟩)
  have key : ∀ i a, touchAt (t ++ u) i = some a → touchAt t i = some a := fun i a ha => by
    obtain ⟨x, hx, hxa⟩ := touch_of ha
    rcases getElem?_append_cases hx with ⟨hi, hx'⟩ | ⟨_, hxu⟩
    · rw [touchAt_of hx']; exact hxa
    · rw [(hu x hxu).1] at hxa; cases hxa
  have lt : ∀ i a, touchAt t i = some a → i < t.size := fun i a ha => by
    obtain ⟨x, hx, _⟩ := touch_of ha; exact lt_size_of_getElem? hx
  refine ⟨fun said => ?_, (Deaf_quiet t 0 u fun op ho => (hu op ho).2).trans h.hears, (Deaf_quiet t n u fun op ho => (hu op ho).2).trans hd, fun i a ha hm => .inl ((h.known i a (key i a ha) hm).app u), fun i a ha hm => .inl ?_⟩
  · rintro ⟨i, j, hij, ⟨a, b, ha, hb, hc⟩, n1, n2⟩
    exact h.clean said ⟨i, j, hij, ⟨a, b, key i a ha, key j b hb, hc⟩, fun e => n1 (hb_app u e), fun e => n2 (hb_app u e)⟩
  · have hk := h.known i a (key i a ha) hm
    exact ⟨t.size + 1, _, e1, rfl, .inr ((hk.hb_new (u := u) (Nat.le_refl _) e0 rfl).trans edge)⟩

/-- What goroutine 0 does not know yet the child has done. -/
structure Ph0 (N n : Nat) (T1 : Nat → Prop) (t : Trace) : Prop where
  clean : ∀ said, ¬ Race said t
  d0 : Deaf t 0 = 0
  k0 : ∀ i a, touchAt t i = some a → a.loc.isMemory = true → Knows t 0 i ∨ (t.g? i = some n ∧ (T1 (blk a.loc) ∨ (a.write = false ∧ blk a.loc < N)))
theorem PhT.to0 (h : PhT N n T0 T1 t) : Ph0 N n T1 t := ⟨h.clean, h.d0, h.k0⟩
theorem Ph0.quiet (h : Ph0 N n T1 t) (hu : ∀ op ∈ u, op.act.touch? = none ∧ op.act ≠ .mark .disable ∧ op.act ≠ .mark .enable) : Ph0 N n T1 (t ++ u) := by
  have key : ∀ i a, touchAt (t ++ u) i = some a → touchAt t i = some a := fun i a ha => by
    obtain ⟨x, hx, hxa⟩ := touch_of ha
    rcases getElem?_append_cases hx with ⟨hi, hx'⟩ | ⟨_, hxu⟩
    · rw [touchAt_of hx']; exact hxa
    · rw [(hu x hxu).1] at hxa; cases hxa
  refine ⟨fun said => ?_, (Deaf_quiet t 0 u fun op ho => (hu op ho).2).trans h.d0, fun i a ha hm => ?_⟩
  · rintro ⟨i, j, hij, ⟨a, b, ha, hb, hc⟩, n1, n2⟩
    exact h.clean said ⟨i, j, hij, ⟨a, b, key i a ha, key j b hb, hc⟩, fun e => n1 (hb_app u e), fun e => n2 (hb_app u e)⟩
  · exact (h.k0 i a (key i a ha) hm).imp (·.app u) fun ⟨h1, h2⟩ => ⟨g?_app h1, h2⟩
theorem Ph0.own0 (h : Ph0 N n T1 t) (hT0 : ∀ B, T0 B → N ≤ B) (hT1 : ∀ B, T1 B → N ≤ B) (hdj : ∀ B, T0 B → T1 B → False) {fn : FuncId} {pos : String} {es : Array Event} (he : ∀ e ∈ es, EvP N T0 e) :
    Ph0 N n T1 (t ++ MemOp.ofEvents 0 fn pos es) := by
  have hu : ∀ op ∈ MemOp.ofEvents 0 fn pos es, op.g = 0 := fun op hop => by obtain ⟨e, _, rfl⟩ := Go.Conc.mem_ofEvents hop; rfl
  have ht : ∀ op ∈ MemOp.ofEvents 0 fn pos es, ∀ b, op.act.touch? = some b → b.loc.isMemory = true → T0 (blk b.loc) ∨ (b.write = false ∧ blk b.loc < N) := fun op hop b hb hm => by
    obtain ⟨e, h1, rfl⟩ := Go.Conc.mem_ofEvents hop; exact (he e h1).2 b hb hm
  have hq := quiet_ofEvents (g := 0) (fn := fn) (pos := pos) (fun e h => (he e h).1)
  refine ⟨fun said => noRace_append (h.clean said) hu fun i a ha op hop b hb hc => ?_, (Deaf_quiet t 0 _ hq).trans h.d0, fun i a ha hm => ?_⟩
  · obtain ⟨hl, hm, hw, _⟩ := hc
    rcases h.k0 i a ha hm with hk | ⟨_, hk⟩
    · exact hk
    · exfalso
      have := ht op hop b hb (hl ▸ hm)
      rw [← hl] at this
      rcases this with h5 | ⟨h5, h6⟩ <;> rcases hk with h7 | ⟨h7, h8⟩
      · exact hdj _ h5 h7
      · have := hT0 _ h5; omega
      · have := hT1 _ h7; omega
      · rcases hw with hw | hw
        · rw [h7] at hw; cases hw
        · rw [h5] at hw; cases hw
  · obtain ⟨x, hx, hxa⟩ := touch_of ha
    rcases getElem?_append_cases hx with ⟨_, hx'⟩ | ⟨_, hxu⟩
    · exact (h.k0 i a (by rw [touchAt_of hx']; exact hxa) hm).imp (·.app _) fun ⟨h1, h2⟩ => ⟨g?_app h1, h2⟩
    · have := knows_own hx
      rw [hu x hxu] at this
      exact .inl this
theorem Ph0.mute (h : Ph0 N n T1 t) {g : Nat} (h0 : g ≠ 0) {fn : FuncId} {pos : String} {es : Array Event} (he : ∀ e ∈ es, e.mute = true) : Ph0 N n T1 (t ++ MemOp.ofEvents g fn pos es) := by
  have hu : ∀ op ∈ MemOp.ofEvents g fn pos es, op.g = g := fun op hop => by obtain ⟨e, _, rfl⟩ := Go.Conc.mem_ofEvents hop; rfl
  have ht : ∀ op ∈ MemOp.ofEvents g fn pos es, op.act.touch? = none := fun op hop => by obtain ⟨e, h1, rfl⟩ := Go.Conc.mem_ofEvents hop; exact touch_mute (he e h1)
  have key : ∀ i a, touchAt (t ++ MemOp.ofEvents g fn pos es) i = some a → touchAt t i = some a := fun i a ha => by
    obtain ⟨x, hx, hxa⟩ := touch_of ha
    rcases getElem?_append_cases hx with ⟨hi, hx'⟩ | ⟨_, hxu⟩
    · rw [touchAt_of hx']; exact hxa
    · rw [ht x hxu] at hxa; cases hxa
  exact ⟨fun said => noRace_append (h.clean said) hu fun i a ha op hop b hb hc => (by rw [ht op hop] at hb; cases hb), (Deaf_other t h0 _ hu).trans h.d0,
    fun i a ha hm => (h.k0 i a (key i a ha) hm).imp (·.app _) fun ⟨h1, h2⟩ => ⟨g?_app h1, h2⟩⟩

/-- The child has closed the channel: all that it did lies ahead of that. -/
structure ClT (N n c : Nat) (T1 : Nat → Prop) (t : Trace) : Prop where
  ph : Ph0 N n T1 t
  pc : ∃ p op, t[p]? = some op ∧ op.g = n ∧ op.act = .close c ∧ t.heard p ∧ ∀ i a, touchAt t i = some a → t.g? i = some n → a.loc.isMemory = true → Before t i p

theorem touch_close (c : Nat) : (MemAct.close c).touch? = none := rfl
theorem ofEvent_close (c : Nat) : MemAct.ofEvent ⟨.obj c, true, true⟩ = .close c := rfl

theorem PhT.close (h : PhT N n T0 T1 t) (hT0 : ∀ B, T0 B → N ≤ B) (hT1 : ∀ B, T1 B → N ≤ B) (hdj : ∀ B, T0 B → T1 B → False) {c : Nat} (hc : c < N) {fn : FuncId} {pos : String} : ClT N n c T1 (t ++ MemOp.ofEvents n fn pos (closeEvents c)) := by
  have h' := h.own1 (T1' := T1) (fun _ x => x) hT0 hT1 hdj (fn := fn) (pos := pos) (es := #[⟨.obj c, false, true⟩]) (fun e he => by
    simp only [List.mem_toArray, List.mem_cons, List.not_mem_nil, or_false] at he
    subst he
    refine ⟨⟨by simp, by simp⟩, fun x hx hm => .inr ?_⟩
    simp only [MemAct.ofEvent, MemAct.touch?, Option.some.injEq] at hx
    subst hx
    exact ⟨rfl, hc⟩)
  have eu : t ++ MemOp.ofEvents n fn pos (closeEvents c) = (t ++ MemOp.ofEvents n fn pos #[⟨.obj c, false, true⟩]) ++ #[{ g := n, fn := fn, pos := pos, act := .close c }] := by
    rw [ofEvents_eq, ofEvents_eq, Array.append_assoc]
    congr 1
    simp [closeEvents, ofEvent_close]
  rw [eu]
  generalize t ++ MemOp.ofEvents n fn pos #[⟨.obj c, false, true⟩] = t at h'
  have e0 : (t ++ #[({ g := n, fn := fn, pos := pos, act := .close c } : MemOp)])[t.size]? = some { g := n, fn := fn, pos := pos, act := .close c } := by simp
  refine ⟨h'.to0.quiet fun op hop => ?_, t.size, _, e0, rfl, rfl, ⟨n, by simp [Trace.g?], by rw [deaf_old (Nat.le_refl _)]; exact h'.d1⟩, fun i a ha hg hm => ?_⟩
  · simp only [List.mem_toArray, List.mem_cons, List.not_mem_nil, or_false] at hop
    subst hop
    simp [MemAct.touch?]
  · obtain ⟨x, hx, hxa⟩ := touch_of ha
    rcases getElem?_append_cases hx with ⟨hi, hx'⟩ | ⟨_, hxu⟩
    · refine .inr (hb_po hi hx e0 ?_)
      simp only [Trace.g?, hx, Option.map_some, Option.some.injEq] at hg
      exact hg
    · simp only [List.mem_toArray, List.mem_cons, List.not_mem_nil, or_false] at hxu
      subst hxu
      cases hxa

theorem ClT.app {c : Nat} (h : ClT N n c T1 t) (hp : Ph0 N n T1 (t ++ u)) (hu : ∀ op ∈ u, op.g ≠ n ∨ op.act.touch? = none) : ClT N n c T1 (t ++ u) := by
  obtain ⟨p, op, h1, h2, h3, h4, h5⟩ := h.pc
  have hlt := lt_size_of_getElem? h1
  refine ⟨hp, p, op, by rw [getElem?_append_old hlt]; exact h1, h2, h3, (heard_old hlt).2 h4, fun i a ha hg hm => ?_⟩
  obtain ⟨x, hx, hxa⟩ := touch_of ha
  rcases getElem?_append_cases hx with ⟨hi, hx'⟩ | ⟨_, hxu⟩
  · exact (h5 i a (by rw [touchAt_of hx']; exact hxa) (by rw [← g?_old hi]; exact hg) hm).app u
  · rcases hu x hxu with h6 | h6
    · simp only [Trace.g?, hx, Option.map_some, Option.some.injEq] at hg; exact absurd hg h6
    · rw [h6] at hxa; cases hxa

/-- Goroutine 0 finds the channel closed: it knows all. -/
theorem ClT.shut {c : Nat} (h : ClT N n c T1 t) {fn : FuncId} {pos : String} : PastT (t ++ #[{ g := 0, fn := fn, pos := pos, act := .recvClosed c }]) := by
  let u : Trace := #[{ g := 0, fn := fn, pos := pos, act := .recvClosed c }]
  show PastT (t ++ u)
  have hu : ∀ op ∈ u, op.act.touch? = none ∧ op.act ≠ .mark .disable ∧ op.act ≠ .mark .enable := fun op hop => by
    simp only [u, List.mem_toArray, List.mem_cons, List.not_mem_nil, or_false] at hop
    subst hop; simp [MemAct.touch?]
  have hq := h.ph.quiet hu
  obtain ⟨p, op, h1, h2, h3, h4, h5⟩ := h.pc
  have hlt := lt_size_of_getElem? h1
  have e0 : (t ++ u)[t.size]? = some { g := 0, fn := fn, pos := pos, act := .recvClosed c } := by simp [u]
  have e1 : (t ++ u)[p]? = some op := by rw [getElem?_append_old hlt]; exact h1
  have hr : (t ++ u).heard t.size := ⟨0, by simp [Trace.g?, e0], by rw [deaf_old (Nat.le_refl _)]; exact h.ph.d0⟩
  have edge : HappensBefore (t ++ u) p t.size := .single (.inr ⟨.closed (c := c) (by rw [act?_of e1, h3]) (by rw [act?_of e0]), (heard_old hlt).2 h4, hr⟩)
  refine ⟨hq.clean, fun i a ha hm => ?_, hq.d0⟩
  rcases hq.k0 i a ha hm with hk | ⟨hg, _⟩
  · exact hk
  · obtain ⟨x, hx, hxa⟩ := touch_of ha
    rcases getElem?_append_cases hx with ⟨hi, hx'⟩ | ⟨_, hxu⟩
    · have hb := (h5 i a (by rw [touchAt_of hx']; exact hxa) (by rw [← g?_old hi]; exact hg) hm).app u
      exact ⟨t.size, _, e0, rfl, hb.trans (.inr edge)⟩
    · rw [(hu x hxu).1] at hxa; cases hxa
end
end Go.Fw
end

section
/- A receiver and a sender at work in the machine: it comes to the receiver's end. No condition. -/
set_option linter.unusedVariables false
set_option linter.unusedSimpArgs false
namespace Go.Fw
open Go Go.Conc
open Go.ConcN (sumTo upd sumTo_upd upd_ne upd_same)
variable {P : Program} {FN : FuncId → Bool}

/-! ### one value, one partner -/
/-- A value with nothing in it that stands for what is not looked into. -/
def cleanV : Nat → Value → Bool
  | 0, _ => false
  | n + 1, v => match v with
    | .map _ | .func _ _ _ => false
    | .slice (some _) _ c => decide (0 < c)
    | .agg xs | .tuple xs => xs.all (cleanV n)
    | .iface _ v => cleanV n v
    | _ => true
theorem VR.fn {G : Nat} {FN : FuncId → Bool} {β : Ren G} {v V : Value} (h : VR FN β v V) : ∀ {n : Nat} {V' : Value}, cleanV n v = true → VR FN β v V' → V = V' := by
  have arr : ∀ {n : Nat} {xs XS XS' : Array Value}, xs.all (cleanV n) = true → xs.size = XS.size → xs.size = XS'.size → (∀ (i : Nat) (x X : Value), xs[i]? = some x → XS[i]? = some X → ∀ {n : Nat} {X' : Value}, cleanV n x = true → VR FN β x X' → X = X') →
      (∀ (i : Nat) (x X : Value), xs[i]? = some x → XS'[i]? = some X → VR FN β x X) → XS = XS' := fun {n xs XS XS'} hc h1 h2 h3 h4 => by
    apply Array.ext_getElem?
    intro i
    by_cases hi : i < xs.size
    · have e1 : XS[i]? = some (XS[i]'(by omega)) := Array.getElem?_eq_getElem _
      have e2 : XS'[i]? = some (XS'[i]'(by omega)) := Array.getElem?_eq_getElem _
      rw [e1, e2, h3 i _ _ (Array.getElem?_eq_getElem hi) e1 (all_get hc (Array.getElem?_eq_getElem hi)) (h4 i _ _ (Array.getElem?_eq_getElem hi) e2)]
    · rw [Array.getElem?_eq_none (by omega), Array.getElem?_eq_none (by omega)]
  have adr : ∀ {a A A' : Addr}, AR β a A → AR β a A' → A = A' := fun {a A A'} h1 h2 => by
    obtain ⟨h1, h3, h4⟩ := h1
    obtain ⟨h2, h5, h6⟩ := h2
    cases A; cases A'
    simp only at h1 h2 h3 h4 h5 h6
    rw [h1] at h2
    cases h2
    rw [h3, h4, h5, h6]
  induction h with
  | bool b => intro n V' hc h; cases h; rfl
  | int k n => intro n V' hc h; cases h; rfl
  | string s => intro n V' hc h; cases h; rfl
  | ptr0 => intro n V' hc h; cases h; rfl
  | ptr ha => intro n V' hc h; cases h with | ptr hb => rw [adr ha hb]
  | slice0 l c => intro n V' hc h; cases h; rfl
  | slice l c ha =>
    intro n V' hc h
    cases h with
    | slice _ _ hb => rw [adr ha hb]
    | sliceE _ _ => cases n <;> simp [cleanV] at hc
  | sliceE a A => intro n V' hc h; cases n <;> simp [cleanV] at hc
  | chan r => intro n V' hc h; cases h; rfl
  | nilFunc => intro n V' hc h; cases h; rfl
  | nilIface => intro n V' hc h; cases h; rfl
  | iface t _ ih =>
    intro n V' hc h
    cases n with
    | zero => cases hc
    | succ n => cases h with | iface _ h => rw [ih (n := n) hc h]
  | func hf h1 _ h3 _ ih1 ih2 => intro n V' hc h; cases n <;> cases hc
  | agg h1 _ ih =>
    intro n V' hc h
    cases n with
    | zero => cases hc
    | succ n => cases h with | agg g1 g2 => rw [arr (n := n) hc h1 g1 ih g2]
  | tuple h1 _ ih =>
    intro n V' hc h
    cases n with
    | zero => cases hc
    | succ n => cases h with | tuple g1 g2 => rw [arr (n := n) hc h1 g1 ih g2]
  | junkF f xs ys => intro n V' hc h; cases n <;> cases hc
  | bound h1 _ _ => intro n V' hc h; cases n <;> simp [cleanV] at hc
  | mapNil => intro n V' hc h; cases n <;> cases hc
  | junk hj => intro n V' hc h; cases n <;> cases hc
/-- What may be sent. -/
def Sent {G : Nat} (FN : FuncId → Bool) (β : Ren G) (v : Value) : Prop := (∃ n, cleanV n v = true) ∧ ∃ V0, VR FN β v V0

/-! ### worlds, frozen and thawed -/
def frzO : Obj → Obj
  | .cells c t fr => .cells c t (0, max c.size fr.2)
  | o => o
def frzW (w : World) : World := { w with heap := w.heap.map frzO }
theorem frzW_get (w : World) (b : Nat) : (frzW w).heap[b]? = (w.heap[b]?).map frzO := by simp [frzW]
theorem frzW_size (w : World) : (frzW w).heap.size = w.heap.size := by simp [frzW]
theorem WR.frzW {G : Nat} {β : Ren G} {w W : World} (h : WR FN β w W) : WR FN β (Fw.frzW w) W ∧ ∀ b B, β.f b = some B → Fz (Fw.frzW w) b := by
  refine ⟨⟨fun b B hb => ?_, by rw [frzW_size]; exact h.gl, h.gr⟩, fun b B hb => ?_⟩
  · rw [frzW_get]
    rcases h.blk b B hb with ⟨c, C, t, fr, FR, e1, e2, hR, hfz⟩ | ⟨a, A, l, e1, e2, e3⟩
    · refine .inl ⟨c, C, t, (0, max c.size fr.2), FR, by rw [e1]; rfl, e2, hR, fun off ho => ?_⟩
      obtain ⟨h1, h2⟩ := hfz off ho
      exact ⟨Nat.zero_le _, by show off < max _ _; omega⟩
    · exact .inr ⟨a, A, l, by rw [e1]; rfl, e2, e3⟩
  · rcases h.blk b B hb with ⟨c, C, t, fr, FR, e1, e2, hR, hfz⟩ | ⟨a, A, l, e1, e2, e3⟩
    · exact .inl ⟨c, t, (0, max c.size fr.2), by rw [frzW_get, e1]; rfl, fun off ho => ⟨Nat.zero_le _, by show off < max _ _; omega⟩⟩
    · exact .inr ⟨a, l, by rw [frzW_get, e1]; rfl⟩
def thaw (w w' : World) : World := { w' with heap := w.heap ++ w'.heap.extract w.heap.size w'.heap.size }
theorem thaw_old {w w' : World} {b : Nat} (h : b < w.heap.size) : (thaw w w').heap[b]? = w.heap[b]? := by
  show (w.heap ++ _)[b]? = _
  rw [Array.getElem?_append_left h]
theorem thaw_new {w w' : World} {b : Nat} (h : w.heap.size ≤ b) : (thaw w w').heap[b]? = w'.heap[b]? := by
  show (w.heap ++ _)[b]? = _
  rw [Array.getElem?_append_right h, Array.getElem?_extract]
  by_cases hb : b < w'.heap.size
  · rw [if_pos (by omega)]; congr 1; omega
  · rw [if_neg (by omega), Array.getElem?_eq_none (by omega)]
theorem thaw_size {w w' : World} (h : w.heap.size ≤ w'.heap.size) : (thaw w w').heap.size = w'.heap.size := by
  show (w.heap ++ _).size = _
  simp; omega

/-! ### one of the two, and its own part of memory -/
def Rng {G : Nat} (β : Ren G) (B : Nat) : Prop := ∃ b, β.f b = some B
def TS {G : Nat} (N : Nat) (β : Ren G) (B : Nat) : Prop := N ≤ B ∧ Rng β B

structure Side (P : Program) (FN : FuncId → Bool) (N n0 : Nat) (βf β : Ren P.globals.size) (fs : List Frame) (w : World) (FS : List Frame) (W : World) : Prop where
  rel : FrsR P FN β fs FS
  wr : WR FN β w W
  le : βf.le β
  fz : ∀ b B, β.f b = some B → B < N → Fz w b
  nw : ∀ b B, β.f b = some B → βf.f b = some B ∨ (n0 ≤ b ∧ N ≤ B)
  sz : n0 ≤ w.heap.size

section
variable {N n0 : Nat} {βf β γ : Ren P.globals.size} {fs fs' FS FS' : List Frame} {w w' W W' : World}

theorem Side.other (h : Side P FN N n0 βf β fs w FS W) (hsz : W.heap.size ≤ W'.heap.size) (hk : ∀ B, Rng β B → W'.heap[B]? = W.heap[B]?) : Side P FN N n0 βf β fs w FS W' :=
  ⟨h.rel, ⟨fun b B hb => by rw [hk B ⟨b, hb⟩]; exact h.wr.blk b B hb, h.wr.gl, Nat.le_trans h.wr.gr hsz⟩, h.le, h.fz, h.nw, h.sz⟩

/-- Its own step. -/
theorem Side.own (h : Side P FN N n0 βf β fs w FS W) (hN : N ≤ W.heap.size) (hf : FrsR P FN γ fs' FS') (hr : RunR FN β γ w W w' W') : Side P FN N n0 βf γ fs' w' FS' W' := by
  refine ⟨hf, hr.wr, Ren.le_trans h.le hr.le, fun b B hb hB => ?_, fun b B hb => ?_, Nat.le_trans h.sz hr.grow⟩
  · rcases hr.new_ b B hb with h1 | ⟨_, h1, _⟩
    · exact ((h.fz b B h1 hB).keep hr h1).2.2
    · omega
  · rcases hr.new_ b B hb with h1 | ⟨h1, h2, _⟩
    · exact h.nw b B h1
    · exact .inr ⟨Nat.le_trans h.sz h1, by omega⟩
/-- What its own step leaves. -/
theorem Side.keep (h : Side P FN N n0 βf β fs w FS W) (hr : RunR FN β γ w W w' W') {B : Nat} (hB : B < W.heap.size) (hn : Rng β B → B < N) : W'.heap[B]? = W.heap[B]? := by
  by_cases hx : Rng β B
  · obtain ⟨b, hb⟩ := hx
    exact ((h.fz b B hb (hn ⟨b, hb⟩)).keep hr hb).1
  · exact hr.keep B hB fun b hb => hx ⟨b, hb⟩
theorem Side.grows (h : Side P FN N n0 βf β fs w FS W) (hr : RunR FN β γ w W w' W') : W.heap.size ≤ W'.heap.size := by have := hr.size; have := hr.grow; omega
/-- What its own step lists. -/
theorem Side.evs (h : Side P FN N n0 βf γ fs' w' FS' W') {e : Event} (he : EvR γ w' W' e) : EvP N (TS N γ) e := by
  refine ⟨he.noWord, fun x hx hm => ?_⟩
  rcases he with ⟨A, h1, h2, b, hb, ⟨c, t, fr, hc⟩, hf⟩ | ⟨m, h1, h2⟩ | ⟨R, b, h1, h2, h3, hb, _⟩
  · obtain ⟨loc, wr, sy⟩ := e
    simp only at h1 h2 hf
    subst h1 h2
    simp only [MemAct.ofEvent, MemAct.touch?, Option.some.injEq] at hx
    subst hx
    simp only [blk]
    rcases Nat.lt_or_ge A.block N with hlt | hge
    · refine .inr ⟨?_, hlt⟩
      cases wr with
      | false => rfl
      | true =>
        exfalso
        rcases h.fz b _ hb hlt with h4 | ⟨a, l, h4⟩
        · exact hf rfl h4
        · rcases h.wr.blk b _ hb with ⟨c', C, t', fr', FR, e1, e2, _⟩ | ⟨a', A', l', e1, e2, _⟩
          · rw [h4] at e1; cases e1
          · rw [hc] at e2; cases e2
    · exact .inl ⟨hge, b, hb⟩
  · obtain ⟨loc, wr, sy⟩ := e
    simp only at h1
    subst h1
    exfalso
    have e1 : MemAct.ofEvent ⟨.mark m, wr, sy⟩ = .mark m := by cases wr <;> cases sy <;> rfl
    rw [e1] at hx
    cases m <;> first | (exact h2.elim) | (simp [MemAct.touch?] at hx)
  · obtain ⟨loc, wr, sy⟩ := e
    simp only at h1 h2 h3
    subst h1 h2 h3
    simp only [MemAct.ofEvent, MemAct.touch?, Option.some.injEq] at hx
    subst hx
    simp only [blk]
    rcases Nat.lt_or_ge R N with hlt | hge
    · exact .inr ⟨by trivial, hlt⟩
    · exact .inl ⟨hge, b, hb⟩
/-- Its new blocks are new. -/
theorem Side.apart (h : Side P FN N n0 βf β fs w FS W) (hr : RunR FN β γ w W w' W') {β' : Ren P.globals.size} (ho : ∀ B, Rng β' B → B < W.heap.size) (hd : ∀ B, Rng β B → Rng β' B → B < N) : ∀ B, Rng γ B → Rng β' B → B < N := by
  rintro B ⟨b, hb⟩ h'
  rcases hr.new_ b B hb with h1 | ⟨_, h1, _⟩
  · exact hd B ⟨b, h1⟩ h'
  · have := ho B h'; omega
theorem Side.rngLt (h : Side P FN N n0 βf β fs w FS W) : ∀ B, Rng β B → B < W.heap.size := fun B ⟨b, hb⟩ => (h.wr.lt hb).2
end
end Go.Fw
end
