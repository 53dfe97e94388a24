/-
  Part 8 of the common ground of this seat: what single parts show stands ahead of each.
  No condition.
-/
import Derived.Test.YtkmgcggoemlaaaaGreatDoorJ07

section
/- The receiver's end of a fork: the sender has closed the channel. No condition. -/
set_option linter.unusedVariables false
set_option linter.unusedSimpArgs false
namespace Go.Fw
open Go Go.Conc
open Go.ConcN (sumTo upd sumTo_upd upd_ne upd_same)
variable {P : Program} {FN : FuncId → Bool}

/-! ### leavers -/
/-- All but goroutine 0 and goroutine x only leave. -/
structure Lv (P : Program) (x : Nat) (t : Trace) (gs : Array Goroutine) (q : Nat → Nat) : Prop where
  old : ∀ i g, 0 < i → i ≠ x → gs[i]? = some g → QuitsD P (q i) (Deaf t i) g
  above : ∀ j, gs.size ≤ j → Deaf t j = 0

theorem leaver_go {gs : Array Goroutine} {W : World} {sl : Option (Nat × Nat)} {i k d0 : Nat} {g : Goroutine} (hi : gs[i]? = some g) (hg : g.status = .running) (hi0 : i ≠ 0) (hq : QuitsD P k d0 g) :
    ∃ k' g' es, k = k' + 1 ∧ (∀ e ∈ es, Event.mute e = true) ∧ runT P (crowd gs W sl) i = (.next (crowd ((gs.map (woken P g g' W)).setIfInBounds i g') W sl), MemOp.ofEvents i g.frame.fn g.frame.place es) ∧ QuitsD P k' (deafBehind d0 es) g' := by
  have hi0' : (i == 0) = false := by simpa using hi0
  cases k with
  | zero => rw [hq.1] at hg; cases hg
  | succ k =>
    rcases hq with ⟨hf, _⟩ | ⟨_, g', es, hm, hstp, hq'⟩
    · rw [hf] at hg; cases hg
    · exact ⟨k, g', es, rfl, hm, runT_crowd_go (P := P) (sl := sl) (i := i) hi (by rw [hi0']; exact hstp W), hq'⟩

theorem Lv.leaver {x : Nat} {t : Trace} {gs : Array Goroutine} {q : Nat → Nat} (h : Lv P x t gs q) {i k' : Nat} {g g' : Goroutine} {W : World} {es : Array Event} {fn : FuncId} {pos : String} (hi : gs[i]? = some g) (hq' : QuitsD P k' (deafBehind (Deaf t i) es) g') :
    Lv P x (t ++ MemOp.ofEvents i fn pos es) ((gs.map (woken P g g' W)).setIfInBounds i g') (upd q i k') := by
  have hlt : i < gs.size := (Array.getElem?_eq_some_iff.1 hi).1
  refine ⟨fun j y hj hx hy => ?_, fun j hj => ?_⟩
  · by_cases hji : i = j
    · subst hji
      rw [Array.getElem?_setIfInBounds_self_of_lt (by simpa using hlt)] at hy
      obtain rfl := Option.some.inj hy
      rw [upd_same, Deaf_own]
      exact hq'
    · rw [Array.getElem?_setIfInBounds_ne hji, Array.getElem?_map] at hy
      obtain ⟨z, hz, rfl⟩ := Option.map_eq_some_iff.1 hy
      have hqj := h.old j z hj hx hz
      rw [woken_quitsD hqj, upd_ne q k' (Ne.symm hji), Deaf_other t hji _ (fun op hop => by obtain ⟨e, _, rfl⟩ := Go.Conc.mem_ofEvents hop; rfl)]
      exact hqj
  · rw [Deaf_other t (g' := i) (by simp at hj; omega) _ (fun op hop => by obtain ⟨e, _, rfl⟩ := Go.Conc.mem_ofEvents hop; rfl)]
    exact h.above j (by simpa using hj)

/-- Behind a step of another's. -/
theorem Lv.own {x : Nat} {t : Trace} {gs : Array Goroutine} {q : Nat → Nat} (h : Lv P x t gs q) {i : Nat} {a a' : Goroutine} {W' : World} (hi : gs[i]? = some a) (hix : i = 0 ∨ i = x) {u : Trace} (hu : ∀ op ∈ u, op.g = i) :
    Lv P x (t ++ u) ((gs.map (woken P a a' W')).setIfInBounds i a') q := by
  have hlt : i < gs.size := (Array.getElem?_eq_some_iff.1 hi).1
  refine ⟨fun j y hj hx hy => ?_, fun j hj => ?_⟩
  · have hne : i ≠ j := by rcases hix with rfl | rfl <;> omega
    rw [Array.getElem?_setIfInBounds_ne hne, Array.getElem?_map] at hy
    obtain ⟨z, hz, rfl⟩ := Option.map_eq_some_iff.1 hy
    have hq := h.old j z hj hx hz
    rw [woken_quitsD hq, Deaf_other t hne _ hu]
    exact hq
  · rw [Deaf_other t (g' := i) (by simp at hj; omega) _ hu]
    exact h.above j (by simpa using hj)
/-- Behind something that changes goroutine 0 and goroutine x alone, and says nothing. -/
theorem Lv.quiet {x : Nat} {t u : Trace} {gs gs' : Array Goroutine} {q : Nat → Nat} (h : Lv P x t gs q) (hs : gs'.size = gs.size) (he : ∀ j, 0 < j → j ≠ x → gs'[j]? = gs[j]?) (hu : ∀ op ∈ u, op.act ≠ .mark .disable ∧ op.act ≠ .mark .enable) :
    Lv P x (t ++ u) gs' q :=
  ⟨fun j y hj hx hy => by rw [he j hj hx] at hy; rw [Deaf_quiet t j u hu]; exact h.old j y hj hx hy, fun j hj => by rw [Deaf_quiet t j u hu]; exact h.above j (by omega)⟩

/-! ### what was so at the go statement -/
structure Fk (FN : FuncId → Bool) (N0 : Nat) (W0 : World) (Ch : List Nat) (c : Nat) (βf : Ren P.globals.size) (w0 Wf : World) : Prop where
  wr : WR FN βf w0 Wf
  n0 : N0 ≤ c
  cN : c < Wf.heap.size
  old : ∀ B, B < N0 → Wf.heap[B]? = W0.heap[B]?
  oldf : ∀ b B, βf.f b = some B → B < N0 → Fz w0 b
  os : Wf.os = W0.os
  out : Wf.output = W0.output
  tp : Wf.tape = W0.tape
  ch : ∀ c' ∈ Ch, N0 ≤ c' ∧ Wf.heap[c']? = some (.chan 0 #[] false 0 0 false)
  chd : (c :: Ch).Nodup

/-- The machine's end is good. -/
def Ends (P : Program) (Post : Value → World → Prop) (gs : Array Goroutine) (W : World) (sl : Option (Nat × Nat)) (t : Trace) : Prop :=
  ∃ N last o w' t', runNT P (N + 1) (crowd gs W sl) t = (.ended o w', t') ∧ runN P N (crowd gs W sl) = .next last ∧ step P last = .ended o w' ∧ Good P Post last o w' t'

/-- What does not turn: the old blocks but the channel. -/
structure Old (c N : Nat) (Wf W : World) : Prop where
  old : ∀ B, B < N → B ≠ c → W.heap[B]? = Wf.heap[B]?
  sz : N ≤ W.heap.size
  os : W.os = Wf.os
  out : W.output = Wf.output
  tp : W.tape = Wf.tape
theorem Old.at_ {c N : Nat} {Wf W : World} (h : Old c N Wf W) (d : Nat) : Old c N Wf (W.at d) := ⟨h.old, h.sz, h.os, h.out, h.tp⟩

section
variable {N0 : Nat} {W0 : World} {Ch : List Nat} {c : Nat} {βf : Ren P.globals.size} {w0 Wf : World} {Post : Value → World → Prop} {K : List Frame → World → Prop}

/-- Behind the join goroutine 0 goes on with what was there, and what it has made. -/
theorem Fk.cfg (hF : Fk FN N0 W0 Ch c βf w0 Wf) {β : Ren P.globals.size} {fs FS : List Frame} {w W : World} {gs : Array Goroutine} {t : Trace} {q : Nat → Nat}
    (hA : Side P FN Wf.heap.size w0.heap.size βf β fs w FS W) (hO : Old c Wf.heap.size Wf W) (hno : ∀ b, β.f b ≠ some c) (hg : gs[0]? = some (gorL FS)) (hL : Leavers P t gs q) (hP : PastT t) : CfgR P FN N0 W0 Ch fs (thaw w0 w) β gs W t q := by
  have hold : ∀ b B, βf.f b = some B → (thaw w0 w).heap[b]? = w0.heap[b]? ∧ W.heap[B]? = Wf.heap[B]? := fun b B hb => by
    obtain ⟨h1, h2⟩ := hF.wr.lt hb
    exact ⟨thaw_old h1, hO.old B h2 fun e => hno b (by rw [← e]; exact hA.le _ _ hb)⟩
  have hN0 : N0 ≤ Wf.heap.size := by have := hF.n0; have := hF.cN; omega
  refine ⟨⟨FS, hg, hA.rel⟩, ⟨fun b B hb => ?_, ?_, hA.wr.gr⟩, hL, hP, Nat.le_trans hN0 hO.sz, fun B hB => ?_, fun b B hb hB => ?_, hO.os.trans hF.os, hO.out.trans hF.out, hO.tp.trans hF.tp, fun c' hc' => ?_, (List.nodup_cons.1 hF.chd).2⟩
  · rcases hA.nw b B hb with h | ⟨h1, h2⟩
    · obtain ⟨e1, e2⟩ := hold b B h
      rw [e1, e2]
      exact (hF.wr.blk b B h).mono hA.le
    · rw [thaw_new h1]
      exact hA.wr.blk b B hb
  · rw [thaw_size hA.sz]; exact hA.wr.gl
  · rw [hO.old B (by omega) (by have := hF.n0; omega)]; exact hF.old B hB
  · rcases hA.nw b B hb with h | ⟨_, h2⟩
    · obtain ⟨e1, _⟩ := hold b B h
      rcases hF.oldf b B h hB with ⟨cc, tt, fr, g1, g2⟩ | ⟨a, l, g1⟩
      · exact .inl ⟨cc, tt, fr, e1.trans g1, g2⟩
      · exact .inr ⟨a, l, e1.trans g1⟩
    · omega
  · obtain ⟨g1, g2⟩ := hF.ch c' hc'
    have hne : c' ≠ c := fun e => (List.nodup_cons.1 hF.chd).1 (e ▸ hc')
    exact ⟨g1, (hO.old c' (Array.getElem?_eq_some_iff.1 g2).1 hne).trans g2⟩

/-- ████ THE SENDER HAS CLOSED: THE RECEIVER COMES TO ITS END. ████ -/
theorem stage2 (hF : Fk FN N0 W0 Ch c βf w0 Wf) (hK : ∀ fs' w', K fs' w' → CEnds P FN N0 W0 Post Ch fs' (thaw w0 w')) {n : Nat} (hn : 0 < n) {L : List Value} {fs : List Frame} {wa : World} (hA : Rcv P FN c K L fs wa) (hLn : L = []) :
    ∀ (β : Ren P.globals.size) (FS : List Frame) (T1 : Nat → Prop) (gs : Array Goroutine) (W : World) (sl : Option (Nat × Nat)) (t : Trace) (q : Nat → Nat) (ga : Goroutine) (s r : Nat),
      gs[0]? = some ga → (ga = gorL FS ∨ ∃ cs sh, ga = { parked (gorL FS) cs sh with status := .running }) → Side P FN Wf.heap.size w0.heap.size βf β fs wa FS W → (∀ B, T1 B → Wf.heap.size ≤ B ∧ B < W.heap.size) → (∀ B, Rng β B → T1 B → False) →
      Old c Wf.heap.size Wf W → W.heap[c]? = some (.chan 0 #[] true s r false) → Lv P 0 t gs q → ClT Wf.heap.size n c T1 t → Ends P Post gs W sl t := by
  have tsN : ∀ (β : Ren P.globals.size) B, TS Wf.heap.size β B → Wf.heap.size ≤ B := fun β B h => h.1
  have main : ∀ {L : List Value} {fs : List Frame} {wa : World}, Rcv P FN c K L fs wa → L = [] → ∀ (M : Nat) (β : Ren P.globals.size) (FS : List Frame) (T1 : Nat → Prop) (gs : Array Goroutine) (W : World) (sl : Option (Nat × Nat)) (t : Trace) (q : Nat → Nat) (ga : Goroutine) (s r : Nat),
      sumTo gs.size q = M → gs[0]? = some ga → (ga = gorL FS ∨ ∃ cs sh, ga = { parked (gorL FS) cs sh with status := .running }) → Side P FN Wf.heap.size w0.heap.size βf β fs wa FS W → (∀ B, T1 B → Wf.heap.size ≤ B ∧ B < W.heap.size) → (∀ B, Rng β B → T1 B → False) →
      Old c Wf.heap.size Wf W → W.heap[c]? = some (.chan 0 #[] true s r false) → Lv P 0 t gs q → ClT Wf.heap.size n c T1 t → Ends P Post gs W sl t := by
    intro L fs wa hA hLn
    -- one step of the machine, of whomever
    have pick : ∀ {fs : List Frame} {wa : World}, fs ≠ [] → (∀ (β : Ren P.globals.size) (FS : List Frame) (T1 : Nat → Prop) (gs : Array Goroutine) (W : World) (sl : Option (Nat × Nat)) (t : Trace) (q : Nat → Nat) (ga : Goroutine) (s r : Nat),
        gs[0]? = some ga → ga.status = .running → (∀ W, stepG P true ga W = stepG P true (gorL FS) W) → ga.frame = (gorL FS).frame → Side P FN Wf.heap.size w0.heap.size βf β fs wa FS W → (∀ B, T1 B → Wf.heap.size ≤ B ∧ B < W.heap.size) → (∀ B, Rng β B → T1 B → False) →
        Old c Wf.heap.size Wf W → W.heap[c]? = some (.chan 0 #[] true s r false) → Lv P 0 t gs q → ClT Wf.heap.size n c T1 t →
          ∃ gs' W' sl' ops, runT P (crowd gs W sl) 0 = (.next (crowd gs' W' sl'), ops) ∧ Ends P Post gs' W' sl' (t ++ ops)) →
        ∀ (M : Nat) (β : Ren P.globals.size) (FS : List Frame) (T1 : Nat → Prop) (gs : Array Goroutine) (W : World) (sl : Option (Nat × Nat)) (t : Trace) (q : Nat → Nat) (ga : Goroutine) (s r : Nat),
          sumTo gs.size q = M → gs[0]? = some ga → (ga = gorL FS ∨ ∃ cs sh, ga = { parked (gorL FS) cs sh with status := .running }) → Side P FN Wf.heap.size w0.heap.size βf β fs wa FS W → (∀ B, T1 B → Wf.heap.size ≤ B ∧ B < W.heap.size) → (∀ B, Rng β B → T1 B → False) →
          Old c Wf.heap.size Wf W → W.heap[c]? = some (.chan 0 #[] true s r false) → Lv P 0 t gs q → ClT Wf.heap.size n c T1 t → Ends P Post gs W sl t := by
      intro fs wa hne own M
      induction M using Nat.strongRecOn with
      | _ M ih =>
        intro β FS T1 gs W sl t q ga s r hM h0 hsit hS hT1 hdj hO hc hL hC
        have hrun : (gorL FS).status = .running := gorL_running (frs_ne hS.rel hne)
        have hgs : ga.status = .running := by rcases hsit with rfl | ⟨cs, sh, rfl⟩ <;> first | exact hrun | rfl
        have haw : ∀ g ∈ gs, awake g := by
          intro g hg
          obtain ⟨i, hi, rfl⟩ := Array.mem_iff_getElem.1 hg
          rcases Nat.eq_zero_or_pos i with rfl | hpos
          · have : gs[0] = ga := by simpa [Array.getElem?_eq_getElem hi] using h0
            rw [this]; exact awake_of (.inl hgs)
          · exact awake_of ((hL.old i _ hpos (by omega) (Array.getElem?_eq_getElem hi)).status.elim .inl fun x => .inr (.inr x))
        obtain ⟨i, g, d, sl', hi, hg, hst⟩ := crowd_pick (P := P) (w := W) (sl := sl) haw ⟨0, ga, h0, hgs⟩
        have hS' : Side P FN Wf.heap.size w0.heap.size βf β fs wa FS (W.at d) := hS.other (Nat.le_refl _) fun _ _ => rfl
        rcases Nat.eq_zero_or_pos i with rfl | hpos
        · have hsame : ∀ W, stepG P true ga W = stepG P true (gorL FS) W := fun W => by
            rcases hsit with rfl | ⟨cs, sh, rfl⟩
            · rfl
            · exact stepG_same rfl rfl rfl W
          have hfr : ga.frame = (gorL FS).frame := by rcases hsit with rfl | ⟨cs, sh, rfl⟩ <;> rfl
          obtain ⟨gs', W', sl2, ops, h1, h2⟩ := own β FS T1 gs (W.at d) sl' t q ga s r h0 hgs hsame hfr hS' hT1 hdj (hO.at_ d) hc hL hC
          exact run_more (hst.trans h1) h2
        · obtain ⟨k', g', es, hk, hm, hrT, hq'⟩ := leaver_go (W := W.at d) (sl := sl') hi hg (by omega) (hL.old i g hpos (by omega) hi)
          have hlt : i < gs.size := (Array.getElem?_eq_some_iff.1 hi).1
          have hsz : ((gs.map (woken P g g' (W.at d))).setIfInBounds i g').size = gs.size := by simp
          have hsum : sumTo gs.size (upd q i k') + (k' + 1) = sumTo gs.size q + k' := by
            have := sumTo_upd q k' id hlt
            simpa [hk] using this
          refine run_more (hst.trans hrT) (ih (sumTo gs.size (upd q i k')) (by omega) β FS T1 _ (W.at d) sl' _ (upd q i k') ga s r (by rw [hsz]) ?_ hsit hS' hT1 hdj (hO.at_ d) hc (hL.leaver hi hq') ?_)
          · rw [Array.getElem?_setIfInBounds_ne (by omega), Array.getElem?_map, h0]
            simp [woken_run hgs]
          · exact hC.app (hC.ph.mute (by omega) hm) fun op hop => .inr (by obtain ⟨e, h1, rfl⟩ := Go.Conc.mem_ofEvents hop; exact touch_mute (hm e h1))
    induction hA with
    | step F G hne hneF hs hnx ih =>
      rename_i L fs w
      refine pick hne fun β FS T1 gs W sl t q ga s r h0 hgs hsame hfr hS hT1 hdj hO hc hL hC => ?_
      obtain ⟨γ, FS', W', ES, g1, g2, g3, g4⟩ := hs (tapeFor w W) β FS W hS.rel (hS.wr.tpd _) (tp_tapeFor w W)
      have hgo : stepG P (0 == 0) ga W = .go (gorL FS') W' ES := (hsame W).trans (g3 true)
      have hlt0 : 0 < gs.size := (Array.getElem?_eq_some_iff.1 h0).1
      have hSt : Side P FN Wf.heap.size w0.heap.size βf β fs (tpd w (tapeFor w W)) FS W := ⟨hS.rel, hS.wr.tpd _, hS.le, hS.fz, hS.nw, hS.sz⟩
      have hS' := hSt.own hO.sz g1 g2
      have hgr := hSt.grows g2
      have hap : ∀ B, Rng γ B → T1 B → False := by
        rintro B ⟨b, hb⟩ hT
        rcases g2.new_ b B hb with h1 | ⟨_, h1, _⟩
        · exact hdj B ⟨b, h1⟩ hT
        · have := (hT1 B hT).2; omega
      have hkp : ∀ B, B < W.heap.size → (Rng β B → B < Wf.heap.size) → W'.heap[B]? = W.heap[B]? := fun B h1 h2 => hSt.keep g2 h1 h2
      have hcl : c < W.heap.size := (Array.getElem?_eq_some_iff.1 hc).1
      refine ⟨_, _, _, _, runT_crowd_go (P := P) (sl := sl) (i := 0) h0 hgo, ih (tapeFor w W) hLn _ γ FS' T1 _ W' sl _ q (gorL FS') s r rfl (by simp [hlt0]) (.inl rfl) hS' (fun B hB => ⟨(hT1 B hB).1, by have := (hT1 B hB).2; omega⟩) hap
        ⟨fun B hB hne => (hkp B (by have := hO.sz; omega) fun _ => hB).trans (hO.old B hB hne), by have := hO.sz; omega, g2.os.trans hO.os, g2.out.trans hO.out, g2.tape.trans hO.tp⟩ ?_ (hL.own h0 (.inl rfl) fun op hop => by obtain ⟨e, _, rfl⟩ := Go.Conc.mem_ofEvents hop; rfl) ?_⟩
      · exact (hkp c hcl fun ⟨b, hb⟩ => absurd hb (chan_notin hS.wr hc b)).trans hc
      · exact hC.app (hC.ph.own0 (T0 := TS Wf.heap.size γ) (tsN γ) (fun B hB => (hT1 B hB).1) (fun B h1 h2 => hap B h1.2 h2) fun e he => hS'.evs (g4 e he)) fun op hop => by
          obtain ⟨e, _, rfl⟩ := Go.Conc.mem_ofEvents hop; exact .inl (by show (0 : Nat) ≠ n; omega)
    | recv hne h hnx ih => cases hLn
    | shut hne h hk =>
      rename_i fs w z nx
      refine pick hne fun β FS T1 gs W sl t q ga s r h0 hgs hsame hfr hS hT1 hdj hO hc hL hC => ?_
      obtain ⟨Z, hZ, hst, hnxt⟩ := h β FS hS.rel
      obtain ⟨FS', g1, g2, g3⟩ := hnxt z Z false hZ
      have hcm : stepG P (0 == 0) ga W = .comm (gorL FS) #[rcase c Z] true (.recv true) W #[] := (hsame W).trans (hst true W)
      have hlt0 : 0 < gs.size := (Array.getElem?_eq_some_iff.1 h0).1
      have hpn : partners (gs.setIfInBounds 0 ph) c true = [] := partners_nil fun j g hg => by
        rcases getElem?_stand gs 0 j g hg with ⟨_, rfl⟩ | ⟨hj, hg⟩
        · rfl
        · exact offersAt_of_not_blocked (by rcases (hL.old j g (by omega) hj hg).status with h | h <;> rw [h] <;> simp) c true
      have hrT := crowd_recv_closed (sl := sl) h0 hcm hc hpn
      have hes : MemOp.ofEvents 0 ga.frame.fn ga.frame.place #[] = #[] := by simp [MemOp.ofEvents]
      rw [finishComm_recv, g3, hes, Array.empty_append] at hrT
      obtain ⟨tp, hkk⟩ := hk
      refine ⟨_, _, _, _, hrT, ?_⟩
      have hC' := hC.shut (fn := (gorL FS).frame.fn) (pos := (gorL FS).frame.place)
      have hS' : Side P FN Wf.heap.size w0.heap.size βf β (nx z false) w FS' W := ⟨g1, hS.wr, hS.le, hS.fz, hS.nw, hS.sz⟩
      have hE : CEnds P FN N0 W0 Post Ch (nx z false) (thaw w0 w) := cEnds_clo.tp _ _ tp (hK _ _ hkk)
      refine hE β _ W sl _ q (hF.cfg hS' hO (fun b hb => chan_notin hS.wr hc b hb) (by simp [hlt0]) ⟨fun j g hj hg => ?_, fun j hj => ?_⟩ hC')
      · rw [Array.getElem?_setIfInBounds_ne (by omega)] at hg
        rw [Deaf_quiet t j _ (by simp)]
        exact hL.old j g hj (by omega) hg
      · rw [Deaf_quiet t j _ (by simp)]
        exact hL.above j (by simpa using hj)
    | vac h => exact fun M β FS T1 gs W sl t q ga s r _ _ _ hS _ _ _ _ _ _ => (h β FS W hS.rel hS.wr).elim
  exact fun β FS T1 gs W sl t q ga s r => main hA hLn _ β FS T1 gs W sl t q ga s r rfl
end
end Go.Fw
end

section
/- A fork: receiver and sender at work, on whatever schedule. No condition. -/
set_option linter.unusedVariables false
set_option linter.unusedSimpArgs false
namespace Go.Fw
open Go Go.Conc
open Go.ConcN (sumTo upd sumTo_upd upd_ne upd_same)
variable {P : Program} {FN : FuncId → Bool}

inductive SitA (P : Program) (c : Nat) (FS : List Frame) : Nat → Goroutine → Prop
  | run : SitA P c FS 1 (gorL FS)
  | park (Z : Value) (h : ∀ m W, stepG P m (gorL FS) W = .comm (gorL FS) #[rcase c Z] true (.recv true) W #[]) : SitA P c FS 0 (parked (gorL FS) #[rcase c Z] (.recv true))
inductive SitB (P : Program) (c : Nat) (FS : List Frame) : Nat → Goroutine → Prop
  | unborn {g : Goroutine} (hg : g.status = .running) (h : ∀ W, stepG P false g W = .go (gorL FS) W #[]) : SitB P c FS 2 g
  | run : SitB P c FS 1 (gorL FS)
  | park (V Z : Value) (h : ∀ m W, stepG P m (gorL FS) W = .comm (gorL FS) #[scase c V Z] true .send W #[]) : SitB P c FS 0 (parked (gorL FS) #[scase c V Z] .send)

section
variable {N0 : Nat} {W0 : World} {Ch : List Nat} {c : Nat} {βf : Ren P.globals.size} {w0 Wf : World} {Post : Value → World → Prop} {K : List Frame → World → Prop} {n : Nat}

structure Ph1 (P : Program) (FN : FuncId → Bool) (c n : Nat) (βf : Ren P.globals.size) (w0 Wf : World) (β0 : Ren P.globals.size) (fa : List Frame) (wa : World) (FA : List Frame) (β1 : Ren P.globals.size) (fb : List Frame) (wb : World) (FB : List Frame)
    (gs : Array Goroutine) (W : World) (t : Trace) (q : Nat → Nat) (ga gb : Goroutine) : Prop where
  ga : gs[0]? = some ga
  gb : gs[n]? = some gb
  A : Side P FN Wf.heap.size w0.heap.size βf β0 fa wa FA W
  B : Side P FN Wf.heap.size w0.heap.size βf β1 fb wb FB W
  dj : ∀ B, Rng β0 B → Rng β1 B → B < Wf.heap.size
  old : Old c Wf.heap.size Wf W
  ch : ∃ s, W.heap[c]? = some (.chan 0 #[] false s s false)
  lv : Lv P n t gs q
  tr : PhT Wf.heap.size n (TS Wf.heap.size β0) (TS Wf.heap.size β1) t

variable {β0 β1 γ : Ren P.globals.size} {fa fb fa' fb' FA FB FA' FB' : List Frame} {wa wb wa' wb' W W' : World} {gs : Array Goroutine} {t : Trace} {q : Nat → Nat} {ga gb : Goroutine}

theorem Ph1.at_ (h : Ph1 P FN c n βf w0 Wf β0 fa wa FA β1 fb wb FB gs W t q ga gb) (d : Nat) : Ph1 P FN c n βf w0 Wf β0 fa wa FA β1 fb wb FB gs (W.at d) t q ga gb :=
  ⟨h.ga, h.gb, h.A.other (Nat.le_refl _) fun _ _ => rfl, h.B.other (Nat.le_refl _) fun _ _ => rfl, h.dj, h.old.at_ d, h.ch, h.lv, h.tr⟩

theorem woken_sitA {k : Nat} {g g' : Goroutine} (hs : SitA P c FA k ga) (hne : FA ≠ []) {s : Nat} (hc : W'.heap[c]? = some (.chan 0 #[] false s s false)) : woken P g g' W' ga = ga := by
  cases hs with
  | run => exact woken_run (gorL_running hne)
  | park Z h => exact woken_recv_open _ _ hc
theorem woken_sitB {k : Nat} {g g' : Goroutine} (hs : SitB P c FB k gb) (hne : FB ≠ []) {s : Nat} (hc : W'.heap[c]? = some (.chan 0 #[] false s s false)) : woken P g g' W' gb = gb := by
  cases hs with
  | unborn hg h => exact woken_run hg
  | run => exact woken_run (gorL_running hne)
  | park V Z h => exact woken_send_open _ _ hc

/-- Goroutine 0's own step. -/
theorem Ph1.ownA (hn : 0 < n) (h : Ph1 P FN c n βf w0 Wf β0 fa wa FA β1 fb wb FB gs W t q (gorL FA) gb) {k : Nat} (hs : SitB P c FB k gb) (hneB : FB ≠ []) (hf : FrsR P FN γ fa' FA') (hr : RunR FN β0 γ wa W wa' W') {ES : Array Event} (he : ∀ e ∈ ES, EvR γ wa' W' e) :
    Ph1 P FN c n βf w0 Wf γ fa' wa' FA' β1 fb wb FB ((gs.map (woken P (gorL FA) (gorL FA') W')).setIfInBounds 0 (gorL FA')) W' (t ++ MemOp.ofEvents 0 (gorL FA).frame.fn (gorL FA).frame.place ES) q (gorL FA') gb := by
  have hlt0 : 0 < gs.size := (Array.getElem?_eq_some_iff.1 h.ga).1
  have hA' := h.A.own h.old.sz hf hr
  have hgr := h.A.grows hr
  have hkp : ∀ B, B < W.heap.size → (Rng β0 B → B < Wf.heap.size) → W'.heap[B]? = W.heap[B]? := fun B h1 h2 => h.A.keep hr h1 h2
  obtain ⟨s, hc⟩ := h.ch
  have hcl : c < W.heap.size := (Array.getElem?_eq_some_iff.1 hc).1
  have hc' : W'.heap[c]? = some (.chan 0 #[] false s s false) := (hkp c hcl fun ⟨b, hb⟩ => absurd hb (chan_notin h.A.wr hc b)).trans hc
  have hap := h.A.apart hr h.B.rngLt h.dj
  refine ⟨by simp [hlt0], ?_, hA', h.B.other hgr fun B hB => hkp B (h.B.rngLt B hB) fun h1 => h.dj B h1 hB, hap,
    ⟨fun B hB hne => (hkp B (by have := h.old.sz; omega) fun _ => hB).trans (h.old.old B hB hne), by have := h.old.sz; omega, hr.os.trans h.old.os, hr.out.trans h.old.out, hr.tape.trans h.old.tp⟩, ⟨s, hc'⟩,
    h.lv.own h.ga (.inl rfl) fun op hop => by obtain ⟨e, _, rfl⟩ := Go.Conc.mem_ofEvents hop; rfl,
    h.tr.own0 (T0' := TS Wf.heap.size γ) (fun B ⟨h1, b, hb⟩ => ⟨h1, b, hr.le _ _ hb⟩) (fun B h1 => h1.1) (fun B h1 => h1.1) (fun B h1 h2 => by have := hap B h1.2 h2.2; have := h1.1; omega) fun e h1 => hA'.evs (he e h1)⟩
  rw [Array.getElem?_setIfInBounds_ne (by omega), Array.getElem?_map, h.gb]
  simp [woken_sitB hs hneB hc']

/-- The sender's own step. -/
theorem Ph1.ownB (hn : 0 < n) (h : Ph1 P FN c n βf w0 Wf β0 fa wa FA β1 fb wb FB gs W t q ga (gorL FB)) {k : Nat} (hs : SitA P c FA k ga) (hneA : FA ≠ []) (hf : FrsR P FN γ fb' FB') (hr : RunR FN β1 γ wb W wb' W') {ES : Array Event} (he : ∀ e ∈ ES, EvR γ wb' W' e) :
    Ph1 P FN c n βf w0 Wf β0 fa wa FA γ fb' wb' FB' ((gs.map (woken P (gorL FB) (gorL FB') W')).setIfInBounds n (gorL FB')) W' (t ++ MemOp.ofEvents n (gorL FB).frame.fn (gorL FB).frame.place ES) q ga (gorL FB') := by
  have hltn : n < gs.size := (Array.getElem?_eq_some_iff.1 h.gb).1
  have hB' := h.B.own h.old.sz hf hr
  have hgr := h.B.grows hr
  have hkp : ∀ B, B < W.heap.size → (Rng β1 B → B < Wf.heap.size) → W'.heap[B]? = W.heap[B]? := fun B h1 h2 => h.B.keep hr h1 h2
  obtain ⟨s, hc⟩ := h.ch
  have hcl : c < W.heap.size := (Array.getElem?_eq_some_iff.1 hc).1
  have hc' : W'.heap[c]? = some (.chan 0 #[] false s s false) := (hkp c hcl fun ⟨b, hb⟩ => absurd hb (chan_notin h.B.wr hc b)).trans hc
  have hap := h.B.apart hr h.A.rngLt fun B h1 h2 => h.dj B h2 h1
  refine ⟨?_, by simp [hltn], h.A.other hgr fun B hB => hkp B (h.A.rngLt B hB) fun h1 => h.dj B hB h1, hB', fun B h1 h2 => hap B h2 h1,
    ⟨fun B hB hne => (hkp B (by have := h.old.sz; omega) fun _ => hB).trans (h.old.old B hB hne), by have := h.old.sz; omega, hr.os.trans h.old.os, hr.out.trans h.old.out, hr.tape.trans h.old.tp⟩, ⟨s, hc'⟩,
    h.lv.own h.gb (.inr rfl) fun op hop => by obtain ⟨e, _, rfl⟩ := Go.Conc.mem_ofEvents hop; rfl,
    h.tr.own1 (T1' := TS Wf.heap.size γ) (fun B ⟨h1, b, hb⟩ => ⟨h1, b, hr.le _ _ hb⟩) (fun B h1 => h1.1) (fun B h1 => h1.1) (fun B h1 h2 => by have := hap B h2.2 h1.2; have := h1.1; omega) fun e h1 => hB'.evs (he e h1)⟩
  rw [Array.getElem?_setIfInBounds_ne (by omega), Array.getElem?_map, h.ga]
  simp [woken_sitA hs hneA hc']

/-- Something that turns the two, the channel's counts and the trace by quiet words alone. -/
theorem Ph1.comm (hn : 0 < n) (h : Ph1 P FN c n βf w0 Wf β0 fa wa FA β1 fb wb FB gs W t q ga gb) (hcF : c < Wf.heap.size) {gs' : Array Goroutine} {ga' gb' : Goroutine} {u : Trace} {s : Nat} (hA : FrsR P FN β0 fa' FA') (hB : FrsR P FN β1 fb' FB') (hsz : gs'.size = gs.size)
    (h0 : gs'[0]? = some ga') (h1 : gs'[n]? = some gb') (he : ∀ j, 0 < j → j ≠ n → gs'[j]? = gs[j]?) (hu : ∀ op ∈ u, op.act.touch? = none ∧ op.act ≠ .mark .disable ∧ op.act ≠ .mark .enable) :
    Ph1 P FN c n βf w0 Wf β0 fa' wa FA' β1 fb' wb FB' gs' (W.setChan c 0 #[] false s s false) (t ++ u) q ga' gb' := by
  obtain ⟨s0, hc⟩ := h.ch
  have hne : ∀ B, B ≠ c → (W.setChan c 0 #[] false s s false).heap[B]? = W.heap[B]? := fun B hB => heap_setChan_ne W 0 #[] false s s false (Ne.symm hB)
  have hsW : (W.setChan c 0 #[] false s s false).heap.size = W.heap.size := by simp [World.setChan]
  have oA := h.A.other (W' := W.setChan c 0 #[] false s s false) (by rw [hsW]; exact Nat.le_refl _) fun B ⟨b, hb⟩ => hne B fun e => chan_notin h.A.wr hc b (by rw [← e]; exact hb)
  have oB := h.B.other (W' := W.setChan c 0 #[] false s s false) (by rw [hsW]; exact Nat.le_refl _) fun B ⟨b, hb⟩ => hne B fun e => chan_notin h.B.wr hc b (by rw [← e]; exact hb)
  exact ⟨h0, h1, ⟨hA, oA.wr, oA.le, oA.fz, oA.nw, oA.sz⟩, ⟨hB, oB.wr, oB.le, oB.fz, oB.nw, oB.sz⟩, h.dj, ⟨fun B hB hBc => (hne B hBc).trans (h.old.old B hB hBc), by rw [hsW]; exact h.old.sz, h.old.os, h.old.out, h.old.tp⟩,
    ⟨s, heap_setChan_self W hc ..⟩, h.lv.quiet hsz he fun op ho => (hu op ho).2, h.tr.quiet hu⟩
/-- .. the channel stands. -/
theorem Ph1.park (hn : 0 < n) (h : Ph1 P FN c n βf w0 Wf β0 fa wa FA β1 fb wb FB gs W t q ga gb) {gs' : Array Goroutine} {ga' gb' : Goroutine} {u : Trace} (hsz : gs'.size = gs.size)
    (h0 : gs'[0]? = some ga') (h1 : gs'[n]? = some gb') (he : ∀ j, 0 < j → j ≠ n → gs'[j]? = gs[j]?) (hu : ∀ op ∈ u, op.act.touch? = none ∧ op.act ≠ .mark .disable ∧ op.act ≠ .mark .enable) :
    Ph1 P FN c n βf w0 Wf β0 fa wa FA β1 fb wb FB gs' W (t ++ u) q ga' gb' :=
  ⟨h0, h1, h.A, h.B, h.dj, h.old, h.ch, h.lv.quiet hsz he fun op ho => (hu op ho).2, h.tr.quiet hu⟩

/-- Who moves. -/
theorem Ph1.pick (hn : 0 < n) (h : Ph1 P FN c n βf w0 Wf β0 fa wa FA β1 fb wb FB gs W t q ga gb) {ka kb : Nat} (sa : SitA P c FA ka ga) (sb : SitB P c FB kb gb) (hneA : FA ≠ []) (hneB : FB ≠ []) (hk : 0 < ka + kb) (sl : Option (Nat × Nat)) :
    ∃ d sl', (ka = 1 ∧ stepT P (crowd gs W sl) = runT P (crowd gs (W.at d) sl') 0) ∨ (0 < kb ∧ stepT P (crowd gs W sl) = runT P (crowd gs (W.at d) sl') n) ∨
      ∃ gs' ops q', stepT P (crowd gs W sl) = (.next (crowd gs' (W.at d) sl'), ops) ∧ Ph1 P FN c n βf w0 Wf β0 fa wa FA β1 fb wb FB gs' (W.at d) (t ++ ops) q' ga gb ∧ gs'.size = gs.size ∧ sumTo gs'.size q' < sumTo gs.size q := by
  have aA : awake ga := by cases sa with
    | run => exact awake_of (.inl (gorL_running hneA))
    | park Z h => exact awake_of (.inr (.inl rfl))
  have aB : awake gb := by cases sb with
    | unborn hg h => exact awake_of (.inl hg)
    | run => exact awake_of (.inl (gorL_running hneB))
    | park V Z h => exact awake_of (.inr (.inl rfl))
  have haw : ∀ g ∈ gs, awake g := by
    intro g hg
    obtain ⟨i, hi, rfl⟩ := Array.mem_iff_getElem.1 hg
    by_cases h0 : i = 0
    · subst h0
      have : gs[0] = ga := by simpa [Array.getElem?_eq_getElem hi] using h.ga
      rw [this]; exact aA
    · by_cases h1 : i = n
      · subst h1
        have : gs[i] = gb := by simpa [Array.getElem?_eq_getElem hi] using h.gb
        rw [this]; exact aB
      · exact awake_of ((h.lv.old i _ (by omega) h1 (Array.getElem?_eq_getElem hi)).status.elim .inl fun x => .inr (.inr x))
  have hsome : ∃ (i : Nat) (g : Goroutine), gs[i]? = some g ∧ g.status = .running := by
    cases sa with
    | run => exact ⟨0, _, h.ga, gorL_running hneA⟩
    | park Z hz =>
      cases sb with
      | unborn hg _ => exact ⟨n, _, h.gb, hg⟩
      | run => exact ⟨n, _, h.gb, gorL_running hneB⟩
      | park V Z h => simp at hk
  obtain ⟨i, g, d, sl', hi, hg, hst⟩ := crowd_pick (P := P) (w := W) (sl := sl) haw hsome
  refine ⟨d, sl', ?_⟩
  by_cases h0 : i = 0
  · subst h0
    rw [h.ga] at hi
    cases hi
    refine .inl ⟨?_, hst⟩
    cases sa with
    | run => rfl
    | park Z h => cases hg
  · by_cases h1 : i = n
    · subst h1
      rw [h.gb] at hi
      cases hi
      refine .inr (.inl ⟨?_, hst⟩)
      cases sb with
      | unborn _ _ => omega
      | run => omega
      | park V Z h => cases hg
    · obtain ⟨k', g', es, hk', hm, hrT, hq'⟩ := leaver_go (W := W.at d) (sl := sl') hi hg h0 (h.lv.old i g (by omega) h1 hi)
      have hlt : i < gs.size := (Array.getElem?_eq_some_iff.1 hi).1
      have hsz : ((gs.map (woken P g g' (W.at d))).setIfInBounds i g').size = gs.size := by simp
      have hsum : sumTo gs.size (upd q i k') + (k' + 1) = sumTo gs.size q + k' := by
        have := sumTo_upd q k' id hlt
        simpa [hk'] using this
      obtain ⟨s, hc⟩ := h.ch
      have hd := h.at_ d
      refine .inr (.inr ⟨_, _, upd q i k', hst.trans hrT, ⟨?_, ?_, hd.A, hd.B, h.dj, hd.old, hd.ch, h.lv.leaver hi hq', h.tr.mute h0 h1 hm⟩, hsz, by rw [hsz]; omega⟩)
      · rw [Array.getElem?_setIfInBounds_ne (by omega), Array.getElem?_map, h.ga]
        simp [woken_sitA sa hneA (show (W.at d).heap[c]? = _ from hc)]
      · rw [Array.getElem?_setIfInBounds_ne (by omega), Array.getElem?_map, h.gb]
        simp [woken_sitB sb hneB (show (W.at d).heap[c]? = _ from hc)]

/-! ### who offers what -/
theorem Ph1.noPartner0 (h : Ph1 P FN c n βf w0 Wf β0 fa wa FA β1 fb wb FB gs W t q ga gb) (hneB : FB ≠ []) {kb : Nat} (sb : SitB P c FB kb gb) (hkb : 0 < kb) (r : Nat) (b : Bool) : partners (gs.setIfInBounds 0 ph) r b = [] :=
  partners_nil fun j g hg => by
    rcases getElem?_stand gs 0 j g hg with ⟨_, rfl⟩ | ⟨hj, hg⟩
    · rfl
    · by_cases hjn : j = n
      · subst hjn
        rw [h.gb] at hg
        cases hg
        exact offersAt_of_not_blocked (by
          cases sb with
          | unborn hg _ => rw [hg]; simp
          | run => rw [gorL_running hneB]; simp
          | park V Z h => simp at hkb) r b
      · exact offersAt_of_not_blocked (by rcases (h.lv.old j g (by omega) hjn hg).status with h | h <;> rw [h] <;> simp) r b
theorem Ph1.noPartnerN (hn : 0 < n) (h : Ph1 P FN c n βf w0 Wf β0 fa wa FA β1 fb wb FB gs W t q (gorL FA) gb) (hneA : FA ≠ []) (r : Nat) (b : Bool) : partners (gs.setIfInBounds n ph) r b = [] :=
  partners_nil fun j g hg => by
    rcases getElem?_stand gs n j g hg with ⟨_, rfl⟩ | ⟨hj, hg⟩
    · rfl
    · by_cases hj0 : j = 0
      · subst hj0
        rw [h.ga] at hg
        cases hg
        exact offersAt_of_not_blocked (by rw [gorL_running hneA]; simp) r b
      · exact offersAt_of_not_blocked (by rcases (h.lv.old j g (by omega) hj hg).status with h | h <;> rw [h] <;> simp) r b
theorem Ph1.partner0 {V Z : Value} (hn : 0 < n) (h : Ph1 P FN c n βf w0 Wf β0 fa wa FA β1 fb wb FB gs W t q ga (parked (gorL FB) #[scase c V Z] .send)) : partners (gs.setIfInBounds 0 ph) c true = [(n, 0)] := by
  have := partners_one (r := c) (send := true) (stand_get (i := 0) (show n ≠ 0 by omega) h.gb) fun k x hk hx => by
    rcases getElem?_stand gs 0 k x hx with ⟨_, rfl⟩ | ⟨hj, hg⟩
    · rfl
    · exact offersAt_of_not_blocked (by rcases (h.lv.old k x (by omega) hk hg).status with h | h <;> rw [h] <;> simp) c true
  rw [this, offersAt_parked_send]
  simp
theorem Ph1.partnerN {Z : Value} (hn : 0 < n) (h : Ph1 P FN c n βf w0 Wf β0 fa wa FA β1 fb wb FB gs W t q (parked (gorL FA) #[rcase c Z] (.recv true)) gb) : partners (gs.setIfInBounds n ph) c false = [(0, 0)] := by
  have := partners_one (r := c) (send := false) (stand_get (i := n) (show 0 ≠ n by omega) h.ga) fun k x hk hx => by
    rcases getElem?_stand gs n k x hx with ⟨_, rfl⟩ | ⟨hj, hg⟩
    · rfl
    · exact offersAt_of_not_blocked (by rcases (h.lv.old k x (by omega) hj hg).status with h | h <;> rw [h] <;> simp) c false
  rw [this, offersAt_parked_recv]
  simp
end
end Go.Fw
end

section
/- A fork: receiver and sender come to the receiver's end, on whatever schedule. No condition. -/
set_option linter.unusedVariables false
set_option linter.unusedSimpArgs false
namespace Go.Fw
open Go Go.Conc
open Go.ConcN (sumTo upd sumTo_upd upd_ne upd_same)
variable {P : Program} {FN : FuncId → Bool}

section
variable {N0 : Nat} {W0 : World} {Ch : List Nat} {c : Nat} {βf : Ren P.globals.size} {w0 Wf : World} {Post : Value → World → Prop} {K : List Frame → World → Prop} {n : Nat}

/-- From such a state the machine comes to a good end. -/
def Goal1 (P : Program) (FN : FuncId → Bool) (Post : Value → World → Prop) (c n : Nat) (βf : Ren P.globals.size) (w0 Wf : World) (fa : List Frame) (wa : World) (fb : List Frame) (wb : World) : Prop :=
  ∀ (β0 : Ren P.globals.size) (FA : List Frame) (β1 : Ren P.globals.size) (FB : List Frame) (gs : Array Goroutine) (W : World) (sl : Option (Nat × Nat)) (t : Trace) (q : Nat → Nat) (ga gb : Goroutine) (ka kb : Nat),
    Ph1 P FN c n βf w0 Wf β0 fa wa FA β1 fb wb FB gs W t q ga gb → SitA P c FA ka ga → SitB P c FB kb gb → 0 < ka + kb → Ends P Post gs W sl t

/-- The machine's next step is such, and leads on. -/
def Goes1 (P : Program) (Post : Value → World → Prop) (i : Nat) (gs : Array Goroutine) (W : World) (sl : Option (Nat × Nat)) (t : Trace) : Prop :=
  ∃ gs' W' sl' ops, runT P (crowd gs W sl) i = (.next (crowd gs' W' sl'), ops) ∧ Ends P Post gs' W' sl' (t ++ ops)

/-- What is asked of the receiver where it moves. -/
def MoveA (P : Program) (FN : FuncId → Bool) (Post : Value → World → Prop) (c n : Nat) (βf : Ren P.globals.size) (w0 Wf : World) (fa : List Frame) (wa : World) (fb : List Frame) (wb : World) : Prop :=
  ∀ (β0 : Ren P.globals.size) (FA : List Frame) (β1 : Ren P.globals.size) (FB : List Frame) (gs : Array Goroutine) (W : World) (sl : Option (Nat × Nat)) (t : Trace) (q : Nat → Nat) (gb : Goroutine) (kb : Nat),
    Ph1 P FN c n βf w0 Wf β0 fa wa FA β1 fb wb FB gs W t q (gorL FA) gb → SitB P c FB kb gb →
    (∀ (Z : Value) (gs' : Array Goroutine) (W' : World) (t' : Trace), (∀ m W, stepG P m (gorL FA) W = .comm (gorL FA) #[rcase c Z] true (.recv true) W #[]) → 0 < kb → gs'.size = gs.size →
      Ph1 P FN c n βf w0 Wf β0 fa wa FA β1 fb wb FB gs' W' t' q (parked (gorL FA) #[rcase c Z] (.recv true)) gb → Ends P Post gs' W' sl t') → Goes1 P Post 0 gs W sl t
/-- .. of the sender. -/
def MoveB (P : Program) (FN : FuncId → Bool) (Post : Value → World → Prop) (c n : Nat) (βf : Ren P.globals.size) (w0 Wf : World) (fa : List Frame) (wa : World) (fb : List Frame) (wb : World) : Prop :=
  ∀ (β0 : Ren P.globals.size) (FA : List Frame) (β1 : Ren P.globals.size) (FB : List Frame) (gs : Array Goroutine) (W : World) (sl : Option (Nat × Nat)) (t : Trace) (q : Nat → Nat) (ga : Goroutine) (ka : Nat),
    Ph1 P FN c n βf w0 Wf β0 fa wa FA β1 fb wb FB gs W t q ga (gorL FB) → SitA P c FA ka ga →
    (∀ (V Z : Value) (gs' : Array Goroutine) (W' : World) (t' : Trace), (∀ m W, stepG P m (gorL FB) W = .comm (gorL FB) #[scase c V Z] true .send W #[]) → 0 < ka → gs'.size = gs.size →
      Ph1 P FN c n βf w0 Wf β0 fa wa FA β1 fb wb FB gs' W' t' q ga (parked (gorL FB) #[scase c V Z] .send) → Ends P Post gs' W' sl t') → Goes1 P Post n gs W sl t

theorem ofEvents_nil (i : Nat) (fn : FuncId) (pos : String) : MemOp.ofEvents i fn pos #[] = #[] := by simp [MemOp.ofEvents]

/-- ████ THE MACHINE MOVES. ████ -/
theorem wrap (hn : 0 < n) {fa fb : List Frame} {wa wb : World} (hneA : fa ≠ []) (hneB : fb ≠ []) (HA : MoveA P FN Post c n βf w0 Wf fa wa fb wb) (HB : MoveB P FN Post c n βf w0 Wf fa wa fb wb) : Goal1 P FN Post c n βf w0 Wf fa wa fb wb := by
  intro β0 FA β1 FB gs W sl t q ga gb ka kb h sa sb hk
  generalize hM : ka + kb + sumTo gs.size q = M
  induction M using Nat.strongRecOn generalizing gs W sl t q ga gb ka kb with
  | _ M ih =>
    have nA := frs_ne h.A.rel hneA
    have nB := frs_ne h.B.rel hneB
    obtain ⟨d, sl', hpk⟩ := h.pick hn sa sb nA nB hk sl
    have hd := h.at_ d
    rcases hpk with ⟨hka, hst⟩ | ⟨hkb, hst⟩ | ⟨gs', ops, q', hst, h', hsz, hlt⟩
    · cases sa with
      | park Z hz => cases hka
      | run =>
        obtain ⟨gs', W', sl2, ops, h1, h2⟩ := HA β0 FA β1 FB gs (W.at d) sl' t q gb kb hd sb fun Z gs' W' t' hz hkb hs hp => ih (0 + kb + sumTo gs'.size q) (by rw [hs]; omega) gs' W' sl' t' q _ gb 0 kb hp (.park Z hz) sb (by omega) rfl
        exact run_more (hst.trans h1) h2
    · cases sb with
      | park V Z hz => cases hkb
      | run =>
        obtain ⟨gs', W', sl2, ops, h1, h2⟩ := HB β0 FA β1 FB gs (W.at d) sl' t q ga ka hd sa fun V Z gs' W' t' hz hka hs hp => ih (ka + 0 + sumTo gs'.size q) (by rw [hs]; omega) gs' W' sl' t' q ga _ ka 0 hp sa (.park V Z hz) (by omega) rfl
        exact run_more (hst.trans h1) h2
      | unborn hg hb =>
        have hn0 : (n == 0) = false := by simp; omega
        have hrT := runT_crowd_go (P := P) (sl := sl') (i := n) hd.gb (by rw [hn0]; exact hb (W.at d))
        have hltn : n < gs.size := (Array.getElem?_eq_some_iff.1 h.gb).1
        obtain ⟨s, hc⟩ := hd.ch
        rw [ofEvents_nil] at hrT
        refine run_more (hst.trans hrT) (ih (ka + 1 + sumTo gs.size q) (by omega) _ (W.at d) sl' _ q ga (gorL FB) ka 1 (hd.park hn (u := #[]) (by simp) ?_ (by simp [hltn]) (fun j hj hjn => ?_) (by simp)) sa .run (by omega) (by simp))
        · rw [Array.getElem?_setIfInBounds_ne (by omega), Array.getElem?_map, h.ga]
          simp [woken_sitA sa nA hc]
        · rw [Array.getElem?_setIfInBounds_ne (by omega), Array.getElem?_map]
          cases hx : gs[j]? with
          | none => rfl
          | some x => simp [woken_quitsD (h.lv.old j x hj hjn hx)]
    · exact run_more hst (ih (ka + kb + sumTo gs'.size q') (by omega) gs' (W.at d) sl' (t ++ ops) q' ga gb ka kb h' sa sb hk rfl)

/-- The receiver waits. -/
theorem moveA_park (hn : 0 < n) {fa fb FA FB : List Frame} {wa wb W : World} {β0 β1 : Ren P.globals.size} {gs : Array Goroutine} {sl : Option (Nat × Nat)} {t : Trace} {q : Nat → Nat} {gb : Goroutine} {kb : Nat} (hneB : FB ≠ [])
    (h : Ph1 P FN c n βf w0 Wf β0 fa wa FA β1 fb wb FB gs W t q (gorL FA) gb) (sb : SitB P c FB kb gb) (hkb : 0 < kb) {Z : Value} (hz : ∀ m W, stepG P m (gorL FA) W = .comm (gorL FA) #[rcase c Z] true (.recv true) W #[])
    (go : ∀ (gs' : Array Goroutine) (W' : World) (t' : Trace), gs'.size = gs.size → Ph1 P FN c n βf w0 Wf β0 fa wa FA β1 fb wb FB gs' W' t' q (parked (gorL FA) #[rcase c Z] (.recv true)) gb → Ends P Post gs' W' sl t') : Goes1 P Post 0 gs W sl t := by
  have hlt0 : 0 < gs.size := (Array.getElem?_eq_some_iff.1 h.ga).1
  obtain ⟨s, hc⟩ := h.ch
  have hrT := crowd_waits (P := P) (sl := sl) h.ga (hz (0 == 0) W) fun cc hcc => by
    simp only [List.mem_toArray, List.mem_cons, List.not_mem_nil, or_false] at hcc
    subst hcc
    exact ways_recv_none hc (h.noPartner0 hneB sb hkb c true)
  rw [ofEvents_nil] at hrT
  refine ⟨_, _, _, _, hrT, go _ W _ (by simp) (h.park hn (u := #[]) (by simp) (by simp [hlt0]) ?_ (fun j hj _ => ?_) (by simp))⟩
  · rw [Array.getElem?_setIfInBounds_ne (by omega)]; exact h.gb
  · rw [Array.getElem?_setIfInBounds_ne (by omega)]

theorem quiet4 {g1 g2 : Nat} {f1 f2 : FuncId} {p1 p2 : String} {c s r k : Nat} {a : Nat} : ∀ op ∈ (#[{ g := g1, fn := f1, pos := p1, act := .send c s }, { g := g2, fn := f2, pos := p2, act := .recv c r k }, { g := g1, fn := f1, pos := p1, act := .sendDone c s }, { g := g2, fn := f2, pos := p2, act := .recvDone c r }] : Array MemOp),
    op.act.touch? = none ∧ op.act ≠ .mark .disable ∧ op.act ≠ .mark .enable := by
  intro op hop
  simp only [List.mem_toArray, List.mem_cons, List.not_mem_nil, or_false] at hop
  rcases hop with rfl | rfl | rfl | rfl <;> simp [MemAct.touch?]

/-- A value of the script is the same for both. -/
theorem script_val {β0 β1 : Ren P.globals.size} {v V : Value} (hv : Sent FN βf v) (h0 : βf.le β0) (h1 : βf.le β1) (h : VR FN β1 v V) : VR FN β0 v V := by
  obtain ⟨⟨n, hc⟩, V0, hV⟩ := hv
  have := (hV.mono h1).fn hc h
  rw [← this]; exact hV.mono h0

/-- ████ THE FORK. ████ -/
theorem stage1 (hF : Fk FN N0 W0 Ch c βf w0 Wf) (hK : ∀ fs' w', K fs' w' → CEnds P FN N0 W0 Post Ch fs' (thaw w0 w')) (hn : 0 < n) {L : List Value} {fa : List Frame} {wa : World} (hA : Rcv P FN c K L fa wa) :
    (∀ v ∈ L, Sent FN βf v) → ∀ {fb : List Frame} {wb : World}, Snd P FN c L fb wb → Goal1 P FN Post c n βf w0 Wf fa wa fb wb := by
  -- the sender's moves, where the receiver stands at (L, fa, wa)
  have inner : ∀ {L : List Value} {fa : List Frame} {wa : World}, Rcv P FN c K L fa wa → fa ≠ [] → (∀ v ∈ L, Sent FN βf v) →
      (∀ {fb : List Frame} {wb : World}, Snd P FN c L fb wb → fb ≠ [] → MoveA P FN Post c n βf w0 Wf fa wa fb wb) →
      (∀ (v : Value) (L' : List Value) (fb fb' : List Frame) (wb : World), L = v :: L' → SimSend P FN c fb v fb' → Snd P FN c L' fb' wb → ∀ (β0 : Ren P.globals.size) (FA : List Frame) (β1 : Ren P.globals.size) (FB : List Frame) (gs : Array Goroutine) (W : World) (sl : Option (Nat × Nat)) (t : Trace) (q : Nat → Nat) (Z : Value),
        (∀ m W, stepG P m (gorL FA) W = .comm (gorL FA) #[rcase c Z] true (.recv true) W #[]) → Ph1 P FN c n βf w0 Wf β0 fa wa FA β1 fb wb FB gs W t q (parked (gorL FA) #[rcase c Z] (.recv true)) (gorL FB) → Goes1 P Post n gs W sl t) →
      ∀ {fb : List Frame} {wb : World}, Snd P FN c L fb wb → Goal1 P FN Post c n βf w0 Wf fa wa fb wb := by
    intro L fa wa hA hneA hL HA HM fb wb hB
    have hn0 : (n == 0) = false := by simp; omega
    induction hB with
    | vac h => exact fun β0 FA β1 FB gs W sl t q ga gb ka kb hp _ _ _ => (h β1 FB W hp.B.rel hp.B.wr).elim
    | @step L2 fb2 wb0 F G hne hneF hs hnx ih =>
      refine wrap hn hneA hne (HA (.step F G hne hneF hs hnx) hne) fun β0 FA β1 FB gs W sl t q ga ka hp sa _ => ?_
      obtain ⟨γ, FB', W', ES, g1, g2, g3, g4⟩ := hs (tapeFor wb0 W) β1 FB W hp.B.rel (hp.B.wr.tpd _) (tp_tapeFor wb0 W)
      have hrT := runT_crowd_go (P := P) (sl := sl) (i := n) hp.gb (by rw [hn0]; exact g3 false)
      have hp' : Ph1 P FN c n βf w0 Wf β0 fa wa FA β1 _ (tpd wb0 (tapeFor wb0 W)) FB gs W t q ga (gorL FB) := ⟨hp.ga, hp.gb, hp.A, ⟨hp.B.rel, hp.B.wr.tpd _, hp.B.le, hp.B.fz, hp.B.nw, hp.B.sz⟩, hp.dj, hp.old, hp.ch, hp.lv, hp.tr⟩
      have := hp'.ownB hn sa (frs_ne hp.A.rel hneA) g1 g2 g4
      exact ⟨_, _, _, _, hrT, ih (tapeFor wb0 W) hA hL HA HM β0 FA γ FB' _ W' sl _ q ga (gorL FB') ka 1 this sa .run (by omega)⟩
    | @send v L' fb fb' wb hne h hnx ih =>
      refine wrap hn hneA hne (HA (.send hne h hnx) hne) fun β0 FA β1 FB gs W sl t q ga ka hp sa park => ?_
      cases sa with
      | park Z hz => exact HM v L' fb fb' wb rfl h hnx β0 FA β1 FB gs W sl t q Z hz hp
      | run =>
        obtain ⟨V, Z, FB', h1, h2, h3, h4, h5⟩ := h β1 FB hp.B.rel
        obtain ⟨s, hc⟩ := hp.ch
        have nA := frs_ne hp.A.rel hneA
        have hltn : n < gs.size := (Array.getElem?_eq_some_iff.1 hp.gb).1
        have hrT := crowd_waits (P := P) (sl := sl) hp.gb (by rw [hn0]; exact h2 false W) fun cc hcc => by
          simp only [List.mem_toArray, List.mem_cons, List.not_mem_nil, or_false] at hcc
          subst hcc
          exact ways_send_none hc (Nat.zero_le _) (hp.noPartnerN hn nA c false)
        rw [ofEvents_nil] at hrT
        refine ⟨_, _, _, _, hrT, park V Z _ W _ h2 (by omega) (by simp) (hp.park hn (u := #[]) (by simp) ?_ (by simp [hltn]) (fun j hj hjn => ?_) (by simp))⟩
        · rw [Array.getElem?_setIfInBounds_ne (by omega)]; exact hp.ga
        · rw [Array.getElem?_setIfInBounds_ne (by omega)]
    | @close fb wb hne h =>
      refine wrap hn hneA hne (HA (.close hne h) hne) fun β0 FA β1 FB gs W sl t q ga ka hp sa _ => ?_
      obtain ⟨hmw, g', k, hg', hq, hst⟩ := h β1 FB hp.B.rel
      obtain ⟨s, hc⟩ := hp.ch
      have nA := frs_ne hp.A.rel hneA
      have hltn : n < gs.size := (Array.getElem?_eq_some_iff.1 hp.gb).1
      have hrT := runT_crowd_go (P := P) (sl := sl) (i := n) hp.gb (by rw [hn0]; exact hst W s s hc)
      have hc' : (W.setChan c 0 #[] true s s false).heap[c]? = some (.chan 0 #[] true s s false) := heap_setChan_self W hc ..
      have hne' : ∀ B, B ≠ c → (W.setChan c 0 #[] true s s false).heap[B]? = W.heap[B]? := fun B hB => heap_setChan_ne W 0 #[] true s s false (Ne.symm hB)
      have hsW : (W.setChan c 0 #[] true s s false).heap.size = W.heap.size := by simp [World.setChan]
      have hwk : ∃ ga', woken P (gorL FB) g' (W.setChan c 0 #[] true s s false) ga = ga' ∧ (ga' = gorL FA ∨ ∃ cs sh, ga' = { parked (gorL FA) cs sh with status := .running }) := by
        cases sa with
        | run => exact ⟨_, woken_run (gorL_running nA), .inl rfl⟩
        | park Z hz =>
          refine ⟨_, rfl, .inr ⟨#[rcase c Z], .recv true, ?_⟩⟩
          unfold Go.Conc.woken
          rw [hmw, hg']
          simp only [bne, Bool.true_and]
          exact again_recv_closed hc'
      obtain ⟨ga', hw1, hw2⟩ := hwk
      have hS := hp.A.other (W' := W.setChan c 0 #[] true s s false) (by rw [hsW]; exact Nat.le_refl _) fun B ⟨b, hb⟩ => hne' B fun e => chan_notin hp.A.wr hc b (by rw [← e]; exact hb)
      refine ⟨_, _, _, _, hrT, stage2 hF hK hn hA rfl β0 FA (TS Wf.heap.size β1) _ _ sl _ (upd q n k) ga' s s ?_ hw2 hS (fun B hB => ⟨hB.1, by rw [hsW]; exact hp.B.rngLt B hB.2⟩) (fun B h1 h2 => by have := hp.dj B h1 h2.2; have := h2.1; omega)
        ⟨fun B hB hBc => (hne' B hBc).trans (hp.old.old B hB hBc), by rw [hsW]; exact hp.old.sz, hp.old.os, hp.old.out, hp.old.tp⟩ hc' ⟨fun j x hj _ hx => ?_, fun j hj => ?_⟩
        (hp.tr.close (fun B h => h.1) (fun B h => h.1) (fun B h1 h2 => by have := hp.dj B h1.2 h2.2; have := h1.1; omega) hF.cN)⟩
      · rw [Array.getElem?_setIfInBounds_ne (by omega), Array.getElem?_map, hp.ga]
        simp [hw1]
      · by_cases hjn : j = n
        · subst hjn
          rw [Array.getElem?_setIfInBounds_self_of_lt (by simpa using hltn)] at hx
          obtain rfl := Option.some.inj hx
          rw [upd_same, Deaf_own, hp.tr.d1, deafBehind_noWord (fun e he => by
            simp only [closeEvents, List.mem_toArray, List.mem_cons, List.not_mem_nil, or_false] at he
            rcases he with rfl | rfl <;> simp [NoWord])]
          exact hq
        · rw [Array.getElem?_setIfInBounds_ne (by omega), Array.getElem?_map] at hx
          obtain ⟨y, hy, rfl⟩ := Option.map_eq_some_iff.1 hx
          have hqj := hp.lv.old j y hj hjn hy
          rw [woken_quitsD hqj, upd_ne q k hjn, Deaf_other t (g' := n) (by omega) _ (fun op hop => by obtain ⟨e, _, rfl⟩ := Go.Conc.mem_ofEvents hop; rfl)]
          exact hqj
      · rw [Deaf_other t (g' := n) (by simp at hj; omega) _ (fun op hop => by obtain ⟨e, _, rfl⟩ := Go.Conc.mem_ofEvents hop; rfl)]
        exact hp.lv.above j (by simpa using hj)
  -- a receiver that stands at no receive does not wait
  have noPark : ∀ {FA : List Frame} {Z : Value} {g' : Goroutine} {W W' : World} {es : Array Event}, (∀ m W, stepG P m (gorL FA) W = .comm (gorL FA) #[rcase c Z] true (.recv true) W #[]) → stepG P true (gorL FA) W = .go g' W' es → False := fun h1 h2 => by rw [h1] at h2; cases h2
  induction hA with
  | vac h => exact fun _ fb wb _ β0 FA β1 FB gs W sl t q ga gb ka kb hp _ _ _ => (h β0 FA W hp.A.rel hp.A.wr).elim
  | @step L2 fa2 wa0 F G hne hneF hs hnx ih =>
    intro hL fb wb hB
    refine inner (.step F G hne hneF hs hnx) hne hL (fun {fb wb} hB hneB β0 FA β1 FB gs W sl t q gb kb hp sb _ => ?_) (fun v L' fb fb' wb e hsend hB' β0 FA β1 FB gs W sl t q Z hz hp => ?_) hB
    · obtain ⟨γ, FA', W', ES, g1, g2, g3, g4⟩ := hs (tapeFor wa0 W) β0 FA W hp.A.rel (hp.A.wr.tpd _) (tp_tapeFor wa0 W)
      have hrT := runT_crowd_go (P := P) (sl := sl) (i := 0) hp.ga (g3 (0 == 0))
      have hp' : Ph1 P FN c n βf w0 Wf β0 _ (tpd wa0 (tapeFor wa0 W)) FA β1 fb wb FB gs W t q (gorL FA) gb := ⟨hp.ga, hp.gb, ⟨hp.A.rel, hp.A.wr.tpd _, hp.A.le, hp.A.fz, hp.A.nw, hp.A.sz⟩, hp.B, hp.dj, hp.old, hp.ch, hp.lv, hp.tr⟩
      have := hp'.ownA hn sb (frs_ne hp.B.rel hneB) g1 g2 g4
      exact ⟨_, _, _, _, hrT, ih (tapeFor wa0 W) hL hB γ FA' β1 FB _ W' sl _ q (gorL FA') gb 1 kb this .run sb (by omega)⟩
    · obtain ⟨γ, FA', W', ES, g1, g2, g3, g4⟩ := hs (tapeFor wa0 W) β0 FA W hp.A.rel (hp.A.wr.tpd _) (tp_tapeFor wa0 W)
      exact (noPark hz (g3 true)).elim
  | shut hne h hk =>
    intro hL fb wb hB
    refine inner (.shut hne h hk) hne hL (fun {fb wb} hB hneB β0 FA β1 FB gs W sl t q gb kb hp sb park => ?_) (fun v L' fb fb' wb e => by cases e) hB
    obtain ⟨Z, hZ, hz, _⟩ := h β0 FA hp.A.rel
    have nB := frs_ne hp.B.rel hneB
    have hkb : 0 < kb := by
      cases sb with
      | unborn _ _ => omega
      | run => omega
      | park V Z' hz' =>
        exfalso
        cases hB with
        | step F G _ _ hs _ =>
          obtain ⟨γ, FB', W', ES, g1, g2, g3, g4⟩ := hs (tapeFor wb W) β1 FB W hp.B.rel (hp.B.wr.tpd _) (tp_tapeFor wb W)
          have := g3 false
          rw [hz'] at this; cases this
        | close _ hcl =>
          obtain ⟨_, g', k, _, _, hst⟩ := hcl β1 FB hp.B.rel
          obtain ⟨s, hc⟩ := hp.ch
          have := hst W s s hc
          rw [hz'] at this; cases this
        | vac hv => exact hv β1 FB W hp.B.rel hp.B.wr
    exact moveA_park hn nB hp sb hkb hz fun gs' W' t' h1 h2 => park Z gs' W' t' hz hkb h1 h2
  | @recv v L fa wa z nx hne h hnx ih =>
    intro hL fb wb hB
    have hL' : ∀ v ∈ L, Sent FN βf v := fun v hv => hL v (List.mem_cons_of_mem _ hv)
    refine inner (.recv hne h hnx) hne hL (fun {fb wb} hB hneB β0 FA β1 FB gs W sl t q gb kb hp sb park => ?_) (fun v' L' fb fb' wb e hsend hB' β0 FA β1 FB gs W sl t q Z hz hp => ?_) hB
    · obtain ⟨Z, hZ, hz, hnxt⟩ := h β0 FA hp.A.rel
      have nB := frs_ne hp.B.rel hneB
      cases sb with
      | unborn hg hb => exact moveA_park hn nB hp (.unborn hg hb) (by omega) hz fun gs' W' t' h1 h2 => park Z gs' W' t' hz (by omega) h1 h2
      | run => exact moveA_park hn nB hp .run (by omega) hz fun gs' W' t' h1 h2 => park Z gs' W' t' hz (by omega) h1 h2
      | park V Z' hz' =>
        cases hB with
        | step F G _ _ hs _ =>
          obtain ⟨γ, FB', W', ES, g1, g2, g3, g4⟩ := hs (tapeFor wb W) β1 FB W hp.B.rel (hp.B.wr.tpd _) (tp_tapeFor wb W)
          have := g3 false
          rw [hz'] at this; cases this
        | vac hv => exact (hv β1 FB W hp.B.rel hp.B.wr).elim
        | @send _ _ _ fb' _ _ hsend hB' =>
          obtain ⟨V2, Z2, FB', h1, h2, h3, h4, h5⟩ := hsend β1 FB hp.B.rel
          have heq : V = V2 := by
            have := (hz' false W).symm.trans (h2 false W)
            simp only [GStep.comm.injEq, scase, Array.mk.injEq, List.cons.injEq, CommCase.mk.injEq, Option.some.injEq] at this
            exact this.2.1.1.2.1
          subst heq
          obtain ⟨FA', e1, e2, e3⟩ := hnxt v V true (script_val (hL v List.mem_cons_self) hp.A.le hp.B.le h1)
          obtain ⟨s, hc⟩ := hp.ch
          have hlt0 : 0 < gs.size := (Array.getElem?_eq_some_iff.1 hp.ga).1
          have hltn : n < gs.size := (Array.getElem?_eq_some_iff.1 hp.gb).1
          have hrT := crowd_recv_meets (P := P) (sl := sl) hp.ga (hz (0 == 0) W) hc (show n ≠ 0 by omega) hp.gb (hp.partner0 hn)
          rw [finishComm_send, finishComm_recv, e3, h5, ofEvents_nil, Array.empty_append] at hrT
          refine ⟨_, _, _, _, hrT, ih hL' hB' β0 FA' β1 FB' _ _ sl _ q (gorL FA') (gorL FB') 1 1 (hp.comm hn hF.cN e1 h3 (by simp) (by simp [hlt0]) ?_ (fun j hj hjn => ?_) (quiet4 (a := 0))) .run .run (by omega)⟩
          · rw [Array.getElem?_setIfInBounds_ne (by omega)]; simp [hltn]
          · rw [Array.getElem?_setIfInBounds_ne (by omega), Array.getElem?_setIfInBounds_ne (by omega)]
    · cases e
      obtain ⟨Z1, hZ, hz1, hnxt⟩ := h β0 FA hp.A.rel
      obtain ⟨V, Z2, FB', h1, h2, h3, h4, h5⟩ := hsend β1 FB hp.B.rel
      obtain ⟨FA', e1, e2, e3⟩ := hnxt v V true (script_val (hL v List.mem_cons_self) hp.A.le hp.B.le h1)
      obtain ⟨s, hc⟩ := hp.ch
      have hlt0 : 0 < gs.size := (Array.getElem?_eq_some_iff.1 hp.ga).1
      have hltn : n < gs.size := (Array.getElem?_eq_some_iff.1 hp.gb).1
      have hn0 : (n == 0) = false := by simp; omega
      have hrT := crowd_send_meets (P := P) (sl := sl) hp.gb (by rw [hn0]; exact h2 false W) hc (show 0 ≠ n by omega) hp.ga (hp.partnerN hn)
      rw [finishComm_send, finishComm_recv, e3, h5, ofEvents_nil, Array.empty_append] at hrT
      refine ⟨_, _, _, _, hrT, ih hL' hB' β0 FA' β1 FB' _ _ sl _ q (gorL FA') (gorL FB') 1 1 (hp.comm hn hF.cN e1 h3 (by simp) ?_ (by simp [hltn]) (fun j hj hjn => ?_) (quiet4 (a := 0))) .run .run (by omega)⟩
      · rw [Array.getElem?_setIfInBounds_ne (by omega)]; simp [hlt0]
      · rw [Array.getElem?_setIfInBounds_ne (by omega), Array.getElem?_setIfInBounds_ne (by omega)]
end
end Go.Fw
end
