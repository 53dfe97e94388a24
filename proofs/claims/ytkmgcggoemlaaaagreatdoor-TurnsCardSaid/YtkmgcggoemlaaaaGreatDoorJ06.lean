/-
  Part 6 of the common ground of this seat: what single parts show stands ahead of each.
  No condition.
-/
import Derived.Test.YtkmgcggoemlaaaaGreatDoorJ05

section
/- One step of a private goroutine, in company as alone; bad ends never come back. No condition. -/
set_option linter.unusedVariables false
set_option linter.unusedSimpArgs false
namespace Go.Fw
open Go Go.Conc
variable {P : Program} {FN : FuncId → Bool} {β : Ren P.globals.size}

/-- A piece of code ('true': its end is a stop), or a whole call ('false': it stops at its return alone; nothing lies behind its code). -/
def IsStop (b : Bool) (fs : List Frame) : Prop := ∃ fr, fs = [fr] ∧ (b = true ∧ fr.todo = [] ∧ fr.mode = .run ∨ fr.mode = .returning)
def Al (b : Bool) (s : List Item) : Prop := b = true ∨ s = []
def s0 (b : Bool) : List Item := if b then [mkr] else []
theorem al_s0 (b : Bool) : Al b (s0 b) := by cases b <;> simp [Al, s0]
theorem s0_or (b : Bool) : s0 b = [] ∨ s0 b = [mkr] := by cases b <;> simp [s0]

theorem stk_app (s : List Item) (base ups : List Frame) (fr : Frame) (cs : List Frame) : stk s base (ups ++ fr :: cs) = ups ++ suf (if cs.isEmpty then s else []) fr :: stk s base cs := by
  induction ups with
  | nil => rfl
  | cons u l ih =>
    have : (l ++ fr :: cs).isEmpty = false := by cases l <;> rfl
    simp [stk, ih, this, suf_nil]

/-- What a step of a private goroutine gives. -/
structure Nxt (b : Bool) (P : Program) (FN : FuncId → Bool) (fs : List Frame) (w : World) (fs' : List Frame) (w' : World) : Prop where
  ne : fs' ≠ []
  ok : OkStk P FN fs'
  le : w.drawn ≤ w'.drawn
  tape : w'.tape = w.tape
  step : ∃ es, ∀ m tp s base, Al b s → Agree tp w.tape w.drawn w'.drawn → stepG P m (gorL (stk s base fs)) (tpd w tp) = .go (gorL (stk s base fs')) (tpd w' tp) es

/-- What the company's goroutine does when the private one goes from here to there. -/
def SimR (b : Bool) (P : Program) (FN : FuncId → Bool) (β : Ren P.globals.size) (fs : List Frame) (w : World) (fs' : List Frame) (w' : World) (FS : List Frame) (W : World) : Prop :=
  ∃ (γ : Ren P.globals.size) (FS' : List Frame) (W' : World) (ES : Array Event), FrsR P FN γ fs' FS' ∧ RunR FN β γ w W w' W' ∧
    (∀ m s base, Al b s → stepG P m (gorL (stk s base FS)) W = .go (gorL (stk s base FS')) W' ES) ∧ ∀ e ∈ ES, EvR γ w' W' e

theorem red_step (b : Bool) (hL : Lst P FN) {fs FS : List Frame} {w W : World} (hf : FrsR P FN β fs FS) (hne : fs ≠ []) (hok : OkStk P FN fs) (hns : ¬ IsStop b fs) (hw : WR FN β w W) :
    (∃ fs' w', Nxt b P FN fs w fs' w' ∧ (Tp w W → SimR b P FN β fs w fs' w' FS W)) ∨ ∀ m, Bad P (stk (s0 b) [c0] fs.tail) (stepG P m (gorL (stk (s0 b) [c0] fs)) w) := by
  cases hf with
  | nil => exact absurd rfl hne
  | @cons fr FR cs CS x t =>
    have hO := hok.all fr List.mem_cons_self
    have hcsOk : ∀ c ∈ cs, OkFr P FN c := fun c hc => hok.all c (List.mem_cons_of_mem _ hc)
    have hcsAt : ∀ c ∈ cs, AtOp c := fun c hc => hok.at_ c hc
    have hem : CS.isEmpty = cs.isEmpty := by cases t <;> rfl
    have okst : ∀ fr', OkFr P FN fr' → OkStk P FN (fr' :: cs) := fun fr' h => ⟨fun c hc => by
      rcases List.mem_cons.1 hc with rfl | hc
      · exact h
      · exact hcsOk c hc, hcsAt⟩
    rcases hO.mode with hm | hm
    · -- it runs
      by_cases hnil : fr.todo = []
      · -- at its end, not the last frame
        have hcs : cs ≠ [] ∨ b = false := by
          cases b with
          | false => exact .inr rfl
          | true => exact .inl fun e => hns ⟨fr, by rw [e], .inl ⟨rfl, hnil, hm⟩⟩
        have hsx : ∀ s, Al b s → (if cs.isEmpty then s else ([] : List Item)) = [] := fun s ha => by
          rcases hcs with h | h
          · cases cs with | nil => exact absurd rfl h | cons _ _ => rfl
          · rcases ha with h2 | rfl
            · rw [h] at h2; cases h2
            · simp
        have st : ∀ (f : Frame), f.todo = [] → f.mode = .run → f.roundOf = none → ∀ (m : Bool) C w0, stepG P m (gor f C) w0 = .go (gor { f with mode := .returning } C) w0 #[] := fun f h1 h2 h3 m C w0 => by
          cases f
          simp only at h1 h2 h3
          subst h1 h2 h3
          simp [stepG, stepG.exec, gor]
        refine .inl ⟨{ fr with mode := .returning } :: cs, w, ⟨by simp, okst _ ⟨hO.ok, hO.defers, .inr rfl, hO.good, hO.kind⟩, Nat.le_refl _, rfl, #[], fun m tp s base hal _ => ?_⟩,
          fun ht => ⟨β, { FR with mode := .returning } :: CS, W, #[], .cons ⟨x.fn, x.todo, x.tmps, rfl, x.kind, x.round, x.defers⟩ t, .refl hw ht, fun m s base hal => ?_, fun e he => by simp at he⟩⟩
        · simp only [stk, hsx s hal, suf_nil, gorL]
          exact st fr hnil hm x.round.1 m _ _
        · simp only [stk, hem, hsx s hal, suf_nil, gorL]
          exact st FR (x.todo.trans hnil) (x.mode.trans hm) x.round.2 m _ _
      · by_cases hc : ctl fr.todo = true
        · rcases ctl_step x hm hO.ok hnil hc with ⟨k', md, hmd, hk', h1, h2⟩ | hbad
          · exact .inl ⟨{ fr with todo := k', mode := md } :: cs, w, ⟨by simp, okst _ ⟨hk', hO.defers, hmd, hO.good, hO.kind⟩, Nat.le_refl _, rfl, #[], fun m tp s base _ _ => h1 m _ _ _⟩,
              fun ht => ⟨β, { FR with todo := k', mode := md } :: CS, W, #[], .cons ⟨x.fn, rfl, x.tmps, rfl, x.kind, x.round, x.defers⟩ t, .refl hw ht, fun m s base _ => h2 m _ _ _, fun e he => by simp at he⟩⟩
          · refine .inr fun m => .inl (hbad m _ _ w ?_)
            cases cs with
            | nil => exact s0_or b
            | cons _ _ => exact .inl rfl
        · -- a draw, an operation
          cases htd : fr.todo with
          | nil => exact absurd htd hnil
          | cons it k =>
            rw [htd] at hc
            have hAll := hO.ok
            rw [htd] at hAll
            simp only [List.all_cons, Bool.and_eq_true] at hAll
            match it, hc with
            | .code (.region id ops true), _ =>
              have hq : ∀ tp, Agree tp w.tape w.drawn (w.drawn + 1) → tp w.drawn (.order fr.fn id) = w.tape w.drawn (.order fr.fn id) := fun tp h => h _ (Nat.le_refl _) (Nat.lt_succ_self _) _
              refine .inl ⟨{ fr with todo := .inRegion ops (Region.schedule (P.follows .mixedOrders) ops (w.tape w.drawn (.order fr.fn id))) :: k } :: cs, { w with drawn := w.drawn + 1 },
                ⟨by simp, okst _ ⟨by simpa [okItem, okCode] using hAll, hO.defers, hO.mode, hO.good, hO.kind⟩, Nat.le_succ _, rfl, #[], fun m tp s base _ ha => ?_⟩,
                fun ht => ⟨β, { FR with todo := .inRegion ops (Region.schedule (P.follows .mixedOrders) ops (w.tape w.drawn (.order fr.fn id))) :: k } :: CS, { W with drawn := W.drawn + 1 }, #[],
                  .cons ⟨x.fn, rfl, x.tmps, x.mode, x.kind, x.round, x.defers⟩ t, run_draw hw ht, fun m s base _ => ?_, fun e he => by simp at he⟩⟩
              · have := draw_step (P := P) (fr := fr) hm htd x.round.1 m (if cs.isEmpty then s else []) (stk s base cs) (tpd w tp)
                simp only [tpd_tape, tpd_drawn, hq tp ha] at this
                exact this
              · have hqW : W.tape W.drawn (.order FR.fn id) = w.tape w.drawn (.order fr.fn id) := by rw [x.fn]; have := ht 0 (.order fr.fn id); simpa using this.symm
                have := draw_step (P := P) (fr := FR) (x.mode.trans hm) (x.todo.trans htd) x.round.2 m (if CS.isEmpty then s else []) (stk s base CS) W
                rw [hqW] at this
                exact this
            | .inRegion ops (i :: rest), _ =>
              rcases op_step hL x hO hm htd hw with ⟨ups, fr', w', es, h1, hlen, h2, h3, h4, h5, h6, h7⟩ | hbad
              · refine .inl ⟨ups ++ fr' :: cs, w', ⟨by simp, ⟨fun c hc => ?_, fun c hc => ?_⟩, h4, h5, es, fun m tp s base _ ha => ?_⟩, fun ht => ?_⟩
                · rcases List.mem_append.1 hc with hc | hc
                  · exact h1 c hc
                  · exact (okst _ h2).all c hc
                · cases ups with
                  | nil => exact hcsAt c (by simpa using hc)
                  | cons u l =>
                    have hl : l = [] := by simp only [List.length_cons] at hlen; exact List.eq_nil_of_length_eq_zero (by omega)
                    subst hl
                    rcases List.mem_cons.1 (show c ∈ fr' :: cs by simpa using hc) with rfl | hc
                    · exact h3 (by simp)
                    · exact hcsAt c hc
                · rw [stk_app]; exact h6 m tp _ _ ha
                · obtain ⟨γ, UPS, FR', W', ES, g1, g2, g3, g4, g5⟩ := h7 ht
                  refine ⟨γ, UPS ++ FR' :: CS, W', ES, g1.app (.cons g2 (t.mono g3.le)), g3, fun m s base _ => ?_, g5⟩
                  rw [stk_app]; exact g4 m _ _
              · exact .inr fun m => hbad m _ _
    · -- it returns
      have hcs : cs ≠ [] := fun e => hns ⟨fr, by rw [e], .inr hm⟩
      cases t with
      | nil => exact absurd rfl hcs
      | @cons c C l L y t' =>
        have hA := hcsAt c List.mem_cons_self
        have hAC : AtOp C := by
          obtain ⟨h1, ops, i, rest, k, h2⟩ := hA
          exact ⟨y.mode.trans h1, ops, i, rest, k, y.todo.trans h2⟩
        have hg := hO.good
        unfold resGood at hg
        cases hfn : P.funcs[fr.fn]? with
        | none => rw [hfn] at hg; cases hg
        | some fn =>
          rw [hfn] at hg
          simp only [Bool.and_eq_true] at hg
          have hem' : L.isEmpty = l.isEmpty := by cases t' <;> rfl
          refine .inl ⟨c.finish (resV fn fr.tmps) :: l, w, ⟨by simp, ⟨fun d hd => ?_, fun d hd => hcsAt d (List.mem_cons_of_mem _ hd)⟩, Nat.le_refl _, rfl, #[], fun m tp s base _ _ => ?_⟩,
            fun ht => ⟨β, C.finish (resV fn FR.tmps) :: L, W, #[], .cons (finish_rel y hA (resV_rel x.tmps)) t', .refl hw ht, fun m s base _ => ?_, fun e he => by simp at he⟩⟩
          · rcases List.mem_cons.1 hd with rfl | hd
            · exact finish_ok (hcsOk c List.mem_cons_self) hA _
            · exact hcsOk d (List.mem_cons_of_mem _ hd)
          · rw [stk_cons2]
            simp only [stk, gorL]
            rw [leave_step hm hO.defers hO.kind hfn hg.1 m, finish_suf hA]
          · rw [stk_cons2]
            simp only [stk, gorL]
            rw [leave_step (x.mode.trans hm) (x.defers.trans hO.defers) (x.kind.2.trans hO.kind) (by rw [x.fn]; exact hfn) hg.1 m, finish_suf hAC]

/-! ### a lone run -/
def loneL (fs : List Frame) (w : World) : Machine := match fs with
  | [] => default
  | fr :: cs => lone fr cs w

theorem step_loneL_go {fs fs' : List Frame} {w w' : World} {es : Array Event} (hf : fs ≠ []) (hf' : fs' ≠ []) (h : stepG P true (gorL fs) w = .go (gorL fs') w' es) : step P (loneL fs w) = .next (loneL fs' w') := by
  cases fs with
  | nil => exact absurd rfl hf
  | cons fr cs =>
    cases fs' with
    | nil => exact absurd rfl hf'
    | cons fr' cs' => exact step_lone_go (by have : stepG P true { frame := fr, callers := cs, status := .running, dying := none } w = _ := h; rw [this]; rfl)
theorem step_loneL_end {fs : List Frame} {w : World} (hf : fs ≠ []) (h : isEnd (stepG P true (gorL fs) w)) : ∃ o w', step P (loneL fs w) = .ended o w' := by
  cases fs with
  | nil => exact absurd rfl hf
  | cons fr cs =>
    cases hs : stepG P true (gorL (fr :: cs)) w with
    | ended o w' es => exact ⟨o, w', step_lone_ended (by have : stepG P true { frame := fr, callers := cs, status := .running, dying := none } w = _ := hs; rw [this]; rfl)⟩
    | _ => rw [hs] at h; exact h.elim

def panics : FrameMode → Bool
  | .panicking _ => true
  | _ => false

/-- A panic goes out of every plain frame, and ends the private run. -/
theorem panic_run : ∀ (n : Nat) (fs : List Frame) (fr : Frame) (w : World), (∀ c ∈ fs, Plain P c) → Plain P fr → panics fr.mode = true →
    ∀ (f : Frame) (cs : List Frame) (w' : World), runN P n (lone fr (fs ++ [c0]) w) = .next (lone f cs w') → panics f.mode = true := by
  intro n
  induction n with
  | zero =>
    intro fs fr w _ _ hm f cs w' h
    simp only [runN, Stepped.next.injEq, lone, Machine.mk.injEq, Array.mk.injEq, List.cons.injEq, Goroutine.mk.injEq] at h
    rw [← h.2.1.1.1]; exact hm
  | succ n ih =>
    intro fs fr w hfs hp hm f cs w' h
    cases hmd : fr.mode with
    | panicking ch =>
      have hno : fr.catches P = false := by
        unfold Frame.catches
        cases hf : P.funcs[fr.fn]? with
        | none => exact absurd hf hp.fn
        | some _ => rfl
      have pop : ∀ (c : Frame) (rest : List Frame), step P (lone fr (c :: rest) w) = .next (lone (c.raise ch) rest w) := fun c rest => by
        refine step_lone_go ?_
        have hd := hp.defers
        cases fr
        simp only at hd hmd hno
        subst hd hmd
        simp [stepG, unwind, hno]
      cases fs with
      | cons c l =>
        simp only [List.cons_append, runN, pop] at h
        obtain ⟨⟨ch', h1⟩, h2⟩ := raise_plain (hfs c List.mem_cons_self) ch
        exact ih l _ w (fun d hd => hfs d (List.mem_cons_of_mem _ hd)) h2 (by rw [h1]; rfl) f cs w' h
      | nil =>
        simp only [List.nil_append, runN, pop] at h
        cases n with
        | zero =>
          simp only [runN, Stepped.next.injEq, lone, Machine.mk.injEq, Array.mk.injEq, List.cons.injEq, Goroutine.mk.injEq] at h
          rw [← h.2.1.1.1]; rfl
        | succ n =>
          obtain ⟨o, w2, he⟩ := step_loneL_end (P := P) (fs := [c0.raise ch]) (w := w) (by simp) (by simp [gorL, gor, stepG, unwind, callDeferred, c0, Frame.raise, isEnd])
          simp only [runN] at h
          rw [show step P (lone (c0.raise ch) [] w) = _ from he] at h
          cases h
    | _ => rw [hmd] at hm; cases hm

theorem suf_plain {fr : Frame} (s : List Item) (h : Plain P fr) : Plain P (suf s fr) := ⟨h.defers, h.fn⟩

theorem stk_plain (s : List Item) : ∀ (fs : List Frame), ∃ l, stk s [c0] fs = l ++ [c0] ∧ ((∀ c ∈ fs, Plain P c) → ∀ c ∈ l, Plain P c)
  | [] => ⟨[], rfl, fun _ c hc => by cases hc⟩
  | fr :: cs => by
    obtain ⟨l, h1, h2⟩ := stk_plain s cs
    refine ⟨suf (if cs.isEmpty then s else []) fr :: l, by rw [stk, h1]; rfl, fun h c hc => ?_⟩
    rcases List.mem_cons.1 hc with rfl | hc
    · exact suf_plain _ (h fr List.mem_cons_self)
    · exact h2 (fun d hd => h d (List.mem_cons_of_mem _ hd)) c hc

/-- A private run that has come to a bad end does not come to a frame that is not panicking. -/
theorem bad_run {b : Bool} {fs : List Frame} {w : World} (hne : fs ≠ []) (hp : ∀ c ∈ fs, Plain P c) (hb : Bad P (stk (s0 b) [c0] fs.tail) (stepG P true (gorL (stk (s0 b) [c0] fs)) w)) (n : Nat) (f : Frame) (cs : List Frame) (w' : World)
    (h : runN P (n + 1) (loneL (stk (s0 b) [c0] fs) w) = .next (lone f cs w')) : panics f.mode = true := by
  cases fs with
  | nil => exact absurd rfl hne
  | cons fr l =>
    have hne' : stk (s0 b) [c0] (fr :: l) ≠ [] := by simp [stk]
    rcases hb with hb | ⟨fr1, ch, w1, es, h1, h2, h3⟩
    · obtain ⟨o, w2, he⟩ := step_loneL_end hne' hb
      simp only [runN, he] at h
      cases h
    · have hs := step_loneL_go (fs := stk (s0 b) [c0] (fr :: l)) (fs' := fr1 :: stk (s0 b) [c0] l) hne' (by simp) h1
      simp only [runN, hs] at h
      obtain ⟨l', e1, e2⟩ := stk_plain (P := P) (s0 b) l
      have h' : runN P n (lone fr1 (stk (s0 b) [c0] l) w1) = .next (lone f cs w') := h
      rw [e1] at h'
      exact panic_run n l' fr1 w1 (e2 fun c hc => hp c (List.mem_cons_of_mem _ hc)) h3 (by rw [h2]; rfl) f cs w' h'
end Go.Fw
end

section
/- From 'for every tape the lone run comes to a stop' to a tree of single steps, each for every tape. No condition. -/
set_option linter.unusedVariables false
set_option linter.unusedSimpArgs false
namespace Go.Fw
open Go Go.Conc
variable {P : Program} {FN : FuncId → Bool}

theorem lone_inj {fr fr' : Frame} {cs cs' : List Frame} {w w' : World} (h : lone fr cs w = lone fr' cs' w') : fr = fr' ∧ cs = cs' ∧ w = w' := by
  simp only [lone, Machine.mk.injEq, Array.mk.injEq, List.cons.injEq, Goroutine.mk.injEq, and_true] at h
  exact ⟨h.2.1, h.2.2, h.1⟩
theorem suf_inj {s : List Item} {a b : Frame} (h : suf s a = suf s b) : a = b := by
  cases a; cases b
  simp only [suf, Frame.mk.injEq, List.append_cancel_right_eq] at h ⊢
  exact h
theorem loneL_one {b : Bool} {fs : List Frame} {fr' : Frame} {w w' : World} (h : fs ≠ []) (e : loneL (stk (s0 b) [c0] fs) w = lone fr' [c0] w') : ∃ fr, fs = [fr] ∧ suf (s0 b) fr = fr' ∧ w = w' := by
  match fs with
  | [] => exact absurd rfl h
  | [a] =>
    obtain ⟨h1, _, h3⟩ := lone_inj e
    exact ⟨a, rfl, h1, h3⟩
  | a :: d :: l =>
    obtain ⟨_, h2, _⟩ := lone_inj e
    have : (stk (s0 b) [c0] (d :: l)).length = ([c0] : List Frame).length := by rw [h2]
    have hl : ∀ m : List Frame, (stk (s0 b) [c0] m).length = m.length + 1 := fun m => by
      induction m with
      | nil => rfl
      | cons x m ih => simp [stk, ih]
    rw [hl] at this
    simp at this

/-- A tree of single steps of a private goroutine, each for every tape; its leaves are in S. -/
inductive Tree (b : Bool) (P : Program) (FN : FuncId → Bool) (S : List Frame → World → Prop) : List Frame → World → Prop
  | stop {fs : List Frame} {w : World} (h : S fs w) : Tree b P FN S fs w
  | step {fs : List Frame} {w : World} (F : Tape → List Frame) (K : Tape → World) (hs : ∀ tp, Nxt b P FN fs (tpd w tp) (F tp) (K tp))
      (hr : ∀ tp β FS W, FrsR P FN β fs FS → WR FN β (tpd w tp) W → Tp (tpd w tp) W → SimR b P FN β fs (tpd w tp) (F tp) (K tp) FS W)
      (hn : ∀ tp, Tree b P FN S (F tp) (K tp)) : Tree b P FN S fs w

theorem Nxt.agree {b : Bool} {fs fs' : List Frame} {w w' : World} (h : Nxt b P FN fs w fs' w') {tp : Tape} (ha : Agree tp w.tape w.drawn w'.drawn) : Nxt b P FN fs (tpd w tp) fs' (tpd w' tp) := by
  obtain ⟨es, hs⟩ := h.step
  exact ⟨h.ne, h.ok, h.le, rfl, es, fun m tq s base hal hq => hs m tq s base hal fun p h1 h2 q => (hq p h1 h2 q).trans (ha p h1 h2 q)⟩

/-- Two descriptions of one step agree. -/
theorem Nxt.det {b : Bool} {fs f1 f2 : List Frame} {w w1 w2 : World} (h1 : Nxt b P FN fs w f1 w1) (h2 : Nxt b P FN fs w f2 w2) : f1 = f2 ∧ w1 = w2 := by
  obtain ⟨e1, s1⟩ := h1.step
  obtain ⟨e2, s2⟩ := h2.step
  have a1 := s1 true w.tape [] [] (.inr rfl) (fun p _ _ q => rfl)
  have a2 := s2 true w.tape [] [] (.inr rfl) (fun p _ _ q => rfl)
  rw [a1] at a2
  simp only [stk_nil, GStep.go.injEq] at a2
  obtain ⟨hg, hw, _⟩ := a2
  have t1 : tpd w1 w.tape = w1 := by rw [← h1.tape]; rfl
  have t2 : tpd w2 w.tape = w2 := by rw [← h2.tape]; rfl
  rw [t1, t2] at hw
  refine ⟨?_, hw⟩
  cases f1 with
  | nil => exact absurd rfl h1.ne
  | cons a l =>
    cases f2 with
    | nil => exact absurd rfl h2.ne
    | cons c m =>
      simp only [gorL, gor, Goroutine.mk.injEq] at hg
      rw [hg.1, hg.2.1]

/-- One step, under a given tape: for every related company, or it comes to a bad end. -/
theorem red_step' (b : Bool) (hL : Lst P FN) {fs : List Frame} {w : World} (hrel : ∃ (β : Ren P.globals.size) (FS : List Frame) (W : World), FrsR P FN β fs FS ∧ WR FN β w W) (hne : fs ≠ []) (hok : OkStk P FN fs) (hns : ¬ IsStop b fs) :
    (∃ fs' w', Nxt b P FN fs w fs' w' ∧ (∀ β FS W, FrsR P FN β fs FS → WR FN β w W → Tp w W → SimR b P FN β fs w fs' w' FS W) ∧ ∃ (γ : Ren P.globals.size) (FS' : List Frame) (W' : World), FrsR P FN γ fs' FS' ∧ WR FN γ w' W') ∨
      ∀ m, Bad P (stk (s0 b) [c0] fs.tail) (stepG P m (gorL (stk (s0 b) [c0] fs)) w) := by
  obtain ⟨β, FS, W, hf, hw⟩ := hrel
  rcases red_step b hL hf hne hok hns (hw.heap (w' := w) (W' := tpd W (tapeFor W w)) rfl rfl) with ⟨fs', w', hn, hsim⟩ | hbad
  · obtain ⟨γ, FS', W', ES, g1, g2, _⟩ := hsim (tp_back w W)
    refine .inl ⟨fs', w', hn, fun β2 FS2 W2 hf2 hw2 ht2 => ?_, γ, FS', W', g1, g2.wr⟩
    rcases red_step b hL hf2 hne hok hns hw2 with ⟨fs2, w2, hn2, hsim2⟩ | hbad2
    · obtain ⟨rfl, rfl⟩ := hn.det hn2
      exact hsim2 ht2
    · exfalso
      obtain ⟨es, hs⟩ := hn.step
      have e := hs true w.tape (s0 b) [c0] (al_s0 b) (fun p _ _ q => rfl)
      rw [tpd_self] at e
      have hb2 := hbad2 true
      rw [e] at hb2
      rcases hb2 with hb2 | ⟨fr1, ch, w1, es1, h1, h2, h3⟩
      · exact hb2
      · cases hfs' : fs' with
        | nil => exact hn.ne hfs'
        | cons a l =>
          rw [hfs'] at h1
          simp only [stk, gorL, gor, GStep.go.injEq, Goroutine.mk.injEq] at h1
          have hm : fr1.mode = a.mode := by rw [← h1.1.1]; rfl
          rcases (hn.ok.all a (by rw [hfs']; exact List.mem_cons_self)).mode with h | h <;> rw [h2, h] at hm <;> cases hm
  · exact .inr hbad

theorem plain_all {fs : List Frame} (hok : OkStk P FN fs) : ∀ c ∈ fs, Plain P c := fun c hc => (hok.all c hc).plain

/-- From here a lone run comes to no stop behind its next step. -/
def Dead' (b : Bool) (P : Program) (fs : List Frame) (w : World) : Prop := ∀ (j : Nat) (fr : Frame) (w' : World), panics fr.mode = false → runN P (j + 1) (loneL (stk (s0 b) [c0] fs) w) ≠ .next (lone fr [c0] w')

theorem dead_of_bad {b : Bool} {fs : List Frame} {w : World} (hne : fs ≠ []) (hok : OkStk P FN fs) (hb : Bad P (stk (s0 b) [c0] fs.tail) (stepG P true (gorL (stk (s0 b) [c0] fs)) w)) : Dead' b P fs w := by
  intro j fr w' hst h
  have := bad_run hne (plain_all hok) hb j fr [c0] w' h
  rw [hst] at this
  cases this

theorem dead_of_stop {b : Bool} {fs : List Frame} {w : World} (hrel : ∃ (β : Ren P.globals.size) (FS : List Frame) (W : World), FrsR P FN β fs FS ∧ WR FN β w W) (hok : OkStk P FN fs) (hst : IsStop b fs) : Dead' b P fs w := by
  obtain ⟨fr, rfl, h⟩ := hst
  obtain ⟨β, FS, W, hf, _⟩ := hrel
  have hO := hok.all fr List.mem_cons_self
  cases hf with
  | cons x _ =>
    intro j fr' w' hst' hrun
    rcases h with ⟨rfl, htd, hm⟩ | hm
    · obtain ⟨o, w2, he⟩ := step_loneL_end (P := P) (fs := stk (s0 true) [c0] [fr]) (w := w) (by simp [stk]) (by
        have hr := x.round.1
        cases fr
        simp only at htd hm hr
        subst htd hm hr
        simp [stk, gorL, gor, suf, s0, mkr, stepG, stepG.exec, isEnd])
      simp only [runN, he] at hrun
      cases hrun
    · have hg := hO.good
      unfold resGood at hg
      cases hfn : P.funcs[fr.fn]? with
      | none => rw [hfn] at hg; cases hg
      | some fn =>
        rw [hfn] at hg
        simp only [Bool.and_eq_true] at hg
        have hlv := leave_step (P := P) (fr := suf (s0 b) fr) hm hO.defers hO.kind hfn hg.1 true c0 [] w
        have hs := step_loneL_go (P := P) (fs := stk (s0 b) [c0] [fr]) (fs' := [c0]) (w := w) (by simp [stk]) (by simp) (by simpa [stk, gorL, c0, Frame.finish, mkr] using hlv)
        simp only [runN, hs] at hrun
        cases j with
        | zero =>
          simp only [runN, Stepped.next.injEq] at hrun
          have := (lone_inj (show lone c0 [] w = lone fr' [c0] w' by simpa [stk, loneL] using hrun)).2.1
          cases this
        | succ j =>
          obtain ⟨o, w2, he⟩ := step_loneL_end (P := P) (fs := [c0]) (w := w) (by simp) (by simp [gorL, gor, c0, mkr, stepG, stepG.exec, isEnd])
          simp only [runN, he] at hrun
          cases hrun

theorem bad_agree {b : Bool} (hL : Lst P FN) {fs : List Frame} {w : World} {tp T : Tape} (hrel : ∃ (β : Ren P.globals.size) (FS : List Frame) (W : World), FrsR P FN β fs FS ∧ WR FN β w W) (hne : fs ≠ []) (hok : OkStk P FN fs) (hns : ¬ IsStop b fs)
    (hb : ∀ m, Bad P (stk (s0 b) [c0] fs.tail) (stepG P m (gorL (stk (s0 b) [c0] fs)) (tpd w tp))) (ha : ∀ p, w.drawn ≤ p → ∀ q, T p q = tp p q) : ∀ m, Bad P (stk (s0 b) [c0] fs.tail) (stepG P m (gorL (stk (s0 b) [c0] fs)) (tpd w T)) := by
  obtain ⟨β, FS, W, hf, hw⟩ := hrel
  rcases red_step' (w := tpd w T) b hL ⟨β, FS, W, hf, hw.tpd T⟩ hne hok hns with ⟨fs', w', hn, _⟩ | h
  · exfalso
    obtain ⟨es, hs⟩ := hn.step
    have e := hs true tp (s0 b) [c0] (al_s0 b) (fun p h1 h2 q => (ha p h1 q).symm)
    have hb2 := hb true
    rw [tpd_tpd] at e
    rw [e] at hb2
    rcases hb2 with hb2 | ⟨fr1, ch, w1, es1, h1, h2, h3⟩
    · exact hb2
    · cases hfs' : fs' with
      | nil => exact hn.ne hfs'
      | cons a l =>
        rw [hfs'] at h1
        simp only [stk, gorL, gor, GStep.go.injEq, Goroutine.mk.injEq] at h1
        have hm : fr1.mode = a.mode := by rw [← h1.1.1]; rfl
        rcases (hn.ok.all a (by rw [hfs']; exact List.mem_cons_self)).mode with h | h <;> rw [h2, h] at hm <;> cases hm
  · exact h

/-! ### the fan -/
structure St where
  fs : List Frame
  w : World

/-- A state that is no tree. -/
structure NoTree (b : Bool) (P : Program) (FN : FuncId → Bool) (S : List Frame → World → Prop) (s : St) : Prop where
  ne : s.fs ≠ []
  ok : OkStk P FN s.fs
  rel : ∃ (β : Ren P.globals.size) (FS : List Frame) (W : World), FrsR P FN β s.fs FS ∧ WR FN β s.w W
  no : ¬ Tree b P FN S s.fs s.w

theorem noTree_next {b : Bool} (hL : Lst P FN) {S : List Frame → World → Prop} {s : St} (h : NoTree b P FN S s) :
    ∃ tp : Tape, (∃ s' : St, NoTree b P FN S s' ∧ Nxt b P FN s.fs (tpd s.w tp) s'.fs s'.w) ∨ ∀ T : Tape, (∀ p, s.w.drawn ≤ p → ∀ q, T p q = tp p q) → Dead' b P s.fs (tpd s.w T) := by
  have relT : ∀ T : Tape, ∃ (β : Ren P.globals.size) (FS : List Frame) (W : World), FrsR P FN β s.fs FS ∧ WR FN β (tpd s.w T) W := fun T => by
    obtain ⟨β, FS, W, h1, h2⟩ := h.rel; exact ⟨β, FS, W, h1, h2.tpd T⟩
  by_cases hst : IsStop b s.fs
  · exact ⟨s.w.tape, .inr fun T _ => dead_of_stop (relT T) h.ok hst⟩
  · apply Classical.byContradiction
    intro hno
    have key : ∀ tp : Tape, ∃ fs' w', Nxt b P FN s.fs (tpd s.w tp) fs' w' ∧ (∀ β FS W, FrsR P FN β s.fs FS → WR FN β (tpd s.w tp) W → Tp (tpd s.w tp) W → SimR b P FN β s.fs (tpd s.w tp) fs' w' FS W) ∧ Tree b P FN S fs' w' := by
      intro tp
      rcases red_step' (w := tpd s.w tp) b hL (relT tp) h.ne h.ok hst with ⟨fs', w', hn, hsim, hrel'⟩ | hbad
      · refine ⟨fs', w', hn, hsim, ?_⟩
        apply Classical.byContradiction
        intro hnt
        exact hno ⟨tp, .inl ⟨⟨fs', w'⟩, ⟨hn.ne, hn.ok, hrel', hnt⟩, hn⟩⟩
      · exact absurd ⟨tp, .inr fun T ha => dead_of_bad h.ne h.ok (bad_agree hL h.rel h.ne h.ok hst hbad ha true)⟩ hno
    exact h.no (.step (fun tp => (key tp).choose) (fun tp => (key tp).choose_spec.choose) (fun tp => (key tp).choose_spec.choose_spec.1) (fun tp => (key tp).choose_spec.choose_spec.2.1) (fun tp => (key tp).choose_spec.choose_spec.2.2))

theorem least {p : Nat → Prop} (h : ∃ n, p n) : ∃ n, p n ∧ ∀ m, m < n → ¬ p m := by
  obtain ⟨n, hn⟩ := h
  induction n using Nat.strongRecOn with
  | _ n ih =>
    by_cases hx : ∃ m, m < n ∧ p m
    · obtain ⟨m, hm, hp⟩ := hx
      exact ih m hm hp
    · exact ⟨n, hn, fun m hm hp => hx ⟨m, hm, hp⟩⟩

section fan
variable {b : Bool} (hL : Lst P FN) {S : List Frame → World → Prop}

noncomputable def nx (s : { s : St // NoTree b P FN S s }) : { s : St // NoTree b P FN S s } :=
  open Classical in
  if h : ∃ s' : St, NoTree b P FN S s' ∧ Nxt b P FN s.1.fs (tpd s.1.w (noTree_next hL s.2).choose) s'.fs s'.w then ⟨h.choose, h.choose_spec.1⟩ else s
noncomputable def sq (s : { s : St // NoTree b P FN S s }) : Nat → { s : St // NoTree b P FN S s }
  | 0 => s
  | n + 1 => nx hL (sq s n)
noncomputable def tpn (s : { s : St // NoTree b P FN S s }) (n : Nat) : Tape := (noTree_next hL (sq hL s n).2).choose
def Live (s : { s : St // NoTree b P FN S s }) (n : Nat) : Prop := ∃ s' : St, NoTree b P FN S s' ∧ Nxt b P FN (sq hL s n).1.fs (tpd (sq hL s n).1.w (tpn hL s n)) s'.fs s'.w
theorem sq_live (s : { s : St // NoTree b P FN S s }) (n : Nat) (h : Live hL s n) : Nxt b P FN (sq hL s n).1.fs (tpd (sq hL s n).1.w (tpn hL s n)) (sq hL s (n + 1)).1.fs (sq hL s (n + 1)).1.w := by
  have e : sq hL s (n + 1) = nx hL (sq hL s n) := rfl
  rw [e]
  unfold nx
  have h' : ∃ s' : St, NoTree b P FN S s' ∧ Nxt b P FN (sq hL s n).1.fs (tpd (sq hL s n).1.w (noTree_next hL (sq hL s n).2).choose) s'.fs s'.w := h
  rw [dif_pos h']
  exact h'.choose_spec.2
theorem sq_dead (s : { s : St // NoTree b P FN S s }) (n : Nat) (h : ¬ Live hL s n) : ∀ T : Tape, (∀ p, (sq hL s n).1.w.drawn ≤ p → ∀ q, T p q = tpn hL s n p q) → Dead' b P (sq hL s n).1.fs (tpd (sq hL s n).1.w T) :=
  ((noTree_next hL (sq hL s n).2).choose_spec).resolve_left h
theorem sq_drawn (s : { s : St // NoTree b P FN S s }) (n : Nat) : (sq hL s n).1.w.drawn ≤ (sq hL s (n + 1)).1.w.drawn := by
  by_cases h : Live hL s n
  · exact (sq_live hL s n h).le
  · have e : sq hL s (n + 1) = sq hL s n := by
      show nx hL (sq hL s n) = _
      unfold nx
      exact dif_neg h
    rw [e]
    exact Nat.le_refl _
theorem sq_mono (s : { s : St // NoTree b P FN S s }) {m n : Nat} (h : m ≤ n) : (sq hL s m).1.w.drawn ≤ (sq hL s n).1.w.drawn := by
  induction h with
  | refl => exact Nat.le_refl _
  | step _ ih => exact Nat.le_trans ih (sq_drawn hL s _)
/-- The tape of all these choices. -/
noncomputable def diag (s : { s : St // NoTree b P FN S s }) : Tape := fun p q =>
  open Classical in
  if h : ∃ n, p < (sq hL s (n + 1)).1.w.drawn ∨ ¬ Live hL s n then tpn hL s (least h).choose p q else 0
theorem diag_eq (s : { s : St // NoTree b P FN S s }) (n : Nat) (hl : ∀ m, m < n → Live hL s m) (p : Nat) (h1 : (sq hL s n).1.w.drawn ≤ p) (h2 : p < (sq hL s (n + 1)).1.w.drawn ∨ ¬ Live hL s n) (q : Question) : diag hL s p q = tpn hL s n p q := by
  classical
  unfold diag
  have hex : ∃ n, p < (sq hL s (n + 1)).1.w.drawn ∨ ¬ Live hL s n := ⟨n, h2⟩
  rw [dif_pos hex]
  have e : (least hex).choose = n := by
    obtain ⟨g1, g2⟩ := (least hex).choose_spec
    generalize (least hex).choose = m at g1 g2
    rcases Nat.lt_trichotomy m n with hm | hm | hm
    · rcases g1 with h | h
      · have := sq_mono hL s (show m + 1 ≤ n from hm); omega
      · exact absurd (hl m hm) h
    · exact hm
    · exact absurd h2 (g2 n hm)
  rw [e]
theorem sq_run (s : { s : St // NoTree b P FN S s }) : ∀ n, (∀ m, m < n → Live hL s m) →
    runN P n (loneL (stk (s0 b) [c0] s.1.fs) (tpd s.1.w (diag hL s))) = .next (loneL (stk (s0 b) [c0] (sq hL s n).1.fs) (tpd (sq hL s n).1.w (diag hL s))) := by
  intro n
  induction n with
  | zero => intro _; rfl
  | succ n ih =>
    intro hl
    have hn := ih fun m hm => hl m (by omega)
    have hlv := hl n (Nat.lt_succ_self _)
    obtain ⟨es, hs⟩ := (sq_live hL s n hlv).step
    have hst := hs true (diag hL s) (s0 b) [c0] (al_s0 b) (fun p h1 h2 q => diag_eq hL s n (fun m hm => hl m (by omega)) p h1 (.inl h2) q)
    rw [tpd_tpd] at hst
    have hne : ∀ fs : List Frame, fs ≠ [] → stk (s0 b) [c0] fs ≠ [] := fun fs h => by cases fs with | nil => exact absurd rfl h | cons _ _ => simp [stk]
    have h1 := step_loneL_go (hne _ (sq hL s n).2.ne) (hne _ (sq hL s (n + 1)).2.ne) hst
    rw [runN_add, hn]
    simp only [runN, h1]

end fan

/-- ████ THE FAN. ████ -/
theorem fan {b : Bool} (hL : Lst P FN) {S : List Frame → World → Prop} (hS : ∀ fs w tp, S fs w → S fs (tpd w tp)) {fs : List Frame} {w : World} (hrel : ∃ (β : Ren P.globals.size) (FS : List Frame) (W : World), FrsR P FN β fs FS ∧ WR FN β w W) (hne : fs ≠ []) (hok : OkStk P FN fs)
    (h : ∀ tp, ∃ n fr' w', runN P n (loneL (stk (s0 b) [c0] fs) (tpd w tp)) = .next (lone fr' [c0] w') ∧ panics fr'.mode = false ∧ ∀ fr, suf (s0 b) fr = fr' → S [fr] w') : Tree b P FN S fs w := by
  apply Classical.byContradiction
  intro hno
  let s : { s : St // NoTree b P FN S s } := ⟨⟨fs, w⟩, hne, hok, hrel, hno⟩
  obtain ⟨n, fr', w', hrun, hst, hSS⟩ := h (diag hL s)
  by_cases hall : ∀ m, m < n → Live hL s m
  · have h1 := sq_run hL s n hall
    have h2 : loneL (stk (s0 b) [c0] (sq hL s n).1.fs) (tpd (sq hL s n).1.w (diag hL s)) = lone fr' [c0] w' := by
      have := h1.symm.trans hrun
      simpa using this
    obtain ⟨fr, e0, e1, e2⟩ := loneL_one (sq hL s n).2.ne h2
    refine (sq hL s n).2.no (.stop ?_)
    rw [e0]
    have := hS _ _ (sq hL s n).1.w.tape (hSS fr e1)
    rw [← e2, tpd_tpd, tpd_self] at this
    exact this
  · have hex : ∃ m, m < n ∧ ¬ Live hL s m := by
      apply Classical.byContradiction
      intro hx
      exact hall fun m hm => Classical.byContradiction fun hl => hx ⟨m, hm, hl⟩
    obtain ⟨m, hm, hmin'⟩ := least hex
    have hmin : ∀ k, k < m → Live hL s k := fun k hk => Classical.byContradiction fun hl => hmin' k hk ⟨by omega, hl⟩
    have h1 := sq_run hL s m hmin
    have hd := sq_dead hL s m hm.2 (diag hL s) fun p hp q => diag_eq hL s m hmin p hp (.inr hm.2) q
    obtain ⟨j, rfl⟩ : ∃ j, n = m + (j + 1) := ⟨n - m - 1, by omega⟩
    rw [runN_add, h1] at hrun
    exact hd j fr' w' hst hrun
end Go.Fw
end

section
/- Judgements that are closed under the steps of a private goroutine, and the rules for them. No condition. -/
set_option linter.unusedVariables false
set_option linter.unusedSimpArgs false
namespace Go.Fw
open Go Go.Conc
variable {P : Program} {FN : FuncId → Bool}

/-- Whatever company is related, its goroutine goes as the private one. -/
def SimF (P : Program) (FN : FuncId → Bool) (fs : List Frame) (w : World) (fs' : List Frame) (w' : World) : Prop :=
  ∀ (β : Ren P.globals.size) (FS : List Frame) (W : World), FrsR P FN β fs FS → WR FN β w W → Tp w W →
    ∃ (γ : Ren P.globals.size) (FS' : List Frame) (W' : World) (ES : Array Event), FrsR P FN γ fs' FS' ∧ RunR FN β γ w W w' W' ∧ (∀ m, stepG P m (gorL FS) W = .go (gorL FS') W' ES) ∧ ∀ e ∈ ES, EvR γ w' W' e

structure Clo (P : Program) (FN : FuncId → Bool) (J : List Frame → World → Prop) : Prop where
  step : ∀ (fs : List Frame) (w : World) (F : Tape → List Frame) (K : Tape → World), fs ≠ [] → (∀ tp, F tp ≠ []) → (∀ tp, SimF P FN fs (tpd w tp) (F tp) (K tp)) → (∀ tp, J (F tp) (K tp)) → J fs w
  vac : ∀ (fs : List Frame) (w : World), (∀ (β : Ren P.globals.size) (FS : List Frame) (W : World), FrsR P FN β fs FS → WR FN β w W → False) → J fs w
  tp : ∀ (fs : List Frame) (w : World) (t : Tape), J fs (tpd w t) → J fs w

section
variable {J : List Frame → World → Prop}

theorem simF_of_simR {b : Bool} {fs fs' base : List Frame} {w w' : World} {s : List Item} (hal : Al b s)
    (h : ∀ (β : Ren P.globals.size) FS W, FrsR P FN β fs FS → WR FN β w W → Tp w W → SimR b P FN β fs w fs' w' FS W) : SimF P FN (stk s base fs) w (stk s base fs') w' := by
  intro β FF W hf hw ht
  obtain ⟨FS, BASE, rfl, h1, h2⟩ := stk_rel hf
  obtain ⟨γ, FS', W', ES, g1, g2, g3, g4⟩ := h β FS W h1 hw ht
  exact ⟨γ, stk s BASE FS', W', ES, rel_stk g1 (h2.mono g2.le), g2, fun m => g3 m s BASE hal, g4⟩

theorem Clo.tree (hJ : Clo P FN J) {b : Bool} {S : List Frame → World → Prop} {s : List Item} (hal : Al b s) {base fs : List Frame} {w : World} (h : Tree b P FN S fs w) (hne : stk s base fs ≠ [])
    (hS : ∀ fs' w', S fs' w' → J (stk s base fs') w') : J (stk s base fs) w := by
  have ne : ∀ l : List Frame, l ≠ [] → stk s base l ≠ [] := fun l hl => by cases l with | nil => exact absurd rfl hl | cons _ _ => simp [stk]
  induction h with
  | stop h => exact hS _ _ h
  | step F K hs hr hn ih => exact hJ.step _ _ (fun tp => stk s base (F tp)) K hne (fun tp => ne _ (hs tp).ne) (fun tp => simF_of_simR hal (hr tp)) fun tp => ih tp (ne _ (hs tp).ne)

theorem Clo.back (hJ : Clo P FN J) {fs : List Frame} {w : World} (t : Tape) (h : J fs w) : J fs (tpd w t) := hJ.tp _ _ w.tape (by rw [tpd_tpd, tpd_self]; exact h)

/-- One step that is the same for every tape. -/
theorem Clo.one (hJ : Clo P FN J) {fs fs' : List Frame} {w w' : World} (hne : fs ≠ []) (hne' : fs' ≠ []) (h : ∀ tp, SimF P FN fs (tpd w tp) fs' (tpd w' tp)) (hn : J fs' w') : J fs w :=
  hJ.step fs w (fun _ => fs') (fun tp => tpd w' tp) hne (fun _ => hne') h fun tp => hJ.back tp hn

/-! ### frames in the walks' form -/
theorem frR_at {β : Ren P.globals.size} {b : Frame} {a : Act} {td : List Item} {FR : Frame} (h : FrR P FN β (b.at a td) FR) :
    ∃ A : Act, FR = b.at A td ∧ ArrR FN β a.tmps A.tmps ∧ A.defers = a.defers ∧ b.kind ≠ .early := by
  obtain ⟨h1, h2, h3, h4, ⟨h5, h6⟩, ⟨_, h7⟩, h8⟩ := h
  cases FR
  simp only [Frame.at] at h1 h2 h3 h4 h5 h6 h7 h8
  subst h1 h2 h4 h6 h7 h8
  exact ⟨⟨_, a.defers⟩, rfl, h3, rfl, h5⟩
theorem at_frR {β : Ren P.globals.size} {b : Frame} {a A : Act} (td : List Item) (hb : b.kind ≠ .early) (h : ArrR FN β a.tmps A.tmps) (hd : A.defers = a.defers) : FrR P FN β (b.at a td) (b.at A td) :=
  ⟨rfl, rfl, h, rfl, ⟨hb, rfl⟩, ⟨rfl, rfl⟩, hd⟩
theorem gorL_cons (fr : Frame) (cs : List Frame) : gorL (fr :: cs) = G fr cs := rfl

/-- A move of control that does not look at the temporaries. -/
theorem Clo.ctl (hJ : Clo P FN J) {b : Frame} {a : Act} {td td' : List Item} {cs : List Frame} {w : World} (h : ∀ (A : Act) (m : Bool) (C : List Frame) (W : World), stepG P m (G (b.at A td) C) W = .go (G (b.at A td') C) W #[])
    (hn : J (b.at a td' :: cs) w) : J (b.at a td :: cs) w := by
  refine hJ.one (by simp) (by simp) (fun tp β FS W hf hw ht => ?_) hn
  cases hf with
  | cons x t =>
    obtain ⟨A, rfl, h1, h2, h3⟩ := frR_at x
    exact ⟨β, _, W, #[], .cons (at_frR td' h3 h1 h2) t, .refl hw ht, fun m => h A m _ W, fun e he => by simp at he⟩

section ctl
variable {b : Frame} {a : Act} {k : List Item} {cs : List Frame} {w : World}
theorem Clo.seq (hJ : Clo P FN J) {x y : Code} (h : J (b.at a (.code x :: .code y :: k) :: cs) w) : J (b.at a (.code (.seq x y) :: k) :: cs) w := hJ.ctl (fun A m C W => stepG_seq) h
theorem Clo.skip (hJ : Clo P FN J) (h : J (b.at a k :: cs) w) : J (b.at a (.code .skip :: k) :: cs) w := hJ.ctl (fun A m C W => stepG_skip) h
theorem Clo.block (hJ : Clo P FN J) {id : Nat} {c : Code} (h : J (b.at a (.code c :: .inBlock id :: k) :: cs) w) : J (b.at a (.code (.block id c) :: k) :: cs) w := hJ.ctl (fun A m C W => stepG_block) h
theorem Clo.inBlock (hJ : Clo P FN J) {id : Nat} (h : J (b.at a k :: cs) w) : J (b.at a (.inBlock id :: k) :: cs) w := hJ.ctl (fun A m C W => stepG_inBlock) h
theorem Clo.loop (hJ : Clo P FN J) {c : Code} (h : J (b.at a (.code c :: .inLoop c :: k) :: cs) w) : J (b.at a (.code (.loop c) :: k) :: cs) w := hJ.ctl (fun A m C W => stepG_loop) h
theorem Clo.inLoop (hJ : Clo P FN J) {c : Code} (h : J (b.at a (.code c :: .inLoop c :: k) :: cs) w) : J (b.at a (.inLoop c :: k) :: cs) w := hJ.ctl (fun A m C W => stepG_inLoop) h
theorem Clo.exit (hJ : Clo P FN J) {id : Nat} {k' : List Item} (hk : exitTo id k = some k') (h : J (b.at a k' :: cs) w) : J (b.at a (.code (.exit id) :: k) :: cs) w := hJ.ctl (fun A m C W => stepG_exit hk) h
theorem Clo.region (hJ : Clo P FN J) {id : Nat} {ops : Array Oper} (h : J (b.at a (.inRegion ops (List.range ops.size) :: k) :: cs) w) : J (b.at a (.code (.region id ops false) :: k) :: cs) w := hJ.ctl (fun A m C W => stepG_region) h
theorem Clo.region_end (hJ : Clo P FN J) {ops : Array Oper} (h : J (b.at a k :: cs) w) : J (b.at a (.inRegion ops [] :: k) :: cs) w := hJ.ctl (fun A m C W => stepG_region_end) h

/-- A condition that lies in a temporary. -/
theorem Clo.cond (hJ : Clo P FN J) {t : Tmp} {x y : Code} {v : Bool} (hc : a.eval (.tmp t) = .bool v) (h : J (b.at a (.code (if v then x else y) :: k) :: cs) w) : J (b.at a (.code (.cond (.tmp t) x y) :: k) :: cs) w := by
  refine hJ.one (by simp) (by simp) (fun tp β FS W hf hw ht => ?_) h
  cases hf with
  | cons x t' =>
    obtain ⟨A, rfl, h1, h2, h3⟩ := frR_at x
    have hv := (at_frR (P := P) (b := b) [] h3 h1 h2).opn.x (.tmp t) rfl
    rw [Frame.eval_at, Frame.eval_at, hc] at hv
    have hA : A.eval (.tmp t) = .bool v := by
      generalize A.eval (.tmp t) = V at hv
      cases hv; rfl
    exact ⟨β, _, W, #[], .cons (at_frR _ h3 h1 h2) t', .refl hw ht, fun m => stepG_cond hA, fun e he => by simp at he⟩

/-- A region's draw: for whatever order. -/
theorem Clo.draw (hJ : Clo P FN J) {id : Nat} {ops : Array Oper} (h : ∀ t w', w'.heap = w.heap → J (b.at a (.inRegion ops (Region.schedule (P.follows .mixedOrders) ops t) :: k) :: cs) w') : J (b.at a (.code (.region id ops true) :: k) :: cs) w := by
  refine hJ.step _ w (fun tp => b.at a (.inRegion ops (Region.schedule (P.follows .mixedOrders) ops (tp w.drawn (.order b.fn id))) :: k) :: cs) (fun tp => { tpd w tp with drawn := w.drawn + 1 }) (by simp) (by simp) (fun tp β FS W hf hw ht => ?_) fun tp => h _ _ rfl
  cases hf with
  | cons x t' =>
    obtain ⟨A, rfl, h1, h2, h3⟩ := frR_at x
    have hq : W.tape W.drawn (.order b.fn id) = tp w.drawn (.order b.fn id) := by have := ht 0 (.order b.fn id); simpa using this.symm
    refine ⟨β, _, { W with drawn := W.drawn + 1 }, #[], .cons (at_frR _ h3 h1 h2) t', run_draw hw ht, fun m => ?_, fun e he => by simp at he⟩
    rename_i L
    have := draw_step (P := P) (fr := b.at A (.code (.region id ops true) :: k)) rfl rfl rfl m [] L W
    simp only [suf_nil] at this
    rw [show (b.at A (.code (.region id ops true) :: k)).fn = b.fn from rfl, hq] at this
    exact this

/-- The end of a body. -/
theorem Clo.ret (hJ : Clo P FN J) (h : J ({ b.at a (.code .ret :: k) with mode := .returning } :: cs) w) : J (b.at a (.code .ret :: k) :: cs) w := by
  refine hJ.one (by simp) (by simp) (fun tp β FS W hf hw ht => ?_) h
  cases hf with
  | cons x t' =>
    obtain ⟨A, rfl, h1, h2, h3⟩ := frR_at x
    exact ⟨β, _ :: _, W, #[], .cons (FR := { b.at A (.code .ret :: k) with mode := .returning }) ⟨rfl, rfl, h1, rfl, ⟨h3, rfl⟩, ⟨rfl, rfl⟩, h2⟩ t', .refl hw ht, fun m => by simp [gorL_cons, G, stepG, stepG.exec, Frame.at], fun e he => by simp at he⟩
theorem Clo.end_ (hJ : Clo P FN J) (h : J ({ b.at a [] with mode := .returning } :: cs) w) : J (b.at a [] :: cs) w := by
  refine hJ.one (by simp) (by simp) (fun tp β FS W hf hw ht => ?_) h
  cases hf with
  | cons x t' =>
    obtain ⟨A, rfl, h1, h2, h3⟩ := frR_at x
    exact ⟨β, _ :: _, W, #[], .cons (FR := { b.at A [] with mode := .returning }) ⟨rfl, rfl, h1, rfl, ⟨h3, rfl⟩, ⟨rfl, rfl⟩, h2⟩ t', .refl hw ht, fun m => by simp [gorL_cons, G, stepG, stepG.exec, Frame.at], fun e he => by simp at he⟩
end ctl

/-! ### a return -/
/-- A frame that leaves hands its result to the one below. -/
theorem Clo.leave (hJ : Clo P FN J) {fr c : Frame} {cs : List Frame} {w : World} {fn : Func} (hm : fr.mode = .returning) (hd : fr.defers = []) (hk : fr.kind = .normal) (hf : P.funcs[fr.fn]? = some fn) (hr : fn.results.all okRes = true) (hc : AtOp c)
    (h : J (c.finish (resV fn fr.tmps) :: cs) w) : J (fr :: c :: cs) w := by
  refine hJ.one (by simp) (by simp) (fun tp β FS W hfr hw ht => ?_) h
  cases hfr with
  | cons x t =>
    cases t with
    | cons y t' =>
      rename_i C _
      exact ⟨β, _, W, #[], .cons (finish_rel y hc (resV_rel x.tmps)) t', .refl hw ht, fun m => leave_step (x.mode.trans hm) (x.defers.trans hd) (x.kind.2.trans hk) (by rw [x.fn]; exact hf) hr m _ _ W, fun e he => by simp at he⟩

/-! ### a call by its contract -/
theorem enter_okFr {f : FuncId} (xs : Array Value) (hb : bodyOk P f = true) (hg : bodyGood P FN f = true) : OkFr P FN (Frame.enter P f xs .normal) := by
  have hg' := hg
  unfold bodyOk at hb
  unfold bodyGood at hg
  cases hfn : P.funcs[f]? with
  | none => rw [hfn] at hb; cases hb
  | some fn =>
    rw [hfn] at hb hg
    simp only [Bool.and_eq_true] at hb hg
    cases hc : fn.body with
    | none => rw [hc] at hb; simp at hb
    | some c =>
      simp only [hc] at hg
      have e : Frame.enter P f xs .normal = { fn := f, tmps := xs ++ Array.replicate (fn.ntmps - xs.size) undef, todo := [.code c], defers := [], mode := .run, kind := .normal } := by
        simp [Frame.enter, hfn, hc]
      rw [e]
      exact ⟨by simp [okItem, hg], rfl, .inl rfl, resGood_of hg', rfl⟩

/-- ████ A CALL BY ITS LONE CONTRACT. ████ -/
theorem Clo.call (hJ : Clo P FN J) (hL : Lst P FN) {f : FuncId} {args : Array Value} {c : Frame} {cs : List Frame} {w : World} {R : Value → World → Prop} (hf : FN f = true) (hb : bodyOk P f = true) (hc : AtOp c)
    (h : ∀ tp, Calls P f args (tpd w tp) fun e w' => ∃ v, e = .returned v ∧ R v w') (hk : ∀ v w', R v w' → J (c.finish v :: cs) w') : J (Frame.enter P f args .normal :: c :: cs) w := by
  by_cases hrel : ∃ (β : Ren P.globals.size) (FS : List Frame) (W : World), FrsR P FN β (Frame.enter P f args .normal :: c :: cs) FS ∧ WR FN β w W
  · obtain ⟨β, FS, W, hfs, hw⟩ := hrel
    have hg := hL.good f hf hb
    cases hfs with
    | cons x t =>
      let S : List Frame → World → Prop := fun fs w => ∃ (fr : Frame) (tp : Tape) (v : Value), fs = [fr] ∧ fr.fn = f ∧ fr.leaving P (tpd w tp) (.returned v) ∧ R v (tpd w tp)
      have hT : Tree false P FN S [Frame.enter P f args .normal] w := by
        refine fan hL (b := false) (S := S) ?_ ⟨β, _, W, .cons x .nil, hw⟩ (by simp) ⟨fun fr hfr => by rw [List.mem_singleton.1 hfr]; exact enter_okFr args hb hg, fun fr hfr => by simp at hfr⟩ ?_
        · rintro fs w tp ⟨fr, tq, v, h1, h2, h3, h4⟩
          exact ⟨fr, tq, v, h1, h2, h3, h4⟩
        · intro tp
          obtain ⟨e, w', fr, ⟨v, rfl, hR⟩, ⟨n, hn⟩, hfn, hlv⟩ := h tp [c0]
          refine ⟨n, fr, w', by simpa [stk, s0, suf_nil, loneL] using hn, by rw [hlv.1]; rfl, fun fr2 e => ?_⟩
          rw [show s0 false = [] from rfl, suf_nil] at e
          subst e
          exact ⟨fr2, w'.tape, v, rfl, hfn, hlv, hR⟩
      have := hJ.tree (s := []) (base := c :: cs) (.inr rfl) hT (by simp [stk]) fun fs' w' hS => ?_
      · simpa [stk, suf_nil] using this
      · obtain ⟨fr, tp, v, rfl, hfn, ⟨h1, h2, h3, fn, h4, h5⟩, hR⟩ := hS
        have hres : fn.results.all okRes = true := by
          unfold bodyGood at hg
          rw [← hfn, h4] at hg
          simp only [Bool.and_eq_true] at hg
          exact hg.1
        rw [results_eq hres] at h5
        have hv : resV fn fr.tmps = v := by simp only [Sem.run, Result.ok.injEq] at h5; exact h5.1
        show J (suf [] fr :: c :: cs) w'
        rw [suf_nil]
        refine hJ.leave h1 h2 h3 h4 hres hc ?_
        rw [hv]
        exact hJ.tp _ _ tp (hk v _ hR)
  · exact hJ.vac _ _ fun β FS W h1 h2 => hrel ⟨β, FS, W, h1, h2⟩

/-! ### a piece of code by its lone walk -/
/-- What a piece's walk must come to. -/
def pieceQ (N : Act → World → Prop) (R : Act → World → Prop) : Exit → Act → World → Prop
  | .normal, a, w => N a w
  | .ret, a, w => R a w
  | _, _, _ => False

theorem Clo.code (hJ : Clo P FN J) (hL : Lst P FN) {c : Code} {b : Frame} {a : Act} {k : List Item} {cs : List Frame} {w : World} {N R : Act → World → Prop} (hok : okCode P FN c = true) (hd : a.defers = []) (hbk : b.kind = .normal) (hbg : resGood P b.fn = true)
    (h : ∀ tp, c.wp P (pieceQ N R) a (tpd w tp)) (hN : ∀ a' w', N a' w' → J (b.at a' k :: cs) w') (hR : ∀ a' w' td, R a' w' → J ({ b.at a' td with mode := .returning } :: cs) w') : J (b.at a (.code c :: k) :: cs) w := by
  by_cases hrel : ∃ (β : Ren P.globals.size) (FS : List Frame) (W : World), FrsR P FN β (b.at a (.code c :: k) :: cs) FS ∧ WR FN β w W
  · obtain ⟨β, FS, W, hfs, hw⟩ := hrel
    cases hfs with
    | cons x t =>
      obtain ⟨A, rfl, h1, h2, h3⟩ := frR_at x
      let S : List Frame → World → Prop := fun fs w => ∃ (a' : Act) (tp : Tape), (fs = [b.at a' []] ∧ N a' (tpd w tp)) ∨ ∃ td, fs = [{ b.at a' td with mode := .returning }] ∧ R a' (tpd w tp)
      have hT : Tree true P FN S [b.at a [.code c]] w := by
        refine fan hL (b := true) (S := S) ?_ ⟨β, _, W, .cons (at_frR [.code c] h3 h1 h2) .nil, hw⟩ (by simp) ⟨fun fr hfr => by rw [List.mem_singleton.1 hfr]; exact ⟨by simp [Frame.at, okItem, hok], hd, .inl rfl, hbg, hbk⟩, fun fr hfr => by simp at hfr⟩ ?_
        · rintro fs w tp ⟨a', tq, h⟩
          exact ⟨a', tq, h⟩
        · intro tp
          obtain ⟨e, a', w', hq, harr⟩ := h tp b [mkr] [c0]
          cases e with
          | normal =>
            obtain ⟨n, hn⟩ := harr
            refine ⟨n, _, w', by simpa [stk, s0, suf, loneL, Frame.at] using hn, rfl, fun fr e => ⟨a', w'.tape, .inl ⟨?_, hq⟩⟩⟩
            have : suf [mkr] fr = suf [mkr] (b.at a' []) := e
            rw [suf_inj this]
          | ret =>
            obtain ⟨todo, n, hn⟩ := harr
            refine ⟨n, _, w', by simpa [stk, s0, suf, loneL, Frame.at] using hn, rfl, fun fr e => ⟨a', w'.tape, .inr ⟨fr.todo, ?_, hq⟩⟩⟩
            cases fr
            simp only [suf, Frame.at, Frame.mk.injEq] at e
            obtain ⟨rfl, rfl, _, rfl, rfl, rfl, rfl⟩ := e
            rfl
          | _ => exact hq.elim
      have := hJ.tree (s := k) (base := cs) (.inl rfl) hT (by simp [stk]) fun fs' w' hS => ?_
      · simpa [stk, suf, Frame.at] using this
      · obtain ⟨a', tp, ⟨rfl, hq⟩ | ⟨td, rfl, hq⟩⟩ := hS
        · have := hJ.tp _ _ tp (hN a' _ hq)
          simpa [stk, suf, Frame.at] using this
        · have := hJ.tp _ _ tp (hR a' _ (td ++ k) hq)
          simpa [stk, suf, Frame.at] using this
  · exact hJ.vac _ _ fun β FS W h1 h2 => hrel ⟨β, FS, W, h1, h2⟩
end
end Go.Fw
end

section
/- Rules for single operations of a private goroutine. No condition. -/
set_option linter.unusedVariables false
set_option linter.unusedSimpArgs false
namespace Go.Fw
open Go Go.Conc
variable {P : Program} {FN : FuncId → Bool} {J : List Frame → World → Prop}
variable {b : Frame} {a : Act} {k : List Item} {cs : List Frame} {w w' : World} {ops : Array Oper} {i : Nat} {rest : List Nat} {o : Oper}

theorem put_rel {β : Ren P.globals.size} {a A : Act} (h : ArrR FN β a.tmps A.tmps) (hd : A.defers = a.defers) {v V : Value} (hv : VR FN β v V) (d : Option Tmp) : ArrR FN β (a.put d v).tmps (A.put d V).tmps ∧ (A.put d V).defers = (a.put d v).defers := by
  cases d with
  | none => exact ⟨h, hd⟩
  | some d => exact ⟨h.set hv d, hd⟩
theorem opn_at {β : Ren P.globals.size} {b : Frame} {a A : Act} (hb : b.kind ≠ .early) (h : ArrR FN β a.tmps A.tmps) (hd : A.defers = a.defers) : OpnR FN β a.eval A.eval := by
  have := (at_frR (P := P) (b := b) [] hb h hd).opn
  rw [Frame.eval_at' b a [], Frame.eval_at' b A []] at this
  exact this
theorem events_of_runT {α : Type} {s : Sem α} {w w1 : World} {x : α} {es : Array Event} (h : s.runT P w #[] = (.ok x w1, es)) : s.run P w = .ok x w1 ∧ s.events P w #[] = es := by
  rw [Sem.runT_eq] at h
  simp only [Prod.mk.injEq] at h
  exact h

/-- An operation that yields a value. -/
theorem Clo.op (hJ : Clo P FN J) (hL : Lst P FN) {v : Value} (ho : ops[i]? = some o) (hw : Region.wanted o (yielded ops a.tmps) = true) (hok : okOp P FN o = true)
    (hr : ∀ tp, (execOp a.eval o).run P (tpd w tp) = .ok (.value v) (tpd w' tp)) (h : J (b.at (a.put o.dst v) (.inRegion ops rest :: k) :: cs) w') : J (b.at a (.inRegion ops (i :: rest) :: k) :: cs) w := by
  refine hJ.one (by simp) (by simp) (fun tp β FS W hf hwr ht => ?_) h
  cases hf with
  | cons x t =>
    obtain ⟨A, rfl, h1, h2, h3⟩ := frR_at x
    have hS := rel_execOp hok hL.call (opn_at h3 h1 h2)
    obtain ⟨γ, N, W1, ES1, g1, g2, g3, g4⟩ := hS.run (tpd w tp) W #[] #[] _ _ _ hwr ht (by rw [Sem.runT_eq, hr])
    cases g2 with
    | @value _ V hv =>
      obtain ⟨e1, e2⟩ := events_of_runT g1
      obtain ⟨q1, q2⟩ := put_rel (h1.mono g3.le) h2 hv o.dst
      refine ⟨γ, _, W1, _, .cons (at_frR _ h3 q1 q2) (t.mono g3.le), g3, fun m => stepG_value ho (by rw [← yielded_rel h1 ops]; exact hw) h3 e1, fun e he => ?_⟩
      unfold listed at he
      rw [e2] at he
      exact (g4 e (seen_sub he)).resolve_left (by simp)
/-- .. nothing. -/
theorem Clo.opSkip (hJ : Clo P FN J) (hL : Lst P FN) (ho : ops[i]? = some o) (hw : Region.wanted o (yielded ops a.tmps) = true) (hok : okOp P FN o = true)
    (hr : ∀ tp, (execOp a.eval o).run P (tpd w tp) = .ok .skip (tpd w' tp)) (h : J (b.at (a.put o.dst undef) (.inRegion ops rest :: k) :: cs) w') : J (b.at a (.inRegion ops (i :: rest) :: k) :: cs) w := by
  refine hJ.one (by simp) (by simp) (fun tp β FS W hf hwr ht => ?_) h
  cases hf with
  | cons x t =>
    obtain ⟨A, rfl, h1, h2, h3⟩ := frR_at x
    have hS := rel_execOp hok hL.call (opn_at h3 h1 h2)
    obtain ⟨γ, N, W1, ES1, g1, g2, g3, g4⟩ := hS.run (tpd w tp) W #[] #[] _ _ _ hwr ht (by rw [Sem.runT_eq, hr])
    cases g2 with
    | skip =>
      obtain ⟨e1, e2⟩ := events_of_runT g1
      obtain ⟨q1, q2⟩ := put_rel (FN := FN) (h1.mono g3.le) h2 VR.undef o.dst
      refine ⟨γ, _, W1, _, .cons (at_frR _ h3 q1 q2) (t.mono g3.le), g3, fun m => stepG_none ho (by rw [← yielded_rel h1 ops]; exact hw) h3 e1, fun e he => ?_⟩
      unfold listed at he
      rw [e2] at he
      exact (g4 e (seen_sub he)).resolve_left (by simp)
/-- .. whose guard turns it away. -/
theorem Clo.unwanted (hJ : Clo P FN J) (ho : ops[i]? = some o) (hw : Region.wanted o (yielded ops a.tmps) = false) (h : J (b.at (a.put o.dst undef) (.inRegion ops rest :: k) :: cs) w) : J (b.at a (.inRegion ops (i :: rest) :: k) :: cs) w := by
  refine hJ.one (by simp) (by simp) (fun tp β FS W hf hwr ht => ?_) h
  cases hf with
  | cons x t =>
    obtain ⟨A, rfl, h1, h2, h3⟩ := frR_at x
    obtain ⟨q1, q2⟩ := put_rel (FN := FN) h1 h2 VR.undef o.dst
    have hw' : Region.wanted o (yielded ops A.tmps) = false := by rw [← yielded_rel h1 ops]; exact hw
    refine ⟨β, _, W, #[], .cons (at_frR _ h3 q1 q2) t, .refl hwr ht, fun m => ?_, fun e he => by simp at he⟩
    exact Go.Conc.stepG_unwanted ho hw'

theorem run_call {f : FuncId} {args : Array Operand} {ats : Array TypeId} (hop : o.op = .call { callee := .value (.func f), args, argTypes := ats }) (hb : bodyOk P f = true) (w : World) :
    (execOp a.eval o).run P w = .ok (.enter f (args.map a.eval)) w ∧ (execOp a.eval o).events P w #[] = #[] := by
  unfold bodyOk at hb
  cases hfn : P.funcs[f]? with
  | none => rw [hfn] at hb; cases hb
  | some fn =>
    rw [hfn] at hb
    simp only [Bool.and_eq_true, bne_iff_ne, ne_eq] at hb
    have h2 : fn.body.isNone = false := by
      cases hc : fn.body with
      | none => rw [hc] at hb; simp at hb
      | some c => rfl
    rw [execOp_call_func hop]
    have h3 : ∃ c, fn.body = some c := Option.isSome_iff_exists.1 hb.2
    obtain ⟨c, hc⟩ := h3
    simp [callFunc, hfn, hb.1, hc]

theorem enter_frR {β : Ren P.globals.size} {f : FuncId} {xs XS : Array Value} (kd : CallKind) (hkd : kd ≠ .early) (hb : bodyOk P f = true) (h : ArrR FN β xs XS) : FrR P FN β (Frame.enter P f xs kd) (Frame.enter P f XS kd) := by
  unfold bodyOk at hb
  cases hfn : P.funcs[f]? with
  | none => rw [hfn] at hb; cases hb
  | some fn =>
    rw [hfn] at hb
    simp only [Bool.and_eq_true] at hb
    cases hc : fn.body with
    | none => rw [hc] at hb; simp at hb
    | some c =>
      have e : ∀ ys : Array Value, Frame.enter P f ys kd = { fn := f, tmps := ys ++ Array.replicate (fn.ntmps - ys.size) undef, todo := [.code c], defers := [], mode := .run, kind := kd } := fun ys => by
        simp [Frame.enter, hfn, hc]
      rw [e, e, ← h.1]
      exact ⟨rfl, rfl, h.app (ArrR.replicate VR.undef _), rfl, ⟨hkd, rfl⟩, ⟨rfl, rfl⟩, rfl⟩

/-- A call of a function by its name: it is entered. -/
theorem Clo.callop (hJ : Clo P FN J) {f : FuncId} {args : Array Operand} {ats : Array TypeId} (ho : ops[i]? = some o) (hw : Region.wanted o (yielded ops a.tmps) = true) (hop : o.op = .call { callee := .value (.func f), args, argTypes := ats })
    (hb : bodyOk P f = true) (hx : args.all (okX FN) = true) (h : J (Frame.enter P f (args.map a.eval) .normal :: b.at a (.inRegion ops (i :: rest) :: k) :: cs) w) : J (b.at a (.inRegion ops (i :: rest) :: k) :: cs) w := by
  refine hJ.one (by simp) (by simp) (fun tp β FS W hf hwr ht => ?_) h
  cases hf with
  | cons x t =>
    obtain ⟨A, rfl, h1, h2, h3⟩ := frR_at x
    have hA := (opn_at h3 h1 h2).arr hx
    have hw' : Region.wanted o (yielded ops A.tmps) = true := by rw [← yielded_rel h1 ops]; exact hw
    obtain ⟨e1, e2⟩ := run_call (P := P) (a := A) hop hb W
    rename_i CS
    refine ⟨β, _, W, #[], .cons (enter_frR .normal (by simp) hb hA) (.cons (at_frR _ h3 h1 h2) t), .refl hwr ht, fun m => ?_, fun e he => by simp at he⟩
    have hst := stepG_oper (P := P) (main := m) (b := b) (a := A) (k := k) (cs := CS) (w := W) (rest := rest) ho hw'
    rw [gorL_cons, hst]
    rw [apply_enter (P := P) (fr := b.at A (.inRegion ops (i :: rest) :: k)) (C := CS) (w := W) (s := execOp A.eval o) (ops := ops) (l := i :: rest) (k := k) (f := f) (xs := args.map A.eval) (w1 := W) (es := #[]) rfl h3 (by rw [Sem.runT_eq, e1, e2])]
    rw [show seen P (b.at A (.inRegion ops (i :: rest) :: k)).fn #[] = #[] by simp [seen]]
    rfl
end Go.Fw
end
