/-
  Part 19 of the common ground of this seat: what single parts show stands ahead of each.
  No condition.
-/
import Derived.Test.YtkmgcggoemlaaaaGreatDoorJ18

section
/- A chunk that is fed, in the law's 'applied'. No condition. -/
set_option linter.unusedSimpArgs false
set_option linter.unusedVariables false
namespace Go.Proofs.YtkmgcggoemlaaaaGreatDoor
open Go.RowKit Go.Fwm

def XG (X : Nat → Prop) (g : Nat) (b : Nat) : Prop := X b ∨ b = g
theorem chunk_in {w1 wr w2 : World} {X : Nat → Prop} {pa pf bf be be' : Nat} {a : Ap} {f : Fl} (hat : AAt w1 X pa pf bf be a f wr be') (hb : Below wr.heap.size wr w2) (hg : wr.heap.size < w2.heap.size) : ARep w2 (XG X wr.heap.size) pa pf bf be' a f :=
  hat.rep.takeIn ⟨hb.size, fun b hb' _ => hb.block b hb'⟩ (fun b hlt x => x.elim id fun e => by omega) fun b x => by
    rcases x with x | x
    · have := hat.rep.glt b x; omega
    · omega
theorem chunk_out {w1 wr w2 w3 w4 : World} {X : Nat → Prop} {pa pf bf be be' be3 : Nat} {a a' : Ap} {f f' : Fl} {v : Value} {fl : Flt} (hat : AAt w1 X pa pf bf be a f wr be') (hb : Below wr.heap.size wr w2) (k : AAt w2 (XG X wr.heap.size) pa pf bf be' a' f' w3 be3)
    (hv : FltV w3 (AF_ (PX pa (XG X wr.heap.size)) pf bf be3) v fl) (hbut : But wr.heap.size w3 w4) : AAt w1 X pa pf bf be a' f' w4 be3 ∧ FltV w4 (AF_ (PX pa X) pf bf be3) v fl := by
  have hle := hat.on.le
  have hon4 : Only (fun b => b = wr.heap.size) w3 w4 := Only.but hbut rfl
  have hr4 := k.rep.only hon4 fun b e _ => .inr e
  have hsz : w2.heap.size ≤ w3.heap.size := k.on.le
  refine ⟨⟨hr4.give fun b x => .inl x, ?_, ?_⟩, ?_⟩
  · rcases k.bq with e | e
    · rw [e]; exact hat.bq
    · exact .inr (by have := hb.size; omega)
  · have o2 : Only (fun _ => False) wr w2 := ⟨hb.size, fun b hb' _ => hb.block b hb'⟩
    have h12 : Only (AO pa pf bf be) w1 w2 := hat.on.trans o2 fun b _ x => x.elim
    have h13 : Only (AO pa pf bf be) w1 w3 := h12.trans k.on fun b hlt x => by
      rcases x with x | x | x | x
      · exact .inl x
      · exact .inr (.inl x)
      · exact .inr (.inr (.inl x))
      · rcases hat.bq with y | y
        · exact .inr (.inr (.inr (x.trans y)))
        · omega
    exact h13.trans hon4 fun b hlt x => by omega
  · exact (hv.but hbut (.inl (.inr (.inr rfl)))).imp fun b x => x.imp (fun y => y.imp id .inl) id

/-- A slice of ints. -/
def Ints (w : World) (A : Option Addr) (n : Nat) : Prop :=
  ∀ k, k < n → ∃ b o z, A = some ⟨b, o, none⟩ ∧ w.cell? ⟨b, o + k, none⟩ = some (.int .i64 z) ∧ -9223372036854775808 ≤ z ∧ z ≤ 9223372036854775807
theorem Ints.keep {w w' : World} {A : Option Addr} {n : Nat} (h : Ints w A n) (e : ∀ a, A = some a → a.block < w.heap.size → w'.heap[a.block]? = w.heap[a.block]?) : Ints w' A n := by
  intro k hk
  obtain ⟨b, o, z, rfl, hc, hz⟩ := h k hk
  exact ⟨b, o, z, rfl, by rw [World.cell?_of_block (a := ⟨b, o + k, none⟩) (e ⟨b, o, none⟩ rfl (block_lt_of_cell (a := ⟨b, o + k, none⟩) hc))]; exact hc, hz⟩
theorem Ints.only {F : Nat → Prop} {w w' : World} {A : Option Addr} {n : Nat} (h : Ints w A n) (k : Only F w w') (hn : Away F A) : Ints w' A n :=
  h.keep fun a ha hlt => k.keep _ hlt (hn a ha)

theorem Flt.num_sticky {x : AF} {l m : List UInt8} (h : (x.feed l).a.fault.num ≠ 0) : (x.feed (l ++ m)).a.fault = (x.feed l).a.fault := by
  have : (x.feed l).a.fault ≠ .none := by intro e; rw [e] at h; exact h rfl
  rw [feed_app, feed_bad this]

/-- At the head of the feeding loop. -/
structure Lp (w1 : World) (X : Nat → Prop) (pa pf bf be : Nat) (f : Fl) (patch : List UInt8) (at_ : Nat) (wr : World) : Prop where
  ex : ∃ be', AAt w1 X pa pf bf be (AF.feed ⟨Ap.init, f⟩ (patch.take at_)).a (AF.feed ⟨Ap.init, f⟩ (patch.take at_)).f wr be'
theorem chunk_on {w1 wr w2 w3 : World} {X X' : Nat → Prop} {pa pf bf be be' be3 : Nat} {a a' : Ap} {f f' : Fl} (hat : AAt w1 X pa pf bf be a f wr be') (hb : Below wr.heap.size wr w2) (k : AAt w2 X' pa pf bf be' a' f' w3 be3) : Only (AO pa pf bf be) w1 w2 ∧ Only (AO pa pf bf be) w1 w3 := by
  have hle := hat.on.le
  have o2 : Only (fun _ => False) wr w2 := ⟨hb.size, fun b hb' _ => hb.block b hb'⟩
  have h12 : Only (AO pa pf bf be) w1 w2 := hat.on.trans o2 fun b _ x => x.elim
  refine ⟨h12, h12.trans k.on fun b hlt x => ?_⟩
  rcases x with x | x | x | x
  · exact .inl x
  · exact .inr (.inl x)
  · exact .inr (.inr (.inl x))
  · rcases hat.bq with y | y
    · exact .inr (.inr (.inr (x.trans y)))
    · omega
/-- A chunk: from call to call. -/
structure Chain (w1 : World) (X : Nat → Prop) (pa pf bf be : Nat) (f : Fl) (patch : List UInt8) (k L c0 : Nat) (A0 : Option Addr) (wr : World) (g : Nat) (R2 : World → Prop) (R3 R4 : Value → World → Prop) (R5 : World → Prop) (F' : Nat) : Prop where
  roomy : Calls Tryz.prog 36 #[.slice A0 L c0] wr fun e w2 => e = .returned (.slice (some ⟨g, 0, none⟩) L (L + 2)) ∧ R2 w2
  feed : ∀ w2, R2 w2 → Calls Tryz.prog 33 #[.pointer (some ⟨pa, 0, none⟩), .slice (some ⟨g, 0, none⟩) L (L + 2)] w2 fun e w3 => ∃ v, e = .returned v ∧ R3 v w3
  still : ∀ v w3, R3 v w3 → Calls Tryz.prog 37 #[.slice (some ⟨g, 0, none⟩) L (L + 2), .slice A0 L c0] w3 fun e w4 => e = .returned (.bool true) ∧ R4 v w4
  tell : ∀ v w4, R4 v w4 → Calls Tryz.prog 16 #[v] w4 fun e w5 => e = .returned (.int .i64 (F' : Int)) ∧ R5 w5
  num : F' = (AF.feed ⟨Ap.init, f⟩ (patch.take (k + L))).a.fault.num
  held : ∀ w5, R5 w5 → Calls Tryz.prog 39 #[.pointer (some ⟨pa, 0, none⟩)] w5 fun e w6 => ∃ z : Int, e = .returned (.int .i64 z) ∧ w6 = w5
  fin : ∀ w5, R5 w5 → Lp w1 X pa pf bf be f patch (k + L) w5
theorem chunk_chain (w1 : World) (X : Nat → Prop) (pa pf bf be : Nat) (f : Fl) (patch : List UInt8) (k L c0 : Nat) (A0 : Option Addr) (wr : World) (hn : patch.length ≤ 1000000) (hk : k + L ≤ patch.length) (hg : GV w1) (hz : ¬ AO pa pf bf be 0) (h1 : f.old.length ≤ 4096) (h2 : f.pages ≤ 64) (hE : f.events.length ≤ 1000000) (hR : f.reads ≤ 100000000000)
    (hx : ∀ w', Only (AO pa pf bf be) w1 w' → Bytes w' A0 ((patch.drop k).take L)) {be1 : Nat} (hat : AAt w1 X pa pf bf be (AF.feed ⟨Ap.init, f⟩ (patch.take k)).a (AF.feed ⟨Ap.init, f⟩ (patch.take k)).f wr be1) :
    ∃ g R2 R3 R4 R5 F', Chain w1 X pa pf bf be f patch k L c0 A0 wr g R2 R3 R4 R5 F' := by
  obtain ⟨zs, hzs⟩ : ∃ zs, (patch.drop k).take L = zs := ⟨_, rfl⟩
  have hzl : zs.length = L := by rw [← hzs]; simp; omega
  rw [hzs] at hx
  obtain ⟨x, hxe⟩ : ∃ x, AF.feed ⟨Ap.init, f⟩ (patch.take k) = x := ⟨_, rfl⟩
  have hnext : AF.feed ⟨Ap.init, f⟩ (patch.take (k + L)) = x.feed zs := by rw [List.take_add, feed_app, hxe, hzs]
  have hS : Stt f f.reads x := by rw [← hxe]; exact (init_stt f h1 h2).feed _
  have hat0 : x.a.at_ ≤ k := by rw [← hxe]; have := feed_at (patch.take k) ⟨Ap.init, f⟩; simp only [List.length_take] at this; have e : Ap.init.at_ = 0 := rfl; omega
  rw [hxe] at hat
  have hbe1 : be1 ≠ 0 := by
    have := hg.lt
    rcases hat.bq with e | e
    · rw [e]; exact fun e2 => hz (.inr (.inr (.inr e2.symm)))
    · omega
  refine ⟨wr.heap.size, fun w2 => Below wr.heap.size wr w2 ∧ w2.heap[wr.heap.size]? = some (.cells (zs.map enc ++ [Value.int .u8 71, Value.int .u8 72]).toArray 5 (0, 0)),
    fun v w3 => ∃ w2 be3, Below wr.heap.size wr w2 ∧ AAt w2 (XG X wr.heap.size) pa pf bf be1 (x.feed zs).a (x.feed zs).f w3 be3 ∧ FltV w3 (AF_ (PX pa (XG X wr.heap.size)) pf bf be3) v (x.feed zs).a.fault ∧ w3.heap[wr.heap.size]? = some (.cells (zs.map enc ++ [Value.int .u8 71, Value.int .u8 72]).toArray 5 (0, 0)),
    fun v w4 => ∃ be3, AAt w1 X pa pf bf be (x.feed zs).a (x.feed zs).f w4 be3 ∧ FltV w4 (AF_ (PX pa X) pf bf be3) v (x.feed zs).a.fault,
    fun w5 => ∃ be3, AAt w1 X pa pf bf be (x.feed zs).a (x.feed zs).f w5 be3, (x.feed zs).a.fault.num, ?_, ?_, ?_, ?_, ?_, ?_, ?_⟩
  · have := roomy_big wr A0 c0 zs (by omega) (hx wr hat.on)
    rw [hzl] at this
    exact this
  · rintro w2 ⟨hb, hgb⟩
    have hlt : wr.heap.size < w2.heap.size := (Array.getElem?_eq_some_iff.1 hgb).1
    have hr := chunk_in hat hb hlt
    have hoff : ¬ AO pa pf bf be1 wr.heap.size := fun q => by
      have := hat.lt wr.heap.size
      rcases q with q | q | q | q
      · have := this (.inl (.inl q)); omega
      · have := this (.inr (.inl q)); omega
      · have := this (.inr (.inr (.inl q))); omega
      · have := this (.inr (.inr (.inr q))); omega
    have hg2 : GV w2 := (hg.only hat.on hz).below hb
    have := feed_ok w2 (XG X wr.heap.size) pa pf bf be1 x hr hg2 (fun q => by rcases q with q | q | q | q; exact hz (.inl q); exact hz (.inr (.inl q)); exact hz (.inr (.inr (.inl q))); exact hbe1 q.symm) hS hE hR (some ⟨wr.heap.size, 0, none⟩) L (L + 2) zs hzl (by omega) (Bytes.of_blk hgb) (fun a ha q => by cases ha; exact hoff q) (by omega)
    refine this.mono ?_
    rintro e w3 ⟨be3, v, rfl, hA, hv⟩
    exact ⟨v, rfl, w2, be3, hb, hA, hv, by rw [hA.on.keep _ hlt hoff]; exact hgb⟩
  · rintro v w3 ⟨w2, be3, hb, hA, hv, hgb⟩
    have := still_big w3 wr.heap.size A0 c0 zs (by omega) hgb (hx w3 (chunk_on hat hb hA).2)
    rw [hzl] at this
    refine this.mono ?_
    rintro e w4 ⟨rfl, hbut⟩
    obtain ⟨q1, q2⟩ := chunk_out hat hb hA hv hbut
    exact ⟨rfl, be3, q1, q2⟩
  · rintro v w4 ⟨be3, hA, hv⟩
    have := tell_ok w4 (hg.only hA.on hz) _ v _ hv
    refine this.mono ?_
    rintro e w5 ⟨rfl, hb⟩
    exact ⟨rfl, be3, hA.below hb⟩
  · rw [hnext]
  · rintro w5 ⟨be3, hA⟩
    exact held_ok w5 X pa pf bf be3 _ _ hA.rep
  · rintro w5 ⟨be3, hA⟩
    exact ⟨be3, by rw [hnext]; exact hA⟩

/-! ### behind the loop -/
theorem finish_again (x : AF) : (x.finish.x.a.fault ≠ .none) ∧ (x.finish.fault.num ≠ 0 → x.finish.x.a.fault.num = x.finish.fault.num) ∧ (x.finish.fault.num = 0 → x.finish.x.a.fault.num = 9 ∨ x.a.fault ≠ .none ∧ x.a.fault.num = 0) := by
  unfold AF.finish
  by_cases h : x.a.fault ≠ .none
  · rw [if_pos h]
    exact ⟨h, fun _ => rfl, fun e => .inr ⟨h, e⟩⟩
  · rw [if_neg h]
    by_cases hd : x.a.digits ≠ -1
    · rw [if_pos hd]
      exact ⟨by simp, fun _ => rfl, fun e => by cases e⟩
    · rw [if_neg hd]
      simp only
      split
      · exact ⟨by simp, fun _ => rfl, fun e => by rename_i e1 he; exact absurd e (by have : e1 ≠ 0 := by { unfold Fl.commit at he; split at he; (cases he; decide); split at he; (cases he; decide); cases he }; exact this)⟩
      · exact ⟨by simp, fun e => absurd rfl e, fun _ => .inl rfl⟩
theorem finish_stick (x : AF) (h : x.a.fault.num ≠ 0) : x.finish.fault.num = x.a.fault.num := by
  have : x.a.fault ≠ .none := by intro e; rw [e] at h; exact h rfl
  rw [fin_bad this]
theorem Stt.num0 {f0 : Fl} {R0 : Nat} {x : AF} (h : Stt f0 R0 x) : x.a.fault.num = 0 → x.a.fault = .none := by
  cases h with
  | ok out h => exact fun _ => h.nofault
  | bad e hf h =>
    rw [hf]
    intro e1
    have := h.num
    split at e1
    · cases e1
    · have e1 : e = 0 := e1; omega
structure Tail (w w1 : World) (X : Nat → Prop) (pa pf bf be : Nat) (y : AF) (M G : Nat) (A : Option Addr) (n c : Nat) (wr : World) (T1 : Value → World → Prop) (T2 : World → Prop) (T3 : Value → World → Prop) (T4 : Value → Value → World → Prop) (T5 : Value → World → Prop) (T6 : World → Prop) : Prop where
  fin : Calls Tryz.prog 32 #[.pointer (some ⟨pa, 0, none⟩)] wr fun e w2 => ∃ v, e = .returned v ∧ T1 v w2
  tell1 : ∀ v w2, T1 v w2 → Calls Tryz.prog 16 #[v] w2 fun e w3 => e = .returned (.int .i64 (M : Int)) ∧ T2 w3
  held : ∀ w3, T2 w3 → Calls Tryz.prog 39 #[.pointer (some ⟨pa, 0, none⟩)] w3 fun e w6 => ∃ z : Int, e = .returned (.int .i64 z) ∧ w6 = w3
  feed2 : ∀ w3, T2 w3 → Calls Tryz.prog 33 #[.pointer (some ⟨pa, 0, none⟩), .slice A n c] w3 fun e w4 => ∃ v, e = .returned v ∧ T3 v w4
  fin2 : ∀ v w4, T3 v w4 → Calls Tryz.prog 32 #[.pointer (some ⟨pa, 0, none⟩)] w4 fun e w5 => ∃ v', e = .returned v' ∧ T4 v v' w5
  tell2 : ∀ v v' w5, T4 v v' w5 → Calls Tryz.prog 16 #[v] w5 fun e w6 => e = .returned (.int .i64 (G : Int)) ∧ T5 v' w6
  tell3 : ∀ v' w6, T5 v' w6 → Calls Tryz.prog 16 #[v'] w6 fun e w7 => e = .returned (.int .i64 (G : Int)) ∧ T6 w7
  done : ∀ w7, T6 w7 → ∃ be', FRep w7 X pf bf be' y.f ∧ (be' = be ∨ w.heap.size ≤ be') ∧ Only (FF pf bf be) w w7
theorem tail_chain (w w1 : World) (X : Nat → Prop) (pa pf bf be : Nat) (f : Fl) (patch : List UInt8) (n c : Nat) (A : Option Addr) (wr : World) (hl : patch.length = n) (hn : n ≤ 1000000) (hg : GV w1) (hz : ¬ AO pa pf bf be 0) (h1 : f.old.length ≤ 4096) (h2 : f.pages ≤ 64) (hE : f.events.length ≤ 1000000)
    (hb : Below pa w w1) (hpa : w.heap.size = pa) (hx : ∀ w', Only (AO pa pf bf be) w1 w' → Bytes w' A patch) {be1 : Nat} (hat : AAt w1 X pa pf bf be (AF.feed ⟨Ap.init, f⟩ patch).a (AF.feed ⟨Ap.init, f⟩ patch).f wr be1) :
    ∃ T1 T2 T3 T4 T5 T6, Tail w w1 X pa pf bf be (f.apply patch).x (f.apply patch).fault.num (f.apply patch).x.a.fault.num A n c wr T1 T2 T3 T4 T5 T6 := by
  obtain ⟨x, hxe⟩ : ∃ x, AF.feed ⟨Ap.init, f⟩ patch = x := ⟨_, rfl⟩
  have happ : f.apply patch = x.finish := by unfold Fl.apply; rw [hxe]
  have hS : Stt f f.reads x := by rw [← hxe]; exact (init_stt f h1 h2).feed _
  rw [hxe] at hat
  rw [happ]
  have hfa := finish_again x
  have hfin : Calls Tryz.prog 32 #[.pointer (some ⟨pa, 0, none⟩)] wr (FeTo wr X pa pf bf be1 x.finish.x x.finish.fault) := by
    by_cases hf : x.a.fault = .none
    · refine finish_ok wr X pa pf bf be1 x hat.rep ?_
      cases hS with
      | ok out h => have := h.evs_le; omega
      | bad e hf2 h => rw [hf] at hf2; split at hf2 <;> cases hf2
    · exact finish_bad wr X pa pf bf be1 x hat.rep hf
  generalize x.finish = r at hfa hfin ⊢
  have hgl : ∀ w' be' a' f', AAt w1 X pa pf bf be a' f' w' be' → GV w' := fun w' be' a' f' h => hg.only h.on hz
  refine ⟨fun v w2 => ∃ be2, AAt w1 X pa pf bf be r.x.a r.x.f w2 be2 ∧ FltV w2 (AF_ (PX pa X) pf bf be2) v r.fault,
    fun w3 => ∃ be3, AAt w1 X pa pf bf be r.x.a r.x.f w3 be3,
    fun v w4 => ∃ be4, AAt w1 X pa pf bf be r.x.a r.x.f w4 be4 ∧ FltV w4 (AF_ (PX pa X) pf bf be4) v r.x.a.fault,
    fun v v' w5 => ∃ be5 F, AAt w1 X pa pf bf be r.x.a r.x.f w5 be5 ∧ FltV w5 F v r.x.a.fault ∧ FltV w5 (AF_ (PX pa X) pf bf be5) v' r.x.a.fault,
    fun v' w6 => ∃ be6, AAt w1 X pa pf bf be r.x.a r.x.f w6 be6 ∧ FltV w6 (AF_ (PX pa X) pf bf be6) v' r.x.a.fault,
    fun w7 => ∃ be7, AAt w1 X pa pf bf be r.x.a r.x.f w7 be7, ?_, ?_, ?_, ?_, ?_, ?_, ?_, ?_⟩
  · refine hfin.mono ?_
    rintro e w2 ⟨be2, v, rfl, hA, hv⟩
    exact ⟨v, rfl, be2, hat.then_ hA, hv⟩
  · rintro v w2 ⟨be2, hA, hv⟩
    refine (tell_ok w2 (hgl _ _ _ _ hA) _ v _ hv).mono ?_
    rintro e w3 ⟨rfl, hb⟩
    exact ⟨rfl, be2, hA.below hb⟩
  · rintro w3 ⟨be3, hA⟩
    exact held_ok w3 X pa pf bf be3 _ _ hA.rep
  · rintro w3 ⟨be3, hA⟩
    refine (feed_done w3 X pa pf bf be3 r.x hA.rep hfa.1 A n c patch hl hn (hx w3 hA.on)).mono ?_
    rintro e w4 ⟨be4, v, rfl, hB, hv⟩
    exact ⟨v, rfl, be4, hA.then_ hB, hv⟩
  · rintro v w4 ⟨be4, hA, hv⟩
    have := finish_bad w4 X pa pf bf be4 r.x hA.rep hfa.1
    rw [fin_bad hfa.1] at this
    refine this.mono ?_
    rintro e w5 ⟨be5, v', rfl, hB, hv'⟩
    refine ⟨v', rfl, be5, AF_ (PX pa X) pf bf be4, hA.then_ hB, ?_, hv'⟩
    exact hv.only (hB.on.mono fun b _ q => by
      rcases q with q | q
      · exact .inl (.inl q)
      · exact .inr q) fun b _ q => q
  · rintro v v' w5 ⟨be5, F, hA, hv, hv'⟩
    refine (tell_ok w5 (hgl _ _ _ _ hA) _ v _ hv).mono ?_
    rintro e w6 ⟨rfl, hb⟩
    exact ⟨rfl, be5, hA.below hb, hv'.below hb⟩
  · rintro v' w6 ⟨be6, hA, hv'⟩
    refine (tell_ok w6 (hgl _ _ _ _ hA) _ v' _ hv').mono ?_
    rintro e w7 ⟨rfl, hb⟩
    exact ⟨rfl, be6, hA.below hb⟩
  · rintro w7 ⟨be7, hA⟩
    refine ⟨be7, hA.rep.fl.wider fun b _ q => .inr q, hA.bq.imp id fun q => Nat.le_trans hb.size q, ?_⟩
    refine ⟨Nat.le_trans hb.size hA.on.le, fun b hlt hn => ?_⟩
    rw [hA.on.keep b (Nat.lt_of_lt_of_le hlt hb.size) fun q => q.elim (fun e => by omega) hn]
    exact hb.block b (by omega)
end Go.Proofs.YtkmgcggoemlaaaaGreatDoor
end

section
/- The law's 'applied'. No condition. -/
set_option linter.unusedSimpArgs false
set_option linter.unusedVariables false
namespace Go.Proofs.YtkmgcggoemlaaaaGreatDoor
open Go.RowKit Go.Fwm

set_option maxRecDepth 100000 in
set_option maxHeartbeats 8000000 in
theorem applied_ok (w : World) (X : Nat → Prop) (pf bf be : Nat) (f : Fl) (h : FRep w X pf bf be f) (hX : ∀ b, X b → b < w.heap.size) (hng : ¬ X pf ∧ ¬ X bf ∧ ¬ X be) (hg : GV w) (hz : ¬ FF pf bf be 0) (hpg : f.pages ≤ 64) (hE : f.events.length ≤ 1000000) (hR : f.reads ≤ 100000000000)
    (A : Option Addr) (n c : Nat) (patch : List UInt8) (hl : patch.length = n) (hn : n ≤ 1000000) (hc : n ≤ c) (hcm : c ≤ maxLen) (hx : Bytes w A patch) (ha : Away (FF pf bf be) A)
    (C : Option Addr) (m d : Nat) (hm : m ≤ 1000000) (hy : Ints w C m) (hb : Away (FF pf bf be) C) :
    Calls Tryz.prog 19 #[.pointer (some ⟨pf, 0, none⟩), .slice A n c, .slice C m d] w fun e w' => ∃ held be', e = .returned (.tuple #[.int .i64 ((AF.feed ⟨Ap.init, f⟩ patch).a.fault.num : Int), .int .i64 ((f.apply patch).fault.num : Int), .bool held]) ∧
      FRep w' X pf bf be' (f.apply patch).x.f ∧ (be' = be ∨ w.heap.size ≤ be') ∧ Only (FF pf bf be) w w' := by
  have hnew := new_ok w X pf bf be f h hX hng
  have hold := h.old_le
  have hS0 := init_stt f hold hpg
  have hg0 := hg.lt
  go_enter Tryz.func19, Tryz.ntmps19
  go_wp2_with (first | (go_at_call 31; go_must (refine hnew.mono ?_; rintro e w1 ⟨rfl, hr1, hbl1⟩)) | (go_at_call 39; go_must (refine (held_ok w1 X w.heap.size pf bf be _ _ hr1).mono ?_; rintro e w' ⟨hv0, rfl, rfl⟩)))
  obtain ⟨pa, hpa⟩ : ∃ pa, w.heap.size = pa := ⟨_, rfl⟩
  have hA1 : AAt w' X pa pf bf be Ap.init f w' be := by rw [← hpa]; exact AAt.refl hr1
  have hbl : Below pa w w' := by rw [← hpa]; exact hbl1
  have hg1 := hg.below hbl1
  have hsz1 : pa < w'.heap.size := by obtain ⟨_, _, _, g1, _⟩ := hA1.rep.blk; exact g1.lt
  have hkeep : ∀ w2, Only (AO pa pf bf be) w' w2 → ∀ b, b < w.heap.size → ¬ FF pf bf be b → w2.heap[b]? = w.heap[b]? := fun w2 ho b hb hn =>
    (ho.keep b (Nat.lt_of_lt_of_le hb hbl1.size) fun q => q.elim (fun e => by omega) hn).trans (hbl1.block b hb)
  have hxs : ∀ w2, Only (AO pa pf bf be) w' w2 → Bytes w2 A patch := fun w2 ho => hx.keep fun a h1 h2 => hkeep w2 ho _ h2 (ha a h1)
  have hys : ∀ w2, Only (AO pa pf bf be) w' w2 → Ints w2 C m := fun w2 ho => hy.keep fun a h1 h2 => hkeep w2 ho _ h2 (hb a h1)
  have hz1 : ¬ AO pa pf bf be 0 := fun x => x.elim (fun e => by omega) hz
  have hL0 : Lp w' X pa pf bf be f patch 0 w' := ⟨be, hA1⟩
  rw [hpa]
  have HX := Lib.hid hxs; clear hxs hx
  have HY := Lib.hid hys; clear hys hy
  have HK := Lib.hid hkeep; clear hkeep ha hb
  have HG := Lib.hid hg1; clear hg1 hg
  have HL0 := Lib.hid hL0; clear hL0 hA1
  have HL := Lib.hid hl; clear hl
  have HBL := Lib.hid hbl; clear hbl hbl1 hr1 hnew h
  obtain ⟨w1, hw1⟩ : ∃ w1, w1 = w' := ⟨_, rfl⟩
  subst hw1
  go_loopw [10, 11, 12, 13] (fun fed held a i wr => ∃ (F k j : Nat) (hd : Bool), fed = .int .i64 F ∧ held = .bool hd ∧ a = .int .i64 k ∧ i = .int .i64 j ∧ k ≤ n ∧ (j ≤ m ∨ (j = m + 1 ∧ k = n)) ∧ F = (AF.feed ⟨Ap.init, f⟩ (patch.take k)).a.fault.num ∧ Lp w1 X pa pf bf be f patch k wr) (fun _ _ a i _ => (m - (intOf i).toNat) + (n - (intOf a).toNat))
  case atStart => exact ⟨0, 0, 0, _, rfl, rfl, rfl, rfl, Nat.zero_le _, .inl (Nat.zero_le _), rfl, HL0.out⟩
  case round =>
    obtain ⟨F, k, j, hd, rfl, rfl, rfl, rfl, hk, hj, hF, ⟨be1, hat1⟩⟩ := hrel
    have hch : ∀ L, k + L ≤ n → ∀ A0 c0, A0 = (if c = k then A else Option.map (fun x => x.add k) A) → ∃ g R2 R3 R4 R5 F', Chain w1 X pa pf bf be f patch k L c0 A0 wr g R2 R3 R4 R5 F' := fun L hL A0 c0 hA0 =>
      chunk_chain w1 X pa pf bf be f patch k L c0 A0 wr (by rw [HL.out]; exact hn) (by rw [HL.out]; exact hL) HG.out hz1 hold hpg hE hR (fun w2 ho => by rw [hA0]; exact slice_bytes (HX.out w2 ho) (by rw [HL.out]; exact hL) (by rw [HL.out]; exact hc)) hat1
    have hstick : ∀ L F', F' = (AF.feed ⟨Ap.init, f⟩ (patch.take (k + L))).a.fault.num → F ≠ 0 → F' = F := fun L F' h1 h2 => by
      rw [hF] at h2
      rw [h1, List.take_add, Flt.num_sticky h2, hF]
    have HCH := Lib.hid hch; clear hch
    have HST := Lib.hid hstick; clear hstick
    by_cases hjm : j < m
    · have hi2 := HY.out wr hat1.on
      obtain ⟨b8, o8, z, rfl, hz8, hzl⟩ := hi2 j hjm
      obtain ⟨q, hq, hq40⟩ : ∃ q : Nat, (IntKind.u64.wrap z).tmod 40 = (q : Int) ∧ q < 40 := by
        obtain ⟨Z, hZ, hZ0⟩ : ∃ Z : Int, IntKind.u64.wrap z = Z ∧ 0 ≤ Z := ⟨_, rfl, by unfold IntKind.wrap; simp [IntKind.signed, IntKind.bits]; omega⟩
        rw [hZ, Int.tmod_eq_emod_of_nonneg hZ0]
        exact ⟨(Z % 40).toNat, by omega, by omega⟩
      clear hi2 hF hat1
      by_cases hkn : k < n
      · have hck : ¬ (c = k) := by omega
        by_cases hqk : n - k < q
        · obtain ⟨g, R2, R3, R4, R5, F', hch⟩ := HCH.out (n - k) (by omega) (Option.map (fun x => x.add k) A) (c - k) (by rw [if_neg hck])
          have hi3 : (n : Int) - (k : Int) < (q : Int) := by omega
          have hnum := hch.num
          have hst := HST.out (n - k) F' hnum
          have HC := Lib.hid hch; clear hch
          have HN := Lib.hid hnum; clear hnum
          by_cases hF0 : F = 0
          · have hi0 : ((F : Int) == 0) = true := by simp; omega
            clear hst
            cases hd
            · go_wp2_with (first | (go_at_call 36; go_must (refine HC.out.roomy.mono ?_; rintro e w2 ⟨rfl, h2⟩)) | (go_at_call 33; go_must (refine (HC.out.feed _ h2).mono ?_; rintro e w3 ⟨v3, rfl, h3⟩)) | (go_at_call 37; go_must (refine (HC.out.still _ _ h3).mono ?_; rintro e w4 ⟨rfl, h4⟩)) | (go_at_call 16; go_must (refine (HC.out.tell _ _ h4).mono ?_; rintro e w5 ⟨rfl, h5⟩)) | (go_at_call 39; go_must (refine (HC.out.held _ h5).mono ?_; rintro e w6 ⟨z6, rfl, rfl⟩)))
              go_roundw
              case rel => exact ⟨F', k + (n - k), j + 1, _, rfl, rfl, by go_num, by go_num, by omega, .inl (by omega), HN.out, HC.out.fin _ h5⟩
              case measure => simp [intOf]; omega
            · go_wp2_with (first | (go_at_call 36; go_must (refine HC.out.roomy.mono ?_; rintro e w2 ⟨rfl, h2⟩)) | (go_at_call 33; go_must (refine (HC.out.feed _ h2).mono ?_; rintro e w3 ⟨v3, rfl, h3⟩)) | (go_at_call 37; go_must (refine (HC.out.still _ _ h3).mono ?_; rintro e w4 ⟨rfl, h4⟩)) | (go_at_call 16; go_must (refine (HC.out.tell _ _ h4).mono ?_; rintro e w5 ⟨rfl, h5⟩)) | (go_at_call 39; go_must (refine (HC.out.held _ h5).mono ?_; rintro e w6 ⟨z6, rfl, rfl⟩)))
              go_roundw
              case rel => exact ⟨F', k + (n - k), j + 1, _, rfl, rfl, by go_num, by go_num, by omega, .inl (by omega), HN.out, HC.out.fin _ h5⟩
              case measure => simp [intOf]; omega
          · have hi0 : ((F : Int) == 0) = false := by simp; omega
            obtain rfl : F' = F := hst hF0
            clear hst
            cases hd
            · go_wp2_with (first | (go_at_call 36; go_must (refine HC.out.roomy.mono ?_; rintro e w2 ⟨rfl, h2⟩)) | (go_at_call 33; go_must (refine (HC.out.feed _ h2).mono ?_; rintro e w3 ⟨v3, rfl, h3⟩)) | (go_at_call 37; go_must (refine (HC.out.still _ _ h3).mono ?_; rintro e w4 ⟨rfl, h4⟩)) | (go_at_call 16; go_must (refine (HC.out.tell _ _ h4).mono ?_; rintro e w5 ⟨rfl, h5⟩)) | (go_at_call 39; go_must (refine (HC.out.held _ h5).mono ?_; rintro e w6 ⟨z6, rfl, rfl⟩)))
              go_roundw
              case rel => exact ⟨F', k + (n - k), j + 1, _, rfl, rfl, by go_num, by go_num, by omega, .inl (by omega), HN.out, HC.out.fin _ h5⟩
              case measure => simp [intOf]; omega
            · go_wp2_with (first | (go_at_call 36; go_must (refine HC.out.roomy.mono ?_; rintro e w2 ⟨rfl, h2⟩)) | (go_at_call 33; go_must (refine (HC.out.feed _ h2).mono ?_; rintro e w3 ⟨v3, rfl, h3⟩)) | (go_at_call 37; go_must (refine (HC.out.still _ _ h3).mono ?_; rintro e w4 ⟨rfl, h4⟩)) | (go_at_call 16; go_must (refine (HC.out.tell _ _ h4).mono ?_; rintro e w5 ⟨rfl, h5⟩)) | (go_at_call 39; go_must (refine (HC.out.held _ h5).mono ?_; rintro e w6 ⟨z6, rfl, rfl⟩)))
              go_roundw
              case rel => exact ⟨F', k + (n - k), j + 1, _, rfl, rfl, by go_num, by go_num, by omega, .inl (by omega), HN.out, HC.out.fin _ h5⟩
              case measure => simp [intOf]; omega
        · obtain ⟨g, R2, R3, R4, R5, F', hch⟩ := HCH.out q (by omega) (Option.map (fun x => x.add k) A) (c - k) (by rw [if_neg hck])
          have hsl : ((k : Int) + (q : Int)).toNat - k = q := by omega
          have hi3 : ¬ ((n : Int) - (k : Int) < (q : Int)) := by omega
          have hnum := hch.num
          have hst := HST.out q F' hnum
          have HC := Lib.hid hch; clear hch
          have HN := Lib.hid hnum; clear hnum
          by_cases hF0 : F = 0
          · have hi0 : ((F : Int) == 0) = true := by simp; omega
            clear hst
            cases hd
            · go_wp2_with (first | (go_at_call 36; go_must (refine HC.out.roomy.mono ?_; rintro e w2 ⟨rfl, h2⟩)) | (go_at_call 33; go_must (refine (HC.out.feed _ h2).mono ?_; rintro e w3 ⟨v3, rfl, h3⟩)) | (go_at_call 37; go_must (refine (HC.out.still _ _ h3).mono ?_; rintro e w4 ⟨rfl, h4⟩)) | (go_at_call 16; go_must (refine (HC.out.tell _ _ h4).mono ?_; rintro e w5 ⟨rfl, h5⟩)) | (go_at_call 39; go_must (refine (HC.out.held _ h5).mono ?_; rintro e w6 ⟨z6, rfl, rfl⟩)))
              go_roundw
              case rel => exact ⟨F', k + q, j + 1, _, rfl, rfl, by go_num, by go_num, by omega, .inl (by omega), HN.out, HC.out.fin _ h5⟩
              case measure => simp [intOf]; omega
            · go_wp2_with (first | (go_at_call 36; go_must (refine HC.out.roomy.mono ?_; rintro e w2 ⟨rfl, h2⟩)) | (go_at_call 33; go_must (refine (HC.out.feed _ h2).mono ?_; rintro e w3 ⟨v3, rfl, h3⟩)) | (go_at_call 37; go_must (refine (HC.out.still _ _ h3).mono ?_; rintro e w4 ⟨rfl, h4⟩)) | (go_at_call 16; go_must (refine (HC.out.tell _ _ h4).mono ?_; rintro e w5 ⟨rfl, h5⟩)) | (go_at_call 39; go_must (refine (HC.out.held _ h5).mono ?_; rintro e w6 ⟨z6, rfl, rfl⟩)))
              go_roundw
              case rel => exact ⟨F', k + q, j + 1, _, rfl, rfl, by go_num, by go_num, by omega, .inl (by omega), HN.out, HC.out.fin _ h5⟩
              case measure => simp [intOf]; omega
          · have hi0 : ((F : Int) == 0) = false := by simp; omega
            obtain rfl : F' = F := hst hF0
            clear hst
            cases hd
            · go_wp2_with (first | (go_at_call 36; go_must (refine HC.out.roomy.mono ?_; rintro e w2 ⟨rfl, h2⟩)) | (go_at_call 33; go_must (refine (HC.out.feed _ h2).mono ?_; rintro e w3 ⟨v3, rfl, h3⟩)) | (go_at_call 37; go_must (refine (HC.out.still _ _ h3).mono ?_; rintro e w4 ⟨rfl, h4⟩)) | (go_at_call 16; go_must (refine (HC.out.tell _ _ h4).mono ?_; rintro e w5 ⟨rfl, h5⟩)) | (go_at_call 39; go_must (refine (HC.out.held _ h5).mono ?_; rintro e w6 ⟨z6, rfl, rfl⟩)))
              go_roundw
              case rel => exact ⟨F', k + q, j + 1, _, rfl, rfl, by go_num, by go_num, by omega, .inl (by omega), HN.out, HC.out.fin _ h5⟩
              case measure => simp [intOf]; omega
            · go_wp2_with (first | (go_at_call 36; go_must (refine HC.out.roomy.mono ?_; rintro e w2 ⟨rfl, h2⟩)) | (go_at_call 33; go_must (refine (HC.out.feed _ h2).mono ?_; rintro e w3 ⟨v3, rfl, h3⟩)) | (go_at_call 37; go_must (refine (HC.out.still _ _ h3).mono ?_; rintro e w4 ⟨rfl, h4⟩)) | (go_at_call 16; go_must (refine (HC.out.tell _ _ h4).mono ?_; rintro e w5 ⟨rfl, h5⟩)) | (go_at_call 39; go_must (refine (HC.out.held _ h5).mono ?_; rintro e w6 ⟨z6, rfl, rfl⟩)))
              go_roundw
              case rel => exact ⟨F', k + q, j + 1, _, rfl, rfl, by go_num, by go_num, by omega, .inl (by omega), HN.out, HC.out.fin _ h5⟩
              case measure => simp [intOf]; omega
      · obtain rfl : k = n := by omega
        by_cases hck : c = k
        · subst hck
          obtain ⟨g, R2, R3, R4, R5, F', hch⟩ := HCH.out 0 (by omega) A 0 (by rw [if_pos rfl])
          by_cases hq0 : 0 < q
          · have hi3 : (0 : Int) < (q : Int) := by omega
            have hnum := hch.num
            have hst := HST.out 0 F' hnum
            have HC := Lib.hid hch; clear hch
            have HN := Lib.hid hnum; clear hnum
            by_cases hF0 : F = 0
            · have hi0 : ((F : Int) == 0) = true := by simp; omega
              clear hst
              cases hd
              · go_wp2_with (first | (go_at_call 36; go_must (refine HC.out.roomy.mono ?_; rintro e w2 ⟨rfl, h2⟩)) | (go_at_call 33; go_must (refine (HC.out.feed _ h2).mono ?_; rintro e w3 ⟨v3, rfl, h3⟩)) | (go_at_call 37; go_must (refine (HC.out.still _ _ h3).mono ?_; rintro e w4 ⟨rfl, h4⟩)) | (go_at_call 16; go_must (refine (HC.out.tell _ _ h4).mono ?_; rintro e w5 ⟨rfl, h5⟩)) | (go_at_call 39; go_must (refine (HC.out.held _ h5).mono ?_; rintro e w6 ⟨z6, rfl, rfl⟩)))
                go_roundw
                case rel => exact ⟨F', c + 0, j + 1, _, rfl, rfl, by go_num, by go_num, by omega, .inl (by omega), HN.out, HC.out.fin _ h5⟩
                case measure => simp [intOf]; omega
              · go_wp2_with (first | (go_at_call 36; go_must (refine HC.out.roomy.mono ?_; rintro e w2 ⟨rfl, h2⟩)) | (go_at_call 33; go_must (refine (HC.out.feed _ h2).mono ?_; rintro e w3 ⟨v3, rfl, h3⟩)) | (go_at_call 37; go_must (refine (HC.out.still _ _ h3).mono ?_; rintro e w4 ⟨rfl, h4⟩)) | (go_at_call 16; go_must (refine (HC.out.tell _ _ h4).mono ?_; rintro e w5 ⟨rfl, h5⟩)) | (go_at_call 39; go_must (refine (HC.out.held _ h5).mono ?_; rintro e w6 ⟨z6, rfl, rfl⟩)))
                go_roundw
                case rel => exact ⟨F', c + 0, j + 1, _, rfl, rfl, by go_num, by go_num, by omega, .inl (by omega), HN.out, HC.out.fin _ h5⟩
                case measure => simp [intOf]; omega
            · have hi0 : ((F : Int) == 0) = false := by simp; omega
              obtain rfl : F' = F := hst hF0
              clear hst
              cases hd
              · go_wp2_with (first | (go_at_call 36; go_must (refine HC.out.roomy.mono ?_; rintro e w2 ⟨rfl, h2⟩)) | (go_at_call 33; go_must (refine (HC.out.feed _ h2).mono ?_; rintro e w3 ⟨v3, rfl, h3⟩)) | (go_at_call 37; go_must (refine (HC.out.still _ _ h3).mono ?_; rintro e w4 ⟨rfl, h4⟩)) | (go_at_call 16; go_must (refine (HC.out.tell _ _ h4).mono ?_; rintro e w5 ⟨rfl, h5⟩)) | (go_at_call 39; go_must (refine (HC.out.held _ h5).mono ?_; rintro e w6 ⟨z6, rfl, rfl⟩)))
                go_roundw
                case rel => exact ⟨F', c + 0, j + 1, _, rfl, rfl, by go_num, by go_num, by omega, .inl (by omega), HN.out, HC.out.fin _ h5⟩
                case measure => simp [intOf]; omega
              · go_wp2_with (first | (go_at_call 36; go_must (refine HC.out.roomy.mono ?_; rintro e w2 ⟨rfl, h2⟩)) | (go_at_call 33; go_must (refine (HC.out.feed _ h2).mono ?_; rintro e w3 ⟨v3, rfl, h3⟩)) | (go_at_call 37; go_must (refine (HC.out.still _ _ h3).mono ?_; rintro e w4 ⟨rfl, h4⟩)) | (go_at_call 16; go_must (refine (HC.out.tell _ _ h4).mono ?_; rintro e w5 ⟨rfl, h5⟩)) | (go_at_call 39; go_must (refine (HC.out.held _ h5).mono ?_; rintro e w6 ⟨z6, rfl, rfl⟩)))
                go_roundw
                case rel => exact ⟨F', c + 0, j + 1, _, rfl, rfl, by go_num, by go_num, by omega, .inl (by omega), HN.out, HC.out.fin _ h5⟩
                case measure => simp [intOf]; omega
          · obtain rfl : q = 0 := by omega
            have hnum := hch.num
            have hst := HST.out 0 F' hnum
            have HC := Lib.hid hch; clear hch
            have HN := Lib.hid hnum; clear hnum
            by_cases hF0 : F = 0
            · have hi0 : ((F : Int) == 0) = true := by simp; omega
              clear hst
              cases hd
              · go_wp2_with (first | (go_at_call 36; go_must (refine HC.out.roomy.mono ?_; rintro e w2 ⟨rfl, h2⟩)) | (go_at_call 33; go_must (refine (HC.out.feed _ h2).mono ?_; rintro e w3 ⟨v3, rfl, h3⟩)) | (go_at_call 37; go_must (refine (HC.out.still _ _ h3).mono ?_; rintro e w4 ⟨rfl, h4⟩)) | (go_at_call 16; go_must (refine (HC.out.tell _ _ h4).mono ?_; rintro e w5 ⟨rfl, h5⟩)) | (go_at_call 39; go_must (refine (HC.out.held _ h5).mono ?_; rintro e w6 ⟨z6, rfl, rfl⟩)))
                go_roundw
                case rel => exact ⟨F', c + 0, j + 1, _, rfl, rfl, by go_num, by go_num, by omega, .inl (by omega), HN.out, HC.out.fin _ h5⟩
                case measure => simp [intOf]; omega
              · go_wp2_with (first | (go_at_call 36; go_must (refine HC.out.roomy.mono ?_; rintro e w2 ⟨rfl, h2⟩)) | (go_at_call 33; go_must (refine (HC.out.feed _ h2).mono ?_; rintro e w3 ⟨v3, rfl, h3⟩)) | (go_at_call 37; go_must (refine (HC.out.still _ _ h3).mono ?_; rintro e w4 ⟨rfl, h4⟩)) | (go_at_call 16; go_must (refine (HC.out.tell _ _ h4).mono ?_; rintro e w5 ⟨rfl, h5⟩)) | (go_at_call 39; go_must (refine (HC.out.held _ h5).mono ?_; rintro e w6 ⟨z6, rfl, rfl⟩)))
                go_roundw
                case rel => exact ⟨F', c + 0, j + 1, _, rfl, rfl, by go_num, by go_num, by omega, .inl (by omega), HN.out, HC.out.fin _ h5⟩
                case measure => simp [intOf]; omega
            · have hi0 : ((F : Int) == 0) = false := by simp; omega
              obtain rfl : F' = F := hst hF0
              clear hst
              cases hd
              · go_wp2_with (first | (go_at_call 36; go_must (refine HC.out.roomy.mono ?_; rintro e w2 ⟨rfl, h2⟩)) | (go_at_call 33; go_must (refine (HC.out.feed _ h2).mono ?_; rintro e w3 ⟨v3, rfl, h3⟩)) | (go_at_call 37; go_must (refine (HC.out.still _ _ h3).mono ?_; rintro e w4 ⟨rfl, h4⟩)) | (go_at_call 16; go_must (refine (HC.out.tell _ _ h4).mono ?_; rintro e w5 ⟨rfl, h5⟩)) | (go_at_call 39; go_must (refine (HC.out.held _ h5).mono ?_; rintro e w6 ⟨z6, rfl, rfl⟩)))
                go_roundw
                case rel => exact ⟨F', c + 0, j + 1, _, rfl, rfl, by go_num, by go_num, by omega, .inl (by omega), HN.out, HC.out.fin _ h5⟩
                case measure => simp [intOf]; omega
              · go_wp2_with (first | (go_at_call 36; go_must (refine HC.out.roomy.mono ?_; rintro e w2 ⟨rfl, h2⟩)) | (go_at_call 33; go_must (refine (HC.out.feed _ h2).mono ?_; rintro e w3 ⟨v3, rfl, h3⟩)) | (go_at_call 37; go_must (refine (HC.out.still _ _ h3).mono ?_; rintro e w4 ⟨rfl, h4⟩)) | (go_at_call 16; go_must (refine (HC.out.tell _ _ h4).mono ?_; rintro e w5 ⟨rfl, h5⟩)) | (go_at_call 39; go_must (refine (HC.out.held _ h5).mono ?_; rintro e w6 ⟨z6, rfl, rfl⟩)))
                go_roundw
                case rel => exact ⟨F', c + 0, j + 1, _, rfl, rfl, by go_num, by go_num, by omega, .inl (by omega), HN.out, HC.out.fin _ h5⟩
                case measure => simp [intOf]; omega
        · obtain ⟨g, R2, R3, R4, R5, F', hch⟩ := HCH.out 0 (by omega) (Option.map (fun x => x.add k) A) (c - k) (by rw [if_neg hck])
          by_cases hq0 : 0 < q
          · have hi3 : (0 : Int) < (q : Int) := by omega
            have hnum := hch.num
            have hst := HST.out 0 F' hnum
            have HC := Lib.hid hch; clear hch
            have HN := Lib.hid hnum; clear hnum
            by_cases hF0 : F = 0
            · have hi0 : ((F : Int) == 0) = true := by simp; omega
              clear hst
              cases hd
              · go_wp2_with (first | (go_at_call 36; go_must (refine HC.out.roomy.mono ?_; rintro e w2 ⟨rfl, h2⟩)) | (go_at_call 33; go_must (refine (HC.out.feed _ h2).mono ?_; rintro e w3 ⟨v3, rfl, h3⟩)) | (go_at_call 37; go_must (refine (HC.out.still _ _ h3).mono ?_; rintro e w4 ⟨rfl, h4⟩)) | (go_at_call 16; go_must (refine (HC.out.tell _ _ h4).mono ?_; rintro e w5 ⟨rfl, h5⟩)) | (go_at_call 39; go_must (refine (HC.out.held _ h5).mono ?_; rintro e w6 ⟨z6, rfl, rfl⟩)))
                go_roundw
                case rel => exact ⟨F', k + 0, j + 1, _, rfl, rfl, by go_num, by go_num, by omega, .inl (by omega), HN.out, HC.out.fin _ h5⟩
                case measure => simp [intOf]; omega
              · go_wp2_with (first | (go_at_call 36; go_must (refine HC.out.roomy.mono ?_; rintro e w2 ⟨rfl, h2⟩)) | (go_at_call 33; go_must (refine (HC.out.feed _ h2).mono ?_; rintro e w3 ⟨v3, rfl, h3⟩)) | (go_at_call 37; go_must (refine (HC.out.still _ _ h3).mono ?_; rintro e w4 ⟨rfl, h4⟩)) | (go_at_call 16; go_must (refine (HC.out.tell _ _ h4).mono ?_; rintro e w5 ⟨rfl, h5⟩)) | (go_at_call 39; go_must (refine (HC.out.held _ h5).mono ?_; rintro e w6 ⟨z6, rfl, rfl⟩)))
                go_roundw
                case rel => exact ⟨F', k + 0, j + 1, _, rfl, rfl, by go_num, by go_num, by omega, .inl (by omega), HN.out, HC.out.fin _ h5⟩
                case measure => simp [intOf]; omega
            · have hi0 : ((F : Int) == 0) = false := by simp; omega
              obtain rfl : F' = F := hst hF0
              clear hst
              cases hd
              · go_wp2_with (first | (go_at_call 36; go_must (refine HC.out.roomy.mono ?_; rintro e w2 ⟨rfl, h2⟩)) | (go_at_call 33; go_must (refine (HC.out.feed _ h2).mono ?_; rintro e w3 ⟨v3, rfl, h3⟩)) | (go_at_call 37; go_must (refine (HC.out.still _ _ h3).mono ?_; rintro e w4 ⟨rfl, h4⟩)) | (go_at_call 16; go_must (refine (HC.out.tell _ _ h4).mono ?_; rintro e w5 ⟨rfl, h5⟩)) | (go_at_call 39; go_must (refine (HC.out.held _ h5).mono ?_; rintro e w6 ⟨z6, rfl, rfl⟩)))
                go_roundw
                case rel => exact ⟨F', k + 0, j + 1, _, rfl, rfl, by go_num, by go_num, by omega, .inl (by omega), HN.out, HC.out.fin _ h5⟩
                case measure => simp [intOf]; omega
              · go_wp2_with (first | (go_at_call 36; go_must (refine HC.out.roomy.mono ?_; rintro e w2 ⟨rfl, h2⟩)) | (go_at_call 33; go_must (refine (HC.out.feed _ h2).mono ?_; rintro e w3 ⟨v3, rfl, h3⟩)) | (go_at_call 37; go_must (refine (HC.out.still _ _ h3).mono ?_; rintro e w4 ⟨rfl, h4⟩)) | (go_at_call 16; go_must (refine (HC.out.tell _ _ h4).mono ?_; rintro e w5 ⟨rfl, h5⟩)) | (go_at_call 39; go_must (refine (HC.out.held _ h5).mono ?_; rintro e w6 ⟨z6, rfl, rfl⟩)))
                go_roundw
                case rel => exact ⟨F', k + 0, j + 1, _, rfl, rfl, by go_num, by go_num, by omega, .inl (by omega), HN.out, HC.out.fin _ h5⟩
                case measure => simp [intOf]; omega
          · obtain rfl : q = 0 := by omega
            have hnum := hch.num
            have hst := HST.out 0 F' hnum
            have HC := Lib.hid hch; clear hch
            have HN := Lib.hid hnum; clear hnum
            by_cases hF0 : F = 0
            · have hi0 : ((F : Int) == 0) = true := by simp; omega
              clear hst
              cases hd
              · go_wp2_with (first | (go_at_call 36; go_must (refine HC.out.roomy.mono ?_; rintro e w2 ⟨rfl, h2⟩)) | (go_at_call 33; go_must (refine (HC.out.feed _ h2).mono ?_; rintro e w3 ⟨v3, rfl, h3⟩)) | (go_at_call 37; go_must (refine (HC.out.still _ _ h3).mono ?_; rintro e w4 ⟨rfl, h4⟩)) | (go_at_call 16; go_must (refine (HC.out.tell _ _ h4).mono ?_; rintro e w5 ⟨rfl, h5⟩)) | (go_at_call 39; go_must (refine (HC.out.held _ h5).mono ?_; rintro e w6 ⟨z6, rfl, rfl⟩)))
                go_roundw
                case rel => exact ⟨F', k + 0, j + 1, _, rfl, rfl, by go_num, by go_num, by omega, .inl (by omega), HN.out, HC.out.fin _ h5⟩
                case measure => simp [intOf]; omega
              · go_wp2_with (first | (go_at_call 36; go_must (refine HC.out.roomy.mono ?_; rintro e w2 ⟨rfl, h2⟩)) | (go_at_call 33; go_must (refine (HC.out.feed _ h2).mono ?_; rintro e w3 ⟨v3, rfl, h3⟩)) | (go_at_call 37; go_must (refine (HC.out.still _ _ h3).mono ?_; rintro e w4 ⟨rfl, h4⟩)) | (go_at_call 16; go_must (refine (HC.out.tell _ _ h4).mono ?_; rintro e w5 ⟨rfl, h5⟩)) | (go_at_call 39; go_must (refine (HC.out.held _ h5).mono ?_; rintro e w6 ⟨z6, rfl, rfl⟩)))
                go_roundw
                case rel => exact ⟨F', k + 0, j + 1, _, rfl, rfl, by go_num, by go_num, by omega, .inl (by omega), HN.out, HC.out.fin _ h5⟩
                case measure => simp [intOf]; omega
            · have hi0 : ((F : Int) == 0) = false := by simp; omega
              obtain rfl : F' = F := hst hF0
              clear hst
              cases hd
              · go_wp2_with (first | (go_at_call 36; go_must (refine HC.out.roomy.mono ?_; rintro e w2 ⟨rfl, h2⟩)) | (go_at_call 33; go_must (refine (HC.out.feed _ h2).mono ?_; rintro e w3 ⟨v3, rfl, h3⟩)) | (go_at_call 37; go_must (refine (HC.out.still _ _ h3).mono ?_; rintro e w4 ⟨rfl, h4⟩)) | (go_at_call 16; go_must (refine (HC.out.tell _ _ h4).mono ?_; rintro e w5 ⟨rfl, h5⟩)) | (go_at_call 39; go_must (refine (HC.out.held _ h5).mono ?_; rintro e w6 ⟨z6, rfl, rfl⟩)))
                go_roundw
                case rel => exact ⟨F', k + 0, j + 1, _, rfl, rfl, by go_num, by go_num, by omega, .inl (by omega), HN.out, HC.out.fin _ h5⟩
                case measure => simp [intOf]; omega
              · go_wp2_with (first | (go_at_call 36; go_must (refine HC.out.roomy.mono ?_; rintro e w2 ⟨rfl, h2⟩)) | (go_at_call 33; go_must (refine (HC.out.feed _ h2).mono ?_; rintro e w3 ⟨v3, rfl, h3⟩)) | (go_at_call 37; go_must (refine (HC.out.still _ _ h3).mono ?_; rintro e w4 ⟨rfl, h4⟩)) | (go_at_call 16; go_must (refine (HC.out.tell _ _ h4).mono ?_; rintro e w5 ⟨rfl, h5⟩)) | (go_at_call 39; go_must (refine (HC.out.held _ h5).mono ?_; rintro e w6 ⟨z6, rfl, rfl⟩)))
                go_roundw
                case rel => exact ⟨F', k + 0, j + 1, _, rfl, rfl, by go_num, by go_num, by omega, .inl (by omega), HN.out, HC.out.fin _ h5⟩
                case measure => simp [intOf]; omega
    · by_cases hkn : k < n
      · have hck : ¬ (c = k) := by omega
        obtain ⟨g, R2, R3, R4, R5, F', hch⟩ := HCH.out (n - k) (by omega) (Option.map (fun x => x.add k) A) (c - k) (by rw [if_neg hck])
        clear hF hat1
        have hnum := hch.num
        have hst := HST.out (n - k) F' hnum
        have HC := Lib.hid hch; clear hch
        have HN := Lib.hid hnum; clear hnum
        by_cases hF0 : F = 0
        · have hi0 : ((F : Int) == 0) = true := by simp; omega
          clear hst
          cases hd
          · go_wp2_with (first | (go_at_call 36; go_must (refine HC.out.roomy.mono ?_; rintro e w2 ⟨rfl, h2⟩)) | (go_at_call 33; go_must (refine (HC.out.feed _ h2).mono ?_; rintro e w3 ⟨v3, rfl, h3⟩)) | (go_at_call 37; go_must (refine (HC.out.still _ _ h3).mono ?_; rintro e w4 ⟨rfl, h4⟩)) | (go_at_call 16; go_must (refine (HC.out.tell _ _ h4).mono ?_; rintro e w5 ⟨rfl, h5⟩)) | (go_at_call 39; go_must (refine (HC.out.held _ h5).mono ?_; rintro e w6 ⟨z6, rfl, rfl⟩)))
            go_roundw
            case rel => exact ⟨F', k + (n - k), j + 1, _, rfl, rfl, by go_num, by go_num, by omega, (by omega), HN.out, HC.out.fin _ h5⟩
            case measure => simp [intOf]; omega
          · go_wp2_with (first | (go_at_call 36; go_must (refine HC.out.roomy.mono ?_; rintro e w2 ⟨rfl, h2⟩)) | (go_at_call 33; go_must (refine (HC.out.feed _ h2).mono ?_; rintro e w3 ⟨v3, rfl, h3⟩)) | (go_at_call 37; go_must (refine (HC.out.still _ _ h3).mono ?_; rintro e w4 ⟨rfl, h4⟩)) | (go_at_call 16; go_must (refine (HC.out.tell _ _ h4).mono ?_; rintro e w5 ⟨rfl, h5⟩)) | (go_at_call 39; go_must (refine (HC.out.held _ h5).mono ?_; rintro e w6 ⟨z6, rfl, rfl⟩)))
            go_roundw
            case rel => exact ⟨F', k + (n - k), j + 1, _, rfl, rfl, by go_num, by go_num, by omega, (by omega), HN.out, HC.out.fin _ h5⟩
            case measure => simp [intOf]; omega
        · have hi0 : ((F : Int) == 0) = false := by simp; omega
          obtain rfl : F' = F := hst hF0
          clear hst
          cases hd
          · go_wp2_with (first | (go_at_call 36; go_must (refine HC.out.roomy.mono ?_; rintro e w2 ⟨rfl, h2⟩)) | (go_at_call 33; go_must (refine (HC.out.feed _ h2).mono ?_; rintro e w3 ⟨v3, rfl, h3⟩)) | (go_at_call 37; go_must (refine (HC.out.still _ _ h3).mono ?_; rintro e w4 ⟨rfl, h4⟩)) | (go_at_call 16; go_must (refine (HC.out.tell _ _ h4).mono ?_; rintro e w5 ⟨rfl, h5⟩)) | (go_at_call 39; go_must (refine (HC.out.held _ h5).mono ?_; rintro e w6 ⟨z6, rfl, rfl⟩)))
            go_roundw
            case rel => exact ⟨F', k + (n - k), j + 1, _, rfl, rfl, by go_num, by go_num, by omega, (by omega), HN.out, HC.out.fin _ h5⟩
            case measure => simp [intOf]; omega
          · go_wp2_with (first | (go_at_call 36; go_must (refine HC.out.roomy.mono ?_; rintro e w2 ⟨rfl, h2⟩)) | (go_at_call 33; go_must (refine (HC.out.feed _ h2).mono ?_; rintro e w3 ⟨v3, rfl, h3⟩)) | (go_at_call 37; go_must (refine (HC.out.still _ _ h3).mono ?_; rintro e w4 ⟨rfl, h4⟩)) | (go_at_call 16; go_must (refine (HC.out.tell _ _ h4).mono ?_; rintro e w5 ⟨rfl, h5⟩)) | (go_at_call 39; go_must (refine (HC.out.held _ h5).mono ?_; rintro e w6 ⟨z6, rfl, rfl⟩)))
            go_roundw
            case rel => exact ⟨F', k + (n - k), j + 1, _, rfl, rfl, by go_num, by go_num, by omega, (by omega), HN.out, HC.out.fin _ h5⟩
            case measure => simp [intOf]; omega
      · obtain rfl : k = n := by omega
        have htk : patch.take k = patch := List.take_of_length_le (by rw [HL.out]; exact Nat.le_refl _)
        rw [htk] at hF hat1
        obtain ⟨T1, T2, T3, T4, T5, T6, htail⟩ := tail_chain w w1 X pa pf bf be f patch k c A wr HL.out hn HG.out hz1 hold hpg hE HBL.out hpa HX.out hat1
        have hS : Stt f f.reads (AF.feed ⟨Ap.init, f⟩ patch) := (init_stt f hold hpg).feed _
        have hs1 := finish_stick (AF.feed ⟨Ap.init, f⟩ patch)
        obtain ⟨_, hs2, hs3⟩ := finish_again (AF.feed ⟨Ap.init, f⟩ patch)
        have hs4 := Stt.num0 hS
        have happ : f.apply patch = (AF.feed ⟨Ap.init, f⟩ patch).finish := rfl
        rw [← happ] at hs1 hs2 hs3
        obtain ⟨M, hM⟩ : ∃ M, (f.apply patch).fault.num = M := ⟨_, rfl⟩
        obtain ⟨Gn, hG⟩ : ∃ Gn, (f.apply patch).x.a.fault.num = Gn := ⟨_, rfl⟩
        rw [hM, hG] at htail
        rw [← hF] at hs1 hs4
        rw [hM] at hs1 hs2 hs3
        rw [hG] at hs2 hs3
        have hs5 : M = 0 → Gn = 9 := fun e => (hs3 e).elim id fun q => absurd (hs4 (by rcases Nat.eq_zero_or_pos F with h | h; exact h; have := hs1 (by omega); omega)) q.1
        have HT := Lib.hid htail; clear htail
        have HM := Lib.hid hM; clear hM hG hS
        have HF := Lib.hid hF; clear hF hs3 hs4 happ htk hat1
        by_cases hF0 : F = 0
        · have hi0 : ((F : Int) == 0) = true := by simp; omega
          by_cases hM0 : M = 0
          · have hi1 : ((M : Int) == 0) = true := by simp; omega
            obtain rfl : Gn = 9 := hs5 hM0
            clear hs1 hs2 hs5
            cases hd
            · go_wp2_with (first | (go_at_call 32; (first | (refine (HT.out.fin2 _ _ t3).mono ?_; rintro e w5 ⟨v5, rfl, t4⟩) | (refine HT.out.fin.mono ?_; rintro e w2 ⟨v2, rfl, t1⟩))) | (go_at_call 39; go_must (refine (HT.out.held _ t2).mono ?_; rintro e w6 ⟨z6, rfl, rfl⟩)) | (go_at_call 33; go_must (refine (HT.out.feed2 _ t2).mono ?_; rintro e w4 ⟨v4, rfl, t3⟩)) | (go_at_call 16; (first | (refine (HT.out.tell3 _ _ t5).mono ?_; rintro e w7 ⟨rfl, t6⟩) | (refine (HT.out.tell2 _ _ _ t4).mono ?_; rintro e w6 ⟨rfl, t5⟩) | (refine (HT.out.tell1 _ _ t1).mono ?_; rintro e w3 ⟨rfl, t2⟩))))
              go_ret3
              obtain ⟨be9, hr9, hq9, ho9⟩ := HT.out.done _ t6
              have e1 : (((AF.feed ⟨Ap.init, f⟩ patch).a.fault.num : Nat) : Int) = 0 := by rw [← HF.out]; omega
              have e2 : (((f.apply patch).fault.num : Nat) : Int) = 0 := by rw [HM.out]; omega
              rw [e1, e2]
              exact ⟨_, be9, rfl, hr9, hq9, ho9⟩
            · go_wp2_with (first | (go_at_call 32; (first | (refine (HT.out.fin2 _ _ t3).mono ?_; rintro e w5 ⟨v5, rfl, t4⟩) | (refine HT.out.fin.mono ?_; rintro e w2 ⟨v2, rfl, t1⟩))) | (go_at_call 39; go_must (refine (HT.out.held _ t2).mono ?_; rintro e w6 ⟨z6, rfl, rfl⟩)) | (go_at_call 33; go_must (refine (HT.out.feed2 _ t2).mono ?_; rintro e w4 ⟨v4, rfl, t3⟩)) | (go_at_call 16; (first | (refine (HT.out.tell3 _ _ t5).mono ?_; rintro e w7 ⟨rfl, t6⟩) | (refine (HT.out.tell2 _ _ _ t4).mono ?_; rintro e w6 ⟨rfl, t5⟩) | (refine (HT.out.tell1 _ _ t1).mono ?_; rintro e w3 ⟨rfl, t2⟩))))
              go_ret3
              obtain ⟨be9, hr9, hq9, ho9⟩ := HT.out.done _ t6
              have e1 : (((AF.feed ⟨Ap.init, f⟩ patch).a.fault.num : Nat) : Int) = 0 := by rw [← HF.out]; omega
              have e2 : (((f.apply patch).fault.num : Nat) : Int) = 0 := by rw [HM.out]; omega
              rw [e1, e2]
              exact ⟨_, be9, rfl, hr9, hq9, ho9⟩
          · have hi1 : ((M : Int) == 0) = false := by simp; omega
            obtain rfl : Gn = M := hs2 hM0
            clear hs1 hs2 hs5
            cases hd
            · go_wp2_with (first | (go_at_call 32; (first | (refine (HT.out.fin2 _ _ t3).mono ?_; rintro e w5 ⟨v5, rfl, t4⟩) | (refine HT.out.fin.mono ?_; rintro e w2 ⟨v2, rfl, t1⟩))) | (go_at_call 39; go_must (refine (HT.out.held _ t2).mono ?_; rintro e w6 ⟨z6, rfl, rfl⟩)) | (go_at_call 33; go_must (refine (HT.out.feed2 _ t2).mono ?_; rintro e w4 ⟨v4, rfl, t3⟩)) | (go_at_call 16; (first | (refine (HT.out.tell3 _ _ t5).mono ?_; rintro e w7 ⟨rfl, t6⟩) | (refine (HT.out.tell2 _ _ _ t4).mono ?_; rintro e w6 ⟨rfl, t5⟩) | (refine (HT.out.tell1 _ _ t1).mono ?_; rintro e w3 ⟨rfl, t2⟩))))
              go_ret3
              obtain ⟨be9, hr9, hq9, ho9⟩ := HT.out.done _ t6
              have e1 : (((AF.feed ⟨Ap.init, f⟩ patch).a.fault.num : Nat) : Int) = 0 := by rw [← HF.out]; omega
              have e2 : (((f.apply patch).fault.num : Nat) : Int) = (Gn : Int) := by rw [HM.out]
              rw [e1, e2]
              exact ⟨_, be9, rfl, hr9, hq9, ho9⟩
            · go_wp2_with (first | (go_at_call 32; (first | (refine (HT.out.fin2 _ _ t3).mono ?_; rintro e w5 ⟨v5, rfl, t4⟩) | (refine HT.out.fin.mono ?_; rintro e w2 ⟨v2, rfl, t1⟩))) | (go_at_call 39; go_must (refine (HT.out.held _ t2).mono ?_; rintro e w6 ⟨z6, rfl, rfl⟩)) | (go_at_call 33; go_must (refine (HT.out.feed2 _ t2).mono ?_; rintro e w4 ⟨v4, rfl, t3⟩)) | (go_at_call 16; (first | (refine (HT.out.tell3 _ _ t5).mono ?_; rintro e w7 ⟨rfl, t6⟩) | (refine (HT.out.tell2 _ _ _ t4).mono ?_; rintro e w6 ⟨rfl, t5⟩) | (refine (HT.out.tell1 _ _ t1).mono ?_; rintro e w3 ⟨rfl, t2⟩))))
              go_ret3
              obtain ⟨be9, hr9, hq9, ho9⟩ := HT.out.done _ t6
              have e1 : (((AF.feed ⟨Ap.init, f⟩ patch).a.fault.num : Nat) : Int) = 0 := by rw [← HF.out]; omega
              have e2 : (((f.apply patch).fault.num : Nat) : Int) = (Gn : Int) := by rw [HM.out]
              rw [e1, e2]
              exact ⟨_, be9, rfl, hr9, hq9, ho9⟩
        · have hi0 : ((F : Int) == 0) = false := by simp; omega
          obtain rfl : M = F := hs1 hF0
          obtain rfl : Gn = M := hs2 hF0
          clear hs1 hs2 hs5
          cases hd
          · go_wp2_with (first | (go_at_call 32; (first | (refine (HT.out.fin2 _ _ t3).mono ?_; rintro e w5 ⟨v5, rfl, t4⟩) | (refine HT.out.fin.mono ?_; rintro e w2 ⟨v2, rfl, t1⟩))) | (go_at_call 39; go_must (refine (HT.out.held _ t2).mono ?_; rintro e w6 ⟨z6, rfl, rfl⟩)) | (go_at_call 33; go_must (refine (HT.out.feed2 _ t2).mono ?_; rintro e w4 ⟨v4, rfl, t3⟩)) | (go_at_call 16; (first | (refine (HT.out.tell3 _ _ t5).mono ?_; rintro e w7 ⟨rfl, t6⟩) | (refine (HT.out.tell2 _ _ _ t4).mono ?_; rintro e w6 ⟨rfl, t5⟩) | (refine (HT.out.tell1 _ _ t1).mono ?_; rintro e w3 ⟨rfl, t2⟩))))
            go_ret3
            obtain ⟨be9, hr9, hq9, ho9⟩ := HT.out.done _ t6
            have e1 : (((AF.feed ⟨Ap.init, f⟩ patch).a.fault.num : Nat) : Int) = (Gn : Int) := by rw [← HF.out]
            have e2 : (((f.apply patch).fault.num : Nat) : Int) = (Gn : Int) := by rw [HM.out]
            rw [e1, e2]
            exact ⟨_, be9, rfl, hr9, hq9, ho9⟩
          · go_wp2_with (first | (go_at_call 32; (first | (refine (HT.out.fin2 _ _ t3).mono ?_; rintro e w5 ⟨v5, rfl, t4⟩) | (refine HT.out.fin.mono ?_; rintro e w2 ⟨v2, rfl, t1⟩))) | (go_at_call 39; go_must (refine (HT.out.held _ t2).mono ?_; rintro e w6 ⟨z6, rfl, rfl⟩)) | (go_at_call 33; go_must (refine (HT.out.feed2 _ t2).mono ?_; rintro e w4 ⟨v4, rfl, t3⟩)) | (go_at_call 16; (first | (refine (HT.out.tell3 _ _ t5).mono ?_; rintro e w7 ⟨rfl, t6⟩) | (refine (HT.out.tell2 _ _ _ t4).mono ?_; rintro e w6 ⟨rfl, t5⟩) | (refine (HT.out.tell1 _ _ t1).mono ?_; rintro e w3 ⟨rfl, t2⟩))))
            go_ret3
            obtain ⟨be9, hr9, hq9, ho9⟩ := HT.out.done _ t6
            have e1 : (((AF.feed ⟨Ap.init, f⟩ patch).a.fault.num : Nat) : Int) = (Gn : Int) := by rw [← HF.out]
            have e2 : (((f.apply patch).fault.num : Nat) : Int) = (Gn : Int) := by rw [HM.out]
            rw [e1, e2]
            exact ⟨_, be9, rfl, hr9, hq9, ho9⟩
end Go.Proofs.YtkmgcggoemlaaaaGreatDoor
end
