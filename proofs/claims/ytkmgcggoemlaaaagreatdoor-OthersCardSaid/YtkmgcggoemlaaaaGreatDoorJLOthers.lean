/-
  The law Others of package firmwarelaw returns true for every input: a patch for another image is refused; so is one whose image is too long for the slot.
  No condition: any two images, any bit, any bytes more, any pieces.
-/
import Derived.Test.YtkmgcggoemlaaaaGreatDoorJ12
import Derived.Test.YtkmgcggoemlaaaaGreatDoorJ20
import Derived.Test.YtkmgcggoemlaaaaGreatDoorJ25
import Derived.Test.YtkmgcggoemlaaaaGreatDoorCards
import Derived.Test.YtkmgcggoemlaaaaGreatDoorTie

section
/- The model: when the power is cut: a call answers so, or does what it does with power. No condition. -/
namespace Go.Fwm

/-- The same flash, whose power will not be cut. -/
def Fl.unw (f : Fl) : Fl := { f with wait := -1 }
theorem Fl.unw_cut (f : Fl) : f.unw.cut = f.unw := by unfold Fl.cut; rw [if_neg (by show ¬ (0 : Int) < -1; omega)]
theorem Fl.unw_cutB (f : Fl) : f.unw.cutB = false := rfl
theorem Fl.cut_unw (f : Fl) : f.cut.unw = f.unw := by unfold Fl.cut; split <;> rfl
/-- As with power, or: the power is cut. -/
def Sim (e e' : Option Nat) (P : Prop) : Prop := e = some 7 ∨ (e = e' ∧ P)
theorem Fl.erase_sim (f : Fl) (p : Nat) : Sim (f.erase p).err (f.unw.erase p).err ((f.unw.erase p).f = (f.erase p).f.unw) := by
  unfold Fl.erase
  rw [show f.unw.pages = f.pages from rfl]
  by_cases hp : p < f.pages
  · rw [if_pos hp, if_pos hp]
    cases hc : f.cutB with
    | true => exact .inl rfl
    | false =>
      refine .inr ⟨rfl, ?_⟩
      show ({ ({ f.unw with events := f.events ++ [(0, p)] } : Fl).cut with fresh := setFrom f.fresh p (fun _ _ => 255) (f.unw.tornN 64) } : Fl) = ({ ({ f with events := f.events ++ [(0, p)] } : Fl).cut with fresh := setFrom f.fresh p (fun _ _ => 255) (f.tornN 64) } : Fl).unw
      have h1 : f.unw.tornN 64 = f.tornN 64 := by unfold Fl.tornN; rw [hc]; rfl
      rw [h1]
      have h2 : ({ f.unw with events := f.events ++ [(0, p)] } : Fl).cut = ({ f with events := f.events ++ [(0, p)] } : Fl).cut.unw := by
        rw [Fl.cut_unw]; exact Fl.unw_cut { f with events := f.events ++ [(0, p)] }
      rw [h2]; rfl
  · rw [if_neg hp, if_neg hp]
    exact .inr ⟨rfl, rfl⟩
theorem Fl.program_sim (f : Fl) (p : Nat) (b : List UInt8) : Sim (f.program p b).err (f.unw.program p b).err ((f.unw.program p b).f = (f.program p b).f.unw) := by
  unfold Fl.program
  rw [show f.unw.pages = f.pages from rfl]
  by_cases hp : p < f.pages
  · rw [if_pos hp, if_pos hp]
    cases hc : f.cutB with
    | true => exact .inl rfl
    | false =>
      refine .inr ⟨rfl, ?_⟩
      show ({ ({ f.unw with events := f.events ++ [(1, p)] } : Fl).cut with fresh := setFrom f.fresh p (fun i x => x &&& b.getD i 0) (f.unw.tornN b.length) } : Fl) = ({ ({ f with events := f.events ++ [(1, p)] } : Fl).cut with fresh := setFrom f.fresh p (fun i x => x &&& b.getD i 0) (f.tornN b.length) } : Fl).unw
      have h1 : f.unw.tornN b.length = f.tornN b.length := by unfold Fl.tornN; rw [hc]; rfl
      rw [h1]
      have h2 : ({ f.unw with events := f.events ++ [(1, p)] } : Fl).cut = ({ f with events := f.events ++ [(1, p)] } : Fl).cut.unw := by
        rw [Fl.cut_unw]; exact Fl.unw_cut { f with events := f.events ++ [(1, p)] }
      rw [h2]; rfl
  · rw [if_neg hp, if_neg hp]
    exact .inr ⟨rfl, rfl⟩
theorem Fl.commit_sim (f : Fl) (n : Nat) : Sim (f.commit n).err (f.unw.commit n).err ((f.unw.commit n).f = (f.commit n).f.unw) := by
  unfold Fl.commit
  rw [show f.unw.fresh = f.fresh from rfl, Fl.unw_cutB]
  split
  · exact .inr ⟨rfl, rfl⟩
  · cases hc : f.cutB with
    | true => exact .inl rfl
    | false =>
      refine .inr ⟨rfl, ?_⟩
      show ({ f.unw.cut with events := f.events ++ [(2, n)], length := n, committed := true } : Fl) = ({ f.cut with events := f.events ++ [(2, n)], length := n, committed := true } : Fl).unw
      rw [Fl.unw_cut, ← Fl.cut_unw f]; rfl
theorem Fl.read_sim (f : Fl) (i n : Nat) : Sim (f.read i n).err (f.unw.read i n).err ((f.unw.read i n).f = (f.read i n).f.unw ∧ (f.unw.read i n).buf = (f.read i n).buf) := by
  unfold Fl.read
  rw [Fl.unw_cutB]
  cases hc : f.cutB with
  | true => exact .inl rfl
  | false =>
    refine .inr ⟨rfl, ?_, rfl⟩
    show ({ f.unw.cut with reads := f.reads + 1, longest := max f.longest n } : Fl) = ({ f.cut with reads := f.reads + 1, longest := max f.longest n } : Fl).unw
    rw [Fl.unw_cut, ← Fl.cut_unw f]; rfl
/-- Of a call on an applier. -/
def ASim (r r' : AR) : Prop := Sim r.err r'.err (r'.a = r.a ∧ r'.f = r.f.unw)
theorem Ap.read_sim (a : Ap) (f : Fl) (i n : Nat) : ASim (a.read f i n) (a.read f.unw i n) := by
  unfold Ap.read ASim
  rcases Fl.read_sim f i (min n 64) with h | ⟨h1, h2, h3⟩
  · left; simp only [h]
  · right
    simp only [h1, h2, h3]
    exact ⟨trivial, trivial, trivial⟩
theorem Ap.write_sim (a : Ap) (f : Fl) (p n : Nat) : ASim (a.write f p n) (a.write f.unw p n) := by
  unfold Ap.write ASim
  rcases Fl.erase_sim f p with h | ⟨h1, h2⟩
  · left; simp only [h]
  · simp only [h1, h2]
    cases he : (f.unw.erase p).err with
    | some e => right; exact ⟨rfl, rfl, rfl⟩
    | none =>
      simp only
      rcases Fl.program_sim (f.erase p).f p (a.page.take n) with q | ⟨q1, q2⟩
      · exact .inl q
      · exact .inr ⟨q1, by trivial, q2⟩
theorem ASim.same (a : Ap) (f : Fl) (e : Option Nat) : ASim { err := e, a, f } { err := e, a, f := f.unw } := .inr ⟨rfl, rfl, rfl⟩
theorem Ap.put_sim (a : Ap) (f : Fl) (b : UInt8) : ASim (a.put f b) (a.put f.unw b) := by
  unfold Ap.put
  simp only
  split
  · exact Ap.write_sim _ _ _ _
  · exact ASim.same _ _ _
theorem Ap.flush_sim (a : Ap) (f : Fl) : ASim (a.flush f) (a.flush f.unw) := by
  unfold Ap.flush
  split
  · exact Ap.write_sim _ _ _ _
  · exact ASim.same _ _ _
theorem Ap.puts_sim (l : List UInt8) : ∀ (a : Ap) (f : Fl), ASim (a.puts f l) (a.puts f.unw l) := by
  induction l with
  | nil => intro a f; exact ASim.same _ _ _
  | cons b l ih =>
    intro a f
    unfold Ap.puts
    rcases Ap.put_sim a f b with h | ⟨h1, h2, h3⟩
    · simp only [h]; exact .inl rfl
    · simp only [h1, h2, h3]
      cases he : (a.put f.unw b).err with
      | some e => exact .inr ⟨rfl, rfl, rfl⟩
      | none => exact ih _ _
theorem Ap.copyL_sim : ∀ (k n : Nat) (a : Ap) (f : Fl) (i : Nat), ASim (a.copyL f i k n) (a.copyL f.unw i k n)
  | 0, n, a, f, i => by unfold Ap.copyL; exact ASim.same _ _ _
  | k + 1, n, a, f, i => by
    unfold Ap.copyL
    split
    · exact ASim.same _ _ _
    · rcases Ap.read_sim a f i n with h | ⟨h1, h2, h3⟩
      · simp only [h]; exact .inl rfl
      · simp only [h1, h2, h3]
        cases he : (a.read f.unw i n).err with
        | some e => exact .inr ⟨rfl, rfl, rfl⟩
        | none =>
          simp only
          rcases Ap.puts_sim (a.read f i n).a.buf (a.read f i n).a (a.read f i n).f with q | ⟨q1, q2, q3⟩
          · simp only [q]; exact .inl rfl
          · simp only [q1, q2, q3]
            cases hp : ((a.read f i n).a.puts (a.read f i n).f.unw (a.read f i n).a.buf).err with
            | some e => exact .inr ⟨rfl, rfl, rfl⟩
            | none => exact Ap.copyL_sim k _ _ _ _
theorem Ap.copy_sim (a : Ap) (f : Fl) (i n : Nat) : ASim (a.copy f i n) (a.copy f.unw i n) := by
  unfold Ap.copy
  split
  · exact ASim.same _ _ _
  · exact Ap.copyL_sim _ _ _ _ _
def SSim (r r' : SumR) : Prop := Sim r.err r'.err (r'.a = r.a ∧ r'.f = r.f.unw ∧ r'.got = r.got)
theorem Ap.sumOld_sim : ∀ (k : Nat) (a : Ap) (f : Fl) (g i : Nat), SSim (a.sumOld f g k i) (a.sumOld f.unw g k i)
  | 0, a, f, g, i => by unfold Ap.sumOld; exact .inr ⟨rfl, rfl, rfl, rfl⟩
  | k + 1, a, f, g, i => by
    unfold Ap.sumOld
    split
    · exact .inr ⟨rfl, rfl, rfl, rfl⟩
    · rcases Ap.read_sim a f i (a.size - i) with h | ⟨h1, h2, h3⟩
      · simp only [h]; exact .inl rfl
      · simp only [h1, h2, h3]
        cases he : (a.read f.unw i (a.size - i)).err with
        | some e => exact .inr ⟨rfl, rfl, rfl, rfl⟩
        | none => exact Ap.sumOld_sim k _ _ _ _
def RSim (r r' : R) : Prop := Sim r.err r'.err (r'.a = r.a ∧ r'.f = r.f.unw ∧ r'.st = r.st)
theorem Ap.more_sim (a : Ap) (f : Fl) : RSim (a.more f) (a.more f.unw) := by
  unfold Ap.more
  split
  · exact .inr ⟨rfl, rfl, rfl, rfl⟩
  · rcases Ap.flush_sim a f with h | ⟨h1, h2, h3⟩
    · exact .inl h
    · exact .inr ⟨h1, h2, h3, rfl⟩
theorem RSim.same (a : Ap) (f : Fl) (e : Option Nat) (s : St) : RSim { err := e, st := s, a, f } { err := e, st := s, a, f := f.unw } := .inr ⟨rfl, rfl, rfl, rfl⟩
theorem Ap.stepB_sim (a : Ap) (f : Fl) (b : UInt8) : RSim (a.stepB f b) (a.stepB f.unw b) := by
  unfold Ap.stepB
  cases a.st with
  | oldSize => simp only; split <;> exact RSim.same _ _ _ _
  | oldSum =>
    simp only
    split
    · rw [show f.unw.old = f.old from rfl]
      split
      · exact RSim.same _ _ _ _
      · rcases Ap.sumOld_sim (((a.addSum b).fixed b).a.size + 1) ((a.addSum b).fixed b).a f 0 0 with h | ⟨h1, h2, h3, h4⟩
        · simp only [h]; exact .inl rfl
        · simp only [h1, h2, h3, h4]
          cases he : (((a.addSum b).fixed b).a.sumOld f.unw 0 (((a.addSum b).fixed b).a.size + 1) 0).err with
          | some e => exact .inr ⟨rfl, rfl, rfl, rfl⟩
          | none => simp only; split <;> exact RSim.same _ _ _ _
    · exact RSim.same _ _ _ _
  | newSize =>
    simp only
    split
    · rw [show f.unw.pages = f.pages from rfl]
      split
      · exact RSim.same _ _ _ _
      · exact Ap.more_sim _ _
    · exact RSim.same _ _ _ _
  | step => simp only; split <;> exact RSim.same _ _ _ _
  | counted =>
    simp only
    split
    · split
      · exact RSim.same _ _ _ _
      · split
        · exact RSim.same _ _ _ _
        · split
          · exact RSim.same _ _ _ _
          · rcases Ap.copy_sim { (a.number b).a with count := (a.number b).a.value } f (a.number b).a.made (a.number b).a.value with h | ⟨h1, h2, h3⟩
            · exact .inl h
            · exact .inr ⟨h1, h2, h3, rfl⟩
    · exact RSim.same _ _ _ _
  | own =>
    simp only
    rcases Ap.put_sim (a.addSum b) f b with h | ⟨h1, h2, h3⟩
    · simp only [h]; exact .inl rfl
    · simp only [h1, h2, h3]
      cases he : ((a.addSum b).put f.unw b).err with
      | some e => exact .inr ⟨rfl, rfl, rfl, rfl⟩
      | none =>
        simp only
        split
        · exact RSim.same _ _ _ _
        · exact Ap.more_sim _ _
  | place =>
    simp only
    split
    · rcases Ap.copy_sim (a.number b).a f (a.number b).a.value (a.number b).a.count with h | ⟨h1, h2, h3⟩
      · simp only [h]; exact .inl rfl
      · simp only [h1, h2, h3]
        cases he : ((a.number b).a.copy f.unw (a.number b).a.value (a.number b).a.count).err with
        | some e => exact .inr ⟨rfl, rfl, rfl, rfl⟩
        | none => exact Ap.more_sim _ _
    · exact RSim.same _ _ _ _
  | beside =>
    simp only
    split
    · exact RSim.same _ _ _ _
    · rcases Ap.put_sim (a.addSum b) f b with h | ⟨h1, h2, h3⟩
      · simp only [h]; exact .inl rfl
      · simp only [h1, h2, h3]
        cases he : ((a.addSum b).put f.unw b).err with
        | some e => exact .inr ⟨rfl, rfl, rfl, rfl⟩
        | none => exact Ap.more_sim _ _
  | fin => simp only; split <;> first | exact RSim.same _ _ _ _ | (split <;> exact RSim.same _ _ _ _)
  | over => exact RSim.same _ _ _ _
/-- Behind bytes: the power was cut; or all is as with power. -/
def FSim (x y : AF) : Prop := x.a.fault = .errno 7 ∨ (y.a = x.a ∧ y.f = x.f.unw)
theorem AF.byte_sim {x y : AF} (h : FSim x y) (b : UInt8) : FSim (x.byte b) (y.byte b) := by
  rcases h with h | ⟨h1, h2⟩
  · rw [byte_bad (by rw [h]; simp)]; exact .inl h
  · unfold AF.byte
    rw [h1, h2]
    by_cases hf : x.a.fault ≠ .none
    · rw [if_pos hf, if_pos hf]; exact .inr ⟨h1, h2⟩
    · rw [if_neg hf, if_neg hf]
      rcases Ap.stepB_sim x.a x.f b with q | ⟨q1, q2, q3, q4⟩
      · simp only [q]; exact .inl rfl
      · simp only [q1, q2, q3, q4]
        cases (x.a.stepB x.f.unw b).err with
        | some e => exact .inr ⟨rfl, rfl⟩
        | none => exact .inr ⟨rfl, rfl⟩
theorem AF.feed_sim (l : List UInt8) : ∀ {x y : AF}, FSim x y → FSim (x.feed l) (y.feed l) := by
  induction l with
  | nil => intro x y h; exact h
  | cons b l ih => intro x y h; exact ih (AF.byte_sim h b)
/-- All of a patch: the power was cut; or all is as with power. -/
theorem apply_sim (f : Fl) (l : List UInt8) : (f.apply l).fault = .errno 7 ∨ ((f.unw.apply l).fault = (f.apply l).fault ∧ (f.unw.apply l).x.a = (f.apply l).x.a ∧ (f.unw.apply l).x.f = (f.apply l).x.f.unw) := by
  have h := AF.feed_sim l (x := { a := Ap.init, f }) (y := { a := Ap.init, f := f.unw }) (.inr ⟨rfl, rfl⟩)
  unfold Fl.apply
  generalize AF.feed { a := Ap.init, f } l = x at h
  generalize AF.feed { a := Ap.init, f := f.unw } l = y at h
  rcases h with h | ⟨h1, h2⟩
  · left; rw [fin_bad (by rw [h]; simp)]; exact h
  · unfold AF.finish
    rw [h1, h2]
    by_cases hf : x.a.fault ≠ .none
    · rw [if_pos hf, if_pos hf]; exact .inr ⟨rfl, h1, h2⟩
    · rw [if_neg hf, if_neg hf]
      split
      · exact .inr ⟨rfl, rfl, rfl⟩
      · rcases Fl.commit_sim x.f x.a.length with q | ⟨q1, q2⟩
        · left; simp only [q]
        · simp only [q1, q2]
          cases (x.f.unw.commit x.a.length).err with
          | some e => exact .inr ⟨rfl, rfl, rfl⟩
          | none => exact .inr ⟨rfl, rfl, rfl⟩
end Go.Fwm
end

section
/- The model: what is done to the new slot, whatever is fed; a patch that is right, when the power may be cut. No condition. -/
namespace Go.Fwm

/-- It is committed, or not. -/
inductive AllS (f : Fl) (y : FinR) : Prop
  | done (n : Nat) (hf : y.fault = .none) (h : FI f (2 * ((n + 63) / 64)) { y.x.f with events := f.events ++ evs (2 * ((n + 63) / 64)), committed := f.committed, length := f.length }) (hc : y.x.f.committed = true) (hl : y.x.f.length = n)
      (he : y.x.f.events = f.events ++ evs (2 * ((n + 63) / 64)) ++ [(2, n)]) (hr : y.x.f.reads ≤ f.reads + 8192)
  | not (j : Nat) (hf : y.fault ≠ .none) (h : FI f j y.x.f) (hr : y.x.f.reads ≤ f.reads + 8192)
theorem Inv.reads {f0 f : Fl} {R0 : Nat} {out : List UInt8} {a : Ap} (h : Inv f0 R0 out a f) : f.reads ≤ R0 + 8192 := by
  have h1 := h.rd
  have h2 := h.ml
  have h3 := h.lp
  have h4 := h.pg
  split at h1 <;> omega
theorem apply_all (f : Fl) (h1 : f.old.length ≤ 4096) (h2 : f.pages ≤ 64) (l : List UInt8) : AllS f (f.apply l) := by
  cases ((init_stt f h1 h2).feed l).finish with
  | done out h hs hf ha hfl hw =>
    have hD := (h.done (by rw [hs]; rfl)).2
    have hc := hD.fi.cut
    have hm : (AF.feed { a := Ap.init, f } l).a.made = out.length := hD.made
    obtain ⟨c1, c2, c3, c4, c5, c6, c7, c8⟩ := Fl.cut_keep (AF.feed { a := Ap.init, f } l).f
    rw [hm] at hc
    have he : (AF.feed { a := Ap.init, f } l).f.events = f.events ++ evs (2 * ((out.length + 63) / 64)) := by rw [← hm]; exact hD.fi.ev
    refine .done out.length hf ?_ ?_ ?_ ?_ ?_
    · show FI f _ { (AF.finish _).x.f with events := _, committed := _, length := _ }
      rw [hfl]
      exact ⟨hc.old, hc.fresh, rfl, rfl, hc.torn, rfl, hc.longest, hc.wait⟩
    · show (AF.finish _).x.f.committed = _; rw [hfl]
    · show (AF.finish _).x.f.length = _; rw [hfl]
    · show (AF.finish _).x.f.events = _; rw [hfl]; show (AF.feed { a := Ap.init, f } l).f.events ++ _ = _; rw [he]
    · show (AF.finish _).x.f.reads ≤ _; rw [hfl]; show (Fl.cut _).reads ≤ _; rw [c4]; exact h.reads
  | short out h hs hf ha hfl =>
    obtain ⟨j, hj⟩ := h.fi
    refine .not j ?_ ?_ ?_
    · show (AF.finish _).fault ≠ _; rw [hf]; simp
    · show FI f j (AF.finish _).x.f; rw [hfl]; exact hj
    · show (AF.finish _).x.f.reads ≤ _; rw [hfl]; exact h.reads
  | pow out h hw hw0 hf ha hfl =>
    obtain ⟨j, hj⟩ := h.fi
    refine .not j ?_ ?_ ?_
    · show (AF.finish _).fault ≠ _; rw [hf]; simp
    · show FI f j (AF.finish _).x.f; rw [hfl]; exact hj
    · show (AF.finish _).x.f.reads ≤ _; rw [hfl]; exact h.reads
  | bad e hx h hf hy =>
    obtain ⟨j, hj⟩ := h.fi
    refine .not j ?_ ?_ ?_
    · show (AF.finish _).fault ≠ _; rw [hf, hx]; split <;> simp
    · show FI f j (AF.finish _).x.f; rw [hy]; exact hj
    · show (AF.finish _).x.f.reads ≤ _; rw [hy]; exact h.rd
/-- A patch that is right: the power was cut; or the new image lies there. -/
inductive PowS (f : Fl) (old new : List UInt8) (y : FinR) : Prop
  | cut (j : Nat) (hf : y.fault = .errno 7) (h : FI f j y.x.f) (hr : y.x.f.reads ≤ f.reads + 8192)
  | good (hf : y.fault = .none) (hc : y.x.f.committed = true) (hl : y.x.f.length = new.length) (hn : y.x.f.fresh.take new.length = new) (ho : y.x.f.old = old) (hfr : y.x.f.fresh.length = f.fresh.length)
      (he : y.x.f.events = f.events ++ evs (2 * ((new.length + 63) / 64)) ++ [(2, new.length)]) (hr : y.x.f.reads ≤ f.reads + 8192)
theorem patch_pow (f : Fl) (old new : List UInt8) (ho : old.length ≤ 4096) (hf : f.old = old) (hp : f.pages ≤ 64) (hn : new.length ≤ f.pages * 64) : PowS f old new (f.apply (patchG (lgOf old) old new)) := by
  have hall := apply_all f (by rw [hf]; exact ho) hp (patchG (lgOf old) old new)
  have hrd : (f.apply (patchG (lgOf old) old new)).x.f.reads ≤ f.reads + 8192 := by cases hall <;> assumption
  rcases apply_sim f (patchG (lgOf old) old new) with h | ⟨h1, h2, h3⟩
  · cases hall with
    | done n hf' => rw [h] at hf'; cases hf'
    | not j hf' hj => exact .cut j h hj hrd
  · have h := patch_applied f.unw (by show (-1 : Int) < 0; omega) (by show f.old.length ≤ 4096; rw [hf]; exact ho) hp new (steps (lgOf old) old new) (by show Leads f.old new [] _; rw [hf]; exact steps_leads (lgOf_ok old) new) hn
    have e : f.unw.old = old := hf
    rw [e] at h
    obtain ⟨g1, g2, g3, g4, g5, g6, g7, g8⟩ := h
    have h1 : (f.unw.apply (patchOf old new.length (steps (lgOf old) old new))).fault = _ := h1
    have h3 : (f.unw.apply (patchOf old new.length (steps (lgOf old) old new))).x.f = _ := h3
    rw [h3] at g2 g3 g4 g5 g6 g7
    exact .good (h1.symm.trans g1) g2 g3 g4 g5 g6 g7 hrd
end Go.Fwm
end

section
/- The model: a patch for another image; one whose image is too long for the slot. No condition. -/
namespace Go.Fwm
theorem headOf_app (old : List UInt8) (n : Nat) (l : List Stp) : ∃ r, patchOf old n l = num old.length ++ be32 (sumAdd 0 old) ++ (num n ++ r) ∧ patchOf old n l = headOf old n ++ r := by
  refine ⟨encs l ++ be32 (sumAdd 0 (bodyOf old n l)), ?_, ?_⟩ <;> simp [patchOf, bodyOf, headOf]
theorem other_num (f : Fl) (hw : f.wait < 0) (h1 : f.old.length ≤ 4096) (h2 : f.pages ≤ 64) (hc : f.committed = false) (old next : List UInt8) (hn : old.length ≤ 4096) (hne : f.old.length ≠ old.length ∨ sumAdd 0 f.old ≠ sumAdd 0 old) :
    (f.apply (patchG (lgOf old) old next)).fault.num = 3 ∧ (f.apply (patchG (lgOf old) old next)).x.f.committed = false := by
  obtain ⟨r, h, _⟩ := headOf_app old next.length (steps (lgOf old) old next)
  have hq : patchG (lgOf old) old next = _ := h
  rw [hq]
  obtain ⟨q1, q2⟩ := other_refused f hw h1 h2 old hn hne (num next.length ++ r)
  exact ⟨by rw [q1]; rfl, q2.trans hc⟩
theorem size_num (f : Fl) (hw : f.wait < 0) (h1 : f.old.length ≤ 4096) (h2 : f.pages ≤ 64) (hc : f.committed = false) (next : List UInt8) (hn : next.length ≤ 4096) (hbig : f.pages * 64 < next.length) :
    (f.apply (patchG (lgOf f.old) f.old next)).fault.num = 4 ∧ (f.apply (patchG (lgOf f.old) f.old next)).x.f.committed = false := by
  obtain ⟨r, _, h⟩ := headOf_app f.old next.length (steps (lgOf f.old) f.old next)
  have hq : patchG (lgOf f.old) f.old next = _ := h
  rw [hq]
  obtain ⟨q1, q2⟩ := size_refused f hw h1 h2 next.length hn hbig r
  exact ⟨by rw [q1]; rfl, q2.trans hc⟩
theorem sum_set (old : List UInt8) (q : Nat) (hq : q < old.length) (y : UInt8) (hy : old[q] ≠ y) : sumAdd 0 (old.set q y) ≠ sumAdd 0 old := by
  intro h
  have h1 : old = old.take q ++ old[q] :: old.drop (q + 1) := by simp
  have h2 : old.set q y = old.take q ++ y :: old.drop (q + 1) := List.set_eq_take_append_cons_drop .. |>.trans (by rw [if_pos hq])
  have e : sumAdd 0 (old.take q ++ y :: old.drop (q + 1)) = sumAdd 0 (old.take q ++ old[q] :: old.drop (q + 1)) := by rw [← h1, ← h2]; exact h
  exact hy (sum_one 0 _ _ _ _ e).symm
end Go.Fwm
end

section
/- Bytes laid anew: a row of zeros that is filled; a flash of an image that lies beside the arguments. No condition. -/
set_option linter.unusedSimpArgs false
set_option linter.unusedVariables false
namespace Go.Proofs.YtkmgcggoemlaaaaGreatDoor
open Go Go.Fw Go.Conc Go.RowKit Go.Fwm

/-- A byte with one bit turned. -/
theorem flip_byte (x : UInt8) (j : Nat) (h : j < 8) : ∃ y : UInt8, bits .xor .u8 (x.toNat : Int) (2 ^ j % 256) = (y.toNat : Int) ∧ y ≠ x := by
  have hx := x.toNat_lt
  have e : ∃ m : UInt8, (2 : Int) ^ j % 256 = (m.toNat : Int) ∧ m ≠ 0 := by
    have hj : j = 0 ∨ j = 1 ∨ j = 2 ∨ j = 3 ∨ j = 4 ∨ j = 5 ∨ j = 6 ∨ j = 7 := by omega
    rcases hj with rfl | rfl | rfl | rfl | rfl | rfl | rfl | rfl
    · exact ⟨1, by decide, by decide⟩
    · exact ⟨2, by decide, by decide⟩
    · exact ⟨4, by decide, by decide⟩
    · exact ⟨8, by decide, by decide⟩
    · exact ⟨16, by decide, by decide⟩
    · exact ⟨32, by decide, by decide⟩
    · exact ⟨64, by decide, by decide⟩
    · exact ⟨128, by decide, by decide⟩
  obtain ⟨m, e1, e2⟩ := e
  have hm := m.toNat_lt
  refine ⟨x ^^^ m, ?_, fun h => e2 ?_⟩
  · rw [e1, u8_xor_nat _ _ (by omega) (by omega), UInt8.toNat_xor]
  · have := congrArg (fun y => x ^^^ y) h
    simpa [← UInt8.xor_assoc] using this
theorem Row_set {w : World} {g n c : Nat} {P : List UInt8} (h : Row w (.slice (some ⟨g, 0, none⟩) n c) P) {q : Nat} (hq : q < P.length) (y : UInt8) : Row (w.setCell ⟨g, q, none⟩ (.int .u8 (y.toNat : Int))) (.slice (some ⟨g, 0, none⟩) n c) (P.set q y) := by
  obtain ⟨_, h2 | ⟨g', cap, cur, h1, h2, h3, h4, h5, h6, h7⟩⟩ := h
  · cases h2.1
  · cases h1
    refine ⟨by simp, .inr ⟨g, c, cur.setIfInBounds q (.int .u8 (y.toNat : Int)), by simp, h2, by simp [World.setCell, Array.getElem?_modify, h3], by simpa using h4, h5, by simpa using h6, ?_⟩⟩
    rw [List.length_set, Array.toList_setIfInBounds, List.take_set, h7, List.map_set]
    rfl
def zeros (n : Nat) : List Value := List.replicate n (Value.int .u8 0)
theorem zeros_len (n : Nat) : (zeros n).length = n := List.length_replicate
theorem make_zeros (n : Nat) (hn : n ≤ 9223372036854) (w : World) :
    (Instr.makeSlice 22 (.int .i64 (n : Int)) (.int .i64 (n : Int))).run Tryz.prog w = .ok (.slice (some ⟨w.heap.size, 0, none⟩) n n) (w.alloc (.cells (zeros n).toArray 5)) := run_make_u8 n hn w
theorem splice_all (a b : List Value) (h : a.length = b.length) : splice a 0 b = b := by
  unfold splice
  simp [h]
theorem wpList_fill {w : World} {ops : Array Oper} {rest : List Oper} {o : Oper} {a : Act} {Q : Exit → Act → World → Prop} (hgd : o.guard = none) (d s : Operand)
    (ho : o.op = .call { callee := .builtin .copy, args := #[d, s], argTypes := #[22, 22] }) (g n c : Nat) (A : Option Addr) (zs : List UInt8) (hd : a.eval d = .slice (some ⟨g, 0, none⟩) n n) (hs : a.eval s = .slice A n c) (hl : zs.length = n)
    (hg : Blk w g 5 (zeros n)) (hx : Bytes w A zs) (h : ∀ w', Hid (Blk w' g 5 (zs.map enc)) → Hid (Below g w w') → wpList Tryz.prog ops Q rest (a.put o.dst (.int .i64 (n : Int))) w') :
    wpList Tryz.prog ops Q (o :: rest) a w := by
  have hlm : (zs.map enc).length = n := by rw [List.length_map]; exact hl
  refine wpList_copy_splice hgd d s 22 22 ho 5 Tryz.underlying22 size5 (some ⟨g, 0, none⟩) A n n n c hd hs g 0 (zeros n) 5 hg (zs.map enc) (by rw [hlm]; exact (Nat.min_self n).symm) (fun h0 => ⟨rfl, ?_⟩) (by rw [hlm, zeros_len]; omega) (fun v hv => by obtain ⟨z, _, rfl⟩ := List.mem_map.1 hv; rfl) g w (Below.refl _ w) (Nat.le_refl _) fun w' HG hB => ?_
  · obtain ⟨b, o', hA, _⟩ := hx 0 (by omega)
    refine ⟨_, hA, fun j v hj => ?_⟩
    have hjl : j < zs.length := by have := (List.getElem?_eq_some_iff.1 hj).1; simpa using this
    obtain ⟨b', o2, hA', hc⟩ := hx j hjl
    rw [hA] at hA'; cases hA'
    have hv : v = .int .u8 (zs[j].toNat : Int) := by simp [hjl, enc] at hj; exact hj.symm
    rw [hv, show (⟨b, o', none⟩ : Addr).add j = ⟨b, o' + j, none⟩ by unfold Addr.add; split <;> simp_all]
    exact hc
  · rw [hlm]
    refine h w' (Lib.hid ?_) (Lib.hid hB)
    have := HG.out
    rw [splice_all _ _ (by rw [zeros_len, hlm])] at this
    exact this
theorem nf_v {w V : World} (hk : Kp w V) {A : Option Addr} {c : Nat} {old : List UInt8} (h : Bytes V A old) (n0 : A = none → c = 0) (hol : old.length ≤ 4096) (pages : Int) (hp : -9223372036854775808 ≤ pages ∧ pages ≤ 9223372036854775807) :
    Calls Tryz.prog 18 #[.slice A old.length c, .int .i64 pages] V fun e V1 => ∃ pf bf, e = .returned (.pointer (some ⟨pf, 0, none⟩)) ∧ Nf1 w V V1 pf bf (Fl.init old pages) :=
  (newflash_ok V (fun b => b = w.heap.size + 1) A old.length c old rfl hol h n0 pages hp w.heap.size (by have := hk.size; omega) (fun b x => by have := hk.size; omega) (by omega)).mono fun e V1 ⟨pf, bf, h1, h2, h3, h4, h5⟩ => ⟨pf, bf, h1, h2, h3, h4, h5⟩
end Go.Proofs.YtkmgcggoemlaaaaGreatDoor
end

section
/- The law Others, in a private world. No condition. -/
set_option linter.unusedSimpArgs false
set_option linter.unusedVariables false
set_option linter.constructorNameAsVariable false
namespace Go.Proofs.YtkmgcggoemlaaaaGreatDoor
open Go Go.Fw Go.Conc Go.RowKit Go.Fwm

theorem fa_lit192 (f : Nat → Value) (D : List Deferred) : fa 192 f D = ⟨#[f 0, f 1, f 2, f 3, f 4, f 5, f 6, f 7, f 8, f 9, f 10, f 11, f 12, f 13, f 14, f 15, f 16, f 17, f 18, f 19, f 20, f 21, f 22, f 23, f 24, f 25, f 26, f 27, f 28, f 29, f 30, f 31, f 32, f 33, f 34, f 35, f 36, f 37, f 38, f 39, f 40, f 41, f 42, f 43, f 44, f 45, f 46, f 47, f 48, f 49, f 50, f 51, f 52, f 53, f 54, f 55, f 56, f 57, f 58, f 59, f 60, f 61, f 62, f 63, f 64, f 65, f 66, f 67, f 68, f 69, f 70, f 71, f 72, f 73, f 74, f 75, f 76, f 77, f 78, f 79, f 80, f 81, f 82, f 83, f 84, f 85, f 86, f 87, f 88, f 89, f 90, f 91, f 92, f 93, f 94, f 95, f 96, f 97, f 98, f 99, f 100, f 101, f 102, f 103, f 104, f 105, f 106, f 107, f 108, f 109, f 110, f 111, f 112, f 113, f 114, f 115, f 116, f 117, f 118, f 119, f 120, f 121, f 122, f 123, f 124, f 125, f 126, f 127, f 128, f 129, f 130, f 131, f 132, f 133, f 134, f 135, f 136, f 137, f 138, f 139, f 140, f 141, f 142, f 143, f 144, f 145, f 146, f 147, f 148, f 149, f 150, f 151, f 152, f 153, f 154, f 155, f 156, f 157, f 158, f 159, f 160, f 161, f 162, f 163, f 164, f 165, f 166, f 167, f 168, f 169, f 170, f 171, f 172, f 173, f 174, f 175, f 176, f 177, f 178, f 179, f 180, f 181, f 182, f 183, f 184, f 185, f 186, f 187, f 188, f 189, f 190, f 191], D⟩ := by kernel_rfl

theorem init_le2 (old : List UInt8) (h : old.length ≤ 4096) (pages : Int) : (Fl.init old pages).pages ≤ 64 := by rw [init_pages]; exact newPages_le old h pages
set_option maxRecDepth 100000 in
set_option maxHeartbeats 8000000 in
theorem others_priv {W w : World} {Post : Value → World → Prop} (hpost : ∀ W', Below W.heap.size W W' → Post (.bool true) W') (hg : GV w)
    {a0 a1 a3 a4 : Option Addr} {l0 c0 l1 c1 l3 c3 l4 c4 : Nat} {bit : Int} {old new more : List UInt8} (hbit : -9223372036854775808 ≤ bit ∧ bit ≤ 9223372036854775807)
    (h0 : Bytes w a0 old) (e0 : old.length = l0) (h1 : Bytes w a1 new) (e1 : new.length = l1) (h3 : Bytes w a3 more) (e3 : more.length = l3) (h4 : Ints w a4 l4) (n0 : a0 = none → c0 = 0)
    (b0 : ∀ a, a0 = some a → a.block < w.heap.size) (b1 : ∀ a, a1 = some a → a.block < w.heap.size) (b3 : ∀ a, a3 = some a → a.block < w.heap.size) (b4 : ∀ a, a4 = some a → a.block < w.heap.size) :
    CEnds Tryz.prog FN W.heap.size W Post [] [Frame.enter Tryz.prog 10 #[.slice a0 l0 c0, .slice a1 l1 c1, .int .i64 bit, .slice a3 l3 c3, .slice a4 l4 c4] .normal] w := by
  have hJ := cEnds_clo (P := Tryz.prog) (FN := FN) (N0 := W.heap.size) (W0 := W) (Post := Post) (Ch := [])
  rw [enter_fa _ _ 192 Tryz.func10 rfl rfl (by simp)]
  refine hJ.seq (hJ.region ?_)
  refine hJ.opf lst rfl rfl (by kernel_rfl) rfl (w' := w) (fun tp => ex_assign (x := .const (.bool false)) rfl rfl) ?_
  refine hJ.region_end (hJ.seq (hJ.region ?_))
  refine hJ.opf lst rfl rfl (by kernel_rfl) rfl (w' := w) (v := .slice a0 l0 c0) (fun tp => ex_move rfl ((fa_eval (by decide)).trans rfl)) ?_
  refine hJ.callf lst rfl rfl rfl (by kernel_rfl) (by kernel_rfl) (by kernel_rfl) rfl _ (m1 ((fa_eval (by decide)).trans rfl)) (R := fun v w' => v = .bool (decide (l0 ≤ 4096)) ∧ ∃ tp, w' = Go.Fw.tpd w tp) (fun tp => (image14 _ a0 l0 c0).mono fun e w' ⟨q1, q2⟩ => ⟨_, q1, rfl, tp, q2⟩) ?_
  rintro v w' ⟨rfl, tp, rfl⟩
  refine hJ.tp _ _ tp ?_
  refine hJ.opf lst rfl rfl (by kernel_rfl) rfl (w' := w) (v := .bool (decide (l0 ≤ 4096))) (fun tp => ex_assign rfl ((fa_eval (by decide)).trans rfl)) ?_
  refine hJ.region_end (hJ.seq (hJ.region ?_))
  refine hJ.opf lst rfl rfl (by kernel_rfl) rfl (w' := w) (v := .slice a1 l1 c1) (fun tp => ex_move rfl ((fa_eval (by decide)).trans rfl)) ?_
  refine hJ.callf lst rfl rfl rfl (by kernel_rfl) (by kernel_rfl) (by kernel_rfl) rfl _ (m1 ((fa_eval (by decide)).trans rfl)) (R := fun v w' => v = .bool (decide (l1 ≤ 4096)) ∧ ∃ tp, w' = Go.Fw.tpd w tp) (fun tp => (image14 _ a1 l1 c1).mono fun e w' ⟨q1, q2⟩ => ⟨_, q1, rfl, tp, q2⟩) ?_
  rintro v w' ⟨rfl, tp, rfl⟩
  refine hJ.tp _ _ tp ?_
  refine hJ.opf lst rfl rfl (by kernel_rfl) rfl (w' := w) (v := .bool (decide (l1 ≤ 4096))) (fun tp => ex_assign rfl ((fa_eval (by decide)).trans rfl)) ?_
  refine hJ.region_end (hJ.seq (hJ.region ?_))
  refine hJ.callop rfl (wanted_plain rfl _) rfl (by kernel_rfl) (by kernel_rfl) ?_
  rw [Array.map_empty]
  refine works_ends hg (atOp_at _) fun w1 z1 o1 => ?_
  rw [finish_fa rfl rfl]
  refine hJ.opf lst rfl rfl (by kernel_rfl) rfl (w' := w1) (v := .bool true) (fun tp => ex_assign rfl ((fa_eval (by decide)).trans rfl)) ?_
  refine hJ.region_end (hJ.seq ?_)
  refine fa_gen (Jf := fun a => CEnds _ _ _ _ _ _ [(bas 10 .normal).at a _] _) fun F hF => ?_
  have f0 : F 0 = .slice a0 l0 c0 := (hF 0).trans rfl
  have f1 : F 1 = .slice a1 l1 c1 := (hF 1).trans rfl
  have f2 : F 2 = .int .i64 bit := (hF 2).trans rfl
  have f3 : F 3 = .slice a3 l3 c3 := (hF 3).trans rfl
  have f4 : F 4 = .slice a4 l4 c4 := (hF 4).trans rfl
  have f11 : F 11 = .bool (decide (l0 ≤ 4096)) := (hF 11).trans rfl
  have f12 : F 12 = .bool (decide (l1 ≤ 4096)) := (hF 12).trans rfl
  have f13 : F 13 = .bool true := (hF 13).trans rfl
  clear hF
  refine hJ.code lst (by kernel_rfl) rfl rfl (by kernel_rfl) (N := fun a' w' => a'.tmps.size = 192 ∧ a'.defers = [] ∧ a'.eval (.tmp 0) = .slice a0 l0 c0 ∧ a'.eval (.tmp 1) = .slice a1 l1 c1 ∧ a'.eval (.tmp 2) = .int .i64 bit ∧ a'.eval (.tmp 3) = .slice a3 l3 c3 ∧ a'.eval (.tmp 4) = .slice a4 l4 c4 ∧ (l0 ≤ 4096 ∧ l1 ≤ 4096 ∧ l4 ≤ 65536 ∧ l3 ≤ 65536) ∧ ∃ tp, w' = Go.Fw.tpd w1 tp) (R := fun a' w' => a'.defers = [] ∧ a'.eval (.tmp 10) = .bool true) (fun tp => ?_) (fun a' w' h => ?_) (fun a' w' td h => law_done Tryz.func10 rfl (by kernel_rfl) h.1 h.2 hpost)
  · rw [fa_lit192, f0, f1, f2, f3, f4, f11, f12, f13]
    dsimp only
    clear f0 f1 f2 f3 f4 f11 f12 f13
    by_cases q0 : l0 ≤ 4096
    · rw [decide_eq_true q0]
      by_cases q1 : l1 ≤ 4096
      · rw [decide_eq_true q1]
        by_cases q2 : l4 ≤ 65536
        · have q2' : ¬ ((65536 : Int) < (l4 : Int)) := by omega
          by_cases q3 : l3 ≤ 65536
          · have q3' : ¬ ((65536 : Int) < (l3 : Int)) := by omega
            go_wp2
            refine ⟨rfl, rfl, rfl, rfl, rfl, rfl, rfl, ?_⟩
            first | exact ⟨⟨q0, q1, q2, q3⟩, _, rfl⟩ | exact ⟨_, rfl⟩
          · have q3' : ((65536 : Int) < (l3 : Int)) := by omega
            go_wp2
            exact ⟨rfl, rfl⟩
        · have q2' : ((65536 : Int) < (l4 : Int)) := by omega
          go_wp2
          exact ⟨rfl, rfl⟩
      · rw [decide_eq_false q1]
        go_wp2
        exact ⟨rfl, rfl⟩
    · rw [decide_eq_false q0]
      go_wp2
      exact ⟨rfl, rfl⟩
  obtain ⟨k1, k2, f0, f1, f2, f3, f4, ⟨q0, q1, q2, q3⟩, tp, rfl⟩ := h
  refine hJ.tp _ _ tp ?_
  obtain ⟨F, rfl, hF⟩ := act_fa k1 k2
  rw [hF _ (by decide)] at f0 f1 f2 f3 f4
  clear k1 k2 hF
  have hk1 : Kp w w1 := ⟨by omega, o1⟩
  subst e0 e1
  obtain ⟨va, hva⟩ : ∃ va : Value, va = .slice a0 old.length c0 := ⟨_, rfl⟩
  obtain ⟨vb, hvb⟩ : ∃ vb : Value, vb = .slice a1 new.length c1 := ⟨_, rfl⟩
  rw [← hva] at f0
  rw [← hvb] at f1
  refine hJ.seq (hJ.region ?_)
  refine hJ.opf lst rfl rfl (by kernel_rfl) rfl (w' := w1) (v := va) (fun tp => ex_move rfl ((fa_eval (by decide)).trans f0)) ?_
  refine hJ.opf lst rfl rfl (by kernel_rfl) rfl (w' := w1) (v := vb) (fun tp => ex_move rfl ((fa_eval (by decide)).trans f1)) ?_
  refine hJ.callop rfl (wanted_plain rfl _) rfl (by kernel_rfl) (by kernel_rfl) ?_
  rw [m2 (v := va) (u := vb) ((fa_eval (by decide)).trans rfl) ((fa_eval (by decide)).trans rfl)]
  subst hva hvb
  refine gend_ends (hk1.bytes h0) (hk1.bytes h1) q0 q1 (atOp_at _) (fun a e => by have := b0 a e; have := hk1.size; omega) (fun a e => by have := b1 a e; have := hk1.size; omega) fun p w2 hp _ _ => ?_
  rw [finish_fa rfl rfl]
  refine hJ.opf lst rfl rfl (by kernel_rfl) rfl (w' := w2) (v := .tuple #[p, .bool true]) (fun tp => ex_move rfl ((fa_eval (by decide)).trans rfl)) ?_
  refine hJ.opf lst rfl rfl (by kernel_rfl) rfl (w' := w2) (v := p) (fun tp => ex_extract rfl ((fa_eval (by decide)).trans rfl) rfl) ?_
  refine hJ.opf lst rfl rfl (by kernel_rfl) rfl (w' := w2) (v := .bool true) (fun tp => ex_extract rfl ((fa_eval (by decide)).trans rfl) rfl) ?_
  refine hJ.opf lst rfl rfl (by kernel_rfl) rfl (w' := w2) (v := p) (fun tp => ex_assign rfl ((fa_eval (by decide)).trans rfl)) ?_
  refine hJ.opf lst rfl rfl (by kernel_rfl) rfl (w' := w2) (v := .bool true) (fun tp => ex_assign rfl ((fa_eval (by decide)).trans rfl)) ?_
  refine hJ.region_end ?_
  refine fa_gen (Jf := fun a => CEnds _ _ _ _ _ _ [(bas 10 .normal).at a _] _) fun G hG => ?_
  have g0 : G 0 = .slice a0 old.length c0 := (hG 0).trans f0
  have g1 : G 1 = .slice a1 new.length c1 := (hG 1).trans f1
  have g2 : G 2 = .int .i64 bit := (hG 2).trans f2
  have g3 : G 3 = .slice a3 l3 c3 := (hG 3).trans f3
  have g4 : G 4 = .slice a4 l4 c4 := (hG 4).trans f4
  have g14 : G 14 = p := (hG 14).trans rfl
  have g15 : G 15 = .bool true := (hG 15).trans rfl
  clear hG f0 f1 f2 f3 f4
  have hpl := patchG_len old new
  have hk2 : Kp w w2 := hk1.rin hp
  obtain ⟨PP, hPP⟩ : ∃ PP, PP = patchG (lgOf old) old new := ⟨_, rfl⟩
  rw [← hPP] at hp hpl
  obtain ⟨B, m, c, rfl, hl, hc, hcm, hB0, hBb⟩ := hp.own.slice3
  have hr2 : Row w2 (.slice B m c) PP := hp.own
  have hfar : ∀ g, (Value.slice B m c).ownBlock = some g → w.heap.size < g := fun g e => by have := hp.far _ e; omega
  have hBf : ∀ a, B = some a → w.heap.size < a.block := fun a e => hfar _ (hBb a e)
  clear hp hk1 hB0
  have hm : m ≤ 5000 := by omega
  refine hJ.seq ?_
  refine hJ.code lst (by kernel_rfl) rfl rfl (by kernel_rfl) (N := fun a' w' => a'.tmps.size = 192 ∧ a'.defers = [] ∧ a'.eval (.tmp 0) = .slice a0 old.length c0 ∧ a'.eval (.tmp 1) = .slice a1 new.length c1 ∧ a'.eval (.tmp 2) = .int .i64 bit ∧ a'.eval (.tmp 3) = .slice a3 l3 c3 ∧ a'.eval (.tmp 4) = .slice a4 l4 c4 ∧ a'.eval (.tmp 14) = .slice B m c ∧ Kp w w' ∧ Row w' (.slice B m c) PP) (R := fun a' w' => False) (fun tp => ?_) (fun a' w' h => ?_) (fun a' w' td h => h.elim)
  · rw [fa_lit192, g0, g1, g2, g3, g4, g14, g15]
    dsimp only
    clear g0 g1 g2 g3 g4 g14 g15
    have HK := Lib.hid (hk2.tpd tp)
    have hr3 : Row (Go.Fw.tpd w2 tp) (.slice B m c) PP := hr2
    have HR := Lib.hid hr3
    clear hJ hpost h0 h1 h3 h4 b0 b1 b3 b4 n0 o1 z1 hg e3 hpl hPP hl hc hcm hBb hfar hBf hm hbit q2 q3
    clear hk2 hr2 hr3
    generalize Go.Fw.tpd w2 tp = U at HK HR ⊢
    go_wp2
    exact ⟨rfl, rfl, rfl, rfl, rfl, rfl, rfl, rfl, HK.out, HR.out⟩
  clear g0 g1 g2 g3 g4 g14 g15
  obtain ⟨k1, k2, g0, g1, g2, g3, g4, g14, hk3, hr3⟩ := h
  obtain ⟨G, rfl, hF⟩ := act_fa k1 k2
  rw [hF _ (by decide)] at g0 g1 g2 g3 g4 g14
  clear k1 k2 hF
  clear hk2 hr2
  refine hJ.seq ?_
  refine hJ.code lst (by kernel_rfl) rfl rfl (by kernel_rfl) (N := fun a' w' => a'.tmps.size = 192 ∧ a'.defers = [] ∧ a'.eval (.tmp 0) = .slice a0 old.length c0 ∧ a'.eval (.tmp 1) = .slice a1 new.length c1 ∧ a'.eval (.tmp 2) = .int .i64 bit ∧ a'.eval (.tmp 3) = .slice a3 l3 c3 ∧ a'.eval (.tmp 4) = .slice a4 l4 c4 ∧ a'.eval (.tmp 14) = .slice B m c ∧ ∃ go, a'.eval (.tmp 16) = .slice (some ⟨go, 0, none⟩) old.length old.length ∧ w.heap.size + 1 < go ∧ Kp w w' ∧ Row w' (.slice B m c) PP ∧ (∀ g, (Value.slice B m c).ownBlock = some g → g < go) ∧ Blk w' go 5 (zeros old.length)) (R := fun a' w' => False) (fun tp => ?_) (fun a' w' h => ?_) (fun a' w' td h => h.elim)
  · rw [fa_lit192, g0, g1, g2, g3, g4, g14]
    dsimp only
    clear g0 g1 g2 g3 g4 g14
    have hmk := make_zeros old.length (by omega)
    have HK := Lib.hid (hk3.tpd tp)
    have hr4 : Row (Go.Fw.tpd w' tp) (.slice B m c) PP := hr3
    have HR := Lib.hid hr4
    clear hJ hpost h0 h1 h3 h4 b0 b1 b3 b4 n0 o1 z1 hg e3 hpl hPP hl hc hcm hBb hfar hBf hm hbit q2 q3
    clear hk3 hr3 hr4
    generalize Go.Fw.tpd w' tp = U at HK HR ⊢
    go_wp2
    exact ⟨rfl, rfl, rfl, rfl, rfl, rfl, rfl, rfl, _, rfl, HK.out.size, HK.out.next (by simp) fun b hb => heap_alloc_old _ _ (by have := HK.out.size; simp; omega), HR.out.keepB fun g _ hlt => heap_alloc_old _ _ hlt, fun g e => HR.out.lt e, heap_alloc_new _ _⟩
  clear g0 g1 g2 g3 g4 g14
  obtain ⟨k1, k2, g0, g1, g2, g3, g4, g14, go, g16, hgs, hk4, hr4, hlo, hz4⟩ := h
  obtain ⟨G, rfl, hF⟩ := act_fa k1 k2
  rw [hF _ (by decide)] at g16 g0 g1 g2 g3 g4 g14
  clear k1 k2 hF
  clear hk3 hr3
  refine hJ.seq ?_
  refine hJ.code lst (by kernel_rfl) rfl rfl (by kernel_rfl) (N := fun a' w' => a'.tmps.size = 192 ∧ a'.defers = [] ∧ a'.eval (.tmp 0) = .slice a0 old.length c0 ∧ a'.eval (.tmp 1) = .slice a1 new.length c1 ∧ a'.eval (.tmp 2) = .int .i64 bit ∧ a'.eval (.tmp 3) = .slice a3 l3 c3 ∧ a'.eval (.tmp 4) = .slice a4 l4 c4 ∧ a'.eval (.tmp 14) = .slice B m c ∧ a'.eval (.tmp 16) = .slice (some ⟨go, 0, none⟩) old.length old.length ∧ Kp w w' ∧ Row w' (.slice B m c) PP ∧ Blk w' go 5 (old.map enc)) (R := fun a' w' => False) (fun tp => ?_) (fun a' w' h => ?_) (fun a' w' td h => h.elim)
  · rw [fa_lit192, g0, g1, g2, g3, g4, g14, g16]
    dsimp only
    clear g0 g1 g2 g3 g4 g14 g16
    have hz5 : Blk (Go.Fw.tpd w' tp) go 5 (zeros old.length) := hz4
    have HZ := Lib.hid hz5
    have HX := Lib.hid ((hk4.tpd tp).bytes h0)
    have HK := Lib.hid (hk4.tpd tp)
    have hr5 : Row (Go.Fw.tpd w' tp) (.slice B m c) PP := hr4
    have HR := Lib.hid hr5
    have HLO := Lib.hid hlo
    clear hJ hpost h0 h1 h3 h4 b0 b1 b3 b4 n0 o1 z1 hg e3 hpl hPP hl hc hcm hBb hfar hBf hm hbit q2 q3
    clear hk4 hz4 hz5 hr4 hr5 hlo
    generalize Go.Fw.tpd w' tp = U at HZ HX HK HR ⊢
    go_wp2_with ((with_reducible show wpList _ _ _ _ _ _); refine wpList_fill (o := ⟨some 71, _, _, _, _, _⟩) rfl (.tmp 69) (.tmp 70) rfl go old.length c0 a0 old rfl rfl rfl HZ.out HX.out ?_; intro w4 HB4 HL4)
    exact ⟨rfl, rfl, rfl, rfl, rfl, rfl, rfl, rfl, rfl, HK.out.next HL4.out.size fun b hb => HL4.out.block b (by omega), HR.out.keepB fun g e _ => HL4.out.block g (HLO.out g e), HB4.out⟩
  clear g0 g1 g2 g3 g4 g14 g16
  obtain ⟨k1, k2, g0, g1, g2, g3, g4, g14, g16, hk5, hr5, hb5⟩ := h
  obtain ⟨G, rfl, hF⟩ := act_fa k1 k2
  rw [hF _ (by decide)] at g0 g1 g2 g3 g4 g14 g16
  clear k1 k2 hF
  clear hk4 hz4 hr4
  refine hJ.seq ?_
  refine hJ.code lst (by kernel_rfl) rfl rfl (by kernel_rfl) (N := fun a' w' => a'.tmps.size = 192 ∧ a'.defers = [] ∧ a'.eval (.tmp 0) = .slice a0 old.length c0 ∧ a'.eval (.tmp 1) = .slice a1 new.length c1 ∧ a'.eval (.tmp 2) = .int .i64 bit ∧ a'.eval (.tmp 4) = .slice a4 l4 c4 ∧ a'.eval (.tmp 14) = .slice B m c ∧ ∃ (Bo : Option Addr) (co : Nat) (other : List UInt8), a'.eval (.tmp 16) = .slice Bo other.length co ∧ Kp w w' ∧ Row w' (.slice B m c) PP ∧ Bytes w' Bo other ∧ (Bo = none → co = 0) ∧ other.length ≤ 4096 ∧ (other.length ≠ old.length ∨ sumAdd 0 other ≠ sumAdd 0 old)) (R := fun a' w' => a'.defers = [] ∧ a'.eval (.tmp 10) = .bool true) (fun tp => ?_) (fun a' w' h => ?_) (fun a' w' td h => law_done Tryz.func10 rfl (by kernel_rfl) h.1 h.2 hpost)
  · rw [fa_lit192, g0, g1, g2, g3, g4, g14, g16]
    dsimp only
    clear g0 g1 g2 g3 g4 g14 g16
    have HB := Lib.hid (show Blk (Go.Fw.tpd w' tp) go 5 (old.map enc) from hb5)
    have HK := Lib.hid (hk5.tpd tp)
    have HR := Lib.hid (show Row (Go.Fw.tpd w' tp) (.slice B m c) PP from hr5)
    have HLO := Lib.hid hlo
    have HL3 := Lib.hid e3
    have H3 := Lib.hid h3
    have HGS := Lib.hid hgs
    clear hJ hpost h0 h1 h3 h4 b0 b1 b3 b4 n0 o1 z1 hg e3 hpl hPP hl hc hcm hBb hfar hBf hm hk5 hr5 hb5 hlo hgs
    generalize Go.Fw.tpd w' tp = U at HB HK HR ⊢
    obtain ⟨n0, hn0⟩ : ∃ n0, n0 = old.length := ⟨_, rfl⟩
    rw [← hn0] at q0 ⊢
    have HN := Lib.hid hn0
    clear hn0
    by_cases hev : bit.tmod 2 = 0 ∧ 0 < n0
    · obtain ⟨hev, hp⟩ := hev
      have hev' : ((bit.tmod 2) == 0) = true := by simp [hev]
      have hp' : (0 : Int) < (n0 : Int) := by omega
      have hw8 : IntKind.i64.wrap (8 * (n0 : Int)) = 8 * (n0 : Int) := IntWalk.i64_in _ (by omega)
      have hwn : IntKind.u64.wrap (8 * (n0 : Int)) = 8 * (n0 : Int) := by unfold IntKind.wrap; simp [IntKind.signed, IntKind.bits]; omega
      obtain ⟨k, hk, hkn⟩ : ∃ k : Nat, (IntKind.u64.wrap ((IntKind.u64.wrap bit).tdiv 2)).tmod (8 * (n0 : Int)) = (k : Int) ∧ k < 8 * n0 := by
        obtain ⟨Z, hZ⟩ : ∃ Z, Z = IntKind.u64.wrap ((IntKind.u64.wrap bit).tdiv 2) := ⟨_, rfl⟩
        rw [← hZ]
        have h0 : 0 ≤ Z := by rw [hZ]; unfold IntKind.wrap; simp [IntKind.signed, IntKind.bits]; omega
        have h1 : 0 ≤ Z.tmod (8 * (n0 : Int)) := Int.tmod_nonneg _ h0
        have h2 : Z.tmod (8 * (n0 : Int)) < 8 * n0 := Int.tmod_lt_of_pos _ (by omega)
        exact ⟨(Z.tmod (8 * (n0 : Int))).toNat, by omega, by omega⟩
      have hwk : IntKind.i64.wrap (k : Int) = (k : Int) := wrap_i64 k (by omega)
      have hn80 : (8 * (n0 : Int) == 0) = false := by simp; omega
      obtain ⟨q, hq⟩ : ∃ q : Nat, (k : Int) / 8 = (q : Int) := ⟨k / 8, by omega⟩
      obtain ⟨j, hj⟩ : ∃ j : Nat, (k : Int) % 8 = (j : Int) := ⟨k % 8, by omega⟩
      have hqn : q < n0 := by omega
      have hj8 : j < 8 := by omega
      have hqo : q < old.length := by have := HN.out; omega
      have hcell : U.cell? ⟨go, q, none⟩ = some (.int .u8 ((old[q]'hqo).toNat : Int)) := HB.out.cell (by rw [List.getElem?_map, List.getElem?_eq_getElem hqo]; rfl)
      have hfz : U.frozen? ⟨go, q, none⟩ = false := HB.out.free q
      have hq0 : (0 : Int) ≤ (q : Int) := by omega
      have hq1 : (q : Int) < (n0 : Int) := by omega
      have hj0 : (0 : Int) ≤ (j : Int) := by omega
      have hj1 : (j : Int) ≤ 8 := by omega
      obtain ⟨x, hx⟩ : ∃ x, x = old[q]'hqo := ⟨_, rfl⟩
      rw [← hx] at hcell
      have HX := Lib.hid hx; have HQO := Lib.hid hqo; have HJ8 := Lib.hid hj8
      clear hx hj8 hkn hqn hev hp
      go_wp2
      go_region
      obtain ⟨y, hy, hyx⟩ := flip_byte x j HJ8.out
      rw [hy]
      have hset : Blk (U.setCell ⟨go, q, none⟩ (.int .u8 (y.toNat : Int))) go 5 ((old.set q y).map enc) := by
        rw [List.map_set]; exact HB.out.set q _
      have hkV : Kp w (U.setCell ⟨go, q, none⟩ (.int .u8 (y.toNat : Int))) := HK.out.next (by simp [World.setCell]) fun b hb => Below.heap_setCell U ⟨go, q, none⟩ _ b (by have := HGS.out; show b ≠ go; omega)
      have hrV : Row (U.setCell ⟨go, q, none⟩ (.int .u8 (y.toNat : Int))) (.slice B m c) PP := HR.out.keepB fun g e _ => Below.heap_setCell U ⟨go, q, none⟩ _ g (by have := HLO.out g e; show g ≠ go; omega)
      have hsum := sum_set old q HQO.out y (by rw [← HX.out]; exact fun e => hyx e.symm)
      have HS := Lib.hid hset; have HKV := Lib.hid hkV; have HRV := Lib.hid hrV; have HSU := Lib.hid hsum
      clear hset hkV hrV hsum hcell hfz hy
      generalize U.setCell ⟨go, q, none⟩ (.int .u8 (y.toNat : Int)) = V at HS HKV HRV ⊢
      go_wp2
      exact ⟨rfl, rfl, rfl, rfl, rfl, rfl, rfl, some ⟨go, 0, none⟩, n0, old.set q y, by rw [List.length_set, ← HN.out]; rfl, ⟨HKV.out.size, HKV.out.old⟩, HRV.out, Bytes.of_blk (rest := []) (by rw [List.append_nil]; exact HS.out), fun e => (by cases e), by rw [List.length_set, ← HN.out]; exact q0, .inr HSU.out⟩
    · have hrow : Row U (.slice (some ⟨go, 0, none⟩) n0 n0) old := ⟨by simp, .inr ⟨go, n0, (old.map enc).toArray, by rw [← HN.out], Nat.zero_le _, HB.out, by rw [← HN.out]; exact Nat.le_refl _, by simp only [maxLen]; omega, by simp [HN.out], by simp [List.take_of_length_le]⟩⟩
      have HROW := Lib.hid hrow
      have hq100 : old.length + l3 ≤ 100000000 := by have := HN.out; omega
      have HQ := Lib.hid hq100
      clear hrow hq100
      by_cases hev2 : bit.tmod 2 = 0
      · have hev' : ((bit.tmod 2) == 0) = true := by simp [hev2]
        have hp' : ¬ ((0 : Int) < (n0 : Int)) := by omega
        clear hev hev2
        by_cases ha : 0 < l3 ∧ n0 + l3 ≤ 4096
        · obtain ⟨ha1, ha2⟩ := ha
          have ha1' : (0 : Int) < (l3 : Int) := by omega
          have ha2' : (n0 : Int) + (l3 : Int) ≤ 4096 := by omega
          have HA2 := Lib.hid (And.intro ha1 ha2)
          clear ha1 ha2
          go_wp2_with (at_builtin; refine wpList_append_all rfl (.tmp 113) (.tmp 114) rfl (.slice (some ⟨go, 0, none⟩) n0 n0) old more a3 l3 c3 rfl HROW.out rfl HL3.out (HK.out.bytes H3.out) HQ.out ?_; intro v3 U3 ha3; obtain ⟨B3, n3, cc3, rfl, hn3, hnc3, hcm3, hB03, hBb3⟩ := ha3.own.slice3; have HA3 := Lib.hid ha3; have HN3 := Lib.hid hn3; have HB03 := Lib.hid hB03; clear ha3 hn3 hnc3 hcm3 hB03 hBb3)
          have hlen : (old ++ more).length = n3 := HN3.out
          exact ⟨rfl, rfl, rfl, rfl, rfl, rfl, rfl, B3, cc3, old ++ more, by rw [hlen]; rfl, HK.out.app HA3.out (fun g e => by have e2 : go = g := Option.some.inj e; have := HGS.out; omega), HR.out.keepB fun g e hlt => HA3.out.grown.block g hlt (fun e' => by have e2 : go = g := Option.some.inj e'.symm; have := HLO.out g e; omega), HA3.out.own.bytes rfl, HB03.out, by rw [List.length_append, HL3.out, ← HN.out]; exact HA2.out.2, .inl (fun e => by have h1 := HL3.out; have h2 := HA2.out.1; have h3 := HN.out; rw [List.length_append] at e; omega)⟩
        · have ha' : ¬ ((0 : Int) < (l3 : Int)) ∨ ((0 : Int) < (l3 : Int) ∧ ¬ ((n0 : Int) + (l3 : Int) ≤ 4096)) := by omega
          clear ha
          rcases ha' with ha1 | ⟨ha1, ha2⟩
          · go_wp2
            exact ⟨rfl, rfl⟩
          · go_wp2
            exact ⟨rfl, rfl⟩
      · have hev' : ((bit.tmod 2) == 0) = false := by simp [hev2]
        clear hev hev2
        by_cases hz : 0 < n0
        · have hp' : ((0 : Int) < (n0 : Int)) := by omega
          have hp2 : (0 : Int) ≤ (n0 : Int) - 1 := by omega
          have HZ := Lib.hid hz
          clear hz
          by_cases ha : 0 < l3 ∧ n0 + l3 ≤ 4096
          · obtain ⟨ha1, ha2⟩ := ha
            have ha1' : (0 : Int) < (l3 : Int) := by omega
            have ha2' : (n0 : Int) + (l3 : Int) ≤ 4096 := by omega
            have HA2 := Lib.hid (And.intro ha1 ha2)
            clear ha1 ha2
            go_wp2_with (at_builtin; refine wpList_append_all rfl (.tmp 113) (.tmp 114) rfl (.slice (some ⟨go, 0, none⟩) n0 n0) old more a3 l3 c3 rfl HROW.out rfl HL3.out (HK.out.bytes H3.out) HQ.out ?_; intro v3 U3 ha3; obtain ⟨B3, n3, cc3, rfl, hn3, hnc3, hcm3, hB03, hBb3⟩ := ha3.own.slice3; have HA3 := Lib.hid ha3; have HN3 := Lib.hid hn3; have HB03 := Lib.hid hB03; clear ha3 hn3 hnc3 hcm3 hB03 hBb3)
            have hlen : (old ++ more).length = n3 := HN3.out
            exact ⟨rfl, rfl, rfl, rfl, rfl, rfl, rfl, B3, cc3, old ++ more, by rw [hlen]; rfl, HK.out.app HA3.out (fun g e => by have e2 : go = g := Option.some.inj e; have := HGS.out; omega), HR.out.keepB fun g e hlt => HA3.out.grown.block g hlt (fun e' => by have e2 : go = g := Option.some.inj e'.symm; have := HLO.out g e; omega), HA3.out.own.bytes rfl, HB03.out, by rw [List.length_append, HL3.out, ← HN.out]; exact HA2.out.2, .inl (fun e => by have h1 := HL3.out; have h2 := HA2.out.1; have h3 := HN.out; rw [List.length_append] at e; omega)⟩
          · have ha' : ¬ ((0 : Int) < (l3 : Int)) ∨ ((0 : Int) < (l3 : Int) ∧ ¬ ((n0 : Int) + (l3 : Int) ≤ 4096)) := by omega
            clear ha
            rcases ha' with ha1 | ⟨ha1, ha2⟩
            · go_wp2
              exact ⟨rfl, rfl, rfl, rfl, rfl, rfl, rfl, some ⟨go, 0, none⟩, n0, old.take (n0 - 1), by rw [List.length_take, ← HN.out, Nat.min_eq_left (by omega)]; rfl, HK.out, HR.out, Bytes.take (Bytes.of_blk (rest := []) (by rw [List.append_nil]; exact HB.out)) _, fun e => (by cases e), by rw [List.length_take, ← HN.out]; omega, .inl (by rw [List.length_take, ← HN.out]; omega)⟩
            · go_wp2
              exact ⟨rfl, rfl, rfl, rfl, rfl, rfl, rfl, some ⟨go, 0, none⟩, n0, old.take (n0 - 1), by rw [List.length_take, ← HN.out, Nat.min_eq_left (by omega)]; rfl, HK.out, HR.out, Bytes.take (Bytes.of_blk (rest := []) (by rw [List.append_nil]; exact HB.out)) _, fun e => (by cases e), by rw [List.length_take, ← HN.out]; omega, .inl (by rw [List.length_take, ← HN.out]; omega)⟩
        · have hp' : ¬ ((0 : Int) < (n0 : Int)) := by omega
          by_cases ha : 0 < l3 ∧ n0 + l3 ≤ 4096
          · obtain ⟨ha1, ha2⟩ := ha
            have ha1' : (0 : Int) < (l3 : Int) := by omega
            have ha2' : (n0 : Int) + (l3 : Int) ≤ 4096 := by omega
            have HA2 := Lib.hid (And.intro ha1 ha2)
            clear ha1 ha2
            go_wp2_with (at_builtin; refine wpList_append_all rfl (.tmp 113) (.tmp 114) rfl (.slice (some ⟨go, 0, none⟩) n0 n0) old more a3 l3 c3 rfl HROW.out rfl HL3.out (HK.out.bytes H3.out) HQ.out ?_; intro v3 U3 ha3; obtain ⟨B3, n3, cc3, rfl, hn3, hnc3, hcm3, hB03, hBb3⟩ := ha3.own.slice3; have HA3 := Lib.hid ha3; have HN3 := Lib.hid hn3; have HB03 := Lib.hid hB03; clear ha3 hn3 hnc3 hcm3 hB03 hBb3)
            have hlen : (old ++ more).length = n3 := HN3.out
            exact ⟨rfl, rfl, rfl, rfl, rfl, rfl, rfl, B3, cc3, old ++ more, by rw [hlen]; rfl, HK.out.app HA3.out (fun g e => by have e2 : go = g := Option.some.inj e; have := HGS.out; omega), HR.out.keepB fun g e hlt => HA3.out.grown.block g hlt (fun e' => by have e2 : go = g := Option.some.inj e'.symm; have := HLO.out g e; omega), HA3.out.own.bytes rfl, HB03.out, by rw [List.length_append, HL3.out, ← HN.out]; exact HA2.out.2, .inl (fun e => by have h1 := HL3.out; have h2 := HA2.out.1; have h3 := HN.out; rw [List.length_append] at e; omega)⟩
          · have ha' : ¬ ((0 : Int) < (l3 : Int)) ∨ ((0 : Int) < (l3 : Int) ∧ ¬ ((n0 : Int) + (l3 : Int) ≤ 4096)) := by omega
            clear ha
            rcases ha' with ha1 | ⟨ha1, ha2⟩
            · go_wp2
              exact ⟨rfl, rfl⟩
            · go_wp2
              exact ⟨rfl, rfl⟩
  clear g0 g1 g2 g3 g4 g14 g16
  obtain ⟨k1, k2, g0, g1, g2, g4, g14, Bo, co, other, g16, hk6, hr6, hob, hon, hol, hoth⟩ := h
  obtain ⟨G, rfl, hF⟩ := act_fa k1 k2
  rw [hF _ (by decide)] at g16 g0 g1 g2 g4 g14
  clear k1 k2 hF
  clear hk5 hr5 hb5
  refine hJ.code lst (by kernel_rfl) rfl rfl (by kernel_rfl) (N := fun _ _ => False) (R := fun a' w' => a'.defers = [] ∧ a'.eval (.tmp 10) = .bool true) (fun tp => ?_) (fun _ _ h => h.elim) (fun a' w' td h => law_done Tryz.func10 rfl (by kernel_rfl) h.1 h.2 hpost)
  rw [fa_lit192, g0, g1, g2, g4, g14, g16]
  dsimp only
  have hkU : Kp w (Go.Fw.tpd w' tp) := hk6.tpd tp
  have hrU : Row (Go.Fw.tpd w' tp) (.slice B m c) PP := hr6
  have hobU : Bytes (Go.Fw.tpd w' tp) Bo other := hob
  clear hk6 hr6 hob g0 g1 g2 g4 g14 g16
  generalize Go.Fw.tpd w' tp = U at hkU hrU hobU ⊢
  obtain ⟨pg, hpg, hpg70⟩ : ∃ pg : Nat, (IntKind.u64.wrap bit).tmod 70 = (pg : Int) ∧ pg < 70 := by
    have h0 : 0 ≤ IntKind.u64.wrap bit := by unfold IntKind.wrap; simp [IntKind.signed, IntKind.bits]; omega
    have h1 : 0 ≤ (IntKind.u64.wrap bit).tmod 70 := Int.tmod_nonneg _ h0
    have h2 : (IntKind.u64.wrap bit).tmod 70 < 70 := Int.tmod_lt_of_pos _ (by omega)
    exact ⟨((IntKind.u64.wrap bit).tmod 70).toNat, by omega, by omega⟩
  have hwp : IntKind.i64.wrap (pg : Int) = (pg : Int) := wrap_i64 pg (by omega)
  have hBw : ∀ V : World, Row V (.slice B m c) PP → ∀ a, B = some a → a.block ≠ w.heap.size ∧ a.block < V.heap.size := fun V hV a e => ⟨by have := hBf a e; omega, hV.lt (hBb a e)⟩
  obtain ⟨o1_, o2_⟩ := other_num (Fl.init other (pg : Int)) (by show (-1 : Int) < 0; decide) hol (init_le2 other hol _) rfl old new q0 hoth
  rw [← hPP] at o1_ o2_
  have hap : ∀ U1 pf bf, Nf1 w U U1 pf bf (Fl.init other (pg : Int)) → Calls Tryz.prog 19 #[.pointer (some ⟨pf, 0, none⟩), .slice B m c, .slice a4 l4 c4] U1 fun e V2 => ∃ (x : Int) (held : Bool) (be' : Nat), e = .returned (.tuple #[.int .i64 x, .int .i64 3, .bool held]) ∧ Ap1 w U V2 pf bf be' ((Fl.init other (pg : Int)).apply PP).x.f := fun U1 pf bf hf => by
    refine (ap_k hf hkU hg hol (patch := PP) hl (by omega) hc hcm (hrU.bytes rfl) (hBw U hrU) (by omega) h4 b4).mono ?_
    rintro e V2 ⟨held, be', rfl, h⟩
    rw [o1_]
    exact ⟨_, held, be', rfl, h⟩
  have hrow : ∀ V2 pf bf be' f, Ap1 w U V2 pf bf be' f → Row V2 (.slice B m c) PP := fun V2 pf bf be' f h => hrU.keepB fun g e hlt => h.keep g hlt fun e' => by
    have := hfar _ e; omega
  obtain ⟨np, hnp⟩ : ∃ np, np = newPages old (pg : Int) := ⟨_, rfl⟩
  have hnp64 : np ≤ 64 := by rw [hnp]; exact newPages_le old q0 _
  obtain ⟨f', hf'⟩ : ∃ f', f' = ((Fl.init old (pg : Int)).apply PP).x.f := ⟨_, rfl⟩
  have hpages : f'.pages = np := by
    have := (apply_any (Fl.init old (pg : Int)) q0 (init_le2 old q0 _) PP).fresh
    rw [hnp, ← init_pages old, hf']
    unfold Fl.pages
    rw [this]
  have hap2 : ∀ V U4 pf bf (M : Int), Kp w V → Row V (.slice B m c) PP → Nf1 w V U4 pf bf (Fl.init old (pg : Int)) → ((((Fl.init old (pg : Int)).apply PP).fault.num : Nat) : Int) = M → Calls Tryz.prog 19 #[.pointer (some ⟨pf, 0, none⟩), .slice B m c, .slice a4 l4 c4] U4 fun e V2 => ∃ (x : Int) (held : Bool) (be' : Nat), e = .returned (.tuple #[.int .i64 x, .int .i64 M, .bool held]) ∧ Ap1 w V V2 pf bf be' f' := fun V U4 pf bf M hk hr hf hM => by
    refine (ap_k hf hk hg q0 (patch := PP) hl (by omega) hc hcm (hr.bytes rfl) (hBw V hr) (by omega) h4 b4).mono ?_
    rintro e V2 ⟨held, be', rfl, h⟩
    rw [hM]
    rw [← hf'] at h
    exact ⟨_, held, be', rfl, h⟩
  have hpgs : ∀ V pf bf be' X, FRep V X pf bf be' f' → Calls Tryz.prog 30 #[.pointer (some ⟨pf, 0, none⟩)] V fun e w' => e = .returned (.int .i64 (np : Int)) ∧ V = w' := fun V pf bf be' X h => by
    have := pages_ok V X pf bf be' f' h
    rw [hpages] at this
    exact this
  have hfits : (new.length ≤ np * 64 ∧ ((((Fl.init old (pg : Int)).apply PP).fault.num : Nat) : Int) = 0 ∧ f'.committed = true) ∨ (¬ new.length ≤ np * 64 ∧ ((((Fl.init old (pg : Int)).apply PP).fault.num : Nat) : Int) = 4 ∧ f'.committed = false) := by
    by_cases hfit : new.length ≤ np * 64
    · obtain ⟨_, r2, r3, _, _, _⟩ := nf_good (old := old) (next := new) (pages := (pg : Int)) q0 (by rw [← hnp]; exact hfit)
      rw [← hPP] at r2 r3
      exact .inl ⟨hfit, by rw [r2]; rfl, by rw [hf']; exact r3⟩
    · have h := size_num (Fl.init old (pg : Int)) (by show (-1 : Int) < 0; decide) q0 (init_le2 old q0 _) rfl new q1 (by rw [init_pages, ← hnp]; omega)
      have e : (Fl.init old (pg : Int)).old = old := rfl
      rw [e, ← hPP] at h
      exact .inr ⟨hfit, by rw [h.1]; rfl, by rw [hf']; exact h.2⟩
  have HAP := Lib.hid hap; have HROW := Lib.hid hrow; have HAP2 := Lib.hid hap2; have HPGS := Lib.hid hpgs; have HK := Lib.hid hkU; have HOB := Lib.hid hobU; have HON := Lib.hid hon; have HOL := Lib.hid hol; have H0 := Lib.hid h0; have HN0 := Lib.hid n0; have HO2 := Lib.hid o2_; have HQ0 := Lib.hid q0
  have HP70 := Lib.hid hpg70
  clear hJ hpost h0 h1 h3 h4 b0 b1 b3 b4 n0 o1 z1 hg e3 hpl hPP hl hc hcm hBb hfar hBf hm hap hrow hap2 hpgs hkU hobU hrU hon hol hoth o1_ o2_ hBw hnp hf' hpages hgs hlo
  clear q0
  rcases hfits with ⟨hfit, hM, hC⟩ | ⟨hfit, hM, hC⟩
  · have hfit' : ((new.length : Int) ≤ (np : Int) * 64) := by omega
    have HM := Lib.hid hM; have HC := Lib.hid hC
    clear hfit hM hC
    go_wp2_with (first
      | (go_at_call_of 18 (Value.slice Bo other.length co); refine (nf_v HK.out HOB.out HON.out HOL.out (pg : Int) (by omega)).mono ?_; rintro e U1 ⟨pf, bf, rfl, hf⟩; have HF1 := Lib.hid hf; clear hf)
      | (go_at_call 19; refine (HAP.out U1 pf bf HF1.out).mono ?_; rintro e U2 ⟨x2, held, be', rfl, hf⟩; have HA1 := Lib.hid hf; clear hf)
      | (go_at_call 23; refine (image_no U2 _ pf bf be' _ HA1.out.rep HO2.out).mono ?_; rintro e U2' ⟨rfl, rfl⟩))
    go_wp2_with (first
      | (go_at_call 18; refine (nf_k HA1.out.kp H0.out HN0.out HQ0.out (pg : Int) (by have := HP70.out; omega)).mono ?_; rintro e U3 ⟨pf4, bf4, rfl, hf⟩; have HF4 := Lib.hid hf; clear hf)
      | (go_at_call 19; refine (HAP2.out _ U3 pf4 bf4 _ HA1.out.kp (HROW.out _ _ _ _ _ HA1.out) HF4.out HM.out).mono ?_; rintro e U4 ⟨x4, held4, be4, rfl, hf⟩; have HA4 := Lib.hid hf; clear hf)
      | (go_at_call 30; refine (HPGS.out U4 pf4 bf4 be4 _ HA4.out.rep).mono ?_; rintro e U4' ⟨rfl, rfl⟩)
      | (go_at_call 23; refine (image_yes U4 _ pf4 bf4 be4 f' HA4.out.rep HC.out).mono ?_; rintro e U5 ⟨A5, cc5, rfl, _, _⟩))
    exact ⟨rfl, rfl⟩
  · have hfit' : ¬ ((new.length : Int) ≤ (np : Int) * 64) := by omega
    have HM := Lib.hid hM; have HC := Lib.hid hC
    clear hfit hM hC
    go_wp2_with (first
      | (go_at_call_of 18 (Value.slice Bo other.length co); refine (nf_v HK.out HOB.out HON.out HOL.out (pg : Int) (by omega)).mono ?_; rintro e U1 ⟨pf, bf, rfl, hf⟩; have HF1 := Lib.hid hf; clear hf)
      | (go_at_call 19; refine (HAP.out U1 pf bf HF1.out).mono ?_; rintro e U2 ⟨x2, held, be', rfl, hf⟩; have HA1 := Lib.hid hf; clear hf)
      | (go_at_call 23; refine (image_no U2 _ pf bf be' _ HA1.out.rep HO2.out).mono ?_; rintro e U2' ⟨rfl, rfl⟩))
    go_wp2_with (first
      | (go_at_call 18; refine (nf_k HA1.out.kp H0.out HN0.out HQ0.out (pg : Int) (by have := HP70.out; omega)).mono ?_; rintro e U3 ⟨pf4, bf4, rfl, hf⟩; have HF4 := Lib.hid hf; clear hf)
      | (go_at_call 19; refine (HAP2.out _ U3 pf4 bf4 _ HA1.out.kp (HROW.out _ _ _ _ _ HA1.out) HF4.out HM.out).mono ?_; rintro e U4 ⟨x4, held4, be4, rfl, hf⟩; have HA4 := Lib.hid hf; clear hf)
      | (go_at_call 30; refine (HPGS.out U4 pf4 bf4 be4 _ HA4.out.rep).mono ?_; rintro e U4' ⟨rfl, rfl⟩)
      | (go_at_call 23; refine (image_no U4 _ pf4 bf4 be4 f' HA4.out.rep HC.out).mono ?_; rintro e U5 ⟨rfl, rfl⟩))
    exact ⟨rfl, rfl⟩
end Go.Proofs.YtkmgcggoemlaaaaGreatDoor
end

section
/- The law Others of package firmwarelaw returns true for every input: a patch for another image is refused; so is one whose image is too long for the slot. No condition: any two images, any bit, any bytes more, any pieces. -/
set_option linter.unusedSimpArgs false
set_option linter.unusedVariables false
set_option linter.constructorNameAsVariable false
set_option maxRecDepth 100000
namespace Go.Proofs.YtkmgcggoemlaaaaGreatDoor
open Go Go.Fw Go.Conc Go.RowKit Go.Fwm Go.ChangeShapes Go.WideShapes Go.ChangeAt

theorem others_lifted (os : Os) (started : os.Started) (H : Type) (enc : TypeId × Value → H) :
    ReturnsInLeavingWide {} Tryz.checked os 10 .any (fun w args => (Rows.othersSpec.pre enc Tryz.prog Tryz.f10 [] false w args ∧ laidMetH Tryz.prog laidL w) ∧ sizedMet enc Tryz.prog Tryz.f10 (OpenSpec.ofChange Rows.othersSpec) false w args)
      (Rows.othersSpec.post enc Tryz.prog Tryz.f10 false true false false) := by
  refine rl_and (C := Tryz.checked) (X := fun w _ => laidMetH Tryz.prog laidL w) (fun _ _ _ hh h => h.of_heap hh) own started Tryz.func10
    (ChangeSpec.witness_at (enc := enc) (C := Tryz.checked) (os := os) (X := fun w _ => laidMetH Tryz.prog laidL w) false (laidWorld os) #[.slice none 0 0, .slice none 0 0, .int .i64 0, .slice none 0 0, .slice none 0 0] 8 rfl (by kernel_rfl) (by kernel_rfl) (by kernel_rfl) (by kernel_rfl) (by kernel_rfl) (laidWorld_met os _)) ?_
  intro W base args ds gs before hval0 hW hL hsh
  have hval : ∀ (j : Nat) t v, Tryz.f10.params[j]? = some t → args[j]? = some v → Value.okWide Tryz.prog W .any base t v := hval0
  have hW' := hW
  obtain ⟨p, q, hA0, hV, rfl, hfz, hnd⟩ := hW
  have hA : DataW.TrodAll enc Tryz.prog W 0 (fun _ => true) true Tryz.f10.params.toList args.toList ds p := hA0
  rw [Tryz.params10] at hA hval
  obtain ⟨v0, vs0, d0, ds0, p0, q0, hargs, rfl, rfl, h0, r0⟩ := trodAll_cons hA
  obtain ⟨v1, vs1, d1, ds1, p1, q1, rfl, rfl, rfl, h1, r1⟩ := trodAll_cons r0
  obtain ⟨v2, vs2, d2, ds2, p2, q2, rfl, rfl, rfl, h2, r2⟩ := trodAll_cons r1
  obtain ⟨v3, vs3, d3, ds3, p3, q3, rfl, rfl, rfl, h3, r3⟩ := trodAll_cons r2
  obtain ⟨v4, vs4, d4, ds4, p4, q4, rfl, rfl, rfl, h4, r4⟩ := trodAll_cons r3
  obtain ⟨rfl, rfl, rfl⟩ := trodAll_nil r4
  obtain rfl : args = #[v0, v1, v2, v3, v4] := by cases args; simp_all
  obtain ⟨rfl, rfl⟩ := trodVars_none hV
  obtain ⟨a0, l0, c0, b0, rfl, s0⟩ := arg22 (hval 0 22 v0 rfl rfl) h0
  obtain ⟨a1, l1, c1, b1, rfl, s1⟩ := arg22 (hval 1 22 v1 rfl rfl) h1
  obtain ⟨n2, rfl, rfl, rfl, w2⟩ := open_int Tryz.underlying3 (hval 2 3 v2 rfl rfl) h2
  obtain ⟨a3, l3, c3, b3, rfl, s3⟩ := arg22 (hval 3 22 v3 rfl rfl) h3
  obtain ⟨a4, l4, c4, rfl, s4⟩ := arg23 (hval 4 23 v4 rfl rfl) h4
  have hlt : ∀ {t : TypeId} {v : Value} {d : DataW H} {ps : List MemPlace}, DataW.Trod enc Tryz.prog W 0 (fun _ => true) true t v d ps → ∀ x ∈ ps, x.block < W.heap.size := fun h => by obtain ⟨m, hm⟩ := h; exact DataW.trod_lt m _ _ _ hm
  have hbl : ∀ x, (∃ c t fr, W.heap[x]? = some (Obj.cells c t fr)) → x < W.heap.size := fun x ⟨c, t, fr, e⟩ => (Array.getElem?_eq_some_iff.1 e).1
  clear hA0 hval0
  refine start_row (handle_of_laid hL) (shaped2 hsh) (by kernel_rfl) (fun i x hx => ?_) fun w hs hg hb hi => ?_
  · rcases i with _ | _ | _ | _ | _ | i
    · simp at hx; subst hx; exact .inr ⟨_, _, _, rfl, s0.cells⟩
    · simp at hx; subst hx; exact .inr ⟨_, _, _, rfl, s1.cells⟩
    · simp at hx; subst hx; exact .inl ⟨_, _, rfl⟩
    · simp at hx; subst hx; exact .inr ⟨_, _, _, rfl, s3.cells⟩
    · simp at hx; subst hx; exact .inr ⟨_, _, _, rfl, s4.cells⟩
    · simp at hx
  · refine others_priv (W := W) (fun W' bel => ?_) hg (bounds_i64 w2) (hb _ _ s0.bytes) s0.len_ (hb _ _ s1.bytes) s1.len_ (hb _ _ s3.bytes) s3.len_ (hi _ _ s4.ints) s0.nil_ (fun a e => by rw [hs]; exact hbl _ (s0.cells a e)) (fun a e => by rw [hs]; exact hbl _ (s1.cells a e)) (fun a e => by rw [hs]; exact hbl _ (s3.cells a e)) (fun a e => by rw [hs]; exact hbl _ (s4.cells a e))
    exact ⟨_, _, _, [], _, [], hW', trodAll_mk1 (shut_bool Tryz.underlying4 _), (trodAll_cons_mk (Below.trod laidOut (by kernel_rfl) (of_decide_eq_true (by kernel_rfl)) h0 bel (hlt h0)) (trodAll_cons_mk (Below.trod laidOut (by kernel_rfl) (of_decide_eq_true (by kernel_rfl)) h1 bel (hlt h1)) (trodAll_cons_mk (shut_int Tryz.underlying3 w2) (trodAll_cons_mk (Below.trod laidOut (by kernel_rfl) (of_decide_eq_true (by kernel_rfl)) h3 bel (hlt h3)) (trodAll_cons_mk (Below.trod laidOut (by kernel_rfl) (of_decide_eq_true (by kernel_rfl)) h4 bel (hlt h4)) trodAll_mk0))))), rfl, bel.frame _, fun h => by cases h⟩

theorem others_row : Rows.OthersSaid :=
  OpenClaim.holds_of_wide_leaving 10 Tryz.f10 rfl rfl rfl rfl rfl rfl rfl ⟨rfl, rfl, rfl, rfl, rfl⟩ rfl rfl rfl rfl rfl (by kernel_rfl) Tryz.func10 (by kernel_rfl)
    (of_decide_eq_true (by kernel_rfl)) (by unfold Func.isWrapper; first | (rw [if_pos (by decide +kernel)]; kernel_rfl) | (rw [if_neg (by decide +kernel)]; exact ⟨rfl, rfl⟩))
    (fun os started H enc _ => others_lifted os started H enc)
theorem others_card : Rows.OthersCardSaid :=
  card_goes .later [.handle] true (true, "a92912a9f4f08fbf195758ad90ff77dd450bbb634acd63370d8d1a8325452fc3") true true
    others_row (by kernel_rfl) others_row_tie rfl ⟨rfl, rfl⟩ (by kernel_rfl) rfl
    (fun f fn hf hfn => by
      obtain rfl : f = 10 := Option.some.inj ((show Tryz.prog.funcNamed Rows.othersRow.func = some 10 by kernel_rfl).symm.trans hf) |>.symm
      obtain rfl : fn = Tryz.f10 := (Option.some.inj (Tryz.func10.symm.trans hfn)).symm
      exact ⟨by kernel_rfl, fun j t ht => by
        have h3 : t ∈ [3, 22, 23] := by
          rw [Tryz.params10] at ht
          rcases j with _ | _ | _ | _ | _ | j <;> simp at ht <;> subst ht <;> decide
        have h4 : [3, 22, 23].all (fun t => Tryz.prog.wantsStandIn t == false) = true := by kernel_rfl
        exact beq_iff_eq.1 (List.all_eq_true.1 h4 t h3)⟩)
    (by kernel_rfl)
#print axioms others_card
end Go.Proofs.YtkmgcggoemlaaaaGreatDoor
end
