/-
  Part 11 of the common ground of this seat: what single parts show stands ahead of each.
  No condition.
-/
import Derived.Test.YtkmgcggoemlaaaaGreatDoorJ10

section
/- The model: what holds of an applier between two bytes. No condition. -/
namespace Go.Fwm
def digOk : St → Int → Prop
  | .oldSize, d | .newSize, d | .counted, d | .place, d => d = 0 ∨ d = 1
  | .oldSum, d | .fin, d => 0 ≤ d ∧ d ≤ 3
  | .over, d => d = -1
  | _, d => d = 0
def isEarly : St → Bool
  | .oldSize | .oldSum | .newSize => true
  | _ => false
def unread : St → Bool
  | .oldSize | .oldSum => true
  | _ => false
def toCome : St → Bool
  | .step | .counted | .own | .place => true
  | _ => false
def counts : St → Bool
  | .own | .place => true
  | _ => false
def ended : St → Bool
  | .fin | .over => true
  | _ => false
structure Inv (f0 : Fl) (R0 : Nat) (out : List UInt8) (a : Ap) (f : Fl) : Prop where
  nofault : a.fault = .none
  dig : digOk a.st a.digits
  lp : a.length ≤ f.pages * 64
  made : a.made = out.length
  ml : a.made ≤ a.length
  early : isEarly a.st = true → a.made = 0 ∧ a.length = 0
  size : unread a.st = false → a.size = f.old.length
  op : a.op ≤ 2
  lt : toCome a.st = true → a.made < a.length
  count : counts a.st = true → 0 < a.count ∧ a.made + a.count ≤ a.length
  body : ended a.st = false → PI f0 out a f
  done : ended a.st = true → a.made = a.length ∧ DI f0 out a f
  rd : f.reads ≤ R0 + a.made + if unread a.st then 0 else 4096
  oldl : f.old.length ≤ 4096
  pg : f.pages ≤ 64
theorem Inv.fi {f0 f : Fl} {R0 : Nat} {out : List UInt8} {a : Ap} (h : Inv f0 R0 out a f) : ∃ j, FI f0 j f := by
  cases he : ended a.st with
  | false => exact ⟨_, (h.body he).fi⟩
  | true => exact ⟨_, (h.done he).2.fi⟩
/-- How a byte may be refused. -/
structure Er (f0 : Fl) (R0 : Nat) (e : Nat) (f : Fl) : Prop where
  num : e = 2 ∨ e = 3 ∨ e = 4 ∨ e = 6 ∨ (e = 7 ∧ 0 ≤ f0.wait ∧ f.wait = 0)
  fi : ∃ j, FI f0 j f
  rd : f.reads ≤ R0 + 8192
def Ap.emit (a : Ap) (f : Fl) (b : UInt8) : List UInt8 :=
  match a.st with
  | .own => [b]
  | .beside => [b]
  | .place => if (a.number b).whole then (f.old.drop (a.number b).a.value).take a.count else []
  | .counted => if (a.number b).whole ∧ a.op = 2 then (f.old.drop a.made).take (a.number b).a.value else []
  | _ => []
def R.next (r : R) : Ap := { r.a with st := r.st, at_ := r.a.at_ + 1 }

theorem Pow.er {f0 f : Fl} {R0 r : Nat} (h : Pow f0 r f) (hr : r ≤ R0 + 8192) : Er f0 R0 7 f :=
  ⟨.inr (.inr (.inr (.inr ⟨rfl, h.w0, h.w⟩))), h.fi, Nat.le_trans h.rd hr⟩
theorem Pow.pages {f0 f : Fl} {r : Nat} (h : Pow f0 r f) : f.pages = f0.pages := by obtain ⟨j, hj⟩ := h.fi; exact hj.pages

/-- 'more', behind a whole step. -/
theorem Ap.more_inv {f0 f : Fl} {R0 : Nat} {out : List UInt8} {a : Ap} (hP : PI f0 out a f) (nf : a.fault = .none) (hd : a.digits = 0) (lp : a.length ≤ f.pages * 64) (ml : a.made ≤ a.length) (hs : a.size = f.old.length) (hop : a.op ≤ 2)
    (hrd : f.reads ≤ R0 + a.made + 4096) (hol : f.old.length ≤ 4096) (h8 : f.pages ≤ 64) :
    ((a.more f).err = none ∧ Inv f0 R0 out (a.more f).next (a.more f).f) ∨ ∃ e, (a.more f).err = some e ∧ Er f0 R0 e (a.more f).f := by
  unfold Ap.more
  by_cases hlt : a.made < a.length
  · rw [if_pos hlt]
    exact .inl ⟨rfl, nf, hd, lp, hP.made, ml, fun h => (by cases h), fun _ => hs, hop, fun _ => hlt, fun h => (by cases h), fun _ => hP.of rfl rfl, fun h => (by cases h), hrd, hol, h8⟩
  · rw [if_neg hlt]
    simp only
    have hk : Keep a f (a.flush f).a (a.flush f).f 2 0 ∧ (a.flush f).a.made = a.made := by
      unfold Ap.flush
      split
      · obtain ⟨k1, k2, _⟩ := Ap.write_keep a f (a.made / 64) (a.made % 64); exact ⟨k1, k2⟩
      · exact ⟨(Keep.refl a f).mono (Nat.zero_le 2) (Nat.le_refl 0), rfl⟩
    obtain ⟨k, km⟩ := hk
    rcases Ap.flush_inv hP (by omega) with ⟨e1, e2, e3⟩ | ⟨e1, e2⟩
    · left
      refine ⟨e1, k.fault.trans nf, ?_, ?_, e2.made, ?_, fun h => (by cases h), fun _ => ?_, ?_, fun h => (by cases h), fun h => (by cases h), fun h => (by cases h), fun _ => ⟨?_, e2.of rfl⟩, ?_, ?_, ?_⟩
      · show 0 ≤ (a.flush f).a.digits ∧ (a.flush f).a.digits ≤ 3
        rw [k.digits, hd]; omega
      · show (a.flush f).a.length ≤ _
        rw [k.length, e2.fi.pages, ← hP.fi.pages]; exact lp
      · show (a.flush f).a.made ≤ (a.flush f).a.length
        rw [k.length, km]; exact ml
      · show (a.flush f).a.size = _
        rw [k.size, k.old]; exact hs
      · show (a.flush f).a.op ≤ 2
        rw [k.op]; exact hop
      · show (a.flush f).a.made = (a.flush f).a.length
        rw [k.length, km]; omega
      · show (a.flush f).f.reads ≤ R0 + (a.flush f).a.made + 4096
        rw [e3, km]; exact hrd
      · show (a.flush f).f.old.length ≤ 4096
        rw [k.old]; exact hol
      · rw [e2.fi.pages, ← hP.fi.pages]; exact h8
    · right
      exact ⟨7, e1, e2.er (by omega)⟩

theorem Ap.number_op (a : Ap) (b : UInt8) : (a.number b).a.op = a.op ∧ (a.number b).a.length = a.length ∧ (a.number b).a.made = a.made ∧ (a.number b).a.page = a.page := by
  obtain ⟨h, _⟩ := Ap.number_keep a b
  exact ⟨h.op, h.length, h.made, h.page⟩
theorem Ap.number_err (a : Ap) (b : UInt8) (hw : (a.number b).whole = false) : (a.number b).err = none ∨ (a.number b).err = some 2 := by
  revert hw
  unfold Ap.number
  simp only
  split
  · exact fun _ => .inl rfl
  · generalize (if a.digits + 1 = 1 then b.toNat else (a.addSum b).value ||| b.toNat * 128) = v
    by_cases h2 : a.digits + 1 = 2 ∧ b.toNat = 0 ∨ 4096 < v
    · rw [if_pos h2]; exact fun _ => .inr rfl
    · rw [if_neg h2]; exact fun h => by cases h
theorem Inv.refuse {f0 f : Fl} {R0 : Nat} {out : List UInt8} {a : Ap} (h : Inv f0 R0 out a f) {e : Nat} (he : e = 2 ∨ e = 3 ∨ e = 4 ∨ e = 6) : Er f0 R0 e f := by
  refine ⟨by omega, h.fi, ?_⟩
  have := h.rd
  have := h.ml
  have := h.lp
  have := h.pg
  split at * <;> omega
/-- A number that is not whole. -/
theorem Inv.part {f0 f : Fl} {R0 : Nat} {out : List UInt8} {a : Ap} (h : Inv f0 R0 out a f) (b : UInt8) (hw : (a.number b).whole = false) (hn : ∀ d : Int, digOk a.st d ↔ d = 0 ∨ d = 1) :
    ((a.number b).err = none ∧ Inv f0 R0 (out ++ []) ({ err := (a.number b).err, st := a.st, a := (a.number b).a, f } : R).next f) ∨ ∃ e, (a.number b).err = some e ∧ Er f0 R0 e f := by
  obtain ⟨k, _, k2, k3⟩ := Ap.number_keep a b
  obtain ⟨j, hj⟩ := h.fi
  have hrd := h.rd
  have hml := h.ml
  rcases Ap.number_err a b hw with e | e
  · left
    obtain ⟨d1, d2⟩ := k2 hw e
    rw [List.append_nil]
    refine ⟨e, k.fault.trans h.nofault, ?_, ?_, k.made.trans h.made, ?_, fun x => ?_, fun x => ?_, ?_, fun x => ?_, fun x => ?_, fun x => ?_, fun x => ?_, ?_, h.oldl, h.pg⟩
    · exact (hn _).2 (.inr (by show (a.number b).a.digits = 1; rw [d1, d2]; rfl))
    · show (a.number b).a.length ≤ _; rw [k.length]; exact h.lp
    · show (a.number b).a.made ≤ (a.number b).a.length; rw [k.length, k.made]; exact h.ml
    · show (a.number b).a.made = 0 ∧ (a.number b).a.length = 0; rw [k.length, k.made]; exact h.early x
    · show (a.number b).a.size = _; rw [k.size]; exact h.size x
    · show (a.number b).a.op ≤ 2; rw [k.op]; exact h.op
    · show (a.number b).a.made < (a.number b).a.length; rw [k.length, k.made]; exact h.lt x
    · show 0 < (a.number b).a.count ∧ (a.number b).a.made + (a.number b).a.count ≤ (a.number b).a.length; rw [k.length, k.made, k.count]; exact h.count x
    · exact (h.body x).of k.made k.page
    · obtain ⟨x1, x2⟩ := h.done x
      exact ⟨by show (a.number b).a.made = (a.number b).a.length; rw [k.length, k.made]; exact x1, x2.of k.made⟩
    · show f.reads ≤ R0 + (a.number b).a.made + _; rw [k.made]; exact h.rd
  · right
    exact ⟨2, e, h.refuse (.inl rfl)⟩

/-- Fields that hang on what a step leaves as it was. -/
theorem Inv.mk' {f0 f f' : Fl} {R0 : Nat} {out : List UInt8} {a : Ap} (h : Inv f0 R0 out a f) {a' : Ap} (hf : a'.fault = a.fault) (hm : a'.made = a.made) (hl : a'.length = a.length) (ho : a'.op = a.op) (hpg : a'.page = a.page)
    (hfo : f'.old = f.old) (hfp : f'.pages = f.pages) (hb : ended a.st = false) (hfi : PI f0 out a f → PI f0 out a f')
    (dig : digOk a'.st a'.digits) (he : isEarly a'.st = true → isEarly a.st = true) (size : unread a'.st = false → a'.size = f'.old.length) (lt : toCome a'.st = true → a.made < a.length) (hc : counts a'.st = true → 0 < a'.count ∧ a.made + a'.count ≤ a.length)
    (hn : ended a'.st = false) (rd : f'.reads ≤ R0 + a.made + if unread a'.st then 0 else 4096) : Inv f0 R0 out a' f' :=
  ⟨hf.trans h.nofault, dig, by rw [hl, hfp]; exact h.lp, hm.trans h.made, by rw [hl, hm]; exact h.ml, fun x => (by rw [hl, hm]; exact h.early (he x)), size, (by rw [ho]; exact h.op), fun x => (by rw [hl, hm]; exact lt x), fun x => (by rw [hl, hm]; exact hc x),
    fun _ => (hfi (h.body hb)).of hm hpg, fun x => (by rw [hn] at x; cases x), (by rw [hm]; exact rd), (by rw [hfo]; exact h.oldl), (by rw [hfp]; exact h.pg)⟩

theorem step_oldSize {f0 f : Fl} {R0 : Nat} {out : List UInt8} {a : Ap} (h : Inv f0 R0 out a f) (b : UInt8) (hst : a.st = .oldSize) :
    ((a.stepB f b).err = none ∧ Inv f0 R0 (out ++ a.emit f b) (a.stepB f b).next (a.stepB f b).f) ∨ ∃ e, (a.stepB f b).err = some e ∧ Er f0 R0 e (a.stepB f b).f := by
  have hem : a.emit f b = [] := by unfold Ap.emit; rw [hst]
  obtain ⟨k, k1, k2, k3⟩ := Ap.number_keep a b
  rw [hem]
  unfold Ap.stepB
  rw [hst]
  simp only
  cases hw : (a.number b).whole with
  | false =>
    have := h.part b hw (fun d => by rw [hst]; exact Iff.rfl)
    rw [hst] at this
    exact this
  | true =>
    left
    obtain ⟨w1, w2, w3⟩ := k1 hw
    rw [List.append_nil]
    have hrd := h.rd
    rw [hst] at hrd
    exact ⟨rfl, h.mk' k.fault k.made k.length k.op k.page rfl rfl (by rw [hst]; rfl) (fun x => x) ⟨by show 0 ≤ (a.number b).a.digits; omega, by show (a.number b).a.digits ≤ 3; omega⟩ (fun _ => by rw [hst]; rfl) (fun x => by cases x) (fun x => by cases x) (fun x => by cases x) rfl hrd⟩
theorem step_oldSum {f0 f : Fl} {R0 : Nat} {out : List UInt8} {a : Ap} (h : Inv f0 R0 out a f) (b : UInt8) (hst : a.st = .oldSum) :
    ((a.stepB f b).err = none ∧ Inv f0 R0 (out ++ a.emit f b) (a.stepB f b).next (a.stepB f b).f) ∨ ∃ e, (a.stepB f b).err = some e ∧ Er f0 R0 e (a.stepB f b).f := by
  have hem : a.emit f b = [] := by unfold Ap.emit; rw [hst]
  obtain ⟨k, k1, k2, k3⟩ := Ap.fixed_keep (a.addSum b) b
  rw [hem]
  have hd := h.dig
  have hrd := h.rd
  have hb := h.body (by rw [hst]; rfl)
  have hme := (h.early (by rw [hst]; rfl)).1
  rw [hst] at hd hrd
  have hd1 : 0 ≤ a.digits ∧ a.digits ≤ 3 := hd
  have hrd1 : f.reads ≤ R0 + a.made + 0 := hrd
  unfold Ap.stepB
  rw [hst]
  simp only
  cases hw : ((a.addSum b).fixed b).whole with
  | false =>
    left
    obtain ⟨w1, w2⟩ := k2 hw
    have w3 : ((a.addSum b).fixed b).a.digits = a.digits + 1 := w1
    have w4 : a.digits < 3 := w2
    rw [List.append_nil]
    exact ⟨rfl, h.mk' k.fault k.made k.length k.op k.page rfl rfl (by rw [hst]; rfl) (fun x => x) ⟨by show 0 ≤ ((a.addSum b).fixed b).a.digits; omega, by show ((a.addSum b).fixed b).a.digits ≤ 3; omega⟩ (fun _ => by rw [hst]; rfl) (fun x => by cases x) (fun x => by cases x) (fun x => by cases x) rfl hrd⟩
  | true =>
    simp only [if_true]
    obtain ⟨w1, w2⟩ := k1 hw
    by_cases hsz : ((a.addSum b).fixed b).a.size ≠ f.old.length
    · rw [if_pos hsz]
      exact .inr ⟨3, rfl, h.refuse (.inr (.inl rfl))⟩
    · rw [if_neg hsz]
      have hsz' : ((a.addSum b).fixed b).a.size = f.old.length := by simpa using hsz
      have hol := h.oldl
      rcases Ap.sumOld_inv (((a.addSum b).fixed b).a.size + 1) (a := ((a.addSum b).fixed b).a) 0 0 (by omega) hb.fi hsz' (by omega) (Nat.zero_le _) with ⟨z1, z2, z3, z4, ⟨bf, z5⟩, z6⟩ | ⟨z1, z2⟩
      · simp only [z1]
        have hEr : Er f0 R0 3 (Ap.sumOld ((a.addSum b).fixed b).a f 0 (((a.addSum b).fixed b).a.size + 1) 0).f := ⟨.inr (.inl rfl), ⟨_, z3⟩, by omega⟩
        split
        · exact .inr ⟨3, rfl, hEr⟩
        · left
          rw [List.append_nil]
          refine ⟨rfl, h.mk' (f' := (Ap.sumOld ((a.addSum b).fixed b).a f 0 (((a.addSum b).fixed b).a.size + 1) 0).f) (by unfold R.next; rw [z5]; exact k.fault) (by unfold R.next; rw [z5]; exact k.made) (by unfold R.next; rw [z5]; exact k.length) (by unfold R.next; rw [z5]; exact k.op) (by unfold R.next; rw [z5]; exact k.page) (z3.old.trans hb.fi.old.symm) (z3.pages.trans hb.fi.pages.symm) (by rw [hst]; rfl) (fun x => ?_) (.inl ?_) (fun _ => by rw [hst]; rfl) (fun _ => ?_) (fun x => by cases x) (fun x => by cases x) rfl ?_⟩
          · exact ⟨z3, x.made, x.pg, x.page, fun i hi => by rw [z4]; exact x.fr i hi⟩
          · unfold R.next; rw [z5]; exact w1
          · unfold R.next; rw [z5]; show ((a.addSum b).fixed b).a.size = _; rw [z3.old, ← hb.fi.old]; exact hsz'
          · show _ ≤ R0 + a.made + 4096; omega
      · simp only [z1]
        exact .inr ⟨7, rfl, z2.er (by omega)⟩
theorem step_newSize {f0 f : Fl} {R0 : Nat} {out : List UInt8} {a : Ap} (h : Inv f0 R0 out a f) (b : UInt8) (hst : a.st = .newSize) :
    ((a.stepB f b).err = none ∧ Inv f0 R0 (out ++ a.emit f b) (a.stepB f b).next (a.stepB f b).f) ∨ ∃ e, (a.stepB f b).err = some e ∧ Er f0 R0 e (a.stepB f b).f := by
  have hem : a.emit f b = [] := by unfold Ap.emit; rw [hst]
  obtain ⟨k, k1, k2, k3⟩ := Ap.number_keep a b
  rw [hem]
  unfold Ap.stepB
  rw [hst]
  simp only
  cases hw : (a.number b).whole with
  | false =>
    have := h.part b hw (fun d => by rw [hst]; exact Iff.rfl)
    rw [hst] at this
    exact this
  | true =>
    simp only [if_true]
    obtain ⟨w1, w2, w3⟩ := k1 hw
    by_cases hbig : f.pages * 64 < (a.number b).a.value
    · rw [if_pos hbig]
      exact .inr ⟨4, rfl, h.refuse (.inr (.inr (.inl rfl)))⟩
    · rw [if_neg hbig, List.append_nil]
      have hrd := h.rd
      rw [hst] at hrd
      have hme := (h.early (by rw [hst]; rfl)).1
      have hmk := k.made
      refine Ap.more_inv (a := { (a.number b).a with length := (a.number b).a.value }) ((h.body (by rw [hst]; rfl)).of k.made k.page) (k.fault.trans h.nofault) w3 (by show (a.number b).a.value ≤ _; omega) (by show (a.number b).a.made ≤ (a.number b).a.value; omega) ?_ (by show (a.number b).a.op ≤ 2; rw [k.op]; exact h.op) ?_ h.oldl h.pg
      · show (a.number b).a.size = _
        rw [k.size]; exact h.size (by rw [hst]; rfl)
      · show f.reads ≤ R0 + (a.number b).a.made + 4096
        rw [hmk]; exact hrd
theorem step_step {f0 f : Fl} {R0 : Nat} {out : List UInt8} {a : Ap} (h : Inv f0 R0 out a f) (b : UInt8) (hst : a.st = .step) :
    ((a.stepB f b).err = none ∧ Inv f0 R0 (out ++ a.emit f b) (a.stepB f b).next (a.stepB f b).f) ∨ ∃ e, (a.stepB f b).err = some e ∧ Er f0 R0 e (a.stepB f b).f := by
  have hem : a.emit f b = [] := by unfold Ap.emit; rw [hst]
  rw [hem]
  have hd := h.dig
  have hrd := h.rd
  rw [hst] at hd hrd
  have hd : a.digits = 0 := hd
  unfold Ap.stepB
  rw [hst]
  simp only
  by_cases hb : 2 < b.toNat
  · rw [if_pos hb]
    exact .inr ⟨2, rfl, h.refuse (.inl rfl)⟩
  · rw [if_neg hb, List.append_nil]
    left
    refine ⟨rfl, h.nofault, .inl hd, h.lp, h.made, h.ml, fun x => (by cases x), fun _ => h.size (by rw [hst]; rfl), ?_, fun _ => h.lt (by rw [hst]; rfl), fun x => (by cases x), fun _ => (h.body (by rw [hst]; rfl)).of rfl rfl, fun x => (by cases x), hrd, h.oldl, h.pg⟩
    show b.toNat ≤ 2
    omega
theorem step_counted {f0 f : Fl} {R0 : Nat} {out : List UInt8} {a : Ap} (h : Inv f0 R0 out a f) (b : UInt8) (hst : a.st = .counted) :
    ((a.stepB f b).err = none ∧ Inv f0 R0 (out ++ a.emit f b) (a.stepB f b).next (a.stepB f b).f) ∨ ∃ e, (a.stepB f b).err = some e ∧ Er f0 R0 e (a.stepB f b).f := by
  obtain ⟨k, k1, k2, k3⟩ := Ap.number_keep a b
  have hrd := h.rd
  rw [hst] at hrd
  have hrd : f.reads ≤ R0 + a.made + 4096 := hrd
  have hlt := h.lt (by rw [hst]; rfl)
  have hsz := h.size (by rw [hst]; rfl)
  have hbody := h.body (by rw [hst]; rfl)
  have hlp := h.lp
  have hpg := h.pg
  unfold Ap.emit Ap.stepB
  rw [hst]
  simp only
  cases hw : (a.number b).whole with
  | false =>
    have := h.part b hw (fun d => by rw [hst]; exact Iff.rfl)
    rw [hst] at this
    simpa using this
  | true =>
    simp only [if_true, true_and]
    obtain ⟨w1, w2, w3⟩ := k1 hw
    have kl := k.length
    have km := k.made
    have ko := k.op
    by_cases hbad : ((a.number b).a.length : Int) - (a.number b).a.made < (a.number b).a.value ∨ (a.number b).a.op ≠ 2 ∧ (a.number b).a.value = 0
    · rw [if_pos hbad]
      exact .inr ⟨2, rfl, h.refuse (.inl rfl)⟩
    · rw [if_neg hbad]
      have hpos : (a.number b).a.op = 2 ∨ 0 < (a.number b).a.value := by omega
      by_cases h0 : (a.number b).a.op = 0
      · rw [if_pos h0, if_neg (by omega), List.append_nil]
        exact .inl ⟨rfl, h.mk' k.fault k.made k.length k.op k.page rfl rfl (by rw [hst]; rfl) (fun x => x) w3 (fun x => by cases x) (fun _ => k.size.trans hsz) (fun _ => hlt) (fun _ => ⟨by show 0 < (a.number b).a.value; omega, by show a.made + (a.number b).a.value ≤ a.length; omega⟩) rfl hrd⟩
      · rw [if_neg h0]
        by_cases h1 : (a.number b).a.op = 1
        · rw [if_pos h1, if_neg (by omega), List.append_nil]
          exact .inl ⟨rfl, h.mk' k.fault k.made k.length k.op k.page rfl rfl (by rw [hst]; rfl) (fun x => x) (.inl w3) (fun x => by cases x) (fun _ => k.size.trans hsz) (fun _ => hlt) (fun _ => ⟨by show 0 < (a.number b).a.value; omega, by show a.made + (a.number b).a.value ≤ a.length; omega⟩) rfl hrd⟩
        · rw [if_neg h1]
          have hop := h.op
          rw [if_pos (by omega)]
          simp only
          have hP : PI f0 out { (a.number b).a with count := (a.number b).a.value } f := hbody.of k.made k.page
          have hck := Ap.copy_keep { (a.number b).a with count := (a.number b).a.value } f (a.number b).a.made (a.number b).a.value
          rcases Ap.copy_inv (a.number b).a.made (a.number b).a.value hP (by show (a.number b).a.made + _ ≤ _; omega) (k.size.trans hsz) with ⟨e1, e2, e3, e4⟩ | ⟨e1, e2⟩ | ⟨e1, e2⟩
          · left
            have hemit : (f.old.drop a.made).take (a.number b).a.value = (f.old.drop (a.number b).a.made).take (a.number b).a.value := by rw [km]
            rw [hemit]
            obtain ⟨q1, q2, q3⟩ := hck
            have q3 := q3 e1
            have q3' : (Ap.copy { (a.number b).a with count := (a.number b).a.value } f (a.number b).a.made (a.number b).a.value).a.made = a.made + (a.number b).a.value := by rw [q3]; show (a.number b).a.made + _ = _; rw [km]
            refine ⟨e1, q1.fault.trans (k.fault.trans h.nofault), ?_, ?_, e3.made, ?_, fun x => (by cases x), fun _ => ?_, ?_, fun x => (by cases x), fun x => (by cases x), fun _ => e3.of rfl rfl, fun x => (by cases x), ?_, ?_, ?_⟩
            · show (Ap.copy _ _ _ _).a.digits = 0
              rw [q1.digits]; exact w3
            · show (Ap.copy _ _ _ _).a.length ≤ _
              rw [q1.length, e3.fi.pages, ← hP.fi.pages]; show (a.number b).a.length ≤ _; rw [kl]; exact hlp
            · show (Ap.copy _ _ _ _).a.made ≤ (Ap.copy _ _ _ _).a.length
              rw [q3', q1.length]; show _ ≤ (a.number b).a.length; omega
            · show (Ap.copy _ _ _ _).a.size = _
              rw [q1.size, q1.old]; exact k.size.trans hsz
            · show (Ap.copy _ _ _ _).a.op ≤ 2
              rw [q1.op]; show (a.number b).a.op ≤ 2; omega
            · show _ ≤ R0 + (Ap.copy _ _ _ _).a.made + 4096
              rw [q3']; exact Nat.le_trans e4 (by omega)
            · show (Ap.copy _ _ _ _).f.old.length ≤ _
              rw [q1.old]; exact h.oldl
            · rw [e3.fi.pages, ← hP.fi.pages]; exact hpg
          · exact .inr ⟨7, e1, e2.er (by omega)⟩
          · rw [e2]
            exact .inr ⟨2, rfl, h.refuse (.inl rfl)⟩
theorem step_own {f0 f : Fl} {R0 : Nat} {out : List UInt8} {a : Ap} (h : Inv f0 R0 out a f) (b : UInt8) (hst : a.st = .own) :
    ((a.stepB f b).err = none ∧ Inv f0 R0 (out ++ a.emit f b) (a.stepB f b).next (a.stepB f b).f) ∨ ∃ e, (a.stepB f b).err = some e ∧ Er f0 R0 e (a.stepB f b).f := by
  have hem : a.emit f b = [b] := by unfold Ap.emit; rw [hst]
  rw [hem]
  have hd := h.dig
  have hrd := h.rd
  rw [hst] at hd hrd
  have hd : a.digits = 0 := hd
  have hrd : f.reads ≤ R0 + a.made + 4096 := hrd
  have hlt := h.lt (by rw [hst]; rfl)
  have hsz := h.size (by rw [hst]; rfl)
  obtain ⟨hc0, hc1⟩ := h.count (by rw [hst]; rfl)
  have hbody : PI f0 out (a.addSum b) f := (h.body (by rw [hst]; rfl)).of rfl rfl
  have hlp := h.lp
  have hpg := h.pg
  obtain ⟨k, km, _⟩ := Ap.put_keep (a.addSum b) f b
  have km : ((a.addSum b).put f b).a.made = a.made + 1 := km
  unfold Ap.stepB
  rw [hst]
  simp only
  rcases Ap.put_inv hbody b (by show a.made < _; omega) with ⟨e1, e2, e3⟩ | ⟨e1, e2⟩
  · simp only [e1]
    have kl : ((a.addSum b).put f b).a.length = a.length := k.length
    have kc : ((a.addSum b).put f b).a.count = a.count := k.count
    have kp := e2.fi.pages
    have kp2 := hbody.fi.pages
    by_cases hcn : 0 < ((a.addSum b).put f b).a.count - 1
    · rw [if_pos hcn]
      left
      refine ⟨rfl, k.fault.trans h.nofault, ?_, ?_, e2.made, ?_, fun x => (by cases x), fun _ => ?_, ?_, fun _ => ?_, fun _ => ?_, fun _ => e2.of rfl rfl, fun x => (by cases x), ?_, ?_, ?_⟩
      · show ((a.addSum b).put f b).a.digits = 0
        rw [k.digits]; exact hd
      · show ((a.addSum b).put f b).a.length ≤ _
        rw [kl, kp, ← kp2]; exact hlp
      · show ((a.addSum b).put f b).a.made ≤ ((a.addSum b).put f b).a.length
        omega
      · show ((a.addSum b).put f b).a.size = _
        rw [k.size, k.old]; exact hsz
      · show ((a.addSum b).put f b).a.op ≤ 2
        rw [k.op]; exact h.op
      · show ((a.addSum b).put f b).a.made < ((a.addSum b).put f b).a.length
        omega
      · show 0 < ((a.addSum b).put f b).a.count - 1 ∧ ((a.addSum b).put f b).a.made + (((a.addSum b).put f b).a.count - 1) ≤ ((a.addSum b).put f b).a.length
        omega
      · show _ ≤ R0 + ((a.addSum b).put f b).a.made + 4096
        exact Nat.le_trans (Nat.le_of_eq e3) (by omega)
      · show ((a.addSum b).put f b).f.old.length ≤ _
        rw [k.old]; exact h.oldl
      · rw [kp, ← kp2]; exact hpg
    · rw [if_neg hcn]
      refine Ap.more_inv (a := { ((a.addSum b).put f b).a with count := ((a.addSum b).put f b).a.count - 1 }) (e2.of rfl rfl) (k.fault.trans h.nofault) (k.digits.trans hd) ?_ ?_ ?_ ?_ ?_ ?_ ?_
      · show ((a.addSum b).put f b).a.length ≤ _
        rw [kl, kp, ← kp2]; exact hlp
      · show ((a.addSum b).put f b).a.made ≤ ((a.addSum b).put f b).a.length
        omega
      · show ((a.addSum b).put f b).a.size = _
        rw [k.size, k.old]; exact hsz
      · show ((a.addSum b).put f b).a.op ≤ 2
        rw [k.op]; exact h.op
      · show _ ≤ R0 + ((a.addSum b).put f b).a.made + 4096
        omega
      · rw [k.old]; exact h.oldl
      · rw [kp, ← kp2]; exact hpg
  · simp only [e1]
    have hml := h.ml
    exact .inr ⟨7, rfl, e2.er (by omega)⟩
theorem step_place {f0 f : Fl} {R0 : Nat} {out : List UInt8} {a : Ap} (h : Inv f0 R0 out a f) (b : UInt8) (hst : a.st = .place) :
    ((a.stepB f b).err = none ∧ Inv f0 R0 (out ++ a.emit f b) (a.stepB f b).next (a.stepB f b).f) ∨ ∃ e, (a.stepB f b).err = some e ∧ Er f0 R0 e (a.stepB f b).f := by
  obtain ⟨k, k1, k2, k3⟩ := Ap.number_keep a b
  have hrd := h.rd
  rw [hst] at hrd
  have hrd : f.reads ≤ R0 + a.made + 4096 := hrd
  have hsz := h.size (by rw [hst]; rfl)
  obtain ⟨hc0, hc1⟩ := h.count (by rw [hst]; rfl)
  have hbody := h.body (by rw [hst]; rfl)
  have hlp := h.lp
  have hpg := h.pg
  unfold Ap.emit Ap.stepB
  rw [hst]
  simp only
  cases hw : (a.number b).whole with
  | false =>
    have := h.part b hw (fun d => by rw [hst]; exact Iff.rfl)
    rw [hst] at this
    simpa using this
  | true =>
    simp only [if_true]
    obtain ⟨w1, w2, w3⟩ := k1 hw
    have kl := k.length
    have km := k.made
    have kc := k.count
    have hP : PI f0 out (a.number b).a f := hbody.of k.made k.page
    have hck := Ap.copy_keep (a.number b).a f (a.number b).a.value (a.number b).a.count
    rcases Ap.copy_inv (a.number b).a.value (a.number b).a.count hP (by omega) (k.size.trans hsz) with ⟨e1, e2, e3, e4⟩ | ⟨e1, e2⟩ | ⟨e1, e2⟩
    · simp only [e1]
      obtain ⟨q1, q2, q3⟩ := hck
      have q3 := q3 e1
      rw [kc] at e3
      refine Ap.more_inv ?_ (q1.fault.trans (k.fault.trans h.nofault)) (q1.digits.trans w3) ?_ ?_ ?_ ?_ ?_ ?_ ?_
      · rw [kc]; exact e3
      · rw [q1.length, kl, kc, e3.fi.pages, ← hP.fi.pages]; exact hlp
      · rw [q1.length, q3]; omega
      · rw [q1.size, q1.old]; exact k.size.trans hsz
      · rw [q1.op, k.op]; exact h.op
      · rw [q3]; omega
      · rw [q1.old]; exact h.oldl
      · rw [kc, e3.fi.pages, ← hP.fi.pages]; exact hpg
    · simp only [e1]
      exact .inr ⟨7, rfl, e2.er (by omega)⟩
    · rw [e2]
      exact .inr ⟨2, rfl, h.refuse (.inl rfl)⟩
theorem step_beside {f0 f : Fl} {R0 : Nat} {out : List UInt8} {a : Ap} (h : Inv f0 R0 out a f) (b : UInt8) (hst : a.st = .beside) :
    ((a.stepB f b).err = none ∧ Inv f0 R0 (out ++ a.emit f b) (a.stepB f b).next (a.stepB f b).f) ∨ ∃ e, (a.stepB f b).err = some e ∧ Er f0 R0 e (a.stepB f b).f := by
  have hem : a.emit f b = [b] := by unfold Ap.emit; rw [hst]
  rw [hem]
  have hd := h.dig
  have hrd := h.rd
  rw [hst] at hd hrd
  have hd : a.digits = 0 := hd
  have hrd : f.reads ≤ R0 + a.made + 4096 := hrd
  have hml := h.ml
  have hsz := h.size (by rw [hst]; rfl)
  have hbody : PI f0 out (a.addSum b) f := (h.body (by rw [hst]; rfl)).of rfl rfl
  have hlp := h.lp
  have hpg := h.pg
  obtain ⟨k, km, _⟩ := Ap.put_keep (a.addSum b) f b
  have km : ((a.addSum b).put f b).a.made = a.made + 1 := km
  unfold Ap.stepB
  rw [hst]
  simp only
  by_cases hbd : (a.addSum b).made = (a.addSum b).length
  · rw [if_pos hbd]
    exact .inr ⟨2, rfl, h.refuse (.inl rfl)⟩
  · rw [if_neg hbd]
    have hbd' : a.made ≠ a.length := hbd
    rcases Ap.put_inv hbody b (by show a.made < _; omega) with ⟨e1, e2, e3⟩ | ⟨e1, e2⟩
    · simp only [e1]
      have kl : ((a.addSum b).put f b).a.length = a.length := k.length
      have kp := e2.fi.pages
      have kp2 := hbody.fi.pages
      refine Ap.more_inv e2 (k.fault.trans h.nofault) (k.digits.trans hd) ?_ ?_ ?_ ?_ ?_ ?_ ?_
      · rw [kl, kp, ← kp2]; exact hlp
      · omega
      · rw [k.size, k.old]; exact hsz
      · rw [k.op]; exact h.op
      · omega
      · rw [k.old]; exact h.oldl
      · rw [kp, ← kp2]; exact hpg
    · simp only [e1]
      exact .inr ⟨7, rfl, e2.er (by omega)⟩
theorem step_fin {f0 f : Fl} {R0 : Nat} {out : List UInt8} {a : Ap} (h : Inv f0 R0 out a f) (b : UInt8) (hst : a.st = .fin) :
    ((a.stepB f b).err = none ∧ Inv f0 R0 (out ++ a.emit f b) (a.stepB f b).next (a.stepB f b).f) ∨ ∃ e, (a.stepB f b).err = some e ∧ Er f0 R0 e (a.stepB f b).f := by
  have hem : a.emit f b = [] := by unfold Ap.emit; rw [hst]
  obtain ⟨k, k1, k2, k3⟩ := Ap.fixed_keep a b
  rw [hem, List.append_nil]
  have hd := h.dig
  have hrd := h.rd
  rw [hst] at hd hrd
  have hd : 0 ≤ a.digits ∧ a.digits ≤ 3 := hd
  have hrd : f.reads ≤ R0 + a.made + 4096 := hrd
  have hdn := h.done (by rw [hst]; rfl)
  have hsz := h.size (by rw [hst]; rfl)
  have mk : ∀ (r : R), r.a.fault = a.fault → r.a.length = a.length → r.a.made = a.made → r.a.size = a.size → r.a.op = a.op → (r.st = .fin ∨ r.st = .over) → digOk r.st r.a.digits → Inv f0 R0 out r.next f := by
    intro r r1 r2 r3 r4 r5 r6 r7
    have z1 : isEarly r.st = false ∧ unread r.st = false ∧ toCome r.st = false ∧ counts r.st = false ∧ ended r.st = true := by rcases r6 with e | e <;> rw [e] <;> exact ⟨rfl, rfl, rfl, rfl, rfl⟩
    obtain ⟨y1, y2, y3, y4, y5⟩ := z1
    refine ⟨r1.trans h.nofault, r7, ?_, r3.trans h.made, ?_, fun x => ?_, fun _ => r4.trans hsz, ?_, fun x => ?_, fun x => ?_, fun x => ?_, fun _ => ⟨?_, hdn.2.of r3⟩, ?_, h.oldl, h.pg⟩
    · show r.a.length ≤ _; rw [r2]; exact h.lp
    · show r.a.made ≤ r.a.length; rw [r2, r3]; exact h.ml
    · have : isEarly r.st = true := x; rw [y1] at this; cases this
    · show r.a.op ≤ 2; rw [r5]; exact h.op
    · have : toCome r.st = true := x; rw [y3] at this; cases this
    · have : counts r.st = true := x; rw [y4] at this; cases this
    · have : ended r.st = false := x; rw [y5] at this; cases this
    · show r.a.made = r.a.length; rw [r2, r3]; exact hdn.1
    · show f.reads ≤ R0 + r.a.made + if unread r.st then 0 else 4096
      rw [y2, r3]; exact hrd
  unfold Ap.stepB
  rw [hst]
  simp only
  cases hw : (a.fixed b).whole with
  | false =>
    left
    obtain ⟨w1, w2⟩ := k2 hw
    exact ⟨rfl, mk _ k.fault k.length k.made k.size k.op (.inl rfl) ⟨by show 0 ≤ (a.fixed b).a.digits; omega, by show (a.fixed b).a.digits ≤ 3; omega⟩⟩
  | true =>
    simp only [if_true]
    split
    · exact .inr ⟨2, rfl, h.refuse (.inl rfl)⟩
    · exact .inl ⟨rfl, mk { err := none, st := .over, a := { (a.fixed b).a with digits := -1 }, f } k.fault k.length k.made k.size k.op (.inr rfl) rfl⟩
/-- ████ A BYTE. ████ -/
theorem Inv.step {f0 f : Fl} {R0 : Nat} {out : List UInt8} {a : Ap} (h : Inv f0 R0 out a f) (b : UInt8) :
    ((a.stepB f b).err = none ∧ Inv f0 R0 (out ++ a.emit f b) (a.stepB f b).next (a.stepB f b).f) ∨ ∃ e, (a.stepB f b).err = some e ∧ Er f0 R0 e (a.stepB f b).f := by
  cases hst : a.st with
  | oldSize => exact step_oldSize h b hst
  | oldSum => exact step_oldSum h b hst
  | newSize => exact step_newSize h b hst
  | step => exact step_step h b hst
  | counted => exact step_counted h b hst
  | own => exact step_own h b hst
  | place => exact step_place h b hst
  | beside => exact step_beside h b hst
  | fin => exact step_fin h b hst
  | over =>
    right
    unfold Ap.stepB
    rw [hst]
    exact ⟨6, rfl, h.refuse (.inr (.inr (.inr rfl)))⟩
end Go.Fwm
end

section
/- The model: what is fed, whatever it is; and the end. No condition. -/
namespace Go.Fwm
theorem FI.trans {f0 f : Fl} {j : Nat} (h : FI f0 j f) : f.pages = f0.pages := h.pages
/-- It is as it should be; or it was refused. -/
inductive Stt (f0 : Fl) (R0 : Nat) (x : AF) : Prop
  | ok (out : List UInt8) (h : Inv f0 R0 out x.a x.f)
  | bad (e : Nat) (hf : x.a.fault = if e = 7 then .errno 7 else .wrapped e) (h : Er f0 R0 e x.f)
theorem byte_bad {x : AF} (h : x.a.fault ≠ .none) (b : UInt8) : x.byte b = x := by unfold AF.byte; rw [if_pos h]
theorem feed_bad {x : AF} (h : x.a.fault ≠ .none) (l : List UInt8) : x.feed l = x := by
  induction l with
  | nil => rfl
  | cons b l ih => show AF.feed (x.byte b) l = x; rw [byte_bad h]; exact ih
theorem feed_app (x : AF) (l m : List UInt8) : x.feed (l ++ m) = (x.feed l).feed m := List.foldl_append ..
theorem feed_cons (x : AF) (b : UInt8) (l : List UInt8) : x.feed (b :: l) = (x.byte b).feed l := rfl
theorem byte_ok {x : AF} (hf : x.a.fault = .none) {b : UInt8} (he : (x.a.stepB x.f b).err = none) : x.byte b = { a := (x.a.stepB x.f b).next, f := (x.a.stepB x.f b).f } := by
  unfold AF.byte
  rw [if_neg (by rw [hf]; simp)]
  simp only [he]
  rfl
theorem byte_err {x : AF} (hf : x.a.fault = .none) {b : UInt8} {e : Nat} (he : (x.a.stepB x.f b).err = some e) : x.byte b = { a := { (x.a.stepB x.f b).a with fault := if e = 7 then .errno 7 else .wrapped e }, f := (x.a.stepB x.f b).f } := by
  unfold AF.byte
  rw [if_neg (by rw [hf]; simp)]
  simp only [he]
theorem Stt.byte {f0 : Fl} {R0 : Nat} {x : AF} (h : Stt f0 R0 x) (b : UInt8) : Stt f0 R0 (x.byte b) := by
  cases h with
  | ok out h =>
    rcases h.step b with ⟨e1, e2⟩ | ⟨e, e1, e2⟩
    · rw [byte_ok h.nofault e1]; exact .ok _ e2
    · rw [byte_err h.nofault e1]; exact .bad e rfl e2
  | bad e hf h => rw [byte_bad (by rw [hf]; split <;> simp)]; exact .bad e hf h
theorem Stt.feed {f0 : Fl} {R0 : Nat} {x : AF} (h : Stt f0 R0 x) (l : List UInt8) : Stt f0 R0 (x.feed l) := by
  induction l generalizing x with
  | nil => exact h
  | cons b l ih => exact ih (h.byte b)

/-- A new applier on a flash. -/
theorem Inv.init (f : Fl) (h1 : f.old.length ≤ 4096) (h2 : f.pages ≤ 64) : Inv f f.reads [] Ap.init f :=
  ⟨rfl, .inl rfl, Nat.zero_le _, rfl, Nat.le_refl _, fun _ => ⟨rfl, rfl⟩, fun h => (by cases h), Nat.zero_le _, fun h => (by cases h), fun h => (by cases h), fun _ => ⟨FI.refl f, rfl, rfl, fun i hi => (by simp [Ap.init] at hi), fun i hi => (by simp [Ap.init] at hi)⟩, fun h => (by cases h), Nat.le_refl _, h1, h2⟩

/-- The end. -/
theorem fin_bad {x : AF} (h : x.a.fault ≠ .none) : x.finish = { fault := x.a.fault, x } := by unfold AF.finish; rw [if_pos h]
theorem fin_short {x : AF} (h : x.a.fault = .none) (hd : x.a.digits ≠ -1) : x.finish = { fault := .errno 5, x := { x with a := { x.a with fault := .errno 5 } } } := by
  unfold AF.finish; rw [if_neg (by rw [h]; simp), if_pos hd]
theorem Inv.over {f0 f : Fl} {R0 : Nat} {out : List UInt8} {a : Ap} (h : Inv f0 R0 out a f) (hd : a.digits = -1) : a.st = .over := by
  have := h.dig
  rw [hd] at this
  cases hs : a.st <;> rw [hs] at this <;> simp [digOk] at this
theorem Inv.over' {f0 f : Fl} {R0 : Nat} {out : List UInt8} {a : Ap} (h : Inv f0 R0 out a f) (hd : a.st = .over) : a.digits = -1 := by
  have := h.dig
  rw [hd] at this
  exact this
/-- What Finish comes to. -/
inductive FinS (f0 : Fl) (R0 : Nat) (x : AF) (y : FinR) : Prop
  | done (out : List UInt8) (h : Inv f0 R0 out x.a x.f) (hs : x.a.st = .over) (hf : y.fault = .none) (ha : y.x.a = { x.a with fault := .errno 9 }) (hfl : y.x.f = { x.f.cut with events := x.f.events ++ [(2, out.length)], length := out.length, committed := true }) (hw : x.f.wait ≠ 0)
  | short (out : List UInt8) (h : Inv f0 R0 out x.a x.f) (hs : x.a.st ≠ .over) (hf : y.fault = .errno 5) (ha : y.x.a = { x.a with fault := .errno 5 }) (hfl : y.x.f = x.f)
  | pow (out : List UInt8) (h : Inv f0 R0 out x.a x.f) (hw : x.f.wait = 0) (hw0 : 0 ≤ f0.wait) (hf : y.fault = .errno 7) (ha : y.x.a = { x.a with fault := .errno 7 }) (hfl : y.x.f = x.f)
  | bad (e : Nat) (hx : x.a.fault = if e = 7 then .errno 7 else .wrapped e) (h : Er f0 R0 e x.f) (hf : y.fault = x.a.fault) (hy : y.x = x)
theorem Stt.finish {f0 : Fl} {R0 : Nat} {x : AF} (h : Stt f0 R0 x) : FinS f0 R0 x x.finish := by
  cases h with
  | bad e hf h =>
    have := fin_bad (x := x) (by rw [hf]; split <;> simp)
    rw [this]
    exact .bad e hf h rfl rfl
  | ok out h =>
    by_cases hd : x.a.digits = -1
    · have hs := h.over hd
      obtain ⟨hl, hD⟩ := h.done (by rw [hs]; rfl)
      have hlp := h.lp
      have e : x.finish = match (x.f.commit x.a.length).err with
          | some e => { fault := .errno e, x := { a := { x.a with fault := .errno e }, f := (x.f.commit x.a.length).f } }
          | none => { fault := .none, x := { a := { x.a with fault := .errno 9 }, f := (x.f.commit x.a.length).f } } := by
        unfold AF.finish; rw [if_neg (by rw [h.nofault]; simp), if_neg (by simpa using hd)]
        rfl
      have hfl : ¬ x.f.fresh.length < x.a.length := by unfold Fl.pages at hlp; omega
      rw [e]
      have hlo : x.a.length = out.length := by rw [← hl, h.made]
      unfold Fl.commit
      rw [if_neg hfl]
      cases hc : x.f.cutB with
      | true =>
        obtain ⟨c1, c2⟩ := Fl.cut_cutB _ hc
        exact .pow out h c2 (hD.fi.cutB0 hc) rfl rfl c1
      | false =>
        simp only [Bool.false_eq_true, if_false]
        refine .done out h hs rfl rfl ?_ ?_
        · show ({ x.f.cut with events := x.f.events ++ [(2, x.a.length)], length := x.a.length, committed := true } : Fl) = _
          rw [hlo]
        · unfold Fl.cutB at hc; simpa using hc
    · rw [fin_short h.nofault hd]
      exact .short out h (fun hs => hd (h.over' hs)) rfl rfl rfl
/-- The image that is committed. -/
def Fl.image (f : Fl) : List UInt8 := if f.committed then f.fresh.take f.length else []
theorem DI.image {f0 f : Fl} {out : List UInt8} {a : Ap} (h : DI f0 out a f) : f.fresh.take out.length = out := by
  apply List.ext_getElem?
  intro i
  rw [List.getElem?_take]
  by_cases hi : i < out.length
  · rw [if_pos hi, h.fr i (by rw [h.made]; exact hi)]
  · rw [if_neg hi, List.getElem?_eq_none (by omega)]

/-- The whole: fed, and ended. -/
def Fl.apply (f : Fl) (l : List UInt8) : FinR := (AF.feed { a := Ap.init, f } l).finish
theorem init_stt (f : Fl) (h1 : f.old.length ≤ 4096) (h2 : f.pages ≤ 64) : Stt f f.reads { a := Ap.init, f } := .ok [] (Inv.init f h1 h2)
structure AnyS (f : Fl) (y : FinR) : Prop where
  old : y.x.f.old = f.old
  fresh : y.x.f.fresh.length = f.fresh.length
  longest : y.x.f.longest ≤ max f.longest 64
  num : (y.fault = .none ∧ y.x.f.committed = true) ∨ ((y.fault.num = 2 ∨ y.fault.num = 3 ∨ y.fault.num = 4 ∨ y.fault.num = 5 ∨ y.fault.num = 6 ∨ (y.fault.num = 7 ∧ 0 ≤ f.wait)) ∧ y.x.f.committed = f.committed)
theorem apply_any (f : Fl) (h1 : f.old.length ≤ 4096) (h2 : f.pages ≤ 64) (l : List UInt8) : AnyS f (f.apply l) := by
  cases ((init_stt f h1 h2).feed l).finish with
  | done out h hs hf ha hfl hw =>
    obtain ⟨j, hj⟩ := h.fi
    have hc := hj.cut
    refine ⟨?_, ?_, ?_, .inl ⟨hf, ?_⟩⟩
    · show (AF.finish _).x.f.old = _; rw [hfl]; exact hc.old
    · show (AF.finish _).x.f.fresh.length = _; rw [hfl]; exact hc.fresh
    · show (AF.finish _).x.f.longest ≤ _; rw [hfl]; exact hc.longest
    · show (AF.finish _).x.f.committed = _; rw [hfl]
  | short out h hs hf ha hfl =>
    obtain ⟨j, hj⟩ := h.fi
    refine ⟨?_, ?_, ?_, .inr ⟨?_, ?_⟩⟩
    · show (AF.finish _).x.f.old = _; rw [hfl]; exact hj.old
    · show (AF.finish _).x.f.fresh.length = _; rw [hfl]; exact hj.fresh
    · show (AF.finish _).x.f.longest ≤ _; rw [hfl]; exact hj.longest
    · show (AF.finish _).fault.num = 2 ∨ (AF.finish _).fault.num = 3 ∨ (AF.finish _).fault.num = 4 ∨ (AF.finish _).fault.num = 5 ∨ (AF.finish _).fault.num = 6 ∨ _; rw [hf]; exact .inr (.inr (.inr (.inl rfl)))
    · show (AF.finish _).x.f.committed = _; rw [hfl]; exact hj.comm
  | pow out h hw hw0 hf ha hfl =>
    obtain ⟨j, hj⟩ := h.fi
    refine ⟨?_, ?_, ?_, .inr ⟨.inr (.inr (.inr (.inr (.inr ⟨?_, hw0⟩)))), ?_⟩⟩
    · show (AF.finish _).x.f.old = _; rw [hfl]; exact hj.old
    · show (AF.finish _).x.f.fresh.length = _; rw [hfl]; exact hj.fresh
    · show (AF.finish _).x.f.longest ≤ _; rw [hfl]; exact hj.longest
    · show (AF.finish _).fault.num = 7; rw [hf]; rfl
    · show (AF.finish _).x.f.committed = _; rw [hfl]; exact hj.comm
  | bad e hx h hf hy =>
    obtain ⟨j, hj⟩ := h.fi
    refine ⟨?_, ?_, ?_, .inr ⟨?_, ?_⟩⟩
    · show (AF.finish _).x.f.old = _; rw [hy]; exact hj.old
    · show (AF.finish _).x.f.fresh.length = _; rw [hy]; exact hj.fresh
    · show (AF.finish _).x.f.longest ≤ _; rw [hy]; exact hj.longest
    · show (AF.finish _).fault.num = 2 ∨ (AF.finish _).fault.num = 3 ∨ (AF.finish _).fault.num = 4 ∨ (AF.finish _).fault.num = 5 ∨ (AF.finish _).fault.num = 6 ∨ ((AF.finish _).fault.num = 7 ∧ _)
      rw [hf, hx]
      rcases h.num with rfl | rfl | rfl | rfl | ⟨rfl, hw, _⟩
      · exact .inl rfl
      · exact .inr (.inl rfl)
      · exact .inr (.inr (.inl rfl))
      · exact .inr (.inr (.inr (.inr (.inl rfl))))
      · exact .inr (.inr (.inr (.inr (.inr ⟨rfl, hw⟩))))
    · show (AF.finish _).x.f.committed = _; rw [hy]; exact hj.comm
end Go.Fwm
end

section
/- The model: a patch that is right is taken. No condition. -/
namespace Go.Fwm
/-! ### what stands in a patch -/
def num (n : Nat) : List UInt8 := if n < 128 then [UInt8.ofNat n] else [UInt8.ofNat (n % 128 + 128), UInt8.ofNat (n / 128)]
def be32 (n : Nat) : List UInt8 := [UInt8.ofNat (n / 16777216), UInt8.ofNat (n / 65536), UInt8.ofNat (n / 256), UInt8.ofNat n]
inductive Stp
  | own (l : List UInt8)
  | copy (n p : Nat)
  | beside (n : Nat) (b : UInt8)
def Stp.enc : Stp → List UInt8
  | .own l => 0 :: num l.length ++ l
  | .copy n p => 1 :: num n ++ num p
  | .beside n b => 2 :: num n ++ [b]
def encs : List Stp → List UInt8
  | [] => []
  | s :: l => s.enc ++ encs l
theorem encs_app (l m : List Stp) : encs (l ++ m) = encs l ++ encs m := by
  induction l with
  | nil => rfl
  | cons s l ih => simp [encs, ih]
/-- What a step goes on with. -/
def Stp.out (old out : List UInt8) : Stp → List UInt8
  | .own l => l
  | .copy n p => (old.drop p).take n
  | .beside n b => (old.drop out.length).take n ++ [b]
def Stp.ok (old out : List UInt8) : Stp → Prop
  | .own l => 0 < l.length
  | .copy n p => 0 < n ∧ p + n ≤ old.length
  | .beside n _ => out.length + n ≤ old.length
/-- The steps lead on from 'out' to 'new'. -/
inductive Leads (old new : List UInt8) : List UInt8 → List Stp → Prop
  | nil : Leads old new new []
  | cons {out : List UInt8} {s : Stp} {l : List Stp} (h : s.ok old out) (hl : Leads old new (out ++ s.out old out) l) : Leads old new out (s :: l)
def headOf (old : List UInt8) (n : Nat) : List UInt8 := num old.length ++ be32 (sumAdd 0 old) ++ num n
def bodyOf (old : List UInt8) (n : Nat) (l : List Stp) : List UInt8 := headOf old n ++ encs l
def patchOf (old : List UInt8) (n : Nat) (l : List Stp) : List UInt8 := bodyOf old n l ++ be32 (sumAdd 0 (bodyOf old n l))

/-! ### numbers -/
theorem toNat_ofNat (n : Nat) : (UInt8.ofNat n).toNat = n % 256 := by simp
theorem or_mul128 (m q : Nat) (hm : m < 128) : m ||| (q * 128) = q * 128 + m := by
  rw [Nat.or_comm]
  have := Nat.two_pow_add_eq_or_of_lt (i := 7) (b := m) hm q
  rw [Nat.mul_comm q 128]
  exact this.symm
/-- The number's last byte. -/
structure NumAt (f0 : Fl) (R0 : Nat) (out : List UInt8) (x : AF) (n : Nat) (l : List UInt8) (a1 : Ap) (b : UInt8) : Prop where
  fed : x.feed l = (AF.mk a1 x.f).byte b
  inv : Inv f0 R0 out a1 x.f
  st : a1.st = x.a.st
  made : a1.made = x.a.made
  length : a1.length = x.a.length
  op : a1.op = x.a.op
  count : a1.count = x.a.count
  size : a1.size = x.a.size
  whole : (a1.number b).whole = true
  value : (a1.number b).a.value = n
  sum : (a1.number b).a.sum = sumAdd x.a.sum l
def isNum : St → Bool
  | .oldSize | .newSize | .counted | .place => true
  | _ => false
theorem isNum_iff {s : St} (h : isNum s = true) (d : Int) : digOk s d ↔ d = 0 ∨ d = 1 := by
  cases s <;> first | exact absurd h (by decide) | exact Iff.rfl
theorem num_feed {f0 : Fl} {R0 : Nat} {out : List UInt8} {x : AF} (h : Inv f0 R0 out x.a x.f) (n : Nat) (hn : n ≤ 4096) (hs : isNum x.a.st = true) (hd : x.a.digits = 0) : ∃ a1 b, NumAt f0 R0 out x n (num n) a1 b := by
  unfold num
  by_cases h1 : n < 128
  · rw [if_pos h1]
    have hb : (UInt8.ofNat n).toNat = n := by rw [toNat_ofNat]; omega
    have e : x.a.number (UInt8.ofNat n) = { whole := true, err := none, a := { x.a.addSum (UInt8.ofNat n) with digits := 0, value := n } } := by
      unfold Ap.number
      simp only [hb]
      rw [if_neg (by omega)]
      have hd' : (x.a.addSum (UInt8.ofNat n)).digits = 0 := hd
      have : x.a.digits + 1 = 1 := by omega
      simp only [this, if_true]
      rw [if_neg (by omega)]
    exact ⟨x.a, UInt8.ofNat n, rfl, h, rfl, rfl, rfl, rfl, rfl, rfl, by rw [e], by rw [e], by rw [e]; rfl⟩
  · rw [if_neg h1]
    have hb : (UInt8.ofNat (n % 128 + 128)).toNat = n % 128 + 128 := by rw [toNat_ofNat]; omega
    have hb2 : (UInt8.ofNat (n / 128)).toNat = n / 128 := by rw [toNat_ofNat]; omega
    have ha : (n % 128 + 128) &&& 127 = n % 128 := by
      have : (127 : Nat) = 2 ^ 7 - 1 := rfl
      rw [this, Nat.and_two_pow_sub_one_eq_mod]; omega
    have e : x.a.number (UInt8.ofNat (n % 128 + 128)) = { whole := false, err := none, a := { x.a.addSum (UInt8.ofNat (n % 128 + 128)) with digits := 1, value := n % 128 } } := by
      unfold Ap.number
      simp only [hb]
      have : x.a.digits + 1 = 1 := by omega
      rw [if_pos (by omega)]
      simp only [ha, this]
    have hstep : x.a.stepB x.f (UInt8.ofNat (n % 128 + 128)) = { err := none, st := x.a.st, a := (x.a.number (UInt8.ofNat (n % 128 + 128))).a, f := x.f } := by
      unfold Ap.stepB
      cases hst : x.a.st <;> rw [hst] at hs <;> first | exact absurd hs (by decide) | (simp only [e]; rfl)
    have hby := byte_ok h.nofault (b := UInt8.ofNat (n % 128 + 128)) (by rw [hstep])
    have hinv : Inv f0 R0 out (x.byte (UInt8.ofNat (n % 128 + 128))).a x.f := by
      rcases h.part (UInt8.ofNat (n % 128 + 128)) (by rw [e]) (isNum_iff hs) with ⟨_, q⟩ | ⟨y, q, _⟩
      · rw [List.append_nil] at q
        rw [hby, hstep]
        exact q
      · rw [e] at q; cases q
    rw [hstep, e] at hby
    have e2 : (x.byte (UInt8.ofNat (n % 128 + 128))).a.number (UInt8.ofNat (n / 128)) = { whole := true, err := none, a := { (x.byte (UInt8.ofNat (n % 128 + 128))).a.addSum (UInt8.ofNat (n / 128)) with digits := 0, value := n } } := by
      rw [hby]
      unfold Ap.number
      simp only [hb2]
      have q : n % 128 ||| n / 128 * 128 = n := by rw [or_mul128 _ _ (by omega)]; omega
      have q1 : ¬ ((1 : Int) + 1 = 1) := by omega
      simp only [R.next, Ap.addSum, q, q1, if_false, false_and]
      rw [if_neg (by omega)]
    refine ⟨(x.byte (UInt8.ofNat (n % 128 + 128))).a, UInt8.ofNat (n / 128), ?_, hinv, ?_, ?_, ?_, ?_, ?_, ?_, by rw [e2], by rw [e2], ?_⟩
    · show (x.byte _).byte _ = _
      rw [hby]
    · rw [hby]; rfl
    · rw [hby]; rfl
    · rw [hby]; rfl
    · rw [hby]; rfl
    · rw [hby]; rfl
    · rw [hby]; rfl
    · rw [e2, hby]
      show sumAdd (sumAdd x.a.sum [_]) [_] = _
      rw [sumAdd_app]; rfl
/-- A number of four bytes. -/
theorem be32_val (n : Nat) (hn : n < 4294967296) : (((n / 16777216 % 256 * 256 + n / 65536 % 256) * 256 + n / 256 % 256) * 256 + n % 256) = n := by omega
theorem or256 (q m : Nat) (hm : m < 256) : q * 256 ||| m = q * 256 + m := by
  have := Nat.two_pow_add_eq_or_of_lt (i := 8) (b := m) hm q
  rw [Nat.mul_comm q 256]
  exact this.symm

/-! ### from boundary to boundary -/
/-- Between two steps. -/
structure Bd (f0 : Fl) (R0 S N : Nat) (out : List UInt8) (x : AF) : Prop where
  inv : Inv f0 R0 out x.a x.f
  dig : x.a.digits = 0
  sum : x.a.sum = S
  len : x.a.length = N
  st : x.a.st = if out.length < N then .step else .fin
theorem quiet7 {f0 : Fl} {R0 : Nat} {out out' : List UInt8} {x : AF} {b : UInt8} (hw : f0.wait < 0) (h : Inv f0 R0 out x.a x.f) (he : (x.a.stepB x.f b).err = none ∨ (x.a.stepB x.f b).err = some 7) (hem : out ++ x.a.emit x.f b = out') :
    x.byte b = { a := (x.a.stepB x.f b).next, f := (x.a.stepB x.f b).f } ∧ (x.a.stepB x.f b).err = none ∧ Inv f0 R0 out' (x.byte b).a (x.byte b).f := by
  have key : (x.a.stepB x.f b).err = none ∧ Inv f0 R0 out' (x.a.stepB x.f b).next (x.a.stepB x.f b).f := by
    rcases h.step b with ⟨e1, e2⟩ | ⟨e, e1, e2⟩
    · rw [hem] at e2; exact ⟨e1, e2⟩
    · exfalso
      rcases he with he | he
      · rw [he] at e1; cases e1
      · rw [he] at e1; cases e1
        have := e2.num
        omega
  have := byte_ok h.nofault key.1
  exact ⟨this, key.1, by rw [this]; exact key.2⟩
/-- 'more' leaves these as they were. -/
theorem more_keep (a : Ap) (f : Fl) (hP : ∃ f0 out, PI f0 out a f) (hle : a.made ≤ f.pages * 64) : (a.more f).st = (if a.made < a.length then .step else .fin) ∧ (a.more f).a.digits = a.digits ∧ (a.more f).a.sum = a.sum ∧ (a.more f).a.length = a.length ∧ ((a.more f).err = none ∨ (a.more f).err = some 7) := by
  obtain ⟨f0, out, hP⟩ := hP
  unfold Ap.more
  by_cases h : a.made < a.length
  · rw [if_pos h, if_pos h]; exact ⟨rfl, rfl, rfl, rfl, .inl rfl⟩
  · rw [if_neg h, if_neg h]
    have hk : Keep a f (a.flush f).a (a.flush f).f 2 0 := by
      unfold Ap.flush
      split
      · exact (Ap.write_keep a f (a.made / 64) (a.made % 64)).1
      · exact (Keep.refl a f).mono (Nat.zero_le 2) (Nat.le_refl 0)
    refine ⟨rfl, hk.digits, hk.sum, hk.length, ?_⟩
    rcases Ap.flush_inv hP hle with ⟨e, _⟩ | ⟨e, _⟩
    · exact .inl e
    · exact .inr e
end Go.Fwm
end
