/-
  Part 12 of the common ground of this seat: what single parts show stands ahead of each.
  No condition.
-/
import Derived.Test.YtkmgcggoemlaaaaGreatDoorJ11

section
/- The model: the steps of a patch that is right. No condition. -/
namespace Go.Fwm
section
variable {f0 : Fl} {R0 S N : Nat} {out : List UInt8} {x : AF}
theorem emit_st {a : Ap} {f : Fl} {b : UInt8} (h : a.st = .oldSize ∨ a.st = .oldSum ∨ a.st = .newSize ∨ a.st = .step ∨ a.st = .fin ∨ a.st = .over) : a.emit f b = [] := by
  unfold Ap.emit
  rcases h with h | h | h | h | h | h <;> rw [h]
/-- A step's kind. -/
theorem op_byte (hw : f0.wait < 0) (h : Bd f0 R0 S N out x) (hlt : out.length < N) (k : Nat) (hk : k ≤ 2) :
    Inv f0 R0 out (x.byte (UInt8.ofNat k)).a (x.byte (UInt8.ofNat k)).f ∧ (x.byte (UInt8.ofNat k)).a.st = .counted ∧ (x.byte (UInt8.ofNat k)).a.op = k ∧ (x.byte (UInt8.ofNat k)).a.digits = 0 ∧
      (x.byte (UInt8.ofNat k)).a.sum = sumAdd S [UInt8.ofNat k] ∧ (x.byte (UInt8.ofNat k)).a.length = N := by
  have hst := h.st
  rw [if_pos hlt] at hst
  have hb : (UInt8.ofNat k).toNat = k := by rw [toNat_ofNat]; omega
  have e : x.a.stepB x.f (UInt8.ofNat k) = { err := none, st := .counted, a := { x.a.addSum (UInt8.ofNat k) with op := k }, f := x.f } := by
    unfold Ap.stepB; rw [hst]; simp only [hb]; rw [if_neg (by omega)]
  obtain ⟨q1, q2, q3⟩ := quiet7 (out' := out) (b := UInt8.ofNat k) hw h.inv (.inl (by rw [e])) (by rw [emit_st (by simp [hst]), List.append_nil])
  refine ⟨q3, ?_⟩
  rw [q1, e]
  exact ⟨rfl, rfl, h.dig, by show sumAdd x.a.sum _ = _; rw [h.sum], h.len⟩
/-- Bytes of its own. -/
theorem own_bytes (hw : f0.wait < 0) : ∀ (l : List UInt8) {S : Nat} {out : List UInt8} {x : AF}, Inv f0 R0 out x.a x.f → x.a.st = .own → x.a.count = l.length → 0 < l.length → x.a.digits = 0 → x.a.sum = S → x.a.length = N →
    Bd f0 R0 (sumAdd S l) N (out ++ l) (x.feed l) := by
  intro l
  induction l with
  | nil => intro S out x _ _ _ h; cases h
  | cons b l ih =>
    intro S out x h hst hc _ hd hs hl
    have hbody : PI f0 out (x.a.addSum b) x.f := (h.body (by rw [hst]; rfl)).of rfl rfl
    obtain ⟨hc0, hc1⟩ := h.count (by rw [hst]; rfl)
    have hlp := h.lp
    obtain ⟨k, km, _⟩ := Ap.put_keep (x.a.addSum b) x.f b
    have kp : ((x.a.addSum b).put x.f b).err = none ∨ ((x.a.addSum b).put x.f b).err = some 7 := by
      rcases Ap.put_inv hbody b (by show x.a.made < _; omega) with ⟨e, _⟩ | ⟨e, _⟩
      · exact .inl e
      · exact .inr e
    have hem : out ++ x.a.emit x.f b = out ++ [b] := by unfold Ap.emit; rw [hst]
    have km : ((x.a.addSum b).put x.f b).a.made = x.a.made + 1 := km
    have kl : ((x.a.addSum b).put x.f b).a.length = x.a.length := k.length
    have kc : ((x.a.addSum b).put x.f b).a.count = x.a.count := k.count
    have ks : ((x.a.addSum b).put x.f b).a.sum = sumAdd x.a.sum [b] := k.sum
    have kd : ((x.a.addSum b).put x.f b).a.digits = x.a.digits := k.digits
    simp only [List.length_cons] at hc
    have e0 : x.a.stepB x.f b = match ((x.a.addSum b).put x.f b).err with
        | some e => { err := some e, st := .own, a := ((x.a.addSum b).put x.f b).a, f := ((x.a.addSum b).put x.f b).f }
        | none => if 0 < ((x.a.addSum b).put x.f b).a.count - 1 then { err := none, st := .own, a := { ((x.a.addSum b).put x.f b).a with count := ((x.a.addSum b).put x.f b).a.count - 1 }, f := ((x.a.addSum b).put x.f b).f }
            else ({ ((x.a.addSum b).put x.f b).a with count := ((x.a.addSum b).put x.f b).a.count - 1 } : Ap).more ((x.a.addSum b).put x.f b).f := by
      unfold Ap.stepB; rw [hst]; rfl
    rcases kp with kp | kp
    · have hP : PI f0 (out ++ [b]) ((x.a.addSum b).put x.f b).a ((x.a.addSum b).put x.f b).f := by
        rcases Ap.put_inv hbody b (by show x.a.made < _; omega) with ⟨_, e, _⟩ | ⟨e, _⟩
        · exact e
        · rw [kp] at e; cases e
      rw [kp] at e0
      simp only at e0
      by_cases hmore : 0 < l.length
      · rw [if_pos (by omega)] at e0
        obtain ⟨q1, q2, q3⟩ := quiet7 (b := b) hw h (.inl (by rw [e0])) hem
        have := ih (S := sumAdd S [b]) q3 (by rw [q1, e0]; rfl) (by rw [q1, e0]; show ((x.a.addSum b).put x.f b).a.count - 1 = _; omega) hmore (by rw [q1, e0]; exact kd.trans hd) (by rw [q1, e0]; exact ks.trans (by rw [hs])) (by rw [q1, e0]; exact kl.trans hl)
        rw [sumAdd_app, List.append_assoc] at this
        exact this
      · obtain rfl : l = [] := List.eq_nil_of_length_eq_zero (by omega)
        rw [if_neg (by simp at hc; omega)] at e0
        obtain ⟨m1, m2, m3, m4, m5⟩ := more_keep { ((x.a.addSum b).put x.f b).a with count := ((x.a.addSum b).put x.f b).a.count - 1 } ((x.a.addSum b).put x.f b).f ⟨f0, out ++ [b], hP.of rfl rfl⟩ (by show ((x.a.addSum b).put x.f b).a.made ≤ _; rw [hP.fi.pages, ← hbody.fi.pages]; omega)
        obtain ⟨q1, q2, q3⟩ := quiet7 (b := b) hw h (by rw [e0]; exact m5) hem
        have hmd := q3.made
        refine ⟨q3, ?_, ?_, ?_, ?_⟩
        · show (x.byte b).a.digits = 0
          rw [q1, e0]; exact m2.trans (kd.trans hd)
        · show (x.byte b).a.sum = _
          rw [q1, e0]; exact m3.trans (ks.trans (by rw [hs]))
        · show (x.byte b).a.length = _
          rw [q1, e0]; exact m4.trans (kl.trans hl)
        · show (x.byte b).a.st = _
          rw [q1, e0]
          refine m1.trans ?_
          have h1 := hP.made
          show (if ((x.a.addSum b).put x.f b).a.made < ((x.a.addSum b).put x.f b).a.length then St.step else St.fin) = _
          rw [h1, kl, hl]
    · exfalso
      obtain ⟨q1, q2, q3⟩ := quiet7 (b := b) hw h (.inr (by rw [e0, kp])) hem
      rw [e0, kp] at q2; cases q2
/-- A kind and a count. -/
theorem op_num (hw : f0.wait < 0) (h : Bd f0 R0 S N out x) (hlt : out.length < N) (k : Nat) (hk : k ≤ 2) (n : Nat) (hn : n ≤ 4096) :
    ∃ (y : AF) (b : UInt8), x.feed (UInt8.ofNat k :: num n) = y.byte b ∧ Inv f0 R0 out y.a y.f ∧ y.a.st = .counted ∧ y.a.op = k ∧ y.a.length = N ∧ y.a.made = out.length ∧ (y.a.number b).whole = true ∧ (y.a.number b).a.value = n ∧ (y.a.number b).a.sum = sumAdd S (UInt8.ofNat k :: num n) := by
  obtain ⟨q1, q2, q3, q4, q5, q6⟩ := op_byte hw h hlt k hk
  obtain ⟨a1, b, hN⟩ := num_feed q1 n hn (by rw [q2]; rfl) q4
  refine ⟨⟨a1, (x.byte (UInt8.ofNat k)).f⟩, b, hN.fed, hN.inv, hN.st.trans q2, hN.op.trans q3, hN.length.trans q6, hN.inv.made, hN.whole, hN.value, ?_⟩
  show (a1.number b).a.sum = _
  rw [hN.sum, q5, sumAdd_app]; rfl

theorem step_own_ok (hw : f0.wait < 0) (h : Bd f0 R0 S N out x) (l : List UInt8) (hl : 0 < l.length) (hle : out.length + l.length ≤ N) : Bd f0 R0 (sumAdd S (Stp.own l).enc) N (out ++ l) (x.feed (Stp.own l).enc) := by
  have hN : N ≤ 4096 := by have := h.inv.lp; have := h.inv.pg; have := h.len; omega
  obtain ⟨y, b, e1, e2, e3, e4, e5, e6, e7, e8, e9⟩ := op_num hw h (by omega) 0 (by omega) l.length (by omega)
  have key : (y.a.number b).err = none ∧ (y.a.number b).a.digits = 0 := by obtain ⟨_, k1, _⟩ := Ap.number_keep y.a b; exact ⟨(k1 e7).1, (k1 e7).2.2⟩
  obtain ⟨kk, _⟩ := Ap.number_keep y.a b
  have kl := kk.length
  have km := kk.made
  have ko := kk.op
  have es : y.a.stepB y.f b = { err := none, st := .own, a := { (y.a.number b).a with count := l.length }, f := y.f } := by
    unfold Ap.stepB; rw [e3]; simp only [e7, if_true, e8]
    rw [if_neg (by omega), if_pos (by omega)]
  obtain ⟨q1, q2, q3⟩ := quiet7 (out' := out) (b := b) hw e2 (.inl (by rw [es])) (by unfold Ap.emit; rw [e3]; simp only [e4]; rw [if_neg (by omega), List.append_nil])
  have := own_bytes (N := N) hw l q3 (by rw [q1, es]; rfl) (by rw [q1, es]; rfl) hl (by rw [q1, es]; exact key.2) rfl (by rw [q1, es]; exact kl.trans e5)
  have hs : (y.byte b).a.sum = sumAdd S (UInt8.ofNat 0 :: num l.length) := by rw [q1, es]; exact e9
  rw [hs, sumAdd_app, ← e1, ← feed_app] at this
  exact this
theorem step_copy_ok (hw : f0.wait < 0) (h : Bd f0 R0 S N out x) (n p : Nat) (hn : 0 < n) (hp : p + n ≤ f0.old.length) (hle : out.length + n ≤ N) : Bd f0 R0 (sumAdd S (Stp.copy n p).enc) N (out ++ (f0.old.drop p).take n) (x.feed (Stp.copy n p).enc) := by
  have hN : N ≤ 4096 := by have := h.inv.lp; have := h.inv.pg; have := h.len; omega
  have hold : x.f.old = f0.old := by obtain ⟨j, hj⟩ := h.inv.fi; exact hj.old
  have hol := h.inv.oldl
  rw [hold] at hol
  obtain ⟨y, b, e1, e2, e3, e4, e5, e6, e7, e8, e9⟩ := op_num hw h (by omega) 1 (by omega) n (by omega)
  have key : (y.a.number b).err = none ∧ (y.a.number b).a.digits = 0 := by obtain ⟨_, k1, _⟩ := Ap.number_keep y.a b; exact ⟨(k1 e7).1, (k1 e7).2.2⟩
  obtain ⟨kk, _⟩ := Ap.number_keep y.a b
  have kl := kk.length
  have km := kk.made
  have ko := kk.op
  have es : y.a.stepB y.f b = { err := none, st := .place, a := { (y.a.number b).a with count := n }, f := y.f } := by
    unfold Ap.stepB; rw [e3]; simp only [e7, if_true, e8]
    rw [if_neg (by omega), if_neg (by omega), if_pos (by omega)]
  obtain ⟨q1, q2, q3⟩ := quiet7 (out' := out) (b := b) hw e2 (.inl (by rw [es])) (by unfold Ap.emit; rw [e3]; simp only [e4]; rw [if_neg (by omega), List.append_nil])
  obtain ⟨a1, b1, hM⟩ := num_feed q3 p (by omega) (by rw [q1, es]; rfl) (by rw [q1, es]; exact key.2)
  have s1 : a1.st = .place := hM.st.trans (by rw [q1, es]; rfl)
  have s2 : a1.count = n := hM.count.trans (by rw [q1, es]; rfl)
  have s3 : a1.length = N := hM.length.trans (by rw [q1, es]; exact kl.trans e5)
  have s4 : (a1.number b1).a.sum = sumAdd (sumAdd S (UInt8.ofNat 1 :: num n)) (num p) := hM.sum.trans (by rw [q1, es]; show sumAdd (y.a.number b).a.sum _ = _; rw [e9])
  generalize hy2 : y.byte b = y2 at q3 hM
  have hold2 : y2.f.old = f0.old := by obtain ⟨j, hj⟩ := q3.fi; exact hj.old
  obtain ⟨k2, k21, _⟩ := Ap.number_keep a1 b1
  obtain ⟨z1, z2, z3⟩ := k21 hM.whole
  have hiv : Inv f0 R0 out a1 y2.f := hM.inv
  have hmade := hiv.made
  have hlp := hiv.lp
  have hP : PI f0 out (a1.number b1).a y2.f := (hiv.body (by rw [s1]; rfl)).of k2.made k2.page
  have hval := hM.value
  have kcount := k2.count
  have kmade := k2.made
  have klen := k2.length
  have kst := k2.st
  have hck := Ap.copy_keep (a1.number b1).a y2.f (a1.number b1).a.value (a1.number b1).a.count
  have e0 : a1.stepB y2.f b1 = match ((a1.number b1).a.copy y2.f (a1.number b1).a.value (a1.number b1).a.count).err with
      | some e => { err := some e, st := .place, a := ((a1.number b1).a.copy y2.f (a1.number b1).a.value (a1.number b1).a.count).a, f := ((a1.number b1).a.copy y2.f (a1.number b1).a.value (a1.number b1).a.count).f }
      | none => ((a1.number b1).a.copy y2.f (a1.number b1).a.value (a1.number b1).a.count).a.more ((a1.number b1).a.copy y2.f (a1.number b1).a.value (a1.number b1).a.count).f := by
    unfold Ap.stepB; rw [s1]; simp only [hM.whole, if_true]; rfl
  have hsz : (a1.number b1).a.size = y2.f.old.length := k2.size.trans (hiv.size (by rw [s1]; rfl))
  have hem : out ++ a1.emit y2.f b1 = out ++ (f0.old.drop p).take n := by unfold Ap.emit; rw [s1]; simp only [hM.whole, if_true, s2, hval, hold2]
  have hfin : x.feed (Stp.copy n p).enc = (AF.mk a1 y2.f).byte b1 := by
    show x.feed ((UInt8.ofNat 1 :: num n) ++ num p) = _
    rw [feed_app, e1, hy2]; exact hM.fed
  rcases Ap.copy_inv (a1.number b1).a.value (a1.number b1).a.count hP (by omega) hsz with ⟨c1, c2, c3, c4⟩ | ⟨c1, c2⟩ | ⟨c1, c2⟩
  · rw [c1] at e0
    simp only at e0
    obtain ⟨g1, g2, g3⟩ := hck
    have g3 := g3 c1
    obtain ⟨m1, m2, m3, m4, m5⟩ := more_keep _ _ ⟨_, _, c3⟩ (by rw [g3, c3.fi.pages, ← hP.fi.pages]; omega)
    obtain ⟨v1, v2, v3⟩ := quiet7 (x := AF.mk a1 y2.f) (b := b1) hw hM.inv (by show (a1.stepB y2.f b1).err = none ∨ _; rw [e0]; exact m5) hem
    rw [hfin]
    refine ⟨v3, ?_, ?_, ?_, ?_⟩
    · rw [v1]; show (a1.stepB y2.f b1).a.digits = 0; rw [e0, m2, g1.digits]; exact z3
    · rw [v1]; show (a1.stepB y2.f b1).a.sum = _; rw [e0, m3, g1.sum, s4, sumAdd_app]; rfl
    · rw [v1]; show (a1.stepB y2.f b1).a.length = _; rw [e0, m4, g1.length]; omega
    · rw [v1]; show (a1.stepB y2.f b1).st = _
      rw [e0, m1]
      have : (out ++ (f0.old.drop p).take n).length = out.length + n := by simp; omega
      rw [this, g3, g1.length, kmade, klen, hmade, s3, kcount, s2]
  · exfalso
    obtain ⟨v1, v2, v3⟩ := quiet7 (x := AF.mk a1 y2.f) (b := b1) hw hM.inv (.inr (by show (a1.stepB y2.f b1).err = _; rw [e0, c1])) hem
    have v2 : (a1.stepB y2.f b1).err = none := v2
    rw [e0, c1] at v2; cases v2
  · rw [hold2] at c1; omega
theorem step_beside_ok (hw : f0.wait < 0) (h : Bd f0 R0 S N out x) (n : Nat) (c : UInt8) (hp : out.length + n ≤ f0.old.length) (hle : out.length + n < N) : Bd f0 R0 (sumAdd S (Stp.beside n c).enc) N (out ++ ((f0.old.drop out.length).take n ++ [c])) (x.feed (Stp.beside n c).enc) := by
  have hN : N ≤ 4096 := by have := h.inv.lp; have := h.inv.pg; have := h.len; omega
  have hold : x.f.old = f0.old := by obtain ⟨j, hj⟩ := h.inv.fi; exact hj.old
  have hol := h.inv.oldl
  rw [hold] at hol
  obtain ⟨y, b, e1, e2, e3, e4, e5, e6, e7, e8, e9⟩ := op_num hw h (by omega) 2 (by omega) n (by omega)
  obtain ⟨kk, k1, _⟩ := Ap.number_keep y.a b
  obtain ⟨z1, z2, z3⟩ := k1 e7
  have kl := kk.length
  have km := kk.made
  have ko := kk.op
  have hlp := e2.lp
  have hold1 : y.f.old = f0.old := by obtain ⟨j, hj⟩ := e2.fi; exact hj.old
  have hP : PI f0 out { (y.a.number b).a with count := n } y.f := (e2.body (by rw [e3]; rfl)).of kk.made kk.page
  have es : y.a.stepB y.f b = { err := (Ap.copy { (y.a.number b).a with count := n } y.f (y.a.number b).a.made n).err, st := .beside, a := (Ap.copy { (y.a.number b).a with count := n } y.f (y.a.number b).a.made n).a, f := (Ap.copy { (y.a.number b).a with count := n } y.f (y.a.number b).a.made n).f } := by
    unfold Ap.stepB; rw [e3]; simp only [e7, if_true, e8]
    rw [if_neg (by omega), if_neg (by omega), if_neg (by omega)]
  have hem : out ++ y.a.emit y.f b = out ++ (f0.old.drop out.length).take n := by
    unfold Ap.emit; rw [e3]; simp only [e7, e4, e8, hold1, e6]; rfl
  have hck := Ap.copy_keep { (y.a.number b).a with count := n } y.f (y.a.number b).a.made n
  rcases Ap.copy_inv (y.a.number b).a.made n hP (by show (y.a.number b).a.made + n ≤ _; omega) (kk.size.trans (e2.size (by rw [e3]; rfl))) with ⟨c1, c2, c3, c4⟩ | ⟨c1, c2⟩ | ⟨c1, c2⟩
  · obtain ⟨g1, g2, g3⟩ := hck
    have g3 := g3 c1
    obtain ⟨v1, v2, v3⟩ := quiet7 (b := b) hw e2 (.inl (by rw [es]; exact c1)) hem
    have s1 : (y.byte b).a.st = .beside := by rw [v1, es]; rfl
    have s2 : (y.byte b).a.digits = 0 := by rw [v1, es]; exact g1.digits.trans z3
    have s3 : (y.byte b).a.length = N := by rw [v1, es]; exact g1.length.trans (kl.trans e5)
    have s4 : (y.byte b).a.sum = sumAdd S (UInt8.ofNat 2 :: num n) := by rw [v1, es]; exact g1.sum.trans e9
    generalize hz : y.byte b = z at v3 s1 s2 s3 s4
    have hzl : (out ++ (f0.old.drop out.length).take n).length = out.length + n := by simp; omega
    have hzm := v3.made
    rw [hzl] at hzm
    have hlp2 := v3.lp
    have hbody : PI f0 (out ++ (f0.old.drop out.length).take n) (z.a.addSum c) z.f := (v3.body (by rw [s1]; rfl)).of rfl rfl
    obtain ⟨k, km2, _⟩ := Ap.put_keep (z.a.addSum c) z.f c
    have km2 : ((z.a.addSum c).put z.f c).a.made = z.a.made + 1 := km2
    have kl2 : ((z.a.addSum c).put z.f c).a.length = z.a.length := k.length
    have e0 : z.a.stepB z.f c = match ((z.a.addSum c).put z.f c).err with
        | some e => { err := some e, st := .beside, a := ((z.a.addSum c).put z.f c).a, f := ((z.a.addSum c).put z.f c).f }
        | none => ((z.a.addSum c).put z.f c).a.more ((z.a.addSum c).put z.f c).f := by
      unfold Ap.stepB; rw [s1]; simp only
      rw [if_neg (by show ¬ z.a.made = z.a.length; omega)]
      rfl
    have hem2 : out ++ (f0.old.drop out.length).take n ++ z.a.emit z.f c = out ++ ((f0.old.drop out.length).take n ++ [c]) := by unfold Ap.emit; rw [s1]; simp
    have hfin : x.feed (Stp.beside n c).enc = z.byte c := by
      show x.feed ((UInt8.ofNat 2 :: num n) ++ [c]) = _
      rw [feed_app, e1, hz]; rfl
    rcases Ap.put_inv hbody c (by show z.a.made < _; omega) with ⟨p1, p2, p3⟩ | ⟨p1, p2⟩
    · rw [p1] at e0
      simp only at e0
      obtain ⟨m1, m2, m3, m4, m5⟩ := more_keep _ _ ⟨_, _, p2⟩ (by rw [km2, p2.fi.pages, ← hbody.fi.pages]; omega)
      obtain ⟨w1, w2, w3⟩ := quiet7 (b := c) hw v3 (by rw [e0]; exact m5) hem2
      rw [hfin]
      refine ⟨w3, ?_, ?_, ?_, ?_⟩
      · rw [w1]; show (z.a.stepB z.f c).a.digits = 0; rw [e0, m2, k.digits]; exact s2
      · rw [w1]; show (z.a.stepB z.f c).a.sum = _; rw [e0, m3, k.sum]; show sumAdd z.a.sum _ = _; rw [s4, sumAdd_app]; rfl
      · rw [w1]; show (z.a.stepB z.f c).a.length = _; rw [e0, m4, kl2, s3]
      · rw [w1]; show (z.a.stepB z.f c).st = _
        rw [e0, m1, km2, kl2, s3, hzm]
        have : (out ++ ((f0.old.drop out.length).take n ++ [c])).length = out.length + n + 1 := by rw [← List.append_assoc]; simp; omega
        rw [this]
    · exfalso
      obtain ⟨w1, w2, w3⟩ := quiet7 (b := c) hw v3 (.inr (by rw [e0, p1])) hem2
      rw [e0, p1] at w2; cases w2
  · exfalso
    obtain ⟨v1, v2, v3⟩ := quiet7 (b := b) hw e2 (.inr (by rw [es]; exact c1)) hem
    rw [es] at v2
    rw [c1] at v2; cases v2
  · rw [hold1] at c1; omega
end
theorem Leads.pre {old new out : List UInt8} {l : List Stp} (h : Leads old new out l) : ∃ t, new = out ++ t := by
  induction h with
  | nil => exact ⟨[], by simp⟩
  | cons h hl ih => obtain ⟨t, ht⟩ := ih; exact ⟨_, by rw [ht, List.append_assoc]⟩
theorem steps_ok {f0 : Fl} {R0 : Nat} (hw : f0.wait < 0) {new out : List UInt8} {l : List Stp} (hl : Leads f0.old new out l) : ∀ {S : Nat} {x : AF}, S < 4294967296 → Bd f0 R0 S new.length out x → Bd f0 R0 (sumAdd S (encs l)) new.length new (x.feed (encs l)) := by
  induction hl with
  | nil =>
    intro S x hS h
    have : sumAdd S [] = S := inv32_inv hS
    rw [show encs [] = [] from rfl, this]
    exact h
  | cons hok hl ih =>
    rename_i out s l
    intro S x _ h
    obtain ⟨t, ht⟩ := hl.pre
    have hlen : new.length = out.length + (s.out f0.old out).length + t.length := by rw [ht, List.length_append, List.length_append]
    have key : Bd f0 R0 (sumAdd S s.enc) new.length (out ++ s.out f0.old out) (x.feed s.enc) := by
      cases s with
      | own m => exact step_own_ok hw h m hok (by show _ + m.length ≤ _; rw [hlen]; show _ ≤ _ + m.length + _; omega)
      | copy n p =>
        obtain ⟨h1, h2⟩ := hok
        have : ((f0.old.drop p).take n).length = n := by simp; omega
        have hlen : new.length = out.length + ((f0.old.drop p).take n).length + t.length := hlen
        exact step_copy_ok hw h n p h1 h2 (by omega)
      | beside n b =>
        have hok : out.length + n ≤ f0.old.length := hok
        have : ((f0.old.drop out.length).take n ++ [b]).length = n + 1 := by simp; omega
        have hlen : new.length = out.length + ((f0.old.drop out.length).take n ++ [b]).length + t.length := hlen
        exact step_beside_ok hw h n b hok (by omega)
    have := ih (sumAdd_lt _ _) key
    rw [sumAdd_app, ← feed_app] at this
    exact this
end Go.Fwm
end

section
/- The model: a whole patch that is right; one for another image. No condition. -/
namespace Go.Fwm
theorem fx_eq (v m : Nat) (hm : m < 256) : (v * 256) % 4294967296 ||| m = (v % 16777216) * 256 + m := by
  have : (v * 256) % 4294967296 = (v % 16777216) * 256 := by omega
  rw [this, or256 _ _ hm]
theorem fixed_value (a : Ap) (b : UInt8) : (a.fixed b).a.value = (a.value % 16777216) * 256 + b.toNat ∧ ((a.fixed b).whole = decide (4 ≤ a.digits + 1)) ∧ (a.digits + 1 < 4 → (a.fixed b).a.digits = a.digits + 1) ∧ (4 ≤ a.digits + 1 → (a.fixed b).a.digits = 0) := by
  have hb := b.toNat_lt
  unfold Ap.fixed
  simp only
  rw [fx_eq _ _ (by omega)]
  by_cases h : a.digits + 1 < 4
  · rw [if_pos h]; exact ⟨rfl, by simp; omega, fun _ => rfl, fun x => by omega⟩
  · rw [if_neg h]; exact ⟨rfl, by simp; omega, fun x => by omega, fun _ => rfl⟩
section
variable {f0 : Fl} {R0 : Nat} {out : List UInt8}
/-- The length of the old image. -/
theorem head1 (f : Fl) (hw : f.wait < 0) (h1 : f.old.length ≤ 4096) (h2 : f.pages ≤ 64) (n : Nat) (hn : n ≤ 4096) :
    ∃ y, AF.feed { a := Ap.init, f } (num n) = y ∧ Inv f f.reads [] y.a y.f ∧ y.a.st = .oldSum ∧ y.a.size = n ∧ y.a.digits = 0 ∧ y.a.sum = sumAdd 0 (num n) := by
  obtain ⟨a1, b, hN⟩ := num_feed (x := { a := Ap.init, f }) (Inv.init f h1 h2) n hn rfl rfl
  have s1 : a1.st = .oldSize := hN.st
  obtain ⟨k, k1, _⟩ := Ap.number_keep a1 b
  obtain ⟨z1, z2, z3⟩ := k1 hN.whole
  have es : a1.stepB f b = { err := none, st := .oldSum, a := { (a1.number b).a with size := (a1.number b).a.value }, f } := by
    unfold Ap.stepB; rw [s1]; simp only [hN.whole, if_true]
  obtain ⟨q1, q2, q3⟩ := quiet7 (x := AF.mk a1 f) (out' := []) (b := b) hw hN.inv (.inl (by show (a1.stepB f b).err = _; rw [es])) (by show [] ++ a1.emit f b = []; rw [emit_st (.inl s1)]; rfl)
  have q1 : (AF.mk a1 f).byte b = { a := (a1.stepB f b).next, f := (a1.stepB f b).f } := q1
  refine ⟨_, hN.fed, q3, ?_⟩
  rw [q1, es]
  exact ⟨rfl, hN.value, z3, hN.sum⟩
/-- A byte of the old image's sum that is not the last one. -/
theorem sum_byte {x : AF} (hw : f0.wait < 0) (h : Inv f0 R0 out x.a x.f) (hs : x.a.st = .oldSum) (b : UInt8) (hd : x.a.digits + 1 < 4) :
    Inv f0 R0 out (x.byte b).a (x.byte b).f ∧ (x.byte b).a.st = .oldSum ∧ (x.byte b).a.size = x.a.size ∧ (x.byte b).a.digits = x.a.digits + 1 ∧ (x.byte b).a.sum = sumAdd x.a.sum [b] ∧ (x.byte b).a.value = (x.a.value % 16777216) * 256 + b.toNat := by
  obtain ⟨v1, v2, v3, v4⟩ := fixed_value (x.a.addSum b) b
  have v2 : ((x.a.addSum b).fixed b).whole = false := by rw [v2]; have : (x.a.addSum b).digits = x.a.digits := rfl; simp [this]; omega
  obtain ⟨k, _, _, k3⟩ := Ap.fixed_keep (x.a.addSum b) b
  have es : x.a.stepB x.f b = { err := none, st := .oldSum, a := ((x.a.addSum b).fixed b).a, f := x.f } := by
    unfold Ap.stepB; rw [hs]; simp only [v2]; rfl
  obtain ⟨q1, q2, q3⟩ := quiet7 (out' := out) (b := b) hw h (.inl (by rw [es])) (by rw [emit_st (.inr (.inl hs)), List.append_nil])
  refine ⟨q3, ?_⟩
  rw [q1, es]
  exact ⟨rfl, k.size, v3 hd, k3, v1⟩
/-- All of the sum but its last byte. -/
theorem head2 {x : AF} (hw : f0.wait < 0) (h : Inv f0 R0 out x.a x.f) (hs : x.a.st = .oldSum) (hd : x.a.digits = 0) (S : Nat) (hS : S < 4294967296) :
    ∃ (y : AF) (b : UInt8), x.feed (be32 S) = y.byte b ∧ Inv f0 R0 out y.a y.f ∧ y.a.st = .oldSum ∧ y.a.size = x.a.size ∧ ((y.a.addSum b).fixed b).whole = true ∧ ((y.a.addSum b).fixed b).a.value = S ∧ ((y.a.addSum b).fixed b).a.digits = 0 ∧ ((y.a.addSum b).fixed b).a.sum = sumAdd x.a.sum (be32 S) := by
  obtain ⟨a1, a2, a3, a4, a5, a6⟩ := sum_byte hw h hs (UInt8.ofNat (S / 16777216)) (by omega)
  obtain ⟨b1, b2, b3, b4, b5, b6⟩ := sum_byte hw a1 a2 (UInt8.ofNat (S / 65536)) (by omega)
  obtain ⟨c1, c2, c3, c4, c5, c6⟩ := sum_byte hw b1 b2 (UInt8.ofNat (S / 256)) (by omega)
  refine ⟨_, UInt8.ofNat S, rfl, c1, c2, c3.trans (b3.trans a3), ?_⟩
  generalize ((x.byte (UInt8.ofNat (S / 16777216))).byte (UInt8.ofNat (S / 65536))).byte (UInt8.ofNat (S / 256)) = y at c1 c2 c3 c4 c5 c6
  obtain ⟨v1, v2, v3, v4⟩ := fixed_value (y.a.addSum (UInt8.ofNat S)) (UInt8.ofNat S)
  obtain ⟨k, _, _, k3⟩ := Ap.fixed_keep (y.a.addSum (UInt8.ofNat S)) (UInt8.ofNat S)
  have hdy : (y.a.addSum (UInt8.ofNat S)).digits = 3 := by show y.a.digits = 3; omega
  refine ⟨?_, ?_, v4 (by omega), ?_⟩
  · rw [v2, hdy]; rfl
  · rw [v1]
    show y.a.value % 16777216 * 256 + _ = _
    rw [c6, b6, a6]
    simp only [toNat_ofNat]
    omega
  · rw [k3]
    show sumAdd y.a.sum [_] = _
    rw [c5, b5, a5, sumAdd_app, sumAdd_app, sumAdd_app]; rfl
/-- The old image is another one. -/
theorem other_refused (f : Fl) (hw : f.wait < 0) (h1 : f.old.length ≤ 4096) (h2 : f.pages ≤ 64) (old : List UInt8) (hn : old.length ≤ 4096) (hne : f.old.length ≠ old.length ∨ sumAdd 0 f.old ≠ sumAdd 0 old) (rest : List UInt8) :
    (f.apply (num old.length ++ be32 (sumAdd 0 old) ++ rest)).fault = .wrapped 3 ∧ (f.apply (num old.length ++ be32 (sumAdd 0 old) ++ rest)).x.f.committed = f.committed := by
  obtain ⟨y, e1, e2, e3, e4, e5, e6⟩ := head1 f hw h1 h2 old.length hn
  obtain ⟨z, b, g1, g2, g3, g4, g5, g6, g7, g8⟩ := head2 hw e2 e3 e5 (sumAdd 0 old) (sumAdd_lt _ _)
  have hold : z.f.old = f.old := by obtain ⟨j, hj⟩ := g2.fi; exact hj.old
  obtain ⟨k, _⟩ := Ap.fixed_keep (z.a.addSum b) b
  have hsz : ((z.a.addSum b).fixed b).a.size = old.length := by rw [k.size]; show z.a.size = _; rw [g4, e4]
  have key : (z.a.stepB z.f b).err = some 3 := by
    unfold Ap.stepB; rw [g3]; simp only [g5, if_true]
    rw [hold]
    by_cases hl : f.old.length ≠ old.length
    · rw [if_pos (by rw [hsz]; exact Ne.symm hl)]
    · have hl' : f.old.length = old.length := by simpa using hl
      rw [if_neg (by rw [hsz, hl']; simp)]
      have hb := (g2.body (by rw [g3]; rfl)).fi
      rcases Ap.sumOld_inv (((z.a.addSum b).fixed b).a.size + 1) (a := ((z.a.addSum b).fixed b).a) 0 0 (by omega) hb (by rw [hsz, hold, hl']) (by omega) (Nat.zero_le _) with ⟨z1, z2, _⟩ | ⟨z1, z2⟩
      · simp only [z1]
        rw [if_pos (by rw [z2, g6, hold]; simpa [hl'] using hne)]
      · have := z2.w0; omega
  have hf : (z.byte b).a.fault = .wrapped 3 ∧ (z.byte b).f.committed = f.committed := by
    rw [byte_err g2.nofault key]
    refine ⟨rfl, ?_⟩
    rcases g2.step b with ⟨q, _⟩ | ⟨e, q, q2⟩
    · rw [key] at q; cases q
    · obtain ⟨j, hj⟩ := q2.fi; exact hj.comm
  have hfeed : AF.feed { a := Ap.init, f } (num old.length ++ be32 (sumAdd 0 old) ++ rest) = z.byte b := by
    rw [feed_app, feed_app, e1, g1]
    exact feed_bad (by rw [hf.1]; simp) rest
  unfold Fl.apply
  rw [hfeed, fin_bad (by rw [hf.1]; simp)]
  exact hf
/-- Up to the new length. -/
theorem head3 (f : Fl) (hw : f.wait < 0) (h1 : f.old.length ≤ 4096) (h2 : f.pages ≤ 64) :
    ∃ y, AF.feed { a := Ap.init, f } (num f.old.length ++ be32 (sumAdd 0 f.old)) = y ∧ Inv f f.reads [] y.a y.f ∧ y.a.st = .newSize ∧ y.a.digits = 0 ∧ y.a.sum = sumAdd 0 (num f.old.length ++ be32 (sumAdd 0 f.old)) := by
  obtain ⟨y, e1, e2, e3, e4, e5, e6⟩ := head1 f hw h1 h2 f.old.length h1
  obtain ⟨z, b, g1, g2, g3, g4, g5, g6, g7, g8⟩ := head2 hw e2 e3 e5 (sumAdd 0 f.old) (sumAdd_lt _ _)
  have hold : z.f.old = f.old := by obtain ⟨j, hj⟩ := g2.fi; exact hj.old
  obtain ⟨k, _⟩ := Ap.fixed_keep (z.a.addSum b) b
  have hsz : ((z.a.addSum b).fixed b).a.size = f.old.length := by rw [k.size]; show z.a.size = _; rw [g4, e4]
  have hb := (g2.body (by rw [g3]; rfl)).fi
  have key : (z.a.stepB z.f b).err = none ∧ (z.a.stepB z.f b).st = .newSize ∧ (z.a.stepB z.f b).a.digits = 0 ∧ (z.a.stepB z.f b).a.sum = sumAdd 0 (num f.old.length ++ be32 (sumAdd 0 f.old)) := by
    unfold Ap.stepB; rw [g3]; simp only [g5, if_true]
    rw [if_neg (by rw [hsz, hold]; simp)]
    rcases Ap.sumOld_inv (((z.a.addSum b).fixed b).a.size + 1) (a := ((z.a.addSum b).fixed b).a) 0 0 (by omega) hb (by rw [hsz, hold]) (by omega) (Nat.zero_le _) with ⟨z1, z2, _, _, ⟨bf, z5⟩, _⟩ | ⟨z1, z2⟩
    · simp only [z1]
      rw [if_neg (by rw [z2, g6, hold]; simp)]
      refine ⟨rfl, rfl, ?_, ?_⟩
      · rw [z5]; exact g7
      · rw [z5]; show ((z.a.addSum b).fixed b).a.sum = _; rw [g8, e6, sumAdd_app]
    · have := z2.w0; omega
  obtain ⟨q1, q2, q3⟩ := quiet7 (out' := []) (b := b) hw g2 (.inl key.1) (by rw [emit_st (.inr (.inl g3))]; rfl)
  refine ⟨z.byte b, by rw [feed_app, e1, g1], q3, ?_⟩
  rw [q1]
  exact key.2
theorem size_refused (f : Fl) (hw : f.wait < 0) (h1 : f.old.length ≤ 4096) (h2 : f.pages ≤ 64) (n : Nat) (hn : n ≤ 4096) (hbig : f.pages * 64 < n) (rest : List UInt8) :
    (f.apply (headOf f.old n ++ rest)).fault = .wrapped 4 ∧ (f.apply (headOf f.old n ++ rest)).x.f.committed = f.committed := by
  obtain ⟨y, e1, e2, e3, e4, e5⟩ := head3 f hw h1 h2
  obtain ⟨a1, b, hN⟩ := num_feed e2 n hn (by rw [e3]; rfl) e4
  have s1 : a1.st = .newSize := hN.st.trans e3
  have hpg : y.f.pages = f.pages := by obtain ⟨j, hj⟩ := e2.fi; exact hj.pages
  have key : (a1.stepB y.f b).err = some 4 := by
    unfold Ap.stepB; rw [s1]; simp only [hN.whole, if_true]
    rw [if_pos (by show y.f.pages * 64 < (a1.number b).a.value; rw [hN.value, hpg]; exact hbig)]
  have hf : ((AF.mk a1 y.f).byte b).a.fault = .wrapped 4 ∧ ((AF.mk a1 y.f).byte b).f.committed = f.committed := by
    rw [byte_err (x := AF.mk a1 y.f) hN.inv.nofault key]
    refine ⟨rfl, ?_⟩
    rcases hN.inv.step b with ⟨q, _⟩ | ⟨e, q, q2⟩
    · rw [key] at q; cases q
    · obtain ⟨j, hj⟩ := q2.fi; exact hj.comm
  have hfeed : AF.feed { a := Ap.init, f } (headOf f.old n ++ rest) = (AF.mk a1 y.f).byte b := by
    unfold headOf
    rw [feed_app, feed_app, e1, hN.fed]
    exact feed_bad (by rw [hf.1]; simp) rest
  unfold Fl.apply
  rw [hfeed, fin_bad (by rw [hf.1]; simp)]
  exact hf
/-- The head of a patch that is right. -/
theorem head_ok (f : Fl) (hw : f.wait < 0) (h1 : f.old.length ≤ 4096) (h2 : f.pages ≤ 64) (n : Nat) (hn : n ≤ f.pages * 64) : Bd f f.reads (sumAdd 0 (headOf f.old n)) n [] (AF.feed { a := Ap.init, f } (headOf f.old n)) := by
  obtain ⟨y, e1, e2, e3, e4, e5⟩ := head3 f hw h1 h2
  obtain ⟨a1, b, hN⟩ := num_feed e2 n (by omega) (by rw [e3]; rfl) e4
  have s1 : a1.st = .newSize := hN.st.trans e3
  have hpg : y.f.pages = f.pages := by obtain ⟨j, hj⟩ := e2.fi; exact hj.pages
  obtain ⟨k, k1, _⟩ := Ap.number_keep a1 b
  obtain ⟨z1, z2, z3⟩ := k1 hN.whole
  have e0 : a1.stepB y.f b = ({ (a1.number b).a with length := n } : Ap).more y.f := by
    unfold Ap.stepB; rw [s1]; simp only [hN.whole, if_true, hN.value]
    rw [if_neg (by rw [hpg]; omega)]
  have hP : PI f [] { (a1.number b).a with length := n } y.f := (hN.inv.body (by rw [s1]; rfl)).of k.made k.page
  have hmade : (a1.number b).a.made = 0 := by rw [k.made]; exact hN.inv.made
  obtain ⟨m1, m2, m3, m4, m5⟩ := more_keep { (a1.number b).a with length := n } y.f ⟨_, _, hP⟩ (by show (a1.number b).a.made ≤ _; omega)
  obtain ⟨q1, q2, q3⟩ := quiet7 (x := AF.mk a1 y.f) (out' := []) (b := b) hw hN.inv (by show (a1.stepB y.f b).err = none ∨ _; rw [e0]; exact m5) (by show [] ++ a1.emit y.f b = []; rw [emit_st (.inr (.inr (.inl s1)))]; rfl)
  have q1 : (AF.mk a1 y.f).byte b = { a := (a1.stepB y.f b).next, f := (a1.stepB y.f b).f } := q1
  have hfeed : AF.feed { a := Ap.init, f } (headOf f.old n) = (AF.mk a1 y.f).byte b := by
    unfold headOf
    rw [feed_app, e1, hN.fed]
  rw [hfeed]
  refine ⟨q3, ?_, ?_, ?_, ?_⟩
  · rw [q1]; show (a1.stepB y.f b).a.digits = 0; rw [e0, m2]; exact z3
  · rw [q1]; show (a1.stepB y.f b).a.sum = _; rw [e0, m3]; show (a1.number b).a.sum = _; rw [hN.sum, e5, sumAdd_app]; rfl
  · rw [q1]; show (a1.stepB y.f b).a.length = _; rw [e0, m4]
  · rw [q1]; show (a1.stepB y.f b).st = _; rw [e0, m1, hmade]; rfl
/-- A byte of the last sum that is not the last one. -/
theorem fin_byte {x : AF} (hw : f0.wait < 0) (h : Inv f0 R0 out x.a x.f) (hs : x.a.st = .fin) (b : UInt8) (hd : x.a.digits + 1 < 4) :
    Inv f0 R0 out (x.byte b).a (x.byte b).f ∧ (x.byte b).a.st = .fin ∧ (x.byte b).a.digits = x.a.digits + 1 ∧ (x.byte b).a.sum = x.a.sum ∧ (x.byte b).a.value = (x.a.value % 16777216) * 256 + b.toNat := by
  obtain ⟨v1, v2, v3, v4⟩ := fixed_value x.a b
  have v2 : (x.a.fixed b).whole = false := by rw [v2]; simp; omega
  obtain ⟨k, _, _, k3⟩ := Ap.fixed_keep x.a b
  have es : x.a.stepB x.f b = { err := none, st := .fin, a := (x.a.fixed b).a, f := x.f } := by
    unfold Ap.stepB; rw [hs]; simp only [v2]; rfl
  obtain ⟨q1, q2, q3⟩ := quiet7 (out' := out) (b := b) hw h (.inl (by rw [es])) (by rw [emit_st (by simp [hs]), List.append_nil])
  refine ⟨q3, ?_⟩
  rw [q1, es]
  exact ⟨rfl, v3 hd, k3, v1⟩
theorem fin_ok4 {x : AF} (hw : f0.wait < 0) (h : Inv f0 R0 out x.a x.f) (hs : x.a.st = .fin) (hd : x.a.digits = 0) (hS : x.a.sum < 4294967296) : Inv f0 R0 out (x.feed (be32 x.a.sum)).a (x.feed (be32 x.a.sum)).f ∧ (x.feed (be32 x.a.sum)).a.st = .over := by
  obtain ⟨S, hSe⟩ : ∃ S, x.a.sum = S := ⟨_, rfl⟩
  rw [hSe] at hS ⊢
  obtain ⟨a1, a2, a4, a5, a6⟩ := fin_byte hw h hs (UInt8.ofNat (S / 16777216)) (by omega)
  obtain ⟨b1, b2, b4, b5, b6⟩ := fin_byte hw a1 a2 (UInt8.ofNat (S / 65536)) (by omega)
  obtain ⟨c1, c2, c4, c5, c6⟩ := fin_byte hw b1 b2 (UInt8.ofNat (S / 256)) (by omega)
  show Inv f0 R0 out (AF.byte _ (UInt8.ofNat S)).a (AF.byte _ (UInt8.ofNat S)).f ∧ (AF.byte _ (UInt8.ofNat S)).a.st = .over
  generalize ((x.byte (UInt8.ofNat (S / 16777216))).byte (UInt8.ofNat (S / 65536))).byte (UInt8.ofNat (S / 256)) = y at c1 c2 c4 c5 c6
  obtain ⟨v1, v2, v3, v4⟩ := fixed_value y.a (UInt8.ofNat S)
  obtain ⟨k, _, _, k3⟩ := Ap.fixed_keep y.a (UInt8.ofNat S)
  have v2 : (y.a.fixed (UInt8.ofNat S)).whole = true := by rw [v2]; simp; omega
  have hv : (y.a.fixed (UInt8.ofNat S)).a.value = S := by
    rw [v1, c6, b6, a6]
    simp only [toNat_ofNat]
    omega
  have es : y.a.stepB y.f (UInt8.ofNat S) = { err := none, st := .over, a := { (y.a.fixed (UInt8.ofNat S)).a with digits := -1 }, f := y.f } := by
    unfold Ap.stepB; rw [c2]; simp only [v2, if_true]
    rw [if_neg (by rw [hv, k3, c5, b5, a5, hSe]; simp)]
  obtain ⟨q1, q2, q3⟩ := quiet7 (out' := out) (b := UInt8.ofNat S) hw c1 (.inl (by rw [es])) (by rw [emit_st (by simp [c2]), List.append_nil])
  exact ⟨q3, by rw [q1, es]; rfl⟩
/-- ████ A PATCH THAT IS RIGHT. ████ -/
theorem patch_fed (f : Fl) (hw : f.wait < 0) (h1 : f.old.length ≤ 4096) (h2 : f.pages ≤ 64) (new : List UInt8) (l : List Stp) (hl : Leads f.old new [] l) (hn : new.length ≤ f.pages * 64) :
    Inv f f.reads new (AF.feed { a := Ap.init, f } (patchOf f.old new.length l)).a (AF.feed { a := Ap.init, f } (patchOf f.old new.length l)).f ∧ (AF.feed { a := Ap.init, f } (patchOf f.old new.length l)).a.st = .over := by
  have hB := steps_ok hw hl (sumAdd_lt _ _) (head_ok f hw h1 h2 new.length hn)
  rw [sumAdd_app, ← feed_app] at hB
  have hst := hB.st
  rw [if_neg (by omega)] at hst
  have := fin_ok4 hw hB.inv hst hB.dig (by rw [hB.sum]; exact sumAdd_lt _ _)
  rw [hB.sum, ← feed_app] at this
  exact this
theorem patch_applied (f : Fl) (hw : f.wait < 0) (h1 : f.old.length ≤ 4096) (h2 : f.pages ≤ 64) (new : List UInt8) (l : List Stp) (hl : Leads f.old new [] l) (hn : new.length ≤ f.pages * 64) :
    let y := f.apply (patchOf f.old new.length l)
    y.fault = .none ∧ y.x.f.committed = true ∧ y.x.f.length = new.length ∧ y.x.f.fresh.take new.length = new ∧ y.x.f.old = f.old ∧ y.x.f.fresh.length = f.fresh.length ∧ y.x.f.events = f.events ++ evs (2 * ((new.length + 63) / 64)) ++ [(2, new.length)] ∧ y.x.f.wait = f.wait := by
  obtain ⟨hI, hs⟩ := patch_fed f hw h1 h2 new l hl hn
  intro y
  have hS : Stt f f.reads (AF.feed { a := Ap.init, f } (patchOf f.old new.length l)) := .ok _ hI
  have hD := hI.done (by rw [hs]; rfl)
  have hmd := hI.made
  cases hS.finish with
  | done out h hs' hf ha hfl hw' =>
    have hout : out.length = new.length := by rw [← h.made, hI.made]
    obtain ⟨c1, c2, c3, _⟩ := Fl.cut_keep (AF.feed { a := Ap.init, f } (patchOf f.old new.length l)).f
    refine ⟨hf, ?_, ?_, ?_, ?_, ?_, ?_, ?_⟩
    · show (AF.finish _).x.f.committed = _; rw [hfl]
    · show (AF.finish _).x.f.length = _; rw [hfl]; exact hout
    · show List.take _ (AF.finish _).x.f.fresh = _; rw [hfl]; show List.take _ (Fl.cut _).fresh = _; rw [c2]; exact hD.2.image
    · show (AF.finish _).x.f.old = _; rw [hfl]; exact c1.trans hD.2.fi.old
    · show (AF.finish _).x.f.fresh.length = _; rw [hfl]; show (Fl.cut _).fresh.length = _; rw [c2]; exact hD.2.fi.fresh
    · show (AF.finish _).x.f.events = _; rw [hfl]; show _ ++ _ = _; rw [hD.2.fi.ev, hout, hmd]
    · show (AF.finish _).x.f.wait = _; rw [hfl]; exact hD.2.fi.cut.wait.1 hw
  | short out h hs' hf ha hfl => exact absurd hs hs'
  | pow out h hw' hw0 hf ha hfl => omega
  | bad e hx h hf hy => rw [hI.nofault] at hx; split at hx <;> cases hx
end
end Go.Fwm
end

section
/- The model: the sum tells one byte that is another; what is accepted ends with its sum; ends. No condition. -/
namespace Go.Fwm
/-! ### the sum is one to one -/
theorem poly_lt : poly < 4294967296 := by unfold poly; omega
theorem shr_lt {c : Nat} (h : c < 4294967296) : c >>> 1 < 2147483648 := by rw [Nat.shiftRight_eq_div_pow]; omega
theorem rnd_top {c : Nat} (h : c < 4294967296) : (rnd c).testBit 31 = decide (c % 2 = 1) := by
  unfold rnd
  rw [Nat.testBit_xor]
  have h1 : (c >>> 1).testBit 31 = false := Nat.testBit_lt_two_pow (by have := shr_lt h; omega)
  have h2 : c &&& 1 = c % 2 := Nat.and_two_pow_sub_one_eq_mod c 1
  rw [h1, h2]
  have : c % 2 = 0 ∨ c % 2 = 1 := by omega
  rcases this with e | e
  · rw [e, Nat.zero_mul]; simp
  · rw [e, Nat.one_mul]; unfold poly; decide
theorem rnd_inj {c d : Nat} (hc : c < 4294967296) (hd : d < 4294967296) (h : rnd c = rnd d) : c = d := by
  have h1 := rnd_top hc
  rw [h, rnd_top hd] at h1
  have h2 : c % 2 = d % 2 := by
    have e1 : c % 2 = 0 ∨ c % 2 = 1 := by omega
    have e2 : d % 2 = 0 ∨ d % 2 = 1 := by omega
    rcases e1 with e1 | e1 <;> rcases e2 with e2 | e2 <;> rw [e1, e2] at h1 <;> first | omega | exact absurd h1 (by decide)
  have hc2 : c &&& 1 = c % 2 := Nat.and_two_pow_sub_one_eq_mod c 1
  have hd2 : d &&& 1 = d % 2 := Nat.and_two_pow_sub_one_eq_mod d 1
  have h3 : c >>> 1 = d >>> 1 := by
    unfold rnd at h
    rw [hc2, hd2, h2] at h
    have := congrArg (fun x => x ^^^ (d % 2 * poly)) h
    simpa [Nat.xor_assoc] using this
  rw [Nat.shiftRight_eq_div_pow, Nat.shiftRight_eq_div_pow] at h3
  omega
theorem rnds_inj {c d : Nat} (n : Nat) (hc : c < 4294967296) (hd : d < 4294967296) (h : rnds n c = rnds n d) : c = d := by
  induction n with
  | zero => exact h
  | succ n ih => exact ih (rnd_inj (rnds_lt hc n) (rnds_lt hd n) h)
theorem xorB_lt {c : Nat} (h : c < 4294967296) (x : UInt8) : c ^^^ x.toNat < 4294967296 := by
  have hx := x.toNat_lt
  exact Nat.xor_lt_two_pow (n := 32) (by omega) (by omega)
theorem crcB_inj {c d : Nat} (hc : c < 4294967296) (hd : d < 4294967296) (x : UInt8) (h : crcB c x = crcB d x) : c = d := by
  have := rnds_inj 8 (xorB_lt hc x) (xorB_lt hd x) h
  have := congrArg (fun y => y ^^^ x.toNat) this
  simpa [Nat.xor_assoc] using this
theorem crcB_inj2 {c : Nat} (hc : c < 4294967296) (x y : UInt8) (h : crcB c x = crcB c y) : x = y := by
  have h1 := rnds_inj 8 (xorB_lt hc x) (xorB_lt hc y) h
  have h2 := congrArg (fun z => c ^^^ z) h1
  simp only [← Nat.xor_assoc, Nat.xor_self, Nat.zero_xor] at h2
  exact UInt8.toNat_inj.1 h2
theorem crcL_inj {c d : Nat} (hc : c < 4294967296) (hd : d < 4294967296) (l : List UInt8) (h : crcL c l = crcL d l) : c = d := by
  induction l generalizing c d with
  | nil => exact h
  | cons x l ih => exact crcB_inj hc hd x (ih (crcB_lt hc x) (crcB_lt hd x) h)
theorem inv32_inj {c d : Nat} (hc : c < 4294967296) (hd : d < 4294967296) (h : inv32 c = inv32 d) : c = d := by unfold inv32 at h; omega
theorem crcL_one {c : Nat} (hc : c < 4294967296) (l m : List UInt8) (x y : UInt8) (h : crcL c (l ++ x :: m) = crcL c (l ++ y :: m)) : x = y := by
  rw [crcL_app, crcL_app] at h
  have hl := crcL_lt hc l
  exact crcB_inj2 hl x y (crcL_inj (crcB_lt hl x) (crcB_lt hl y) m h)
theorem sum_one (S : Nat) (l m : List UInt8) (x y : UInt8) (h : sumAdd S (l ++ x :: m) = sumAdd S (l ++ y :: m)) : x = y :=
  crcL_one (inv32_lt S) l m x y (inv32_inj (crcL_lt (inv32_lt S) _) (crcL_lt (inv32_lt S) _) h)

/-! ### what is accepted ends with its sum -/
def val (q : List UInt8) : Nat := q.foldl (fun v b => v * 256 + b.toNat) 0
theorem val_snoc (q : List UInt8) (b : UInt8) : val (q ++ [b]) = val q * 256 + b.toNat := by simp [val]
theorem val_be32 (S : Nat) (h : S < 4294967296) : val (be32 S) = S := by
  show ((((0 * 256 + _) * 256 + _) * 256 + _) * 256 + _ : Nat) = S
  simp only [toNat_ofNat]
  omega
theorem val_inj {q r : List UInt8} (hl : q.length = r.length) (h : val q = val r) : q = r := by
  obtain ⟨n, hn⟩ : ∃ n, q.length = n := ⟨_, rfl⟩
  induction n generalizing q r with
  | zero =>
    rw [List.eq_nil_of_length_eq_zero hn, List.eq_nil_of_length_eq_zero (l := r) (by omega)]
  | succ n ih =>
    obtain ⟨q', b, rfl⟩ : ∃ q' b, q = q' ++ [b] := ⟨q.dropLast, q.getLast (by rintro rfl; simp at hn), (List.dropLast_concat_getLast _).symm⟩
    obtain ⟨r', c, rfl⟩ : ∃ r' c, r = r' ++ [c] := ⟨r.dropLast, r.getLast (by rintro rfl; rw [hn] at hl; simp at hl), (List.dropLast_concat_getLast _).symm⟩
    rw [val_snoc, val_snoc] at h
    have hb := b.toNat_lt
    have hc := c.toNat_lt
    simp only [List.length_append, List.length_cons, List.length_nil] at hl hn
    have e1 : val q' = val r' := by omega
    have e2 : b = c := UInt8.toNat_inj.1 (by omega)
    rw [ih (by omega) e1 (by omega), e2]
/-- How the sum stands to what was fed. -/
structure Sm (c : List UInt8) (a : Ap) : Prop where
  body : ended a.st = false → a.sum = sumAdd 0 c
  fin : a.st = .fin → ∃ b q, c = b ++ q ∧ a.sum = sumAdd 0 b ∧ (q.length : Int) = a.digits ∧ a.value % 256 ^ q.length = val q
  over : a.st = .over → ∃ b q, c = b ++ q ∧ q.length = 4 ∧ val q = sumAdd 0 b
theorem more_sm {a : Ap} {f : Fl} {c : List UInt8} (hs : a.sum = sumAdd 0 c) (hd : a.digits = 0) (he : ∃ f0 out, PI f0 out a f) (hle : a.made ≤ f.pages * 64) : Sm c (a.more f).next := by
  obtain ⟨m1, m2, m3, m4, m5⟩ := more_keep a f he hle
  refine ⟨fun _ => m3.trans hs, fun _ => ⟨c, [], by simp, m3.trans hs, ?_, by simp [val, Nat.mod_one]⟩, fun h => ?_⟩
  · show ((0 : Nat) : Int) = (a.more f).a.digits
    rw [m2, hd]; rfl
  · have : (a.more f).st = .over := h
    rw [m1] at this
    split at this <;> cases this
theorem Sm.plain {a : Ap} {c : List UInt8} (hs : a.sum = sumAdd 0 c) (h : ended a.st = false) : Sm c a :=
  ⟨fun _ => hs, fun e => (by rw [e] at h; cases h), fun e => (by rw [e] at h; cases h)⟩
theorem Sm.step {f0 f : Fl} {R0 : Nat} {out c : List UInt8} {a : Ap} (hs : Sm c a) (h : Inv f0 R0 out a f) (b : UInt8) (he : (a.stepB f b).err = none) : Sm (c ++ [b]) (a.stepB f b).next := by
  obtain ⟨k, k1, _, k3⟩ := Ap.number_keep a b
  have hml := h.ml
  have hlp := h.lp
  cases hst : a.st with
  | oldSize =>
    have hb := hs.body (by rw [hst]; rfl)
    rw [hb, sumAdd_app] at k3
    unfold Ap.stepB; rw [hst]; simp only
    split <;> exact .plain k3 rfl
  | oldSum =>
    have hb := hs.body (by rw [hst]; rfl)
    obtain ⟨q, _, _, q3⟩ := Ap.fixed_keep (a.addSum b) b
    have q3 : ((a.addSum b).fixed b).a.sum = sumAdd 0 (c ++ [b]) := by rw [q3]; show sumAdd a.sum [b] = _; rw [hb, sumAdd_app]
    have hbody := h.body (by rw [hst]; rfl)
    revert he
    unfold Ap.stepB; rw [hst]; simp only
    cases hw : ((a.addSum b).fixed b).whole with
    | false => exact fun _ => .plain q3 rfl
    | true =>
      simp only [if_true]
      split
      · exact fun h => by cases h
      · rename_i hsz
        have hsz' : ((a.addSum b).fixed b).a.size = f.old.length := by simpa using hsz
        rcases Ap.sumOld_inv (((a.addSum b).fixed b).a.size + 1) (a := ((a.addSum b).fixed b).a) 0 0 (by omega) hbody.fi hsz' (by omega) (Nat.zero_le _) with ⟨z1, z2, z3, z4, ⟨bf, z5⟩, z6⟩ | ⟨z1, z2⟩
        · simp only [z1]
          split
          · exact fun h => by cases h
          · exact fun _ => .plain (by unfold R.next; rw [z5]; exact q3) rfl
        · simp only [z1]; exact fun h => by cases h
  | newSize =>
    have hb := hs.body (by rw [hst]; rfl)
    rw [hb, sumAdd_app] at k3
    have hbody := h.body (by rw [hst]; rfl)
    have hme := (h.early (by rw [hst]; rfl)).1
    have km := k.made
    revert he
    unfold Ap.stepB; rw [hst]; simp only
    cases hw : (a.number b).whole with
    | false => exact fun _ => .plain k3 rfl
    | true =>
      simp only [if_true]
      split
      · exact fun h => by cases h
      · exact fun _ => more_sm (a := { (a.number b).a with length := (a.number b).a.value }) k3 (k1 hw).2.2 ⟨_, _, hbody.of k.made k.page⟩ (by show (a.number b).a.made ≤ _; omega)
  | step =>
    have hb := hs.body (by rw [hst]; rfl)
    revert he
    unfold Ap.stepB; rw [hst]; simp only
    split
    · exact fun h => by cases h
    · exact fun _ => .plain (by show sumAdd a.sum [b] = _; rw [hb, sumAdd_app]) rfl
  | counted =>
    have hb := hs.body (by rw [hst]; rfl)
    rw [hb, sumAdd_app] at k3
    revert he
    unfold Ap.stepB; rw [hst]; simp only
    cases hw : (a.number b).whole with
    | false => exact fun _ => .plain k3 rfl
    | true =>
      simp only [if_true]
      split
      · exact fun h => by cases h
      · split
        · exact fun _ => .plain k3 rfl
        · split
          · exact fun _ => .plain k3 rfl
          · have hck := Ap.copy_keep { (a.number b).a with count := (a.number b).a.value } f (a.number b).a.made (a.number b).a.value
            exact fun _ => .plain (hck.1.sum.trans k3) rfl
  | own =>
    have hb := hs.body (by rw [hst]; rfl)
    have hbody : PI f0 out (a.addSum b) f := (h.body (by rw [hst]; rfl)).of rfl rfl
    obtain ⟨hc0, hc1⟩ := h.count (by rw [hst]; rfl)
    have hdg : a.digits = 0 := by have := h.dig; rw [hst] at this; exact this
    obtain ⟨kk, km, _⟩ := Ap.put_keep (a.addSum b) f b
    have km : ((a.addSum b).put f b).a.made = a.made + 1 := km
    have ks : ((a.addSum b).put f b).a.sum = sumAdd 0 (c ++ [b]) := by rw [kk.sum]; show sumAdd a.sum [b] = _; rw [hb, sumAdd_app]
    have kd : ((a.addSum b).put f b).a.digits = 0 := kk.digits.trans hdg
    revert he
    unfold Ap.stepB; rw [hst]; simp only
    rcases Ap.put_inv hbody b (by show a.made < _; omega) with ⟨p1, p2, p3⟩ | ⟨p1, p2⟩
    · simp only [p1]
      split
      · exact fun _ => .plain ks rfl
      · exact fun _ => more_sm (a := { ((a.addSum b).put f b).a with count := ((a.addSum b).put f b).a.count - 1 }) ks kd ⟨_, _, p2.of rfl rfl⟩ (by show ((a.addSum b).put f b).a.made ≤ _; rw [p2.fi.pages, ← hbody.fi.pages]; omega)
    · simp only [p1]; exact fun h => by cases h
  | place =>
    have hb := hs.body (by rw [hst]; rfl)
    rw [hb, sumAdd_app] at k3
    have hP : PI f0 out (a.number b).a f := (h.body (by rw [hst]; rfl)).of k.made k.page
    obtain ⟨hc0, hc1⟩ := h.count (by rw [hst]; rfl)
    have kc := k.count
    have km := k.made
    have hsz := h.size (by rw [hst]; rfl)
    have hck := Ap.copy_keep (a.number b).a f (a.number b).a.value (a.number b).a.count
    revert he
    unfold Ap.stepB; rw [hst]; simp only
    cases hw : (a.number b).whole with
    | false => exact fun _ => .plain k3 rfl
    | true =>
      simp only [if_true]
      rcases Ap.copy_inv (a.number b).a.value (a.number b).a.count hP (by omega) (k.size.trans hsz) with ⟨c1, c2, c3, c4⟩ | ⟨c1, c2⟩ | ⟨c1, c2⟩
      · simp only [c1]
        have := hck.2.2 c1
        exact fun _ => more_sm (hck.1.sum.trans k3) (hck.1.digits.trans (k1 hw).2.2) ⟨_, _, c3⟩ (by rw [this, c3.fi.pages, ← hP.fi.pages]; omega)
      · simp only [c1]; exact fun h => by cases h
      · rw [c2]; exact fun h => by cases h
  | beside =>
    have hb := hs.body (by rw [hst]; rfl)
    have hbody : PI f0 out (a.addSum b) f := (h.body (by rw [hst]; rfl)).of rfl rfl
    have hdg : a.digits = 0 := by have := h.dig; rw [hst] at this; exact this
    obtain ⟨kk, km, _⟩ := Ap.put_keep (a.addSum b) f b
    have km : ((a.addSum b).put f b).a.made = a.made + 1 := km
    have ks : ((a.addSum b).put f b).a.sum = sumAdd 0 (c ++ [b]) := by rw [kk.sum]; show sumAdd a.sum [b] = _; rw [hb, sumAdd_app]
    have kd : ((a.addSum b).put f b).a.digits = 0 := kk.digits.trans hdg
    revert he
    unfold Ap.stepB; rw [hst]; simp only
    split
    · exact fun h => by cases h
    · rename_i hne
      have hne' : a.made ≠ a.length := hne
      rcases Ap.put_inv hbody b (by show a.made < _; omega) with ⟨p1, p2, p3⟩ | ⟨p1, p2⟩
      · simp only [p1]
        exact fun _ => more_sm ks kd ⟨_, _, p2⟩ (by rw [km, p2.fi.pages, ← hbody.fi.pages]; omega)
      · simp only [p1]; exact fun h => by cases h
  | fin =>
    obtain ⟨bd, q, hc, hsum, hql, hqv⟩ := hs.fin hst
    obtain ⟨v1, v2, v3, v4⟩ := fixed_value a b
    obtain ⟨kk, _, _, kk3⟩ := Ap.fixed_keep a b
    have hdg : 0 ≤ a.digits ∧ a.digits ≤ 3 := by have := h.dig; rw [hst] at this; exact this
    have hb := b.toNat_lt
    have hvn : (a.fixed b).a.value % 256 ^ (q.length + 1) = val (q ++ [b]) := by
      rw [val_snoc, ← hqv, v1]
      have hq3 : q.length ≤ 3 := by omega
      rcases (by omega : q.length = 0 ∨ q.length = 1 ∨ q.length = 2 ∨ q.length = 3) with e | e | e | e <;> rw [e] <;> omega
    revert he
    unfold Ap.stepB; rw [hst]; simp only
    cases hw : (a.fixed b).whole with
    | false =>
      rw [v2] at hw
      have hd4 : a.digits + 1 < 4 := by simpa using hw
      refine fun _ => ⟨fun h => (by cases h), fun _ => ⟨bd, q ++ [b], by rw [hc, List.append_assoc], kk3.trans hsum, ?_, ?_⟩, fun h => (by cases h)⟩
      · show (((q ++ [b]).length : Nat) : Int) = (a.fixed b).a.digits
        rw [v3 hd4]; simp; omega
      · show (a.fixed b).a.value % 256 ^ (q ++ [b]).length = _
        rw [List.length_append]; exact hvn
    | true =>
      simp only [if_true]
      rw [v2] at hw
      have hd4 : 4 ≤ a.digits + 1 := by simpa using hw
      split
      · exact fun h => by cases h
      · rename_i hne
        have hne' : (a.fixed b).a.value = (a.fixed b).a.sum := by simpa using hne
        refine fun _ => ⟨fun h => (by cases h), fun h => (by cases h), fun _ => ⟨bd, q ++ [b], by rw [hc, List.append_assoc], by simp; omega, ?_⟩⟩
        have hq3 : q.length = 3 := by omega
        rw [← hvn, hq3, hne', kk3, hsum]
        have := sumAdd_lt 0 bd
        omega
  | over =>
    exfalso
    revert he
    unfold Ap.stepB; rw [hst]; exact fun h => by cases h
theorem Sm.feed {f0 : Fl} {R0 : Nat} : ∀ (l : List UInt8) {out c : List UInt8} {x : AF}, Sm c x.a → Inv f0 R0 out x.a x.f → (x.feed l).a.fault = .none → Sm (c ++ l) (x.feed l).a := by
  intro l
  induction l with
  | nil => intro out c x h _ _; rw [List.append_nil]; exact h
  | cons b l ih =>
    intro out c x h hI hf
    rcases hI.step b with ⟨e1, e2⟩ | ⟨e, e1, e2⟩
    · have hb := byte_ok hI.nofault e1
      have := ih (x := x.byte b) (c := c ++ [b]) (by rw [hb]; exact h.step hI b e1) (by rw [hb]; exact e2) hf
      rw [List.append_assoc] at this
      exact this
    · exfalso
      have hb := byte_err hI.nofault e1
      have hne : (x.byte b).a.fault ≠ .none := by rw [hb]; simp only; split <;> simp
      rw [feed_cons, feed_bad hne] at hf
      exact hne hf
theorem Sm.init : Sm [] Ap.init := .plain (by decide +kernel) rfl
/-- ████ WHAT IS ACCEPTED ENDS WITH ITS SUM. ████ -/
theorem accepted_sum (f : Fl) (h1 : f.old.length ≤ 4096) (h2 : f.pages ≤ 64) (l : List UInt8) (h : (f.apply l).fault = .none) : ∃ b q, l = b ++ q ∧ q.length = 4 ∧ val q = sumAdd 0 b := by
  have hS := (init_stt f h1 h2).feed l
  cases hS.finish with
  | done out hI hs hf ha hfl hw =>
    have := Sm.feed l Sm.init (Inv.init f h1 h2) hI.nofault
    exact this.over hs
  | short out hI hs hf ha hfl => have h' : (AF.finish _).fault = .none := h; rw [hf] at h'; cases h'
  | pow out hI hw hw0 hf ha hfl => have h' : (AF.finish _).fault = .none := h; rw [hf] at h'; cases h'
  | bad e hx hE hf hy => have h' : (AF.finish _).fault = .none := h; rw [hf, hx] at h'; split at h' <;> cases h'
/-- A patch one byte of which is another one is not accepted. -/
theorem flipped (f : Fl) (h1 : f.old.length ≤ 4096) (h2 : f.pages ≤ 64) (old : List UInt8) (n : Nat) (l : List Stp) (u v : List UInt8) (x y : UInt8) (hp : patchOf old n l = u ++ x :: v) (hxy : x ≠ y) : (f.apply (u ++ y :: v)).fault ≠ .none := by
  intro h
  obtain ⟨b, q, e1, e2, e3⟩ := accepted_sum f h1 h2 _ h
  obtain ⟨B, hB⟩ : ∃ B, bodyOf old n l = B := ⟨_, rfl⟩
  unfold patchOf at hp
  rw [hB] at hp
  have hS := sumAdd_lt 0 B
  have hlen : b.length = B.length := by
    have g1 := congrArg List.length e1
    have g2 := congrArg List.length hp
    simp only [List.length_append, List.length_cons] at g1 g2
    have : (be32 (sumAdd 0 B)).length = 4 := rfl
    omega
  rcases Nat.lt_or_ge u.length b.length with hlt | hge
  · -- in the body
    have d1 : b = u ++ y :: (b.drop (u.length + 1)) := by
      have := congrArg (List.take b.length) e1
      rw [List.take_left] at this
      rw [← this, List.take_append, List.take_of_length_le (Nat.le_of_lt hlt), show b.length - u.length = (b.length - u.length - 1) + 1 by omega, List.take_succ_cons]
      congr 1; congr 1
      rw [List.drop_append, List.drop_of_length_le (by omega)]
      simp only [List.nil_append]
      rw [show u.length + 1 - u.length = 1 by omega]
      simp
    have d2 : B = u ++ x :: (b.drop (u.length + 1)) := by
      have t1 := congrArg (List.take B.length) hp
      rw [List.take_left, List.take_append, List.take_of_length_le (by omega), show B.length - u.length = (B.length - u.length - 1) + 1 by omega, List.take_succ_cons] at t1
      have t2 := congrArg (List.take b.length) e1
      rw [List.take_left, List.take_append, List.take_of_length_le (by omega), show b.length - u.length = (b.length - u.length - 1) + 1 by omega, List.take_succ_cons] at t2
      rw [t1]
      congr 1; congr 1
      have t3 := congrArg (List.drop (u.length + 1)) t2
      rw [List.drop_append, List.drop_of_length_le (by omega), show u.length + 1 - u.length = 1 by omega] at t3
      simp only [List.nil_append, List.drop_succ_cons, List.drop_zero] at t3
      rw [← t3, hlen]
    have d3 : q = be32 (sumAdd 0 B) := by
      have t1 := congrArg (List.drop B.length) hp
      have t2 := congrArg (List.drop B.length) e1
      rw [List.drop_left, List.drop_append, List.drop_of_length_le (by omega), show B.length - u.length = (B.length - u.length - 1) + 1 by omega, List.nil_append, List.drop_succ_cons] at t1
      rw [← hlen, List.drop_left, List.drop_append, List.drop_of_length_le (by omega), show b.length - u.length = (b.length - u.length - 1) + 1 by omega, List.nil_append, List.drop_succ_cons, hlen] at t2
      rw [t1, ← t2]
    rw [d3, val_be32 _ hS] at e3
    rw [d1] at e3
    conv at e3 => lhs; rw [d2]
    exact hxy (sum_one 0 _ _ _ _ e3)
  · -- in the sum
    have d1 : b = B := by
      have t1 := congrArg (List.take B.length) hp
      have t2 := congrArg (List.take b.length) e1
      rw [List.take_left, List.take_append_of_le_length (by omega)] at t1
      rw [List.take_left, List.take_append_of_le_length (by omega)] at t2
      rw [t1, ← t2, hlen]
    rw [d1] at e3 e1
    have : q = be32 (sumAdd 0 B) := val_inj (by rw [e2]; rfl) (by rw [e3, val_be32 _ hS])
    rw [this, hp] at e1
    have := List.append_cancel_left e1
    simp only [List.cons.injEq] at this
    exact hxy this.1.symm
end Go.Fwm
end

section
/- The model: a byte leaves the place as it was. No condition. -/
namespace Go.Fwm
theorem sumOld_at : ∀ (k : Nat) (a : Ap) (f : Fl) (g i : Nat), (a.sumOld f g k i).a.at_ = a.at_
  | 0, a, f, g, i => rfl
  | k + 1, a, f, g, i => by
    unfold Ap.sumOld
    split
    · rfl
    · simp only
      split
      · rfl
      · rw [sumOld_at k]; rfl
theorem flush_at (a : Ap) (f : Fl) : (a.flush f).a.at_ = a.at_ := by
  unfold Ap.flush
  split
  · exact (Ap.write_keep a f _ _).1.at_
  · rfl
theorem more_at (a : Ap) (f : Fl) : (a.more f).a.at_ = a.at_ := by
  unfold Ap.more
  split
  · rfl
  · exact flush_at a f
theorem put_at (a : Ap) (f : Fl) (b : UInt8) : (a.put f b).a.at_ = a.at_ := (Ap.put_keep a f b).1.at_
theorem copy_at (a : Ap) (f : Fl) (i n : Nat) : (a.copy f i n).a.at_ = a.at_ := (Ap.copy_keep a f i n).1.at_
theorem stepB_at (a : Ap) (f : Fl) (b : UInt8) : (a.stepB f b).a.at_ = a.at_ := by
  have hn := (Ap.number_keep a b).1.at_
  have hx := (Ap.fixed_keep (a.addSum b) b).1.at_
  have hy := (Ap.fixed_keep a b).1.at_
  have hx : ((a.addSum b).fixed b).a.at_ = a.at_ := hx
  unfold Ap.stepB
  cases a.st with
  | oldSize => simp only; split <;> exact hn
  | oldSum =>
    simp only
    split
    · split
      · exact hx
      · split
        · exact (sumOld_at _ _ _ _ _).trans hx
        · split <;> exact (sumOld_at _ _ _ _ _).trans hx
    · exact hx
  | newSize =>
    simp only
    split
    · split
      · exact hn
      · exact (more_at _ _).trans hn
    · exact hn
  | step => simp only; split <;> rfl
  | counted =>
    simp only
    split
    · split
      · exact hn
      · split
        · exact hn
        · split
          · exact hn
          · exact (copy_at _ _ _ _).trans hn
    · exact hn
  | own =>
    simp only
    split
    · exact put_at _ _ _
    · split
      · exact put_at _ _ _
      · exact (more_at _ _).trans (put_at _ _ _)
  | place =>
    simp only
    split
    · split
      · exact (copy_at _ _ _ _).trans hn
      · exact (more_at _ _).trans ((copy_at _ _ _ _).trans hn)
    · exact hn
  | beside =>
    simp only
    split
    · rfl
    · split
      · exact put_at _ _ _
      · exact (more_at _ _).trans (put_at _ _ _)
  | fin => simp only; split <;> first | exact hy | (split <;> exact hy)
  | over => rfl
theorem byte_at (x : AF) (b : UInt8) : (x.byte b).a.at_ ≤ x.a.at_ + 1 := by
  have h := stepB_at x.a x.f b
  unfold AF.byte
  split
  · exact Nat.le_succ _
  · simp only
    split
    · show (x.a.stepB x.f b).a.at_ ≤ _; omega
    · show (x.a.stepB x.f b).a.at_ + 1 ≤ _; omega
theorem feed_at (l : List UInt8) : ∀ x : AF, (x.feed l).a.at_ ≤ x.a.at_ + l.length := by
  induction l with
  | nil => intro x; exact Nat.le_refl _
  | cons b l ih =>
    intro x
    have h1 := ih (x.byte b)
    have h2 := byte_at x b
    rw [feed_cons]
    simp only [List.length_cons]
    omega
end Go.Fwm
end
