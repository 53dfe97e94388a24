/-
  Part 27 of the common ground of this seat: what single parts show stands ahead of each.
  No condition.
-/
import Derived.Test.YtkmgcggoemlaaaaGreatDoorJ26

section
/- The law Turns: an append to one of the rows. No condition. -/
set_option linter.unusedSimpArgs false
set_option linter.unusedVariables false
namespace Go.Proofs.YtkmgcggoemlaaaaGreatDoor
open Go Go.Fw Go.Conc Go.RowKit Go.Fwm

section
variable {w0 w w' : World} {L M : List Nat} {n : Nat} {N : Nat → Nat} {V : Nat → Value} {X : Nat → List Value} {c : Nat → Cr} {old new rest : Nat → List UInt8} {e : Nat → Bool} {ok : Nat → Prop}
theorem Tj.below (h : Tj w0 w L M n N V X c old new rest e ok) (hb : Only (fun _ => False) w w') : Tj w0 w' L M n N V X c old new rest e ok :=
  ⟨h.kp.next hb.le fun b hlt => hb.keep b (by have := h.kp.size; omega) fun x => x, fun b hm => Nat.lt_of_lt_of_le (h.lt b hm) hb.le, h.ge, h.dis, h.rows.only hb fun b x => x.elim, h.crew.only hb fun b x => x.elim, h.len, fun i hi j hj => by
    obtain ⟨v, h1, h2⟩ := h.xs i hi j hj
    exact ⟨v, h1, h2.only hb fun b x => x.elim⟩, h.sz, h.live⟩
def Ezb : Nat → Value × Nat
  | 0 => (.pointer none, 8) | 1 => (.pointer none, 8) | 2 => (.slice none 0 0, 24) | 3 => (.bool false, 1) | _ => (.slice none 0 0, 24)
theorem infoE0 : (Tryz.prog.info? (Et 0)).map (fun x => (x.zero, x.size, x.bytes)) = some (some (Ezb 0).1, 1, (Ezb 0).2) := by kernel_rfl
theorem infoE1 : (Tryz.prog.info? (Et 1)).map (fun x => (x.zero, x.size, x.bytes)) = some (some (Ezb 1).1, 1, (Ezb 1).2) := by kernel_rfl
theorem infoE2 : (Tryz.prog.info? (Et 2)).map (fun x => (x.zero, x.size, x.bytes)) = some (some (Ezb 2).1, 1, (Ezb 2).2) := by kernel_rfl
theorem infoE3 : (Tryz.prog.info? (Et 3)).map (fun x => (x.zero, x.size, x.bytes)) = some (some (Ezb 3).1, 1, (Ezb 3).2) := by kernel_rfl
theorem infoE4 : (Tryz.prog.info? (Et 4)).map (fun x => (x.zero, x.size, x.bytes)) = some (some (Ezb 4).1, 1, (Ezb 4).2) := by kernel_rfl
theorem infoE (i : Nat) (hi : i < 5) : (Tryz.prog.info? (Et i)).map (fun x => (x.zero, x.size, x.bytes)) = some (some (Ezb i).1, 1, (Ezb i).2) := by
  have hi' : i = 0 ∨ i = 1 ∨ i = 2 ∨ i = 3 ∨ i = 4 := by omega
  rcases hi' with rfl | rfl | rfl | rfl | rfl
  · exact infoE0
  · exact infoE1
  · exact infoE2
  · exact infoE3
  · exact infoE4
theorem ezb_le (i : Nat) : (Ezb i).2 ≤ 24 := by unfold Ezb; split <;> decide
theorem ezb_cells (i : Nat) : (Ezb i).1.cells.size = 1 := by unfold Ezb; split <;> rfl
/-- An append of one value to row i, in a walk. -/
theorem Tj.app (i : Nat) (hi : i < 5) {ops : Array Oper} {rs : List Oper} {o : Oper} {a : Act} {Q : Exit → Act → World → Prop} (hgd : o.guard = none) (s x : Operand) (t : TypeId)
    (ho : o.op = .call { callee := .builtin .append, args := #[s, x], argTypes := #[t, t] }) (ht : Tryz.prog.underlying t = some (.slice (Et i))) (h : Tj w0 w L M n N V X c old new rest e ok) (hs : a.eval s = V i)
    (g cp : Nat) (y : Value) (hx : a.eval x = .slice (some ⟨g, 0, none⟩) 1 cp) (hc : ∀ (j : Nat) (u : Value), [y][j]? = some u → w.cell? ((⟨g, 0, none⟩ : Addr).add j) = some u) (h1 : y.oneCell' = true) (h8 : N i ≤ 100) (hy : Rx w0 w M c new rest e i (N i) y)
    (K : ∀ v' w' L', Hid (Tj w0 w' L' M n (upX N i (N i + 1)) (upX V i v') (upX X i (X i ++ [y])) c old new rest e ok) → Hid (∀ v zs, Pz w M v zs → Pz w' M v zs) → wpList Tryz.prog ops Q rs (a.put o.dst v') w') : wpList Tryz.prog ops Q (o :: rs) a w := by
  obtain ⟨i0, q1, q2, q3, q4⟩ := info_parts (infoE i hi)
  have hl := h.len i hi
  have hb := ezb_le i
  have h24 : ((X i).length + 1) * (Ezb i).2 ≤ 200 * 24 := Nat.mul_le_mul (by omega) hb
  refine wpList_append_where hgd s x t ho (Et i) i0 (Ezb i).1 1 (Ezb i).2 ht q1 q2 q3 q4 (ezb_cells i) Nat.one_pos (V i) (X i).length (X i) hs (h.rows.own i hi) ⟨g, 0, none⟩ 1 cp [y] hx rfl hc (fun u hu => ?_) (by simp only [maxLen]; omega) (by omega) fun v' w' r1 r2 r3 => ?_
  · rw [List.mem_singleton.1 hu]; exact h1
  · obtain ⟨L', hT⟩ := h.push hi r1 r2 r3 hy
    exact K v' w' L' (Lib.hid hT) (Lib.hid fun v zs hp => hp.only (F := fun b => b ∈ L) ⟨r2.size, fun b hb hn => r2.block b hb fun e => hn (h.rows.inL i hi b e.symm)⟩ fun b hb _ => h.dis b hb)
end
end Go.Proofs.YtkmgcggoemlaaaaGreatDoor
end

section
/- The law Turns: what is read of the rows, and the two other loops' steps. No condition. -/
set_option linter.unusedSimpArgs false
set_option linter.unusedVariables false
namespace Go.Proofs.YtkmgcggoemlaaaaGreatDoor
open Go Go.Fw Go.Conc Go.RowKit Go.Fwm

section
variable {w0 w w' : World} {L M : List Nat} {n : Nat} {V : Nat → Value} {X : Nat → List Value} {c : Nat → Cr} {old new rest : Nat → List UInt8} {e : Nat → Bool} {ok : Nat → Prop}
/-- Where the rows lie. -/
theorem Tu.rowAt (h : Tu w0 w L M n V X c old new rest e ok) (hn : 0 < n) : ∃ g p : Nat → Nat, ∀ i, i < 5 → V i = .slice (some ⟨g i, 0, none⟩) n (p i) := by
  have key : ∀ i, ∃ g p, i < 5 → V i = .slice (some ⟨g, 0, none⟩) n p := fun i => by
    by_cases hi : i < 5
    · have hl := h.len i hi
      obtain ⟨g, p, e1, _⟩ := h.rows.slice hi (by omega)
      exact ⟨g, p, fun _ => by rw [e1, hl]⟩
    · exact ⟨0, 0, fun x => absurd x hi⟩
  exact ⟨fun i => Classical.choose (key i), fun i => Classical.choose (Classical.choose_spec (key i)), fun i hi => Classical.choose_spec (Classical.choose_spec (key i)) hi⟩
theorem Tu.cell (h : Tu w0 w L M n V X c old new rest e ok) {i q g p : Nat} (hi : i < 5) (hv : V i = .slice (some ⟨g, 0, none⟩) n p) (hq : q < n) : w.cell? ⟨g, q, none⟩ = (X i)[q]? ∧ w.frozen? ⟨g, q, none⟩ = false := by
  have hl := h.len i hi
  obtain ⟨g', p', e1, _, _, _, h1, h2⟩ := h.rows.slice hi (by omega)
  rw [hv] at e1
  cases e1
  exact ⟨h1 q (by omega), h2 q⟩
structure Cs (w0 w : World) (M : List Nat) (g : Nat → Nat) (q : Nat) (c : Cr) (new rest : List UInt8) (e : Bool) : Prop where
  c0 : w.cell? ⟨g 0, q, none⟩ = some (.pointer (some ⟨c.pf, 0, none⟩))
  c1 : w.cell? ⟨g 1, q, none⟩ = some (.pointer (some ⟨c.pa, 0, none⟩))
  c2 : ∃ A cp, w.cell? ⟨g 2, q, none⟩ = some (.slice A rest.length cp) ∧ Bytes w A rest ∧ rest.length ≤ cp ∧ cp ≤ maxLen ∧ (A = none → cp = 0) ∧ ∀ a, A = some a → a.spot = none ∧ a.block ∈ M
  c3 : w.cell? ⟨g 3, q, none⟩ = some (.bool e)
  c4 : ∃ A cp, w.cell? ⟨g 4, q, none⟩ = some (.slice A new.length cp) ∧ Bytes w0 A new
  f2 : w.frozen? ⟨g 2, q, none⟩ = false
  f3 : w.frozen? ⟨g 3, q, none⟩ = false
theorem Tu.cs (h : Tu w0 w L M n V X c old new rest e ok) {g p : Nat → Nat} (hv : ∀ i, i < 5 → V i = .slice (some ⟨g i, 0, none⟩) n (p i)) {q : Nat} (hq : q < n) : Cs w0 w M g q (c q) (new q) (rest q) (e q) := by
  obtain ⟨v2, a2, b2⟩ := h.x2 q hq
  obtain ⟨v4, a4, b4⟩ := h.x4 q hq
  obtain ⟨A2, p2, rfl, k1, k2, k3, k4, k5⟩ := b2
  obtain ⟨A4, p4, rfl, m1, m2, m3, m4, m5⟩ := b4
  exact ⟨(h.cell (by decide) (hv 0 (by decide)) hq).1.trans (h.x0 q hq), (h.cell (by decide) (hv 1 (by decide)) hq).1.trans (h.x1 q hq), ⟨A2, p2, (h.cell (by decide) (hv 2 (by decide)) hq).1.trans a2, k1, k2, k3, k4, k5⟩,
    (h.cell (by decide) (hv 3 (by decide)) hq).1.trans (h.x3 q hq), ⟨A4, p4, (h.cell (by decide) (hv 4 (by decide)) hq).1.trans a4, m1⟩, (h.cell (by decide) (hv 2 (by decide)) hq).2, (h.cell (by decide) (hv 3 (by decide)) hq).2⟩
theorem Tu.finish0 (h : Tu w0 w L M n V X c old new rest e ok) {k : Nat} (hk : k < n) (hok : ok k) (h0 : rest k = []) :
    Calls Tryz.prog 32 #[.pointer (some ⟨(c k).pa, 0, none⟩)] w fun e' w' => ∃ v c' F x, e' = .returned v ∧ Tu w0 w' L M n V X c' old new rest e (fun j => ok j ∧ j ≠ k) ∧ FltV w' F v x ∧ x.num = 0 ∧ (c' k).x.f.committed = true := by
  refine (h.finish hk hok).mono ?_
  rintro e' w' ⟨v, c', F, x, h1, h2, h3, h4⟩
  refine ⟨v, c', F, x, h1, h2, h3, ?_⟩
  rcases h4 with ⟨_, rfl, h5, _⟩ | ⟨h5, _⟩
  · exact ⟨rfl, h5⟩
  · rw [h0] at h5; exact absurd h5 (by simp)
theorem Tu.finish5 (h : Tu w0 w L M n V X c old new rest e ok) {k : Nat} (hk : k < n) (hok : ok k) (h0 : 0 < (rest k).length) :
    Calls Tryz.prog 32 #[.pointer (some ⟨(c k).pa, 0, none⟩)] w fun e' w' => ∃ v c' F x, e' = .returned v ∧ Tu w0 w' L M n V X c' old new rest e (fun j => ok j ∧ j ≠ k) ∧ FltV w' F v x ∧ x.num = 5 ∧ (c' k).x.f.committed = false := by
  refine (h.finish hk hok).mono ?_
  rintro e' w' ⟨v, c', F, x, h1, h2, h3, h4⟩
  refine ⟨v, c', F, x, h1, h2, h3, ?_⟩
  rcases h4 with ⟨h5, _⟩ | ⟨_, h5, h6⟩
  · rw [h5] at h0; exact absurd h0 (by simp)
  · exact ⟨h5, h6⟩
theorem Tu.ended {k : Nat} (h : Tu w0 w L M n V X c old new rest e (fun j => e j = false ∧ j ≠ k)) {g p : Nat → Nat} (hv : ∀ i, i < 5 → V i = .slice (some ⟨g i, 0, none⟩) n (p i)) (hk : k < n) :
    Tu w0 (w.setCell ⟨g 3, k, none⟩ (.bool true)) L M n V (upX X 3 ((X 3).set k (.bool true))) c old new rest (upX e k true) (fun j => upX e k true j = false) := by
  have := h.setEnd (g := g 3) (cap := p 3) hk (by rw [hv 3 (by decide), h.len 3 (by decide)])
  refine this.okTo fun j hj hjok => .inl ?_
  by_cases ej : j = k
  · subst ej; rw [upX_same] at hjok; cases hjok
  · rw [upX_ne _ _ ej] at hjok; exact ⟨hjok, ej⟩
theorem Tu.tell0 (h : Tu w0 w L M n V X c old new rest e ok) (hg : GV w0) : Calls Tryz.prog 16 #[.nilIface] w fun e' w' => e' = .returned (.int .i64 0) ∧ Tu w0 w' L M n V X c old new rest e ok :=
  h.tell (F := fun _ => False) (x := .none) hg rfl
/-- Finish of one that stands behind the first m0 bytes. -/
theorem Tu.finishAt (h : Tu w0 w L M n V X c old new rest e ok) {k m0 : Nat} (hk : k < n) (hc : (c k).x = AF.feed ⟨Ap.init, Fl.init (old k) 64⟩ ((PP old new k).take m0)) (hm : (PP old new k).length ≤ m0) :
    Calls Tryz.prog 32 #[.pointer (some ⟨(c k).pa, 0, none⟩)] w fun e' w' => e' = .returned .nilIface ∧ ∃ c', Tu w0 w' L M n V X c' old new rest e (fun j => ok j ∧ j ≠ k) ∧
      ((c' k).x.f.committed = true ∧ (c' k).x.f.length = (new k).length ∧ (c' k).x.f.fresh.take (new k).length = new k ∧ (c' k).x.f.old = old k) := by
  obtain ⟨so, sn⟩ := h.sz k hk
  have hS0 := init_stt (Fl.init (old k) 64) so (init_le (old k) so 64)
  have hS : Stt (Fl.init (old k) 64) (Fl.init (old k) 64).reads (c k).x := by rw [hc]; exact hS0.feed _
  have hev2 : (c k).x.f.events.length < 1000000000 := by
    have hf : (c k).x.a.fault = .none := by rw [hc]; exact part_feed so sn _
    cases hS with
    | ok out hI =>
      have := hI.evs_le
      have e0 : (Fl.init (old k) 64).events.length = 0 := rfl
      omega
    | _ => rename_i e1 hf1 _; rw [hf] at hf1; split at hf1 <;> cases hf1
  refine (finish_ok w _ (c k).pa (c k).pf (c k).bf (c k).be (c k).x (h.crew.rep k hk) hev2).mono ?_
  rintro e' w' ⟨be', v, rfl, h1, h2⟩
  have h3 := (h.okTo (ok' := fun j => ok j ∧ j ≠ k) fun j hj hq => .inl hq.1).step hk h1 fun hq => absurd rfl hq.2
  have hw : (c k).x = AF.feed ⟨Ap.init, Fl.init (old k) 64⟩ (PP old new k) := by rw [hc, List.take_of_length_le hm]
  obtain ⟨g1, g2⟩ := whole_ap so sn
  have g1' : (c k).x.finish.fault = .none := by rw [hw]; exact g1
  rw [g1'] at h2
  have hv : v = .nilIface := h2
  subst hv
  refine ⟨rfl, _, h3, ?_⟩
  rw [upC_same]
  show (c k).x.finish.x.f.committed = true ∧ _
  rw [hw]
  exact g2
/-- Feed of what is left. -/
theorem Tu.feedRest (h : Tu w0 w L M n V X c old new rest e ok) (hg : GV w0) {k : Nat} (hk : k < n) (hok : ok k) {A : Option Addr} {cp : Nat} (hx : Bytes w A (rest k)) (hA : ∀ a, A = some a → a.block ∈ M) :
    Calls Tryz.prog 33 #[.pointer (some ⟨(c k).pa, 0, none⟩), .slice A (rest k).length cp] w fun e' w' => e' = .returned .nilIface ∧ ∃ c', Tu w0 w' L M n V X c' old new rest e (fun j => ok j ∧ j ≠ k) ∧ ∃ m0, (PP old new k).length ≤ m0 ∧ (c' k).x = AF.feed ⟨Ap.init, Fl.init (old k) 64⟩ ((PP old new k).take m0) := by
  refine (h.feed hg hk hok (q := (rest k).length) rfl (List.take_length).symm hx hA).mono ?_
  rintro e' w' ⟨h1, c', h2, m0, h3, h4⟩
  refine ⟨h1, c', h2, m0 + (rest k).length, ?_, h4⟩
  have := congrArg List.length h3
  rw [List.length_drop] at this
  omega
/-- ps[k] = ps[k][q:] behind the Feed of ps[k][:q]. -/
theorem Tu.cut {k q m0 : Nat} {g p : Nat → Nat} (h : Tu w0 w L M n V X c old new rest e (fun j => e j = false ∧ j ≠ k)) (hv : ∀ i, i < 5 → V i = .slice (some ⟨g i, 0, none⟩) n (p i)) (hk : k < n) (hq : q ≤ (rest k).length)
    (h0 : rest k = (PP old new k).drop m0) (h1 : (c k).x = AF.feed ⟨Ap.init, Fl.init (old k) 64⟩ ((PP old new k).take (m0 + q))) {A : Option Addr} {cp : Nat} (hx : Bytes w A (rest k)) (hl : (rest k).length ≤ cp) (hm : cp ≤ maxLen) (hn : A = none → cp = 0) (hA : ∀ a, A = some a → a.spot = none ∧ a.block ∈ M) :
    Tu w0 (w.setCell ⟨g 2, k, none⟩ (.slice (if cp = q then A else A.map fun a => a.add q) ((rest k).length - q) (cp - q))) L M n V (upX X 2 ((X 2).set k (.slice (if cp = q then A else A.map fun a => a.add q) ((rest k).length - q) (cp - q)))) c old new (upX rest k ((rest k).drop q)) e (fun j => e j = false) := by
  have hl2 := h.len 2 (by decide)
  have hp : Pz w M (.slice (if cp = q then A else A.map fun a => a.add q) ((rest k).length - q) (cp - q)) ((rest k).drop q) := by
    have hb := slice_bytes (at_ := q) (n := (rest k).length - q) hx (by omega) hl
    rw [List.take_of_length_le (by simp)] at hb
    refine ⟨_, cp - q, by rw [List.length_drop], hb, by rw [List.length_drop]; omega, by omega, fun e1 => ?_, fun a e1 => ?_⟩
    · split at e1
      · omega
      · have : A = none := by simpa using e1
        have := hn this
        omega
    · split at e1
      · exact hA a e1
      · obtain ⟨a', e2, rfl⟩ := Option.map_eq_some_iff.1 e1
        obtain ⟨s1, s2⟩ := hA a' e2
        have eb : (a'.add q).block = a'.block := by unfold Addr.add; split <;> rfl
        have es : (a'.add q).spot = a'.spot := by unfold Addr.add; split <;> simp_all
        exact ⟨es.trans s1, by rw [eb]; exact s2⟩
  have := h.setRest (zs := (rest k).drop q) hk (by rw [hv 2 (by decide), hl2]) hp fun x => x.2 rfl
  refine this.okTo fun j hj hjok => ?_
  by_cases ej : j = k
  · subst ej
    exact .inr ⟨m0 + q, by rw [upX_same, h0, List.drop_drop], h1⟩
  · exact .inl ⟨hjok, ej⟩
end
end Go.Proofs.YtkmgcggoemlaaaaGreatDoor
end
