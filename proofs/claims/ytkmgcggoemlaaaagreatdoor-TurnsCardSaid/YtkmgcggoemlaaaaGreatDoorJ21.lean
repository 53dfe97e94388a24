/-
  Part 21 of the common ground of this seat: what single parts show stands ahead of each.
  No condition.
-/
import Derived.Test.YtkmgcggoemlaaaaGreatDoorJ20
import Derived.Test.YtkmgcggoemlaaaaGreatDoorJ15

section
/- The comparison in longest; the search of the places; longest. No condition. -/
set_option linter.unusedSimpArgs false
set_option linter.unusedVariables false
namespace Go.Proofs.YtkmgcggoemlaaaaGreatDoor
open Go.RowKit Go.Fwm Go.Sort Go.Lib

/-- A finder: the old image, and places. -/
structure Fdr (w : World) (fd : Nat) (A : Option Addr) (c : Nat) (pb cp : Nat) (old : List UInt8) (ps : Nat → Nat) : Prop where
  h0 : w.cell? ⟨fd, 0, none⟩ = some (.slice A old.length c)
  h1 : w.cell? ⟨fd, 1, none⟩ = some (.slice (some ⟨pb, 0, none⟩) old.length cp)
  old_ : Bytes w A old
  le : old.length ≤ 4096
  cap : old.length ≤ c
  pl : ∀ i, i < old.length → w.cell? ⟨pb, i, none⟩ = some (.int .i64 (ps i : Nat)) ∧ w.frozen? ⟨pb, i, none⟩ = false
theorem Fdr.below {w w' : World} {fd : Nat} {A : Option Addr} {c pb cp : Nat} {old : List UInt8} {ps : Nat → Nat} (h : Fdr w fd A c pb cp old ps) (k : Below w.heap.size w w') : Fdr w' fd A c pb cp old ps := by
  have hk : ∀ a : Addr, ∀ v, w.cell? a = some v → w'.cell? a = w.cell? a := fun a v hv => World.cell?_of_block (k.block _ (block_lt_of_cell hv))
  have hfz : ∀ b i, b < w.heap.size → w'.frozen? ⟨b, i, none⟩ = w.frozen? ⟨b, i, none⟩ := fun b i hb => World.frozen?_of_block (a := ⟨b, i, none⟩) (k.block _ hb)
  refine ⟨(hk _ _ h.h0).trans h.h0, (hk _ _ h.h1).trans h.h1, h.old_.keep fun a e hlt => k.block _ hlt, h.le, h.cap, fun i hi => ?_⟩
  obtain ⟨a1, a2⟩ := h.pl i hi
  exact ⟨(hk _ _ a1).trans a1, (hfz _ _ (block_lt_of_cell (a := ⟨pb, i, none⟩) a1)).trans a2⟩
set_option maxRecDepth 100000 in
set_option maxHeartbeats 1000000 in
theorem lng1_ok (w : World) (fb fd : Nat) (A : Option Addr) (c : Nat) (old : List UInt8) (h0 : w.cell? ⟨fd, 0, none⟩ = some (.slice A old.length c)) (hold : Bytes w A old) (hle : old.length ≤ 4096) (hcap : old.length ≤ c) (hf : w.cell? ⟨fb, 0, none⟩ = some (.pointer (some ⟨fd, 0, none⟩))) (p : Nat) (hp : p ≤ old.length) (B : Option Addr) (m d : Nat) (b : List UInt8) (hm : b.length = m) (hy : Bytes w B b) :
    Calls Tryz.prog 76 #[.int .i64 (p : Int), .slice B m d, .pointer (some ⟨fb, 0, none⟩)] w fun e w' => e = .returned (.int .i64 (Lib.compareBytes (old.drop p) b)) ∧ w' = w := by
  have hsl := slice_bytes (at_ := p) (n := old.length - p) hold (by omega) hcap
  rw [List.take_of_length_le (by simp)] at hsl
  have hcon := fun cc => compare_ok w _ B (old.length - p) cc m d (old.drop p) b (by simp) hm hsl hy
  obtain ⟨n, hn⟩ : ∃ n, old.length = n := ⟨_, rfl⟩
  rw [hn] at h0 hp hcap hcon hle
  generalize Lib.compareBytes (old.drop p) b = r at hcon
  have HC := Lib.hid hcon; clear hcon hsl
  clear hn hy hold
  go_enter Tryz.func76, Tryz.ntmps76
  go_wp2_with (go_at_call 77; refine (HC.out _).mono ?_; rintro e w' ⟨rfl, rfl⟩)
  all_goals (go_ret; exact ⟨rfl, rfl⟩)
theorem sortWorld_block {α : Type} [Inhabited α] (enc : α → Value) (w : World) (blk off m : Nat) (dk : Array α) (os : Array Obj) {b : Nat} (hb : b < w.heap.size) (hne : b ≠ blk) : (sortWorld enc w blk off m dk os).heap[b]? = w.heap[b]? := by
  unfold sortWorld
  rw [heap_grow_old _ _ (by simp [putRow, mapBlock, Sort.ahead]; exact hb)]
  simp [putRow, mapBlock, Array.getElem?_modify, Ne.symm hne, Sort.ahead]
theorem sortWorld_le {α : Type} [Inhabited α] (enc : α → Value) (w : World) (blk off m : Nat) (dk : Array α) (os : Array Obj) : w.heap.size ≤ (sortWorld enc w blk off m dk os).heap.size := by
  unfold sortWorld
  rw [size_grow]
  simp [putRow, mapBlock, Sort.ahead]
theorem sortWorld_cell {α : Type} [Inhabited α] (enc : α → Value) (w : World) (blk off m : Nat) (dk : Array α) (os : Array Obj) {a : Addr} {v : Value} (hne : a.block ≠ blk) (h : w.cell? a = some v) : (sortWorld enc w blk off m dk os).cell? a = some v :=
  (World.cell?_of_block (sortWorld_block enc w blk off m dk os (block_lt_of_cell h) hne)).trans h
theorem sortWorld_bytes {α : Type} [Inhabited α] (enc : α → Value) (w : World) (blk off m : Nat) (dk : Array α) (os : Array Obj) {A : Option Addr} {zs : List UInt8} (hne : Away (fun b => b = blk) A) (h : Bytes w A zs) : Bytes (sortWorld enc w blk off m dk os) A zs :=
  h.keep fun a e hlt => sortWorld_block enc w blk off m dk os hlt (hne a e)
theorem sw_below {α : Type} [Inhabited α] {enc : α → Value} {w w' : World} {blk off : Nat} {d : Array α} (hH : Holds enc w blk off d) (h : SW enc w blk off d w') : Below w.heap.size w w' := by
  obtain ⟨m, os, rfl⟩ := h
  have h0 := sortWorld_start enc w blk off d hH
  have e0 : (putRow enc w blk off d).heap = w.heap := by
    have := congrArg World.heap h0
    simpa [sortWorld, grow, putRow, mapBlock, Sort.ahead] using this
  refine ⟨rfl, rfl, rfl, sortWorld_le enc w blk off m d os, fun b hb => ?_⟩
  unfold sortWorld
  rw [heap_grow_old _ _ (by simp [putRow, mapBlock, Sort.ahead]; exact hb)]
  show (putRow enc w blk off d).heap[b]? = _
  rw [e0]
def encF {n : Nat} (p : Fin n) : Value := .int .i64 (p.val : Int)
def arrF (m : Nat) (ps : Nat → Nat) : Array (Fin (m + 1)) := Array.ofFn fun i : Fin (m + 1) => ⟨ps i.val % (m + 1), Nat.mod_lt _ (Nat.succ_pos m)⟩
theorem arrF_size (m : Nat) (ps : Nat → Nat) : (arrF m ps).size = m + 1 := by simp [arrF]
theorem arrF_get {m : Nat} {ps : Nat → Nat} {i : Nat} (hi : i < m + 1) (hp : ps i < m + 1) : ((arrF m ps)[i]!).val = ps i := by
  rw [getElem!_pos _ i (by rw [arrF_size]; exact hi)]
  simp [arrF, Nat.mod_eq_of_lt hp]
theorem arrF_map {m : Nat} {ps : Nat → Nat} (hp : ∀ i, i < m + 1 → ps i < m + 1) : (arrF m ps).toList.map Fin.val = (List.range (m + 1)).map ps := by
  apply List.ext_getElem
  · simp [arrF]
  · intro i h1 h2
    have hi : i < m + 1 := by simpa [arrF] using h1
    rw [List.getElem_map, List.getElem_map, Array.getElem_toList, List.getElem_range]
    simp only [arrF, Array.getElem_ofFn]
    exact Nat.mod_eq_of_lt (hp i hi)
theorem arrF_holds {w : World} {pb m : Nat} {ps : Nat → Nat} (hp : ∀ i, i < m + 1 → ps i < m + 1) (h : ∀ i, i < m + 1 → w.cell? ⟨pb, i, none⟩ = some (.int .i64 (ps i : Nat)) ∧ w.frozen? ⟨pb, i, none⟩ = false) : Holds encF w pb 0 (arrF m ps) := by
  intro j hj
  rw [arrF_size] at hj
  obtain ⟨h1, h2⟩ := h j hj
  rw [Nat.zero_add]
  refine ⟨?_, h2⟩
  rw [h1]
  unfold encF
  rw [arrF_get hj (hp j hj)]
def cntP (old b : List UInt8) (ps : Nat → Nat) : Nat := ((List.range old.length).map ps).countP fun p => decide (Lib.compareBytes (old.drop p) b < 0)
theorem search_ok (w : World) (fb fd : Nat) (A : Option Addr) (c pb cp : Nat) (old : List UInt8) (ps : Nat → Nat) (h : Fdr w fd A c pb cp old ps) (hp : ∀ i, i < old.length → ps i < old.length) (hf : w.cell? ⟨fb, 0, none⟩ = some (.pointer (some ⟨fd, 0, none⟩)))
    (n1 : fd ≠ pb) (n2 : fb ≠ pb) (n3 : Away (fun b => b = pb) A) (B : Option Addr) (m d : Nat) (b : List UInt8) (hm : b.length = m) (hy : Bytes w B b) (n4 : Away (fun b => b = pb) B)
    (hs : ∀ i j, i ≤ j → j < old.length → Lib.compareBytes (old.drop (ps j)) b < 0 → Lib.compareBytes (old.drop (ps i)) b < 0) :
    Calls Tryz.prog 75 #[.slice (some ⟨pb, 0, none⟩) old.length cp, .slice B m d, .func (.func 76) #[] #[.pointer (some ⟨fb, 0, none⟩)]] w fun e w' => ∃ bo, e = .returned (.tuple #[.int .i64 (cntP old b ps : Nat), .bool bo]) ∧ Below w.heap.size w w' := by
  obtain ⟨N, hN⟩ : ∃ N, old.length = N := ⟨_, rfl⟩
  cases N with
  | zero =>
    have hc : cntP old b ps = 0 := by unfold cntP; rw [hN]; rfl
    rw [hc, hN]
    exact (Any.slices_BinarySearchFunc_none Tryz.searchL (some ⟨pb, 0, none⟩) cp (.slice B m d) (.func (.func 76) #[] #[.pointer (some ⟨fb, 0, none⟩)]) w).mono fun e w' ⟨h1, h2⟩ => ⟨false, h1, by rw [h2]; exact Below.refl _ w⟩
  | succ N =>
    have hpl := h.pl
    rw [hN] at hp hpl
    have hH := arrF_holds hp hpl
    have hblk : pb < w.heap.size := block_lt_of_cell (hpl 0 (by omega)).1
    have hcmp : CmpLaysT Tryz.prog 76 #[.pointer (some ⟨fb, 0, none⟩)] encF (.slice B m d) (fun x : Fin (N + 1) => Lib.compareBytes (old.drop x.val) b) pb 0 (arrF N ps).size w := by
      intro k os dk _ x
      refine (lng1_ok _ fb fd A c old (sortWorld_cell _ _ _ _ _ _ _ n1 h.h0) (sortWorld_bytes _ _ _ _ _ _ _ n3 h.old_) h.le h.cap (sortWorld_cell _ _ _ _ _ _ _ n2 hf) x.val (by have := x.isLt; omega) B m d b hm (sortWorld_bytes _ _ _ _ _ _ _ n4 hy)).mono ?_
      rintro e w' ⟨h1, h2⟩
      exact ⟨h1, 0, #[], by rw [h2]; simp [World.drewN]⟩
    have eg : ∀ args w, (callFunc 76 args).run Tryz.prog w = .ok (.enter 76 args) w := enters_of Tryz.func76 (by kernel_rfl) rfl
    have hle := h.le
    have hmono : ∀ i j, i ≤ j → j < (arrF N ps).size → Lib.compareBytes (old.drop ((arrF N ps)[j]!).val) b < 0 → Lib.compareBytes (old.drop ((arrF N ps)[i]!).val) b < 0 := by
      intro i j hij hj
      rw [arrF_size] at hj
      rw [arrF_get hj (hp j hj), arrF_get (by omega) (hp i (by omega))]
      exact hs i j hij (by omega)
    have H := Any.slices_BinarySearchFunc Tryz.searchL encF (fun _ => rfl) (.slice B m d) (fun x : Fin (N + 1) => Lib.compareBytes (old.drop x.val) b) 76 #[.pointer (some ⟨fb, 0, none⟩)] pb 0 cp (arrF N ps) w eg hcmp hH hblk (by rw [arrF_size]; omega) hmono
    have e1 : (arrF N ps).toList.countP (fun x : Fin (N + 1) => decide (Lib.compareBytes (old.drop x.val) b < 0)) = cntP old b ps := by
      unfold cntP
      rw [hN, ← arrF_map hp, List.countP_map]
      rfl
    rw [e1, arrF_size] at H
    rw [hN]
    exact H.mono fun e w' ⟨k1, k2⟩ => ⟨_, k1, sw_below hH k2⟩
end Go.Proofs.YtkmgcggoemlaaaaGreatDoor
end

section
/- alike's longest. No condition. -/
set_option linter.unusedSimpArgs false
set_option linter.unusedVariables false
namespace Go.Proofs.YtkmgcggoemlaaaaGreatDoor
open Go.RowKit Go.Fwm Go.Lib

theorem quiet_more {P : Program} {f : FuncId} {args : Array Value} {W : World} {a x : Nat} {v : Value} (h : Calls P f args (W.drewN (a + x)) fun e w' => e = .returned v ∧ ∃ k, w' = (W.drewN (a + x)).drewN k) :
    Calls P f args (W.drewN (a + x)) fun e w'' => e = .returned v ∧ ∃ n, w'' = W.drewN (a + n) := h.mono fun _ _ ⟨h1, k, h2⟩ => ⟨h1, x + k, by rw [h2, drewN_add, Nat.add_assoc]⟩
/-- Behind so many of the two places. -/
def lgK (old b : List UInt8) (ps : Nat → Nat) (I : Nat) : Nat → Nat × Nat
  | 0 => (0, 0)
  | 1 => if 1 ≤ I then lg1 old b (ps (I - 1)) (0, 0) else (0, 0)
  | _ => if I < old.length then lg1 old b (ps I) (if 1 ≤ I then lg1 old b (ps (I - 1)) (0, 0) else (0, 0)) else if 1 ≤ I then lg1 old b (ps (I - 1)) (0, 0) else (0, 0)
set_option maxRecDepth 100000 in
set_option maxHeartbeats 4000000 in
theorem longest_ok (w : World) (fd : Nat) (A : Option Addr) (c pb cp : Nat) (old : List UInt8) (ps : Nat → Nat) (h : Fdr w fd A c pb cp old ps) (hp : ∀ i, i < old.length → ps i < old.length)
    (n1 : fd ≠ pb) (n3 : Away (fun b => b = pb) A) (B : Option Addr) (m d : Nat) (b : List UInt8) (hm : b.length = m) (hml : m ≤ 4096) (hy : Bytes w B b) (n4 : Away (fun b => b = pb) B) (hpb : pb < w.heap.size)
    (hs : ∀ i j, i ≤ j → j < old.length → Lib.compareBytes (old.drop (ps j)) b < 0 → Lib.compareBytes (old.drop (ps i)) b < 0) :
    Calls Tryz.prog 63 #[.pointer (some ⟨fd, 0, none⟩), .slice B m d] w fun e w' => e = .returned (.tuple #[.int .i64 ((lgK old b ps (cntP old b ps) 2).1 : Nat), .int .i64 ((lgK old b ps (cntP old b ps) 2).2 : Nat)]) ∧ Below w.heap.size w w' := by
  have hb0 : Below w.heap.size w (w.alloc (.cells #[.pointer (some ⟨fd, 0, none⟩)] 124)) := (Below.refl _ w).alloc (Nat.le_refl _) _
  have hF1 := h.below hb0
  have hy1 : Bytes (w.alloc (.cells #[.pointer (some ⟨fd, 0, none⟩)] 124)) B b := hy.keep fun a e hlt => hb0.block _ hlt
  have hsr := search_ok (w.alloc (.cells #[.pointer (some ⟨fd, 0, none⟩)] 124)) w.heap.size fd A c pb cp old ps hF1 hp (by simp) n1 (by omega) n3 B m d b hm hy1 n4 hs
  have hfd : fd < w.heap.size := block_lt_of_cell h.h0
  have hc1 := hF1.h1
  obtain ⟨I, hI⟩ : ∃ I, cntP old b ps = I := ⟨_, rfl⟩
  have hIl : I ≤ old.length := by
    rw [← hI]
    have := List.countP_le_length (p := fun p => decide (Lib.compareBytes (old.drop p) b < 0)) (l := (List.range old.length).map ps)
    simpa [cntP] using this
  rw [hI] at hsr ⊢
  obtain ⟨R, hR⟩ : ∃ R : Nat → Nat × Nat, R = lgK old b ps I := ⟨_, rfl⟩
  rw [← hR]
  have HR := Lib.hid hR; clear hR
  have hle := h.le
  obtain ⟨n, hn⟩ : ∃ n, old.length = n := ⟨_, rfl⟩
  have HF := Lib.hid h; clear h hF1
  have HY := Lib.hid hy; clear hy hy1
  have HB := Lib.hid hb0; clear hb0
  have HI := Lib.hid hI; clear hI
  rw [hn] at hsr hc1 hIl hle
  have HN := Lib.hid hn; clear hn
  have HP := Lib.hid hp; clear hp hs
  have HS := Lib.hid hsr; clear hsr
  clear n4
  go_enter Tryz.func63, Tryz.ntmps63
  go_wp2_with (go_at_call 75; refine HS.out.mono ?_; rintro e w1 ⟨bo, rfl, hb1⟩)
  have HB1 := Lib.hid hb1; clear hb1
  obtain ⟨W, hW⟩ : ∃ W, w1.alloc (.cells #[.int .i64 ((I : Int) - 1), .int .i64 (I : Int)] 3) = W := ⟨_, rfl⟩
  have hsz1 : w.heap.size + 1 ≤ w1.heap.size := by have := HB1.out.size; simpa using this
  have hbw : Below w.heap.size w W := by
    rw [← hW]
    exact (HB.out.trans (HB1.out.mono (by simp))).alloc (by omega) _
  have hFW := HF.out.below hbw
  have g0 : W.cell? ⟨w.heap.size, 0, none⟩ = some (.pointer (some ⟨fd, 0, none⟩)) := by
    rw [← hW]
    refine (World.cell?_alloc_lt w1 _ ⟨w.heap.size, 0, none⟩ (by show w.heap.size < _; omega)).trans ?_
    refine (HB1.out.cell (p := ⟨w.heap.size, 0, none⟩) (by show w.heap.size < _; simp)).trans ?_
    exact (World.cell_blk (heap_alloc_new w _)).trans rfl
  have key : ∀ k, k < 2 → ∃ z : Int, W.cell? ⟨w1.heap.size, k, none⟩ = some (.int .i64 z) ∧ (z < 0 ∨ (n : Int) ≤ z → lgK old b ps I (k + 1) = lgK old b ps I k) ∧ (∀ q : Nat, z = (q : Int) → q < n → lgK old b ps I (k + 1) = lg1 old b (ps q) (lgK old b ps I k)) ∧ -1 ≤ z ∧ z ≤ n := by
    intro k hk
    have hn := HN.out
    rcases Nat.lt_or_ge k 1 with x | x
    · obtain rfl : k = 0 := by omega
      refine ⟨(I : Int) - 1, by rw [← hW]; exact (World.cell_blk (heap_alloc_new w1 _)).trans rfl, fun h => ?_, fun q h1 h2 => ?_, by omega, by omega⟩
      · show (if 1 ≤ I then _ else _) = (0, 0)
        rw [if_neg (by omega)]
      · show (if 1 ≤ I then _ else _) = lg1 old b (ps q) (0, 0)
        rw [if_pos (by omega), show I - 1 = q by omega]
    · obtain rfl : k = 1 := by omega
      refine ⟨(I : Int), by rw [← hW]; exact (World.cell_blk (heap_alloc_new w1 _)).trans rfl, fun h => ?_, fun q h1 h2 => ?_, by omega, by omega⟩
      · show (if I < old.length then _ else _) = (if 1 ≤ I then _ else _)
        rw [if_neg (by omega)]
      · show (if I < old.length then _ else _) = lg1 old b (ps q) (if 1 ≤ I then _ else _)
        rw [if_pos (by omega), show I = q by omega]
  have hsz : w1.heap.size < W.heap.size := by rw [← hW]; simp
  generalize w1.alloc (.cells #[.int .i64 ((I : Int) - 1), .int .i64 (I : Int)] 3) = W' at hW
  subst hW
  have h0 := hFW.h0
  have h1 := hFW.h1
  have hyW : Bytes W' B b := HY.out.keep fun a e hlt => hbw.block _ hlt
  have hcon : ∀ q, q < n → ∀ nq, Calls Tryz.prog 78 #[.slice (if c = ps q then A else Option.map (fun x => x.add (ps q)) A) (n - ps q) (c - ps q), .slice B m d] (W'.drewN nq) fun e w' => e = .returned (.int .i64 (lcp (old.drop (ps q)) b : Nat)) ∧ ∃ k, w' = (W'.drewN nq).drewN k := by
    intro q hq nq
    have hpq := HP.out q (by rw [HN.out]; exact hq)
    have hn := HN.out
    have hsl := slice_bytes (at_ := ps q) (n := old.length - ps q) hFW.old_ (by omega) hFW.cap
    rw [List.take_of_length_le (by simp)] at hsl
    exact common_ok (W'.drewN nq) _ B (c - ps q) d (n - ps q) m (old.drop (ps q)) b (by simp; omega) hm (by unfold maxLen; omega) (by unfold maxLen; omega) hsl hyW
  have hpl : ∀ q, q < n → W'.cell? ⟨pb, q, none⟩ = some (.int .i64 (ps q : Nat)) := fun q hq => (hFW.pl q (by rw [HN.out]; exact hq)).1
  have hpn : ∀ q, q < n → ps q < n ∧ n ≤ c := fun q hq => by have := HP.out q (by rw [HN.out]; exact hq); have := hFW.cap; have := HN.out; omega
  rw [HN.out] at h0 h1
  clear hFW hyW hc1
  have HK := Lib.hid key; clear key
  have HC := Lib.hid hcon; clear hcon
  have HPL := Lib.hid hpl; clear hpl
  have HPN := Lib.hid hpn; clear hpn
  have HBW := Lib.hid hbw; clear hbw
  rw [← HR.out] at HK
  have hR0 : R 0 = (0, 0) := by rw [HR.out]; rfl
  have HR0 := Lib.hid hR0; clear hR0
  have hlb : ∀ q, lcp (old.drop (ps q)) b ≤ 4096 := fun q => Nat.le_trans (lcp_le_r _ _) (by omega)
  go_loopw [4, 5, 26] (fun f nn i wr => ∃ k dd : Nat, k ≤ 2 ∧ i = .int .i64 k ∧ f = .int .i64 ((R k).1 : Nat) ∧ nn = .int .i64 ((R k).2 : Nat) ∧ wr = W'.drewN dd) (fun _ _ i _ => 2 - (intOf i).toNat)
  case atStart => exact ⟨0, 0, by omega, rfl, by rw [HR0.out]; rfl, by rw [HR0.out]; rfl, rfl⟩
  case round =>
    obtain ⟨k, dd, hk, rfl, rfl, rfl, rfl⟩ := hrel
    by_cases hk2 : k < 2
    · obtain ⟨z, hz, z1, z2, z3, z4⟩ := HK.out k hk2
      have Z1 := Lib.hid z1; clear z1
      have Z2 := Lib.hid z2; clear z2
      by_cases hz0 : 0 ≤ z
      · by_cases hzn : z < n
        · obtain ⟨q, rfl⟩ : ∃ q : Nat, z = q := ⟨z.toNat, by omega⟩
          have hpq := HPL.out q (by omega)
          obtain ⟨pn, pc⟩ := HPN.out q (by omega)
          have hcc := HC.out q (by omega)
          have hst := Z2.out q rfl (by omega)
          have hl := hlb q
          unfold lg1 at hst
          obtain ⟨P, hP⟩ : ∃ P, ps q = P := ⟨_, rfl⟩
          rw [hP] at hpq pn hcc hst hl
          obtain ⟨L, hL⟩ : ∃ L, lcp (old.drop P) b = L := ⟨_, rfl⟩
          rw [hL] at hcc hst hl
          clear hL hP
          have hcP : ¬ c = P := by omega
          have hPn : P ≤ n := by omega
          rw [if_neg hcP] at hcc
          have HCC := Lib.hid hcc; clear hcc
          obtain ⟨f0, hf0⟩ : ∃ f0, (R k).1 = f0 := ⟨_, rfl⟩
          obtain ⟨m0, hm0⟩ : ∃ m0, (R k).2 = m0 := ⟨_, rfl⟩
          rw [hf0, hm0]
          by_cases hlt : m0 < L
          · have e : R (k + 1) = (P, L) := by rw [hst, if_pos (by omega)]
            have HE := Lib.hid e; clear e hst hf0 hm0
            go_wp2
            go_quiet ((go_at_call 78; exact quiet_more (HCC.out _)))
            go_wp2
            go_roundw
            case rel => exact ⟨k + 1, _, by omega, by go_num, by rw [HE.out], by rw [HE.out], rfl⟩
            case measure => simp [intOf]; omega
          · have e : (R (k + 1)).1 = f0 ∧ (R (k + 1)).2 = m0 := by rw [hst, if_neg (by omega)]; exact ⟨hf0, hm0⟩
            have HE := Lib.hid e; clear e hst hf0 hm0
            go_wp2
            go_quiet ((go_at_call 78; exact quiet_more (HCC.out _)))
            go_wp2
            go_roundw
            case rel => exact ⟨k + 1, _, by omega, by go_num, by rw [HE.out.1], by rw [HE.out.2], rfl⟩
            case measure => simp [intOf]; omega
        · have e := Z1.out (.inr (by omega))
          have HE := Lib.hid e; clear e
          go_wp2
          go_roundw
          case rel => exact ⟨k + 1, _, by omega, by go_num, by rw [HE.out], by rw [HE.out], rfl⟩
          case measure => simp [intOf]; omega
      · have e := Z1.out (.inl (by omega))
        have HE := Lib.hid e; clear e
        go_wp2
        go_roundw
        case rel => exact ⟨k + 1, _, by omega, by go_num, by rw [HE.out], by rw [HE.out], rfl⟩
        case measure => simp [intOf]; omega
    · have hk2 : k = 2 := by omega
      subst hk2
      go_wp2
      go_ret2
      exact ⟨rfl, HBW.out.os, HBW.out.tape, HBW.out.output, HBW.out.size, HBW.out.block⟩
end Go.Proofs.YtkmgcggoemlaaaaGreatDoor
end

section
/- The order of two places, as newFinder's closures tell it. No condition. -/
set_option linter.unusedSimpArgs false
set_option linter.unusedVariables false
namespace Go.Proofs.YtkmgcggoemlaaaaGreatDoor
open Go.RowKit Go.Fwm Go.Lib

/-- What the closures read. -/
structure Env (w : World) (nb rb ab hb R : Nat) (n half : Nat) (rank : Nat → Nat) : Prop where
  n_ : w.cell? ⟨nb, 0, none⟩ = some (.int .i64 (n : Int))
  r_ : w.cell? ⟨rb, 0, none⟩ = some (.slice (some ⟨R, 0, none⟩) n n)
  a_ : w.cell? ⟨ab, 0, none⟩ = some (.func (.func 72) #[] #[.pointer (some ⟨nb, 0, none⟩), .pointer (some ⟨rb, 0, none⟩)])
  h_ : w.cell? ⟨hb, 0, none⟩ = some (.int .i64 (half : Int))
  rk : ∀ i, i < n → w.cell? ⟨R, i, none⟩ = some (.int .i64 (rank i : Int))
  rl : ∀ i, i < n → rank i ≤ 100000
  nl : n ≤ 4096
  hl : half ≤ 100000
set_option maxRecDepth 100000 in
set_option maxHeartbeats 1000000 in
theorem at_ok (w : World) (nb rb ab hb R : Nat) (n half : Nat) (rank : Nat → Nat) (h : Env w nb rb ab hb R n half rank) (i : Nat) (hi : i ≤ 1000000) :
    Calls Tryz.prog 72 #[.int .i64 (i : Int), .pointer (some ⟨nb, 0, none⟩), .pointer (some ⟨rb, 0, none⟩)] w fun e w' => e = .returned (.int .i64 (atv rank n i)) ∧ w' = w := by
  have h1 := h.n_
  have h2 := h.r_
  have hnl := h.nl
  by_cases hlt : i < n
  · have h3 := h.rk i hlt
    have h4 := h.rl i hlt
    have e : atv rank n i = (rank i : Int) + 1 := by unfold atv; rw [if_pos hlt]
    rw [e]
    generalize rank i = r at h3 h4
    clear e h
    go_enter Tryz.func72, Tryz.ntmps72
    go_wp2
    go_ret
    exact ⟨rfl, rfl⟩
  · have e : atv rank n i = 0 := by unfold atv; rw [if_neg hlt]
    rw [e]
    clear e h
    go_enter Tryz.func72, Tryz.ntmps72
    go_wp2
    go_ret
    exact ⟨rfl, rfl⟩
theorem atv_le {rank : Nat → Nat} {n i : Nat} (h : ∀ i, i < n → rank i ≤ 100000) : 0 ≤ atv rank n i ∧ atv rank n i ≤ 100001 := by
  unfold atv
  split
  · have := h i (by assumption); omega
  · omega
set_option maxRecDepth 100000 in
set_option maxHeartbeats 1000000 in
theorem order_ok (w : World) (nb rb ab hb R : Nat) (n half : Nat) (rank : Nat → Nat) (h : Env w nb rb ab hb R n half rank) (a b : Nat) (ha : a < n) (hb' : b < n) :
    Calls Tryz.prog 73 #[.int .i64 (a : Int), .int .i64 (b : Int), .pointer (some ⟨rb, 0, none⟩), .pointer (some ⟨ab, 0, none⟩), .pointer (some ⟨hb, 0, none⟩)] w fun e w' => e = .returned (.int .i64 (cfv rank n half a b)) ∧ ∃ q, w' = w.drewN q := by
  have h2 := h.r_
  have h5 := h.a_
  have h6 := h.h_
  have hnl := h.nl
  have hhl := h.hl
  have h3 := h.rk a ha
  have h3' := h.rk b hb'
  have h4 := h.rl a ha
  have h4' := h.rl b hb'
  have hc1 := fun q => at_ok (w.drewN q) nb rb ab hb R n half rank ⟨h.n_, h.r_, h.a_, h.h_, h.rk, h.rl, h.nl, h.hl⟩ (a + half) (by omega)
  have hc2 := fun q => at_ok (w.drewN q) nb rb ab hb R n half rank ⟨h.n_, h.r_, h.a_, h.h_, h.rk, h.rl, h.nl, h.hl⟩ (b + half) (by omega)
  simp only [Int.natCast_add] at hc1 hc2
  have hb1 := atv_le (i := a + half) h.rl
  have hb2 := atv_le (i := b + half) h.rl
  have e : cfv rank n half a b = if (rank a : Int) - (rank b : Int) ≠ 0 then (rank a : Int) - (rank b : Int) else atv rank n (a + half) - atv rank n (b + half) := rfl
  generalize cfv rank n half a b = C at e
  generalize rank a = ra at h3 h4 e
  generalize rank b = rb' at h3' h4' e
  generalize atv rank n (a + half) = va at hc1 hb1 e
  generalize atv rank n (b + half) = vb at hc2 hb2 e
  have j1 : IntKind.i64.wrap ((ra : Int) - (rb' : Int)) = (ra : Int) - (rb' : Int) := IntWalk.i64_in _ (by omega)
  have HC1 := Lib.hid hc1; clear hc1
  have HC2 := Lib.hid hc2; clear hc2
  clear h
  by_cases hne : (ra : Int) - (rb' : Int) ≠ 0
  · rw [if_pos hne] at e
    have HE := Lib.hid e; clear e
    go_enter Tryz.func73, Tryz.ntmps73
    go_wp2
    go_quiet (fail)
    go_wp2
    go_ret
    exact ⟨by rw [HE.out]; rfl, _, rfl⟩
  · rw [if_neg hne] at e
    have HE := Lib.hid e; clear e
    have hz : (ra : Int) - (rb' : Int) = 0 := by omega
    have j2 : IntKind.i64.wrap (va - vb) = va - vb := IntWalk.i64_in _ (by omega)
    have j3 : IntKind.i64.wrap ((a : Int) + (half : Int)) = (a : Int) + (half : Int) := IntWalk.i64_in _ (by omega)
    have j4 : IntKind.i64.wrap ((b : Int) + (half : Int)) = (b : Int) + (half : Int) := IntWalk.i64_in _ (by omega)
    go_enter Tryz.func73, Tryz.ntmps73
    go_wp2
    go_quiet (fail)
    go_wp2
    go_quiet ((first | (go_at_call_of 72 (Value.int .i64 ((a : Int) + (half : Int))); exact quiet_more ((HC1.out _).mono fun _ _ h => ⟨h.1, 0, h.2⟩)) | (go_at_call_of 72 (Value.int .i64 ((b : Int) + (half : Int))); exact quiet_more ((HC2.out _).mono fun _ _ h => ⟨h.1, 0, h.2⟩))))
    go_wp2
    go_ret
    exact ⟨by rw [HE.out]; rfl, _, drewN_add _ _ _⟩
end Go.Proofs.YtkmgcggoemlaaaaGreatDoor
end

section
/- The places are sorted. No condition. -/
set_option linter.unusedSimpArgs false
set_option linter.unusedVariables false
namespace Go.Proofs.YtkmgcggoemlaaaaGreatDoor
open Go.RowKit Go.Fwm Go.Lib Go.Sort

/-- All places, each once. -/
structure Pm (n : Nat) (ps : Nat → Nat) : Prop where
  lt : ∀ i, i < n → ps i < n
  onto : ∀ p, p < n → ∃ i, i < n ∧ ps i = p
  inj : ∀ i j, i < n → j < n → ps i = ps j → i = j
def iCells (n : Nat) (ps : Nat → Nat) : List Value := (List.range n).map fun i => .int .i64 (ps i : Int)
theorem iCells_get {n : Nat} {ps : Nat → Nat} {i : Nat} (h : i < n) : (iCells n ps)[i]? = some (.int .i64 (ps i : Int)) := by simp [iCells, h]
theorem iCells_set {n : Nat} {ps : Nat → Nat} {i v : Nat} (h : i < n) : (iCells n ps).set i (.int .i64 (v : Int)) = iCells n (fun j => if j = i then v else ps j) := by
  apply List.ext_getElem?
  intro j
  rw [List.getElem?_set]
  by_cases hj : j < n
  · rw [iCells_get hj]
    by_cases e : i = j
    · subst e; simp [iCells, h]
    · rw [if_neg e, iCells_get hj, if_neg (Ne.symm e)]
  · have h1 : (iCells n ps)[j]? = none := List.getElem?_eq_none (by simp [iCells]; omega)
    have h2 : (iCells n fun j => if j = i then v else ps j)[j]? = none := List.getElem?_eq_none (by simp [iCells]; omega)
    rw [h1, h2, if_neg (by omega)]
theorem iCells_length (n : Nat) (ps : Nat → Nat) : (iCells n ps).length = n := by simp [iCells]
theorem iCells_congr {n : Nat} {ps qs : Nat → Nat} (h : ∀ i, i < n → ps i = qs i) : iCells n ps = iCells n qs := by
  unfold iCells
  apply List.map_congr_left
  intro i hi
  rw [h i (List.mem_range.1 hi)]
theorem swo_tells {s : Nat → Nat} {m L : Nat} {cf : Nat → Nat → Int} (h : Tells s (m + 1) L cf) : SWO (ltOf fun x y : Fin (m + 1) => cf x.val y.val) where
  irrefl x := by
    have := (h.lt x.val x.val x.isLt x.isLt)
    unfold ltOf
    exact decide_eq_false fun k => ltK.irrefl (this.1 k)
  trans x y z a b := by
    unfold ltOf at a b ⊢
    have a := (h.lt _ _ x.isLt y.isLt).1 (of_decide_eq_true a)
    have b := (h.lt _ _ y.isLt z.isLt).1 (of_decide_eq_true b)
    exact decide_eq_true ((h.lt _ _ x.isLt z.isLt).2 (a.trans b))
  ntrans x y z a b := by
    unfold ltOf at a b ⊢
    have a := fun k => of_decide_eq_false a ((h.lt _ _ x.isLt y.isLt).2 k)
    have b := fun k => of_decide_eq_false b ((h.lt _ _ y.isLt z.isLt).2 k)
    exact decide_eq_false fun k => ltK.ntrans a b ((h.lt _ _ x.isLt z.isLt).1 k)
theorem perm_pm {m : Nat} {ps : Nat → Nat} (h : Pm (m + 1) ps) {d' : Array (Fin (m + 1))} (hp : PermIn 0 (arrF m ps).size (arrF m ps) d') : Pm (m + 1) (fun i => d'[i]!.val) ∧ d'.size = m + 1 := by
  obtain ⟨h1, _, h3⟩ := hp
  rw [arrF_size] at h1
  have e1 : (d'.extract 0 (arrF m ps).size).toList = d'.toList := by rw [arrF_size, Array.toList_extract]; simp only [List.extract, List.drop_zero, Nat.sub_zero]; exact List.take_of_length_le (by simp [h1])
  have e2 : ((arrF m ps).extract 0 (arrF m ps).size).toList = (arrF m ps).toList := by simp
  rw [e1, e2] at h3
  have hg : ∀ i, (hi : i < m + 1) → d'[i]!.val = (d'.toList[i]'(by simpa [h1] using hi)).val := fun i hi => by
    rw [getElem!_pos d' i (by omega), Array.getElem_toList]
  have hnd0 : (arrF m ps).toList.Nodup := by
    unfold List.Nodup
    rw [List.pairwise_iff_getElem]
    intro i j hi0 hj0 hlt hij
    have hi : i < m + 1 := by simpa [arrF] using hi0
    have hj : j < m + 1 := by simpa [arrF] using hj0
    have e := congrArg Fin.val hij
    rw [Array.getElem_toList, Array.getElem_toList] at e
    simp only [arrF, Array.getElem_ofFn] at e
    rw [Nat.mod_eq_of_lt (h.lt _ hi), Nat.mod_eq_of_lt (h.lt _ hj)] at e
    have := h.inj _ _ hi hj e
    omega
  have hnd : d'.toList.Nodup := h3.nodup_iff.2 hnd0
  refine ⟨⟨fun i hi => (d'[i]!).isLt, fun p hp => ?_, fun i j hi hj e => ?_⟩, h1⟩
  · obtain ⟨i, hi, hpi⟩ := h.onto p hp
    have hm : (⟨p, hp⟩ : Fin (m + 1)) ∈ (arrF m ps).toList := by
      rw [List.mem_iff_getElem]
      refine ⟨i, by simpa [arrF] using hi, ?_⟩
      rw [Array.getElem_toList]
      simp only [arrF, Array.getElem_ofFn]
      exact Fin.ext (by show ps i % (m + 1) = p; rw [Nat.mod_eq_of_lt (h.lt _ hi), hpi])
    have hm' := h3.mem_iff.2 hm
    obtain ⟨j, hj, hje⟩ := List.mem_iff_getElem.1 hm'
    have hj' : j < m + 1 := by have : j < d'.size := by simpa using hj
                               omega
    exact ⟨j, hj', by show d'[j]!.val = p; rw [hg j hj', hje]⟩
  · have e' : d'[i]!.val = d'[j]!.val := e
    rw [hg i hi, hg j hj] at e'
    unfold List.Nodup at hnd
    rw [List.pairwise_iff_getElem] at hnd
    rcases Nat.lt_trichotomy i j with x | x | x
    · exact absurd (Fin.ext e') (hnd i j (by simpa [h1] using hi) (by simpa [h1] using hj) x)
    · exact x
    · exact absurd (Fin.ext e'.symm) (hnd j i (by simpa [h1] using hj) (by simpa [h1] using hi) x)
/-- What the sort comes to. -/
structure Sorted_ (w w' : World) (pb n L : Nat) (s : Nat → Nat) (ps' : Nat → Nat) : Prop where
  srt : Srt s n L ps'
  blk : Blk w' pb 3 (iCells n ps')
  on : Only (fun b => b = pb) w w'
  os : w'.os = w.os
  tape : w'.tape = w.tape
  output : w'.output = w.output
theorem Env.sortWorld {w : World} {nb rb ab hb R n half : Nat} {rank : Nat → Nat} (h : Env w nb rb ab hb R n half rank) {α : Type} [Inhabited α] (enc : α → Value) (pb m : Nat) (dk : Array α) (os : Array Obj) (n1 : nb ≠ pb) (n2 : rb ≠ pb) (n3 : ab ≠ pb) (n4 : hb ≠ pb) (n5 : R ≠ pb) :
    Env (sortWorld enc w pb 0 m dk os) nb rb ab hb R n half rank :=
  ⟨sortWorld_cell _ _ _ _ _ _ _ n1 h.n_, sortWorld_cell _ _ _ _ _ _ _ n2 h.r_, sortWorld_cell _ _ _ _ _ _ _ n3 h.a_, sortWorld_cell _ _ _ _ _ _ _ n4 h.h_, fun i hi => sortWorld_cell _ _ _ _ _ _ _ n5 (h.rk i hi), h.rl, h.nl, h.hl⟩
theorem sort_ok (w : World) (nb rb ab hb R pb : Nat) (n half L : Nat) (rank : Nat → Nat) (s : Nat → Nat) (ps : Nat → Nat) (h : Env w nb rb ab hb R n half rank) (n1 : nb ≠ pb) (n2 : rb ≠ pb) (n3 : ab ≠ pb) (n4 : hb ≠ pb) (n5 : R ≠ pb)
    (ht : Tells s n L (cfv rank n half)) (hp : Pm n ps) (hb_ : Blk w pb 3 (iCells n ps)) :
    Calls Tryz.prog 74 #[.slice (some ⟨pb, 0, none⟩) n n, .func (.func 73) #[] #[.pointer (some ⟨rb, 0, none⟩), .pointer (some ⟨ab, 0, none⟩), .pointer (some ⟨hb, 0, none⟩)]] w fun e w' => e = .returned (.tuple #[]) ∧ ∃ ps', Sorted_ w w' pb n L s ps' := by
  cases n with
  | zero =>
    refine (AnyF.slices_SortFunc_none (P := Tryz.prog) (ρ := Tryz.sortL_ren) { Tryz.sortL with } (some ⟨pb, 0, none⟩) 0 (.func (.func 73) #[] #[.pointer (some ⟨rb, 0, none⟩), .pointer (some ⟨ab, 0, none⟩), .pointer (some ⟨hb, 0, none⟩)]) w).mono ?_
    rintro e w' ⟨h1, h2⟩
    subst h2
    exact ⟨h1, ps, ⟨fun i hi => by omega, fun i hi => by omega, fun i j hi => by omega, fun i j hi hj => by omega⟩, hb_, Only.refl _ _, rfl, rfl, rfl⟩
  | succ m =>
    have hH : Holds encF w pb 0 (arrF m ps) := arrF_holds hp.lt fun i hi => ⟨hb_.cell (iCells_get hi), hb_.free i⟩
    have hblk : pb < w.heap.size := hb_.lt
    have eg : ∀ args w, (callFunc 73 args).run Tryz.prog w = .ok (.enter 73 args) w := enters_of Tryz.func73 (by kernel_rfl) rfl
    have hnl := h.nl
    have hcmp : CmpLays1 Tryz.prog 73 #[.pointer (some ⟨rb, 0, none⟩), .pointer (some ⟨ab, 0, none⟩), .pointer (some ⟨hb, 0, none⟩)] encF (fun x y : Fin (m + 1) => cfv rank (m + 1) half x.val y.val) pb 0 (arrF m ps).size w := by
      intro k os dk _ x y
      exact (order_ok _ nb rb ab hb R (m + 1) half rank (h.sortWorld encF pb k dk os n1 n2 n3 n4 n5) x.val y.val x.isLt y.isLt).mono fun e w' ⟨h1, q, h2⟩ => ⟨h1, q, #[], by rw [h2, grow_empty]⟩
    have H := Any.slices_SortFunc Tryz.sortL encF (fun _ => rfl) (fun x y : Fin (m + 1) => cfv rank (m + 1) half x.val y.val) (swo_tells ht) 73 #[.pointer (some ⟨rb, 0, none⟩), .pointer (some ⟨ab, 0, none⟩), .pointer (some ⟨hb, 0, none⟩)] pb 0 (m + 1) (arrF m ps) w eg hcmp hH hblk (by rw [arrF_size]; omega)
    have e0 : (arrF m ps).size = m + 1 := arrF_size m ps
    change Calls Tryz.prog 74 _ _ _ at H
    rw [e0] at H
    refine H.mono ?_
    rintro e w' ⟨h1, d', k, os, hpm, hsd, rfl⟩
    obtain ⟨hpm', hsz⟩ := perm_pm hp (by rw [e0]; exact hpm)
    refine ⟨h1, fun i => d'[i]!.val, ⟨hpm'.lt, hpm'.onto, hpm'.inj, fun i j hij hj hlt => ?_⟩, ?_, ⟨sortWorld_le _ _ _ _ _ _ _, fun b hb hne => sortWorld_block _ _ _ _ _ _ _ hb hne⟩, rfl, rfl, rfl⟩
    · have := hsd i j (Nat.zero_le _) hij hj
      unfold ltOf at this
      exact of_decide_eq_false this ((ht.lt _ _ (d'[j]!).isLt (d'[i]!).isLt).2 hlt)
    · unfold Blk Go.Proofs.sortWorld
      rw [heap_grow_old _ _ (by simp [putRow, mapBlock, Sort.ahead]; exact hblk)]
      have hb0 : w.heap[pb]? = some (.cells (iCells (m + 1) ps).toArray 3 (0, 0)) := hb_
      simp only [putRow, mapBlock, Sort.ahead, Array.getElem?_modify, if_true, hb0, Option.map_some, onCells]
      congr 2
      apply Array.ext_getElem?
      intro i
      simp only [putCells, Array.getElem?_mapIdx]
      by_cases hi : i < m + 1
      · rw [show (iCells (m + 1) ps).toArray[i]? = some (.int .i64 (ps i : Int)) by simpa using iCells_get hi, show (iCells (m + 1) fun i => d'[i]!.val).toArray[i]? = some (.int .i64 (d'[i]!.val : Int)) by simpa using iCells_get (ps := fun i => d'[i]!.val) hi]
        rw [Option.map_some, if_pos ⟨Nat.zero_le _, by omega⟩]
        rfl
      · rw [Array.getElem?_eq_none (by simp [iCells]; omega), Array.getElem?_eq_none (by simp [iCells]; omega)]
        rfl
end Go.Proofs.YtkmgcggoemlaaaaGreatDoor
end

section
/- newFinder: what lies in memory, between two rounds. No condition. -/
set_option linter.unusedSimpArgs false
set_option linter.unusedVariables false
namespace Go.Proofs.YtkmgcggoemlaaaaGreatDoor
open Go.RowKit Go.Fwm Go.Lib Go.Sort

theorem info3 : (Tryz.prog.info? 3).map (fun i => (i.zero, i.size, i.bytes)) = some (some (Value.int .i64 0), 1, 8) := by kernel_rfl
theorem info_parts3 : ∃ i, Tryz.prog.info? 3 = some i ∧ i.zero = some (Value.int .i64 0) ∧ i.size = 1 ∧ i.bytes = 8 := by
  have h := info3
  obtain ⟨i, hi, e⟩ := Option.map_eq_some_iff.1 h
  simp only [Prod.mk.injEq] at e
  exact ⟨i, hi, e.1, e.2.1, e.2.2⟩
theorem made_i64 (n : Nat) : madeCells (Value.int .i64 0).cells n = (iCells n fun _ => 0).toArray := by
  apply Array.ext
  · simp [madeCells, iCells]
  · intro i h1 h2
    simp [madeCells, Value.cells, Nat.mod_one, iCells]
theorem run_make_int (n : Nat) (hn : n ≤ 1000000) (w : World) :
    (Instr.makeSlice 23 (.int .i64 (n : Int)) (.int .i64 (n : Int))).run Tryz.prog w = .ok (.slice (some ⟨w.heap.size, 0, none⟩) n n) (w.alloc (.cells (iCells n fun _ => 0).toArray 3)) := by
  obtain ⟨i, hi, hz, hs, hb⟩ := info_parts3
  rw [run_make_rowN 23 3 i (Value.int .i64 0) Tryz.underlying23 hi hz .i64 .i64 n n (Nat.le_refl _) (by rw [hb]; omega) (by omega) w, hs, Nat.mul_one, made_i64]

/-- Between two rounds. 's': how many blocks there were at the beginning. -/
structure NF (w wr : World) (s : Nat) (A : Option Addr) (c n : Nat) (R X : Nat) (rank ps nx : Nat → Nat) : Prop where
  below : Below s w wr
  sz : s + 6 ≤ wr.heap.size
  n_ : Blk wr s 3 [.int .i64 (n : Int)]
  pl : Blk wr (s + 1) 3 (iCells n ps)
  fd : Blk wr (s + 2) 148 [.slice A n c, .slice (some ⟨s + 1, 0, none⟩) n n]
  rk : Blk wr R 3 (iCells n rank)
  rb : Blk wr (s + 4) 23 [.slice (some ⟨R, 0, none⟩) n n]
  nx : Blk wr X 3 (iCells n nx)
  rx : (R = s + 3 ∧ X = s + 5) ∨ (R = s + 5 ∧ X = s + 3)
section
variable {w wr : World} {s : Nat} {A : Option Addr} {c n R X : Nat} {rank ps nx : Nat → Nat}
theorem NF.drewN (h : NF w wr s A c n R X rank ps nx) (k : Nat) : NF w (wr.drewN k) s A c n R X rank ps nx :=
  ⟨⟨h.below.os, h.below.tape, h.below.output, h.below.size, h.below.block⟩, h.sz, h.n_, h.pl, h.fd, h.rk, h.rb, h.nx, h.rx⟩
theorem NF.alloc (h : NF w wr s A c n R X rank ps nx) (o : Obj) : NF w (wr.alloc o) s A c n R X rank ps nx :=
  ⟨h.below.alloc (by have := h.sz; omega) o, by have := h.sz; simp; omega, h.n_.alloc o, h.pl.alloc o, h.fd.alloc o, h.rk.alloc o, h.rb.alloc o, h.nx.alloc o, h.rx⟩
theorem NF.setNew (h : NF w wr s A c n R X rank ps nx) {b : Nat} (hb : s + 6 ≤ b) (i : Nat) (v : Value) : NF w (wr.setCell ⟨b, i, none⟩ v) s A c n R X rank ps nx := by
  have hx := h.rx
  refine ⟨h.below.setCell (p := ⟨b, i, none⟩) (by show s ≤ b; omega) v, by simpa [World.setCell] using h.sz, h.n_.setNe v ?_, h.pl.setNe v ?_, h.fd.setNe v ?_, h.rk.setNe v ?_, h.rb.setNe v ?_, h.nx.setNe v ?_, hx⟩
  all_goals (show _ ≠ b; omega)
theorem NF.setPl (h : NF w wr s A c n R X rank ps nx) {i v : Nat} (hi : i < n) : NF w (wr.setCell ⟨s + 1, i, none⟩ (.int .i64 (v : Int))) s A c n R X rank (fun j => if j = i then v else ps j) nx := by
  have hx := h.rx
  refine ⟨h.below.setCell (p := ⟨s + 1, i, none⟩) (by show s ≤ s + 1; omega) _, by simpa [World.setCell] using h.sz, h.n_.setNe _ ?_, ?_, h.fd.setNe _ ?_, h.rk.setNe _ ?_, h.rb.setNe _ ?_, h.nx.setNe _ ?_, hx⟩
  case refine_2 => rw [← iCells_set hi]; exact h.pl.set i _
  all_goals (show _ ≠ s + 1; omega)
theorem NF.setRk (h : NF w wr s A c n R X rank ps nx) {i v : Nat} (hi : i < n) : NF w (wr.setCell ⟨R, i, none⟩ (.int .i64 (v : Int))) s A c n R X (fun j => if j = i then v else rank j) ps nx := by
  have hx := h.rx
  refine ⟨h.below.setCell (p := ⟨R, i, none⟩) (by show s ≤ R; omega) _, by simpa [World.setCell] using h.sz, h.n_.setNe _ ?_, h.pl.setNe _ ?_, h.fd.setNe _ ?_, ?_, h.rb.setNe _ ?_, h.nx.setNe _ ?_, hx⟩
  case refine_4 => rw [← iCells_set hi]; exact h.rk.set i _
  all_goals (show _ ≠ R; omega)
theorem NF.setNx (h : NF w wr s A c n R X rank ps nx) {i v : Nat} (hi : i < n) : NF w (wr.setCell ⟨X, i, none⟩ (.int .i64 (v : Int))) s A c n R X rank ps (fun j => if j = i then v else nx j) := by
  have hx := h.rx
  refine ⟨h.below.setCell (p := ⟨X, i, none⟩) (by show s ≤ X; omega) _, by simpa [World.setCell] using h.sz, h.n_.setNe _ ?_, h.pl.setNe _ ?_, h.fd.setNe _ ?_, h.rk.setNe _ ?_, h.rb.setNe _ ?_, ?_, hx⟩
  case refine_6 => rw [← iCells_set hi]; exact h.nx.set i _
  all_goals (show _ ≠ X; omega)
/-- The ranks are turned: the new ones are the ranks. -/
theorem NF.swap (h : NF w wr s A c n R X rank ps nx) : NF w (wr.setCell ⟨s + 4, 0, none⟩ (.slice (some ⟨X, 0, none⟩) n n)) s A c n X R nx ps rank := by
  have hx := h.rx
  refine ⟨h.below.setCell (p := ⟨s + 4, 0, none⟩) (by show s ≤ s + 4; omega) _, by simpa [World.setCell] using h.sz, h.n_.setNe _ ?_, h.pl.setNe _ ?_, h.fd.setNe _ ?_, h.nx.setNe _ ?_, ?_, h.rk.setNe _ ?_, hx.symm.imp (fun h => ⟨h.2, h.1⟩) fun h => ⟨h.2, h.1⟩⟩
  case refine_5 => exact h.rb.set 0 _
  all_goals (show _ ≠ s + 4; omega)
theorem NF.sorted {w2 : World} {L : Nat} {sy' : Nat → Nat} {ps' : Nat → Nat} (h : NF w wr s A c n R X rank ps nx) (k : Sorted_ wr w2 (s + 1) n L sy' ps') : NF w w2 s A c n R X rank ps' nx := by
  have hx := h.rx
  have hsz := h.sz
  have hk : ∀ b, b ≠ s + 1 → b < wr.heap.size → w2.heap[b]? = wr.heap[b]? := fun b hne hb => k.on.keep b hb hne
  refine ⟨⟨k.os.trans h.below.os, k.tape.trans h.below.tape, k.output.trans h.below.output, Nat.le_trans h.below.size k.on.le, fun b hb => (hk b (by omega) (by omega)).trans (h.below.block b hb)⟩, Nat.le_trans hsz k.on.le, h.n_.keep (hk _ ?_ ?_), k.blk, h.fd.keep (hk _ ?_ ?_), h.rk.keep (hk _ ?_ ?_), h.rb.keep (hk _ ?_ ?_), h.nx.keep (hk _ ?_ ?_), hx⟩
  all_goals omega
end
def abV (s : Nat) : Value := .func (.func 72) #[] #[.pointer (some ⟨s, 0, none⟩), .pointer (some ⟨s + 4, 0, none⟩)]
/-- .. within a round: the closures' cells. -/
structure LC (w wr : World) (s : Nat) (A : Option Addr) (c n : Nat) (R X : Nat) (rank ps nx : Nat → Nat) (hb half : Nat) : Prop where
  nf : NF w wr s A c n R X rank ps nx
  ab : Blk wr (s + 6) 149 [abV s]
  hbk : Blk wr hb 3 [.int .i64 (half : Int)]
  hge : s + 7 ≤ hb
section
variable {w wr : World} {s : Nat} {A : Option Addr} {c n R X : Nat} {rank ps nx : Nat → Nat} {hb half : Nat}
theorem LC.drewN (h : LC w wr s A c n R X rank ps nx hb half) (k : Nat) : LC w (wr.drewN k) s A c n R X rank ps nx hb half := ⟨h.nf.drewN k, h.ab, h.hbk, h.hge⟩
theorem LC.setNx (h : LC w wr s A c n R X rank ps nx hb half) {i v : Nat} (hi : i < n) : LC w (wr.setCell ⟨X, i, none⟩ (.int .i64 (v : Int))) s A c n R X rank ps (fun j => if j = i then v else nx j) hb half := by
  have hx := h.nf.rx
  have hg := h.hge
  exact ⟨h.nf.setNx hi, h.ab.setNe _ (by show s + 6 ≠ X; omega), h.hbk.setNe _ (by show hb ≠ X; omega), hg⟩
theorem LC.env (h : LC w wr s A c n R X rank ps nx hb half) (h1 : n ≤ 4096) (h2 : ∀ i, i < n → rank i ≤ 100000) (h3 : half ≤ 100000) : Env wr s (s + 4) (s + 6) hb R n half rank :=
  ⟨h.nf.n_.cell rfl, h.nf.rb.cell rfl, h.ab.cell rfl, h.hbk.cell rfl, fun i hi => h.nf.rk.cell (iCells_get hi), h2, h1, h3⟩
theorem LC.sorted {w2 : World} {L : Nat} {sy' : Nat → Nat} {ps' : Nat → Nat} (h : LC w wr s A c n R X rank ps nx hb half) (k : Sorted_ wr w2 (s + 1) n L sy' ps') : LC w w2 s A c n R X rank ps' nx hb half := by
  have hg := h.hge
  exact ⟨h.nf.sorted k, h.ab.keep (k.on.keep _ h.ab.lt (by show ¬ s + 6 = s + 1; omega)), h.hbk.keep (k.on.keep _ h.hbk.lt (by show ¬ hb = s + 1; omega)), hg⟩
end
/-- The new ranks of the first j places. -/
structure Nx (sy' : Nat → Nat) (L : Nat) (ps nx : Nat → Nat) (j : Nat) : Prop where
  first : 0 < j → nx (ps 0) = 0
  step : ∀ t, t + 1 < j → (ltK sy' L (ps t) (ps (t + 1)) → nx (ps (t + 1)) = nx (ps t) + 1) ∧ (¬ ltK sy' L (ps t) (ps (t + 1)) → nx (ps (t + 1)) = nx (ps t))
  le : ∀ t, t < j → nx (ps t) ≤ t
theorem Nx.upd {sy' : Nat → Nat} {L n : Nat} {ps nx : Nat → Nat} {j v : Nat} (hp : Pm n ps) (h : Nx sy' L ps nx j) (hj : j < n) (h0 : j = 0 → v = 0) (h1 : 0 < j → (ltK sy' L (ps (j - 1)) (ps j) → v = nx (ps (j - 1)) + 1) ∧ (¬ ltK sy' L (ps (j - 1)) (ps j) → v = nx (ps (j - 1)))) :
    Nx sy' L ps (fun i => if i = ps j then v else nx i) (j + 1) := by
  have hne : ∀ t, t < j → ps t ≠ ps j := fun t ht e => by have := hp.inj t j (by omega) hj e; omega
  refine ⟨fun _ => ?_, fun t ht => ?_, fun t ht => ?_⟩
  · show (if ps 0 = ps j then v else nx (ps 0)) = 0
    by_cases e : j = 0
    · subst e; rw [if_pos rfl]; exact h0 rfl
    · rw [if_neg (hne 0 (by omega))]; exact h.first (by omega)
  · show (_ → (if ps (t + 1) = ps j then v else nx (ps (t + 1))) = (if ps t = ps j then v else nx (ps t)) + 1) ∧ (_ → (if ps (t + 1) = ps j then v else nx (ps (t + 1))) = (if ps t = ps j then v else nx (ps t)))
    by_cases e : t + 1 = j
    · subst e
      rw [if_pos rfl, if_neg (hne t (by omega))]
      have := h1 (by omega)
      simpa using this
    · rw [if_neg (hne (t + 1) (by omega)), if_neg (hne t (by omega))]
      exact h.step t (by omega)
  · show (if ps t = ps j then v else nx (ps t)) ≤ t
    by_cases e : t = j
    · subst e
      rw [if_pos rfl]
      by_cases z : t = 0
      · rw [h0 z]; omega
      · obtain ⟨a1, a2⟩ := h1 (by omega)
        have := h.le (t - 1) (by omega)
        by_cases y : ltK sy' L (ps (t - 1)) (ps t)
        · rw [a1 y]; omega
        · rw [a2 y]; omega
    · rw [if_neg (hne t (by omega))]; exact h.le t (by omega)
theorem iCells_zero_upd (f : Nat → Nat) (k : Nat) : (fun j => if j = k then f k else if j < k then f j else 0) = fun j => if j < k + 1 then f j else 0 := by
  funext j
  by_cases h : j = k
  · subst h; rw [if_pos rfl, if_pos (by omega)]
  · rw [if_neg h]
    by_cases h2 : j < k
    · rw [if_pos h2, if_pos (by omega)]
    · rw [if_neg h2, if_neg (by omega)]
end Go.Proofs.YtkmgcggoemlaaaaGreatDoor
end
