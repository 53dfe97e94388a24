/-
  The law Cuts, part 1: what same, roomy, still and slices.Clone do on slices of bytes.
  No condition.
-/
import Derived.Test.YtkmgcggoemlaaaaProg
import Derived.WalkKit
import Derived.ProofKit
import Derived.BigQuiet
import Derived.Deep.QuietTactic
import Derived.Lib.Hide
import Derived.Outline
import Derived.Below
import Derived.Laws.MakeOwn
import Derived.Laws.Entries
import Derived.Laws.CopyOwn
import Derived.Laws.AppendOwn
import Derived.Laws.OwnMore
import Derived.Laws.Cover3
namespace Go.Proofs.Ytkmgcggoemlaaaa.cuts
open Go.RowKit
/-- The slice that begins at A holds the bytes zs. -/
def Bytes (w : World) (A : Option Addr) (zs : List Int) : Prop :=
  ∀ k (h : k < zs.length), ∃ b o, A = some ⟨b, o, none⟩ ∧ w.cell? ⟨b, o + k, none⟩ = some (.int .u8 zs[k])
theorem drewN_add (w : World) (a b : Nat) : (w.drewN a).drewN b = w.drewN (a + b) := by simp [World.drewN, Nat.add_assoc]

set_option maxHeartbeats 1000000 in
theorem same_eq (w : World) (A B : Option Addr) (cn cm n : Nat) (zs : List Int) (hl : zs.length = n) (hn : zs.length ≤ maxLen) (hx : Bytes w A zs) (hy : Bytes w B zs) :
    Calls Try.prog 10 #[.slice A n cn, .slice B n cm] w fun e w' => e = .returned (.bool true) ∧ ∃ k, w' = w.drewN k := by
  unfold maxLen at hn
  rw [hl] at hn
  go_enter Try.func10, Try.ntmps10
  go_wp2
  go_loopw [5] (fun i wr => ∃ k d : Nat, k ≤ n ∧ i = .int .i64 k ∧ wr = w.drewN d) (fun i _ => n - (intOf i).toNat)
  case atStart => exact ⟨0, 0, Nat.zero_le _, rfl, rfl⟩
  case round =>
    obtain ⟨k, d, hk, rfl, rfl⟩ := hrel
    by_cases hlt : k < n
    · obtain ⟨b, o, rfl, hc⟩ := hx k (by omega)
      obtain ⟨b', o', rfl, hc'⟩ := hy k (by omega)
      have hb : (zs[k] != zs[k]) = false := by simp
      go_wp2
      go_quiet (fail)
      go_wp2
      go_roundw
      case rel => exact ⟨k + 1, _, by omega, by go_num, rfl⟩
      case measure => simp [intOf]; omega
    · go_wp2
      go_ret
      exact ⟨rfl, _, rfl⟩
def enc (z : Int) : Value := .int .u8 z
theorem run_make_rowN {P : Program} (t e : TypeId) (i : TypeInfo) (z : Value) (ht : P.underlying t = some (.slice e)) (hi : P.info? e = some i) (hz : i.zero = some z)
    (kl kc : IntKind) (n c : Nat) (hnc : n ≤ c) (hbytes : i.bytes * c ≤ 281474976710656) (h63 : c ≤ 9223372036854775807) (w : World) :
    (Instr.makeSlice t (.int kl (n : Int)) (.int kc (c : Int))).run P w = .ok (.slice (some ⟨w.heap.size, 0, none⟩) n c) (w.alloc (.cells (madeCells z.cells (c * i.size)) e)) := by
  have hb : (i.bytes : Int) * (c : Int) ≤ 281474976710656 := by
    have h : ((i.bytes * c : Nat) : Int) ≤ 281474976710656 := by omega
    rwa [Int.natCast_mul] at h
  have hr := run_make (P := P) w t e i z ht hi hz kl kc n c (by omega) (by omega) hb (by omega)
  simp only [Int.toNat_natCast] at hr
  exact hr
theorem info5 : (Try.prog.info? 5).map (fun i => (i.zero, i.size, i.bytes)) = some (some (.int .u8 0), 1, 1) := by kernel_rfl
theorem size5 : (Try.prog.info? 5).map (·.size) = some 1 := by kernel_rfl
theorem made_u8 (n : Nat) : madeCells (Value.cells (.int .u8 0)) n = (List.replicate n (enc 0)).toArray := by
  apply Array.ext
  · simp [madeCells]
  · intro i h1 h2
    simp [madeCells, Value.cells, enc, Nat.mod_one]
theorem run_make_u8 (n : Nat) (hn : n ≤ 9223372036854 ) (w : World) :
    (Instr.makeSlice 25 (.int .i64 (n : Int)) (.int .i64 (n : Int))).run Try.prog w = .ok (.slice (some ⟨w.heap.size, 0, none⟩) n n) (w.alloc (.cells (List.replicate n (enc 0)).toArray 5)) := by
  obtain ⟨i, hi, hz, hs, hb⟩ := info_parts info5
  rw [run_make_rowN 25 5 i (.int .u8 0) Try.underlying25 hi hz .i64 .i64 n n (Nat.le_refl _) (by rw [hb]; omega) (by omega) w, hs, Nat.mul_one, made_u8]

theorem _root_.Go.World.cell_blk {w : World} {g : Nat} {cs : Array Value} {t : TypeId} (h : w.heap[g]? = some (.cells cs t (0, 0))) {j : Nat} : w.cell? ⟨g, j, none⟩ = cs[j]? := by
  simp [World.cell?, h]
theorem _root_.Go.World.frozen_blk {w : World} {g : Nat} {cs : Array Value} {t : TypeId} (h : w.heap[g]? = some (.cells cs t (0, 0))) (j : Nat) : w.frozen? ⟨g, j, none⟩ = false := by
  simp [World.frozen?, h]
theorem splice_made (n : Nat) (ys : List Value) (h : ys.length = n) : splice (List.replicate (n + 2) (enc 0)) 0 ys = ys ++ [enc 0, enc 0] := by
  simp only [splice, h, List.take_zero, List.nil_append, Nat.zero_add, List.drop_replicate, Nat.add_sub_cancel_left]; rfl
theorem heap_set2 {w : World} {g : Nat} {ys : List Value} {n : Nat} (h : w.heap[g]? = some (.cells (ys ++ [enc 0, enc 0]).toArray 5 (0, 0))) (hn : ys.length = n) (u v : Value) :
    ((w.setCell ⟨g, n, none⟩ u).setCell ⟨g, n + 1, none⟩ v).heap[g]? = some (.cells (ys ++ [u, v]).toArray 5 (0, 0)) := by
  simp [World.setCell, Array.getElem?_modify, h]
  subst hn
  rw [List.set_append_right _ _ (by omega), List.set_append_right _ _ (by omega)]
  simp

set_option maxHeartbeats 1000000 in
theorem roomy_ok (w : World) (A : Option Addr) (c : Nat) (zs : List Int) (hn : zs.length ≤ 65536) (hx : Bytes w A zs) :
    Calls Try.prog 7 #[.slice A zs.length c] w fun e w' => e = .returned (.slice (some ⟨w.heap.size, 0, none⟩) zs.length (zs.length + 2)) ∧ Below w.heap.size w w' ∧ w'.heap[w.heap.size]? = some (.cells (zs.map enc ++ [enc 71, enc 72]).toArray 5 (0, 0)) := by
  obtain ⟨n, hl⟩ : ∃ n, zs.length = n := ⟨_, rfl⟩
  rw [hl] at hn ⊢
  have hmk := run_make_u8 (n + 2) (by omega)
  have hcast : ((n + 2 : Nat) : Int) = (n : Int) + 2 := by omega
  rw [hcast] at hmk
  obtain ⟨ys, hys⟩ : ∃ ys, ys = zs.map enc := ⟨_, rfl⟩
  have hyl : ys.length = n := by rw [hys]; simpa using hl
  obtain ⟨rs, hrs⟩ : ∃ rs, rs = List.replicate (n + 2) (enc 0) := ⟨_, rfl⟩
  have hrl : rs.length = n + 2 := by rw [hrs]; simp
  rw [← hrs] at hmk
  have HR := Lib.hid hrs; clear hrs
  have hcell : 0 < ys.length → ∃ ad, A = some ad ∧ ∀ j v, ys[j]? = some v → (w.alloc (.cells rs.toArray 5)).cell? (ad.add j) = some v := by
    intro h0
    obtain ⟨b, o, hA, _⟩ := hx 0 (by omega)
    refine ⟨_, hA, fun j v hj => ?_⟩
    have hjl : j < zs.length := by have := (List.getElem?_eq_some_iff.1 hj).1; omega
    obtain ⟨b', o', hA', hc⟩ := hx j hjl
    rw [hA] at hA'; cases hA'
    have hv : v = .int .u8 zs[j] := by rw [hys] at hj; simp [hjl, enc] at hj; exact hj.symm
    rw [hv]
    have hc' := hc
    rw [show (⟨b, o, none⟩ : Addr).add j = ⟨b, o + j, none⟩ by unfold Addr.add; split <;> simp_all]
    exact (World.cell?_alloc_lt w _ _ (block_lt_of_cell hc)).trans hc
  have HC := Lib.hid hcell; clear hcell
  have hone : ∀ v ∈ ys, v.oneCell' = true := by rw [hys]; intro v hv; obtain ⟨z, _, rfl⟩ := List.mem_map.1 hv; rfl
  have HO := Lib.hid hone; clear hone
  have HY := Lib.hid hys; clear hys
  go_enter Try.func7, Try.ntmps7
  go_wp2_with ((with_reducible show wpList _ _ _ _ _ _); refine wpList_copy_splice (o := ⟨some 12, _, _, _, _, _⟩) ?g1 (.tmp 10) (.tmp 11) 25 25 ?g2 5 ?g3 ?g4 (some ⟨w.heap.size, 0, none⟩) A (n + 2) (n + 2) n c ?g5 ?g6 w.heap.size 0 rs 5 ?g7 ys ?g8 ?g9 ?g10 ?g11 w.heap.size w ?g12 ?g13 ?g14; rotate_right; (intro w2 HG2 hB2; have hG2 := HG2.out; rw [HR.out, splice_made n ys hyl] at hG2; have hc0 : w2.cell? ⟨w.heap.size, n, none⟩ = some (.int .u8 0) := (by rw [World.cell_blk hG2]; simp [hyl, enc]); have hc1 : w2.cell? ⟨w.heap.size, n + 1, none⟩ = some (.int .u8 0) := (by rw [World.cell_blk hG2]; simp [hyl, enc]); have hf0 : ∀ j, w2.frozen? ⟨w.heap.size, j, none⟩ = false := World.frozen_blk hG2; have HG := Lib.hid hG2; clear hG2 HG2); rotate_left; exact rfl; exact rfl; exact Try.underlying25; exact size5; exact rfl; exact rfl; exact heap_alloc_new w _; (rw [hyl]; exact (Nat.min_eq_left (by omega)).symm); exact fun h => ⟨rfl, HC.out h⟩; omega; exact HO.out; exact (Below.refl _ w).alloc (Nat.le_refl _) _; exact Nat.le_refl _; skip)
  go_ret
  exact ⟨rfl, (hB2.setCell (p := ⟨w.heap.size, n, none⟩) (Nat.le_refl _) _).setCell (p := ⟨w.heap.size, n + 1, none⟩) (Nat.le_refl _) _, by rw [← HY.out]; exact heap_set2 HG.out hyl _ _⟩
/-- The two worlds differ in block g alone. -/
structure But (g : Nat) (w w' : World) : Prop where
  os : w'.os = w.os
  tape : w'.tape = w.tape
  output : w'.output = w.output
  size : w'.heap.size = w.heap.size
  block : ∀ k, k ≠ g → w'.heap[k]? = w.heap[k]?
theorem But.refl (g : Nat) (w : World) : But g w w := ⟨rfl, rfl, rfl, rfl, fun _ _ => rfl⟩
theorem But.drewN {g : Nat} {w w' : World} (h : But g w w') (k : Nat) : But g w (w'.drewN k) := ⟨h.os, h.tape, h.output, h.size, h.block⟩
theorem But.set {g : Nat} {w w' : World} (h : But g w w') (j : Nat) (v : Value) : But g w (w'.setCell ⟨g, j, none⟩ v) :=
  ⟨h.os, h.tape, h.output, by rw [← h.size]; simp [World.setCell], fun k hk => (Below.heap_setCell w' ⟨g, j, none⟩ v k hk).trans (h.block k hk)⟩
/-- A block of n numbers. -/
def Nums (w : World) (g n : Nat) : Prop := ∃ cs : Array Value, w.heap[g]? = some (.cells cs 5 (0, 0)) ∧ cs.size = n ∧ ∀ j, j < n → ∃ z : Int, cs[j]? = some (.int .u8 z)
theorem Nums.set {w : World} {g n : Nat} (h : Nums w g n) (j : Nat) (z : Int) : Nums (w.setCell ⟨g, j, none⟩ (.int .u8 z)) g n := by
  obtain ⟨cs, h1, h2, h3⟩ := h
  refine ⟨cs.setIfInBounds j (.int .u8 z), by simp [World.setCell, Array.getElem?_modify, h1], by simpa using h2, fun i hi => ?_⟩
  rw [Array.getElem?_setIfInBounds]
  by_cases e : j = i
  · subst e; exact ⟨z, by rw [if_pos rfl, if_pos (by omega)]⟩
  · rw [if_neg e]; exact h3 i hi
theorem Nums.at_ {w : World} {g n : Nat} (h : Nums w g n) {j : Nat} (hj : j < n) : ∃ z : Int, w.cell? ⟨g, j, none⟩ = some (.int .u8 z) ∧ w.frozen? ⟨g, j, none⟩ = false := by
  obtain ⟨cs, h1, h2, h3⟩ := h
  obtain ⟨z, hz⟩ := h3 j hj
  exact ⟨z, by rw [World.cell_blk h1]; exact hz, World.frozen_blk h1 j⟩

set_option maxHeartbeats 1000000 in
theorem still_ok (w : World) (g : Nat) (A : Option Addr) (c : Nat) (zs : List Int) (hn : zs.length ≤ 65536) (hg : w.heap[g]? = some (.cells (zs.map enc ++ [enc 71, enc 72]).toArray 5 (0, 0))) (hx : Bytes w A zs) :
    Calls Try.prog 9 #[.slice (some ⟨g, 0, none⟩) zs.length (zs.length + 2), .slice A zs.length c] w fun e w' => e = .returned (.bool true) ∧ But g w w' := by
  have hnums : Nums w g (zs.length + 2) := ⟨_, hg, by simp, fun j hj => by
    rcases Nat.lt_or_ge j zs.length with h | h
    · exact ⟨zs[j], by simp [List.getElem?_append_left, h, enc]⟩
    · rcases Nat.eq_or_lt_of_le h with h | h
      · subst h; exact ⟨71, by simp [enc]⟩
      · obtain rfl : j = zs.length + 1 := by omega
        exact ⟨72, by simp [enc]⟩⟩
  have hy : Bytes w (some ⟨g, 0, none⟩) zs := fun k hk => ⟨g, 0, rfl, by rw [World.cell_blk hg]; simp [List.getElem?_append_left, hk, enc]⟩
  have h71 : w.cell? ⟨g, zs.length, none⟩ = some (.int .u8 71) := by rw [World.cell_blk hg]; simp [enc]
  have h72 : w.cell? ⟨g, zs.length + 1, none⟩ = some (.int .u8 72) := by rw [World.cell_blk hg]; simp [enc]
  have hfz : ∀ j, w.frozen? ⟨g, j, none⟩ = false := World.frozen_blk hg
  have HM := Lib.hid hnums; clear hnums
  clear hg
  obtain ⟨n, hl⟩ : ∃ n, zs.length = n := ⟨_, rfl⟩
  rw [hl] at hn h71 h72 ⊢
  go_enter Try.func9, Try.ntmps9
  rw [hl] at HM
  go_wp2_with (go_at_call 10; refine (same_eq w (some ⟨g, 0, none⟩) A _ _ n zs hl (by unfold maxLen; omega) hy hx).mono ?_; rintro e w' ⟨rfl, d, rfl⟩)
  go_loopw [8] (fun i wr => ∃ k : Nat, k ≤ n + 2 ∧ i = .int .i64 k ∧ Nums wr g (n + 2) ∧ But g w wr) (fun i _ => n + 2 - (intOf i).toNat)
  case atStart => exact ⟨0, Nat.zero_le _, rfl, HM.out, (But.refl g w).drewN _⟩
  case round =>
    obtain ⟨k, hk, rfl, hN, hB⟩ := hrel
    by_cases hlt : k < n + 2
    · obtain ⟨z, hc, hf⟩ := hN.at_ hlt
      have HN := Lib.hid hN; clear hN
      go_wp2
      go_roundw
      case rel => exact ⟨k + 1, by omega, by go_num, HN.out.set _ _, hB.set _ _⟩
      case measure => simp [intOf]; omega
    · go_wp2
      go_ret
      exact ⟨rfl, hB⟩
/-- Block g holds the bytes zs, and spare room behind them. -/
def Piece (w : World) (g : Nat) (zs : List Int) (cap : Nat) : Prop :=
  ∃ cs : Array Value, w.heap[g]? = some (.cells cs 5 (0, 0)) ∧ cs.size = cap ∧ zs.length ≤ cap ∧ ∀ k (h : k < zs.length), cs[k]? = some (enc zs[k])

set_option maxHeartbeats 1000000 in
theorem clone_ok (w : World) (g off m c : Nat) (zs : List Int) (hm : zs.length = m) (h0 : 0 < m) (hn : m ≤ 65536) (hx : Bytes w (some ⟨g, off, none⟩) zs) :
    Calls Try.prog 14 #[.slice (some ⟨g, off, none⟩) m c] w fun e w' => ∃ g' cap', e = .returned (.slice (some ⟨g', 0, none⟩) m cap') ∧ w.heap.size ≤ g' ∧ Piece w' g' zs cap' ∧ Below w.heap.size w w' := by
  obtain ⟨i0, hi, hz0, hz1, hz2⟩ := info_parts info5
  have hw2 : (w.alloc (.cells #[] 5)).ownsRow w.heap.size 5 1 (.slice (some ⟨w.heap.size, 0, none⟩) 0 0) 0 [] :=
    ⟨rfl, .inr ⟨w.heap.size, 0, #[], rfl, Nat.le_refl _, heap_alloc_new w _, Nat.le_refl _, Nat.zero_le _, rfl, rfl⟩⟩
  have hsrc : ∀ j u, (zs.map enc)[j]? = some u → (w.alloc (.cells #[] 5)).cell? ((⟨g, off, none⟩ : Addr).add j) = some u := fun j u hj => by
    have hjl : j < zs.length := by have := (List.getElem?_eq_some_iff.1 hj).1; simpa using this
    obtain ⟨b', o', hA', hc⟩ := hx j hjl
    cases hA'
    have hv : u = .int .u8 zs[j] := by simp [hjl, enc] at hj; exact hj.symm
    rw [hv, show (⟨g, off, none⟩ : Addr).add j = ⟨g, off + j, none⟩ by unfold Addr.add; split <;> simp_all]
    exact (World.cell?_alloc_lt w _ _ (block_lt_of_cell hc)).trans hc
  have HS := Lib.hid hsrc; clear hsrc
  have hone : ∀ v ∈ zs.map enc, v.oneCell' = true := by intro v hv; obtain ⟨z, _, rfl⟩ := List.mem_map.1 hv; rfl
  have HO := Lib.hid hone; clear hone
  have HW := Lib.hid hw2; clear hw2
  have heq : ∀ w : World, (binOp .eql 25 (.slice (some ⟨g, off, none⟩) m c) (.slice none 0 0)).run Try.prog w = .ok (.bool false) w := fun w => by
    simp only [binOp, Sem.run_bind, run_equal_slice_nil w 25 5 (some ⟨g, off, none⟩) m c Try.underlying25]; rfl
  go_enter Try.func14, Try.ntmps14
  go_wp2_with (at_builtin; go_loud (refine wpList_append_own _ ?g1 (.tmp 5) (.tmp 6) 25 ?g2 w.heap.size 5 i0 (.int .u8 0) 1 1 ?g3 ?g4 ?g5 ?g6 ?g7 ?g8 ?g9 (.slice (some ⟨w.heap.size, 0, none⟩) 0 0) 0 [] ?g10 ?g11 ⟨g, off, none⟩ m c (zs.map enc) ?g12 ?g13 ?g14 ?g15 ?g16 ?g17 ?g18 ?g19))
  case g1 => exact rfl
  case g2 => exact rfl
  case g3 => exact Try.underlying25
  case g4 => exact hi
  case g5 => exact hz0
  case g6 => exact hz1
  case g7 => exact hz2
  case g8 => exact rfl
  case g9 => exact Nat.one_pos
  case g10 => exact rfl
  case g11 => exact HW.out
  case g12 => exact rfl
  case g13 => rw [Nat.mul_one, List.length_map]; exact hm
  case g14 => exact HS.out
  case g15 => exact HO.out
  case g16 => simp only [maxLen]; omega
  case g17 => omega
  case g18 => simp
  case g19 =>
    intro v' w' hown hgr _
    replace hown : w'.ownsRow w.heap.size 5 1 v' m (zs.map enc) := by simpa using hown
    obtain ⟨cap', cur, hv, hbase, hb, hl, hcm, hsz, htake⟩ : ∃ cap' cur, (∃ g', v' = .slice (some ⟨g', 0, none⟩) m cap' ∧ w.heap.size ≤ g' ∧ w'.heap[g']? = some (.cells cur 5 (0, 0))) ∧ True ∧ True ∧ m ≤ cap' ∧ True ∧ cur.size = cap' * 1 ∧ cur.toList.take (m * 1) = zs.map enc := by
      rcases hown.2 with ⟨_, h⟩ | ⟨g', cap', cur, h1, h2, h3, h4, h5, h6, h7⟩
      · omega
      · exact ⟨cap', cur, ⟨g', h1, h2, h3⟩, trivial, trivial, h4, trivial, h6, h7⟩
    obtain ⟨g', rfl, hg', hcur⟩ := hv
    have HT := Lib.hid htake; clear htake
    have HG := Lib.hid hgr; clear hgr
    clear hown
    go_wp2
    go_ret
    have htake := HT.out
    refine ⟨g', cap', rfl, hg', ⟨cur, hcur, by omega, by omega, fun k hk => ?_⟩, ?_⟩
    · have e : (cur.toList.take (m * 1))[k]? = (zs.map enc)[k]? := by rw [htake]
      rw [List.getElem?_take, if_pos (by omega)] at e
      simpa [hk] using e
    · exact ((Below.refl _ w).alloc (Nat.le_refl _) _).grown HG.out (by simp) (fun k e => by simp [Value.ownBlock] at e; omega)
end Go.Proofs.Ytkmgcggoemlaaaa.cuts
