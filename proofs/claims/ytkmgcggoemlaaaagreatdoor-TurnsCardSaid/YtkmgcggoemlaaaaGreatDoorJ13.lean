/-
  Part 13 of the common ground of this seat: what single parts show stands ahead of each.
  No condition.
-/
import Derived.Test.YtkmgcggoemlaaaaGreatDoorProg
import Derived.WalkKit
import Derived.ProofKit
import Derived.BigQuiet
import Derived.Deep.QuietTactic
import Derived.Lib.Hide
import Derived.Outline
import Derived.Below
import Derived.Laws.MakeOwn
import Derived.Laws.Entries
import Derived.Laws.CopyOwn
import Derived.Laws.AppendOwn
import Derived.Laws.OwnMore
import Derived.Laws.Cover3
import Derived.Test.YtkmgcggoemlaaaaGreatDoorJ10
import Derived.IntWalk
import Derived.WalkSpells

section
/- What same (of equals), roomy, still and slices.Clone do on slices of bytes. No condition. -/
set_option linter.unusedSimpArgs false
set_option linter.unusedVariables false
namespace Go.Proofs.YtkmgcggoemlaaaaGreatDoor
open Go.RowKit
/-- The slice that begins at A holds the bytes zs. -/
def Bytes (w : World) (A : Option Addr) (zs : List UInt8) : Prop :=
  ∀ k (h : k < zs.length), ∃ b o, A = some ⟨b, o, none⟩ ∧ w.cell? ⟨b, o + k, none⟩ = some (.int .u8 (zs[k].toNat : Int))
theorem drewN_add (w : World) (a b : Nat) : (w.drewN a).drewN b = w.drewN (a + b) := by simp [World.drewN, Nat.add_assoc]

set_option maxHeartbeats 1000000 in
theorem same_eq (w : World) (A B : Option Addr) (cn cm n : Nat) (zs : List UInt8) (hl : zs.length = n) (hn : zs.length ≤ maxLen) (hx : Bytes w A zs) (hy : Bytes w B zs) :
    Calls Tryz.prog 21 #[.slice A n cn, .slice B n cm] w fun e w' => e = .returned (.bool true) ∧ ∃ k, w' = w.drewN k := by
  unfold maxLen at hn
  rw [hl] at hn
  go_enter Tryz.func21, Tryz.ntmps21
  go_wp2
  go_loopw [5] (fun i wr => ∃ k d : Nat, k ≤ n ∧ i = .int .i64 k ∧ wr = w.drewN d) (fun i _ => n - (intOf i).toNat)
  case atStart => exact ⟨0, 0, Nat.zero_le _, rfl, rfl⟩
  case round =>
    obtain ⟨k, d, hk, rfl, rfl⟩ := hrel
    by_cases hlt : k < n
    · obtain ⟨b, o, rfl, hc⟩ := hx k (by omega)
      obtain ⟨b', o', rfl, hc'⟩ := hy k (by omega)
      have hb : ((zs[k].toNat : Int) != (zs[k].toNat : Int)) = false := by simp
      go_wp2
      go_quiet (fail)
      go_wp2
      go_roundw
      case rel => exact ⟨k + 1, _, by omega, by go_num, rfl⟩
      case measure => simp [intOf]; omega
    · go_wp2
      go_ret
      exact ⟨rfl, _, rfl⟩
def enc (z : UInt8) : Value := .int .u8 (z.toNat : Int)
theorem run_make_rowN {P : Program} (t e : TypeId) (i : TypeInfo) (z : Value) (ht : P.underlying t = some (.slice e)) (hi : P.info? e = some i) (hz : i.zero = some z)
    (kl kc : IntKind) (n c : Nat) (hnc : n ≤ c) (hbytes : i.bytes * c ≤ 281474976710656) (h63 : c ≤ 9223372036854775807) (w : World) :
    (Instr.makeSlice t (.int kl (n : Int)) (.int kc (c : Int))).run P w = .ok (.slice (some ⟨w.heap.size, 0, none⟩) n c) (w.alloc (.cells (madeCells z.cells (c * i.size)) e)) := by
  have hb : (i.bytes : Int) * (c : Int) ≤ 281474976710656 := by
    have h : ((i.bytes * c : Nat) : Int) ≤ 281474976710656 := by omega
    rwa [Int.natCast_mul] at h
  have hr := run_make (P := P) w t e i z ht hi hz kl kc n c (by omega) (by omega) hb (by omega)
  simp only [Int.toNat_natCast] at hr
  exact hr
theorem info5 : (Tryz.prog.info? 5).map (fun i => (i.zero, i.size, i.bytes)) = some (some (Value.int .u8 0), 1, 1) := by kernel_rfl
theorem size5 : (Tryz.prog.info? 5).map (·.size) = some 1 := by kernel_rfl
theorem made_u8 (n : Nat) : madeCells (Value.cells (Value.int .u8 0)) n = (List.replicate n (Value.int .u8 0)).toArray := by
  apply Array.ext
  · simp [madeCells]
  · intro i h1 h2
    simp [madeCells, Value.cells, Nat.mod_one]
theorem run_make_u8 (n : Nat) (hn : n ≤ 9223372036854 ) (w : World) :
    (Instr.makeSlice 22 (.int .i64 (n : Int)) (.int .i64 (n : Int))).run Tryz.prog w = .ok (.slice (some ⟨w.heap.size, 0, none⟩) n n) (w.alloc (.cells (List.replicate n (Value.int .u8 0)).toArray 5)) := by
  obtain ⟨i, hi, hz, hs, hb⟩ := info_parts info5
  rw [run_make_rowN 22 5 i (Value.int .u8 0) Tryz.underlying22 hi hz .i64 .i64 n n (Nat.le_refl _) (by rw [hb]; omega) (by omega) w, hs, Nat.mul_one, made_u8]

end Go.Proofs.YtkmgcggoemlaaaaGreatDoor
namespace Go
open Go Go.Proofs.YtkmgcggoemlaaaaGreatDoor
theorem World.cell_blk {w : World} {g : Nat} {cs : Array Value} {t : TypeId} (h : w.heap[g]? = some (.cells cs t (0, 0))) {j : Nat} : w.cell? ⟨g, j, none⟩ = cs[j]? := by
  simp [World.cell?, h]
end Go
namespace Go.Proofs.YtkmgcggoemlaaaaGreatDoor
open Go.RowKit
end Go.Proofs.YtkmgcggoemlaaaaGreatDoor
namespace Go
open Go Go.Proofs.YtkmgcggoemlaaaaGreatDoor
theorem World.frozen_blk {w : World} {g : Nat} {cs : Array Value} {t : TypeId} (h : w.heap[g]? = some (.cells cs t (0, 0))) (j : Nat) : w.frozen? ⟨g, j, none⟩ = false := by
  simp [World.frozen?, h]
end Go
namespace Go.Proofs.YtkmgcggoemlaaaaGreatDoor
open Go.RowKit
theorem splice_made (n : Nat) (ys : List Value) (h : ys.length = n) : splice (List.replicate (n + 2) (Value.int .u8 0)) 0 ys = ys ++ [Value.int .u8 0, Value.int .u8 0] := by
  simp only [splice, h, List.take_zero, List.nil_append, Nat.zero_add, List.drop_replicate, Nat.add_sub_cancel_left]; rfl
theorem heap_set2 {w : World} {g : Nat} {ys : List Value} {n : Nat} (h : w.heap[g]? = some (.cells (ys ++ [Value.int .u8 0, Value.int .u8 0]).toArray 5 (0, 0))) (hn : ys.length = n) (u v : Value) :
    ((w.setCell ⟨g, n, none⟩ u).setCell ⟨g, n + 1, none⟩ v).heap[g]? = some (.cells (ys ++ [u, v]).toArray 5 (0, 0)) := by
  simp [World.setCell, Array.getElem?_modify, h]
  subst hn
  rw [List.set_append_right _ _ (by omega), List.set_append_right _ _ (by omega)]
  simp

set_option maxRecDepth 100000 in
set_option maxHeartbeats 1000000 in
theorem roomy_ok (w : World) (A : Option Addr) (c : Nat) (zs : List UInt8) (hn : zs.length ≤ 65536) (hx : Bytes w A zs) :
    Calls Tryz.prog 36 #[.slice A zs.length c] w fun e w' => e = .returned (.slice (some ⟨w.heap.size, 0, none⟩) zs.length (zs.length + 2)) ∧ Below w.heap.size w w' ∧ w'.heap[w.heap.size]? = some (.cells (zs.map enc ++ [Value.int .u8 71, Value.int .u8 72]).toArray 5 (0, 0)) := by
  obtain ⟨n, hl⟩ : ∃ n, zs.length = n := ⟨_, rfl⟩
  rw [hl] at hn ⊢
  have hmk := run_make_u8 (n + 2) (by omega)
  have hcast : ((n + 2 : Nat) : Int) = (n : Int) + 2 := by omega
  rw [hcast] at hmk
  obtain ⟨ys, hys⟩ : ∃ ys, ys = zs.map enc := ⟨_, rfl⟩
  have hyl : ys.length = n := by rw [hys]; simpa using hl
  obtain ⟨rs, hrs⟩ : ∃ rs, rs = List.replicate (n + 2) (Value.int .u8 0) := ⟨_, rfl⟩
  have hrl : rs.length = n + 2 := by rw [hrs]; simp
  rw [← hrs] at hmk
  have HR := Lib.hid hrs; clear hrs
  have hcell : 0 < ys.length → ∃ ad, A = some ad ∧ ∀ j v, ys[j]? = some v → (w.alloc (.cells rs.toArray 5)).cell? (ad.add j) = some v := by
    intro h0
    obtain ⟨b, o, hA, _⟩ := hx 0 (by omega)
    refine ⟨_, hA, fun j v hj => ?_⟩
    have hjl : j < zs.length := by have := (List.getElem?_eq_some_iff.1 hj).1; omega
    obtain ⟨b', o', hA', hc⟩ := hx j hjl
    rw [hA] at hA'; cases hA'
    have hv : v = .int .u8 (zs[j].toNat : Int) := by rw [hys] at hj; simp [hjl, enc] at hj; exact hj.symm
    rw [hv]
    have hc' := hc
    rw [show (⟨b, o, none⟩ : Addr).add j = ⟨b, o + j, none⟩ by unfold Addr.add; split <;> simp_all]
    exact (World.cell?_alloc_lt w _ _ (block_lt_of_cell hc)).trans hc
  have HC := Lib.hid hcell; clear hcell
  have hone : ∀ v ∈ ys, v.oneCell' = true := by rw [hys]; intro v hv; obtain ⟨z, _, rfl⟩ := List.mem_map.1 hv; rfl
  have HO := Lib.hid hone; clear hone
  have HY := Lib.hid hys; clear hys
  go_enter Tryz.func36, Tryz.ntmps36
  go_wp2_with ((with_reducible show wpList _ _ _ _ _ _); refine wpList_copy_splice (o := ⟨some 12, _, _, _, _, _⟩) ?g1 (.tmp 10) (.tmp 11) 22 22 ?g2 5 ?g3 ?g4 (some ⟨w.heap.size, 0, none⟩) A (n + 2) (n + 2) n c ?g5 ?g6 w.heap.size 0 rs 5 ?g7 ys ?g8 ?g9 ?g10 ?g11 w.heap.size w ?g12 ?g13 ?g14; rotate_right; (intro w2 HG2 hB2; have hG2 := HG2.out; rw [HR.out, splice_made n ys hyl] at hG2; have hc0 : w2.cell? ⟨w.heap.size, n, none⟩ = some (Value.int .u8 0) := (by rw [World.cell_blk hG2]; simp [hyl, enc]); have hc1 : w2.cell? ⟨w.heap.size, n + 1, none⟩ = some (Value.int .u8 0) := (by rw [World.cell_blk hG2]; simp [hyl, enc]); have hf0 : ∀ j, w2.frozen? ⟨w.heap.size, j, none⟩ = false := World.frozen_blk hG2; have HG := Lib.hid hG2; clear hG2 HG2); rotate_left; exact rfl; exact rfl; exact Tryz.underlying22; exact size5; exact rfl; exact rfl; exact heap_alloc_new w _; (rw [hyl]; exact (Nat.min_eq_left (by omega)).symm); exact fun h => ⟨rfl, HC.out h⟩; omega; exact HO.out; exact (Below.refl _ w).alloc (Nat.le_refl _) _; exact Nat.le_refl _; skip)
  go_ret
  exact ⟨rfl, (hB2.setCell (p := ⟨w.heap.size, n, none⟩) (Nat.le_refl _) _).setCell (p := ⟨w.heap.size, n + 1, none⟩) (Nat.le_refl _) _, by rw [← HY.out]; exact heap_set2 HG.out hyl _ _⟩
/-- The two worlds differ in block g alone. -/
structure But (g : Nat) (w w' : World) : Prop where
  os : w'.os = w.os
  tape : w'.tape = w.tape
  output : w'.output = w.output
  size : w'.heap.size = w.heap.size
  block : ∀ k, k ≠ g → w'.heap[k]? = w.heap[k]?
theorem But.refl (g : Nat) (w : World) : But g w w := ⟨rfl, rfl, rfl, rfl, fun _ _ => rfl⟩
theorem But.drewN {g : Nat} {w w' : World} (h : But g w w') (k : Nat) : But g w (w'.drewN k) := ⟨h.os, h.tape, h.output, h.size, h.block⟩
theorem But.set {g : Nat} {w w' : World} (h : But g w w') (j : Nat) (v : Value) : But g w (w'.setCell ⟨g, j, none⟩ v) :=
  ⟨h.os, h.tape, h.output, by rw [← h.size]; simp [World.setCell], fun k hk => (Below.heap_setCell w' ⟨g, j, none⟩ v k hk).trans (h.block k hk)⟩
/-- A block of n numbers. -/
def Nums (w : World) (g n : Nat) : Prop := ∃ cs : Array Value, w.heap[g]? = some (.cells cs 5 (0, 0)) ∧ cs.size = n ∧ ∀ j, j < n → ∃ z : Int, cs[j]? = some (.int .u8 z)
theorem Nums.set {w : World} {g n : Nat} (h : Nums w g n) (j : Nat) (z : Int) : Nums (w.setCell ⟨g, j, none⟩ (.int .u8 z)) g n := by
  obtain ⟨cs, h1, h2, h3⟩ := h
  refine ⟨cs.setIfInBounds j (.int .u8 z), by simp [World.setCell, Array.getElem?_modify, h1], by simpa using h2, fun i hi => ?_⟩
  rw [Array.getElem?_setIfInBounds]
  by_cases e : j = i
  · subst e; exact ⟨z, by rw [if_pos rfl, if_pos (by omega)]⟩
  · rw [if_neg e]; exact h3 i hi
theorem Nums.at_ {w : World} {g n : Nat} (h : Nums w g n) {j : Nat} (hj : j < n) : ∃ z : Int, w.cell? ⟨g, j, none⟩ = some (.int .u8 z) ∧ w.frozen? ⟨g, j, none⟩ = false := by
  obtain ⟨cs, h1, h2, h3⟩ := h
  obtain ⟨z, hz⟩ := h3 j hj
  exact ⟨z, by rw [World.cell_blk h1]; exact hz, World.frozen_blk h1 j⟩

set_option maxHeartbeats 1000000 in
theorem still_ok (w : World) (g : Nat) (A : Option Addr) (c : Nat) (zs : List UInt8) (hn : zs.length ≤ 65536) (hg : w.heap[g]? = some (.cells (zs.map enc ++ [Value.int .u8 71, Value.int .u8 72]).toArray 5 (0, 0))) (hx : Bytes w A zs) :
    Calls Tryz.prog 37 #[.slice (some ⟨g, 0, none⟩) zs.length (zs.length + 2), .slice A zs.length c] w fun e w' => e = .returned (.bool true) ∧ But g w w' := by
  have hnums : Nums w g (zs.length + 2) := ⟨_, hg, by simp, fun j hj => by
    rcases Nat.lt_or_ge j zs.length with h | h
    · exact ⟨zs[j].toNat, by simp [List.getElem?_append_left, h, enc]⟩
    · rcases Nat.eq_or_lt_of_le h with h | h
      · subst h; exact ⟨71, by simp [enc]⟩
      · obtain rfl : j = zs.length + 1 := by omega
        exact ⟨72, by simp [enc]⟩⟩
  have hy : Bytes w (some ⟨g, 0, none⟩) zs := fun k hk => ⟨g, 0, rfl, by rw [World.cell_blk hg]; simp [List.getElem?_append_left, hk, enc]⟩
  have h71 : w.cell? ⟨g, zs.length, none⟩ = some (.int .u8 71) := by rw [World.cell_blk hg]; simp [enc]
  have h72 : w.cell? ⟨g, zs.length + 1, none⟩ = some (.int .u8 72) := by rw [World.cell_blk hg]; simp [enc]
  have hfz : ∀ j, w.frozen? ⟨g, j, none⟩ = false := World.frozen_blk hg
  have HM := Lib.hid hnums; clear hnums
  clear hg
  obtain ⟨n, hl⟩ : ∃ n, zs.length = n := ⟨_, rfl⟩
  rw [hl] at hn h71 h72 ⊢
  go_enter Tryz.func37, Tryz.ntmps37
  rw [hl] at HM
  go_wp2_with (go_at_call 21; refine (same_eq w (some ⟨g, 0, none⟩) A _ _ n zs hl (by unfold maxLen; omega) hy hx).mono ?_; rintro e w' ⟨rfl, d, rfl⟩)
  go_loopw [8] (fun i wr => ∃ k : Nat, k ≤ n + 2 ∧ i = .int .i64 k ∧ Nums wr g (n + 2) ∧ But g w wr) (fun i _ => n + 2 - (intOf i).toNat)
  case atStart => exact ⟨0, Nat.zero_le _, rfl, HM.out, (But.refl g w).drewN _⟩
  case round =>
    obtain ⟨k, hk, rfl, hN, hB⟩ := hrel
    by_cases hlt : k < n + 2
    · obtain ⟨z, hc, hf⟩ := hN.at_ hlt
      have HN := Lib.hid hN; clear hN
      go_wp2
      go_roundw
      case rel => exact ⟨k + 1, by omega, by go_num, HN.out.set _ _, hB.set _ _⟩
      case measure => simp [intOf]; omega
    · go_wp2
      go_ret
      exact ⟨rfl, hB⟩
/-- Block g holds the bytes zs, and spare room behind them. -/
def Piece (w : World) (g : Nat) (zs : List UInt8) (cap : Nat) : Prop :=
  ∃ cs : Array Value, w.heap[g]? = some (.cells cs 5 (0, 0)) ∧ cs.size = cap ∧ zs.length ≤ cap ∧ ∀ k (h : k < zs.length), cs[k]? = some (enc zs[k])

set_option maxHeartbeats 1000000 in
theorem clone_ok (w : World) (g off m c : Nat) (zs : List UInt8) (hm : zs.length = m) (h0 : 0 < m) (hn : m ≤ 65536) (hx : Bytes w (some ⟨g, off, none⟩) zs) :
    Calls Tryz.prog 38 #[.slice (some ⟨g, off, none⟩) m c] w fun e w' => ∃ g' cap', e = .returned (.slice (some ⟨g', 0, none⟩) m cap') ∧ w.heap.size ≤ g' ∧ Piece w' g' zs cap' ∧ Below w.heap.size w w' := by
  obtain ⟨i0, hi, hz0, hz1, hz2⟩ := info_parts info5
  have hw2 : (w.alloc (.cells #[] 5)).ownsRow w.heap.size 5 1 (.slice (some ⟨w.heap.size, 0, none⟩) 0 0) 0 [] :=
    ⟨rfl, .inr ⟨w.heap.size, 0, #[], rfl, Nat.le_refl _, heap_alloc_new w _, Nat.le_refl _, Nat.zero_le _, rfl, rfl⟩⟩
  have hsrc : ∀ j u, (zs.map enc)[j]? = some u → (w.alloc (.cells #[] 5)).cell? ((⟨g, off, none⟩ : Addr).add j) = some u := fun j u hj => by
    have hjl : j < zs.length := by have := (List.getElem?_eq_some_iff.1 hj).1; simpa using this
    obtain ⟨b', o', hA', hc⟩ := hx j hjl
    cases hA'
    have hv : u = .int .u8 (zs[j].toNat : Int) := by simp [hjl, enc] at hj; exact hj.symm
    rw [hv, show (⟨g, off, none⟩ : Addr).add j = ⟨g, off + j, none⟩ by unfold Addr.add; split <;> simp_all]
    exact (World.cell?_alloc_lt w _ _ (block_lt_of_cell hc)).trans hc
  have HS := Lib.hid hsrc; clear hsrc
  have hone : ∀ v ∈ zs.map enc, v.oneCell' = true := by intro v hv; obtain ⟨z, _, rfl⟩ := List.mem_map.1 hv; rfl
  have HO := Lib.hid hone; clear hone
  have HW := Lib.hid hw2; clear hw2
  have heq : ∀ w : World, (binOp .eql 22 (.slice (some ⟨g, off, none⟩) m c) (.slice none 0 0)).run Tryz.prog w = .ok (.bool false) w := fun w => by
    simp only [binOp, Sem.run_bind, run_equal_slice_nil w 22 5 (some ⟨g, off, none⟩) m c Tryz.underlying22]; rfl
  go_enter Tryz.func38, Tryz.ntmps38
  go_wp2_with (at_builtin; go_loud (refine wpList_append_own _ ?g1 (.tmp 5) (.tmp 6) 22 ?g2 w.heap.size 5 i0 (Value.int .u8 0) 1 1 ?g3 ?g4 ?g5 ?g6 ?g7 ?g8 ?g9 (.slice (some ⟨w.heap.size, 0, none⟩) 0 0) 0 [] ?g10 ?g11 ⟨g, off, none⟩ m c (zs.map enc) ?g12 ?g13 ?g14 ?g15 ?g16 ?g17 ?g18 ?g19))
  case g1 => exact rfl
  case g2 => exact rfl
  case g3 => exact Tryz.underlying22
  case g4 => exact hi
  case g5 => exact hz0
  case g6 => exact hz1
  case g7 => exact hz2
  case g8 => exact rfl
  case g9 => exact Nat.one_pos
  case g10 => exact rfl
  case g11 => exact HW.out
  case g12 => exact rfl
  case g13 => rw [Nat.mul_one, List.length_map]; exact hm
  case g14 => exact HS.out
  case g15 => exact HO.out
  case g16 => simp only [maxLen]; omega
  case g17 => omega
  case g18 => simp
  case g19 =>
    intro v' w' hown hgr _
    replace hown : w'.ownsRow w.heap.size 5 1 v' m (zs.map enc) := by simpa using hown
    obtain ⟨cap', cur, hv, hbase, hb, hl, hcm, hsz, htake⟩ : ∃ cap' cur, (∃ g', v' = .slice (some ⟨g', 0, none⟩) m cap' ∧ w.heap.size ≤ g' ∧ w'.heap[g']? = some (.cells cur 5 (0, 0))) ∧ True ∧ True ∧ m ≤ cap' ∧ True ∧ cur.size = cap' * 1 ∧ cur.toList.take (m * 1) = zs.map enc := by
      rcases hown.2 with ⟨_, h⟩ | ⟨g', cap', cur, h1, h2, h3, h4, h5, h6, h7⟩
      · omega
      · exact ⟨cap', cur, ⟨g', h1, h2, h3⟩, trivial, trivial, h4, trivial, h6, h7⟩
    obtain ⟨g', rfl, hg', hcur⟩ := hv
    have HT := Lib.hid htake; clear htake
    have HG := Lib.hid hgr; clear hgr
    clear hown
    go_wp2
    go_ret
    have htake := HT.out
    refine ⟨g', cap', rfl, hg', ⟨cur, hcur, by omega, by omega, fun k hk => ?_⟩, ?_⟩
    · have e : (cur.toList.take (m * 1))[k]? = (zs.map enc)[k]? := by rw [htake]
      rw [List.getElem?_take, if_pos (by omega)] at e
      simpa [hk] using e
    · exact ((Below.refl _ w).alloc (Nat.le_refl _) _).grown HG.out (by simp) (fun k e => by simp [Value.ownBlock] at e; omega)
end Go.Proofs.YtkmgcggoemlaaaaGreatDoor
end

section
/- What roomy and still do on longer slices of bytes. No condition. -/
set_option linter.unusedSimpArgs false
set_option linter.unusedVariables false
namespace Go.Proofs.YtkmgcggoemlaaaaGreatDoor
open Go.RowKit
set_option maxRecDepth 100000 in
set_option maxHeartbeats 1000000 in
theorem roomy_big (w : World) (A : Option Addr) (c : Nat) (zs : List UInt8) (hn : zs.length ≤ 1000000) (hx : Bytes w A zs) :
    Calls Tryz.prog 36 #[.slice A zs.length c] w fun e w' => e = .returned (.slice (some ⟨w.heap.size, 0, none⟩) zs.length (zs.length + 2)) ∧ Below w.heap.size w w' ∧ w'.heap[w.heap.size]? = some (.cells (zs.map enc ++ [Value.int .u8 71, Value.int .u8 72]).toArray 5 (0, 0)) := by
  obtain ⟨n, hl⟩ : ∃ n, zs.length = n := ⟨_, rfl⟩
  rw [hl] at hn ⊢
  have hmk := run_make_u8 (n + 2) (by omega)
  have hcast : ((n + 2 : Nat) : Int) = (n : Int) + 2 := by omega
  rw [hcast] at hmk
  obtain ⟨ys, hys⟩ : ∃ ys, ys = zs.map enc := ⟨_, rfl⟩
  have hyl : ys.length = n := by rw [hys]; simpa using hl
  obtain ⟨rs, hrs⟩ : ∃ rs, rs = List.replicate (n + 2) (Value.int .u8 0) := ⟨_, rfl⟩
  have hrl : rs.length = n + 2 := by rw [hrs]; simp
  rw [← hrs] at hmk
  have HR := Lib.hid hrs; clear hrs
  have hcell : 0 < ys.length → ∃ ad, A = some ad ∧ ∀ j v, ys[j]? = some v → (w.alloc (.cells rs.toArray 5)).cell? (ad.add j) = some v := by
    intro h0
    obtain ⟨b, o, hA, _⟩ := hx 0 (by omega)
    refine ⟨_, hA, fun j v hj => ?_⟩
    have hjl : j < zs.length := by have := (List.getElem?_eq_some_iff.1 hj).1; omega
    obtain ⟨b', o', hA', hc⟩ := hx j hjl
    rw [hA] at hA'; cases hA'
    have hv : v = .int .u8 (zs[j].toNat : Int) := by rw [hys] at hj; simp [hjl, enc] at hj; exact hj.symm
    rw [hv]
    have hc' := hc
    rw [show (⟨b, o, none⟩ : Addr).add j = ⟨b, o + j, none⟩ by unfold Addr.add; split <;> simp_all]
    exact (World.cell?_alloc_lt w _ _ (block_lt_of_cell hc)).trans hc
  have HC := Lib.hid hcell; clear hcell
  have hone : ∀ v ∈ ys, v.oneCell' = true := by rw [hys]; intro v hv; obtain ⟨z, _, rfl⟩ := List.mem_map.1 hv; rfl
  have HO := Lib.hid hone; clear hone
  have HY := Lib.hid hys; clear hys
  go_enter Tryz.func36, Tryz.ntmps36
  go_wp2_with ((with_reducible show wpList _ _ _ _ _ _); refine wpList_copy_splice (o := ⟨some 12, _, _, _, _, _⟩) ?g1 (.tmp 10) (.tmp 11) 22 22 ?g2 5 ?g3 ?g4 (some ⟨w.heap.size, 0, none⟩) A (n + 2) (n + 2) n c ?g5 ?g6 w.heap.size 0 rs 5 ?g7 ys ?g8 ?g9 ?g10 ?g11 w.heap.size w ?g12 ?g13 ?g14; rotate_right; (intro w2 HG2 hB2; have hG2 := HG2.out; rw [HR.out, splice_made n ys hyl] at hG2; have hc0 : w2.cell? ⟨w.heap.size, n, none⟩ = some (Value.int .u8 0) := (by rw [World.cell_blk hG2]; simp [hyl, enc]); have hc1 : w2.cell? ⟨w.heap.size, n + 1, none⟩ = some (Value.int .u8 0) := (by rw [World.cell_blk hG2]; simp [hyl, enc]); have hf0 : ∀ j, w2.frozen? ⟨w.heap.size, j, none⟩ = false := World.frozen_blk hG2; have HG := Lib.hid hG2; clear hG2 HG2); rotate_left; exact rfl; exact rfl; exact Tryz.underlying22; exact size5; exact rfl; exact rfl; exact heap_alloc_new w _; (rw [hyl]; exact (Nat.min_eq_left (by omega)).symm); exact fun h => ⟨rfl, HC.out h⟩; omega; exact HO.out; exact (Below.refl _ w).alloc (Nat.le_refl _) _; exact Nat.le_refl _; skip)
  go_ret
  exact ⟨rfl, (hB2.setCell (p := ⟨w.heap.size, n, none⟩) (Nat.le_refl _) _).setCell (p := ⟨w.heap.size, n + 1, none⟩) (Nat.le_refl _) _, by rw [← HY.out]; exact heap_set2 HG.out hyl _ _⟩
set_option maxHeartbeats 1000000 in
theorem still_big (w : World) (g : Nat) (A : Option Addr) (c : Nat) (zs : List UInt8) (hn : zs.length ≤ 1000000) (hg : w.heap[g]? = some (.cells (zs.map enc ++ [Value.int .u8 71, Value.int .u8 72]).toArray 5 (0, 0))) (hx : Bytes w A zs) :
    Calls Tryz.prog 37 #[.slice (some ⟨g, 0, none⟩) zs.length (zs.length + 2), .slice A zs.length c] w fun e w' => e = .returned (.bool true) ∧ But g w w' := by
  have hnums : Nums w g (zs.length + 2) := ⟨_, hg, by simp, fun j hj => by
    rcases Nat.lt_or_ge j zs.length with h | h
    · exact ⟨zs[j].toNat, by simp [List.getElem?_append_left, h, enc]⟩
    · rcases Nat.eq_or_lt_of_le h with h | h
      · subst h; exact ⟨71, by simp [enc]⟩
      · obtain rfl : j = zs.length + 1 := by omega
        exact ⟨72, by simp [enc]⟩⟩
  have hy : Bytes w (some ⟨g, 0, none⟩) zs := fun k hk => ⟨g, 0, rfl, by rw [World.cell_blk hg]; simp [List.getElem?_append_left, hk, enc]⟩
  have h71 : w.cell? ⟨g, zs.length, none⟩ = some (.int .u8 71) := by rw [World.cell_blk hg]; simp [enc]
  have h72 : w.cell? ⟨g, zs.length + 1, none⟩ = some (.int .u8 72) := by rw [World.cell_blk hg]; simp [enc]
  have hfz : ∀ j, w.frozen? ⟨g, j, none⟩ = false := World.frozen_blk hg
  have HM := Lib.hid hnums; clear hnums
  clear hg
  obtain ⟨n, hl⟩ : ∃ n, zs.length = n := ⟨_, rfl⟩
  rw [hl] at hn h71 h72 ⊢
  go_enter Tryz.func37, Tryz.ntmps37
  rw [hl] at HM
  go_wp2_with (go_at_call 21; refine (same_eq w (some ⟨g, 0, none⟩) A _ _ n zs hl (by unfold maxLen; omega) hy hx).mono ?_; rintro e w' ⟨rfl, d, rfl⟩)
  go_loopw [8] (fun i wr => ∃ k : Nat, k ≤ n + 2 ∧ i = .int .i64 k ∧ Nums wr g (n + 2) ∧ But g w wr) (fun i _ => n + 2 - (intOf i).toNat)
  case atStart => exact ⟨0, Nat.zero_le _, rfl, HM.out, (But.refl g w).drewN _⟩
  case round =>
    obtain ⟨k, hk, rfl, hN, hB⟩ := hrel
    by_cases hlt : k < n + 2
    · obtain ⟨z, hc, hf⟩ := hN.at_ hlt
      have HN := Lib.hid hN; clear hN
      go_wp2
      go_roundw
      case rel => exact ⟨k + 1, by omega, by go_num, HN.out.set _ _, hB.set _ _⟩
      case measure => simp [intOf]; omega
    · go_wp2
      go_ret
      exact ⟨rfl, hB⟩
end Go.Proofs.YtkmgcggoemlaaaaGreatDoor
end

section
/- How a flash and an applier lie in memory. No condition. -/
set_option linter.unusedSimpArgs false
set_option linter.unusedVariables false
namespace Go.Proofs.YtkmgcggoemlaaaaGreatDoor
open Go.RowKit Go.Fwm

/-- Block b holds these cells, of that type. -/
def Blk (w : World) (b : Nat) (t : TypeId) (cs : List Value) : Prop := w.heap[b]? = some (.cells cs.toArray t (0, 0))
section
variable {w w' : World} {b : Nat} {t : TypeId} {cs : List Value}
theorem Blk.lt (h : Blk w b t cs) : b < w.heap.size := (Array.getElem?_eq_some_iff.1 h).1
theorem Blk.cell (h : Blk w b t cs) {i : Nat} {v : Value} (hv : cs[i]? = some v) : w.cell? ⟨b, i, none⟩ = some v := by
  rw [World.cell_blk h]; simpa using hv
theorem Blk.free (h : Blk w b t cs) (i : Nat) : w.frozen? ⟨b, i, none⟩ = false := World.frozen_blk h i
theorem Blk.set (h : Blk w b t cs) (i : Nat) (v : Value) : Blk (w.setCell ⟨b, i, none⟩ v) b t (cs.set i v) := by
  unfold Blk at h ⊢
  simp [World.setCell, Array.getElem?_modify, h]
theorem Blk.keep (h : Blk w b t cs) (e : w'.heap[b]? = w.heap[b]?) : Blk w' b t cs := e.trans h
theorem Blk.setNe (h : Blk w b t cs) {a : Addr} (v : Value) (hne : b ≠ a.block) : Blk (w.setCell a v) b t cs := h.keep (Below.heap_setCell w a v b hne)
theorem Blk.alloc (h : Blk w b t cs) (o : Obj) : Blk (w.alloc o) b t cs := h.keep (heap_alloc_old w o h.lt)
theorem Blk.drewN (h : Blk w b t cs) (k : Nat) : Blk (w.drewN k) b t cs := h
theorem Blk.drew (h : Blk w b t cs) : Blk w.drew b t cs := h
end

/-- Of the blocks that were there only those of F may have turned. -/
structure Only (F : Nat → Prop) (w w' : World) : Prop where
  le : w.heap.size ≤ w'.heap.size
  keep : ∀ b, b < w.heap.size → ¬ F b → w'.heap[b]? = w.heap[b]?
section
variable {F : Nat → Prop} {w w' w'' : World}
theorem Only.refl (F : Nat → Prop) (w : World) : Only F w w := ⟨Nat.le_refl _, fun _ _ _ => rfl⟩
theorem Only.trans (h : Only F w w') {F' : Nat → Prop} (k : Only F' w' w'') (hF : ∀ b, b < w.heap.size → F' b → F b) : Only F w w'' :=
  ⟨Nat.le_trans h.le k.le, fun b hb hn => (k.keep b (Nat.lt_of_lt_of_le hb h.le) fun x => hn (hF b hb x)).trans (h.keep b hb hn)⟩
theorem Only.mono (h : Only F w w') {F' : Nat → Prop} (hF : ∀ b, b < w.heap.size → F b → F' b) : Only F' w w' := ⟨h.le, fun b hb hn => h.keep b hb fun x => hn (hF b hb x)⟩
theorem Only.set (h : Only F w w') {a : Addr} (v : Value) (ha : F a.block ∨ w.heap.size ≤ a.block) : Only F w (w'.setCell a v) :=
  ⟨by simpa [World.setCell] using h.le, fun b hb hn => (Below.heap_setCell w' a v b (fun e => by subst e; rcases ha with x | x; exact hn x; omega)).trans (h.keep b hb hn)⟩
theorem Only.alloc (h : Only F w w') (o : Obj) : Only F w (w'.alloc o) :=
  ⟨by have := h.le; simp; omega, fun b hb hn => (heap_alloc_old w' o (Nat.lt_of_lt_of_le hb h.le)).trans (h.keep b hb hn)⟩
theorem Only.drewN (h : Only F w w') (k : Nat) : Only F w (w'.drewN k) := ⟨h.le, h.keep⟩
theorem Only.drew (h : Only F w w') : Only F w w'.drew := ⟨h.le, h.keep⟩
theorem Only.below (h : Below w.heap.size w w') : Only F w w' := ⟨h.size, fun b hb _ => h.block b hb⟩
theorem Only.but {g : Nat} (h : But g w w') (hg : F g) : Only F w w' := ⟨by rw [h.size]; exact Nat.le_refl _, fun b hb hn => h.block b fun e => hn (e ▸ hg)⟩
theorem Blk.only {b : Nat} {t : TypeId} {cs : List Value} (h : Blk w b t cs) (k : Only F w w') (hn : ¬ F b) : Blk w' b t cs := h.keep (k.keep b h.lt hn)
end

/-- A slice's memory is none of these. -/
def Away (F : Nat → Prop) (A : Option Addr) : Prop := ∀ a, A = some a → ¬ F a.block
theorem Bytes.lt {w : World} {A : Option Addr} {zs : List UInt8} (h : Bytes w A zs) {k : Nat} (hk : k < zs.length) : ∃ a, A = some a ∧ a.block < w.heap.size := by
  obtain ⟨b, o, rfl, hc⟩ := h k hk
  exact ⟨_, rfl, block_lt_of_cell (a := ⟨b, o + k, none⟩) hc⟩
theorem Bytes.keep {w w' : World} {A : Option Addr} {zs : List UInt8} (h : Bytes w A zs) (e : ∀ a, A = some a → a.block < w.heap.size → w'.heap[a.block]? = w.heap[a.block]?) : Bytes w' A zs := by
  intro k hk
  obtain ⟨b, o, rfl, hc⟩ := h k hk
  exact ⟨b, o, rfl, by rw [World.cell?_of_block (a := ⟨b, o + k, none⟩) (e ⟨b, o, none⟩ rfl (block_lt_of_cell (a := ⟨b, o + k, none⟩) hc))]; exact hc⟩
theorem Bytes.only {F : Nat → Prop} {w w' : World} {A : Option Addr} {zs : List UInt8} (h : Bytes w A zs) (k : Only F w w') (hn : Away F A) : Bytes w' A zs :=
  h.keep fun a ha hlt => k.keep _ hlt (hn a ha)
theorem Bytes.nil (w : World) (A : Option Addr) : Bytes w A [] := fun k hk => by cases hk
theorem Bytes.of_blk {w : World} {b : Nat} {zs : List UInt8} {rest : List Value} {t : TypeId} (h : Blk w b t (zs.map enc ++ rest)) : Bytes w (some ⟨b, 0, none⟩) zs := fun k hk =>
  ⟨b, 0, rfl, by rw [Nat.zero_add]; exact h.cell (by rw [List.getElem?_append_left (by simpa using hk)]; simp [enc, hk])⟩
theorem Bytes.of_piece {w : World} {g : Nat} {zs : List UInt8} {cap : Nat} (h : Piece w g zs cap) : Bytes w (some ⟨g, 0, none⟩) zs := fun k hk => by
  obtain ⟨cs, h1, h2, h3, h4⟩ := h
  exact ⟨g, 0, rfl, by rw [Nat.zero_add, World.cell_blk h1]; exact h4 k hk⟩
theorem Bytes.drop {w : World} {b o : Nat} {zs : List UInt8} (h : Bytes w (some ⟨b, o, none⟩) zs) (n : Nat) : Bytes w (some ⟨b, o + n, none⟩) (zs.drop n) := fun k hk => by
  simp only [List.length_drop] at hk
  obtain ⟨b', o', e, hc⟩ := h (n + k) (by omega)
  cases e
  exact ⟨b, o + n, rfl, by rw [Nat.add_assoc]; simpa using hc⟩
theorem Bytes.take {w : World} {A : Option Addr} {zs : List UInt8} (h : Bytes w A zs) (n : Nat) : Bytes w A (zs.take n) := fun k hk => by
  simp only [List.length_take] at hk
  obtain ⟨b, o, e, hc⟩ := h k (by omega)
  exact ⟨b, o, e, by simpa using hc⟩

/-! ### errors -/
def errV : Option Nat → Value
  | none => .nilIface
  | some n => .iface 30 (.int .i64 (n : Int))
/-- What a fault lies as. -/
def FltV (w : World) (F : Nat → Prop) (v : Value) : Flt → Prop
  | .none => v = .nilIface
  | .errno n => v = .iface 30 (.int .i64 (n : Int))
  | .wrapped n => ∃ b at_, v = .iface 96 (.pointer (some ⟨b, 0, none⟩)) ∧ ¬ F b ∧ Blk w b 98 [.int .i64 at_, .int .i64 (n : Int)]
theorem FltV.only {F F' : Nat → Prop} {w w' : World} {v : Value} {x : Flt} (h : FltV w F v x) (k : Only F w w') (hF : ∀ b, b < w.heap.size → F' b → F b) : FltV w' F' v x := by
  cases x with
  | none => exact h
  | errno n => exact h
  | wrapped n =>
    obtain ⟨b, a, h1, h2, h3⟩ := h
    exact ⟨b, a, h1, fun x => h2 (hF b h3.lt x), h3.only k h2⟩

/-! ### the flash -/
def flCells (f : Fl) (ao : Option Addr) (co bf cf : Nat) (ve : Value) : List Value :=
  [.slice ao f.old.length co, .slice (some ⟨bf, 0, none⟩) f.fresh.length cf, ve, .int .i64 (f.length : Int), .bool f.committed, .int .i64 f.wait, .int .u8 (f.torn.toNat : Int), .int .i64 (f.reads : Int), .int .i64 (f.longest : Int)]
def evCells : List (Nat × Nat) → List Value
  | [] => []
  | (k, p) :: l => .int .i64 (k : Int) :: .int .i64 (p : Int) :: evCells l
theorem evCells_length (l : List (Nat × Nat)) : (evCells l).length = l.length * 2 := by
  induction l with
  | nil => rfl
  | cons x l ih => obtain ⟨k, p⟩ := x; simp [evCells, ih]; omega
theorem evCells_app (l m : List (Nat × Nat)) : evCells (l ++ m) = evCells l ++ evCells m := by
  induction l with
  | nil => rfl
  | cons x l ih => obtain ⟨k, p⟩ := x; simp [evCells, ih]
/-- The list of events: nil, or at the head of block be. -/
def EvV (w : World) (be : Nat) (v : Value) (l : List (Nat × Nat)) : Prop :=
  w.ownsRow 0 80 2 v l.length (evCells l) ∧ ∀ k, v.ownBlock = some k → k = be
/-- What the flash owns. -/
def FF (pf bf be : Nat) (b : Nat) : Prop := b = pf ∨ b = bf ∨ b = be
/-- .. and others. -/
def AF_ (X : Nat → Prop) (pf bf be : Nat) (b : Nat) : Prop := X b ∨ b = pf ∨ b = bf ∨ b = be
/-- The flash at pf, beside other blocks X. -/
structure FRep (w : World) (X : Nat → Prop) (pf bf be : Nat) (f : Fl) : Prop where
  blk : ∃ ao co cf ve, Blk w pf 76 (flCells f ao co bf cf ve) ∧ Bytes w ao f.old ∧ Away (AF_ X pf bf be) ao ∧ (∀ a, ao = some a → a.block < w.heap.size) ∧ EvV w be ve f.events ∧ f.fresh.length ≤ cf ∧ cf ≤ maxLen ∧ f.old.length ≤ co ∧ co ≤ maxLen ∧ (ao = none → co = 0)
  fresh : Blk w bf 5 (f.fresh.map enc)
  ne1 : pf ≠ bf
  ne2 : pf ≠ be
  ne3 : bf ≠ be
  belt : be < w.heap.size
  old_le : f.old.length ≤ 4096
  fresh_le : f.fresh.length ≤ 4096
  ev_le : f.events.length ≤ 1000000000
  len_le : f.length ≤ f.fresh.length
  wait_le : f.wait ≤ 1000000000 ∧ -1 ≤ f.wait
  reads_le : f.reads ≤ 1000000000000
  longest_le : f.longest ≤ 1000000

/-! ### the applier -/
def stF : St → FuncId
  | .oldSize => 43 | .oldSum => 59 | .newSize => 71 | .step => 84 | .counted => 97 | .own => 105 | .place => 106 | .beside => 107 | .fin => 85 | .over => 98
def stV (s : St) : Value := .func (.func (stF s)) #[] #[]
def apCells (a : Ap) (pf : Nat) (vf vb : Value) : List Value :=
  [.pointer (some ⟨pf, 0, none⟩), stV a.st, .int .i64 (a.at_ : Int), .int .u32 (a.sum : Int), vf, .int .u32 (a.value : Int), .int .i64 a.digits, .int .i64 (a.size : Int), .int .i64 (a.length : Int), .int .i64 (a.made : Int), .int .i64 (a.count : Int), .int .u8 (a.op : Int)] ++ (a.page.map enc ++ [vb])
structure AInv (a : Ap) : Prop where
  page : a.page.length = 64
  value : a.value < 4294967296
  sum : a.sum < 4294967296
  digits : -1 ≤ a.digits ∧ a.digits ≤ 4
  size : a.size ≤ 4096
  length : a.length ≤ 4096
  made : a.made ≤ 4096
  count : a.count ≤ 4096
  op : a.op < 256
  at_ : a.at_ ≤ 1000000000000
/-- What stays away from the flash's blocks. -/
def PX (pa : Nat) (G : Nat → Prop) (b : Nat) : Prop := b = pa ∨ G b
structure ARep (w : World) (G : Nat → Prop) (pa pf bf be : Nat) (a : Ap) (f : Fl) : Prop where
  blk : ∃ vf A c, Blk w pa 93 (apCells a pf vf (.slice A a.buf.length c)) ∧ FltV w (AF_ (PX pa G) pf bf be) vf a.fault ∧ Bytes w A a.buf ∧ Away (AF_ (PX pa G) pf bf be) A ∧ (∀ x, A = some x → x.block < w.heap.size) ∧ a.buf.length ≤ c ∧ c ≤ maxLen
  fl : FRep w (PX pa G) pf bf be f
  ne : pa ≠ pf ∧ pa ≠ bf ∧ pa ≠ be
  ng : ¬ G pa ∧ ¬ G pf ∧ ¬ G bf ∧ ¬ G be
  glt : ∀ b, G b → b < w.heap.size
  inv : AInv a
end Go.Proofs.YtkmgcggoemlaaaaGreatDoor
end

section
/- What the flash's calls do: cut, Size, Pages, page. No condition. -/
set_option linter.unusedSimpArgs false
set_option linter.unusedVariables false
namespace Go.Proofs.YtkmgcggoemlaaaaGreatDoor
open Go.RowKit Go.Fwm

/-- A flash that has turned: what is known of the world behind it. -/
def FTo (w : World) (X : Nat → Prop) (pf bf be : Nat) (f' : Fl) (w' : World) : Prop := ∃ be', FRep w' X pf bf be' f' ∧ (be' = be ∨ w.heap.size ≤ be') ∧ Only (FF pf bf be) w w'

theorem FRep.wait_set {w : World} {X : Nat → Prop} {pf bf be : Nat} {f : Fl} (h : FRep w X pf bf be f) {n : Int} (hn : n ≤ 1000000000 ∧ -1 ≤ n) : FRep (w.setCell ⟨pf, 5, none⟩ (.int .i64 n)) X pf bf be { f with wait := n } := by
  obtain ⟨⟨ao, co, cf, ve, h1, h2, h3, h4, h5, h6⟩, hfr, ne1, ne2, ne3, hb, o1, o2, o3, o4, o5, o6, o7⟩ := h
  have hon : Only (fun b => b = pf) w (w.setCell ⟨pf, 5, none⟩ (.int .i64 n)) := (Only.refl _ w).set _ (.inl rfl)
  refine ⟨⟨ao, co, cf, ve, h1.set 5 _, h2.only hon fun a ha => ?_, h3, fun a ha => Nat.lt_of_lt_of_le (h4 a ha) hon.le, ⟨?_, h5.2⟩, h6⟩, hfr.setNe _ (Ne.symm ne1), ne1, ne2, ne3, Nat.lt_of_lt_of_le hb hon.le, o1, o2, o3, o4, hn, o6, o7⟩
  · exact fun e => h3 a ha (.inr (.inl e))
  · exact h5.1.kept (row := some pf) ⟨rfl, rfl, rfl, hon.le, fun k hk hne => hon.keep k hk fun e => hne (by rw [e])⟩ (by
      cases hv : ve.ownBlock with
      | none => exact .inl rfl
      | some k => exact .inr fun e => by cases e; exact ne2 (h5.2 _ hv))

set_option maxHeartbeats 400000 in
theorem cut_off (w : World) (X : Nat → Prop) (pf bf be : Nat) (f : Fl) (h : FRep w X pf bf be f) (hw : f.wait < 0) :
    Calls Tryz.prog 60 #[.pointer (some ⟨pf, 0, none⟩)] w fun e w' => e = .returned (.bool f.cutB) ∧ FTo w X pf bf be f.cut w' := by
  have e1 : f.cutB = false := by unfold Fl.cutB; simp; omega
  have e2 : f.cut = f := by unfold Fl.cut; rw [if_neg (by omega)]
  have hR : FTo w X pf bf be f w := ⟨be, h, .inl rfl, Only.refl _ _⟩
  obtain ⟨ao, co, cf, ve, h1, _⟩ := h.blk
  have hc : w.cell? ⟨pf, 5, none⟩ = some (.int .i64 f.wait) := h1.cell rfl
  rw [e1, e2]
  clear e1 e2 h h1
  go_enter Tryz.func60, Tryz.ntmps60
  go_wp2
  go_ret
  exact ⟨rfl, hR⟩
set_option maxHeartbeats 400000 in
theorem cut_no (w : World) (X : Nat → Prop) (pf bf be : Nat) (f : Fl) (h : FRep w X pf bf be f) (hw : 0 < f.wait) :
    Calls Tryz.prog 60 #[.pointer (some ⟨pf, 0, none⟩)] w fun e w' => e = .returned (.bool f.cutB) ∧ FTo w X pf bf be f.cut w' := by
  have e1 : f.cutB = false := by unfold Fl.cutB; simp; omega
  have e2 : f.cut = { f with wait := f.wait - 1 } := by unfold Fl.cut; rw [if_pos hw]
  have hwl := h.wait_le
  have hR : FTo w X pf bf be { f with wait := f.wait - 1 } (w.setCell ⟨pf, 5, none⟩ (.int .i64 (f.wait - 1))) := ⟨be, h.wait_set (by omega), .inl rfl, (Only.refl _ _).set _ (.inl (.inl rfl))⟩
  obtain ⟨ao, co, cf, ve, h1, _⟩ := h.blk
  have hc : w.cell? ⟨pf, 5, none⟩ = some (.int .i64 f.wait) := h1.cell rfl
  have hf := h1.free 5
  rw [e1, e2]
  clear e1 e2 h h1
  have hn : ¬ f.wait < 0 := by omega
  go_enter Tryz.func60, Tryz.ntmps60
  go_wp2
  go_ret
  exact ⟨rfl, hR⟩
set_option maxHeartbeats 400000 in
theorem cut_yes (w : World) (X : Nat → Prop) (pf bf be : Nat) (f : Fl) (h : FRep w X pf bf be f) (hw : f.wait = 0) :
    Calls Tryz.prog 60 #[.pointer (some ⟨pf, 0, none⟩)] w fun e w' => e = .returned (.bool f.cutB) ∧ FTo w X pf bf be f.cut w' := by
  have e1 : f.cutB = true := by unfold Fl.cutB; simp [hw]
  have e2 : f.cut = f := by unfold Fl.cut; rw [if_neg (by omega)]
  have hR : FTo w X pf bf be f w := ⟨be, h, .inl rfl, Only.refl _ _⟩
  obtain ⟨ao, co, cf, ve, h1, _⟩ := h.blk
  have hc : w.cell? ⟨pf, 5, none⟩ = some (.int .i64 f.wait) := h1.cell rfl
  rw [hw] at hc
  rw [e1, e2]
  clear e1 e2 h h1 hw
  go_enter Tryz.func60, Tryz.ntmps60
  go_wp2
  go_ret
  exact ⟨rfl, hR⟩
theorem cut_ok (w : World) (X : Nat → Prop) (pf bf be : Nat) (f : Fl) (h : FRep w X pf bf be f) :
    Calls Tryz.prog 60 #[.pointer (some ⟨pf, 0, none⟩)] w fun e w' => e = .returned (.bool f.cutB) ∧ FTo w X pf bf be f.cut w' := by
  by_cases h1 : f.wait < 0
  · exact cut_off w X pf bf be f h h1
  · by_cases h2 : 0 < f.wait
    · exact cut_no w X pf bf be f h h2
    · exact cut_yes w X pf bf be f h (by omega)

set_option maxHeartbeats 400000 in
theorem size_ok (w : World) (X : Nat → Prop) (pf bf be : Nat) (f : Fl) (h : FRep w X pf bf be f) :
    Calls Tryz.prog 69 #[.pointer (some ⟨pf, 0, none⟩)] w fun e w' => e = .returned (.int .i64 (f.old.length : Int)) ∧ w = w' := by
  obtain ⟨ao, co, cf, ve, h1, _⟩ := h.blk
  have hc : w.cell? ⟨pf, 0, none⟩ = some (.slice ao f.old.length co) := h1.cell rfl
  clear h h1
  go_enter Tryz.func69, Tryz.ntmps69
  go_wp2
  go_ret
  exact ⟨rfl, rfl⟩
set_option maxHeartbeats 400000 in
theorem pages_ok (w : World) (X : Nat → Prop) (pf bf be : Nat) (f : Fl) (h : FRep w X pf bf be f) :
    Calls Tryz.prog 30 #[.pointer (some ⟨pf, 0, none⟩)] w fun e w' => e = .returned (.int .i64 (f.pages : Int)) ∧ w = w' := by
  obtain ⟨ao, co, cf, ve, h1, _⟩ := h.blk
  have hc : w.cell? ⟨pf, 1, none⟩ = some (.slice (some ⟨bf, 0, none⟩) f.fresh.length cf) := h1.cell rfl
  have hl := h.fresh_le
  have e : ((f.pages : Nat) : Int) = (f.fresh.length : Int) / 64 := by unfold Fl.pages; omega
  rw [e]
  clear h h1 e
  go_enter Tryz.func30, Tryz.ntmps30
  go_wp2
  go_ret
  exact ⟨rfl, rfl⟩
set_option maxHeartbeats 400000 in
theorem page_ok (w : World) (X : Nat → Prop) (pf bf be : Nat) (f : Fl) (h : FRep w X pf bf be f) (p : Nat) :
    Calls Tryz.prog 113 #[.pointer (some ⟨pf, 0, none⟩), .int .i64 (p : Int)] w fun e w' => e = .returned (.bool (decide (p < f.pages))) ∧ w = w' := by
  have hp := pages_ok w X pf bf be f h
  go_enter Tryz.func113, Tryz.ntmps113
  go_wp2_with (go_at_call 30; refine hp.mono ?_; rintro e w' ⟨rfl, rfl⟩)
  go_ret
  exact ⟨by simp, rfl⟩
end Go.Proofs.YtkmgcggoemlaaaaGreatDoor
end

section
/- The flash's events: an append to a row of one's own leaves it where it was, or lays a new one; Erase of a flash. No condition. -/
set_option linter.unusedSimpArgs false
set_option linter.unusedVariables false
namespace Go
/-- An append to a row of one's own: where the row lies then. -/
theorem append_where {P : Program} (w : World) (t ty e : TypeId) (i : TypeInfo) (z : Value) (size bytes : Nat) (ht : P.underlying t = some (.slice e)) (hi : P.info? e = some i) (hz : i.zero = some z)
    (hsize : i.size = size) (hby : i.bytes = bytes) (hzs : z.cells.size = size) (hsz : 0 < size)
    (v : Value) (n : Nat) (xs : List Value) (hown : w.ownsRow 0 e size v n xs)
    (a : Addr) (m c : Nat) (news : List Value) (hl : news.length = m * size) (hnews : ∀ j u, news[j]? = some u → w.cell? (a.add j) = some u) (h1 : ∀ u ∈ news, u.oneCell' = true)
    (h63 : n + m ≤ maxLen) (hbytes : (n + m) * bytes ≤ 140737488355328) :
    ∃ v' w', (Builtin.append_ #[t, t] ty #[v, .slice (some a) m c]).run P w = .ok v' w' ∧ w'.ownsRow 0 e size v' (n + m) (xs ++ news) ∧ w.grownBy w' v.ownBlock ∧ ∀ k, v'.ownBlock = some k → v.ownBlock = some k ∨ w.heap.size ≤ k := by
  obtain ⟨v', w', hr, h2, h3, _⟩ := run_append_own (P := P) w 0 t ty e i z size bytes ht hi hz hsize hby hzs hsz v n xs hown a m c news hl hnews h1 h63 hbytes (Nat.zero_le _)
  refine ⟨v', w', hr, h2, h3, fun k hk => ?_⟩
  rcases hown.2 with ⟨rfl, rfl⟩ | ⟨g, cap, cur, rfl, hbg, hg, hnc, hcm, hcs, htake⟩
  · have hown' : w.ownsRow w.heap.size e size (.slice none 0 0) 0 xs := ⟨hown.1, .inl ⟨rfl, rfl⟩⟩
    obtain ⟨v2, w2, hr2, q2, _, _⟩ := run_append_own (P := P) w w.heap.size t ty e i z size bytes ht hi hz hsize hby hzs hsz (.slice none 0 0) 0 xs hown' a m c news hl hnews h1 h63 hbytes (Nat.le_refl _)
    rw [hr] at hr2
    cases hr2
    exact .inr (q2.lt k hk).1
  · subst hsize
    by_cases hroom : n + m ≤ cap
    · have hfit : n * i.size + news.length ≤ cur.size := by rw [hl, hcs, ← Nat.add_mul]; exact Nat.mul_le_mul_right _ hroom
      have hr2 := run_append_room (P := P) w t ty e i ht hi g n cap cur hg a m c news hl hnews h1 hroom hfit
      rw [hr] at hr2
      cases hr2
      exact .inl hk
    · have holds : ∀ j u, xs[j]? = some u → w.cell? ((⟨g, 0, none⟩ : Addr).add j) = some u := hown.cells (g := g) rfl
      simp only [maxLen] at h63
      subst hby
      have hr2 := run_append_grow (P := P) w t ty e i z ht hi hz ⟨g, 0, none⟩ n cap xs hown.1 holds a m c news hl hnews (by omega) (by omega) (growslice_fits (by omega) hbytes)
      rw [hr] at hr2
      cases hr2
      simp [Value.ownBlock] at hk
      exact .inr (by omega)
theorem wpList_append_where {P : Program} {w : World} {ops : Array Oper} {rest : List Oper} {o : Oper} {a : Act} {Q : Exit → Act → World → Prop} (hgd : o.guard = none) (s x : Operand) (t : TypeId)
    (ho : o.op = .call { callee := .builtin .append, args := #[s, x], argTypes := #[t, t] })
    (e : TypeId) (i : TypeInfo) (z : Value) (size bytes : Nat) (ht : P.underlying t = some (.slice e)) (hi : P.info? e = some i) (hz : i.zero = some z)
    (hsize : i.size = size) (hby : i.bytes = bytes) (hzs : z.cells.size = size) (hsz : 0 < size)
    (v : Value) (n : Nat) (xs : List Value) (hs : a.eval s = v) (hown : w.ownsRow 0 e size v n xs)
    (ad : Addr) (m c : Nat) (news : List Value) (hx : a.eval x = .slice (some ad) m c) (hl : news.length = m * size) (hnews : ∀ j u, news[j]? = some u → w.cell? (ad.add j) = some u) (h1 : ∀ u ∈ news, u.oneCell' = true)
    (h63 : n + m ≤ maxLen) (hbytes : (n + m) * bytes ≤ 140737488355328)
    (h : ∀ v' w', w'.ownsRow 0 e size v' (n + m) (xs ++ news) → w.grownBy w' v.ownBlock → (∀ k, v'.ownBlock = some k → v.ownBlock = some k ∨ w.heap.size ≤ k) → wpList P ops Q rest (a.put o.dst v') w') : wpList P ops Q (o :: rest) a w :=
  wpList_plain hgd fun _ hK => by
    obtain ⟨v', w', hr, h2, h3, h4⟩ := append_where (P := P) w t o.type e i z size bytes ht hi hz hsize hby hzs hsz v n xs hown ad m c news hl hnews h1 h63 hbytes
    unfold Oper.wp execOp
    simp only [ho, resolve, invoke, builtin, Sem.run_bind, Sem.run_pure, Result.andThen_ok, List.map_toArray, List.map_cons, List.map_nil, hs, hx, hr]
    exact hK _ _ (h v' w' h2 h3 h4)
end Go

namespace Go.Proofs.YtkmgcggoemlaaaaGreatDoor
open Go.RowKit Go.Fwm
theorem info80 : (Tryz.prog.info? 80).map (fun i => (i.zero, i.size, i.bytes)) = some (some (.agg #[.int .i64 0, .int .i64 0]), 2, 16) := by kernel_rfl

/-- The flash behind an event, its row moved or not. -/
theorem FRep.event {w w1 w2 : World} {X : Nat → Prop} {pf bf be : Nat} {f : Fl} (h : FRep w X pf bf be f) {ve v' : Value} {ao : Option Addr} {co cf : Nat} (hb : Blk w pf 76 (flCells f ao co bf cf ve)) (hve : EvV w be ve f.events) (k p : Nat)
    (hon : Only (fun b => some b = ve.ownBlock) w w1) (hown : w1.ownsRow 0 80 2 v' (f.events.length + 1) (evCells f.events ++ [.int .i64 (k : Int), .int .i64 (p : Int)]))
    (hwh : ∀ b, v'.ownBlock = some b → ve.ownBlock = some b ∨ w.heap.size ≤ b) (he : f.events.length < 1000000000) :
    ∃ be', FRep (w1.setCell ⟨pf, 2, none⟩ v') X pf bf be' { f with events := f.events ++ [(k, p)] } ∧ (be' = be ∨ w.heap.size ≤ be') ∧ Only (FF pf bf be) w (w1.setCell ⟨pf, 2, none⟩ v') := by
  have hblk := h.blk
  obtain ⟨⟨ao2, co2, cf2, ve2, g1, g2, g3, g4, g5, g6⟩, hfr, ne1, ne2, ne3, hbl, o1, o2, o3, o4, o5, o6, o7⟩ := h
  have e : flCells f ao2 co2 bf cf2 ve2 = flCells f ao co bf cf ve := by
    have := g1.symm.trans hb
    simpa using this
  simp only [flCells, List.cons.injEq, Value.slice.injEq, and_true, true_and] at e
  obtain ⟨⟨rfl, rfl⟩, rfl, rfl⟩ := e
  have nF : ∀ b, b ≠ be → ¬ (some b = ve2.ownBlock) := fun b hb' e => hb' (hve.2 b e.symm)
  have hfinal : Only (FF pf bf be) w (w1.setCell ⟨pf, 2, none⟩ v') := (hon.mono fun b _ e => .inr (.inr (hve.2 b e.symm))).set _ (.inl (.inl rfl))
  obtain ⟨v0, hv0⟩ : ∃ v0, v'.ownBlock = v0 := ⟨_, rfl⟩
  have hrow : ∃ be', (∀ b, v'.ownBlock = some b → b = be') ∧ (be' = be ∨ w.heap.size ≤ be') ∧ be' < w1.heap.size := by
    cases v0 with
    | none => exact ⟨be, fun b hb' => (by rw [hv0] at hb'; cases hb'), .inl rfl, Nat.lt_of_lt_of_le hbl hon.le⟩
    | some g =>
      refine ⟨g, fun b hb' => (by rw [hv0] at hb'; cases hb'; rfl), (hwh g hv0).imp (fun x => hve.2 g x) id, (hown.lt g hv0).2⟩
  obtain ⟨be', r1, r2, r3⟩ := hrow
  have nbe : ∀ b, b < w.heap.size → b ≠ be → b ≠ be' := fun b hb1 hb2 e => by subst e; rcases r2 with x | x; exact hb2 x; omega
  have hpf : pf < w.heap.size := hb.lt
  have hbf : bf < w.heap.size := hfr.lt
  refine ⟨be', ⟨⟨ao2, co2, cf2, v', ?_, ?_, ?_, fun a ha => Nat.lt_of_lt_of_le (g4 a ha) hfinal.le, ⟨?_, r1⟩, g6⟩, ?_, ne1, nbe pf hpf ne2, nbe bf hbf ne3, by simpa [World.setCell] using r3, o1, o2, by simp; omega, o4, o5, o6, o7⟩, r2, hfinal⟩
  · exact (hb.only hon (nF pf ne2)).set 2 v'
  · exact g2.only hfinal fun a ha x => g3 a ha (.inr x)
  · intro a ha x
    rcases x with x | x | x | x
    · exact g3 a ha (.inl x)
    · exact g3 a ha (.inr (.inl x))
    · exact g3 a ha (.inr (.inr (.inl x)))
    · exact absurd x (nbe _ (g4 a ha) fun e => g3 a ha (.inr (.inr (.inr e))))
  · have : (f.events ++ [(k, p)]).length = f.events.length + 1 := by simp
    rw [this, evCells_app]
    refine World.ownsRow.kept (row := some pf) hown ⟨rfl, rfl, rfl, by simp [World.setCell], fun b hb' hne => Below.heap_setCell w1 ⟨pf, 2, none⟩ v' b (fun e => hne (by rw [e]))⟩ ?_
    cases hv : v'.ownBlock with
    | none => exact .inl rfl
    | some g => exact .inr fun e => by cases e; exact nbe pf hpf ne2 (r1 pf hv)
  · exact (hfr.only hon (nF bf ne3)).setNe _ (Ne.symm ne1)
end Go.Proofs.YtkmgcggoemlaaaaGreatDoor
end
