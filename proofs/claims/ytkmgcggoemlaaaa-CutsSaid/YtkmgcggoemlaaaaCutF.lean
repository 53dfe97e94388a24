/-
  The law Cuts, part 6: the law itself.
  Condition: none of its own; the slice's bytes are below the law's bound here, else the law returns at once.
-/
import Derived.Test.YtkmgcggoemlaaaaCutE
namespace Go.Proofs.Ytkmgcggoemlaaaa.cuts
open Go.RowKit Go.Shelf
attribute [local go_sem] Oper.semAt_some

theorem Bytes.below {w w' : World} {A : Option Addr} {zs : List Int} (h : Bytes w A zs) (hb : Below w.heap.size w w') : Bytes w' A zs := fun k hk => by
  obtain ⟨b, o, hA, hc⟩ := h k hk
  exact ⟨b, o, hA, (hb.cell (p := ⟨b, o + k, none⟩) (block_lt_of_cell hc)).trans hc⟩
theorem Below.but {g : Nat} {B : Nat} {w w' w'' : World} (h : Below B w w') (k : But g w' w'') (hg : B ≤ g) : Below B w w'' :=
  h.trans ⟨k.os, k.tape, k.output, by rw [k.size]; exact Nat.le_refl _, fun b hb => k.block b (by omega)⟩
theorem bytes_piece {w : World} {g cap : Nat} {zs : List Int} (h : Piece w g zs cap) : Bytes w (some ⟨g, 0, none⟩) zs := fun k hk => by
  obtain ⟨cs, h1, _, _, h2⟩ := h
  exact ⟨g, 0, rfl, by rw [World.cell_blk h1, Nat.zero_add]; exact h2 k hk⟩
theorem bytes_cut {w : World} {A : Option Addr} {b o nn i : Nat} {zs : List Int} (h : Bytes w A zs) (hA : A = some ⟨b, o, none⟩) : Bytes w (some ⟨b, o + i * nn, none⟩) (pz zs nn i) := by
  intro j hj
  have hj' := hj
  rw [pz_length] at hj'
  unfold plen at hj'
  obtain ⟨b', o', hA', hc⟩ := h (i * nn + j) (by omega)
  rw [hA] at hA'; cases hA'
  refine ⟨b, o + i * nn, rfl, ?_⟩
  have e : (pz zs nn i)[j] = zs[i * nn + j]'(by omega) := by simp [pz]
  rw [e, Nat.add_assoc]; exact hc

/-- What holds between two turns of the law's loop, i pieces being done. -/
structure LI (w0 : World) (zs : List Int) (nn K : Nat) (A : Option Addr) (ps : List (Nat × Nat)) (i : Nat) (V : World) : Prop where
  below : Below w0.heap.size w0 V
  pcs : ∀ j p, i ≤ j → ps[j]? = some p → w0.heap.size ≤ p.1 ∧ Piece V p.1 (pz zs nn j) p.2
  row : 0 < K → ∃ gr cur, A = some ⟨gr, 0, none⟩ ∧ V.heap[gr]? = some (.cells cur 25 (0, 0)) ∧ ∀ j, j < K → cur[j]? = (hdrs zs.length nn ps)[j]?
theorem LI.drew {w0 : World} {zs : List Int} {nn K : Nat} {A : Option Addr} {ps : List (Nat × Nat)} {i : Nat} {V : World} (h : LI w0 zs nn K A ps i V) (d : Nat) : LI w0 zs nn K A ps i (V.drewN d) :=
  ⟨⟨h.below.os, h.below.tape, h.below.output, h.below.size, h.below.block⟩, h.pcs, h.row⟩
theorem LI.but {w0 : World} {zs : List Int} {nn K : Nat} {A : Option Addr} {ps : List (Nat × Nat)} {i : Nat} {V V' : World} (h : LI w0 zs nn K A ps i V) (hnd : (ps.map (·.1)).Nodup) {p : Nat × Nat} (hp : ps[i]? = some p)
    (hb : But p.1 V V') : LI w0 zs nn K A ps (i + 1) V' := by
  refine ⟨Below.but h.below hb (h.pcs i p (Nat.le_refl _) hp).1, fun j q hj hq => ?_, fun hK => ?_⟩
  · have hne : q.1 ≠ p.1 := fun e => by
      have h1 : (ps.map (·.1))[j]? = some q.1 := by rw [List.getElem?_map, hq]; rfl
      have h2 : (ps.map (·.1))[i]? = some p.1 := by rw [List.getElem?_map, hp]; rfl
      obtain ⟨l1, e1⟩ := List.getElem?_eq_some_iff.1 h1
      obtain ⟨l2, e2⟩ := List.getElem?_eq_some_iff.1 h2
      exact (List.pairwise_iff_getElem.1 hnd i j l2 l1 (by omega)) (by rw [e1, e2, e])
    exact ⟨(h.pcs j q (by omega) hq).1, (h.pcs j q (by omega) hq).2.block (hb.block _ hne)⟩
  · obtain ⟨gr, cur, hA, hc, hj⟩ := h.row hK
    refine ⟨gr, cur, hA, (hb.block gr (fun e => ?_)).trans hc, hj⟩
    obtain ⟨cs, h1, _⟩ := (h.pcs i p (Nat.le_refl _) hp).2
    rw [← e, hc] at h1
    cases h1

/-- What Collect hands back, whatever the numbers are. -/
structure Got (w1 w2 : World) (zs : List Int) (m most : Int) (A : Option Addr) (K : Nat) (ps : List (Nat × Nat)) (nn : Nat) : Prop where
  below : Below w1.heap.size w1 w2
  small : K ≤ 65536
  len : ps.length = K
  pcs : ∀ j p, ps[j]? = some p → w1.heap.size ≤ p.1 ∧ Piece w2 p.1 (pz zs nn j) p.2
  nodup : (ps.map (·.1)).Nodup
  row : 0 < K → ∃ gr cur, A = some ⟨gr, 0, none⟩ ∧ w1.heap.size ≤ gr ∧ w2.heap[gr]? = some (.cells cur 25 (0, 0)) ∧ ∀ j, j < K → cur[j]? = (hdrs zs.length nn ps)[j]?
  room : ∀ k, k < K → k * nn < zs.length
  fin : (K = 0 ∧ (m < 1 ∨ most ≤ 0)) ∨ (m = (nn : Nat) ∧ 1 ≤ nn ∧ 0 < most ∧ ((K : Int) = most ∨ ((K : Int) < most ∧ zs.length ≤ K * nn)))

def Row5 (V : World) (g cap : Nat) : Prop := ∃ cs : Array Value, V.heap[g]? = some (.cells cs 5 (0, 0)) ∧ cs.size = cap
theorem Row5.set {V : World} {g cap : Nat} (h : Row5 V g cap) (j : Nat) (u : Value) : Row5 (V.setCell ⟨g, j, none⟩ u) g cap := by
  obtain ⟨cs, h1, h2⟩ := h
  exact ⟨cs.setIfInBounds j u, by simp [World.setCell, Array.getElem?_modify, h1], by simpa using h2⟩
theorem Row5.at_ {V : World} {g cap : Nat} (h : Row5 V g cap) {j : Nat} (hj : j < cap) : ∃ u, V.cell? ⟨g, j, none⟩ = some u ∧ V.frozen? ⟨g, j, none⟩ = false := by
  obtain ⟨cs, h1, h2⟩ := h
  exact ⟨cs[j]'(by omega), by rw [World.cell_blk h1, Array.getElem?_eq_getElem], World.frozen_blk h1 j⟩

theorem collect_all (n rb : Nat) (zs : List Int) (m most : Int) (hn : 5 ≤ n) (hlen : zs.length ≤ 65536) (hmost : most ≤ 65536) (hm : m ≤ 9223372036854775807) (w1 : World)
    (hrb : w1.heap[rb]? = some (.cells (zs.map enc ++ [enc 71, enc 72]).toArray 5 (0, 0))) :
    CallsIn Fence.wide n Try.prog 8 #[.slice (some ⟨rb, 0, none⟩) zs.length (zs.length + 2), .int .i64 m, .int .i64 most] w1 fun e w2 => ∃ A K cap ps nn, e = .returned (.slice A K cap) ∧ Got w1 w2 zs m most A K ps nn := by
  have hnone : ∀ e w2, (e = Ending.returned (.slice none 0 0) ∧ Below w1.heap.size w1 w2) → (m < 1 ∨ most ≤ 0) → ∃ A K cap ps nn, e = .returned (.slice A K cap) ∧ Got w1 w2 zs m most A K ps nn := fun e w2 h hc =>
    ⟨none, 0, 0, [], 1, h.1, h.2, Nat.zero_le _, rfl, fun j p hp => (by simp at hp), by simp, fun h => absurd h (by omega), fun k hk => absurd hk (by omega), .inl ⟨rfl, hc⟩⟩
  rcases Int.lt_or_le 0 most with h0 | h0
  · rcases Int.lt_or_le m 1 with h1 | h1
    · exact (collect_low n _ m most ⟨_, _, _, rfl⟩ hn h1 h0 w1).mono fun e w2 h => hnone e w2 h (.inl h1)
    · obtain ⟨nn, rfl⟩ : ∃ nn : Nat, m = nn := ⟨m.toNat, by omega⟩
      have hnm : nn ≤ 9223372036854775807 := by omega
      refine (collect_ok n rb nn zs most hn hlen (by omega) hnm h0 hmost w1 hrb).mono ?_
      rintro e w2 ⟨hB, v, K, ps, rfl, hrow, hpl, hpc, hfin, hroom⟩
      have hK : K ≤ 65536 := by omega
      have hrow' := hrow.2
      rcases hrow' with ⟨rfl, rfl⟩ | ⟨g, cap, cur, rfl, hg, hcur, _, _, hsz, htake⟩
      · exact ⟨none, 0, 0, ps, nn, rfl, hB, hK, hpl, fun j p hp => ⟨by have := (hpc.at_ j p hp).1; omega, (hpc.at_ j p hp).2⟩, hpc.nodup, fun h => absurd h (by omega), hroom, .inr ⟨rfl, by omega, h0, hfin⟩⟩
      · refine ⟨some ⟨g, 0, none⟩, K, cap, ps, nn, rfl, hB, hK, hpl, fun j p hp => ⟨by have := (hpc.at_ j p hp).1; omega, (hpc.at_ j p hp).2⟩, hpc.nodup, fun _ => ⟨g, cur, rfl, by omega, hcur, fun j hj => ?_⟩, hroom, .inr ⟨rfl, by omega, h0, hfin⟩⟩
        rw [← htake, Nat.mul_one, List.getElem?_take, if_pos hj]
        simp
  · exact (collect_none n _ m most ⟨_, _, _, rfl⟩ h0 w1).mono fun e w2 h => hnone e w2 h (.inr h0)

set_option maxRecDepth 100000 in
set_option maxHeartbeats 4000000 in
theorem cuts_in (n : Nat) (a0 : Option Addr) (c0 : Nat) (zs : List Int) (m most : Int) (w : World) (hn : 9 ≤ n) (hlen : zs.length ≤ 65536) (hcap : zs.length ≤ c0) (hcm : c0 ≤ maxLen) (hmost : most ≤ 65536) (hm : m ≤ 9223372036854775807) (hx : Bytes w a0 zs) :
    CallsIn Fence.wide n Try.prog 4 #[.slice a0 zs.length c0, .int .i64 m, .int .i64 most] w fun e w' => e = .returned (.bool true) ∧ Below w.heap.size w w' := by
  obtain ⟨len, hl⟩ : ∃ len, zs.length = len := ⟨_, rfl⟩
  have hl0 : len ≤ 65536 := by omega
  rw [hl] at hcap ⊢
  have h7 : Fence.wide.fn 7 := trivial
  have h8 : Fence.wide.fn 8 := trivial
  have h9 : Fence.wide.fn 9 := trivial
  have h10 : Fence.wide.fn 10 := trivial
  have hd1 : 1 ≤ n := by omega
  have hroomy := roomy_ok w a0 c0 zs hlen hx
  rw [hl] at hroomy
  have HR := Lib.hid hroomy; clear hroomy
  refine callsIn_of_wp Try.func4 rfl trivial ?_ rfl
  simp only [Try.ntmps4, List.size_toArray, List.length_cons, List.length_nil, Nat.reduceAdd, Nat.reduceSub, Array.replicate_succ, Array.replicate_zero, List.push_toArray, List.append_toArray, List.nil_append, List.cons_append]
  gi_wp2_with (gi_at_call 7; refine (callsIn_wide.2 HR.out).mono ?_; rintro e w1 ⟨rfl, hb1, hg1⟩)
  have hw1 : w.heap.size < w1.heap.size := (Array.getElem?_eq_some_iff.1 hg1).1
  have hcol := collect_all (n - 1) w.heap.size zs m most (by omega) hlen hmost hm w1 hg1
  rw [hl] at hcol
  refine hcol.mono ?_
  clear hcol
  rintro e w2 ⟨A, K, cap, ps, nn, rfl, hG⟩
  have hstill := still_ok w2 w.heap.size a0 c0 zs hlen ((hG.below.block _ hw1).trans hg1) ((hx.below hb1).below (hG.below.mono (by omega)))
  rw [hl] at hstill
  gi_wp2_with (gi_at_call 9; refine (callsIn_wide.2 hstill).mono ?_; rintro e w3 ⟨rfl, hB3⟩)
  have hne : ∀ b, w1.heap.size ≤ b → w3.heap[b]? = w2.heap[b]? := fun b hb => hB3.block b (by omega)
  have hL0 : LI w zs nn K A ps 0 w3 := ⟨Below.but (hb1.trans (hG.below.mono (by omega))) hB3 (Nat.le_refl _), fun j p _ hp => ⟨by have := (hG.pcs j p hp).1; omega, (hG.pcs j p hp).2.block (hne _ (hG.pcs j p hp).1)⟩,
    fun h => by obtain ⟨gr, cur, h1, h2, h3, h4⟩ := hG.row h; exact ⟨gr, cur, h1, (hne gr h2).trans h3, h4⟩⟩
  have hps := hG.len
  have hnd := hG.nodup
  have hroom := hG.room
  have hfin := hG.fin
  have hK64 := hG.small
  clear hstill hG hB3 hne hb1 hg1
  gi_loopw [10, 11] (fun at_ i wr => ∃ j : Nat, j ≤ K ∧ i = .int .i64 j ∧ at_ = .int .i64 ((min (j * nn) len : Nat) : Int) ∧ LI w zs nn K A ps j wr) (fun _ i _ => K - (intOf i).toNat)
  case atStart => exact ⟨0, Nat.zero_le _, rfl, by simp, hL0⟩
  case round =>
    obtain ⟨j, hjK, rfl, rfl, hL⟩ := hrel
    obtain ⟨V0, rfl⟩ : ∃ V0, V0 = wr := ⟨wr, rfl⟩
    by_cases hj : j < K
    · obtain ⟨gr, cur, rfl, hcur, hcj⟩ := hL.row (by omega)
      have hjp : j < ps.length := by omega
      obtain ⟨p, hp⟩ : ∃ p, ps[j]? = some p := ⟨ps[j], List.getElem?_eq_getElem hjp⟩
      obtain ⟨pg, pc⟩ := p
      obtain ⟨hpg, hpp⟩ := hL.pcs j _ (Nat.le_refl _) hp
      simp only at hpg hpp
      have hrm := hroom j hj
      rcases hfin with ⟨hK0, _⟩ | ⟨rfl, hnn, hm0, hc⟩
      · omega
      obtain ⟨q, hq⟩ : ∃ q, j * nn = q := ⟨_, rfl⟩
      obtain ⟨e, he⟩ : ∃ e, plen len nn j = e := ⟨_, rfl⟩
      have hee : e = min nn (len - q) := by rw [← he]; unfold plen; rw [hq]
      have hq1 : (j + 1) * nn = q + nn := by rw [Nat.succ_mul, hq]
      rw [hq, hl] at hrm
      have hmin : min (j * nn) len = q := by rw [hq]; omega
      have hpl : (pz zs nn j).length = e := by rw [pz_length, hl, he]
      rw [hmin]
      have hb0 : Bytes V0 a0 zs := hx.below hL.below
      obtain ⟨b, o, rfl, _⟩ := hx 0 (by omega)
      have hxc := bytes_cut (nn := nn) (i := j) hb0 rfl
      rw [hq] at hxc
      have hsame : ∀ d, Calls Try.prog 10 #[.slice (some ⟨pg, 0, none⟩) e pc, .slice (some ⟨b, o + q, none⟩) e (c0 - q)] (V0.drewN d) fun x w' => x = .returned (.bool true) ∧ ∃ k, w' = V0.drewN k := fun d =>
        (same_eq (V0.drewN d) (some ⟨pg, 0, none⟩) (some ⟨b, o + q, none⟩) pc (c0 - q) e (pz zs nn j) hpl (by rw [hpl]; simp only [maxLen]; omega) (bytes_piece hpp) hxc).mono (by rintro x w' ⟨hx1, k, rfl⟩; exact ⟨hx1, _, drewN_add _ _ _⟩)
      have hcell : V0.cell? ⟨gr, j, none⟩ = some (.slice (some ⟨pg, 0, none⟩) e pc) := by
        rw [World.cell_blk hcur, hcj j hj]
        simp [hdrs, hp, hl, he]
      have hLI := fun V => hL.but (V' := V) hnd hp
      have hgrp : gr ≠ pg := fun h => by
        obtain ⟨cs, h1, _⟩ := hpp
        rw [← h, hcur] at h1; cases h1
      have hrow5 : Row5 V0 pg pc := by obtain ⟨cs, h1, h2, _⟩ := hpp; exact ⟨cs, h1, h2⟩
      have hep : e ≤ pc := by obtain ⟨cs, h1, h2, h3, _⟩ := hpp; omega
      have e0 : 0 < e := by omega
      have e1 : e ≤ nn := by omega
      have e2 : q + e ≤ len := by omega
      have e3 : ((e : Int) == 0) = false := by simp; omega
      have e4 : e < nn → q + e = len := by omega
      have e5 : q + e ≤ c0 := by omega
      have e6 : q < c0 := by omega
      have e7 : c0 ≠ q := by omega
      have a1 : (0 : Int) ≤ (q : Int) + (e : Int) := by omega
      have a2 : (q : Int) + (e : Int) ≤ (c0 : Int) := by omega
      have a3 : ((q : Int) + (e : Int)).toNat = q + e := by omega
      have a4 : ¬ c0 = q := by omega
      have a6 : c0 ≤ 9223372036854775807 := hcm
      have a5 : (q : Int) ≤ (q : Int) + (e : Int) := by omega
      have E4 := Lib.hid e4; clear e4
      have HLL := Lib.hid hL; clear hL
      have HPP := Lib.hid hpp; clear hpp
      have HSM := Lib.hid hsame; clear hsame
      have HR5 := Lib.hid hrow5; clear hrow5
      have HEE := Lib.hid hee; clear hee
      clear hcj hroom hps hxc hb0
      gi_wp2
      have hmx : Try.prog.follows .mixedOrders = true := by kernel_rfl
      gi_quiet ((gi_at_call 10; exact callsIn_wide.2 (HSM.out _)))
      have hat : ((min ((j + 1) * nn) len : Nat) : Int) = (q : Int) + (e : Int) := by rw [hq1]; have := HEE.out; omega
      by_cases e9 : e < nn
      · have e10 := E4.out e9
        gi_wp2
        gi_loopw [13] (fun kv wx => ∃ kk : Nat, kk ≤ e ∧ kv = .int .i64 kk ∧ But pg (V0.drewN nq) wx ∧ Row5 wx pg pc) (fun kv _ => e - (intOf kv).toNat)
        case atStart => exact ⟨0, Nat.zero_le _, rfl, But.refl _ _, HR5.out⟩
        case round =>
          obtain ⟨kk, hkk, rfl, hB, h5⟩ := hrel
          have hcx := (World.cell?_of_block (a := ⟨gr, j, none⟩) (hB.block gr hgrp)).trans hcell
          by_cases hke : kk < e
          · obtain ⟨u, hc5, hf5⟩ := h5.at_ (j := kk) (by omega)
            have H5 := Lib.hid h5; clear h5
            gi_wp2
            go_roundw
            case rel => exact ⟨kk + 1, by omega, by go_num, hB.set _ _, H5.out.set _ _⟩
            case measure => simp [intOf]; omega
          · clear h5
            gi_wp2
            go_roundw
            case rel => exact ⟨j + 1, by omega, by go_num, by rw [hat], HLL.out.but hnd hp ⟨hB.os, hB.tape, hB.output, hB.size, hB.block⟩⟩
            case measure => simp [intOf]; omega
      · gi_wp2
        gi_loopw [13] (fun kv wx => ∃ kk : Nat, kk ≤ e ∧ kv = .int .i64 kk ∧ But pg (V0.drewN nq) wx ∧ Row5 wx pg pc) (fun kv _ => e - (intOf kv).toNat)
        case atStart => exact ⟨0, Nat.zero_le _, rfl, But.refl _ _, HR5.out⟩
        case round =>
          obtain ⟨kk, hkk, rfl, hB, h5⟩ := hrel
          have hcx := (World.cell?_of_block (a := ⟨gr, j, none⟩) (hB.block gr hgrp)).trans hcell
          by_cases hke : kk < e
          · obtain ⟨u, hc5, hf5⟩ := h5.at_ (j := kk) (by omega)
            have H5 := Lib.hid h5; clear h5
            gi_wp2
            go_roundw
            case rel => exact ⟨kk + 1, by omega, by go_num, hB.set _ _, H5.out.set _ _⟩
            case measure => simp [intOf]; omega
          · clear h5
            gi_wp2
            go_roundw
            case rel => exact ⟨j + 1, by omega, by go_num, by rw [hat], HLL.out.but hnd hp ⟨hB.os, hB.tape, hB.output, hB.size, hB.block⟩⟩
            case measure => simp [intOf]; omega
    · obtain rfl : j = K := by omega
      have hres := hL.below
      clear hL
      obtain ⟨x, hxx⟩ : ∃ x, j * nn = x := ⟨_, rfl⟩
      rw [hxx] at hfin ⊢
      have hx0 : j = 0 → x = 0 := fun h => by rw [← hxx, h, Nat.zero_mul]
      rw [hl] at hfin
      have hxl : j = 0 ∨ 0 < x ∨ nn = 0 := by
        rcases Nat.eq_zero_or_pos j with h | h
        · exact .inl h
        · rcases Nat.eq_zero_or_pos nn with h' | h'
          · exact .inr (.inr h')
          · exact .inr (.inl (by rw [← hxx]; exact Nat.mul_pos h h'))
      obtain ⟨q, hq⟩ : ∃ q, min x len = q := ⟨_, rfl⟩
      rw [hq]
      clear hroom hps hnd hxx
      obtain ⟨b1, hb1⟩ : ∃ b, ((j : Int) == most) = b := ⟨_, rfl⟩
      obtain ⟨b3, hb3⟩ : ∃ b, ((q : Int) == (len : Int)) = b := ⟨_, rfl⟩
      have t1 : b1 = true ↔ (j : Int) = most := by rw [← hb1]; simp
      have t3 : b3 = true ↔ q = len := by rw [← hb3]; simp; omega
      have hqq : q = x ∨ q = len := by omega
      have HF := Lib.hid hfin; clear hfin
      have HX := Lib.hid hx0; clear hx0
      have HXL := Lib.hid hxl; clear hxl
      have HQ := Lib.hid hq; clear hq
      have HQQ := Lib.hid hqq; clear hqq
      cases b1 <;> cases b3 <;> simp only [Bool.false_eq_true, false_iff, true_iff] at t1 t3 <;> by_cases t2 : 0 < most <;> by_cases t4 : m < 1 <;> by_cases t6 : (j : Int) ≤ most
      all_goals first
        | (exfalso; have h1 := HF.out; have h2 := HX.out; have h3 := HXL.out; have h4 := HQ.out; have h5 := HQQ.out; omega)
        | skip
      all_goals clear t1 t3
      all_goals gi_wp2
      all_goals go_ret
      all_goals exact ⟨rfl, hres⟩
end Go.Proofs.Ytkmgcggoemlaaaa.cuts
