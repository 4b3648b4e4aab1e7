/- A course gone on with by one record: the closure of TopResumes. -/
import Derived.Test.YtaeeonnjkplohaaGreatDoorResP
import Derived.Test.YtaeeonnjkplohaaGreatDoorSaidT
import Derived.Test.YtaeeonnjkplohaaGreatDoorArgR
import Derived.Deep.RegionHeld3
namespace Go.Proofs.YtaeeonnjkplohaaGreatDoor
open Go.ChangeShapes Go.WideShapes Go.ChangeAt Go.RowKit Go.Sort Pl

theorem bytesOf_take (l : List UInt8) (k : Nat) : (bytesOf l).extract 0 k = bytesOf (l.take k) := by
  apply ByteArray.ext
  apply Array.toList_inj.1
  rw [Lib.extract_data, bytesOf_data, bytesOf_data]
  rfl
theorem bytesOf_size (l : List UInt8) : (bytesOf l).size = l.length := rfl
theorem app_line {F : Nat → Rec} {m : Nat} (h : GoodTo F (m + 1)) (hm : m < 5) : appE 8192 (bytesOf (linesK F m)) (F m) = 0 ∧ appB 8192 (bytesOf (linesK F m)) (F m) = bytesOf (linesK F (m + 1)) := by
  obtain ⟨hg, _⟩ := h m (by omega)
  have hf : appFits 8192 (bytesOf (linesK F m)) (F m) = true := by
    unfold appFits
    rw [decide_eq_true_eq, bytesOf_size]
    have h1 := linesK_len h
    rw [linesK_succ, List.length_append] at h1
    omega
  refine ⟨?_, ?_⟩
  · unfold appE
    rw [if_pos hg, if_pos hf]
  · unfold appB
    rw [if_pos ⟨hg, hf⟩, bytesOf_app, linesK_succ]
theorem RecsR.at5 {w : World} {b n k : Nat} {f : Nat → Rec} (h : RecsR w (some ⟨b, 0, none⟩) n (upto f n)) (hk : k < n) : ∃ L q, RecAt w b (k * 5) L q (f k) ∧ Ints .i64 w L (f k).batch.length (f k).batch ∧ (f k).batch.length ≤ q ∧ q ≤ maxLen ∧ b < w.heap.size := by
  obtain ⟨b', off', L, kk, e, hb, ha, hI, h1, h2⟩ := h.at hk
  cases e
  rw [recAt_upto _ hk, Nat.zero_add] at ha
  rw [recAt_upto _ hk] at hI h1
  exact ⟨L, kk, ha, hI, h1, h2, hb⟩
theorem But.cell {g : Nat} {w w' : World} (h : But g w w') {p : Addr} (hp : p.block < w.heap.size) (hne : p.block ≠ g) : w'.cell? p = w.cell? p := World.cell?_of_block (h.block _ hp hne)

set_option maxRecDepth 100000 in
set_option maxHeartbeats 4000000 in
theorem top_on (c : Cfg) (ds : Data) (hC : crs c ds = 0) (s0 : 0 ≤ c.seed) (s1 : c.seed < 18446744073709551616) (D : Option Addr) (n dc : Nat) (w : World) (hd : Duos w D n ds) (N : Nat) (hN : (N : Int) ≤ c.steps) (hN5 : N ≤ 5) (bs bn bc bd q : Nat) (m : Nat) (hm : m ≤ N) (sy : Int) (hbq : bs ≠ q)
    (H1 : Blk w bs 34 #[.pointer (some ⟨q, 0, none⟩)]) (H2 : Blk w bn 3 #[.int .i64 N]) (H3 : Blk w bc 24 #[.int .i64 c.ci, .int .i64 c.ch, .int .i64 c.co, .int .u64 c.seed, .int .i64 c.batch, .int .i64 c.steps, .int .i64 c.rate, .int .i64 c.decay, .int .i64 c.how, .int .i64 c.keep, .int .i64 c.clip]) (H4 : Blk w bd 25 #[.slice D n dc])
    (H5 : Blk w q 69 #[.int .i64 8192, .string (bytesOf (linesK (recC c ds) m)), .int .i64 sy]) (ht : Tabs w) :
    Calls Tryz.prog 12 #[.pointer (some ⟨bs, 0, none⟩), .pointer (some ⟨bn, 0, none⟩), .pointer (some ⟨bc, 0, none⟩), .pointer (some ⟨bd, 0, none⟩)] w fun e w' => e = .returned (.bool true) ∧ Blk w' q 69 #[.int .i64 8192, .string (bytesOf (linesK (recC c ds) (min (m + 1) N))), .int .i64 sy] ∧ But q w w' := by
  have hf := fine hC
  have hg := recC_good hf hN
  have hlen := linesK_len (hg.le hm)
  have hs : (bytesOf (linesK (recC c ds) m)).size ≤ 4294967280 := by rw [bytesOf_size]; omega
  have HR := sto_Records q 8192 sy _ w H5 hs ht
  rw [bytesOf_data, beg_all (hg.le hm)] at HR
  simp only [upto_length] at HR
  have HRC := Lib.hid HR
  have HMK := Lib.hid (fun W (h : Below w.heap.size w W) (N : Nat) (hN : (N : Int) ≤ c.steps) => jrn_Make_ok c ds hC s0 s1 D n dc W (hd.below h) N hN)
  have HT := Lib.hid (fun W (h : Below w.heap.size w W) => ht.below h)
  have HGD := Lib.hid hg
  have b1 : w.cell? ⟨bs, 0, none⟩ = some (.pointer (some ⟨q, 0, none⟩)) := H1.cell 0
  have hbl := H1.lt
  have hql := H5.lt
  clear HR hg hlen hd ht hC hf
  go_enter Tryz.func12, Tryz.ntmps12
  go_wp2_with fail
  refine HRC.out.mono ?_
  rintro e w1 ⟨v, rfl, hH, hb1⟩
  obtain ⟨A0, k0, rfl, _, _⟩ := Held.slice hH
  have K1 := H1.below hb1 H1.lt
  have K3 := H3.below hb1 H3.lt
  have K5 := H5.below hb1 H5.lt
  have n0 : w1.cell? ⟨bn, 0, none⟩ = some (.int .i64 N) := (H2.below hb1 H2.lt).cell 0
  clear HRC hH b1 H1 H2 H3
  by_cases hmn : m < N
  · have e1 : IntKind.i64.wrap ((m : Int) + 1) = ((m + 1 : Nat) : Int) := by rw [wrap_small _ (by omega) (by omega)]; omega
    have z1 : (m : Int) < (N : Int) := by omega
    obtain ⟨d0, d1, d2, d3, d4, d5, d6, d7, d8, d9, da⟩ := K3.cfg
    have f0 : w1.cell? ⟨bd, 0, none⟩ = some (.slice D n dc) := (H4.below hb1 H4.lt).cell 0
    clear K3 H4 hm
    go_wp2_with fail
    refine (HMK.out _ hb1 (m + 1) (by omega)).mono ?_
    rintro e w2 ⟨A', k', rfl, hL, hb2⟩
    have hca : m + 1 ≤ k' := by
      obtain ⟨A2, c2, e2, h1, _⟩ := Held.slice hL
      cases e2
      exact h1
    obtain ⟨ga, rfl, hga⟩ : ∃ g, A' = some ⟨g, 0, none⟩ ∧ w1.heap.size ≤ g := by
      obtain ⟨g, c', hv, h1, _⟩ := hL.form (by omega)
      injection hv with a _ _
      exact ⟨g, a, h1⟩
    have HRA := (RecHeld.recs hL).weak
    have hb12 := bel_trans hb1 hb2
    replace K1 := K1.below hb2 K1.lt
    replace K5 := K5.below hb2 K5.lt
    obtain ⟨XL, xk, ⟨x0, x1, x2, x3, x4⟩, XI, _, _, xlt⟩ := HRA.at5 (show m < m + 1 by omega)
    have hgood := HGD.out m hmn
    have hap := app_line (HGD.out.le hmn) (by omega)
    obtain ⟨r, hr⟩ : ∃ r, r = recC c ds m := ⟨_, rfl⟩
    rw [← hr] at x0 x1 x2 x3 x4 XI hap hgood
    obtain ⟨g1, g2, g3, g4, g5, _⟩ := goodR_iff.1 hgood.1
    have HA := fun W (h : Below w2.heap.size w2 W) => sto_Append q 8192 sy _ r XL r.batch.length xk W (K5.below h K5.lt) hs (XI.below h) (by omega) g3.1 g4.1 (HT.out W (hb12.trans (h.mono hb12.size)))
    rw [hap.1, hap.2] at HA
    have HAP := Lib.hid HA
    have b2 : w2.cell? ⟨bs, 0, none⟩ = some (.pointer (some ⟨q, 0, none⟩)) := K1.cell 0
    have k0' : (0 : Int) ≤ (m : Int) := by omega
    have k1' : (m : Int) < ((m + 1 : Nat) : Int) := by omega
    have k2' : (m : Int) < (m : Int) + 1 := by omega
    have k3' : m < m + 1 := by omega
    have HMIN := Lib.hid (show min (m + 1) N = m + 1 by omega)
    have hbl2 : bs < w2.heap.size := Nat.lt_of_lt_of_le hbl hb12.size
    have hgq : ga ≠ q := by have := hb1.size; omega
    have hBB := (But.refl q w).trans (⟨hb12.os, hb12.tape, hb12.output, hb12.size, fun k hk _ => hb12.block k hk⟩ : But q w w2)
    have hBD : But q w w2.drew := ⟨hBB.os, hBB.tape, hBB.output, hBB.size, hBB.block⟩
    clear d0 d1 d2 d3 d4 d5 d6 d7 d8 d9 da f0 n0 HA hap hr HRA hL XI g1 g2 g3 g4 g5 hgood HMK HGD
    go_upto_region 5 with fail
    obtain ⟨c2, v0, v1, v2, v3, v4⟩ : w2.drew.cell? ⟨bs, 0, none⟩ = some (.pointer (some ⟨q, 0, none⟩)) ∧ w2.drew.cell? ⟨ga, m * 5, none⟩ = some (.int .i64 r.step) ∧ w2.drew.cell? ⟨ga, m * 5 + 1, none⟩ = some (.slice XL r.batch.length xk) ∧ w2.drew.cell? ⟨ga, m * 5 + 2, none⟩ = some (.int .i64 r.rate) ∧ w2.drew.cell? ⟨ga, m * 5 + 3, none⟩ = some (.int .u64 r.root) ∧ w2.drew.cell? ⟨ga, m * 5 + 4, none⟩ = some (.int .u64 r.chain) := ⟨b2, x0, x1, x2, x3, x4⟩
    go_region_held3 (fun W => W.cell? ⟨bs, 0, none⟩ = some (.pointer (some ⟨q, 0, none⟩)) ∧ W.cell? ⟨ga, m * 5, none⟩ = some (.int .i64 r.step) ∧ W.cell? ⟨ga, m * 5 + 1, none⟩ = some (.slice XL r.batch.length xk) ∧ W.cell? ⟨ga, m * 5 + 2, none⟩ = some (.int .i64 r.rate) ∧ W.cell? ⟨ga, m * 5 + 3, none⟩ = some (.int .u64 r.root) ∧ W.cell? ⟨ga, m * 5 + 4, none⟩ = some (.int .u64 r.chain)) (first | (with_reducible exact ⟨c2, v0, v1, v2, v3, v4⟩) | (with_reducible exact ⟨y, y0, y1, y2, y3, y4⟩) | fail) (first
      | (go_at_call 14; (with_reducible refine (HAP.out _ ((Below.refl _ _).drew)).mono ?_); rintro e u ⟨rfl, hB4, hb4⟩; have y := (hb4.cell (p := ⟨bs, 0, none⟩) hbl2 hbq).trans b2; have y0 := (hb4.cell (p := ⟨ga, m * 5, none⟩) xlt hgq).trans x0; have y1 := (hb4.cell (p := ⟨ga, m * 5 + 1, none⟩) xlt hgq).trans x1; have y2 := (hb4.cell (p := ⟨ga, m * 5 + 2, none⟩) xlt hgq).trans x2; have y3 := (hb4.cell (p := ⟨ga, m * 5 + 3, none⟩) xlt hgq).trans x3; have y4 := (hb4.cell (p := ⟨ga, m * 5 + 4, none⟩) xlt hgq).trans x4)
      | fail)
    all_goals
      go_wp2
      go_ret
      rw [HMIN.out]
      exact ⟨rfl, hB4, hBD.trans hb4⟩
  · have z1 : ¬ (m : Int) < (N : Int) := by omega
    have HMIN := Lib.hid (show min (m + 1) N = m by omega)
    go_wp2
    go_ret
    rw [HMIN.out]
    exact ⟨rfl, K5, but_bel (But.refl q w) hb1⟩
end Go.Proofs.YtaeeonnjkplohaaGreatDoor
