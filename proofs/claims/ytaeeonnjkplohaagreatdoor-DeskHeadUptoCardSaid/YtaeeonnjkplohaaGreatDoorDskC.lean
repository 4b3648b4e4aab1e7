/- The desk's configure: a walk. -/
import Derived.Test.YtaeeonnjkplohaaGreatDoorDskM
namespace Go.Proofs.YtaeeonnjkplohaaGreatDoor
open Go.ChangeShapes Go.WideShapes Go.ChangeAt Go.RowKit Go.Sort Pl

theorem cfg_put13 {w : World} {q : Nat} {t : TypeId} {a0 a1 a2 a3 a4 a5 a6 a7 a8 a9 a10 t0 t1 : Value} (b0 b1 b2 b3 b4 b5 b6 b7 b8 b9 b10 : Value) (h : Blk w q t #[a0, a1, a2, a3, a4, a5, a6, a7, a8, a9, a10, t0, t1]) :
    Blk (((((((((((w.setCell ⟨q, 0, none⟩ b0).setCell ⟨q, 1, none⟩ b1).setCell ⟨q, 2, none⟩ b2).setCell ⟨q, 3, none⟩ b3).setCell ⟨q, 4, none⟩ b4).setCell ⟨q, 5, none⟩ b5).setCell ⟨q, 6, none⟩ b6).setCell ⟨q, 7, none⟩ b7).setCell ⟨q, 8, none⟩ b8).setCell ⟨q, 9, none⟩ b9).setCell ⟨q, 10, none⟩ b10) q t #[b0, b1, b2, b3, b4, b5, b6, b7, b8, b9, b10, t0, t1] ∧ But q w (((((((((((w.setCell ⟨q, 0, none⟩ b0).setCell ⟨q, 1, none⟩ b1).setCell ⟨q, 2, none⟩ b2).setCell ⟨q, 3, none⟩ b3).setCell ⟨q, 4, none⟩ b4).setCell ⟨q, 5, none⟩ b5).setCell ⟨q, 6, none⟩ b6).setCell ⟨q, 7, none⟩ b7).setCell ⟨q, 8, none⟩ b8).setCell ⟨q, 9, none⟩ b9).setCell ⟨q, 10, none⟩ b10) := by
  have h0 : Blk _ q t #[b0, a1, a2, a3, a4, a5, a6, a7, a8, a9, a10, t0, t1] := h.put 0 b0
  have h1 : Blk _ q t #[b0, b1, a2, a3, a4, a5, a6, a7, a8, a9, a10, t0, t1] := h0.put 1 b1
  have h2 : Blk _ q t #[b0, b1, b2, a3, a4, a5, a6, a7, a8, a9, a10, t0, t1] := h1.put 2 b2
  have h3 : Blk _ q t #[b0, b1, b2, b3, a4, a5, a6, a7, a8, a9, a10, t0, t1] := h2.put 3 b3
  have h4 : Blk _ q t #[b0, b1, b2, b3, b4, a5, a6, a7, a8, a9, a10, t0, t1] := h3.put 4 b4
  have h5 : Blk _ q t #[b0, b1, b2, b3, b4, b5, a6, a7, a8, a9, a10, t0, t1] := h4.put 5 b5
  have h6 : Blk _ q t #[b0, b1, b2, b3, b4, b5, b6, a7, a8, a9, a10, t0, t1] := h5.put 6 b6
  have h7 : Blk _ q t #[b0, b1, b2, b3, b4, b5, b6, b7, a8, a9, a10, t0, t1] := h6.put 7 b7
  have h8 : Blk _ q t #[b0, b1, b2, b3, b4, b5, b6, b7, b8, a9, a10, t0, t1] := h7.put 8 b8
  have h9 : Blk _ q t #[b0, b1, b2, b3, b4, b5, b6, b7, b8, b9, a10, t0, t1] := h8.put 9 b9
  have h10 : Blk _ q t #[b0, b1, b2, b3, b4, b5, b6, b7, b8, b9, b10, t0, t1] := h9.put 10 b10
  have g0 := (But.refl q w).put 0 b0
  have g1 := g0.put 1 b1
  have g2 := g1.put 2 b2
  have g3 := g2.put 3 b3
  have g4 := g3.put 4 b4
  have g5 := g4.put 5 b5
  have g6 := g5.put 6 b6
  have g7 := g6.put 7 b7
  have g8 := g7.put 8 b8
  have g9 := g8.put 9 b9
  have g10 := g9.put 10 b10
  exact ⟨h10, g10⟩
theorem cfg_put14 {w : World} {q : Nat} {t : TypeId} {a0 a1 a2 a3 a4 a5 a6 a7 a8 a9 a10 t0 t1 t2 : Value} (b0 b1 b2 b3 b4 b5 b6 b7 b8 b9 b10 : Value) (h : Blk w q t #[a0, a1, a2, a3, a4, a5, a6, a7, a8, a9, a10, t0, t1, t2]) :
    Blk (((((((((((w.setCell ⟨q, 0, none⟩ b0).setCell ⟨q, 1, none⟩ b1).setCell ⟨q, 2, none⟩ b2).setCell ⟨q, 3, none⟩ b3).setCell ⟨q, 4, none⟩ b4).setCell ⟨q, 5, none⟩ b5).setCell ⟨q, 6, none⟩ b6).setCell ⟨q, 7, none⟩ b7).setCell ⟨q, 8, none⟩ b8).setCell ⟨q, 9, none⟩ b9).setCell ⟨q, 10, none⟩ b10) q t #[b0, b1, b2, b3, b4, b5, b6, b7, b8, b9, b10, t0, t1, t2] ∧ But q w (((((((((((w.setCell ⟨q, 0, none⟩ b0).setCell ⟨q, 1, none⟩ b1).setCell ⟨q, 2, none⟩ b2).setCell ⟨q, 3, none⟩ b3).setCell ⟨q, 4, none⟩ b4).setCell ⟨q, 5, none⟩ b5).setCell ⟨q, 6, none⟩ b6).setCell ⟨q, 7, none⟩ b7).setCell ⟨q, 8, none⟩ b8).setCell ⟨q, 9, none⟩ b9).setCell ⟨q, 10, none⟩ b10) := by
  have h0 : Blk _ q t #[b0, a1, a2, a3, a4, a5, a6, a7, a8, a9, a10, t0, t1, t2] := h.put 0 b0
  have h1 : Blk _ q t #[b0, b1, a2, a3, a4, a5, a6, a7, a8, a9, a10, t0, t1, t2] := h0.put 1 b1
  have h2 : Blk _ q t #[b0, b1, b2, a3, a4, a5, a6, a7, a8, a9, a10, t0, t1, t2] := h1.put 2 b2
  have h3 : Blk _ q t #[b0, b1, b2, b3, a4, a5, a6, a7, a8, a9, a10, t0, t1, t2] := h2.put 3 b3
  have h4 : Blk _ q t #[b0, b1, b2, b3, b4, a5, a6, a7, a8, a9, a10, t0, t1, t2] := h3.put 4 b4
  have h5 : Blk _ q t #[b0, b1, b2, b3, b4, b5, a6, a7, a8, a9, a10, t0, t1, t2] := h4.put 5 b5
  have h6 : Blk _ q t #[b0, b1, b2, b3, b4, b5, b6, a7, a8, a9, a10, t0, t1, t2] := h5.put 6 b6
  have h7 : Blk _ q t #[b0, b1, b2, b3, b4, b5, b6, b7, a8, a9, a10, t0, t1, t2] := h6.put 7 b7
  have h8 : Blk _ q t #[b0, b1, b2, b3, b4, b5, b6, b7, b8, a9, a10, t0, t1, t2] := h7.put 8 b8
  have h9 : Blk _ q t #[b0, b1, b2, b3, b4, b5, b6, b7, b8, b9, a10, t0, t1, t2] := h8.put 9 b9
  have h10 : Blk _ q t #[b0, b1, b2, b3, b4, b5, b6, b7, b8, b9, b10, t0, t1, t2] := h9.put 10 b10
  have g0 := (But.refl q w).put 0 b0
  have g1 := g0.put 1 b1
  have g2 := g1.put 2 b2
  have g3 := g2.put 3 b3
  have g4 := g3.put 4 b4
  have g5 := g4.put 5 b5
  have g6 := g5.put 6 b6
  have g7 := g6.put 7 b7
  have g8 := g7.put 8 b8
  have g9 := g8.put 9 b9
  have g10 := g9.put 10 b10
  exact ⟨h10, g10⟩
theorem ints_at0 {w : World} {A : Option Addr} {m : Nat} {n : List Int} (h : Ints .i64 w A m n) (hm : 0 < m) : ∃ b off, A = some ⟨b, off, none⟩ ∧ b < w.heap.size ∧ ∀ W, Below w.heap.size w W → ∀ j, j < m → W.cell? ⟨b, off + j, none⟩ = some (.int .i64 (at0 n j)) := by
  obtain ⟨b, off, e, hb, hc⟩ := h.cells hm
  exact ⟨b, off, e, hb, fun W hW j hj => (hW.cell (p := ⟨b, off + j, none⟩) hb).trans (hc j hj)⟩

set_option maxRecDepth 100000 in
set_option maxHeartbeats 8000000 in
theorem dsk_configure (B q sq : Nat) (c : Cfg) (v : Value) (ds : Data) (bs : List UInt8) (sy : Nat) (w : World) (h : DeskIn B w q sq c v ds bs sy) (A : Option Addr) (nc : Nat) (n : List Int) (hx : Ints .i64 w A 11 n) (hbd : ∀ x ∈ n, -10000000000 < x ∧ x < 10000000000) (ht : ∀ W, Below B w W → Tabs W) :
    Calls Tryz.prog 76 #[.pointer (some ⟨q, 0, none⟩), .slice A 11 nc] w (DeskPost B q sq (confD ⟨c, ds, bs, sy⟩ n) w) := by
  have hBw : B ≤ w.heap.size := Nat.le_of_lt (Nat.lt_of_le_of_lt h.bq h.dq.lt)
  have HTK := Lib.hid (fun W (hb : Kp B deskT w W) => ht W (hb.low hBw))
  obtain ⟨b, off, rfl, hbl, hc⟩ := ints_at0 hx (by omega)
  have hb3 := at0_bd hbd 3
  obtain ⟨f, hf⟩ : ∃ f, f = at0 n := ⟨_, rfl⟩
  have HF := Lib.hid hf
  rw [← hf] at hc hb3
  have HS := Lib.hid (fun W (hb : Below w.heap.size w W) => show W.cell? ⟨b, off, none⟩ = some (.int .i64 (f 0)) ∧ W.cell? ⟨b, off + 1, none⟩ = some (.int .i64 (f 1)) ∧ W.cell? ⟨b, off + 2, none⟩ = some (.int .i64 (f 2)) ∧ W.cell? ⟨b, off + 3, none⟩ = some (.int .i64 (f 3)) ∧ W.cell? ⟨b, off + 4, none⟩ = some (.int .i64 (f 4)) ∧ W.cell? ⟨b, off + 5, none⟩ = some (.int .i64 (f 5)) ∧ W.cell? ⟨b, off + 6, none⟩ = some (.int .i64 (f 6)) ∧ W.cell? ⟨b, off + 7, none⟩ = some (.int .i64 (f 7)) ∧ W.cell? ⟨b, off + 8, none⟩ = some (.int .i64 (f 8)) ∧ W.cell? ⟨b, off + 9, none⟩ = some (.int .i64 (f 9)) ∧ W.cell? ⟨b, off + 10, none⟩ = some (.int .i64 (f 10)) from
    ⟨hc W hb 0 (by omega), hc W hb 1 (by omega), hc W hb 2 (by omega), hc W hb 3 (by omega), hc W hb 4 (by omega), hc W hb 5 (by omega), hc W hb 6 (by omega), hc W hb 7 (by omega), hc W hb 8 (by omega), hc W hb 9 (by omega), hc W hb 10 (by omega)⟩)
  have hd0 : Below w.heap.size w w.drew := (Below.refl _ _).drew
  have hmx : ∃ S : Int, max (f 3) 0 = S ∧ 0 ≤ S ∧ S < 10000000000 := ⟨_, rfl, by omega, by omega⟩
  obtain ⟨S, hS, hS0, hS1⟩ := hmx
  have hSw : IntKind.u64.wrap S = S := wrap_u64_in (by omega) (by omega)
  clear hf hx hc hbd ht
  go_enter Tryz.func76, Tryz.ntmps76
  go_upto_region 1 with fail
  go_cut [5] (fun v5 wx => v5 = .pointer (some ⟨w.heap.size, 0, none⟩) ∧ Below w.heap.size w wx ∧ Blk wx w.heap.size 24 #[.int .i64 (f 0), .int .i64 (f 1), .int .i64 (f 2), .int .u64 S, .int .i64 (f 4), .int .i64 (f 5), .int .i64 (f 6), .int .i64 (f 7), .int .i64 (f 8), .int .i64 (f 9), .int .i64 (f 10)])
  case first =>
    obtain ⟨l0, l1, l2, l3, l4, l5, l6, l7, l8, l9, la⟩ := HS.out _ hd0
    go_region_held3 (fun W => W.cell? ⟨b, off, none⟩ = some (.int .i64 (f 0)) ∧ W.cell? ⟨b, off + 1, none⟩ = some (.int .i64 (f 1)) ∧ W.cell? ⟨b, off + 2, none⟩ = some (.int .i64 (f 2)) ∧ W.cell? ⟨b, off + 3, none⟩ = some (.int .i64 (f 3)) ∧ W.cell? ⟨b, off + 4, none⟩ = some (.int .i64 (f 4)) ∧ W.cell? ⟨b, off + 5, none⟩ = some (.int .i64 (f 5)) ∧ W.cell? ⟨b, off + 6, none⟩ = some (.int .i64 (f 6)) ∧ W.cell? ⟨b, off + 7, none⟩ = some (.int .i64 (f 7)) ∧ W.cell? ⟨b, off + 8, none⟩ = some (.int .i64 (f 8)) ∧ W.cell? ⟨b, off + 9, none⟩ = some (.int .i64 (f 9)) ∧ W.cell? ⟨b, off + 10, none⟩ = some (.int .i64 (f 10))) (first | (with_reducible exact ⟨l0, l1, l2, l3, l4, l5, l6, l7, l8, l9, la⟩) | (exact HS.out _ ((by repeat (first | exact Below.refl _ _ | assumption | refine bel_drewN ?_ _ | refine Below.drew ?_ | (refine Below.alloc ?_ (by simp <;> omega) _) | (refine Below.setCell ?_ (by simp <;> omega) _))))) | fail) (first | fail)
    all_goals
      go_wp2
      go_meet
      case rel => exact ⟨rfl, (by repeat (first | exact Below.refl _ _ | assumption | refine bel_drewN ?_ _ | refine Below.drew ?_ | (refine Below.alloc ?_ (by simp <;> omega) _) | (refine Below.setCell ?_ (by simp <;> omega) _))), Blk.made' w.drew 24 _ rfl⟩
  case rest =>
    obtain ⟨rfl, hb1, hB1⟩ := hcut
    obtain ⟨y, hy⟩ : ∃ y : World, y = wc := ⟨_, rfl⟩
    rw [← hy] at hb1 hB1 ⊢
    clear hy
    have h1 := h.below hb1
    have HCK := Lib.hid (opt_Check (f 0) (f 1) (f 2) S (f 4) (f 5) (f 6) (f 7) (f 8) (f 9) (f 10) y)
    obtain ⟨d0, d1, d2, d3, d4, d5, d6, d7, d8, d9, da⟩ := hB1.cfg
    obtain ⟨E, hE⟩ : ∃ E, E = cfgE (f 0) (f 1) (f 2) (f 4) (f 5) (f 6) (f 7) (f 8) (f 9) (f 10) := ⟨_, rfl⟩
    rw [← hE] at HCK
    have HCF := Lib.hid (show confC n = ⟨f 0, f 1, f 2, S, f 4, f 5, f 6, f 7, f 8, f 9, f 10⟩ from by rw [HF.out, ← hS, HF.out]; rfl)
    have HEE := Lib.hid (show (confC n).E = E from by rw [HCF.out, hE]; rfl)
    have hEb : 0 ≤ E ∧ E ≤ 1 := by rw [hE]; unfold cfgE; split <;> omega
    clear hE hS
    go_wp2_with fail
    refine HCK.out.mono ?_
    rintro e w2 ⟨rfl, hb2⟩
    have hb12 := bel_trans hb1 hb2
    have h2 := h.below hb12
    have hB2 := hB1.below hb2 hB1.lt
    clear HCK d0 d1 d2 d3 d4 d5 d6 d7 d8 d9 da
    by_cases hE0 : E = 0
    · have F := Lib.hid (show confD ⟨c, ds, bs, sy⟩ n = (okT, ⟨confC n, ds, bs, sy⟩) from by unfold confD; rw [if_pos (by rw [HEE.out]; exact hE0)])
      subst hE0
      obtain ⟨d0, d1, d2, d3, d4, d5, d6, d7, d8, d9, da⟩ := hB2.cfg
      have hq := h2.dq
      obtain ⟨p0, p1, p2, p3, p4, p5, p6, p7, p8, p9, pa⟩ := h2.cfg
      have q0 := hq.frozen 0
      have q1 := hq.frozen 1
      have q2 := hq.frozen 2
      have q3 := hq.frozen 3
      have q4 := hq.frozen 4
      have q5 := hq.frozen 5
      have q6 := hq.frozen 6
      have q7 := hq.frozen 7
      have q8 := hq.frozen 8
      have q9 := hq.frozen 9
      have qa := hq.frozen 10
      have HPB := Lib.hid (cfg_put13 (.int .i64 (f 0)) (.int .i64 (f 1)) (.int .i64 (f 2)) (.int .u64 S) (.int .i64 (f 4)) (.int .i64 (f 5)) (.int .i64 (f 6)) (.int .i64 (f 7)) (.int .i64 (f 8)) (.int .i64 (f 9)) (.int .i64 (f 10)) hq)
      clear hq
      go_wp2
      go_ret
      have hk : Kp B (fun t => t == 78) w2 _ := Kp.of_but HPB.out.2 h2.dq (by decide) h2.bq
      have hk2 : Kp B deskT w2 _ := Kp.of_but HPB.out.2 h2.dq (by decide) h2.bq
      rw [F.out, HCF.out]
      exact ⟨rfl, ⟨v, HPB.out.1, hk.blk h2.st (by decide), h2.data.kp hk (by decide) (by decide), h2.bq, h2.bs⟩, (Kp.of_below hb12).trans hk2⟩
    · have F := Lib.hid (show confD ⟨c, ds, bs, sy⟩ n = (errT E, ⟨c, ds, bs, sy⟩) from by unfold confD; rw [if_neg (by rw [HEE.out]; exact hE0), HEE.out])
      have HFA := Lib.hid (dsk_failed E w2 (by omega) (by omega) (HTK.out _ (Kp.of_below hb12)))
      have t0 : (E != 0) = true := by rw [bne_iff_ne]; exact hE0
      clear hE0
      go_wp2_with fail
      refine HFA.out.mono ?_
      rintro e w3 ⟨rfl, hb3⟩
      go_wp2
      go_ret
      rw [F.out]
      exact ⟨rfl, ⟨v, h2.below hb3⟩, Kp.of_below (bel_trans hb12 hb3)⟩
end Go.Proofs.YtaeeonnjkplohaaGreatDoor
