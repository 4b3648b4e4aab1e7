/- The desk's loss: a walk. -/
import Derived.Test.YtgodgedhddngeaaGreatDoorDskM
set_option maxRecDepth 100000
set_option maxHeartbeats 16000000
namespace Go.Proofs.YtgodgedhddngeaaGreatDoor
open Go.ChangeShapes Go.WideShapes Go.ChangeAt Go.RowKit Go.Sort Pl
theorem lossW_bd (c : Cfg) (wt : List Int) (p : List Int × List Int) : -2147483647 ≤ lossW c wt p ∧ lossW c wt p ≤ 2147483647 := by
 unfold lossW lossP
 have h := dotN_clamp (offL (outpL c.ch.toNat c.ci.toNat c.co.toNat (shapeP c.ci.toNat c.ch.toNat c.co.toNat wt).a1 (shapeP c.ci.toNat c.ch.toNat c.co.toNat wt).b1 (shapeP c.ci.toNat c.ch.toNat c.co.toNat wt).a2 (shapeP c.ci.toNat c.ch.toNat c.co.toNat wt).b2 p.1) p.2) (offL (outpL c.ch.toNat c.ci.toNat c.co.toNat (shapeP c.ci.toNat c.ch.toNat c.co.toNat wt).a1 (shapeP c.ci.toNat c.ch.toNat c.co.toNat wt).b1 (shapeP c.ci.toNat c.ch.toNat c.co.toNat wt).a2 (shapeP c.ci.toNat c.ch.toNat c.co.toNat wt).b2 p.1) p.2) c.co.toNat
 rw [← h]
 unfold clamp
 split
 ·omega
 ·split <;> omega
theorem loss_fine (c : Cfg) (h : c.Ok) (wt : List Int) (hl : wt.length = c.N) (hw : okL wt = true) (p : List Int × List Int) (hp : exB c.ci c.co p = true) {P : Pup} (hP : P = shapeP c.ci.toNat c.ch.toNat c.co.toNat wt)
  {A1 A2 B1 B2 X T : Option Addr} {k1 k2 d1 d2 ni no xc tc : Nat} {w : World} (i1 : Ints .i64 w A1 P.a1.length P.a1) (i2 : Ints .i64 w A2 P.a2.length P.a2) (j1 : Ints .i64 w B1 P.b1.length P.b1) (j2 : Ints .i64 w B2 P.b2.length P.b2)
  (g1 : P.a1.length ≤ k1) (g2 : P.a2.length ≤ k2) (ix : Ints .i64 w X ni p.1) (it : Ints .i64 w T no p.2) :
  Calls Tryz.prog 55 #[.agg #[.int .i64 P.r1, .int .i64 P.c1, .slice A1 P.a1.length k1, .int .i64 P.r2, .int .i64 P.c2, .slice A2 P.a2.length k2, .slice B1 P.b1.length d1, .slice B2 P.b2.length d2], .agg #[.slice X ni xc, .slice T no tc]] w
   fun e w' => e = .returned (.tuple #[.int .i64 (lossW c wt p), .int .i64 0]) ∧ Below w.heap.size w w' := by
 obtain ⟨⟨e1, a1, a2⟩, ⟨e2, a3, a4⟩, ⟨e3, a5, a6⟩, _⟩ := cfg_nat h
 have hn := h.n
 have h40 := h.n40
 obtain ⟨q1, q2, _, _⟩ := exB_ok hp
 have hpe := shapeP_fine (I := c.ci.toNat) (H := c.ch.toNat) (O := c.co.toNat) (N := c.N) (wt := wt) ⟨a3, a4⟩ ⟨a1, a2⟩ ⟨a5, a6⟩ (by rw [hn, e1, e2, e3]; simp) hl hw
 have hN := cfg_N h
 have hni : ni = c.ci.toNat := by have := ix.len; omega
 have hno : no = c.co.toNat := by have := it.len; omega
 subst hni; subst hno
 have er1 : P.r1 = (c.ch.toNat : Int) := by rw [hP]; rfl
 have ec1 : P.c1 = (c.ci.toNat : Int) := by rw [hP]; rfl
 have er2 : P.r2 = (c.co.toNat : Int) := by rw [hP]; rfl
 have ec2 : P.c2 = (c.ch.toNat : Int) := by rw [hP]; rfl
 have l3 : P.b1.length = c.ch.toNat := by rw [hP]; simp only [shapeP, List.length_take, List.length_drop]; omega
 have l4 : P.b2.length = c.co.toNat := by rw [hP]; simp only [shapeP, List.length_take, List.length_drop]; omega
 have hpe' : pupE (c.ch.toNat : Int) (c.ci.toNat : Int) P.a1 (c.co.toNat : Int) (c.ch.toNat : Int) P.a2 P.b1 P.b2 = 0 := by rw [hP]; exact hpe
 have H := pup_Loss_ok c.ch.toNat c.ci.toNat c.co.toNat A1 P.a1.length k1 P.a1 A2 P.a2.length k2 P.a2 B1 d1 P.b1 B2 d2 P.b2 X xc p.1 T tc p.2 w i1 i2 (l3 ▸ j1) (l4 ▸ j2) ix it hpe' g1 g2
 rw [er1, ec1, er2, ec2, l3, l4, show lossW c wt p = lossP c.ch.toNat c.ci.toNat c.co.toNat P.a1 P.b1 P.a2 P.b2 p.1 p.2 from by rw [hP]; rfl]
 exact H
def PupR (w6 : World) (P : Pup) (a : Value) (wx : World) : Prop := ∃ g A1 k1 A2 k2 B1 d1 B2 d2, a = .pointer (some ⟨g, 0, none⟩) ∧ Blk wx g 102 #[.int .i64 P.r1, .int .i64 P.c1, .slice A1 P.a1.length k1, .int .i64 P.r2, .int .i64 P.c2, .slice A2 P.a2.length k2, .slice B1 P.b1.length d1, .slice B2 P.b2.length d2] ∧
  Ints .i64 wx A1 P.a1.length P.a1 ∧ Ints .i64 wx A2 P.a2.length P.a2 ∧ Ints .i64 wx B1 P.b1.length P.b1 ∧ Ints .i64 wx B2 P.b2.length P.b2 ∧ P.a1.length ≤ k1 ∧ P.a2.length ≤ k2 ∧ Below w6.heap.size w6 wx
theorem bel8 {H g : Nat} {w u : World} {a0 a1 a2 a3 a4 a5 a6 a7 : Value} (hw : Below H w u) (hg : H ≤ g) : Below H w ((((((((u.setCell ⟨g, 0, none⟩ a0).setCell ⟨g, 1, none⟩ a1).setCell ⟨g, 2, none⟩ a2).setCell ⟨g, 3, none⟩ a3).setCell ⟨g, 4, none⟩ a4).setCell ⟨g, 5, none⟩ a5).setCell ⟨g, 6, none⟩ a6).setCell ⟨g, 7, none⟩ a7) :=
 (((((((hw.setCell (p := ⟨g, 0, none⟩) hg a0).setCell (p := ⟨g, 1, none⟩) hg a1).setCell (p := ⟨g, 2, none⟩) hg a2).setCell (p := ⟨g, 3, none⟩) hg a3).setCell (p := ⟨g, 4, none⟩) hg a4).setCell (p := ⟨g, 5, none⟩) hg a5).setCell (p := ⟨g, 6, none⟩) hg a6).setCell (p := ⟨g, 7, none⟩) hg a7
theorem pupR_stored {w6 u : World} {g b : Nat} {G : Pup} {A1 A2 B1 B2 : Option Addr} {k1 k2 d1 d2 : Nat} (hz : Blk u g 102 #[.int .i64 0, .int .i64 0, .slice none 0 0, .int .i64 0, .int .i64 0, .slice none 0 0, .slice none 0 0, .slice none 0 0]) (hgb : g < b) (o1 : u.ownsRow b 3 1 (.slice A1 G.a1.length k1) G.a1.length (G.a1.map (.int .i64)))
  (o2 : u.ownsRow b 3 1 (.slice A2 G.a2.length k2) G.a2.length (G.a2.map (.int .i64))) (o3 : u.ownsRow b 3 1 (.slice B1 G.b1.length d1) G.b1.length (G.b1.map (.int .i64))) (o4 : u.ownsRow b 3 1 (.slice B2 G.b2.length d2) G.b2.length (G.b2.map (.int .i64)))
  (hg : w6.heap.size ≤ g) (hw : Below w6.heap.size w6 u) :
  PupR w6 G (.pointer (some ⟨g, 0, none⟩)) ((((((((u.setCell ⟨g, 0, none⟩ (.int .i64 G.r1)).setCell ⟨g, 1, none⟩ (.int .i64 G.c1)).setCell ⟨g, 2, none⟩ (.slice A1 G.a1.length k1)).setCell ⟨g, 3, none⟩ (.int .i64 G.r2)).setCell ⟨g, 4, none⟩ (.int .i64 G.c2)).setCell ⟨g, 5, none⟩ (.slice A2 G.a2.length k2)).setCell ⟨g, 6, none⟩ (.slice B1 G.b1.length d1)).setCell ⟨g, 7, none⟩ (.slice B2 G.b2.length d2)) := by
 have hb := ((((((((But.refl g u).put 0 (.int .i64 G.r1)).put 1 (.int .i64 G.c1)).put 2 (.slice A1 G.a1.length k1)).put 3 (.int .i64 G.r2)).put 4 (.int .i64 G.c2)).put 5 (.slice A2 G.a2.length k2)).put 6 (.slice B1 G.b1.length d1)).put 7 (.slice B2 G.b2.length d2)
 have hB := (((((((hz.put 0 (.int .i64 G.r1)).put 1 (.int .i64 G.c1)).put 2 (.slice A1 G.a1.length k1)).put 3 (.int .i64 G.r2)).put 4 (.int .i64 G.c2)).put 5 (.slice A2 G.a2.length k2)).put 6 (.slice B1 G.b1.length d1)).put 7 (.slice B2 G.b2.length d2)
 exact ⟨g, A1, k1, A2, k2, B1, d1, B2, d2, rfl, by simpa using hB, Ints.of_own (own_but o1 hb hgb) rfl, Ints.of_own (own_but o2 hb hgb) rfl, Ints.of_own (own_but o3 hb hgb) rfl, Ints.of_own (own_but o4 hb hgb) rfl, own_capT o1, own_capT o2, but_to hw hb hg hw.size⟩
theorem pupR_laid {w6 u : World} {b : Nat} {G : Pup} {A1 A2 B1 B2 : Option Addr} {k1 k2 d1 d2 : Nat} (o1 : u.ownsRow b 3 1 (.slice A1 G.a1.length k1) G.a1.length (G.a1.map (.int .i64)))
  (o2 : u.ownsRow b 3 1 (.slice A2 G.a2.length k2) G.a2.length (G.a2.map (.int .i64))) (o3 : u.ownsRow b 3 1 (.slice B1 G.b1.length d1) G.b1.length (G.b1.map (.int .i64))) (o4 : u.ownsRow b 3 1 (.slice B2 G.b2.length d2) G.b2.length (G.b2.map (.int .i64)))
  (hw : Below w6.heap.size w6 u) :
  PupR w6 G (.pointer (some ⟨u.heap.size, 0, none⟩)) (u.alloc (.cells #[.int .i64 G.r1, .int .i64 G.c1, .slice A1 G.a1.length k1, .int .i64 G.r2, .int .i64 G.c2, .slice A2 G.a2.length k2, .slice B1 G.b1.length d1, .slice B2 G.b2.length d2] 102)) :=
 ⟨_, A1, k1, A2, k2, B1, d1, B2, d2, rfl, Blk.made _ _ _, (Ints.of_own o1 rfl).alloc _, (Ints.of_own o2 rfl).alloc _, (Ints.of_own o3 rfl).alloc _, (Ints.of_own o4 rfl).alloc _, own_capT o1, own_capT o2, hw.alloc hw.size _⟩
theorem dsk_loss (B q sq : Nat) (c : Cfg) (v : Value) (ds : Data) (bs : List UInt8) (sy : Nat) (w : World) (h : DeskIn B w q sq c v ds bs sy) (ok : DSt.Ok ⟨c, ds, bs, sy⟩) (i : Int) (ht : ∀ W, Below B w W → Tabs W) :
  Calls Tryz.prog 30 #[.pointer (some ⟨q, 0, none⟩), .int .i64 i] w (DeskPost B q sq (lossD ⟨c, ds, bs, sy⟩ i, ⟨c, ds, bs, sy⟩) w) := by
 obtain ⟨D, dc, rfl, hd, hdc, hdm⟩ := h.data.duos
 have hb4 : bs.length ≤ 4096 := ok.b
 have hBw : B ≤ w.heap.size := Nat.le_of_lt (Nat.lt_of_le_of_lt h.bq h.dq.lt)
 have HT := Lib.hid (fun W (hb : Below w.heap.size w W) => ht W (hb.mono hBw))
 have HI := Lib.hid (fun W (hb : Below w.heap.size w W) => h.below hb)
 have HD := Lib.hid (fun W (hb : Below w.heap.size w W) => hd.below hb)
 have hql := h.dq.lt
 have hdv := h.dv
 have sp := h.sp
 have HRC0 := Lib.hid (sto_Records sq 4096 sy _ w h.st (by rw [bytesOf_size]; omega) (ht w (Below.refl _ _)))
 have hn : ds.length ≤ 9223372036854775806 := by have : ds.length ≤ 16 := ok.n; omega
 have F0 := Lib.hid (show lossD ⟨c, ds, bs, sy⟩ i = if ¬ (0 ≤ i ∧ i < (ds.length : Int)) then errT 4 else if crs c ds ≠ 0 then errT (crs c ds) else if c.steps < (DSt.k ⟨c, ds, bs, sy⟩ : Int) then errT 1 else Lib.itoa (lossW c (states c ds (DSt.k ⟨c, ds, bs, sy⟩)).1 (duoAt ds i.toNat)) from rfl)
 clear ht hd
 obtain ⟨N, hN⟩ : ∃ N, N = ds.length := ⟨_, rfl⟩
 have HN := Lib.hid hN
 rw [← hN] at hdc hn HI HD F0 hdv
 clear hN
 by_cases hi : 0 ≤ i ∧ i < (N : Int)
 ·obtain ⟨j, rfl⟩ : ∃ j : Nat, i = (j : Int) := ⟨i.toNat, by omega⟩
  have hj : j < N := by omega
  have HR := HRC0.out
  rw [bytesOf_data] at HR
  obtain ⟨k, hk⟩ : ∃ k, k = (beg bs).1.length := ⟨_, rfl⟩
  rw [← hk] at HR
  have hk4 : k ≤ 4096 := by rw [hk]; exact Nat.le_trans (beg_len bs) hb4
  have HK := Lib.hid (show DSt.k ⟨c, ds, bs, sy⟩ = k from hk.symm)
  have HRC := Lib.hid HR
  have hcb := crs_small (ds := ds) ok.c
  have hs0 : 0 ≤ c.seed := ok.s0
  have hs1 : c.seed < 18446744073709551616 := by have : c.seed < 10000000000 := ok.s1; omega
  have F1 := Lib.hid (show lossD ⟨c, ds, bs, sy⟩ j = if crs c ds ≠ 0 then errT (crs c ds) else if c.steps < (k : Int) then errT 1 else Lib.itoa (lossW c (states c ds k).1 (duoAt ds j)) from by rw [F0.out, if_neg (by simpa using hi), HK.out, Int.toNat_natCast])
  have y0 : (0 : Int) ≤ (j : Int) := by omega
  have y1 : (j : Int) < (N : Int) := by omega
  clear hk HR ok HRC0 F0 hi
  go_enter Tryz.func30, Tryz.ntmps30
  go_wp2_with fail
  refine HRC.out.mono ?_
  rintro e w1 ⟨v1, rfl, hH, hb1⟩
  obtain ⟨A0, k0, rfl, _, _⟩ := Held.slice hH
  have h1 := HI.out _ hb1
  have HS := Lib.hid (fun W (hb : Below w1.heap.size w1 W) => show (W.cell? ⟨q, 0, none⟩ = some (.int .i64 c.ci) ∧ W.cell? ⟨q, 1, none⟩ = some (.int .i64 c.ch) ∧ W.cell? ⟨q, 2, none⟩ = some (.int .i64 c.co) ∧ W.cell? ⟨q, 3, none⟩ = some (.int .u64 c.seed) ∧ W.cell? ⟨q, 4, none⟩ = some (.int .i64 c.batch) ∧ W.cell? ⟨q, 5, none⟩ = some (.int .i64 c.steps) ∧ W.cell? ⟨q, 6, none⟩ = some (.int .i64 c.rate) ∧ W.cell? ⟨q, 7, none⟩ = some (.int .i64 c.decay) ∧ W.cell? ⟨q, 8, none⟩ = some (.int .i64 c.how) ∧ W.cell? ⟨q, 9, none⟩ = some (.int .i64 c.keep) ∧ W.cell? ⟨q, 10, none⟩ = some (.int .i64 c.clip)) ∧ W.cell? ⟨q, 11, none⟩ = some (.slice D N dc) from ⟨(h1.below hb).cfg, (h1.below hb).dv.trans (by rw [HN.out])⟩)
  have hd0 : Below w1.heap.size w1 w1.drew := (Below.refl _ _).drew
  clear HRC hH sp hdv
  by_cases hC : crs c ds = 0
  ·by_cases hst : (k : Int) ≤ c.steps
   ·have hf := fine hC
    have HMK := Lib.hid (fun W (hb : Below w1.heap.size w1 W) => trn_Run_ok c ds hC hs0 hs1 D N dc W (HD.out W (hb1.trans (hb.mono hb1.size))) k hst)
    have F := Lib.hid (show lossD ⟨c, ds, bs, sy⟩ j = Lib.itoa (lossW c (states c ds k).1 (duoAt ds j)) from by rw [F1.out, if_neg (by simpa using hC), if_neg (by omega)])
    have HOK := Lib.hid hf.ok
    have HEX := Lib.hid (hf.ex j (by rw [← HN.out]; exact hj))
    have HFS := Lib.hid (fits_iff.1 (fits_states c ds k))
    obtain ⟨wt, hwt⟩ : ∃ wt, wt = (states c ds k).1 := ⟨_, rfl⟩
    clear hC hst hf F1
    go_upto_region 4 with fail
    go_region_held3 (fun W => (W.cell? ⟨q, 0, none⟩ = some (.int .i64 c.ci) ∧ W.cell? ⟨q, 1, none⟩ = some (.int .i64 c.ch) ∧ W.cell? ⟨q, 2, none⟩ = some (.int .i64 c.co) ∧ W.cell? ⟨q, 3, none⟩ = some (.int .u64 c.seed) ∧ W.cell? ⟨q, 4, none⟩ = some (.int .i64 c.batch) ∧ W.cell? ⟨q, 5, none⟩ = some (.int .i64 c.steps) ∧ W.cell? ⟨q, 6, none⟩ = some (.int .i64 c.rate) ∧ W.cell? ⟨q, 7, none⟩ = some (.int .i64 c.decay) ∧ W.cell? ⟨q, 8, none⟩ = some (.int .i64 c.how) ∧ W.cell? ⟨q, 9, none⟩ = some (.int .i64 c.keep) ∧ W.cell? ⟨q, 10, none⟩ = some (.int .i64 c.clip)) ∧ W.cell? ⟨q, 11, none⟩ = some (.slice D N dc)) (first | (with_reducible exact HS.out _ hd0) | (with_reducible exact HS.out _ hd1) | fail) (first
     | (go_at_call 53; (with_reducible refine (HMK.out _ hd0).mono ?_); rintro e w2 ⟨gs, sk, rfl, hSH, hb2⟩; have hd1 := bel_trans hd0 hb2)
     | fail)
    all_goals
     have hw2 := bel_trans hb1 hd1
     obtain ⟨X1, p1, X2, p2, m0, m1, J1, J2, lN1, lX⟩ := StHeld.at' hSH (j := k) (by omega) HFS.out.1 HFS.out.2.1
     rw [← hwt] at J1
     have h2 := HI.out _ hw2
     obtain ⟨d0, d1, d2, d3, d4, d5, d6, d7, d8, d9, da⟩ := h2.cfg
     have bY : Below w2.heap.size w2 (w2.alloc (.cells #[.int .i64 c.ci, .int .i64 c.ch, .int .i64 c.co, .int .u64 c.seed, .int .i64 c.batch, .int .i64 c.steps, .int .i64 c.rate, .int .i64 c.decay, .int .i64 c.how, .int .i64 c.keep, .int .i64 c.clip] 29)) := (by repeat (first | exact Below.refl _ _ | assumption | refine bel_drewN ?_ _ | refine Below.drew ?_ | (refine Below.alloc ?_ (by simp <;> omega) _) | (refine Below.setCell ?_ (by simp <;> omega) _)))
     have hBY := Blk.made w2 29 #[.int .i64 c.ci, .int .i64 c.ch, .int .i64 c.co, .int .u64 c.seed, .int .i64 c.batch, .int .i64 c.steps, .int .i64 c.rate, .int .i64 c.decay, .int .i64 c.how, .int .i64 c.keep, .int .i64 c.clip]
     obtain ⟨y, hy⟩ : ∃ y, y = w2.alloc (.cells #[.int .i64 c.ci, .int .i64 c.ch, .int .i64 c.co, .int .u64 c.seed, .int .i64 c.batch, .int .i64 c.steps, .int .i64 c.rate, .int .i64 c.decay, .int .i64 c.how, .int .i64 c.keep, .int .i64 c.clip] 29) := ⟨_, rfl⟩
     obtain ⟨g8, hg8⟩ : ∃ g, g = w2.heap.size := ⟨_, rfl⟩
     have hm0 := (bY.cell (p := ⟨gs, k * 2, none⟩) lX).trans m0
     have hJ1 := J1.below bY
     have hgs : gs < y.heap.size := by rw [hy]; exact Nat.lt_of_lt_of_le lX bY.size
     rw [← hy] at bY hBY hm0 hJ1
     rw [← hg8] at hBY
     have hwy := bel_trans hw2 bY
     have hg8l := hBY.lt
     have e0 : y.cell? ⟨g8, 0, none⟩ = some (.int .i64 c.ci) := hBY.cell 0
     have e1 : y.cell? ⟨g8, 1, none⟩ = some (.int .i64 c.ch) := hBY.cell 1
     have e2 : y.cell? ⟨g8, 2, none⟩ = some (.int .i64 c.co) := hBY.cell 2
     have HY := Lib.hid hy
     have HG8 := Lib.hid hg8
     obtain ⟨P, hP⟩ : ∃ P, P = shapeP c.ci.toNat c.ch.toNat c.co.toNat wt := ⟨_, rfl⟩
     have HP := Lib.hid hP
     have hwl : wt.length = c.N := by rw [hwt]; exact HFS.out.1
     have hwo : okL wt = true := by rw [hwt]; exact HFS.out.2.2.1
     have HSH := Lib.hid (fun W (hb : Below y.heap.size y W) => show Calls Tryz.prog 54 #[.int .i64 c.ci, .int .i64 c.ch, .int .i64 c.co, .slice X1 c.N p1] W (PupOwn W P 0) from by
      have h := shape_fine c HOK.out X1 p1 wt hwl hwo lN1 (w := W) (hJ1.below hb)
      rw [← hP] at h
      exact h)
     have HLS := Lib.hid (fun (A1 A2 B1 B2 X T : Option Addr) (k1 k2 d1 d2 ni no xc tc : Nat) (W : World) i1 i2 j1 j2 g1 g2 ix it => loss_fine c HOK.out wt hwl hwo (duoAt ds j) HEX.out hP (A1 := A1) (A2 := A2) (B1 := B1) (B2 := B2) (X := X) (T := T) (k1 := k1) (k2 := k2) (d1 := d1) (d2 := d2) (ni := ni) (no := no) (xc := xc) (tc := tc) (w := W) i1 i2 j1 j2 g1 g2 ix it)
     have hLB := lossW_bd c wt (duoAt ds j)
     rw [← hwt] at F
     obtain ⟨x, hx⟩ : ∃ x, x = lossW c wt (duoAt ds j) := ⟨_, rfl⟩
     rw [← hx] at F HLS hLB
     have z0 : (0 : Int) ≤ (k : Int) := by omega
     have z1 : (k : Int) < (k : Int) + 1 := by omega
     have z2 : k < k + 1 := by omega
     clear hSH m0 m1 J1 J2 hy hg8 hP HMK HS hwt hx HFS lX
     go_upto_region 8 with fail
     rw [← HY.out, ← HG8.out]
     clear HY HG8 d0 d1 d2 d3 d4 d5 d6 d7 d8 d9 da
     go_cut [9] (fun a wx => PupR y P a wx)
     case first =>
      have HSF := Lib.hid (fun W (hb : Below y.heap.size y W) => (⟨(hb.cell (p := ⟨g8, 0, none⟩) hg8l).trans e0, (hb.cell (p := ⟨g8, 1, none⟩) hg8l).trans e1, (hb.cell (p := ⟨g8, 2, none⟩) hg8l).trans e2, (hb.cell (p := ⟨gs, k * 2, none⟩) hgs).trans hm0⟩ : W.cell? ⟨g8, 0, none⟩ = some (.int .i64 c.ci) ∧ W.cell? ⟨g8, 1, none⟩ = some (.int .i64 c.ch) ∧ W.cell? ⟨g8, 2, none⟩ = some (.int .i64 c.co) ∧ W.cell? ⟨gs, k * 2, none⟩ = some (.slice X1 c.N p1)))
      have hyd : Below y.heap.size y y.drew := (Below.refl _ _).drew
      have hya : Below y.heap.size y (y.alloc (.cells #[.int .i64 0, .int .i64 0, .slice none 0 0, .int .i64 0, .int .i64 0, .slice none 0 0, .slice none 0 0, .slice none 0 0] 102)).drew := ((Below.refl _ _).alloc (Nat.le_refl _) _).drew
      have hyz : Blk (y.alloc (.cells #[.int .i64 0, .int .i64 0, .slice none 0 0, .int .i64 0, .int .i64 0, .slice none 0 0, .slice none 0 0, .slice none 0 0] 102)).drew y.heap.size 102 #[.int .i64 0, .int .i64 0, .slice none 0 0, .int .i64 0, .int .i64 0, .slice none 0 0, .slice none 0 0, .slice none 0 0] := Blk.made y 102 #[.int .i64 0, .int .i64 0, .slice none 0 0, .int .i64 0, .int .i64 0, .slice none 0 0, .slice none 0 0, .slice none 0 0]
      have hys : y.heap.size < (y.alloc (.cells #[.int .i64 0, .int .i64 0, .slice none 0 0, .int .i64 0, .int .i64 0, .slice none 0 0, .slice none 0 0, .slice none 0 0] 102)).drew.heap.size := hyz.lt
      clear e0 e1 e2 hm0
      go_region_held3 (fun W => W.cell? ⟨g8, 0, none⟩ = some (.int .i64 c.ci) ∧ W.cell? ⟨g8, 1, none⟩ = some (.int .i64 c.ch) ∧ W.cell? ⟨g8, 2, none⟩ = some (.int .i64 c.co) ∧ W.cell? ⟨gs, k * 2, none⟩ = some (.slice X1 c.N p1)) (first | (with_reducible exact HSF.out _ hyd) | (with_reducible exact HSF.out _ hu1) | (with_reducible exact HSF.out _ hya) | (with_reducible exact HSF.out _ (hu1.alloc hu1.size _)) | (with_reducible exact HSF.out _ (bel8 hu1 (Nat.le_refl _))) | (with_reducible exact HSF.out _ (bel8 (hu1.alloc hu1.size _) hu1.size)) | fail) (first
       | (go_at_call 54; (refine (HSH.out _ (by first | (with_reducible exact hyd) | (with_reducible exact hya))).mono ?_); rintro e u1 ⟨G1, q1, G2, q2, G3, q3, G4, q4, rfl, P1, P2, P3, P4, hbG⟩; have hu1 : Below y.heap.size y u1 := (by first | (with_reducible exact hyd.trans (hbG.mono (Nat.le_refl _))) | (with_reducible exact hya.trans (hbG.mono (Nat.le_of_lt hys)))); first | (have hz4 : Blk u1 y.heap.size 102 #[.int .i64 0, .int .i64 0, .slice none 0 0, .int .i64 0, .int .i64 0, .slice none 0 0, .slice none 0 0, .slice none 0 0] := (by with_reducible exact hyz.below hbG hys); have hcl := hz4.pup; have hfr := hz4.pupz) | skip)
       | fail)
      all_goals
       go_wp2
       go_meet
       case rel => first
        | (have hL := pupR_laid (w6 := y) P1 P2 P3 P4 hu1; with_reducible exact hL)
        | (have hS := pupR_stored (w6 := y) hz4 hys P1 P2 P3 P4 (Nat.le_refl _) hu1; with_reducible exact hS)
        | trace_state
     case rest =>
      obtain ⟨gp, A1, k1, A2, k2, B1, d1, B2, d2, rfl, BG, I1, I2, I3, I4, l1, l2, hbx⟩ := hcut
      obtain ⟨z, hz⟩ : ∃ z : World, z = wc := ⟨_, rfl⟩
      rw [← hz] at BG I1 I2 I3 I4 hbx ⊢
      have hwz := bel_trans hwy hbx
      have hIz := HI.out _ hwz
      have hDz := HD.out _ hwz
      obtain ⟨s0, s1, s2, s3, s4, s5, s6, s7⟩ := BG.pup
      have sD : z.cell? ⟨q, 11, none⟩ = some (.slice D N dc) := hIz.dv.trans (by rw [HN.out])
      obtain ⟨db, dO, hDe, hdb, hdc'⟩ := hDz.cells (by omega)
      subst hDe
      obtain ⟨X, ni, xc, T, no, tc, t1, t2, ix, it, _, _, _, _⟩ := hdc' j hj
      have HL := fun W (hb : Below z.heap.size z W) => HLS.out A1 A2 B1 B2 X T k1 k2 d1 d2 ni no xc tc W (I1.below hb) (I2.below hb) (I3.below hb) (I4.below hb) l1 l2 (ix.below hb) (it.below hb)
      have HTO := fun W (hb : Below z.heap.size z W) => show Calls Tryz.prog 26 #[.int .i64 x, .int .i64 0] W fun r w' => r = .returned (.string (bytesOf (Lib.itoa x))) ∧ Below W.heap.size W w' from dsk_told x 0 W (by omega) (by omega) (by omega) (by omega) (HT.out _ (hwz.trans (hb.mono hwz.size)))
      have J0 := cell_regrown s0
      have J1 := cell_regrown s1
      have J2 := cell_regrown s2
      have J3 := cell_regrown s3
      have J4 := cell_regrown s4
      have J5 := cell_regrown s5
      have J6 := cell_regrown s6
      have J7 := cell_regrown s7
      have JD := cell_regrown sD
      have JX := cell_regrown t1
      have JT := cell_regrown t2
      obtain ⟨tx, htx⟩ : ∃ tx, tx = bytesOf (Lib.itoa x) := ⟨_, rfl⟩
      rw [← htx] at HTO
      have HTX := Lib.hid htx
      have cL := Lib.hid (fun d os => Calls.regrown_of (HL (grow (redrawn z d) os) (below_regrown z d os)))
      have cT := Lib.hid (fun d os => Calls.regrown_of (HTO (grow (redrawn z d) os) (below_regrown z d os)))
      clear hz htx HL HTO BG I1 I2 I3 I4 hdc' ix it s0 s1 s2 s3 s4 s5 s6 s7 sD t1 t2 HLS HSH hJ1 e0 e1 e2 hm0 hBY
      go_upto_region 9 with fail
      refine wp_region_quiet_below (by kernel_rfl) (by kernel_rfl) ?_
      iterate 13 (go_big_quiet_step (first | with_reducible exact cL.out _ _ | with_reducible exact cT.out _ _))
      refine wpQuiet_nil ?_
      intro _ hw'
      obtain ⟨⟨dq, osq⟩, hw''⟩ := hw'
      have hu := below_regrown z dq osq
      subst hw''
      go_wp2
      go_ret
      have hwf := hwz.trans (hu.mono hwz.size)
      rw [F.out, HTX.out]
      exact ⟨rfl, ⟨_, HI.out _ hwf⟩, Kp.of_below hwf⟩
   ·have F := Lib.hid (show lossD ⟨c, ds, bs, sy⟩ j = errT 1 from by rw [F1.out, if_neg (by simpa using hC), if_pos (by omega)])
    have HMK := Lib.hid (fun W (hb : Below w1.heap.size w1 W) => trn_Run_arg c ds D N dc W (HD.out W (hb1.trans (hb.mono hb1.size))) hn (k : Int) hC (by omega))
    have HFA := Lib.hid (fun W (hb : Below w.heap.size w W) => dsk_failed 1 W (by omega) (by omega) (HT.out _ hb))
    clear hC hst F1
    go_upto_region 4 with fail
    go_region_held3 (fun W => (W.cell? ⟨q, 0, none⟩ = some (.int .i64 c.ci) ∧ W.cell? ⟨q, 1, none⟩ = some (.int .i64 c.ch) ∧ W.cell? ⟨q, 2, none⟩ = some (.int .i64 c.co) ∧ W.cell? ⟨q, 3, none⟩ = some (.int .u64 c.seed) ∧ W.cell? ⟨q, 4, none⟩ = some (.int .i64 c.batch) ∧ W.cell? ⟨q, 5, none⟩ = some (.int .i64 c.steps) ∧ W.cell? ⟨q, 6, none⟩ = some (.int .i64 c.rate) ∧ W.cell? ⟨q, 7, none⟩ = some (.int .i64 c.decay) ∧ W.cell? ⟨q, 8, none⟩ = some (.int .i64 c.how) ∧ W.cell? ⟨q, 9, none⟩ = some (.int .i64 c.keep) ∧ W.cell? ⟨q, 10, none⟩ = some (.int .i64 c.clip)) ∧ W.cell? ⟨q, 11, none⟩ = some (.slice D N dc)) (first | (with_reducible exact HS.out _ hd0) | (with_reducible exact HS.out _ hd1) | fail) (first
     | (go_at_call 53; (with_reducible refine (HMK.out _ hd0).mono ?_); rintro e w2 ⟨rfl, hb2⟩; have hd1 := bel_trans hd0 hb2)
     | fail)
    all_goals
     have hw2 := bel_trans hb1 hd1
     go_wp2_with fail
     refine (HFA.out _ hw2).mono ?_
     rintro e w3 ⟨rfl, hb3⟩
     have hw3 := bel_trans hw2 hb3
     go_wp2
     go_ret
     rw [F.out]
     exact ⟨rfl, ⟨_, HI.out _ hw3⟩, Kp.of_below hw3⟩
  ·have F := Lib.hid (show lossD ⟨c, ds, bs, sy⟩ j = errT (crs c ds) from by rw [F1.out, if_pos hC])
   have HMK := Lib.hid (fun W (hb : Below w1.heap.size w1 W) => trn_Run_crs c ds D N dc W (HD.out W (hb1.trans (hb.mono hb1.size))) hn (k : Int) hC)
   have t0 : (crs c ds != 0) = true := by rw [bne_iff_ne]; exact hC
   obtain ⟨x, hx⟩ : ∃ x, x = crs c ds := ⟨_, rfl⟩
   rw [← hx] at F HMK t0 hcb
   have HFA := Lib.hid (fun W (hb : Below w.heap.size w W) => dsk_failed x W (by omega) (by omega) (HT.out _ hb))
   clear hC hx F1
   go_upto_region 4 with fail
   go_region_held3 (fun W => (W.cell? ⟨q, 0, none⟩ = some (.int .i64 c.ci) ∧ W.cell? ⟨q, 1, none⟩ = some (.int .i64 c.ch) ∧ W.cell? ⟨q, 2, none⟩ = some (.int .i64 c.co) ∧ W.cell? ⟨q, 3, none⟩ = some (.int .u64 c.seed) ∧ W.cell? ⟨q, 4, none⟩ = some (.int .i64 c.batch) ∧ W.cell? ⟨q, 5, none⟩ = some (.int .i64 c.steps) ∧ W.cell? ⟨q, 6, none⟩ = some (.int .i64 c.rate) ∧ W.cell? ⟨q, 7, none⟩ = some (.int .i64 c.decay) ∧ W.cell? ⟨q, 8, none⟩ = some (.int .i64 c.how) ∧ W.cell? ⟨q, 9, none⟩ = some (.int .i64 c.keep) ∧ W.cell? ⟨q, 10, none⟩ = some (.int .i64 c.clip)) ∧ W.cell? ⟨q, 11, none⟩ = some (.slice D N dc)) (first | (with_reducible exact HS.out _ hd0) | (with_reducible exact HS.out _ hd1) | fail) (first
    | (go_at_call 53; (with_reducible refine (HMK.out _ hd0).mono ?_); rintro e w2 ⟨rfl, hb2⟩; have hd1 := bel_trans hd0 hb2)
    | fail)
   all_goals
    have hw2 := bel_trans hb1 hd1
    go_wp2_with fail
    refine (HFA.out _ hw2).mono ?_
    rintro e w3 ⟨rfl, hb3⟩
    have hw3 := bel_trans hw2 hb3
    go_wp2
    go_ret
    rw [F.out]
    exact ⟨rfl, ⟨_, HI.out _ hw3⟩, Kp.of_below hw3⟩
 ·have F := Lib.hid (show lossD ⟨c, ds, bs, sy⟩ i = errT 4 from by rw [F0.out, if_pos hi])
  have HFA := Lib.hid (fun W (hb : Below w.heap.size w W) => dsk_failed 4 W (by omega) (by omega) (HT.out _ hb))
  clear F0 ok
  by_cases h0 : i < 0
  all_goals
   first
    | (have h1 : (N : Int) ≤ i := by omega)
    | skip
   clear hi
   go_enter Tryz.func30, Tryz.ntmps30
   go_wp2_with fail
   refine (HFA.out _ (Below.refl _ _)).mono ?_
   rintro e w3 ⟨rfl, hb3⟩
   go_wp2
   go_ret
   rw [F.out]
   exact ⟨rfl, ⟨_, HI.out _ hb3⟩, Kp.of_below hb3⟩
end Go.Proofs.YtgodgedhddngeaaGreatDoor
