/- The law TrainSays holds of the given program for every input. No condition. -/
import Derived.Test.YtcfmjpcbiomdbaaGreatTrnS1
import Derived.Test.YtcfmjpcbiomdbaaGreatArgR
import Derived.Deep.DeepCutAuto
import Derived.Deep.CutBlock
import Derived.Outline
namespace Go.Proofs.YtcfmjpcbiomdbaaGreat
open Go.ChangeShapes Go.WideShapes Go.ChangeAt Go.RowKit Pl

/-- A state in a box, its lists the call's own. -/
theorem StIn.below {w w' : World} {N n1 n2 : Nat} {A1 A2 : Option Addr} {s : List Int × List Int} (h : StIn w N A1 n1 A2 n2 s) (hb : Below w.heap.size w w') : StIn w' N A1 n1 A2 n2 s := ⟨h.1.below hb, h.2.1.below hb, h.2.2⟩
def StB (wx : World) (m K : Nat) (s : List Int × List Int) : Prop := ∃ A1 k1 A2 k2, Blk wx m 28 #[.slice A1 s.1.length k1, .slice A2 s.2.length k2] ∧ wx.ownsRow K 3 1 (.slice A1 s.1.length k1) s.1.length (s.1.map (.int .i64)) ∧
  wx.ownsRow K 3 1 (.slice A2 s.2.length k2) s.2.length (s.2.map (.int .i64)) ∧ s.1.length ≤ 40 ∧ s.2.length ≤ 40
theorem StB.below {w w' : World} {m K : Nat} {s : List Int × List Int} (h : StB w m K s) (hb : Below w.heap.size w w') : StB w' m K s := by
  obtain ⟨A1, k1, A2, k2, hB, h1, h2, hl⟩ := h
  exact ⟨A1, k1, A2, k2, hB.below hb hB.lt, own_below h1 hb, own_below h2 hb, hl⟩
theorem StB.but {w w' : World} {m K g : Nat} {s : List Int × List Int} (h : StB w m K s) (hb : But g w w') (hm : m ≠ g) (hg : g < K) : StB w' m K s := by
  obtain ⟨A1, k1, A2, k2, hB, h1, h2, hl⟩ := h
  exact ⟨A1, k1, A2, k2, hB.butB hb hm, own_but h1 hb hg, own_but h2 hb hg, hl⟩
theorem StB.mk {w : World} {m K N b : Nat} {s : List Int × List Int} {A1 A2 : Option Addr} {k1 k2 : Nat} (hB : Blk w m 28 #[.slice A1 N k1, .slice A2 N k2]) (h1 : w.ownsRow b 3 1 (.slice A1 N k1) N (s.1.map (.int .i64))) (h2 : w.ownsRow b 3 1 (.slice A2 N k2) N (s.2.map (.int .i64)))
    (l1 : s.1.length = N) (l2 : s.2.length = N) (h40 : N ≤ 40) (hK : K ≤ b) : StB w m K s := by
  refine ⟨A1, k1, A2, k2, ?_, ?_, ?_, by omega, by omega⟩
  · rw [l1, l2]; exact hB
  · rw [l1]; exact own_base h1 hK
  · rw [l2]; exact own_base h2 hK
/-- A record in a box. -/
def RcB (wx : World) (m K : Nat) (bt : List Int) (ra : Int) : Prop := ∃ v0 v3 v4 E ec, Blk wx m 33 #[v0, .slice E bt.length ec, .int .i64 ra, v3, v4] ∧ wx.ownsRow K 3 1 (.slice E bt.length ec) bt.length (bt.map (.int .i64)) ∧ bt.length ≤ 8
theorem RcB.below {w w' : World} {m K : Nat} {bt : List Int} {ra : Int} (h : RcB w m K bt ra) (hb : Below w.heap.size w w') : RcB w' m K bt ra := by
  obtain ⟨v0, v3, v4, E, ec, hB, hI, hl⟩ := h
  exact ⟨v0, v3, v4, E, ec, hB.below hb hB.lt, own_below hI hb, hl⟩
theorem st_zero {w : World} {m : Nat} (K : Nat) (h : Blk w m 28 #[.slice none 0 0, .slice none 0 0]) : StB w m K ([], []) := ⟨none, 0, none, 0, h, World.ownsRow_nil _ _ _ _, World.ownsRow_nil _ _ _ _, by simp, by simp⟩
theorem rc_zero {w : World} {m : Nat} (K : Nat) (h : Blk w m 33 #[.int .i64 0, .slice none 0 0, .int .i64 0, .int .u64 0, .int .u64 0]) : RcB w m K [] 0 := ⟨_, _, _, none, 0, h, World.ownsRow_nil _ _ _ _, by simp⟩
theorem ts_store {x u : World} {m K N nb b : Nat} {s0 s1 : List Int × List Int} {bt : List Int} {ra : Int} {p0 p1 r0 r1 r2 r3 r4 : Value} (V0 : StB u m K s0) (V1 : Blk u (m + 1) 28 #[p0, p1]) (V2 : Blk u (m + 2) 33 #[r0, r1, r2, r3, r4]) {B1 B2 E : Option Addr} {q1 q2 ec : Nat}
    (O1 : u.ownsRow b 3 1 (.slice B1 N q1) N (s1.1.map (.int .i64))) (O2 : u.ownsRow b 3 1 (.slice B2 N q2) N (s1.2.map (.int .i64))) (O3 : u.ownsRow b 3 1 (.slice E nb ec) nb (bt.map (.int .i64))) (l1 : s1.1.length = N) (l2 : s1.2.length = N) (l3 : bt.length = nb) (h40 : N ≤ 40) (h8 : nb ≤ 8) (hK : K ≤ b) (hm : m + 2 < K)
    (v0 v3 v4 : Value) (hb : Below m x u) :
    StB (((((((u.setCell ⟨m + 1, 0, none⟩ (.slice B1 N q1)).setCell ⟨m + 1, 1, none⟩ (.slice B2 N q2)).setCell ⟨m + 2, 0, none⟩ v0).setCell ⟨m + 2, 1, none⟩ (.slice E nb ec)).setCell ⟨m + 2, 2, none⟩ (.int .i64 ra)).setCell ⟨m + 2, 3, none⟩ v3).setCell ⟨m + 2, 4, none⟩ v4) m K s0 ∧
    StB (((((((u.setCell ⟨m + 1, 0, none⟩ (.slice B1 N q1)).setCell ⟨m + 1, 1, none⟩ (.slice B2 N q2)).setCell ⟨m + 2, 0, none⟩ v0).setCell ⟨m + 2, 1, none⟩ (.slice E nb ec)).setCell ⟨m + 2, 2, none⟩ (.int .i64 ra)).setCell ⟨m + 2, 3, none⟩ v3).setCell ⟨m + 2, 4, none⟩ v4) (m + 1) K s1 ∧
    RcB (((((((u.setCell ⟨m + 1, 0, none⟩ (.slice B1 N q1)).setCell ⟨m + 1, 1, none⟩ (.slice B2 N q2)).setCell ⟨m + 2, 0, none⟩ v0).setCell ⟨m + 2, 1, none⟩ (.slice E nb ec)).setCell ⟨m + 2, 2, none⟩ (.int .i64 ra)).setCell ⟨m + 2, 3, none⟩ v3).setCell ⟨m + 2, 4, none⟩ v4) (m + 2) K bt ra ∧
    Below m x (((((((u.setCell ⟨m + 1, 0, none⟩ (.slice B1 N q1)).setCell ⟨m + 1, 1, none⟩ (.slice B2 N q2)).setCell ⟨m + 2, 0, none⟩ v0).setCell ⟨m + 2, 1, none⟩ (.slice E nb ec)).setCell ⟨m + 2, 2, none⟩ (.int .i64 ra)).setCell ⟨m + 2, 3, none⟩ v3).setCell ⟨m + 2, 4, none⟩ v4) := by
  have h1 : But (m + 1) u ((u.setCell ⟨m + 1, 0, none⟩ (.slice B1 N q1)).setCell ⟨m + 1, 1, none⟩ (.slice B2 N q2)) := ((But.refl _ u).put 0 _).put 1 _
  have V1' := (V1.put 0 (.slice B1 N q1)).put 1 (.slice B2 N q2)
  have V2' := V2.butB h1 (by omega)
  have V0' := V0.but h1 (by omega) (by omega)
  have P1 := own_but O1 h1 (by omega)
  have P2 := own_but O2 h1 (by omega)
  have P3 := own_but O3 h1 (by omega)
  have hb1 : Below m x ((u.setCell ⟨m + 1, 0, none⟩ (.slice B1 N q1)).setCell ⟨m + 1, 1, none⟩ (.slice B2 N q2)) := (hb.setCell (p := ⟨m + 1, 0, none⟩) (Nat.le_succ _) _).setCell (p := ⟨m + 1, 1, none⟩) (Nat.le_succ _) _
  obtain ⟨y, hy⟩ : ∃ y, y = ((u.setCell ⟨m + 1, 0, none⟩ (.slice B1 N q1)).setCell ⟨m + 1, 1, none⟩ (.slice B2 N q2)) := ⟨_, rfl⟩
  rw [← hy] at V1' V2' V0' P1 P2 P3 hb1 ⊢
  have h2 := (((((But.refl (m + 2) y).put 0 v0).put 1 (.slice E nb ec)).put 2 (.int .i64 ra)).put 3 v3).put 4 v4
  have W1 : Blk y (m + 1) 28 #[.slice B1 N q1, .slice B2 N q2] := V1'
  refine ⟨V0'.but h2 (by omega) hm, StB.mk (W1.butB h2 (by omega)) (own_but P1 h2 (by omega)) (own_but P2 h2 (by omega)) l1 l2 h40 hK, ⟨v0, v3, v4, E, ec, ?_, ?_, by omega⟩, ?_⟩
  · rw [l3]; exact ((((V2'.put 0 _).put 1 _).put 2 _).put 3 _).put 4 _
  · rw [l3]; exact own_base (own_but P3 h2 (by omega)) hK
  · have hle : m ≤ m + 2 := by omega
    exact ((((hb1.setCell (p := ⟨m + 2, 0, none⟩) hle _).setCell (p := ⟨m + 2, 1, none⟩) hle _).setCell (p := ⟨m + 2, 2, none⟩) hle _).setCell (p := ⟨m + 2, 3, none⟩) hle _).setCell (p := ⟨m + 2, 4, none⟩) hle _
theorem runM_bd (c : Cfg) (ds : Data) (N0 : Int) : runM c ds N0 ≤ 9223372036854775806 := by
  by_cases hC : crs c ds = 0
  · have hst := (fine hC).ok.st
    by_cases hN : 0 ≤ N0 ∧ N0 ≤ c.steps
    · obtain ⟨N, rfl⟩ : ∃ N : Nat, N0 = (N : Int) := ⟨N0.toNat, by omega⟩
      rw [(run_ok (ds := ds) hC hN.2).2]; omega
    · rw [(run_arg hC hN).2]; omega
  · rw [(run_crs (N0 := N0) hC).2]; omega
def TsE (x : World) (e f : Int) (v u : Value) (wx : World) : Prop := v = .int .i64 e ∧ u = .int .i64 f ∧ Below x.heap.size x wx
def TsA (y : World) (c : Cfg) (e : Value) (wx : World) : Prop := e = .int .i64 c.E ∧ StB wx y.heap.size (y.heap.size + 3) (startO c) ∧ Blk wx (y.heap.size + 1) 28 #[.slice none 0 0, .slice none 0 0] ∧ Blk wx (y.heap.size + 2) 33 #[.int .i64 0, .slice none 0 0, .int .i64 0, .int .u64 0, .int .u64 0] ∧ Below y.heap.size y wx
def TsB (z : World) (m : Nat) (c : Cfg) (ds : Data) (s : List Int × List Int) (step N0 : Int) (g h l : Value) (wx : World) : Prop :=
  g = .int .i64 (nextE c ds s step) ∧ h = .int .i64 (runE c ds N0) ∧ (∃ A k, l = .slice A (runM c ds N0) k ∧ Duos wx A (runM c ds N0) (upto (states c ds) (runM c ds N0))) ∧
    StB wx m (m + 3) (startO c) ∧ StB wx (m + 1) (m + 3) (nextO c ds s step) ∧ RcB wx (m + 2) (m + 3) (batO c ds s step) (raO c ds s step) ∧ Below m z wx
def TsG (z : World) (m : Nat) (c : Cfg) (ds : Data) (s : List Int × List Int) (step : Int) (g : Value) (wx : World) : Prop :=
  g = .int .i64 (nextE c ds s step) ∧ StB wx m (m + 3) (startO c) ∧ StB wx (m + 1) (m + 3) (nextO c ds s step) ∧ RcB wx (m + 2) (m + 3) (batO c ds s step) (raO c ds s step) ∧ Below m z wx

set_option maxRecDepth 100000 in
set_option maxHeartbeats 8000000 in
theorem trainSays_walk (c : Cfg) (s0 : 0 ≤ c.seed) (s1 : c.seed < 18446744073709551616) (D : Option Addr) (n dc : Nat) (ds : Data) (w : World) (hd : Duos w D n ds) (hn : n ≤ 9223372036854775806) (s : List Int × List Int) (A1 A2 : Option Addr) (n1 n2 k1 k2 : Nat) (i1 : Ints .i64 w A1 n1 s.1) (i2 : Ints .i64 w A2 n2 s.2) (z1 : n1 ≤ 9223372036854775807) (z2 : n2 ≤ 9223372036854775807) (hk1 : n1 ≤ k1) (step N0 : Int) :
    Calls Tryz.prog 3 #[.agg #[.int .i64 c.ci, .int .i64 c.ch, .int .i64 c.co, .int .u64 c.seed, .int .i64 c.batch, .int .i64 c.steps, .int .i64 c.rate, .int .i64 c.decay, .int .i64 c.how, .int .i64 c.keep, .int .i64 c.clip], .slice D n dc, .agg #[.slice A1 n1 k1, .slice A2 n2 k2], .int .i64 step, .int .i64 N0] w fun e w' => e = .returned (.bool true) ∧ Below w.heap.size w w' := by
  have HB0 := (Blk.made w 24 #[.int .i64 c.ci, .int .i64 c.ch, .int .i64 c.co, .int .u64 c.seed, .int .i64 c.batch, .int .i64 c.steps, .int .i64 c.rate, .int .i64 c.decay, .int .i64 c.how, .int .i64 c.keep, .int .i64 c.clip]).alloc (.cells #[.slice A1 n1 k1, .slice A2 n2 k2] 28)
  have HB1 := Blk.made' (w.alloc (.cells #[.int .i64 c.ci, .int .i64 c.ch, .int .i64 c.co, .int .u64 c.seed, .int .i64 c.batch, .int .i64 c.steps, .int .i64 c.rate, .int .i64 c.decay, .int .i64 c.how, .int .i64 c.keep, .int .i64 c.clip] 24)) 28 #[.slice A1 n1 k1, .slice A2 n2 k2] (g := w.heap.size + 1) (by simp)
  have b0 : Below w.heap.size w ((w.alloc (.cells #[.int .i64 c.ci, .int .i64 c.ch, .int .i64 c.co, .int .u64 c.seed, .int .i64 c.batch, .int .i64 c.steps, .int .i64 c.rate, .int .i64 c.decay, .int .i64 c.how, .int .i64 c.keep, .int .i64 c.clip] 24)).alloc (.cells #[.slice A1 n1 k1, .slice A2 n2 k2] 28)) := (by repeat (first | exact Below.refl _ _ | assumption | refine bel_drewN ?_ _ | refine Below.drew ?_ | (refine Below.alloc ?_ (by simp <;> omega) _) | (refine Below.setCell ?_ (by simp <;> omega) _)))
  obtain ⟨x, hX⟩ : ∃ x, x = ((w.alloc (.cells #[.int .i64 c.ci, .int .i64 c.ch, .int .i64 c.co, .int .u64 c.seed, .int .i64 c.batch, .int .i64 c.steps, .int .i64 c.rate, .int .i64 c.decay, .int .i64 c.how, .int .i64 c.keep, .int .i64 c.clip] 24)).alloc (.cells #[.slice A1 n1 k1, .slice A2 n2 k2] 28)) := ⟨_, rfl⟩
  rw [← hX] at HB0 HB1 b0
  have HX := Lib.hid hX
  have lx := HB1.lt
  clear hX
  have HBX := Lib.hid (fun W (h : Below x.heap.size x W) => (⟨(HB0.below h (by omega)).cfg, (HB1.below h (by omega)).two.1⟩ :
      (W.cell? ⟨w.heap.size, 0, none⟩ = some (.int .i64 c.ci) ∧ W.cell? ⟨w.heap.size, 1, none⟩ = some (.int .i64 c.ch) ∧ W.cell? ⟨w.heap.size, 2, none⟩ = some (.int .i64 c.co) ∧ W.cell? ⟨w.heap.size, 3, none⟩ = some (.int .u64 c.seed) ∧ W.cell? ⟨w.heap.size, 4, none⟩ = some (.int .i64 c.batch) ∧ W.cell? ⟨w.heap.size, 5, none⟩ = some (.int .i64 c.steps) ∧ W.cell? ⟨w.heap.size, 6, none⟩ = some (.int .i64 c.rate) ∧ W.cell? ⟨w.heap.size, 7, none⟩ = some (.int .i64 c.decay) ∧ W.cell? ⟨w.heap.size, 8, none⟩ = some (.int .i64 c.how) ∧ W.cell? ⟨w.heap.size, 9, none⟩ = some (.int .i64 c.keep) ∧ W.cell? ⟨w.heap.size, 10, none⟩ = some (.int .i64 c.clip)) ∧ (W.cell? ⟨w.heap.size + 1, 0, none⟩ = some (.slice A1 n1 k1) ∧ W.cell? ⟨w.heap.size + 1, 1, none⟩ = some (.slice A2 n2 k2))))
  have HFB := Lib.hid (fun W (h : Below x.heap.size x W) => (HB0.below h (by omega)).cfg)
  have HCF := Lib.hid (fun W => rcfg_Check c W)
  have HCO := Lib.hid (fun W (h : Below x.heap.size x W) => ref_Course c D n dc ds W (hd.below (b0.trans (h.mono b0.size))) hn)
  have HTS := Lib.hid (fun W => trn_Start_any c W s0 s1)
  have HTN := Lib.hid (fun W (h : Below x.heap.size x W) => trn_Next_any c ds s0 s1 D n dc W (hd.below (b0.trans (h.mono b0.size))) hn s A1 A2 n1 n2 k1 k2 (i1.below (b0.trans (h.mono b0.size))) (i2.below (b0.trans (h.mono b0.size))) z1 z2 hk1 step)
  have HTR := Lib.hid (fun W (h : Below x.heap.size x W) => trn_Run_any c ds s0 s1 D n dc W (hd.below (b0.trans (h.mono b0.size))) hn N0)
  have HTC := Lib.hid (fun W (h : Below x.heap.size x W) => trn_Check c D n dc ds W (hd.below (b0.trans (h.mono b0.size))) hn)
  go_enter Tryz.func3, Tryz.ntmps3
  go_upto_region 1 with fail
  rw [← HX.out]
  obtain ⟨⟨d0, d1, d2, d3, d4, d5, d6, d7, d8, d9, da⟩, ⟨e0, e1⟩⟩ := HBX.out x (Below.refl _ _)
  go_cut [11, 12] (fun v u wx => TsE x c.E (crs c ds) v u wx)
  case first =>
    go_region_held3 (fun W => W.cell? ⟨w.heap.size, 0, none⟩ = some (.int .i64 c.ci) ∧ W.cell? ⟨w.heap.size, 1, none⟩ = some (.int .i64 c.ch) ∧ W.cell? ⟨w.heap.size, 2, none⟩ = some (.int .i64 c.co) ∧ W.cell? ⟨w.heap.size, 3, none⟩ = some (.int .u64 c.seed) ∧ W.cell? ⟨w.heap.size, 4, none⟩ = some (.int .i64 c.batch) ∧ W.cell? ⟨w.heap.size, 5, none⟩ = some (.int .i64 c.steps) ∧ W.cell? ⟨w.heap.size, 6, none⟩ = some (.int .i64 c.rate) ∧ W.cell? ⟨w.heap.size, 7, none⟩ = some (.int .i64 c.decay) ∧ W.cell? ⟨w.heap.size, 8, none⟩ = some (.int .i64 c.how) ∧ W.cell? ⟨w.heap.size, 9, none⟩ = some (.int .i64 c.keep) ∧ W.cell? ⟨w.heap.size, 10, none⟩ = some (.int .i64 c.clip))
      (first | (with_reducible exact HFB.out _ ((Below.refl _ _).drew)) | (with_reducible exact HFB.out _ hx1) | (with_reducible exact HFB.out _ hx2) | fail) (first
      | (go_at_call 5; (refine (HCF.out _).mono ?_); rintro e u1 ⟨rfl, hbS⟩; have hx1 : Below x.heap.size x u1 := bel_trans ((Below.refl _ _).drew) hbS)
      | (go_at_call 6; (refine (HCO.out u1 hx1).mono ?_); rintro e u2 ⟨rfl, hbH⟩; have hx2 : Below x.heap.size x u2 := bel_trans hx1 hbH)
      | fail)
    all_goals
      go_wp2
      go_meet
      case rel => exact ⟨rfl, rfl, hx2⟩
  case rest =>
    obtain ⟨rfl, rfl, hby⟩ := hcut
    obtain ⟨y, rfl⟩ : ∃ y : World, y = wc := ⟨_, rfl⟩
    have sy := hby.size
    clear d0 d1 d2 d3 d4 d5 d6 d7 d8 d9 da e0 e1
    have Z0 : Blk (((y.alloc (.cells #[.slice none 0 0, .slice none 0 0] 28)).alloc (.cells #[.slice none 0 0, .slice none 0 0] 28)).alloc (.cells #[.int .i64 0, .slice none 0 0, .int .i64 0, .int .u64 0, .int .u64 0] 33)) y.heap.size 28 #[.slice none 0 0, .slice none 0 0] := ((Blk.made _ _ _).alloc _).alloc _
    have Z1 : Blk (((y.alloc (.cells #[.slice none 0 0, .slice none 0 0] 28)).alloc (.cells #[.slice none 0 0, .slice none 0 0] 28)).alloc (.cells #[.int .i64 0, .slice none 0 0, .int .i64 0, .int .u64 0, .int .u64 0] 33)) (y.heap.size + 1) 28 #[.slice none 0 0, .slice none 0 0] := (Blk.made' _ _ _ (by simp)).alloc _
    have Z2 : Blk (((y.alloc (.cells #[.slice none 0 0, .slice none 0 0] 28)).alloc (.cells #[.slice none 0 0, .slice none 0 0] 28)).alloc (.cells #[.int .i64 0, .slice none 0 0, .int .i64 0, .int .u64 0, .int .u64 0] 33)) (y.heap.size + 2) 33 #[.int .i64 0, .slice none 0 0, .int .i64 0, .int .u64 0, .int .u64 0] := Blk.made' _ _ _ (by simp)
    have bz : Below y.heap.size y (((y.alloc (.cells #[.slice none 0 0, .slice none 0 0] 28)).alloc (.cells #[.slice none 0 0, .slice none 0 0] 28)).alloc (.cells #[.int .i64 0, .slice none 0 0, .int .i64 0, .int .u64 0, .int .u64 0] 33)) := (by repeat (first | exact Below.refl _ _ | assumption | refine bel_drewN ?_ _ | refine Below.drew ?_ | (refine Below.alloc ?_ (by simp <;> omega) _) | (refine Below.setCell ?_ (by simp <;> omega) _)))
    obtain ⟨z, hz⟩ : ∃ z, z = (((y.alloc (.cells #[.slice none 0 0, .slice none 0 0] 28)).alloc (.cells #[.slice none 0 0, .slice none 0 0] 28)).alloc (.cells #[.int .i64 0, .slice none 0 0, .int .i64 0, .int .u64 0, .int .u64 0] 33)) := ⟨_, rfl⟩
    rw [← hz] at Z0 Z1 Z2 bz
    have szz0 : z.heap.size = y.heap.size + 3 := by rw [hz]; simp
    have HZ := Lib.hid hz
    clear hz
    go_upto_if 35 with fail
    rw [← HZ.out]
    go_cut [11] (fun e wx => TsA y c e wx)
    case first =>
      have hzx : Below x.heap.size x z := bel_trans hby bz
      have d := HFB.out z hzx
      obtain ⟨d0, d1, d2, d3, d4, d5, d6, d7, d8, d9, da⟩ := d
      by_cases hE : c.E = 0
      · have hok := Cfg.ok hE
        have h40 := hok.n40
        have HRS := Lib.hid (fun W => ref_Start c W hE s0 s1)
        have HSO := Lib.hid (show startO c = start c from if_pos hE)
        have HSL := Lib.hid (fits_iff.1 (fits_start c))
        have t : (c.E == 0) = true := by rw [beq_iff_eq]; exact hE
        clear hE hok
        go_wp2_with fail
        refine (HRS.out z).mono ?_
        rintro e u ⟨B1, q1, B2, q2, rfl, O1, O2, hbu⟩
        have Y0 := Z0.below hbu Z0.lt
        have Y1 := Z1.below hbu Z1.lt
        have Y2 := Z2.below hbu Z2.lt
        obtain ⟨⟨p0, p1⟩, p2, p3⟩ := Y0.two
        have hlz := Z0.lt
        have hbt : But y.heap.size u ((u.setCell ⟨y.heap.size, 0, none⟩ (.slice B1 c.N q1)).setCell ⟨y.heap.size, 1, none⟩ (.slice B2 c.N q2)) := ((But.refl _ u).put 0 _).put 1 _
        have F0 : StB ((u.setCell ⟨y.heap.size, 0, none⟩ (.slice B1 c.N q1)).setCell ⟨y.heap.size, 1, none⟩ (.slice B2 c.N q2)) y.heap.size (y.heap.size + 3) (startO c) := by
          rw [HSO.out]
          exact StB.mk (st_put Y0) (own_but O1 hbt hlz) (own_but O2 hbt hlz) HSL.out.1 HSL.out.2.1 h40 (by have := Y2.lt; have h3 := szz0; omega)
        have F1 := Y1.butB hbt (by omega)
        have F2 := Y2.butB hbt (by omega)
        have F3 : Below y.heap.size y ((u.setCell ⟨y.heap.size, 0, none⟩ (.slice B1 c.N q1)).setCell ⟨y.heap.size, 1, none⟩ (.slice B2 c.N q2)) := bs2 (bel_trans bz hbu) (Nat.le_refl _)
        go_wp2
        go_meet
        case rel => exact ⟨rfl, F0, F1, F2, F3⟩
      · have t : (c.E == 0) = false := beq_eq_false_iff_ne.2 hE
        have HSO := Lib.hid (show startO c = ([], []) from if_neg hE)
        clear hE
        go_wp2
        go_meet
        case rel => exact ⟨rfl, by rw [HSO.out]; exact st_zero _ Z0, Z1, Z2, bz⟩
    case rest =>
      obtain ⟨rfl, S0, Y1, Y2, hbc⟩ := hcut
      obtain ⟨u, rfl⟩ : ∃ u : World, u = wc := ⟨_, rfl⟩
      have hxu : Below x.heap.size x u := bel_trans hby hbc
      have szz := szz0
      clear Z0 Z1 Z2 bz HZ
      obtain ⟨m, hm⟩ : ∃ m, m = y.heap.size := ⟨_, rfl⟩
      have HM := Lib.hid hm
      have hxm : x.heap.size ≤ m := by omega
      rw [← hm] at S0 Y1 Y2 ⊢
      clear hm szz
      go_upto_if 39 with fail
      go_cut [13, 14, 18] (fun g h l wx => TsB u m c ds s step N0 g h l wx)
      case first =>
        obtain ⟨⟨d0, d1, d2, d3, d4, d5, d6, d7, d8, d9, da⟩, ⟨e0, e1⟩⟩ := HBX.out u hxu
        by_cases hC : crs c ds = 0
        · have t : (crs c ds == 0) = true := by rw [beq_iff_eq]; exact hC
          have HC0 := Lib.hid hC
          have hf := fine hC
          have hst := hf.ok.st
          have HFT := Lib.hid (fun W (h : Below x.heap.size x W) b (hb : fits c s = b) => rfits_told (k1 := k1) (k2 := k2) hf.e (i1.below (b0.trans (h.mono b0.size))) (i2.below (b0.trans (h.mono b0.size))) z1 z2 hb)
          have HS := Lib.hid (show IntKind.i64.wrap (c.steps - 1) = c.steps - 1 from wrap_small _ (by omega) (by omega))
          have HI := Lib.hid (fun W => ref_In step 0 (c.steps - 1) W)
          have HI2 := Lib.hid (fun W => ref_In N0 0 c.steps W)
          go_upto_block 0 with fail
          go_cut [13] (fun g wx => TsG u m c ds s step g wx)
          case first =>
            cases hF : fits c s
            · have HN := Lib.hid (nextE_fit (step := step) hC hF)
              have hN0 : nextE c ds s step ≠ 0 := by rw [HN.out]; decide
              have G1 := Lib.hid (show nextO c ds s step = ([], []) from if_neg hN0)
              have G2 := Lib.hid (show batO c ds s step = [] from if_neg hN0)
              have G3 := Lib.hid (show raO c ds s step = 0 from if_neg hN0)
              have HF := Lib.hid (HFT.out u hxu false hF)
              clear hC hF hN0 hf HFT
              go_wp2_with fail
              refine HF.out.mono ?_
              rintro e u1 ⟨rfl, hb1⟩
              go_wp2
              go_meet
              case rel => exact ⟨by rw [HN.out], S0.below hb1, by rw [G1.out]; exact st_zero _ (Y1.below hb1 Y1.lt), by rw [G2.out, G3.out]; exact rc_zero _ (Y2.below hb1 Y2.lt), hb1.mono (by have := Y2.lt; omega)⟩
            · have HF := Lib.hid (HFT.out u hxu true hF)
              by_cases h3 : 0 ≤ step ∧ step < c.steps
              · obtain ⟨j, rfl⟩ : ∃ j : Nat, step = (j : Int) := ⟨step.toNat, by omega⟩
                have q2 := h3.2
                have HN := Lib.hid (nextE_ok (step := (j : Int)) hC hF h3)
                obtain ⟨f1, f2, _, _⟩ := fits_iff.1 hF
                have e1' : n1 = c.N := by rw [← i1.len]; exact f1
                have e2' : n2 = c.N := by rw [← i2.len]; exact f2
                have h40 := hf.ok.n40
                have hba := hf.ok.ba
                have HRN := Lib.hid (fun W (h : Below x.heap.size x W) => ref_Next c ds hf s0 s1 D n dc W (hd.below (b0.trans (h.mono b0.size))) s hF A1 A2 k1 k2 (e1' ▸ i1.below (b0.trans (h.mono b0.size))) (e2' ▸ i2.below (b0.trans (h.mono b0.size))) (e1' ▸ hk1) j q2)
                rw [← e1'] at HRN
                rw [show (.slice A2 n1 k2 : Value) = .slice A2 n2 k2 by rw [e1', e2']] at HRN
                have G1 := Lib.hid (show nextO c ds s (j : Int) = nextS c ds s j by unfold nextO; rw [if_pos HN.out]; simp)
                have G2 := Lib.hid (show batO c ds s (j : Int) = (batI c ds j).map fun (n : Nat) => (n : Int) by unfold batO; rw [if_pos HN.out]; simp)
                have G3 := Lib.hid (show raO c ds s (j : Int) = ratI c j by unfold raO; rw [if_pos HN.out]; simp)
                have HNL := Lib.hid (fits_iff.1 (fits_next ds hF j))
                have HBL := Lib.hid (show ((batI c ds j).map fun (n : Nat) => (n : Int)).length = c.batch.toNat by rw [List.length_map, batI_length])
                rw [show inB (j : Int) 0 (c.steps - 1) = true from inB_iff.2 (by omega)] at HI
                clear hC hF hf HFT f1 f2 e1' e2' h3
                go_wp2_with fail
                refine HF.out.mono ?_
                rintro e u1 ⟨rfl, hb1⟩
                have hx1 : Below x.heap.size x u1 := bel_trans hxu hb1
                clear d0 d1 d2 d3 d4 d5 d6 d7 d8 d9 da e0 e1
                obtain ⟨⟨d0, d1, d2, d3, d4, d5, d6, d7, d8, d9, da⟩, ⟨e0, e1⟩⟩ := HBX.out u1 hx1
                go_wp2_with fail
                try rw [HS.out]
                (with_reducible refine (HI.out _).mono ?_)
                rintro e w' ⟨rfl, rfl⟩
                go_wp2_with fail
                refine (HRN.out u1 hx1).mono ?_
                rintro e u2 ⟨B1, r1, B2, r2, E, ec, rfl, O1, O2, O3, hb2⟩
                have h02 := bel_trans hb1 hb2
                have V0 := S0.below h02
                have V1 := Y1.below h02 Y1.lt
                have V2 := Y2.below h02 Y2.lt
                obtain ⟨⟨p0, p1⟩, p2, p3⟩ := V1.two
                obtain ⟨⟨t0, t1, t2, t3, t4⟩, f0, f1, f2, f3, f4⟩ := V2.rec5
                have lm := Y2.lt
                have hmu : m + 2 < u1.heap.size := Nat.lt_of_lt_of_le lm hb1.size
                have nm1 : m + 1 ≠ m + 2 := by omega
                have nm2 : m + 2 ≠ m + 1 := by omega
                have TB := Lib.hid (ts_store (K := m + 3) (ra := ratI c j) (x := u) V0 V1 V2 O1 O2 O3 HNL.out.1 HNL.out.2.1 HBL.out h40 (by omega) (by omega) (by omega) (.int .i64 j) (.int .u64 (rootS (nextS c ds s j))) (.int .u64 0) (h02.mono (by omega)))
                clear V0 V1 V2 O1 O2 O3
                go_wp2
                go_meet
                case rel => exact ⟨by rw [HN.out, HC0.out], TB.out.1, by rw [G1.out]; exact TB.out.2.1, by rw [G2.out, G3.out]; exact TB.out.2.2.1, TB.out.2.2.2⟩
              · have HN := Lib.hid (nextE_arg (step := step) hC hF h3)
                have hN0 : nextE c ds s step ≠ 0 := by rw [HN.out]; decide
                have G1 := Lib.hid (show nextO c ds s step = ([], []) from if_neg hN0)
                have G2 := Lib.hid (show batO c ds s step = [] from if_neg hN0)
                have G3 := Lib.hid (show raO c ds s step = 0 from if_neg hN0)
                have ti : inB step 0 (c.steps - 1) = false := by
                  cases hh : inB step 0 (c.steps - 1)
                  · rfl
                  · exact absurd (inB_iff.1 hh) (by omega)
                rw [ti] at HI
                clear hC hF hN0 hf HFT h3 ti
                go_wp2_with fail
                refine HF.out.mono ?_
                rintro e u1 ⟨rfl, hb1⟩
                have hx1 : Below x.heap.size x u1 := bel_trans hxu hb1
                clear d0 d1 d2 d3 d4 d5 d6 d7 d8 d9 da e0 e1
                obtain ⟨⟨d0, d1, d2, d3, d4, d5, d6, d7, d8, d9, da⟩, ⟨e0, e1⟩⟩ := HBX.out u1 hx1
                go_wp2_with fail
                try rw [HS.out]
                (with_reducible refine (HI.out _).mono ?_)
                rintro e w' ⟨rfl, rfl⟩
                go_wp2
                go_meet
                case rel => exact ⟨by rw [HN.out], S0.below hb1, by rw [G1.out]; exact st_zero _ (Y1.below hb1 Y1.lt), by rw [G2.out, G3.out]; exact rc_zero _ (Y2.below hb1 Y2.lt), hb1.mono (by have := Y2.lt; omega)⟩
          case rest =>
            obtain ⟨rfl, T0, T1, T2, hbg⟩ := hcut
            obtain ⟨v, rfl⟩ : ∃ v : World, v = wc := ⟨_, rfl⟩
            have hxv : Below x.heap.size x v := hxu.trans (hbg.mono hxm)
            clear d0 d1 d2 d3 d4 d5 d6 d7 d8 d9 da e0 e1
            obtain ⟨⟨d0, d1, d2, d3, d4, d5, d6, d7, d8, d9, da⟩, ⟨e0, e1⟩⟩ := HBX.out v hxv
            have lmv : m < v.heap.size := by obtain ⟨_, _, _, _, hB, _⟩ := T0; exact hB.lt
            by_cases hN : 0 ≤ N0 ∧ N0 ≤ c.steps
            · obtain ⟨N, rfl⟩ : ∃ N : Nat, N0 = (N : Int) := ⟨N0.toNat, by omega⟩
              have HR := Lib.hid (run_ok (ds := ds) hC hN.2)
              have HST := Lib.hid (fun W (h : Below x.heap.size x W) => ref_States c ds hf s0 s1 D n dc W (hd.below (b0.trans (h.mono b0.size))) N hN.2)
              rw [show inB (N : Int) 0 c.steps = true from inB_iff.2 hN] at HI2
              clear hC hf HFT hN
              go_wp2_with fail
              refine (HI2.out _).mono ?_
              rintro e w' ⟨rfl, rfl⟩
              go_wp2_with fail
              refine (HST.out v hxv).mono ?_
              rintro e v2 ⟨gg, gc, rfl, hR, hb2⟩
              go_wp2
              go_meet
              case rel => exact ⟨rfl, by rw [HR.out.1], ⟨_, gc, by rw [HR.out.2], by rw [HR.out.2]; exact StHeld.toDuos hR⟩, T0.below hb2, T1.below hb2, T2.below hb2, hbg.trans (hb2.mono (Nat.le_of_lt lmv))⟩
            · have HR := Lib.hid (run_arg (N0 := N0) hC hN)
              have ti : inB N0 0 c.steps = false := by
                cases hh : inB N0 0 c.steps
                · rfl
                · exact absurd (inB_iff.1 hh) hN
              rw [ti] at HI2
              clear hC hf HFT hN ti
              go_wp2_with fail
              refine (HI2.out _).mono ?_
              rintro e w' ⟨rfl, rfl⟩
              go_wp2
              go_meet
              case rel => exact ⟨rfl, by rw [HR.out.1], ⟨none, 0, by rw [HR.out.2], by rw [HR.out.2]; exact duos_none _⟩, T0, T1, T2, hbg⟩
        · have t : (crs c ds == 0) = false := beq_eq_false_iff_ne.2 hC
          have HR := Lib.hid (run_crs (N0 := N0) hC)
          have HN := Lib.hid (nextE_crs (s := s) (step := step) hC)
          have hN0 : nextE c ds s step ≠ 0 := by rw [HN.out]; exact hC
          have G1 := Lib.hid (show nextO c ds s step = ([], []) from if_neg hN0)
          have G2 := Lib.hid (show batO c ds s step = [] from if_neg hN0)
          have G3 := Lib.hid (show raO c ds s step = 0 from if_neg hN0)
          clear hC hN0
          go_wp2
          go_meet
          case rel => exact ⟨by rw [HN.out], by rw [HR.out.1], ⟨none, 0, by rw [HR.out.2], by rw [HR.out.2]; exact duos_none _⟩, S0, by rw [G1.out]; exact st_zero _ Y1, by rw [G2.out, G3.out]; exact rc_zero _ Y2, Below.refl _ _⟩
      case rest =>
        obtain ⟨rfl, rfl, ⟨LA, lk, rfl, hL⟩, T0, T1, T2, hbt⟩ := hcut
        obtain ⟨v, rfl⟩ : ∃ v : World, v = wc := ⟨_, rfl⟩
        have hxv : Below x.heap.size x v := hxu.trans (hbt.mono hxm)
        obtain ⟨⟨d0, d1, d2, d3, d4, d5, d6, d7, d8, d9, da⟩, ⟨e0, e1⟩⟩ := HBX.out v hxv
        go_wp2_with fail
        refine (HTS.out v).mono ?_
        rintro e v1 ⟨P1, m1, q1, P2, m2, q2, rfl, J1, hc1⟩
        have hA1 : Below v.heap.size v (v1.alloc (.cells #[.slice P1 m1 q1, .slice P2 m2 q2] 28)) := bal hc1 _
        have hxA1 : Below x.heap.size x (v1.alloc (.cells #[.slice P1 m1 q1, .slice P2 m2 q2] 28)) := bel_trans hxv hA1
        have D1 : Blk (v1.alloc (.cells #[.slice P1 m1 q1, .slice P2 m2 q2] 28)) v1.heap.size 28 #[.slice P1 m1 q1, .slice P2 m2 q2] := Blk.made _ _ _
        have hx1 : Below x.heap.size x v1 := bel_trans hxv hc1
        have J1A := J1.below ((Below.refl v1.heap.size v1).alloc (Nat.le_refl _) (.cells #[.slice P1 m1 q1, .slice P2 m2 q2] 28))
        clear d0 d1 d2 d3 d4 d5 d6 d7 d8 d9 da e0 e1
        obtain ⟨⟨d0, d1, d2, d3, d4, d5, d6, d7, d8, d9, da⟩, ⟨e0, e1⟩⟩ := HBX.out v1 hx1
        have lw1 : w.heap.size < v1.heap.size := by have := hx1.size; omega
        have lw2 : w.heap.size + 1 < v1.heap.size := by have := hx1.size; omega
        go_wp2_with fail
        refine (HTN.out _ hxA1).mono ?_
        rintro e v2 ⟨R1, m3, q3, R2, m4, q4, E, ne, ec, rfl, J2, JE, hne8, hc2⟩
        have D12 := D1.below hc2 D1.lt
        have J12 := J1A.below hc2
        have h02 : Below v.heap.size v v2 := bel_trans hA1 hc2
        have hx2 : Below x.heap.size x v2 := bel_trans hxv h02
        have hA2 : Below v2.heap.size v2 (v2.alloc (.cells #[.slice R1 m3 q3, .slice R2 m4 q4] 28)) := (Below.refl _ _).alloc (Nat.le_refl _) _
        have D2 : Blk (v2.alloc (.cells #[.slice R1 m3 q3, .slice R2 m4 q4] 28)) v2.heap.size 28 #[.slice R1 m3 q3, .slice R2 m4 q4] := Blk.made _ _ _
        have J2A := J2.below hA2
        have JEA := JE.below hA2
        have D1A := D12.below hA2 D12.lt
        have J1B := J12.below hA2
        have hxA2 : Below x.heap.size x (v2.alloc (.cells #[.slice R1 m3 q3, .slice R2 m4 q4] 28)) := bel_trans hx2 hA2
        clear d0 d1 d2 d3 d4 d5 d6 d7 d8 d9 da e0 e1
        obtain ⟨⟨d0, d1, d2, d3, d4, d5, d6, d7, d8, d9, da⟩, ⟨e0, e1⟩⟩ := HBX.out v2 hx2
        have lw3 : w.heap.size < v2.heap.size := by have := hx2.size; omega
        have lw4 : w.heap.size + 1 < v2.heap.size := by have := hx2.size; omega
        go_wp2_with fail
        refine (HTR.out _ hxA2).mono ?_
        rintro e v3 ⟨RA, rk, rfl, hR, hc3⟩
        have hx3 : Below x.heap.size x v3 := bel_trans hxA2 hc3
        clear d0 d1 d2 d3 d4 d5 d6 d7 d8 d9 da e0 e1
        obtain ⟨⟨d0, d1, d2, d3, d4, d5, d6, d7, d8, d9, da⟩, ⟨e0, e1⟩⟩ := HBX.out v3 hx3
        go_wp2_with fail
        refine (HTC.out v3 hx3).mono ?_
        rintro e v4 ⟨rfl, hc4⟩
        have h24 : Below (v2.alloc (.cells #[.slice R1 m3 q3, .slice R2 m4 q4] 28)).heap.size (v2.alloc (.cells #[.slice R1 m3 q3, .slice R2 m4 q4] 28)) v4 := bel_trans hc3 hc4
        have h04 : Below v.heap.size v v4 := bel_trans (bel_trans h02 hA2) h24
        have E1 := D1A.below h24 D1A.lt
        have E2 := D2.below h24 D2.lt
        have K1 := J1B.below h24
        have K2 := J2A.below h24
        have KE := JEA.below h24
        have hR4 := hR.below hc4
        have hL4 := hL.below h04
        obtain ⟨a1, g1, a2, g2, B0, o1, o2, w1, w2⟩ := T0.below h04
        obtain ⟨a3, g3, a4, g4, B1, o3, o4, w3, w4⟩ := T1.below h04
        obtain ⟨y0, y3, y4, a5, g5, B2, o5, w5⟩ := T2.below h04
        have HSM1 := Lib.hid (fun W (h : Below v4.heap.size v4 W) => ref_SameState (startO c) (startO c) P1 P2 a1 a2 m1 m2 (startO c).1.length (startO c).2.length q1 q2 g1 g2 W (K1.1.below h) (K1.2.1.below h) ((Ints.of_own o1 rfl).below h) ((Ints.of_own o2 rfl).below h) (.inr (by omega)) (.inr (by omega)))
        have HSM2 := Lib.hid (fun W (h : Below v4.heap.size v4 W) => ref_SameState (nextO c ds s step) (nextO c ds s step) R1 R2 a3 a4 m3 m4 (nextO c ds s step).1.length (nextO c ds s step).2.length q3 q4 g3 g4 W (K2.1.below h) (K2.2.1.below h) ((Ints.of_own o3 rfl).below h) ((Ints.of_own o4 rfl).below h) (.inr (by omega)) (.inr (by omega)))
        have HEQ := Lib.hid (fun W (h : Below v4.heap.size v4 W) => eq_any2 (c := ec) (d := g5) (r := true) (decide_eq_true rfl) (KE.below h) ((Ints.of_own o5 rfl).below h) (.inl (by omega)))
        have HEF := Lib.hid (fun W (h : Below v4.heap.size v4 W) => st_EqualFunc RA LA (runM c ds N0) rk lk (upto (states c ds) (runM c ds N0)) W (hR4.below h) (hL4.below h) (runM_bd c ds N0) (runM_st c ds N0))
        rw [show sameS (startO c) (startO c) = true by simp [sameS]] at HSM1
        rw [show sameS (nextO c ds s step) (nextO c ds s step) = true by simp [sameS]] at HSM2
        have HC4 := Lib.hid (fun W (h : Below v4.heap.size v4 W) => (⟨(E1.below h E1.lt).two.1, (E2.below h E2.lt).two.1, (B0.below h B0.lt).two.1, (B1.below h B1.lt).two.1, (B2.below h B2.lt).rec5.1⟩ :
          (W.cell? ⟨v1.heap.size, 0, none⟩ = some (.slice P1 m1 q1) ∧ W.cell? ⟨v1.heap.size, 1, none⟩ = some (.slice P2 m2 q2)) ∧ (W.cell? ⟨v2.heap.size, 0, none⟩ = some (.slice R1 m3 q3) ∧ W.cell? ⟨v2.heap.size, 1, none⟩ = some (.slice R2 m4 q4)) ∧
          (W.cell? ⟨m, 0, none⟩ = some (.slice a1 (startO c).1.length g1) ∧ W.cell? ⟨m, 1, none⟩ = some (.slice a2 (startO c).2.length g2)) ∧ (W.cell? ⟨m + 1, 0, none⟩ = some (.slice a3 (nextO c ds s step).1.length g3) ∧ W.cell? ⟨m + 1, 1, none⟩ = some (.slice a4 (nextO c ds s step).2.length g4)) ∧
          (W.cell? ⟨m + 2, 0, none⟩ = some y0 ∧ W.cell? ⟨m + 2, 1, none⟩ = some (.slice a5 (batO c ds s step).length g5) ∧ W.cell? ⟨m + 2, 2, none⟩ = some (.int .i64 (raO c ds s step)) ∧ W.cell? ⟨m + 2, 3, none⟩ = some y3 ∧ W.cell? ⟨m + 2, 4, none⟩ = some y4)))
        have hw4 := b0.trans ((bel_trans hxA2 h24).mono b0.size)
        clear d0 d1 d2 d3 d4 d5 d6 d7 d8 d9 da e0 e1
        clear o1 o2 o3 o4 o5 w1 w2 w3 w4 w5 B0 B1 B2 E1 E2 K1 K2 KE D1 D12 D2 D1A J1 J1A J12 J1B J2 J2A JE JEA hR hR4 hL hL4 T0 T1 T2
        obtain ⟨⟨c0, c1⟩, ⟨c2, c3⟩, ⟨c4, c5⟩, ⟨c6, c7⟩, ⟨c8, c9, ca, cb, cc⟩⟩ := HC4.out v4 (Below.refl _ _)
        go_wp2_with fail
        refine (HSM1.out v4 (Below.refl _ _)).mono ?_
        rintro e v5 ⟨rfl, hc5⟩
        clear c0 c1 c2 c3 c4 c5 c6 c7 c8 c9 ca cb cc
        obtain ⟨⟨c0, c1⟩, ⟨c2, c3⟩, ⟨c4, c5⟩, ⟨c6, c7⟩, ⟨c8, c9, ca, cb, cc⟩⟩ := HC4.out v5 hc5
        go_wp2_with fail
        refine (HSM2.out v5 hc5).mono ?_
        rintro e v6 ⟨rfl, hc6⟩
        have h46 : Below v4.heap.size v4 v6 := bel_trans hc5 hc6
        clear c0 c1 c2 c3 c4 c5 c6 c7 c8 c9 ca cb cc
        obtain ⟨⟨c0, c1⟩, ⟨c2, c3⟩, ⟨c4, c5⟩, ⟨c6, c7⟩, ⟨c8, c9, ca, cb, cc⟩⟩ := HC4.out v6 h46
        go_wp2_with fail
        refine (HEQ.out v6 h46).mono ?_
        rintro e v7 ⟨rfl, qq, rfl⟩
        have h47 : Below v4.heap.size v4 (v6.drewN qq) := bel_drewN h46 qq
        clear c0 c1 c2 c3 c4 c5 c6 c7 c8 c9 ca cb cc
        obtain ⟨⟨c0, c1⟩, ⟨c2, c3⟩, ⟨c4, c5⟩, ⟨c6, c7⟩, ⟨c8, c9, ca, cb, cc⟩⟩ := HC4.out (v6.drewN qq) h47
        go_wp2_with fail
        refine (HEF.out (v6.drewN qq) h47).mono ?_
        rintro e v8 ⟨rfl, hc8⟩
        have h48 : Below v4.heap.size v4 v8 := bel_trans h47 hc8
        go_wp2
        go_ret
        exact ⟨by simp, hw4.trans (h48.mono hw4.size)⟩

set_option maxRecDepth 100000 in
theorem trainSays_lifted (os : Os) (started : os.Started) (H : Type) (enc : TypeId × Value → H) :
    ReturnsInHanded {} Tryz.checked os 3 .any (Rows.trainSaysSpec.pre6 enc Tryz.prog Tryz.f3 Rows.trainSaysRow.domain false) (Rows.trainSaysSpec.post enc Tryz.prog Tryz.f3 false true false false) := by
  refine lift_law (fn := Tryz.f3) started (by kernel_rfl) Tryz.func3
    (ChangeSpec.witness6 (enc := enc) (C := Tryz.checked) false ⟨#[], #[.agg #[.int .i64 0, .int .i64 0, .int .i64 0, .int .u64 0, .int .i64 0, .int .i64 0, .int .i64 0, .int .i64 0, .int .i64 0, .int .i64 0, .int .i64 0], .slice none 0 0, .agg #[.slice none 0 0, .slice none 0 0], .int .i64 0, .int .i64 0], []⟩ 8 (by kernel_rfl) (by kernel_rfl) (by kernel_rfl) (by kernel_rfl)) (by kernel_rfl) rfl Tryz.underlying4 rfl ?_ ?_
  · intro ds h
    rw [Tryz.params3] at h
    match ds, h with
    | [d0, d1, d2, d3, d4], _ => rfl
  · intro W args ds ps hA hlt hval hsz
    rw [Tryz.params3] at hA hval hsz
    obtain ⟨v0, vs0, d0, ds0, p0, q0, hargs, rfl, rfl, H0, T0⟩ := trodAll_cons hA
    obtain ⟨v1, vs1, d1, ds1, p1, q1, rfl, rfl, rfl, H1, T1⟩ := trodAll_cons T0
    obtain ⟨v2, vs2, d2, ds2, p2, q2, rfl, rfl, rfl, H2, T2⟩ := trodAll_cons T1
    obtain ⟨v3, vs3, d3, ds3, p3, q3, rfl, rfl, rfl, H3, T3⟩ := trodAll_cons T2
    obtain ⟨v4, vs4, d4, ds4, p4, q4, rfl, rfl, rfl, H4, T4⟩ := trodAll_cons T3
    obtain ⟨rfl, rfl, rfl⟩ := trodAll_nil T4
    obtain rfl : args = #[v0, v1, v2, v3, v4] := by cases args; simp_all
    obtain ⟨b0, hv0⟩ := hval 0 24 v0 rfl rfl
    obtain ⟨b1, hv1⟩ := hval 1 25 v1 rfl rfl
    obtain ⟨b2, hv2⟩ := hval 2 28 v2 rfl rfl
    obtain ⟨b3, hv3⟩ := hval 3 3 v3 rfl rfl
    obtain ⟨b4, hv4⟩ := hval 4 3 v4 rfl rfl
    obtain ⟨c, rfl, cw⟩ := arg_cfg hv0 H0
    obtain ⟨D, n, dc, ds, rfl, hd, hn⟩ := arg_data (j := 1) (fun _ => rfl) hv1 H1 hsz rfl rfl
    obtain ⟨A1, n1, k1, wt, A2, n2, k2, mv, rfl, ⟨i1, l1, m1, _⟩, ⟨i2, l2, m2, _⟩⟩ := arg_state (fun _ => rfl) hv2 H2
    obtain ⟨n0, rfl, _⟩ := arg_int hv3 H3
    obtain ⟨N0, rfl, _⟩ := arg_int hv4 H4
    have hs := wf_u64 cw.2.2.2.1
    exact trainSays_walk c hs.1 (by omega) D n dc ds W hd hn (wt, mv) A1 A2 n1 n2 k1 k2 i1 i2 (by unfold maxLen at *; omega) (by unfold maxLen at *; omega) l1 n0 N0
theorem TrainSays_holds : Rows.TrainSaysSaid :=
  OpenClaim.holds_of_wide 3 Tryz.f3 rfl rfl rfl rfl rfl rfl rfl ⟨rfl, rfl, rfl, rfl, rfl⟩ rfl rfl rfl rfl rfl (by kernel_rfl) Tryz.func3 (by kernel_rfl)
    (of_decide_eq_true (by kernel_rfl)) (by unfold Func.isWrapper; first | (rw [if_pos (by decide +kernel)]; kernel_rfl) | (rw [if_neg (by decide +kernel)]; exact ⟨rfl, rfl⟩))
    (fun os started H enc _ => trainSays_lifted os started H enc)

end Go.Proofs.YtcfmjpcbiomdbaaGreat
