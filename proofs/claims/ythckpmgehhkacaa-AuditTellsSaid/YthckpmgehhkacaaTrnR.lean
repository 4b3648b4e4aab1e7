/- Package train: Run: a walk. -/
import Derived.Test.YthckpmgehhkacaaTrnQ
namespace Go.Proofs.Ythckpmgehhkacaa
open Go.RowKit Pl

set_option maxRecDepth 100000 in
set_option maxHeartbeats 2000000 in
theorem trn_Run_ok (c : Cfg) (ds : Data) (hC : crs c ds = 0) (s0 : 0 ≤ c.seed) (s1 : c.seed < 18446744073709551616) (D : Option Addr) (n dc : Nat) (w : World) (hd : Duos w D n ds) (N : Nat) (hN : (N : Int) ≤ c.steps) :
    Calls Try.prog 35 #[.agg #[.int .i64 c.ci, .int .i64 c.ch, .int .i64 c.co, .int .u64 c.seed, .int .i64 c.batch, .int .i64 c.steps, .int .i64 c.rate, .int .i64 c.decay, .int .i64 c.how, .int .i64 c.keep, .int .i64 c.clip], .slice D n dc, .int .i64 N] w fun e w' => ∃ g k, e = .returned (.tuple #[.slice (some ⟨g, 0, none⟩) (N + 1) k, .int .i64 0]) ∧ StHeld none w.heap.size (states c ds) (N + 1) (.slice (some ⟨g, 0, none⟩) (N + 1) k) w' ∧ Below w.heap.size w w' := by
  obtain ⟨i0, hi0, hz0, hz1, hz2⟩ := info_parts state_info
  have hf := fine hC
  have hst := hf.ok.st
  have n40 := hf.ok.n40
  have hn : n ≤ 9223372036854775806 := by have := hf.d16; have := hd.len; omega
  have HCK := Lib.hid (fun W (h : Below w.heap.size w W) => trn_Check c D n dc ds W (hd.below h) hn)
  have HNX := Lib.hid (fun W (h : Below w.heap.size w W) (k : Nat) (hk : (k : Int) < c.steps) A1 A2 k1 k2 i1 i2 hk1 => trn_next c ds hf s0 s1 D n dc W (hd.below h) (states c ds k) (fits_states c ds k) A1 A2 k1 k2 i1 i2 hk1 k hk)
  have HSR := Lib.hid (fun W => start_fine c hf.e s0 s1 W)
  have HL1 := Lib.hid (states_len1 c ds)
  have HL2 := Lib.hid (states_len2 c ds)
  have HSU := Lib.hid (states_succ c ds)
  have HZ := Lib.hid (states_zero c ds)
  have HB0 := Blk.made w 54 #[.int .i64 c.ci, .int .i64 c.ch, .int .i64 c.co, .int .u64 c.seed, .int .i64 c.batch, .int .i64 c.steps, .int .i64 c.rate, .int .i64 c.decay, .int .i64 c.how, .int .i64 c.keep, .int .i64 c.clip]
  have C0 := Lib.hid hC
  have hN1 : ¬ c.steps < (N : Int) := by omega
  clear hC hf hd hn
  obtain ⟨st, hst'⟩ : ∃ st, st = states c ds := ⟨_, rfl⟩
  rw [← hst'] at HNX HL1 HL2 HSU HZ ⊢
  clear hst'
  obtain ⟨nx, hnx⟩ : ∃ nx, nx = fun k => nextS c ds (st k) k := ⟨_, rfl⟩
  have HNE := Lib.hid (fun k => show nextS c ds (st k) k = nx k from by rw [hnx])
  clear hnx
  have HSK := Lib.hid (fun k => show st (k + 1) = nx k from (HSU.out k).trans (HNE.out k))
  obtain ⟨sa, hsa⟩ : ∃ sa, sa = start c := ⟨_, rfl⟩
  rw [← hsa] at HSR HZ
  clear hsa
  go_enter Try.func35, Try.ntmps35
  go_wp2_with fail
  refine (HCK.out _ ((Below.refl _ _).alloc (Nat.le_refl _) _)).mono ?_
  rintro e x1 ⟨rfl, hb1⟩
  rw [C0.out]
  have hbw : Below w.heap.size w x1 := Below.trans (B := w.heap.size) (by repeat (first | exact Below.refl _ _ | assumption | refine bel_drewN ?_ _ | refine Below.drew ?_ | (refine Below.alloc ?_ (by simp <;> omega) _) | (refine Below.setCell ?_ (by simp <;> omega) _))) (hb1.mono (by simp))
  replace HB0 := HB0.below hb1 (by simp)
  have hlw : w.heap.size < x1.heap.size := HB0.lt
  clear hb1 HCK
  obtain ⟨d0, d1, d2, d3, d4, d5, d6, d7, d8, d9, da⟩ := HB0.cfg
  go_wp2_with fail
  refine (HSR.out _).mono ?_
  rintro e x2 ⟨A1, k1, A2, k2, rfl, O1, O2, hb2⟩
  rw [← HZ.out] at O1 O2
  have hs2 := hb2.size
  have l1 := own_capT O1
  have hbw2 := hbw.trans (hb2.mono hbw.size)
  replace HB0 := HB0.below hb2 hlw
  have V1 : ListV (some x2.heap.size) x2 (some (x2.heap.size + 1)) (.slice A1 c.N k1) (st 0).1 := ListV.own O1 (HL1.out 0) (fun b h1 h2 => ⟨by simp; omega, by simp; omega⟩)
  have V2 : ListV (some x2.heap.size) x2 (some (x2.heap.size + 1)) (.slice A2 c.N k2) (st 0).2 := ListV.own O2 (HL2.out 0) (fun b h1 h2 => ⟨by simp; omega, by simp; omega⟩)
  have bA : Below x2.heap.size x2 (x2.alloc (.cells #[.slice A1 c.N k1, .slice A2 c.N k2] 35)) := (Below.refl _ _).alloc (Nat.le_refl _) _
  have hH0 : StHeld (some x2.heap.size) (x2.heap.size + 1) st 1 (.slice (some ⟨x2.heap.size + 1, 0, none⟩) 1 1) ((x2.alloc (.cells #[.slice A1 c.N k1, .slice A2 c.N k2] 35)).alloc (.cells #[.slice A1 c.N k1, .slice A2 c.N k2] 35)) := by
    have h := Held.one (e := 35) (sz := 2) (B := x2.heap.size + 1) (f := st) (w := x2.alloc (.cells #[.slice A1 c.N k1, .slice A2 c.N k2] 35)) (cs := #[.slice A1 c.N k1, .slice A2 c.N k2]) (keeps_st (some x2.heap.size)) (by simp) rfl (by
      refine ⟨_, _, rfl, ?_, ?_⟩
      · simpa using V1.below bA
      · simpa using V2.below bA)
    simpa using h
  have HM0 : Blk ((x2.alloc (.cells #[.slice A1 c.N k1, .slice A2 c.N k2] 35)).alloc (.cells #[.slice A1 c.N k1, .slice A2 c.N k2] 35)) x2.heap.size 35 #[.slice A1 c.N k1, .slice A2 c.N k2] := (Blk.made _ _ _).alloc _
  have b0 : Below x2.heap.size x2 ((x2.alloc (.cells #[.slice A1 c.N k1, .slice A2 c.N k2] 35)).alloc (.cells #[.slice A1 c.N k1, .slice A2 c.N k2] 35)) := (by repeat (first | exact Below.refl _ _ | assumption | refine bel_drewN ?_ _ | refine Below.drew ?_ | (refine Below.alloc ?_ (by simp <;> omega) _) | (refine Below.setCell ?_ (by simp <;> omega) _)))
  obtain ⟨W0, hW0⟩ : ∃ W0, W0 = ((x2.alloc (.cells #[.slice A1 c.N k1, .slice A2 c.N k2] 35)).alloc (.cells #[.slice A1 c.N k1, .slice A2 c.N k2] 35)) := ⟨_, rfl⟩
  rw [← hW0] at hH0 HM0 b0
  have I1 := (V1.ints.1).below b0
  have I2 := (V2.ints.1).below b0
  obtain ⟨m, hm⟩ : ∃ m, m = x2.heap.size := ⟨_, rfl⟩
  have hmw : w.heap.size < m := by omega
  have hB0 := HB0.below b0 HB0.lt
  have hbw0 := hbw2.trans (b0.mono hbw2.size)
  have HW0 := Lib.hid hW0
  rw [← hm] at hH0 HM0 b0
  have HM := Lib.hid hm
  have hmz := HM0.lt
  clear hW0 hm V1 V2 bA O1 O2 HB0 hbw hbw2 hb2 hs2 hlw d0 d1 d2 d3 d4 d5 d6 d7 d8 d9 da b0
  go_wp2
  rw [← HW0.out, ← HM.out]
  go_loopw [11, 12, 35] (fun o _ j wr => ∃ (k : Nat) (A1 : Option Addr) (k1 : Nat) (A2 : Option Addr) (k2 : Nat), k ≤ N ∧ j = .int .i64 k ∧ StHeld (some m) (m + 1) st (k + 1) o wr ∧ Blk wr m 35 #[.slice A1 c.N k1, .slice A2 c.N k2] ∧
    Ints .i64 wr A1 c.N (st k).1 ∧ Ints .i64 wr A2 c.N (st k).2 ∧ c.N ≤ k1 ∧ Below m W0 wr) (fun _ _ j _ => N - (intOf j).toNat)
  case atStart => exact ⟨0, A1, k1, A2, k2, by omega, rfl, hH0, HM0, I1, I2, l1, Below.refl _ _⟩
  case round =>
    clear hH0 HM0 I1 I2 l1
    obtain ⟨k, A1, k1, A2, k2, hk, rfl, hH, hM, I1, I2, l1, hb⟩ := hrel
    have hbx := hbw0.trans (hb.mono (by omega))
    have hBc := hB0.below hb (by omega)
    by_cases hlt : k < N
    · obtain ⟨d0, d1, d2, d3, d4, d5, d6, d7, d8, d9, da⟩ := hBc.cfg
      obtain ⟨⟨p0, p1⟩, _⟩ := hM.two
      have hbs := hb.size
      go_wp2_with fail
      refine (HNX.out _ hbx k (by omega) A1 A2 k1 k2 I1 I2 l1).mono ?_
      rintro e u1 ⟨B1, q1, B2, q2, E, ec, rfl, O1, O2, O3, hb1⟩
      rw [HNE.out] at O1 O2
      rw [← HSK.out k] at O1 O2
      have hlm := hM.lt
      have hs1 := hb1.size
      have q1l := own_capT O1
      have hHlt := hH.lt
      have X1 : ListV (some m) u1 u11.ownBlock (.slice B1 c.N q1) (st (k + 1)).1 := ListV.own O1 (HL1.out _) (fun b h1 h2 => ⟨by simp; omega, fun e => by have := hHlt b e; omega⟩)
      have X2 : ListV (some m) u1 u11.ownBlock (.slice B2 c.N q2) (st (k + 1)).2 := ListV.own O2 (HL2.out _) (fun b h1 h2 => ⟨by simp; omega, fun e => by have := hHlt b e; omega⟩)
      have hM1 := hM.below hb1 hlm
      have r0 : u1.cell? ⟨m, 0, none⟩ = some (.slice A1 c.N k1) := hM1.cell 0
      have r1 : u1.cell? ⟨m, 1, none⟩ = some (.slice A2 c.N k2) := hM1.cell 1
      have r2 := hM1.frozen 0
      have r3 := hM1.frozen 1
      have hlm1 := hM1.lt
      have hBu : But m u1 ((u1.setCell ⟨m, 0, none⟩ (.slice B1 c.N q1)).setCell ⟨m, 1, none⟩ (.slice B2 c.N q2)) := ((But.refl m u1).put 0 _).put 1 _
      have bAl : Below ((u1.setCell ⟨m, 0, none⟩ (.slice B1 c.N q1)).setCell ⟨m, 1, none⟩ (.slice B2 c.N q2)).heap.size ((u1.setCell ⟨m, 0, none⟩ (.slice B1 c.N q1)).setCell ⟨m, 1, none⟩ (.slice B2 c.N q2)) (((u1.setCell ⟨m, 0, none⟩ (.slice B1 c.N q1)).setCell ⟨m, 1, none⟩ (.slice B2 c.N q2)).alloc (.cells #[.slice B1 c.N q1, .slice B2 c.N q2] 35)) := (Below.refl _ _).alloc (Nat.le_refl _) _
      have hHX := ((hH.below (keeps_st _) hb1).but (fun h => h.but hBu) hBu (by omega)).below (keeps_st _) bAl
      have X1X := (X1.but hBu).below bAl
      have X2X := (X2.but hBu).below bAl
      have hMX := ((hM1.put 0 (.slice B1 c.N q1)).put 1 (.slice B2 c.N q2)).alloc (.cells #[.slice B1 c.N q1, .slice B2 c.N q2] 35)
      have hNB : Blk (((u1.setCell ⟨m, 0, none⟩ (.slice B1 c.N q1)).setCell ⟨m, 1, none⟩ (.slice B2 c.N q2)).alloc (.cells #[.slice B1 c.N q1, .slice B2 c.N q2] 35)) u1.heap.size 35 #[.slice B1 c.N q1, .slice B2 c.N q2] := Blk.made' _ _ _ (by simp)
      have hsX : (((u1.setCell ⟨m, 0, none⟩ (.slice B1 c.N q1)).setCell ⟨m, 1, none⟩ (.slice B2 c.N q2)).alloc (.cells #[.slice B1 c.N q1, .slice B2 c.N q2] 35)).heap.size = u1.heap.size + 1 := by simp
      have hBX : Below m W0 (((u1.setCell ⟨m, 0, none⟩ (.slice B1 c.N q1)).setCell ⟨m, 1, none⟩ (.slice B2 c.N q2)).alloc (.cells #[.slice B1 c.N q1, .slice B2 c.N q2] 35)) := (((hb.trans (hb1.mono (by omega))).setCell (p := ⟨m, 0, none⟩) (Nat.le_refl _) _).setCell (p := ⟨m, 1, none⟩) (Nat.le_refl _) _).alloc (by simp; omega) _
      obtain ⟨vs, hoV, hpV⟩ := hHX
      have hvl := hoV.1
      clear X1 X2 hM1 hBu bAl O1 O2 O3 I1 I2 hH hM
      go_wp2_with (at_builtin; refine wpList_append_lies _ rfl _ _ 57 rfl (m + 1) 35 i0 (.agg #[.slice none 0 0, .slice none 0 0]) 2 48 Try.underlying57 hi0 hz0 hz1 hz2 rfl (by decide) u11 (k + 1) vs rfl hoV ⟨u1.heap.size, 0, none⟩ 1 1 [.slice B1 c.N q1, .slice B2 c.N q2] rfl rfl (World.news_of_block (cs := #[.slice B1 c.N q1, .slice B2 c.N q2]) hNB) (by simp [Value.oneCell']) (by omega) (by unfold maxLen; omega) (by omega) (by simp <;> omega) (u1.heap.size + 1) (by simp) ?_; intro g1 cap1 w1 hown1 hgrow hgg hlt1)
      have hgg' : u11.ownBlock = some g1 ∨ (((u1.setCell ⟨m, 0, none⟩ (.slice B1 c.N q1)).setCell ⟨m, 1, none⟩ (.slice B2 c.N q2)).alloc (.cells #[.slice B1 c.N q1, .slice B2 c.N q2] 35)).heap.size ≤ g1 := hgg.imp id (fun h => by rw [hsX]; omega)
      have hH2 := Held.push (keeps_st (some m)) hown1 hvl rfl hpV ⟨_, _, rfl, X1X, X2X⟩ hgrow hgg'
      have hM2 := hMX.grown hgrow (fun e => by have := hHlt m e.symm; omega)
      have J1 := (X1X.turn hgrow hgg').ints.1
      have J2 := (X2X.turn hgrow hgg').ints.1
      have hB2 := Below.grown hBX hgrow (by rw [hsX]; omega) (fun x hx => by have := hHlt x hx; omega)
      clear hown1 hgrow hgg hgg' X1X X2X hpV hoV hMX hNB hBX
      go_roundw
      case rel => exact ⟨k + 1, B1, q1, B2, q2, by omega, by go_num, hH2, hM2, J1, J2, q1l, hB2⟩
      case measure => simp [intOf]; omega
    · obtain rfl : k = N := by omega
      obtain ⟨g, c', hv, _⟩ := hH.form (by omega)
      subst hv
      go_wp2
      go_ret2
      exact ⟨g, c', rfl, (hH.imp StK.drop).base (by omega), hbx⟩
end Go.Proofs.Ythckpmgehhkacaa
