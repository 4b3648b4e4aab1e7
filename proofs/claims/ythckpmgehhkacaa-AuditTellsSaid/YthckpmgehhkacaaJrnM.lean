/- Package journal: Make: a walk. -/
import Derived.Test.YthckpmgehhkacaaJrnH
namespace Go.Proofs.Ythckpmgehhkacaa
open Go.RowKit Pl

theorem rec_info : (Try.prog.info? 69).map (fun i => (i.zero, i.size, i.bytes)) = some (some (.agg #[.int .i64 0, .slice none 0 0, .int .i64 0, .int .u64 0, .int .u64 0]), 5, 56) := by kernel_rfl
theorem chainC_bd (c : Cfg) (ds : Data) : ∀ k, 0 ≤ chainC c ds k ∧ chainC c ds k < 18446744073709551616
  | 0 => by
    have h1 := ofI_lo 5 (headW c ds)
    have h2 := ofI_hi 5 (headW c ds)
    show 0 ≤ ofI 5 (headW c ds) ∧ ofI 5 (headW c ds) < _
    omega
  | k + 1 => by
    have h1 := ofI_lo 6 (chW (chainC c ds k) (recB c ds k))
    have h2 := ofI_hi 6 (chW (chainC c ds k) (recB c ds k))
    show 0 ≤ ofI 6 (chW (chainC c ds k) (recB c ds k)) ∧ ofI 6 (chW (chainC c ds k) (recB c ds k)) < _
    omega
theorem chain_fine (c : Cfg) (ds : Data) (hf : Fine c ds) (k : Nat) (hk : (k : Int) < c.steps) (A : Option Addr) (ec : Nat) (W : World) (q : Ints .i64 W A c.batch.toNat ((batI c ds k).map fun (n : Nat) => (n : Int))) :
    Calls Try.prog 90 #[.int .u64 (chainC c ds k), .agg #[.int .i64 k, .slice A c.batch.toNat ec, .int .i64 (ratI c k), .int .u64 (rootS (states c ds (k + 1))), .int .u64 0]] W fun e w' => e = .returned (.tuple #[.int .u64 (chainC c ds (k + 1)), .int .i64 0]) ∧ Below W.heap.size W w' := by
  have hr := ratI_bd c hf.ok k hk
  have hst := hf.ok.st
  have hb := chainC_bd c ds k
  have ht := rootO_u64 ((states c ds (k + 1)).1 ++ (states c ds (k + 1)).2)
  exact jrn_Chain_ok (chainC c ds k) (recB c ds k) A _ ec W q (chE_recB hf hk) hb.1 hb.2 (by show (k : Int) < _; omega) (by show ratI c k < _; omega) ht.1 ht.2 (fun z hz => by
    obtain ⟨n, hn, rfl⟩ := List.mem_map.1 hz
    have := batI_lt c ds hf.d1 k n hn
    have := hf.d16
    omega)
theorem recC_K {m : Option Nat} {w : World} {o : Option Nat} {b : Value} (c : Cfg) (ds : Data) (k : Nat) (h : ListV m w o b ((batI c ds k).map fun (n : Nat) => (n : Int))) :
    RecK m w o [.int .i64 k, b, .int .i64 (ratI c k), .int .u64 (rootS (states c ds (k + 1))), .int .u64 (chainC c ds (k + 1))] (recC c ds k) := ⟨b, rfl, h⟩
theorem But.far {g : Nat} {a b : World} (h : But g a b) {p : Addr} (hp : a.heap.size ≤ p.block) (v : Value) : But g a (b.setCell p v) :=
  ⟨h.os, h.tape, h.output, by have := h.size; simpa using this, fun k hk hn => (heap_setCell_other b p k v (by omega)).trans (h.block k hk hn)⟩
theorem Blk.rec5 {w : World} {g : Nat} {t : TypeId} {a0 a1 a2 a3 a4 : Value} (h : Blk w g t #[a0, a1, a2, a3, a4]) : (w.cell? ⟨g, 0, none⟩ = some a0 ∧ w.cell? ⟨g, 1, none⟩ = some a1 ∧ w.cell? ⟨g, 2, none⟩ = some a2 ∧ w.cell? ⟨g, 3, none⟩ = some a3 ∧ w.cell? ⟨g, 4, none⟩ = some a4) ∧
    w.frozen? ⟨g, 0, none⟩ = false ∧ w.frozen? ⟨g, 1, none⟩ = false ∧ w.frozen? ⟨g, 2, none⟩ = false ∧ w.frozen? ⟨g, 3, none⟩ = false ∧ w.frozen? ⟨g, 4, none⟩ = false :=
  ⟨⟨h.cell 0, h.cell 1, h.cell 2, h.cell 3, h.cell 4⟩, h.frozen 0, h.frozen 1, h.frozen 2, h.frozen 3, h.frozen 4⟩

set_option maxRecDepth 100000 in
set_option maxHeartbeats 2000000 in
theorem jrn_Make_crs (c : Cfg) (ds : Data) (D : Option Addr) (n dc : Nat) (w : World) (hd : Duos w D n ds) (hn : n ≤ 9223372036854775806) (N : Int) (hC : crs c ds ≠ 0) :
    Calls Try.prog 38 #[.agg #[.int .i64 c.ci, .int .i64 c.ch, .int .i64 c.co, .int .u64 c.seed, .int .i64 c.batch, .int .i64 c.steps, .int .i64 c.rate, .int .i64 c.decay, .int .i64 c.how, .int .i64 c.keep, .int .i64 c.clip], .slice D n dc, .int .i64 N] w fun e w' => e = .returned (.tuple #[.slice none 0 0, .int .i64 (crs c ds)]) ∧ Below w.heap.size w w' := by
  have HCK := Lib.hid (fun W (h : Below w.heap.size w W) => jrn_Head_no c ds D n dc W (hd.below h) hn hC)
  have t : (crs c ds != 0) = true := by rw [bne_iff_ne]; exact hC
  clear hC
  go_enter Try.func38, Try.ntmps38
  go_wp2_with fail
  refine (HCK.out _ ((Below.refl _ _).alloc (Nat.le_refl _) _)).mono ?_
  rintro e x1 ⟨rfl, hb1⟩
  have hbw : Below w.heap.size w x1 := Below.trans (B := w.heap.size) (by repeat (first | exact Below.refl _ _ | assumption | refine bel_drewN ?_ _ | refine Below.drew ?_ | (refine Below.alloc ?_ (by simp <;> omega) _) | (refine Below.setCell ?_ (by simp <;> omega) _))) (hb1.mono (by simp))
  go_wp2
  go_ret2
  exact ⟨rfl, hbw⟩

set_option maxRecDepth 100000 in
set_option maxHeartbeats 3000000 in
theorem jrn_Make_ok (c : Cfg) (ds : Data) (hC : crs c ds = 0) (s0 : 0 ≤ c.seed) (s1 : c.seed < 18446744073709551616) (D : Option Addr) (n dc : Nat) (w : World) (hd : Duos w D n ds) (N : Nat) (hN : (N : Int) ≤ c.steps) :
    Calls Try.prog 38 #[.agg #[.int .i64 c.ci, .int .i64 c.ch, .int .i64 c.co, .int .u64 c.seed, .int .i64 c.batch, .int .i64 c.steps, .int .i64 c.rate, .int .i64 c.decay, .int .i64 c.how, .int .i64 c.keep, .int .i64 c.clip], .slice D n dc, .int .i64 N] w fun e w' => ∃ A k, e = .returned (.tuple #[.slice A N k, .int .i64 0]) ∧ RecHeld none w.heap.size (recC c ds) N (.slice A N k) w' ∧ Below w.heap.size w w' := by
  obtain ⟨i0, hi0, hz0, hz1, hz2⟩ := info_parts rec_info
  have hf := fine hC
  have hst := hf.ok.st
  have hn : n ≤ 9223372036854775806 := by have := hf.d16; have := hd.len; omega
  have HCK := Lib.hid (fun W (h : Below w.heap.size w W) => jrn_Head_ok c ds hC s0 s1 D n dc W (hd.below h))
  have HNX := Lib.hid (fun W (h : Below w.heap.size w W) (k : Nat) (hk : (k : Int) < c.steps) A1 A2 k1 k2 i1 i2 hk1 => trn_Next_ok c ds hC s0 s1 D n dc W (hd.below h) (states c ds k) (fits_states c ds k) A1 A2 k1 k2 i1 i2 hk1 k hk)
  have HSR := Lib.hid (fun W => start_fine c hf.e s0 s1 W)
  have HRT := Lib.hid (fun (k : Nat) A1 A2 k1 k2 W => root_fine c hf.ok (states c ds (k + 1)) A1 A2 k1 k2 W)
  have HCH := Lib.hid (fun (k : Nat) (hk : (k : Int) < c.steps) A ec W => chain_fine c ds hf k hk A ec W)
  have HRK := Lib.hid (fun (m : Option Nat) (w : World) (o : Option Nat) (b : Value) (k : Nat) (h : ListV m w o b ((batI c ds k).map fun (n : Nat) => (n : Int))) => recC_K c ds k h)
  have HL1 := Lib.hid (states_len1 c ds)
  have HL2 := Lib.hid (states_len2 c ds)
  have HLB := Lib.hid (fun k => show ((batI c ds k).map fun (n : Nat) => (n : Int)).length = c.batch.toNat by rw [List.length_map, batI_length])
  have HSU := Lib.hid (states_succ c ds)
  have HZ := Lib.hid (states_zero c ds)
  have HH := Lib.hid (show chainC c ds 0 = headI c ds from rfl)
  have HB0 := Blk.made w 54 #[.int .i64 c.ci, .int .i64 c.ch, .int .i64 c.co, .int .u64 c.seed, .int .i64 c.batch, .int .i64 c.steps, .int .i64 c.rate, .int .i64 c.decay, .int .i64 c.how, .int .i64 c.keep, .int .i64 c.clip]
  have hN1 : ¬ c.steps < (N : Int) := by omega
  clear hC hf hd hn
  obtain ⟨st, hst'⟩ : ∃ st, st = states c ds := ⟨_, rfl⟩
  rw [← hst'] at HNX HL1 HL2 HSU HZ HRT HCH HRK
  clear hst'
  obtain ⟨nx, hnx⟩ : ∃ nx, nx = fun k => nextS c ds (st k) k := ⟨_, rfl⟩
  have HNE := Lib.hid (fun k => show nextS c ds (st k) k = nx k from by rw [hnx])
  clear hnx
  have HSK := Lib.hid (fun k => show st (k + 1) = nx k from (HSU.out k).trans (HNE.out k))
  obtain ⟨sa, hsa⟩ : ∃ sa, sa = start c := ⟨_, rfl⟩
  rw [← hsa] at HSR HZ
  clear hsa
  obtain ⟨ch, hch⟩ : ∃ ch, ch = chainC c ds := ⟨_, rfl⟩
  rw [← hch] at HCH HRK HH
  clear hch
  obtain ⟨bt, hbt⟩ : ∃ bt, bt = fun k => (batI c ds k).map fun (n : Nat) => (n : Int) := ⟨_, rfl⟩
  have HBT := Lib.hid (fun k => show ((batI c ds k).map fun (n : Nat) => (n : Int)) = bt k from by rw [hbt])
  have HLB' := Lib.hid (fun k => show (bt k).length = c.batch.toNat by rw [hbt]; exact HLB.out k)
  clear hbt
  obtain ⟨rc, hrc⟩ : ∃ rc, rc = recC c ds := ⟨_, rfl⟩
  rw [← hrc] at HRK ⊢
  clear hrc
  go_enter Try.func38, Try.ntmps38
  go_wp2_with fail
  refine (HCK.out _ ((Below.refl _ _).alloc (Nat.le_refl _) _)).mono ?_
  rintro e x1 ⟨rfl, hb1⟩
  rw [← HH.out]
  have hbw : Below w.heap.size w x1 := Below.trans (B := w.heap.size) (by repeat (first | exact Below.refl _ _ | assumption | refine bel_drewN ?_ _ | refine Below.drew ?_ | (refine Below.alloc ?_ (by simp <;> omega) _) | (refine Below.setCell ?_ (by simp <;> omega) _))) (hb1.mono (by simp))
  replace HB0 := HB0.below hb1 (by simp)
  have hlw : w.heap.size < x1.heap.size := HB0.lt
  clear hb1 HCK
  obtain ⟨d0, d1, d2, d3, d4, d5, d6, d7, d8, d9, da⟩ := HB0.cfg
  go_wp2_with fail
  refine (HSR.out _).mono ?_
  rintro e x2 ⟨A1, k1, A2, k2, rfl, O1, O2, hb2⟩
  rw [← HZ.out] at O1 O2
  have hs2 := hb2.size
  have l1 := own_capT O1
  have hbw2 := hbw.trans (hb2.mono hbw.size)
  replace HB0 := HB0.below hb2 hlw
  have bA : Below x2.heap.size x2 (x2.alloc (.cells #[.slice A1 c.N k1, .slice A2 c.N k2] 35)) := (Below.refl _ _).alloc (Nat.le_refl _) _
  have HM0 : Blk (x2.alloc (.cells #[.slice A1 c.N k1, .slice A2 c.N k2] 35)) x2.heap.size 35 #[.slice A1 c.N k1, .slice A2 c.N k2] := Blk.made _ _ _
  have I1 := (Ints.of_own O1 (HL1.out 0)).below bA
  have I2 := (Ints.of_own O2 (HL2.out 0)).below bA
  obtain ⟨W0, hW0⟩ : ∃ W0, W0 = (x2.alloc (.cells #[.slice A1 c.N k1, .slice A2 c.N k2] 35)) := ⟨_, rfl⟩
  rw [← hW0] at HM0 bA I1 I2
  obtain ⟨m, hm⟩ : ∃ m, m = x2.heap.size := ⟨_, rfl⟩
  have hmw : w.heap.size < m := by omega
  have hB0 := HB0.below bA HB0.lt
  have hbw0 := hbw2.trans (bA.mono hbw2.size)
  have HW0 := Lib.hid hW0
  rw [← hm] at HM0
  have HM := Lib.hid hm
  have hmz := HM0.lt
  clear hW0 hm bA O1 O2 HB0 hbw hbw2 hb2 hs2 hlw d0 d1 d2 d3 d4 d5 d6 d7 d8 d9 da
  go_wp2
  rw [← HW0.out, ← HM.out]
  go_loopw [8, 12, 13, 14, 40] (fun h o _ _ j wr => ∃ (k : Nat) (A1 : Option Addr) (k1 : Nat) (A2 : Option Addr) (k2 : Nat), k ≤ N ∧ j = .int .i64 k ∧ h = .int .u64 (ch k) ∧ RecHeld (some m) (m + 1) rc k o wr ∧ Blk wr m 35 #[.slice A1 c.N k1, .slice A2 c.N k2] ∧
    Ints .i64 wr A1 c.N (st k).1 ∧ Ints .i64 wr A2 c.N (st k).2 ∧ c.N ≤ k1 ∧ Below m W0 wr) (fun _ _ _ _ j _ => N - (intOf j).toNat)
  case atStart => exact ⟨0, A1, k1, A2, k2, by omega, rfl, rfl, Held.zero, HM0, I1, I2, l1, Below.refl _ _⟩
  case round =>
    clear HM0 I1 I2 l1
    obtain ⟨k, A1, k1, A2, k2, hk, rfl, rfl, hH, hM, I1, I2, l1, hb⟩ := hrel
    have hbx := hbw0.trans (hb.mono (by omega))
    have hBc := hB0.below hb (by omega)
    by_cases hlt : k < N
    · obtain ⟨d0, d1, d2, d3, d4, d5, d6, d7, d8, d9, da⟩ := hBc.cfg
      obtain ⟨⟨p0, p1⟩, _⟩ := hM.two
      have hbs := hb.size
      have hlm := hM.lt
      have hlc := hBc.lt
      have b1 : Below wr.heap.size wr (wr.alloc (.cells #[.int .i64 k, .slice none 0 0, .int .i64 0, .int .u64 0, .int .u64 0] 69)) := (Below.refl _ _).alloc (Nat.le_refl _) _
      have R0 : Blk (wr.alloc (.cells #[.int .i64 k, .slice none 0 0, .int .i64 0, .int .u64 0, .int .u64 0] 69)) wr.heap.size 69 #[.int .i64 k, .slice none 0 0, .int .i64 0, .int .u64 0, .int .u64 0] := Blk.made _ _ _
      have hsz0 : (wr.alloc (.cells #[.int .i64 k, .slice none 0 0, .int .i64 0, .int .u64 0, .int .u64 0] 69)).heap.size = wr.heap.size + 1 := by simp
      go_wp2_with fail
      refine (HNX.out _ (hbx.trans (b1.mono hbx.size)) k (by omega) A1 A2 k1 k2 (I1.below b1) (I2.below b1) l1).mono ?_
      rintro e u1 ⟨B1, q1, B2, q2, E, ec, rfl, O1, O2, O3, hb1⟩
      rw [HNE.out] at O1 O2
      rw [← HSK.out k] at O1 O2
      rw [HBT.out] at O3
      rw [hsz0] at O1 O2 O3
      have hM1 := (hM.below b1 hlm).below hb1 (by omega)
      have R1 := R0.below hb1 R0.lt
      obtain ⟨⟨r0, r1⟩, r2, r3⟩ := hM1.two
      obtain ⟨⟨t0, t1, t2, t3, t4⟩, f0, f1, f2, f3, f4⟩ := R1.rec5
      have hlm1 := hM1.lt
      have hlr1 := R1.lt
      have hmr : m ≠ wr.heap.size := by omega
      have hrm : wr.heap.size ≠ m := by omega
      have B1m := ((((but_below (but_below (But.refl m wr) b1) hb1).put 0 (.slice B1 c.N q1)).put 1 (.slice B2 c.N q2)).far (p := ⟨wr.heap.size, 1, none⟩) (Nat.le_refl _) (.slice E c.batch.toNat ec)).far (p := ⟨wr.heap.size, 2, none⟩) (Nat.le_refl _) (.int .i64 (ratI c k))
      have MY := (((hM1.put 0 (.slice B1 c.N q1)).put 1 (.slice B2 c.N q2)).far (p := ⟨wr.heap.size, 1, none⟩) hmr (.slice E c.batch.toNat ec)).far (p := ⟨wr.heap.size, 2, none⟩) hmr (.int .i64 (ratI c k))
      have RY := (((R1.far (p := ⟨m, 0, none⟩) hrm (.slice B1 c.N q1)).far (p := ⟨m, 1, none⟩) hrm (.slice B2 c.N q2)).put 1 (.slice E c.batch.toNat ec)).put 2 (.int .i64 (ratI c k))
      have far4 : ∀ {v : Value} {n : Nat} {xs : List Value}, u1.ownsRow (wr.heap.size + 1) 3 1 v n xs → ((((u1.setCell ⟨m, 0, none⟩ (.slice B1 c.N q1)).setCell ⟨m, 1, none⟩ (.slice B2 c.N q2)).setCell ⟨wr.heap.size, 1, none⟩ (.slice E c.batch.toNat ec)).setCell ⟨wr.heap.size, 2, none⟩ (.int .i64 (ratI c k))).ownsRow (wr.heap.size + 1) 3 1 v n xs := fun h => own_far (own_far (own_far (own_far h (p := ⟨m, 0, none⟩) (by simp; omega) _) (p := ⟨m, 1, none⟩) (by simp; omega) _) (p := ⟨wr.heap.size, 1, none⟩) (by simp) _) (p := ⟨wr.heap.size, 2, none⟩) (by simp) _
      replace O1 := far4 O1
      replace O2 := far4 O2
      replace O3 := far4 O3
      have W1 : Below m W0 ((((u1.setCell ⟨m, 0, none⟩ (.slice B1 c.N q1)).setCell ⟨m, 1, none⟩ (.slice B2 c.N q2)).setCell ⟨wr.heap.size, 1, none⟩ (.slice E c.batch.toNat ec)).setCell ⟨wr.heap.size, 2, none⟩ (.int .i64 (ratI c k))) := ((((((hb.trans (b1.mono (by omega))).trans (hb1.mono (by simp; omega))).setCell (p := ⟨m, 0, none⟩) (Nat.le_refl _) _).setCell (p := ⟨m, 1, none⟩) (Nat.le_refl _) _).setCell (p := ⟨wr.heap.size, 1, none⟩) (by simp; omega) _).setCell (p := ⟨wr.heap.size, 2, none⟩) (by simp; omega) _)
      have sy1 : wr.heap.size + 1 ≤ ((((u1.setCell ⟨m, 0, none⟩ (.slice B1 c.N q1)).setCell ⟨m, 1, none⟩ (.slice B2 c.N q2)).setCell ⟨wr.heap.size, 1, none⟩ (.slice E c.batch.toNat ec)).setCell ⟨wr.heap.size, 2, none⟩ (.int .i64 (ratI c k))).heap.size := by have := hb1.size; simp at this ⊢; omega
      obtain ⟨y1, hy1⟩ : ∃ y1, y1 = ((((u1.setCell ⟨m, 0, none⟩ (.slice B1 c.N q1)).setCell ⟨m, 1, none⟩ (.slice B2 c.N q2)).setCell ⟨wr.heap.size, 1, none⟩ (.slice E c.batch.toNat ec)).setCell ⟨wr.heap.size, 2, none⟩ (.int .i64 (ratI c k))) := ⟨_, rfl⟩
      rw [← hy1] at B1m MY RY O1 O2 O3 W1 sy1
      have HY1 := Lib.hid hy1
      have J1 := Ints.of_own O1 (HL1.out (k + 1))
      have J2 := Ints.of_own O2 (HL2.out (k + 1))
      have q1l := own_capT O1
      clear hy1 far4 b1 I1 I2 hsz0 R0 hM1 R1 hb1 d0 d1 d2 d3 d4 d5 d6 d7 d8 d9 da
      go_wp2_with fail
      rw [← HY1.out]
      refine (HRT.out k B1 B2 q1 q2 y1 J1 J2).mono ?_
      rintro e u2 ⟨rfl, hb2⟩
      have R2 := RY.below hb2 RY.lt
      have M2 := MY.below hb2 MY.lt
      clear r0 r1 r2 r3 t0 t1 t2 t3 t4 f0 f1 f2 f3 f4 p0 p1
      obtain ⟨⟨t0, t1, t2, t3, t4⟩, f0, f1, f2, f3, f4⟩ := R2.rec5
      have B2m := (but_below B1m hb2).far (p := ⟨wr.heap.size, 3, none⟩) (Nat.le_refl _) (.int .u64 (rootS (st (k + 1))))
      replace O1 := own_far (own_below O1 hb2) (p := ⟨wr.heap.size, 3, none⟩) (by simp) (.int .u64 (rootS (st (k + 1))))
      replace O2 := own_far (own_below O2 hb2) (p := ⟨wr.heap.size, 3, none⟩) (by simp) (.int .u64 (rootS (st (k + 1))))
      replace O3 := own_far (own_below O3 hb2) (p := ⟨wr.heap.size, 3, none⟩) (by simp) (.int .u64 (rootS (st (k + 1))))
      have R2' := R2.put 3 (.int .u64 (rootS (st (k + 1))))
      have M2' := M2.far (p := ⟨wr.heap.size, 3, none⟩) hmr (.int .u64 (rootS (st (k + 1))))
      have W2 : Below m W0 (u2.setCell ⟨wr.heap.size, 3, none⟩ (.int .u64 (rootS (st (k + 1))))) := (W1.trans (hb2.mono (by omega))).setCell (p := ⟨wr.heap.size, 3, none⟩) (by simp; omega) _
      have sy2 : wr.heap.size + 1 ≤ (u2.setCell ⟨wr.heap.size, 3, none⟩ (.int .u64 (rootS (st (k + 1))))).heap.size := by have := hb2.size; simp; omega
      have J3 := Ints.of_own O3 (HLB'.out k)
      have lr2 := R2.lt
      clear J1 J2 hb2 W1 sy1 B1m MY RY M2
      go_wp2_with fail
      refine (HCH.out k (by omega) E ec _ (by rw [HBT.out]; exact J3)).mono ?_
      rintro e u3 ⟨rfl, hb3⟩
      have R3 := R2'.below hb3 R2'.lt
      have M3 := M2'.below hb3 M2'.lt
      clear t0 t1 t2 t3 t4 f0 f1 f2 f3 f4
      obtain ⟨⟨t0, t1, t2, t3, t4⟩, f0, f1, f2, f3, f4⟩ := R3.rec5
      have B3m := (but_below B2m hb3).far (p := ⟨wr.heap.size, 4, none⟩) (Nat.le_refl _) (.int .u64 (ch (k + 1)))
      replace O1 := own_far (own_below O1 hb3) (p := ⟨wr.heap.size, 4, none⟩) (by simp) (.int .u64 (ch (k + 1)))
      replace O2 := own_far (own_below O2 hb3) (p := ⟨wr.heap.size, 4, none⟩) (by simp) (.int .u64 (ch (k + 1)))
      replace O3 := own_far (own_below O3 hb3) (p := ⟨wr.heap.size, 4, none⟩) (by simp) (.int .u64 (ch (k + 1)))
      have M3' := M3.far (p := ⟨wr.heap.size, 4, none⟩) hmr (.int .u64 (ch (k + 1)))
      have W3 : Below m W0 (u3.setCell ⟨wr.heap.size, 4, none⟩ (.int .u64 (ch (k + 1)))) := (W2.trans (hb3.mono (by omega))).setCell (p := ⟨wr.heap.size, 4, none⟩) (by simp; omega) _
      have lr3 := R3.lt
      have hHlt := hH.lt
      have hs3 : (u3.setCell ⟨wr.heap.size, 4, none⟩ (.int .u64 (ch (k + 1)))).heap.size = u3.heap.size := by simp
      have hH3 := hH.but (fun h => h.but B3m) B3m (by omega)
      have X1 : ListV (some m) (u3.setCell ⟨wr.heap.size, 4, none⟩ (.int .u64 (ch (k + 1)))) u12.ownBlock (.slice B1 c.N q1) (st (k + 1)).1 := ListV.own O1 (HL1.out _) (fun b h1 h2 => ⟨by simp; omega, fun e => by have := hHlt b e; omega⟩)
      have X2 : ListV (some m) (u3.setCell ⟨wr.heap.size, 4, none⟩ (.int .u64 (ch (k + 1)))) u12.ownBlock (.slice B2 c.N q2) (st (k + 1)).2 := ListV.own O2 (HL2.out _) (fun b h1 h2 => ⟨by simp; omega, fun e => by have := hHlt b e; omega⟩)
      have X3 : ListV (some m) (u3.setCell ⟨wr.heap.size, 4, none⟩ (.int .u64 (ch (k + 1)))) u12.ownBlock (.slice E c.batch.toNat ec) (bt k) := ListV.own O3 (HLB'.out k) (fun b h1 h2 => ⟨by simp; omega, fun e => by have := hHlt b e; omega⟩)
      have bAl : Below (u3.setCell ⟨wr.heap.size, 4, none⟩ (.int .u64 (ch (k + 1)))).heap.size (u3.setCell ⟨wr.heap.size, 4, none⟩ (.int .u64 (ch (k + 1)))) ((u3.setCell ⟨wr.heap.size, 4, none⟩ (.int .u64 (ch (k + 1)))).alloc (.cells #[.int .i64 k, .slice E c.batch.toNat ec, .int .i64 (ratI c k), .int .u64 (rootS (st (k + 1))), .int .u64 (ch (k + 1))] 69)) := (Below.refl _ _).alloc (Nat.le_refl _) _
      have hHX := hH3.below (keeps_rec _) bAl
      have X1X := X1.below bAl
      have X2X := X2.below bAl
      have X3X := HRK.out (some m) _ u12.ownBlock _ k (by rw [HBT.out]; exact X3.below bAl)
      have hMX := M3'.alloc (.cells #[.int .i64 k, .slice E c.batch.toNat ec, .int .i64 (ratI c k), .int .u64 (rootS (st (k + 1))), .int .u64 (ch (k + 1))] 69)
      have hNB : Blk ((u3.setCell ⟨wr.heap.size, 4, none⟩ (.int .u64 (ch (k + 1)))).alloc (.cells #[.int .i64 k, .slice E c.batch.toNat ec, .int .i64 (ratI c k), .int .u64 (rootS (st (k + 1))), .int .u64 (ch (k + 1))] 69)) u3.heap.size 69 #[.int .i64 k, .slice E c.batch.toNat ec, .int .i64 (ratI c k), .int .u64 (rootS (st (k + 1))), .int .u64 (ch (k + 1))] := Blk.made' _ _ _ hs3
      have hsX : ((u3.setCell ⟨wr.heap.size, 4, none⟩ (.int .u64 (ch (k + 1)))).alloc (.cells #[.int .i64 k, .slice E c.batch.toNat ec, .int .i64 (ratI c k), .int .u64 (rootS (st (k + 1))), .int .u64 (ch (k + 1))] 69)).heap.size = u3.heap.size + 1 := by simp
      have hBX : Below m W0 ((u3.setCell ⟨wr.heap.size, 4, none⟩ (.int .u64 (ch (k + 1)))).alloc (.cells #[.int .i64 k, .slice E c.batch.toNat ec, .int .i64 (ratI c k), .int .u64 (rootS (st (k + 1))), .int .u64 (ch (k + 1))] 69)) := W3.alloc (by rw [hs3]; omega) _
      obtain ⟨vs, hoV, hpV⟩ := hHX
      have hvl := hoV.1
      clear X1 X2 X3 bAl O1 O2 O3 hH hH3 M3' M3 B3m B2m J3 W2 sy2 R2' M2'
      go_wp2_with (at_builtin; refine wpList_append_lies _ rfl _ _ 64 rfl (m + 1) 69 i0 (.agg #[.int .i64 0, .slice none 0 0, .int .i64 0, .int .u64 0, .int .u64 0]) 5 56 Try.underlying64 hi0 hz0 hz1 hz2 rfl (by decide) u12 k vs rfl hoV ⟨u3.heap.size, 0, none⟩ 1 1 [.int .i64 k, .slice E c.batch.toNat ec, .int .i64 (ratI c k), .int .u64 (rootS (st (k + 1))), .int .u64 (ch (k + 1))] rfl rfl (World.news_of_block (cs := #[.int .i64 k, .slice E c.batch.toNat ec, .int .i64 (ratI c k), .int .u64 (rootS (st (k + 1))), .int .u64 (ch (k + 1))]) hNB) (by simp [Value.oneCell']) (by omega) (by unfold maxLen; omega) (by omega) (by simp <;> omega) (u3.heap.size + 1) (by simp) ?_; intro g1 cap1 w1 hown1 hgrow hgg hlt1)
      have hgg' : u12.ownBlock = some g1 ∨ ((u3.setCell ⟨wr.heap.size, 4, none⟩ (.int .u64 (ch (k + 1)))).alloc (.cells #[.int .i64 k, .slice E c.batch.toNat ec, .int .i64 (ratI c k), .int .u64 (rootS (st (k + 1))), .int .u64 (ch (k + 1))] 69)).heap.size ≤ g1 := hgg.imp id (fun h => by rw [hsX]; omega)
      have hH2 := Held.push (keeps_rec (some m)) hown1 hvl rfl hpV X3X hgrow hgg'
      have hM2 := hMX.grown hgrow (fun e => by have := hHlt m e.symm; omega)
      have K1 := (X1X.turn hgrow hgg').ints.1
      have K2 := (X2X.turn hgrow hgg').ints.1
      have hB2 := Below.grown hBX hgrow (by rw [hsX]; omega) (fun x hx => by have := hHlt x hx; omega)
      clear hown1 hgrow hgg hgg' X1X X2X X3X hpV hoV hMX hNB hBX
      go_roundw
      case rel => exact ⟨k + 1, B1, q1, B2, q2, by omega, by go_num, rfl, hH2, hM2, K1, K2, q1l, hB2⟩
      case measure => simp [intOf]; omega
    · obtain rfl : k = N := by omega
      obtain ⟨A, c', hv, _⟩ := hH.slice
      subst hv
      go_wp2
      go_ret2
      exact ⟨A, c', rfl, (hH.imp RecK.drop).base (by omega), hbx⟩
end Go.Proofs.Ythckpmgehhkacaa
