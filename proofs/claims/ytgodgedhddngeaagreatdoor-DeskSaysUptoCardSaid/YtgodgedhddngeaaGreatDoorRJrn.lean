/- The document's own journal: a walk. -/
import Derived.Test.YtgodgedhddngeaaGreatDoorRNext
import Derived.Test.YtgodgedhddngeaaGreatDoorRChain
set_option maxRecDepth 100000
set_option maxHeartbeats 16000000
namespace Go.Proofs.YtgodgedhddngeaaGreatDoor
open Go.RowKit Pl
theorem bal {x u : World} (h : Below x.heap.size x u) (o : Obj) : Below x.heap.size x (u.alloc o) := h.alloc h.size o
theorem bs2 {x u : World} {m : Nat} {a0 a1 : Value} (h : Below x.heap.size x u) (hm : x.heap.size ≤ m) : Below x.heap.size x ((u.setCell ⟨m, 0, none⟩ a0).setCell ⟨m, 1, none⟩ a1) :=
 (h.setCell (p := ⟨m, 0, none⟩) hm _).setCell (p := ⟨m, 1, none⟩) hm _
theorem st_storedN {x u : World} {b m N : Nat} {s : List Int × List Int} {B1 B2 : Option Addr} {q1 q2 : Nat} {a0 a1 : Value} (h : Below x.heap.size x u) (o1 : u.ownsRow b 3 1 (.slice B1 N q1) N (s.1.map (.int .i64))) (o2 : u.ownsRow b 3 1 (.slice B2 N q2) N (s.2.map (.int .i64))) (hb : x.heap.size ≤ b)
  (hz : Blk u m 106 #[a0, a1]) (n1 : (Value.slice B1 N q1).ownBlock ≠ some m) (n2 : (Value.slice B2 N q2).ownBlock ≠ some m) (hm : x.heap.size ≤ m) :
  StBx x N s (.pointer (some ⟨m, 0, none⟩)) ((u.setCell ⟨m, 0, none⟩ (.slice B1 N q1)).setCell ⟨m, 1, none⟩ (.slice B2 N q2)) := by
 have hB := ((But.refl m u).put 0 (.slice B1 N q1)).put 1 (.slice B2 N q2)
 exact ⟨m, B1, q1, B2, q2, rfl, (hz.put 0 _).put 1 _, own_base (own_butN o1 hB n1) hb, own_base (own_butN o2 hB n2) hb, hm, but_to h hB hm h.size⟩
theorem rchain_fine (c : Cfg) (ds : Data) (hf : Fine c ds) (k : Nat) (hk : (k : Int) < c.steps) (A : Option Addr) (ec : Nat) (W : World) (q : Ints .i64 W A c.batch.toNat ((batI c ds k).map fun (n : Nat) => (n : Int))) :
  Calls Tryz.prog 100 #[.int .u64 (chainC c ds k), .agg #[.int .i64 k, .slice A c.batch.toNat ec, .int .i64 (ratI c k), .int .u64 (rootS (states c ds (k + 1))), .int .u64 0]] W fun e w' => e = .returned (.int .u64 (chainC c ds (k + 1))) ∧ Below W.heap.size W w' := by
 have hr := ratI_bd c hf.ok k hk
 have hst := hf.ok.st
 have hb := chainC_bd c ds k
 have ht := rootO_u64 ((states c ds (k + 1)).1 ++ (states c ds (k + 1)).2)
 exact ref_Chain (chainC c ds k) (recB c ds k) A _ ec W q (chE_recB hf hk) hb.1 hb.2 (by show (k : Int) < _; omega) (by show ratI c k < _; omega) ht.1 ht.2 (fun z hz => by
  obtain ⟨n, hn, rfl⟩ := List.mem_map.1 hz
  have := batI_lt c ds hf.d1 k n hn
  have := hf.d16
  omega)
theorem ref_Journal (c : Cfg) (ds : Data) (hf : Fine c ds) (s0 : 0 ≤ c.seed) (s1 : c.seed < 18446744073709551616) (D : Option Addr) (n dc : Nat) (w : World) (hd : Duos w D n ds) (N : Nat) (hN : (N : Int) ≤ c.steps) :
  Calls Tryz.prog 62 #[.agg #[.int .i64 c.ci, .int .i64 c.ch, .int .i64 c.co, .int .u64 c.seed, .int .i64 c.batch, .int .i64 c.steps, .int .i64 c.rate, .int .i64 c.decay, .int .i64 c.how, .int .i64 c.keep, .int .i64 c.clip], .slice D n dc, .int .i64 N] w fun e w' => ∃ A k, e = .returned (.slice A N k) ∧ RecHeld none w.heap.size (recC c ds) N (.slice A N k) w' ∧ Below w.heap.size w w' := by
 obtain ⟨i0, hi0, hz0, hz1, hz2⟩ := info_parts rec_info
 have hst := hf.ok.st
 have HHD := Lib.hid (fun W (h : Below w.heap.size w W) => ref_Head c ds hf s0 s1 D n dc W (hd.below h))
 have HNX := Lib.hid (fun W (h : Below w.heap.size w W) (k : Nat) (hk : (k : Int) < c.steps) A1 A2 k1 k2 i1 i2 hk1 => ref_Next c ds hf s0 s1 D n dc W (hd.below h) (states c ds k) (fits_states c ds k) A1 A2 k1 k2 i1 i2 hk1 k hk)
 have HSR := Lib.hid (fun W => ref_Start c W hf.e s0 s1)
 have HCH := Lib.hid (fun (k : Nat) (hk : (k : Int) < c.steps) A ec W => rchain_fine c ds hf k hk A ec W)
 have HRK := Lib.hid (fun (m : Option Nat) (w : World) (o : Option Nat) (b : Value) (k : Nat) (h : ListV m w o b ((batI c ds k).map fun (n : Nat) => (n : Int))) => recC_K c ds k h)
 have HL1 := Lib.hid (states_len1 c ds)
 have HL2 := Lib.hid (states_len2 c ds)
 have HLB := Lib.hid (fun k => show ((batI c ds k).map fun (n : Nat) => (n : Int)).length = c.batch.toNat by rw [List.length_map, batI_length])
 have HSU := Lib.hid (states_succ c ds)
 have HZ := Lib.hid (states_zero c ds)
 have HH := Lib.hid (show chainC c ds 0 = headI c ds from rfl)
 have HB0 := Blk.made w 29 #[.int .i64 c.ci, .int .i64 c.ch, .int .i64 c.co, .int .u64 c.seed, .int .i64 c.batch, .int .i64 c.steps, .int .i64 c.rate, .int .i64 c.decay, .int .i64 c.how, .int .i64 c.keep, .int .i64 c.clip]
 have b0 : Below w.heap.size w (w.alloc (.cells #[.int .i64 c.ci, .int .i64 c.ch, .int .i64 c.co, .int .u64 c.seed, .int .i64 c.batch, .int .i64 c.steps, .int .i64 c.rate, .int .i64 c.decay, .int .i64 c.how, .int .i64 c.keep, .int .i64 c.clip] 29)) := (Below.refl _ _).alloc (Nat.le_refl _) _
 obtain ⟨x, hX⟩ : ∃ x, x = w.alloc (.cells #[.int .i64 c.ci, .int .i64 c.ch, .int .i64 c.co, .int .u64 c.seed, .int .i64 c.batch, .int .i64 c.steps, .int .i64 c.rate, .int .i64 c.decay, .int .i64 c.how, .int .i64 c.keep, .int .i64 c.clip] 29) := ⟨_, rfl⟩
 rw [← hX] at HB0 b0
 have HX := Lib.hid hX
 have lx := HB0.lt
 clear hf hd hX
 obtain ⟨st, hst'⟩ : ∃ st, st = states c ds := ⟨_, rfl⟩
 rw [← hst'] at HNX HL1 HL2 HSU HZ HCH HRK
 clear hst'
 obtain ⟨nx, hnx⟩ : ∃ nx, nx = fun k => nextS c ds (st k) k := ⟨_, rfl⟩
 have HNE := Lib.hid (fun k => show nextS c ds (st k) k = nx k from by rw [hnx])
 clear hnx
 have HSK := Lib.hid (fun k => show st (k + 1) = nx k from (HSU.out k).trans (HNE.out k))
 obtain ⟨sa, hsa⟩ : ∃ sa, sa = start c := ⟨_, rfl⟩
 rw [← hsa] at HSR HZ
 clear hsa
 obtain ⟨ch, hch⟩ : ∃ ch, ch = chainC c ds := ⟨_, rfl⟩
 rw [← hch] at HCH HRK HH
 clear hch
 obtain ⟨bt, hbt⟩ : ∃ bt, bt = fun k => (batI c ds k).map fun (n : Nat) => (n : Int) := ⟨_, rfl⟩
 have HBT := Lib.hid (fun k => show ((batI c ds k).map fun (n : Nat) => (n : Int)) = bt k from by rw [hbt])
 have HLB' := Lib.hid (fun k => show (bt k).length = c.batch.toNat by rw [hbt]; exact HLB.out k)
 clear hbt
 obtain ⟨rc, hrc⟩ : ∃ rc, rc = recC c ds := ⟨_, rfl⟩
 rw [← hrc] at HRK ⊢
 clear hrc
 have HFB := Lib.hid (fun W (h : Below x.heap.size x W) => (HB0.below h lx).cfg)
 have qz0 : x.heap.size ≤ x.heap.size := Nat.le_refl _
 go_enter Tryz.func62, Tryz.ntmps62
 go_upto_region 1 with fail
 rw [← HX.out]
 obtain ⟨d0, d1, d2, d3, d4, d5, d6, d7, d8, d9, da⟩ := HB0.cfg
 go_cut [7, 8] (fun v h wx => h = .int .u64 (ch 0) ∧ StBx x c.N (st 0) v wx)
 case first =>
  go_region_held3 (fun W => W.cell? ⟨w.heap.size, 0, none⟩ = some (.int .i64 c.ci) ∧ W.cell? ⟨w.heap.size, 1, none⟩ = some (.int .i64 c.ch) ∧ W.cell? ⟨w.heap.size, 2, none⟩ = some (.int .i64 c.co) ∧ W.cell? ⟨w.heap.size, 3, none⟩ = some (.int .u64 c.seed) ∧ W.cell? ⟨w.heap.size, 4, none⟩ = some (.int .i64 c.batch) ∧ W.cell? ⟨w.heap.size, 5, none⟩ = some (.int .i64 c.steps) ∧ W.cell? ⟨w.heap.size, 6, none⟩ = some (.int .i64 c.rate) ∧ W.cell? ⟨w.heap.size, 7, none⟩ = some (.int .i64 c.decay) ∧ W.cell? ⟨w.heap.size, 8, none⟩ = some (.int .i64 c.how) ∧ W.cell? ⟨w.heap.size, 9, none⟩ = some (.int .i64 c.keep) ∧ W.cell? ⟨w.heap.size, 10, none⟩ = some (.int .i64 c.clip))
   (first | (with_reducible exact HFB.out _ ((Below.refl _ _).drew)) | (with_reducible exact HFB.out _ (((Below.refl _ _).alloc (Nat.le_refl _) _).drew)) | (with_reducible exact HFB.out _ hx1) | (with_reducible exact HFB.out _ (bal hx1 _)) | (with_reducible exact HFB.out _ hx2) | (with_reducible exact HFB.out _ (bal hx2 _)) | (with_reducible exact HFB.out _ (bs2 hx2 qz0)) | (with_reducible exact HFB.out _ (bs2 hx2 qz2)) | go_keep) (first
   | (go_at_call 97; (refine (HSR.out _).mono ?_); rintro e u1 ⟨A1, k1, A2, k2, rfl, O1, O2, hbS⟩; rw [← HZ.out] at O1 O2; first
       | (have hx1 : Below x.heap.size x u1 := bel_trans ((Below.refl _ _).drew) hbS; have qz2 : x.heap.size ≤ u1.heap.size := hx1.size; have P1 : u1.ownsRow x.heap.size 3 1 (.slice A1 c.N k1) c.N ((st 0).1.map (.int .i64)) := O1; have P2 : u1.ownsRow x.heap.size 3 1 (.slice A2 c.N k2) c.N ((st 0).2.map (.int .i64)) := O2)
       | (have hx1 : Below x.heap.size x u1 := bel_trans (((Below.refl _ _).alloc (Nat.le_refl _) _).drew) hbS; have qz2 : x.heap.size ≤ u1.heap.size := hx1.size; have hzS : Blk u1 x.heap.size 106 #[.slice none 0 0, .slice none 0 0] := (((Blk.made x 106 #[.slice none 0 0, .slice none 0 0]).drewN 1).below hbS (by simp)); have P1 : u1.ownsRow (x.heap.size + 1) 3 1 (.slice A1 c.N k1) c.N ((st 0).1.map (.int .i64)) := own_base O1 (by simp); have P2 : u1.ownsRow (x.heap.size + 1) 3 1 (.slice A2 c.N k2) c.N ((st 0).2.map (.int .i64)) := own_base O2 (by simp)))
   | (go_at_call 98; first
       | ((refine (HHD.out u1 (b0.trans (hx1.mono b0.size))).mono ?_); rintro e u2 ⟨rfl, hbH⟩; rw [← HH.out]; have hx2 : Below x.heap.size x u2 := bel_trans hx1 hbH; have R1 := own_below P1 hbH; have R2 := own_below P2 hbH; first
           | (have hz2 := hzS.below hbH hzS.lt; have lz2 := hz2.lt; obtain ⟨⟨p0, p1⟩, p2, p3⟩ := hz2.two)
           | skip)
       | ((refine (HHD.out (u1.alloc (.cells #[.slice none 0 0, .slice none 0 0] 106)) (b0.trans ((bal hx1 _).mono b0.size))).mono ?_); rintro e u2 ⟨rfl, hbH⟩; rw [← HH.out]; have hx2 : Below x.heap.size x u2 := bel_trans (bal hx1 (.cells #[.slice none 0 0, .slice none 0 0] 106)) hbH; have hz2 : Blk u2 u1.heap.size 106 #[.slice none 0 0, .slice none 0 0] := (Blk.made u1 106 #[.slice none 0 0, .slice none 0 0]).below hbH (by simp); have R1 := own_below (P1.alloc (.cells #[.slice none 0 0, .slice none 0 0] 106)) hbH; have R2 := own_below (P2.alloc (.cells #[.slice none 0 0, .slice none 0 0] 106)) hbH; have lz2 := hz2.lt; have n1 : (Value.slice A1 c.N k1).ownBlock ≠ some u1.heap.size := (fun e => by have h0 := (P1.lt _ e).2; omega); have n2 : (Value.slice A2 c.N k2).ownBlock ≠ some u1.heap.size := (fun e => by have h0 := (P2.lt _ e).2; omega); obtain ⟨⟨p0, p1⟩, p2, p3⟩ := hz2.two))
   | fail)
  all_goals
   go_wp2
   go_meet
   case rel => first
    | (with_reducible exact ⟨rfl, st_laid hx2 R1 R2 (Nat.le_refl _)⟩)
    | (with_reducible exact ⟨rfl, st_stored hx2 R1 R2 (Nat.le_succ _) hz2 (Nat.lt_succ_self _) qz0⟩)
    | (with_reducible exact ⟨rfl, st_storedN hx2 R1 R2 (Nat.le_refl _) hz2 n1 n2 qz2⟩)
    | trace_state
 case rest =>
  obtain ⟨rfl, m, A1, k1, A2, k2, rfl, HM0, O1, O2, hmx, hbc⟩ := hcut
  obtain ⟨W0, rfl⟩ : ∃ W0 : World, W0 = wc := ⟨_, rfl⟩
  have I1 := Ints.of_own O1 (HL1.out 0)
  have I2 := Ints.of_own O2 (HL2.out 0)
  have l1 := own_capT O1
  have hmz := HM0.lt
  have hmw : w.heap.size < m := by omega
  have hB0 := HB0.below hbc lx
  have hbw0 := b0.trans (hbc.mono b0.size)
  clear O1 O2 d0 d1 d2 d3 d4 d5 d6 d7 d8 d9 da HB0 hbc
  go_wp2
  go_loopw [8, 9, 10, 11] (fun h o j _ wr => ∃ (k : Nat) (A1 : Option Addr) (k1 : Nat) (A2 : Option Addr) (k2 : Nat), k ≤ N ∧ j = .int .i64 k ∧ h = .int .u64 (ch k) ∧ RecHeld (some m) (m + 1) rc k o wr ∧ Blk wr m 106 #[.slice A1 c.N k1, .slice A2 c.N k2] ∧
   Ints .i64 wr A1 c.N (st k).1 ∧ Ints .i64 wr A2 c.N (st k).2 ∧ c.N ≤ k1 ∧ Below m W0 wr) (fun _ _ j _ _ => N - (intOf j).toNat)
  case atStart => exact ⟨0, A1, k1, A2, k2, by omega, rfl, rfl, Held.zero, HM0, I1, I2, l1, Below.refl _ _⟩
  case round =>
   clear HM0 I1 I2 l1
   obtain ⟨k, A1, k1, A2, k2, hk, rfl, rfl, hH, hM, I1, I2, l1, hb⟩ := hrel
   have hbx := hbw0.trans (hb.mono (by omega))
   have hBc := hB0.below hb (by omega)
   by_cases hlt : k < N
   ·obtain ⟨d0, d1, d2, d3, d4, d5, d6, d7, d8, d9, da⟩ := hBc.cfg
    obtain ⟨⟨p0, p1⟩, _⟩ := hM.two
    have hbs := hb.size
    have hlm := hM.lt
    have hlc := hBc.lt
    have b1 : Below wr.heap.size wr (wr.alloc (.cells #[.int .i64 0, .slice none 0 0, .int .i64 0, .int .u64 0, .int .u64 0] 90)) := (Below.refl _ _).alloc (Nat.le_refl _) _
    have R0 : Blk (wr.alloc (.cells #[.int .i64 0, .slice none 0 0, .int .i64 0, .int .u64 0, .int .u64 0] 90)) wr.heap.size 90 #[.int .i64 0, .slice none 0 0, .int .i64 0, .int .u64 0, .int .u64 0] := Blk.made _ _ _
    have hsz0 : (wr.alloc (.cells #[.int .i64 0, .slice none 0 0, .int .i64 0, .int .u64 0, .int .u64 0] 90)).heap.size = wr.heap.size + 1 := by simp
    go_wp2_with fail
    refine (HNX.out _ (hbx.trans (b1.mono hbx.size)) k (by omega) A1 A2 k1 k2 (I1.below b1) (I2.below b1) l1).mono ?_
    rintro e u1 ⟨B1, q1, B2, q2, E, ec, rfl, O1, O2, O3, hb1⟩
    rw [HNE.out] at O1 O2
    rw [← HSK.out k] at O1 O2
    rw [HNE.out, ← HSK.out k]
    rw [HBT.out] at O3
    rw [hsz0] at O1 O2 O3
    have hM1 := (hM.below b1 hlm).below hb1 (by omega)
    have R1 := R0.below hb1 R0.lt
    obtain ⟨⟨r0, r1⟩, r2, r3⟩ := hM1.two
    obtain ⟨⟨t0, t1, t2, t3, t4⟩, f0, f1, f2, f3, f4⟩ := R1.rec5
    have hlm1 := hM1.lt
    have hlr1 := R1.lt
    have hmr : m ≠ wr.heap.size := by omega
    have hrm : wr.heap.size ≠ m := by omega
    have B1m := (((((((but_below (but_below (But.refl m wr) b1) hb1).put 0 (.slice B1 c.N q1)).put 1 (.slice B2 c.N q2)).far (p := ⟨wr.heap.size, 0, none⟩) (Nat.le_refl _) (.int .i64 k)).far (p := ⟨wr.heap.size, 1, none⟩) (Nat.le_refl _) (.slice E c.batch.toNat ec)).far (p := ⟨wr.heap.size, 2, none⟩) (Nat.le_refl _) (.int .i64 (ratI c k))).far (p := ⟨wr.heap.size, 3, none⟩) (Nat.le_refl _) (.int .u64 (rootS (st (k + 1))))).far (p := ⟨wr.heap.size, 4, none⟩) (Nat.le_refl _) (.int .u64 0)
    have MY := ((((((hM1.put 0 (.slice B1 c.N q1)).put 1 (.slice B2 c.N q2)).far (p := ⟨wr.heap.size, 0, none⟩) hmr (.int .i64 k)).far (p := ⟨wr.heap.size, 1, none⟩) hmr (.slice E c.batch.toNat ec)).far (p := ⟨wr.heap.size, 2, none⟩) hmr (.int .i64 (ratI c k))).far (p := ⟨wr.heap.size, 3, none⟩) hmr (.int .u64 (rootS (st (k + 1))))).far (p := ⟨wr.heap.size, 4, none⟩) hmr (.int .u64 0)
    have RY := ((((((R1.far (p := ⟨m, 0, none⟩) hrm (.slice B1 c.N q1)).far (p := ⟨m, 1, none⟩) hrm (.slice B2 c.N q2)).put 0 (.int .i64 k)).put 1 (.slice E c.batch.toNat ec)).put 2 (.int .i64 (ratI c k))).put 3 (.int .u64 (rootS (st (k + 1))))).put 4 (.int .u64 0)
    have far7 : ∀ {v : Value} {n : Nat} {xs : List Value}, u1.ownsRow (wr.heap.size + 1) 3 1 v n xs → (((((((u1.setCell ⟨m, 0, none⟩ (.slice B1 c.N q1)).setCell ⟨m, 1, none⟩ (.slice B2 c.N q2)).setCell ⟨wr.heap.size, 0, none⟩ (.int .i64 k)).setCell ⟨wr.heap.size, 1, none⟩ (.slice E c.batch.toNat ec)).setCell ⟨wr.heap.size, 2, none⟩ (.int .i64 (ratI c k))).setCell ⟨wr.heap.size, 3, none⟩ (.int .u64 (rootS (st (k + 1))))).setCell ⟨wr.heap.size, 4, none⟩ (.int .u64 0)).ownsRow (wr.heap.size + 1) 3 1 v n xs := fun h => own_far (own_far (own_far (own_far (own_far (own_far (own_far h (p := ⟨m, 0, none⟩) (by simp; omega) _) (p := ⟨m, 1, none⟩) (by simp; omega) _) (p := ⟨wr.heap.size, 0, none⟩) (by simp) _) (p := ⟨wr.heap.size, 1, none⟩) (by simp) _) (p := ⟨wr.heap.size, 2, none⟩) (by simp) _) (p := ⟨wr.heap.size, 3, none⟩) (by simp) _) (p := ⟨wr.heap.size, 4, none⟩) (by simp) _
    replace O1 := far7 O1
    replace O2 := far7 O2
    replace O3 := far7 O3
    have W2 : Below m W0 (((((((u1.setCell ⟨m, 0, none⟩ (.slice B1 c.N q1)).setCell ⟨m, 1, none⟩ (.slice B2 c.N q2)).setCell ⟨wr.heap.size, 0, none⟩ (.int .i64 k)).setCell ⟨wr.heap.size, 1, none⟩ (.slice E c.batch.toNat ec)).setCell ⟨wr.heap.size, 2, none⟩ (.int .i64 (ratI c k))).setCell ⟨wr.heap.size, 3, none⟩ (.int .u64 (rootS (st (k + 1))))).setCell ⟨wr.heap.size, 4, none⟩ (.int .u64 0)) := (((((((((hb.trans (b1.mono (by omega))).trans (hb1.mono (by simp; omega))).setCell (p := ⟨m, 0, none⟩) (Nat.le_refl _) _).setCell (p := ⟨m, 1, none⟩) (Nat.le_refl _) _).setCell (p := ⟨wr.heap.size, 0, none⟩) (by simp; omega) _).setCell (p := ⟨wr.heap.size, 1, none⟩) (by simp; omega) _).setCell (p := ⟨wr.heap.size, 2, none⟩) (by simp; omega) _).setCell (p := ⟨wr.heap.size, 3, none⟩) (by simp; omega) _).setCell (p := ⟨wr.heap.size, 4, none⟩) (by simp; omega) _)
    have sy2 : wr.heap.size + 1 ≤ (((((((u1.setCell ⟨m, 0, none⟩ (.slice B1 c.N q1)).setCell ⟨m, 1, none⟩ (.slice B2 c.N q2)).setCell ⟨wr.heap.size, 0, none⟩ (.int .i64 k)).setCell ⟨wr.heap.size, 1, none⟩ (.slice E c.batch.toNat ec)).setCell ⟨wr.heap.size, 2, none⟩ (.int .i64 (ratI c k))).setCell ⟨wr.heap.size, 3, none⟩ (.int .u64 (rootS (st (k + 1))))).setCell ⟨wr.heap.size, 4, none⟩ (.int .u64 0)).heap.size := by have := hb1.size; simp at this ⊢; omega
    obtain ⟨y1, hy1⟩ : ∃ y1, y1 = (((((((u1.setCell ⟨m, 0, none⟩ (.slice B1 c.N q1)).setCell ⟨m, 1, none⟩ (.slice B2 c.N q2)).setCell ⟨wr.heap.size, 0, none⟩ (.int .i64 k)).setCell ⟨wr.heap.size, 1, none⟩ (.slice E c.batch.toNat ec)).setCell ⟨wr.heap.size, 2, none⟩ (.int .i64 (ratI c k))).setCell ⟨wr.heap.size, 3, none⟩ (.int .u64 (rootS (st (k + 1))))).setCell ⟨wr.heap.size, 4, none⟩ (.int .u64 0)) := ⟨_, rfl⟩
    rw [← hy1] at B1m MY RY O1 O2 O3 W2 sy2
    have HY1 := Lib.hid hy1
    have J3 := Ints.of_own O3 (HLB'.out k)
    have q1l := own_capT O1
    have lr2 := RY.lt
    clear hy1 far7 b1 I1 I2 hsz0 R0 hM1 R1 hb1 d0 d1 d2 d3 d4 d5 d6 d7 d8 d9 da
    go_wp2_with fail
    rw [← HY1.out]
    refine (HCH.out k (by omega) E ec y1 (by rw [HBT.out]; exact J3)).mono ?_
    rintro e u3 ⟨rfl, hb3⟩
    clear r0 r1 r2 r3 p0 p1
    have B2m := B1m
    have R2' : Blk y1 wr.heap.size 90 #[.int .i64 k, .slice E c.batch.toNat ec, .int .i64 (ratI c k), .int .u64 (rootS (st (k + 1))), .int .u64 0] := RY
    have M2' : Blk y1 m 106 #[.slice B1 c.N q1, .slice B2 c.N q2] := MY
    have R3 := R2'.below hb3 R2'.lt
    have M3 := M2'.below hb3 M2'.lt
    clear t0 t1 t2 t3 t4 f0 f1 f2 f3 f4
    obtain ⟨⟨t0, t1, t2, t3, t4⟩, f0, f1, f2, f3, f4⟩ := R3.rec5
    have B3m := (but_below B2m hb3).far (p := ⟨wr.heap.size, 4, none⟩) (Nat.le_refl _) (.int .u64 (ch (k + 1)))
    replace O1 := own_far (own_below O1 hb3) (p := ⟨wr.heap.size, 4, none⟩) (by simp) (.int .u64 (ch (k + 1)))
    replace O2 := own_far (own_below O2 hb3) (p := ⟨wr.heap.size, 4, none⟩) (by simp) (.int .u64 (ch (k + 1)))
    replace O3 := own_far (own_below O3 hb3) (p := ⟨wr.heap.size, 4, none⟩) (by simp) (.int .u64 (ch (k + 1)))
    have M3' := M3.far (p := ⟨wr.heap.size, 4, none⟩) hmr (.int .u64 (ch (k + 1)))
    have W3 : Below m W0 (u3.setCell ⟨wr.heap.size, 4, none⟩ (.int .u64 (ch (k + 1)))) := (W2.trans (hb3.mono (by omega))).setCell (p := ⟨wr.heap.size, 4, none⟩) (by simp; omega) _
    have lr3 := R3.lt
    have hHlt := hH.lt
    have hs3 : (u3.setCell ⟨wr.heap.size, 4, none⟩ (.int .u64 (ch (k + 1)))).heap.size = u3.heap.size := by simp
    have hH3 := hH.but (fun h => h.but B3m) B3m (by omega)
    have X1 : ListV (some m) (u3.setCell ⟨wr.heap.size, 4, none⟩ (.int .u64 (ch (k + 1)))) u9.ownBlock (.slice B1 c.N q1) (st (k + 1)).1 := ListV.own O1 (HL1.out _) (fun b h1 h2 => ⟨by simp; omega, fun e => by have := hHlt b e; omega⟩)
    have X2 : ListV (some m) (u3.setCell ⟨wr.heap.size, 4, none⟩ (.int .u64 (ch (k + 1)))) u9.ownBlock (.slice B2 c.N q2) (st (k + 1)).2 := ListV.own O2 (HL2.out _) (fun b h1 h2 => ⟨by simp; omega, fun e => by have := hHlt b e; omega⟩)
    have X3 : ListV (some m) (u3.setCell ⟨wr.heap.size, 4, none⟩ (.int .u64 (ch (k + 1)))) u9.ownBlock (.slice E c.batch.toNat ec) (bt k) := ListV.own O3 (HLB'.out k) (fun b h1 h2 => ⟨by simp; omega, fun e => by have := hHlt b e; omega⟩)
    have bAl : Below (u3.setCell ⟨wr.heap.size, 4, none⟩ (.int .u64 (ch (k + 1)))).heap.size (u3.setCell ⟨wr.heap.size, 4, none⟩ (.int .u64 (ch (k + 1)))) ((u3.setCell ⟨wr.heap.size, 4, none⟩ (.int .u64 (ch (k + 1)))).alloc (.cells #[.int .i64 k, .slice E c.batch.toNat ec, .int .i64 (ratI c k), .int .u64 (rootS (st (k + 1))), .int .u64 (ch (k + 1))] 90)) := (Below.refl _ _).alloc (Nat.le_refl _) _
    have hHX := hH3.below (keeps_rec _) bAl
    have X1X := X1.below bAl
    have X2X := X2.below bAl
    have X3X := HRK.out (some m) _ u9.ownBlock _ k (by rw [HBT.out]; exact X3.below bAl)
    have hMX := M3'.alloc (.cells #[.int .i64 k, .slice E c.batch.toNat ec, .int .i64 (ratI c k), .int .u64 (rootS (st (k + 1))), .int .u64 (ch (k + 1))] 90)
    have hNB : Blk ((u3.setCell ⟨wr.heap.size, 4, none⟩ (.int .u64 (ch (k + 1)))).alloc (.cells #[.int .i64 k, .slice E c.batch.toNat ec, .int .i64 (ratI c k), .int .u64 (rootS (st (k + 1))), .int .u64 (ch (k + 1))] 90)) u3.heap.size 90 #[.int .i64 k, .slice E c.batch.toNat ec, .int .i64 (ratI c k), .int .u64 (rootS (st (k + 1))), .int .u64 (ch (k + 1))] := Blk.made' _ _ _ hs3
    have hsX : ((u3.setCell ⟨wr.heap.size, 4, none⟩ (.int .u64 (ch (k + 1)))).alloc (.cells #[.int .i64 k, .slice E c.batch.toNat ec, .int .i64 (ratI c k), .int .u64 (rootS (st (k + 1))), .int .u64 (ch (k + 1))] 90)).heap.size = u3.heap.size + 1 := by simp
    have hBX : Below m W0 ((u3.setCell ⟨wr.heap.size, 4, none⟩ (.int .u64 (ch (k + 1)))).alloc (.cells #[.int .i64 k, .slice E c.batch.toNat ec, .int .i64 (ratI c k), .int .u64 (rootS (st (k + 1))), .int .u64 (ch (k + 1))] 90)) := W3.alloc (by rw [hs3]; omega) _
    obtain ⟨vs, hoV, hpV⟩ := hHX
    have hvl := hoV.1
    clear X1 X2 X3 bAl O1 O2 O3 hH hH3 M3' M3 B3m B2m B1m RY MY J3 W2 sy2 R2' M2'
    go_wp2_with (at_builtin; refine wpList_append_lies _ rfl _ _ 66 rfl (m + 1) 90 i0 (.agg #[.int .i64 0, .slice none 0 0, .int .i64 0, .int .u64 0, .int .u64 0]) 5 56 Tryz.underlying66 hi0 hz0 hz1 hz2 rfl (by decide) u9 k vs rfl hoV ⟨u3.heap.size, 0, none⟩ 1 1 [.int .i64 k, .slice E c.batch.toNat ec, .int .i64 (ratI c k), .int .u64 (rootS (st (k + 1))), .int .u64 (ch (k + 1))] rfl rfl (World.news_of_block (cs := #[.int .i64 k, .slice E c.batch.toNat ec, .int .i64 (ratI c k), .int .u64 (rootS (st (k + 1))), .int .u64 (ch (k + 1))]) hNB) (by simp [Value.oneCell']) (by omega) (by unfold maxLen; omega) (by omega) (by simp <;> omega) (u3.heap.size + 1) (by simp) ?_; intro g1 cap1 w1 hown1 hgrow hgg hlt1)
    have hgg' : u9.ownBlock = some g1 ∨ ((u3.setCell ⟨wr.heap.size, 4, none⟩ (.int .u64 (ch (k + 1)))).alloc (.cells #[.int .i64 k, .slice E c.batch.toNat ec, .int .i64 (ratI c k), .int .u64 (rootS (st (k + 1))), .int .u64 (ch (k + 1))] 90)).heap.size ≤ g1 := hgg.imp id (fun h => by rw [hsX]; omega)
    have hH2 := Held.push (keeps_rec (some m)) hown1 hvl rfl hpV X3X hgrow hgg'
    have hM2 := hMX.grown hgrow (fun e => by have := hHlt m e.symm; omega)
    have K1 := (X1X.turn hgrow hgg').ints.1
    have K2 := (X2X.turn hgrow hgg').ints.1
    have hB2 := Below.grown hBX hgrow (by rw [hsX]; omega) (fun x hx => by have := hHlt x hx; omega)
    clear hown1 hgrow hgg hgg' X1X X2X X3X hpV hoV hMX hNB hBX
    go_roundw
    case rel => exact ⟨k + 1, B1, q1, B2, q2, by omega, by go_num, rfl, hH2, hM2, K1, K2, q1l, hB2⟩
    case measure => simp [intOf]; omega
   ·obtain rfl : k = N := by omega
    obtain ⟨A, c', hv, _⟩ := hH.slice
    subst hv
    go_wp2
    go_ret
    exact ⟨A, c', rfl, (hH.imp RecK.drop).base (by omega), hbx⟩
end Go.Proofs.YtgodgedhddngeaaGreatDoor
