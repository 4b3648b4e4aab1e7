/- The document's own states: a walk. -/
import Derived.Test.YtgodgedhddngeaaGreatDoorRJrn
set_option maxRecDepth 100000
set_option maxHeartbeats 16000000
namespace Go.Proofs.YtgodgedhddngeaaGreatDoor
open Go.RowKit Pl
theorem Blk.drew' {w : World} {g : Nat} {t : TypeId} {cs : Array Value} (h : Blk w g t cs) : Blk w.drew g t cs := h
theorem StBx.alloc {x u : World} {N : Nat} {s : List Int × List Int} {v : Value} (h : StBx x N s v u) (o : Obj) : StBx x N s v (u.alloc o) := by
 obtain ⟨m, B1, q1, B2, q2, rfl, hB, o1, o2, hm, hb⟩ := h
 exact ⟨m, B1, q1, B2, q2, rfl, hB.alloc o, o1.alloc o, o2.alloc o, hm, hb.alloc hb.size o⟩
section
variable {x u : World} {m m' N : Nat} {s : List Int × List Int} {B1 B2 : Option Addr} {q1 q2 : Nat} {a0 a1 : Value}
theorem stb_b (h : Below x.heap.size x u) (o1 : u.ownsRow x.heap.size 3 1 (.slice B1 N q1) N (s.1.map (.int .i64))) (o2 : u.ownsRow x.heap.size 3 1 (.slice B2 N q2) N (s.2.map (.int .i64))) (o : Obj) :
  StBx x N s (.pointer (some ⟨u.heap.size + 1, 0, none⟩)) ((u.alloc o).alloc (.cells #[.slice B1 N q1, .slice B2 N q2] 106)) := by
 have h2 := st_laid (h.alloc h.size o) (o1.alloc o) (o2.alloc o) (Nat.le_refl _)
 rwa [show (u.alloc o).heap.size = u.heap.size + 1 by simp] at h2
theorem stb_d (h : Below x.heap.size x u) (o1 : u.ownsRow x.heap.size 3 1 (.slice B1 N q1) N (s.1.map (.int .i64))) (o2 : u.ownsRow x.heap.size 3 1 (.slice B2 N q2) N (s.2.map (.int .i64))) (hz : Blk u m 106 #[a0, a1])
  (n1 : (Value.slice B1 N q1).ownBlock ≠ some m) (n2 : (Value.slice B2 N q2).ownBlock ≠ some m) (hm : x.heap.size ≤ m) (hne : m ≠ m') (p1 : (Value.slice B1 N q1).ownBlock ≠ some m') (p2 : (Value.slice B2 N q2).ownBlock ≠ some m') (hm' : x.heap.size ≤ m') (v0 v1 v2 v3 v4 : Value) :
  StBx x N s (.pointer (some ⟨m, 0, none⟩)) (((((((u.setCell ⟨m, 0, none⟩ (.slice B1 N q1)).setCell ⟨m, 1, none⟩ (.slice B2 N q2)).setCell ⟨m', 0, none⟩ v0).setCell ⟨m', 1, none⟩ v1).setCell ⟨m', 2, none⟩ v2).setCell ⟨m', 3, none⟩ v3).setCell ⟨m', 4, none⟩ v4) := by
 have hB := ((But.refl m u).put 0 (.slice B1 N q1)).put 1 (.slice B2 N q2)
 obtain ⟨W2, hW2⟩ : ∃ W2, W2 = (u.setCell ⟨m, 0, none⟩ (.slice B1 N q1)).setCell ⟨m, 1, none⟩ (.slice B2 N q2) := ⟨_, rfl⟩
 have hz2 : Blk W2 m 106 #[.slice B1 N q1, .slice B2 N q2] := by rw [hW2]; exact (hz.put 0 _).put 1 _
 rw [← hW2] at hB ⊢
 have hb2 := but_to h hB hm h.size
 have k1 := own_butN o1 hB n1
 have k2 := own_butN o2 hB n2
 have hC := ((((But.refl m' W2).put 0 v0).put 1 v1).put 2 v2).put 3 v3 |>.put 4 v4
 exact ⟨m, B1, q1, B2, q2, rfl, hz2.butB hC hne, own_butN k1 hC p1, own_butN k2 hC p2, hm, but_to hb2 hC hm' hb2.size⟩
theorem stb_e (h : Below x.heap.size x u) (o1 : u.ownsRow x.heap.size 3 1 (.slice B1 N q1) N (s.1.map (.int .i64))) (o2 : u.ownsRow x.heap.size 3 1 (.slice B2 N q2) N (s.2.map (.int .i64)))
  (p1 : (Value.slice B1 N q1).ownBlock ≠ some m') (p2 : (Value.slice B2 N q2).ownBlock ≠ some m') (hm' : x.heap.size ≤ m') (v0 v1 v2 v3 v4 : Value) :
  StBx x N s (.pointer (some ⟨u.heap.size, 0, none⟩)) ((((((u.setCell ⟨m', 0, none⟩ v0).setCell ⟨m', 1, none⟩ v1).setCell ⟨m', 2, none⟩ v2).setCell ⟨m', 3, none⟩ v3).setCell ⟨m', 4, none⟩ v4).alloc (.cells #[.slice B1 N q1, .slice B2 N q2] 106)) := by
 have hC := ((((But.refl m' u).put 0 v0).put 1 v1).put 2 v2).put 3 v3 |>.put 4 v4
 have hs : (((((u.setCell ⟨m', 0, none⟩ v0).setCell ⟨m', 1, none⟩ v1).setCell ⟨m', 2, none⟩ v2).setCell ⟨m', 3, none⟩ v3).setCell ⟨m', 4, none⟩ v4).heap.size = u.heap.size := by simp
 obtain ⟨W2, hW2⟩ : ∃ W2, W2 = ((((u.setCell ⟨m', 0, none⟩ v0).setCell ⟨m', 1, none⟩ v1).setCell ⟨m', 2, none⟩ v2).setCell ⟨m', 3, none⟩ v3).setCell ⟨m', 4, none⟩ v4 := ⟨_, rfl⟩
 rw [← hW2] at hC hs ⊢
 have h2 := st_laid (but_to h hC hm' h.size) (own_butN o1 hC p1) (own_butN o2 hC p2) (Nat.le_refl _)
 rwa [hs] at h2
end
theorem own_ne_lo {w : World} {base p : Nat} {e : TypeId} {size : Nat} {v : Value} {n : Nat} {xs : List Value} (h : w.ownsRow base e size v n xs) (hp : p < base) : v.ownBlock ≠ some p := fun e => absurd (h.lt _ e).1 (Nat.not_le_of_lt hp)
theorem own_ne_hi {w : World} {base p : Nat} {e : TypeId} {size : Nat} {v : Value} {n : Nat} {xs : List Value} (h : w.ownsRow base e size v n xs) (hp : w.heap.size ≤ p) : v.ownBlock ≠ some p := fun e => absurd (h.lt _ e).2 (Nat.not_lt_of_le hp)
theorem ref_States (c : Cfg) (ds : Data) (hf : Fine c ds) (s0 : 0 ≤ c.seed) (s1 : c.seed < 18446744073709551616) (D : Option Addr) (n dc : Nat) (w : World) (hd : Duos w D n ds) (N : Nat) (hN : (N : Int) ≤ c.steps) :
  Calls Tryz.prog 65 #[.agg #[.int .i64 c.ci, .int .i64 c.ch, .int .i64 c.co, .int .u64 c.seed, .int .i64 c.batch, .int .i64 c.steps, .int .i64 c.rate, .int .i64 c.decay, .int .i64 c.how, .int .i64 c.keep, .int .i64 c.clip], .slice D n dc, .int .i64 N] w fun e w' => ∃ g k, e = .returned (.slice (some ⟨g, 0, none⟩) (N + 1) k) ∧ StHeld none w.heap.size (states c ds) (N + 1) (.slice (some ⟨g, 0, none⟩) (N + 1) k) w' ∧ Below w.heap.size w w' := by
 obtain ⟨i0, hi0, hz0, hz1, hz2⟩ := info_parts state_info
 have hst := hf.ok.st
 have n40 := hf.ok.n40
 have HNX := Lib.hid (fun W (h : Below w.heap.size w W) (k : Nat) (hk : (k : Int) < c.steps) A1 A2 k1 k2 i1 i2 hk1 => ref_Next c ds hf s0 s1 D n dc W (hd.below h) (states c ds k) (fits_states c ds k) A1 A2 k1 k2 i1 i2 hk1 k hk)
 have HSR := Lib.hid (fun W => ref_Start c W hf.e s0 s1)
 have HL1 := Lib.hid (states_len1 c ds)
 have HL2 := Lib.hid (states_len2 c ds)
 have HSU := Lib.hid (states_succ c ds)
 have HZ := Lib.hid (states_zero c ds)
 have HB0 := Blk.made w 29 #[.int .i64 c.ci, .int .i64 c.ch, .int .i64 c.co, .int .u64 c.seed, .int .i64 c.batch, .int .i64 c.steps, .int .i64 c.rate, .int .i64 c.decay, .int .i64 c.how, .int .i64 c.keep, .int .i64 c.clip]
 clear hf hd
 obtain ⟨st, hst'⟩ : ∃ st, st = states c ds := ⟨_, rfl⟩
 rw [← hst'] at HNX HL1 HL2 HSU HZ ⊢
 clear hst'
 obtain ⟨nx, hnx⟩ : ∃ nx, nx = fun k => nextS c ds (st k) k := ⟨_, rfl⟩
 have HNE := Lib.hid (fun k => show nextS c ds (st k) k = nx k from by rw [hnx])
 clear hnx
 have HSK := Lib.hid (fun k => show st (k + 1) = nx k from (HSU.out k).trans (HNE.out k))
 obtain ⟨sa, hsa⟩ : ∃ sa, sa = start c := ⟨_, rfl⟩
 rw [← hsa] at HSR HZ
 clear hsa
 have hw0 : Below w.heap.size w (w.alloc (.cells #[.int .i64 c.ci, .int .i64 c.ch, .int .i64 c.co, .int .u64 c.seed, .int .i64 c.batch, .int .i64 c.steps, .int .i64 c.rate, .int .i64 c.decay, .int .i64 c.how, .int .i64 c.keep, .int .i64 c.clip] 29)) := (Below.refl _ _).alloc (Nat.le_refl _) _
 go_enter Tryz.func65, Tryz.ntmps65
 go_wp2_with fail
 refine (HSR.out _).mono ?_
 rintro e x2 ⟨A1, k1, A2, k2, rfl, O1, O2, hb2⟩
 rw [← HZ.out] at O1 O2
 have hbw := hw0.trans (hb2.mono hw0.size)
 replace HB0 := HB0.below hb2 (by simp)
 have hlw := HB0.lt
 have V1 : ListV none x2 (some x2.heap.size) (.slice A1 c.N k1) (st 0).1 := ListV.own O1 (HL1.out 0) (fun b h1 h2 => ⟨by simp, by simp; omega⟩)
 have V2 : ListV none x2 (some x2.heap.size) (.slice A2 c.N k2) (st 0).2 := ListV.own O2 (HL2.out 0) (fun b h1 h2 => ⟨by simp, by simp; omega⟩)
 have hH0 : StHeld none (w.heap.size + 1) st 1 (.slice (some ⟨x2.heap.size, 0, none⟩) 1 1) (x2.alloc (.cells #[.slice A1 c.N k1, .slice A2 c.N k2] 106)) :=
  Held.one (e := 106) (sz := 2) (B := w.heap.size + 1) (f := st) (w := x2) (cs := #[.slice A1 c.N k1, .slice A2 c.N k2]) (keeps_st none) (by omega) rfl ⟨_, _, rfl, V1, V2⟩
 have b0 : Below (w.heap.size + 1) x2 (x2.alloc (.cells #[.slice A1 c.N k1, .slice A2 c.N k2] 106)) := (Below.refl _ _).alloc (by omega) _
 obtain ⟨W0, hW0⟩ : ∃ W0, W0 = x2.alloc (.cells #[.slice A1 c.N k1, .slice A2 c.N k2] 106) := ⟨_, rfl⟩
 rw [← hW0] at hH0 b0
 have HW0 := Lib.hid hW0
 obtain ⟨g0, hg0⟩ : ∃ g, g = x2.heap.size := ⟨_, rfl⟩
 have HG0 := Lib.hid hg0
 rw [← hg0] at hH0
 clear hW0 hg0 V1 V2 O1 O2 hb2
 go_wp2
 rw [← HW0.out, ← HG0.out]
 go_loopw [7, 8, 9] (fun o j _ wr => ∃ (k g cg : Nat), k ≤ N ∧ j = .int .i64 k ∧ o = .slice (some ⟨g, 0, none⟩) (k + 1) cg ∧ StHeld none (w.heap.size + 1) st (k + 1) (.slice (some ⟨g, 0, none⟩) (k + 1) cg) wr ∧ Below (w.heap.size + 1) x2 wr) (fun _ j _ _ => N - (intOf j).toNat)
 case atStart => exact ⟨0, g0, 1, by omega, rfl, rfl, hH0, b0⟩
 case round =>
  clear hH0 b0
  obtain ⟨k, g, cg, hk, rfl, rfl, hH, hb⟩ := hrel
  have hbx := hbw.trans (hb.mono (by omega))
  by_cases hlt : k < N
  ·obtain ⟨a1, q1, a2, q2, m0, m1, I1, I2, l1, hgl⟩ := StHeld.at' (N := c.N) hH (j := k) (by omega) (HL1.out k) (HL2.out k)
   obtain ⟨d0, d1, d2, d3, d4, d5, d6, d7, d8, d9, da⟩ := (HB0.below hb (by omega)).cfg
   have HNK := Lib.hid (fun W (h : Below wr.heap.size wr W) => HNX.out W (hbx.trans (h.mono hbx.size)) k (by omega) a1 a2 q1 q2 (I1.below h) (I2.below h) l1)
   have k0 : (0 : Int) ≤ (k : Int) := by omega
   have kk1 : (k : Int) < (k : Int) + 1 := by omega
   have kk2 : (k : Int) < ((k + 1 : Nat) : Int) := by omega
   have hlw' : w.heap.size < wr.heap.size := (HB0.below hb (by omega)).lt
   obtain ⟨wa, rfl⟩ : ∃ wa : World, wa = wr := ⟨_, rfl⟩
   have HSS := Lib.hid (fun W (h : Below wa.heap.size wa W) => (⟨((HB0.below hb (by omega)).below h hlw').cfg, (h.cell (p := ⟨g, k * 2, none⟩) hgl).trans m0, (h.cell (p := ⟨g, k * 2 + 1, none⟩) hgl).trans m1⟩ :
    (W.cell? ⟨w.heap.size, 0, none⟩ = some (.int .i64 c.ci) ∧ W.cell? ⟨w.heap.size, 1, none⟩ = some (.int .i64 c.ch) ∧ W.cell? ⟨w.heap.size, 2, none⟩ = some (.int .i64 c.co) ∧ W.cell? ⟨w.heap.size, 3, none⟩ = some (.int .u64 c.seed) ∧ W.cell? ⟨w.heap.size, 4, none⟩ = some (.int .i64 c.batch) ∧ W.cell? ⟨w.heap.size, 5, none⟩ = some (.int .i64 c.steps) ∧ W.cell? ⟨w.heap.size, 6, none⟩ = some (.int .i64 c.rate) ∧ W.cell? ⟨w.heap.size, 7, none⟩ = some (.int .i64 c.decay) ∧ W.cell? ⟨w.heap.size, 8, none⟩ = some (.int .i64 c.how) ∧ W.cell? ⟨w.heap.size, 9, none⟩ = some (.int .i64 c.keep) ∧ W.cell? ⟨w.heap.size, 10, none⟩ = some (.int .i64 c.clip)) ∧ W.cell? ⟨g, k * 2, none⟩ = some (.slice a1 c.N q1) ∧ W.cell? ⟨g, k * 2 + 1, none⟩ = some (.slice a2 c.N q2)))
   have qz0 : wa.heap.size ≤ wa.heap.size := Nat.le_refl _
   have qz1 : wa.heap.size ≤ wa.heap.size + 1 := Nat.le_succ _
   go_upto_region 5 with fail
   go_cut [9] (fun v wx => StBx wa c.N (st (k + 1)) v wx)
   case first =>
    have hle0 : w.heap.size ≤ wa.heap.size := Nat.le_of_lt hlw'
    have hle1 : g ≤ wa.heap.size := Nat.le_of_lt hgl
    have hAA1 : wa.heap.size ≠ wa.heap.size + 1 := by omega
    have hA1A : wa.heap.size + 1 ≠ wa.heap.size := by omega
    go_region_law (first
     | (go_simp; go_at_call 99; (refine (HNK.out _ (by first | with_reducible exact (Below.refl _ _).drew | with_reducible exact (bal (Below.refl _ _) _).drew | with_reducible exact (bal (bal (Below.refl _ _) _) _).drew)).mono ?_); rintro e u1 ⟨B1, r1, B2, r2, E, ec, rfl, O1, O2, O3, hbN⟩; rw [HNE.out, ← HSK.out k] at O1 O2; first
      | (with_reducible have hx1 : Below wa.heap.size wa u1 := bel_trans ((Below.refl _ _).drew) hbN; have qz2 : wa.heap.size ≤ u1.heap.size := hx1.size; have qz3 : wa.heap.size ≤ u1.heap.size + 1 := Nat.le_succ_of_le qz2; have n00 : (Value.slice B1 c.N r1).ownBlock ≠ some (u1.heap.size) := own_ne_hi O1 (by first | exact Nat.le_refl _ | exact Nat.le_succ _); have n01 : (Value.slice B1 c.N r1).ownBlock ≠ some (u1.heap.size + 1) := own_ne_hi O1 (by first | exact Nat.le_refl _ | exact Nat.le_succ _); have n10 : (Value.slice B2 c.N r2).ownBlock ≠ some (u1.heap.size) := own_ne_hi O2 (by first | exact Nat.le_refl _ | exact Nat.le_succ _); have n11 : (Value.slice B2 c.N r2).ownBlock ≠ some (u1.heap.size + 1) := own_ne_hi O2 (by first | exact Nat.le_refl _ | exact Nat.le_succ _); have P1 := own_base O1 (base' := wa.heap.size) (by simp <;> omega); have P2 := own_base O2 (base' := wa.heap.size) (by simp <;> omega))
      | (with_reducible have hx1 : Below wa.heap.size wa u1 := bel_trans ((bal (Below.refl _ _) _).drew) hbN; with_reducible have hzS : Blk u1 wa.heap.size 106 #[.slice none 0 0, .slice none 0 0] := (((Blk.made wa 106 #[.slice none 0 0, .slice none 0 0]).drew').below hbN (by simp)); have qz2 : wa.heap.size ≤ u1.heap.size := hx1.size; have qz3 : wa.heap.size ≤ u1.heap.size + 1 := Nat.le_succ_of_le qz2; have n00 : (Value.slice B1 c.N r1).ownBlock ≠ some (wa.heap.size) := own_ne_lo O1 (by simp <;> omega); have n01 : (Value.slice B1 c.N r1).ownBlock ≠ some (u1.heap.size) := own_ne_hi O1 (by first | exact Nat.le_refl _ | exact Nat.le_succ _); have n10 : (Value.slice B2 c.N r2).ownBlock ≠ some (wa.heap.size) := own_ne_lo O2 (by simp <;> omega); have n11 : (Value.slice B2 c.N r2).ownBlock ≠ some (u1.heap.size) := own_ne_hi O2 (by first | exact Nat.le_refl _ | exact Nat.le_succ _); have P1 := own_base O1 (base' := wa.heap.size) (by simp <;> omega); have P2 := own_base O2 (base' := wa.heap.size) (by simp <;> omega); have lzS := hzS.lt; obtain ⟨⟨p0, p1⟩, p2, p3⟩ := hzS.two)
      | (with_reducible have hx1 : Below wa.heap.size wa u1 := bel_trans ((bal (Below.refl _ _) _).drew) hbN; with_reducible have hzR : Blk u1 wa.heap.size 90 #[.int .i64 0, .slice none 0 0, .int .i64 0, .int .u64 0, .int .u64 0] := (((Blk.made wa 90 #[.int .i64 0, .slice none 0 0, .int .i64 0, .int .u64 0, .int .u64 0]).drew').below hbN (by simp)); have qz2 : wa.heap.size ≤ u1.heap.size := hx1.size; have qz3 : wa.heap.size ≤ u1.heap.size + 1 := Nat.le_succ_of_le qz2; have n00 : (Value.slice B1 c.N r1).ownBlock ≠ some (wa.heap.size) := own_ne_lo O1 (by simp <;> omega); have n01 : (Value.slice B1 c.N r1).ownBlock ≠ some (u1.heap.size) := own_ne_hi O1 (by first | exact Nat.le_refl _ | exact Nat.le_succ _); have n10 : (Value.slice B2 c.N r2).ownBlock ≠ some (wa.heap.size) := own_ne_lo O2 (by simp <;> omega); have n11 : (Value.slice B2 c.N r2).ownBlock ≠ some (u1.heap.size) := own_ne_hi O2 (by first | exact Nat.le_refl _ | exact Nat.le_succ _); have P1 := own_base O1 (base' := wa.heap.size) (by simp <;> omega); have P2 := own_base O2 (base' := wa.heap.size) (by simp <;> omega); have lzR := hzR.lt; obtain ⟨⟨r0', r1', r2', r3', r4'⟩, t0, t1, t2, t3, t4⟩ := hzR.rec5)
      | (with_reducible have hx1 : Below wa.heap.size wa u1 := bel_trans ((bal (bal (Below.refl _ _) _) _).drew) hbN; with_reducible have hzS : Blk u1 wa.heap.size 106 #[.slice none 0 0, .slice none 0 0] := ((((Blk.made wa 106 #[.slice none 0 0, .slice none 0 0]).alloc (.cells #[.int .i64 0, .slice none 0 0, .int .i64 0, .int .u64 0, .int .u64 0] 90)).drew').below hbN (by simp <;> omega)); with_reducible have hzR : Blk u1 (wa.heap.size + 1) 90 #[.int .i64 0, .slice none 0 0, .int .i64 0, .int .u64 0, .int .u64 0] := (((Blk.made' (wa.alloc (.cells #[.slice none 0 0, .slice none 0 0] 106)) 90 #[.int .i64 0, .slice none 0 0, .int .i64 0, .int .u64 0, .int .u64 0] (g := wa.heap.size + 1) (by simp)).drew').below hbN (by simp)); have qz2 : wa.heap.size ≤ u1.heap.size := hx1.size; have qz3 : wa.heap.size ≤ u1.heap.size + 1 := Nat.le_succ_of_le qz2; have n00 : (Value.slice B1 c.N r1).ownBlock ≠ some (wa.heap.size) := own_ne_lo O1 (by simp <;> omega); have n01 : (Value.slice B1 c.N r1).ownBlock ≠ some (wa.heap.size + 1) := own_ne_lo O1 (by simp <;> omega); have n10 : (Value.slice B2 c.N r2).ownBlock ≠ some (wa.heap.size) := own_ne_lo O2 (by simp <;> omega); have n11 : (Value.slice B2 c.N r2).ownBlock ≠ some (wa.heap.size + 1) := own_ne_lo O2 (by simp <;> omega); have P1 := own_base O1 (base' := wa.heap.size) (by simp <;> omega); have P2 := own_base O2 (base' := wa.heap.size) (by simp <;> omega); have lzS := hzS.lt; obtain ⟨⟨p0, p1⟩, p2, p3⟩ := hzS.two; have lzR := hzR.lt; obtain ⟨⟨r0', r1', r2', r3', r4'⟩, t0, t1, t2, t3, t4⟩ := hzR.rec5)
      | (with_reducible have hx1 : Below wa.heap.size wa u1 := bel_trans ((bal (bal (Below.refl _ _) _) _).drew) hbN; with_reducible have hzS : Blk u1 (wa.heap.size + 1) 106 #[.slice none 0 0, .slice none 0 0] := (((Blk.made' (wa.alloc (.cells #[.int .i64 0, .slice none 0 0, .int .i64 0, .int .u64 0, .int .u64 0] 90)) 106 #[.slice none 0 0, .slice none 0 0] (g := wa.heap.size + 1) (by simp)).drew').below hbN (by simp)); with_reducible have hzR : Blk u1 wa.heap.size 90 #[.int .i64 0, .slice none 0 0, .int .i64 0, .int .u64 0, .int .u64 0] := ((((Blk.made wa 90 #[.int .i64 0, .slice none 0 0, .int .i64 0, .int .u64 0, .int .u64 0]).alloc (.cells #[.slice none 0 0, .slice none 0 0] 106)).drew').below hbN (by simp <;> omega)); have qz2 : wa.heap.size ≤ u1.heap.size := hx1.size; have qz3 : wa.heap.size ≤ u1.heap.size + 1 := Nat.le_succ_of_le qz2; have n00 : (Value.slice B1 c.N r1).ownBlock ≠ some (wa.heap.size) := own_ne_lo O1 (by simp <;> omega); have n01 : (Value.slice B1 c.N r1).ownBlock ≠ some (wa.heap.size + 1) := own_ne_lo O1 (by simp <;> omega); have n10 : (Value.slice B2 c.N r2).ownBlock ≠ some (wa.heap.size) := own_ne_lo O2 (by simp <;> omega); have n11 : (Value.slice B2 c.N r2).ownBlock ≠ some (wa.heap.size + 1) := own_ne_lo O2 (by simp <;> omega); have P1 := own_base O1 (base' := wa.heap.size) (by simp <;> omega); have P2 := own_base O2 (base' := wa.heap.size) (by simp <;> omega); have lzS := hzS.lt; obtain ⟨⟨p0, p1⟩, p2, p3⟩ := hzS.two; have lzR := hzR.lt; obtain ⟨⟨r0', r1', r2', r3', r4'⟩, t0, t1, t2, t3, t4⟩ := hzR.rec5))
     | fail)
    all_goals
     go_wp2
     go_meet
     case rel =>
      first
       | (with_reducible exact (st_laid hx1 P1 P2 (Nat.le_refl _)).alloc _)
       | (with_reducible exact stb_b hx1 P1 P2 _)
       | (with_reducible exact (st_storedN hx1 P1 P2 (Nat.le_refl _) hzS n00 n10 qz0).alloc _)
       | (with_reducible exact stb_d hx1 P1 P2 hzS n00 n10 qz0 hAA1 n01 n11 qz1 _ _ _ _ _)
       | (with_reducible exact stb_e hx1 P1 P2 n00 n10 qz0 _ _ _ _ _)
       | (with_reducible exact stb_d hx1 P1 P2 hzS n01 n11 qz1 hA1A n00 n10 qz0 _ _ _ _ _)
       | fail
   case rest =>
    obtain ⟨m, B1, r1, B2, r2, rfl, BS, O1, O2, hmx, hbc⟩ := hcut
    obtain ⟨y, rfl⟩ : ∃ y : World, y = wc := ⟨_, rfl⟩
    have hlm := BS.lt
    have hsy := hbc.size
    obtain ⟨⟨p0, p1⟩, _⟩ := BS.two
    have bA : Below y.heap.size y (y.alloc (.cells #[.slice B1 c.N r1, .slice B2 c.N r2] 106)) := (Below.refl _ _).alloc (Nat.le_refl _) _
    have hHX := (hH.below (keeps_st _) hbc).below (keeps_st _) bA
    have X1 : ListV none y (some g) (.slice B1 c.N r1) (st (k + 1)).1 := ListV.own O1 (HL1.out _) (fun b h1 h2 => ⟨by simp, by simp; omega⟩)
    have X2 : ListV none y (some g) (.slice B2 c.N r2) (st (k + 1)).2 := ListV.own O2 (HL2.out _) (fun b h1 h2 => ⟨by simp, by simp; omega⟩)
    have X1X := X1.below bA
    have X2X := X2.below bA
    have hNB : Blk (y.alloc (.cells #[.slice B1 c.N r1, .slice B2 c.N r2] 106)) y.heap.size 106 #[.slice B1 c.N r1, .slice B2 c.N r2] := Blk.made _ _ _
    have hbX : Below (w.heap.size + 1) x2 (y.alloc (.cells #[.slice B1 c.N r1, .slice B2 c.N r2] 106)) := (hb.trans (hbc.mono (by omega))).alloc (by omega) _
    obtain ⟨vs, hoV, hpV⟩ := hHX
    have hvl := hoV.1
    have hgb := hoV.lt g rfl
    clear X1 X2 bA O1 O2 hH d0 d1 d2 d3 d4 d5 d6 d7 d8 d9 da m0 m1
    go_wp2_with (at_builtin; refine wpList_append_lies _ rfl _ _ 96 rfl (w.heap.size + 1) 106 i0 (.agg #[.slice none 0 0, .slice none 0 0]) 2 48 Tryz.underlying96 hi0 hz0 hz1 hz2 rfl (by decide) (.slice (some ⟨g, 0, none⟩) (k + 1) cg) (k + 1) vs rfl hoV ⟨y.heap.size, 0, none⟩ 1 1 [.slice B1 c.N r1, .slice B2 c.N r2] rfl rfl (World.news_of_block (cs := #[.slice B1 c.N r1, .slice B2 c.N r2]) hNB) (by simp [Value.oneCell']) (by omega) (by unfold maxLen; omega) (by omega) (by simp <;> omega) (y.heap.size + 1) (by simp) ?_; intro g1 cap1 w1 hown1 hgrow hgg hlt1)
    have hgg' : (Value.slice (some ⟨g, 0, none⟩) (k + 1) cg).ownBlock = some g1 ∨ (y.alloc (.cells #[.slice B1 c.N r1, .slice B2 c.N r2] 106)).heap.size ≤ g1 := hgg.imp id (fun h => by simp; omega)
    have hH2 := Held.push (keeps_st none) hown1 hvl rfl hpV ⟨_, _, rfl, X1X, X2X⟩ hgrow hgg'
    have hB2 := Below.grown hbX hgrow (by simp; omega) (fun x hx => by have e : g = x := Option.some.inj hx; omega)
    clear hown1 hgrow hgg hgg' X1X X2X hpV hoV hNB hbX
    go_roundw
    case rel => exact ⟨k + 1, g1, cap1, by omega, by go_num, rfl, hH2, hB2⟩
    case measure => simp [intOf]; omega
  ·obtain rfl : k = N := by omega
   go_wp2
   go_ret
   exact ⟨g, cg, rfl, hH.base (by omega), hbx⟩
end Go.Proofs.YtgodgedhddngeaaGreatDoor
