/- train.Run, journal.Make once more: what they hand back stands in blocks of its own, state by state: walks. -/
import Derived.Test.YtgodgedhddngeaaGreatDoorJrnA
set_option maxRecDepth 100000
set_option maxHeartbeats 16000000
namespace Go.Proofs.YtgodgedhddngeaaGreatDoor
open Go.RowKit Pl
def ListO (m : Option Nat) (w : World) (o : Option Nat) (v : Value) (xs : List Int) : Prop :=
 ∃ b c cur, v = .slice (some ⟨b, 0, none⟩) xs.length c ∧ Blk w b 3 cur ∧ cur.size = c ∧ xs.length ≤ c ∧ c ≤ maxLen ∧ Ints .i64 w (some ⟨b, 0, none⟩) xs.length xs ∧ m ≠ some b ∧ o ≠ some b
section
variable {m : Option Nat} {w w' : World} {o : Option Nat} {v : Value} {xs : List Int}
theorem ListO.below (h : ListO m w o v xs) (hb : Below w.heap.size w w') : ListO m w' o v xs := by
 obtain ⟨b, c, cur, rfl, hB, hs, h1, h2, hi, n1, n2⟩ := h
 exact ⟨b, c, cur, rfl, hB.below hb hB.lt, hs, h1, h2, hi.below hb, n1, n2⟩
theorem ListO.turn {g : Nat} (h : ListO m w o v xs) (hg : w.grownBy w' o) (hgg : o = some g ∨ w.heap.size ≤ g) : ListO m w' (some g) v xs := by
 obtain ⟨b, c, cur, rfl, hB, hs, h1, h2, hi, n1, n2⟩ := h
 refine ⟨b, c, cur, rfl, hB.grown hg (fun e => n2 e.symm), hs, h1, h2, ints_grown hi hg (fun b' off e => by cases e; exact n2), n1, fun e => ?_⟩
 injection e with e
 subst e
 have hl := hB.lt
 rcases hgg with h | h
 ·exact n2 h
 ·omega
theorem ListO.but {q : Nat} (h : ListO (some q) w o v xs) (hb : But q w w') : ListO (some q) w' o v xs := by
 obtain ⟨b, c, cur, rfl, hB, hs, h1, h2, hi, n1, n2⟩ := h
 have hq : b ≠ q := fun e => n1 (by rw [e])
 refine ⟨b, c, cur, rfl, hB.butB hb hq, hs, h1, h2, ⟨hi.len, fun hn => ?_⟩, n1, n2⟩
 obtain ⟨b', off, e, hl, hc⟩ := hi.cells hn
 cases e
 exact ⟨b, 0, rfl, Nat.lt_of_lt_of_le hl hb.size, fun j hj => (World.cell?_of_block (a := ⟨b, 0 + j, none⟩) (hb.block b hl hq)).trans (hc j hj)⟩
theorem ListO.own {B n : Nat} {A : Option Addr} {c : Nat} (h : w.ownsRow B 3 1 (.slice A n c) n (xs.map (.int .i64))) (hl : xs.length = n) (h0 : 0 < n) (ho : ∀ b, B ≤ b → b < w.heap.size → m ≠ some b ∧ o ≠ some b) : ListO m w o (.slice A n c) xs := by
 subst hl
 have h' := h
 rcases h.2 with ⟨hv, h0'⟩ | ⟨g, cap, cur, hv, hb, hlt, h1, h2, h3, _⟩
 ·omega
 ·injection hv with a1 a2 a3
  subst a1; subst a3
  have hg := (Array.getElem?_eq_some_iff.1 hlt).1
  exact ⟨g, _, cur, rfl, hlt, by rw [h3, Nat.mul_one], h1, h2, Ints.of_own h' rfl, (ho _ hb hg).1, (ho _ hb hg).2⟩
theorem ListO.ints {A : Option Addr} {n c : Nat} (h : ListO m w o (.slice A n c) xs) : Ints .i64 w A n xs ∧ n ≤ c := by
 obtain ⟨b, c', cur, e, hB, hs, h1, h2, hi, n1, n2⟩ := h
 injection e with e1 e2 e3
 subst e1; subst e2; subst e3
 exact ⟨hi, h1⟩
theorem ListO.drop (h : ListO m w o v xs) : ListO none w o v xs := by
 obtain ⟨b, c, cur, e, hB, hs, h1, h2, hi, n1, n2⟩ := h
 exact ⟨b, c, cur, e, hB, hs, h1, h2, hi, by simp, n2⟩
end
def RecKO (B0 : Nat) (m : Option Nat) (w : World) (o : Option Nat) (cs : List Value) (r : Rec) : Prop := ∃ b, cs = [.int .i64 r.step, b, .int .i64 r.rate, .int .u64 r.root, .int .u64 r.chain] ∧ ListO m w o b r.batch ∧ ∀ k, b.ownBlock = some k → B0 ≤ k
theorem keepsO_rec (B0 : Nat) (m : Option Nat) : Keeps (RecKO B0 m) :=
 ⟨fun h hb => by obtain ⟨b, e, h1, h2⟩ := h; exact ⟨b, e, h1.below hb, h2⟩,
  fun h hg hgg => by obtain ⟨b, e, h1, h2⟩ := h; exact ⟨b, e, h1.turn hg hgg, h2⟩⟩
theorem RecKO.but {B0 q : Nat} {w w' : World} {o : Option Nat} {cs : List Value} {r : Rec} (h : RecKO B0 (some q) w o cs r) (hb : But q w w') : RecKO B0 (some q) w' o cs r := by
 obtain ⟨b, e, h1, h2⟩ := h; exact ⟨b, e, h1.but hb, h2⟩
theorem RecKO.drop {B0 : Nat} {m : Option Nat} {w : World} {o : Option Nat} {cs : List Value} {r : Rec} (h : RecKO B0 m w o cs r) : RecKO B0 none w o cs r := by
 obtain ⟨b, e, h1, h2⟩ := h; exact ⟨b, e, h1.drop, h2⟩
theorem recC_KO (c : Cfg) (ds : Data) (k : Nat) {B0 : Nat} {m : Option Nat} {w : World} {o : Option Nat} {b : Value} (h : ListO m w o b ((batI c ds k).map fun (n : Nat) => (n : Int))) (hb : ∀ q, b.ownBlock = some q → B0 ≤ q) :
  RecKO B0 m w o [.int .i64 k, b, .int .i64 (ratI c k), .int .u64 (rootS (states c ds (k + 1))), .int .u64 (chainC c ds (k + 1))] (recC c ds k) := ⟨b, rfl, h, hb⟩
abbrev RecHeldO (B0 : Nat) (m : Option Nat) (B : Nat) (f : Nat → Rec) (k : Nat) (v : Value) (w : World) : Prop := Held (RecKO B0 m) 90 5 B f k v w
theorem jrn_Make_own (c : Cfg) (ds : Data) (hC : crs c ds = 0) (s0 : 0 ≤ c.seed) (s1 : c.seed < 18446744073709551616) (D : Option Addr) (n dc : Nat) (w : World) (hd : Duos w D n ds) (N : Nat) (hN : (N : Int) ≤ c.steps) :
  Calls Tryz.prog 47 #[.agg #[.int .i64 c.ci, .int .i64 c.ch, .int .i64 c.co, .int .u64 c.seed, .int .i64 c.batch, .int .i64 c.steps, .int .i64 c.rate, .int .i64 c.decay, .int .i64 c.how, .int .i64 c.keep, .int .i64 c.clip], .slice D n dc, .int .i64 N] w fun e w' => ∃ A k, e = .returned (.tuple #[.slice A N k, .int .i64 0]) ∧ RecHeldO w.heap.size none w.heap.size (recC c ds) N (.slice A N k) w' ∧ Below w.heap.size w w' := by
 obtain ⟨i0, hi0, hz0, hz1, hz2⟩ := info_parts rec_info
 have hf := fine hC
 have hst := hf.ok.st
 have hba := hf.ok.ba
 have hn : n ≤ 9223372036854775806 := by have := hf.d16; have := hd.len; omega
 have HCK := Lib.hid (fun W (h : Below w.heap.size w W) => jrn_Head_ok c ds hC s0 s1 D n dc W (hd.below h))
 have HNX := Lib.hid (fun W (h : Below w.heap.size w W) (k : Nat) (hk : (k : Int) < c.steps) A1 A2 k1 k2 i1 i2 hk1 => trn_Next_ok c ds hC s0 s1 D n dc W (hd.below h) (states c ds k) (fits_states c ds k) A1 A2 k1 k2 i1 i2 hk1 k hk)
 have HSR := Lib.hid (fun W => start_fine c hf.e s0 s1 W)
 have HRT := Lib.hid (fun (k : Nat) A1 A2 k1 k2 W => root_fine c hf.ok (states c ds (k + 1)) A1 A2 k1 k2 W)
 have HCH := Lib.hid (fun (k : Nat) (hk : (k : Int) < c.steps) A ec W => chain_fine c ds hf k hk A ec W)
 have HRK := Lib.hid (fun (m : Option Nat) (w : World) (o : Option Nat) (b : Value) (k : Nat) (B0 : Nat) (h : ListO m w o b ((batI c ds k).map fun (n : Nat) => (n : Int))) hq => recC_KO c ds k (B0 := B0) h hq)
 have HL1 := Lib.hid (states_len1 c ds)
 have HL2 := Lib.hid (states_len2 c ds)
 have HLB := Lib.hid (fun k => show ((batI c ds k).map fun (n : Nat) => (n : Int)).length = c.batch.toNat by rw [List.length_map, batI_length])
 have HSU := Lib.hid (states_succ c ds)
 have HZ := Lib.hid (states_zero c ds)
 have HH := Lib.hid (show chainC c ds 0 = headI c ds from rfl)
 have HB0 := Blk.made w 29 #[.int .i64 c.ci, .int .i64 c.ch, .int .i64 c.co, .int .u64 c.seed, .int .i64 c.batch, .int .i64 c.steps, .int .i64 c.rate, .int .i64 c.decay, .int .i64 c.how, .int .i64 c.keep, .int .i64 c.clip]
 have hN1 : ¬ c.steps < (N : Int) := by omega
 clear hC hf hd hn
 obtain ⟨st, hst'⟩ : ∃ st, st = states c ds := ⟨_, rfl⟩
 rw [← hst'] at HNX HL1 HL2 HSU HZ HRT HCH HRK
 clear hst'
 obtain ⟨nx, hnx⟩ : ∃ nx, nx = fun k => nextS c ds (st k) k := ⟨_, rfl⟩
 have HNE := Lib.hid (fun k => show nextS c ds (st k) k = nx k from by rw [hnx])
 clear hnx
 have HSK := Lib.hid (fun k => show st (k + 1) = nx k from (HSU.out k).trans (HNE.out k))
 obtain ⟨sa, hsa⟩ : ∃ sa, sa = start c := ⟨_, rfl⟩
 rw [← hsa] at HSR HZ
 clear hsa
 obtain ⟨ch, hch⟩ : ∃ ch, ch = chainC c ds := ⟨_, rfl⟩
 rw [← hch] at HCH HRK HH
 clear hch
 obtain ⟨bt, hbt⟩ : ∃ bt, bt = fun k => (batI c ds k).map fun (n : Nat) => (n : Int) := ⟨_, rfl⟩
 have HBT := Lib.hid (fun k => show ((batI c ds k).map fun (n : Nat) => (n : Int)) = bt k from by rw [hbt])
 have HLB' := Lib.hid (fun k => show (bt k).length = c.batch.toNat by rw [hbt]; exact HLB.out k)
 clear hbt
 obtain ⟨rc, hrc⟩ : ∃ rc, rc = recC c ds := ⟨_, rfl⟩
 rw [← hrc] at HRK ⊢
 clear hrc
 go_enter Tryz.func47, Tryz.ntmps47
 go_wp2_with fail
 refine (HCK.out _ ((Below.refl _ _).alloc (Nat.le_refl _) _)).mono ?_
 rintro e x1 ⟨rfl, hb1⟩
 rw [← HH.out]
 have hbw : Below w.heap.size w x1 := Below.trans (B := w.heap.size) (by repeat (first | exact Below.refl _ _ | assumption | refine bel_drewN ?_ _ | refine Below.drew ?_ | (refine Below.alloc ?_ (by simp <;> omega) _) | (refine Below.setCell ?_ (by simp <;> omega) _))) (hb1.mono (by simp))
 replace HB0 := HB0.below hb1 (by simp)
 have hlw : w.heap.size < x1.heap.size := HB0.lt
 clear hb1 HCK
 obtain ⟨d0, d1, d2, d3, d4, d5, d6, d7, d8, d9, da⟩ := HB0.cfg
 go_wp2_with fail
 refine (HSR.out _).mono ?_
 rintro e x2 ⟨A1, k1, A2, k2, rfl, O1, O2, hb2⟩
 rw [← HZ.out] at O1 O2
 have hs2 := hb2.size
 have l1 := own_capT O1
 have hbw2 := hbw.trans (hb2.mono hbw.size)
 replace HB0 := HB0.below hb2 hlw
 have bA : Below x2.heap.size x2 (x2.alloc (.cells #[.slice A1 c.N k1, .slice A2 c.N k2] 106)) := (Below.refl _ _).alloc (Nat.le_refl _) _
 have HM0 : Blk (x2.alloc (.cells #[.slice A1 c.N k1, .slice A2 c.N k2] 106)) x2.heap.size 106 #[.slice A1 c.N k1, .slice A2 c.N k2] := Blk.made _ _ _
 have I1 := (Ints.of_own O1 (HL1.out 0)).below bA
 have I2 := (Ints.of_own O2 (HL2.out 0)).below bA
 obtain ⟨W0, hW0⟩ : ∃ W0, W0 = (x2.alloc (.cells #[.slice A1 c.N k1, .slice A2 c.N k2] 106)) := ⟨_, rfl⟩
 rw [← hW0] at HM0 bA I1 I2
 obtain ⟨m, hm⟩ : ∃ m, m = x2.heap.size := ⟨_, rfl⟩
 have hmw : w.heap.size < m := by omega
 have hB0 := HB0.below bA HB0.lt
 have hbw0 := hbw2.trans (bA.mono hbw2.size)
 have HW0 := Lib.hid hW0
 rw [← hm] at HM0
 have HM := Lib.hid hm
 have hmz := HM0.lt
 clear hW0 hm bA O1 O2 HB0 hbw hbw2 hb2 hs2 hlw d0 d1 d2 d3 d4 d5 d6 d7 d8 d9 da
 go_wp2
 rw [← HW0.out, ← HM.out]
 go_loopw [8, 12, 13, 14, 40] (fun h o _ _ j wr => ∃ (k : Nat) (A1 : Option Addr) (k1 : Nat) (A2 : Option Addr) (k2 : Nat), k ≤ N ∧ j = .int .i64 k ∧ h = .int .u64 (ch k) ∧ RecHeldO w.heap.size (some m) (m + 1) rc k o wr ∧ Blk wr m 106 #[.slice A1 c.N k1, .slice A2 c.N k2] ∧
  Ints .i64 wr A1 c.N (st k).1 ∧ Ints .i64 wr A2 c.N (st k).2 ∧ c.N ≤ k1 ∧ Below m W0 wr) (fun _ _ _ _ j _ => N - (intOf j).toNat)
 case atStart => exact ⟨0, A1, k1, A2, k2, by omega, rfl, rfl, Held.zero, HM0, I1, I2, l1, Below.refl _ _⟩
 case round =>
  clear HM0 I1 I2 l1
  obtain ⟨k, A1, k1, A2, k2, hk, rfl, rfl, hH, hM, I1, I2, l1, hb⟩ := hrel
  have hbx := hbw0.trans (hb.mono (by omega))
  have hBc := hB0.below hb (by omega)
  by_cases hlt : k < N
  ·obtain ⟨d0, d1, d2, d3, d4, d5, d6, d7, d8, d9, da⟩ := hBc.cfg
   obtain ⟨⟨p0, p1⟩, _⟩ := hM.two
   have hbs := hb.size
   have hlm := hM.lt
   have hlc := hBc.lt
   have b1 : Below wr.heap.size wr (wr.alloc (.cells #[.int .i64 k, .slice none 0 0, .int .i64 0, .int .u64 0, .int .u64 0] 90)) := (Below.refl _ _).alloc (Nat.le_refl _) _
   have R0 : Blk (wr.alloc (.cells #[.int .i64 k, .slice none 0 0, .int .i64 0, .int .u64 0, .int .u64 0] 90)) wr.heap.size 90 #[.int .i64 k, .slice none 0 0, .int .i64 0, .int .u64 0, .int .u64 0] := Blk.made _ _ _
   have hsz0 : (wr.alloc (.cells #[.int .i64 k, .slice none 0 0, .int .i64 0, .int .u64 0, .int .u64 0] 90)).heap.size = wr.heap.size + 1 := by simp
   go_wp2_with fail
   refine (HNX.out _ (hbx.trans (b1.mono hbx.size)) k (by omega) A1 A2 k1 k2 (I1.below b1) (I2.below b1) l1).mono ?_
   rintro e u1 ⟨B1, q1, B2, q2, E, ec, rfl, O1, O2, O3, hb1⟩
   rw [HNE.out] at O1 O2
   rw [← HSK.out k] at O1 O2
   rw [HBT.out] at O3
   rw [hsz0] at O1 O2 O3
   have hM1 := (hM.below b1 hlm).below hb1 (by omega)
   have R1 := R0.below hb1 R0.lt
   obtain ⟨⟨r0, r1⟩, r2, r3⟩ := hM1.two
   obtain ⟨⟨t0, t1, t2, t3, t4⟩, f0, f1, f2, f3, f4⟩ := R1.rec5
   have hlm1 := hM1.lt
   have hlr1 := R1.lt
   have hmr : m ≠ wr.heap.size := by omega
   have hrm : wr.heap.size ≠ m := by omega
   have B1m := ((((but_below (but_below (But.refl m wr) b1) hb1).put 0 (.slice B1 c.N q1)).put 1 (.slice B2 c.N q2)).far (p := ⟨wr.heap.size, 1, none⟩) (Nat.le_refl _) (.slice E c.batch.toNat ec)).far (p := ⟨wr.heap.size, 2, none⟩) (Nat.le_refl _) (.int .i64 (ratI c k))
   have MY := (((hM1.put 0 (.slice B1 c.N q1)).put 1 (.slice B2 c.N q2)).far (p := ⟨wr.heap.size, 1, none⟩) hmr (.slice E c.batch.toNat ec)).far (p := ⟨wr.heap.size, 2, none⟩) hmr (.int .i64 (ratI c k))
   have RY := (((R1.far (p := ⟨m, 0, none⟩) hrm (.slice B1 c.N q1)).far (p := ⟨m, 1, none⟩) hrm (.slice B2 c.N q2)).put 1 (.slice E c.batch.toNat ec)).put 2 (.int .i64 (ratI c k))
   have far4 : ∀ {v : Value} {n : Nat} {xs : List Value}, u1.ownsRow (wr.heap.size + 1) 3 1 v n xs → ((((u1.setCell ⟨m, 0, none⟩ (.slice B1 c.N q1)).setCell ⟨m, 1, none⟩ (.slice B2 c.N q2)).setCell ⟨wr.heap.size, 1, none⟩ (.slice E c.batch.toNat ec)).setCell ⟨wr.heap.size, 2, none⟩ (.int .i64 (ratI c k))).ownsRow (wr.heap.size + 1) 3 1 v n xs := fun h => own_far (own_far (own_far (own_far h (p := ⟨m, 0, none⟩) (by simp; omega) _) (p := ⟨m, 1, none⟩) (by simp; omega) _) (p := ⟨wr.heap.size, 1, none⟩) (by simp) _) (p := ⟨wr.heap.size, 2, none⟩) (by simp) _
   replace O1 := far4 O1
   replace O2 := far4 O2
   replace O3 := far4 O3
   have W1 : Below m W0 ((((u1.setCell ⟨m, 0, none⟩ (.slice B1 c.N q1)).setCell ⟨m, 1, none⟩ (.slice B2 c.N q2)).setCell ⟨wr.heap.size, 1, none⟩ (.slice E c.batch.toNat ec)).setCell ⟨wr.heap.size, 2, none⟩ (.int .i64 (ratI c k))) := ((((((hb.trans (b1.mono (by omega))).trans (hb1.mono (by simp; omega))).setCell (p := ⟨m, 0, none⟩) (Nat.le_refl _) _).setCell (p := ⟨m, 1, none⟩) (Nat.le_refl _) _).setCell (p := ⟨wr.heap.size, 1, none⟩) (by simp; omega) _).setCell (p := ⟨wr.heap.size, 2, none⟩) (by simp; omega) _)
   have sy1 : wr.heap.size + 1 ≤ ((((u1.setCell ⟨m, 0, none⟩ (.slice B1 c.N q1)).setCell ⟨m, 1, none⟩ (.slice B2 c.N q2)).setCell ⟨wr.heap.size, 1, none⟩ (.slice E c.batch.toNat ec)).setCell ⟨wr.heap.size, 2, none⟩ (.int .i64 (ratI c k))).heap.size := by have := hb1.size; simp at this ⊢; omega
   obtain ⟨y1, hy1⟩ : ∃ y1, y1 = ((((u1.setCell ⟨m, 0, none⟩ (.slice B1 c.N q1)).setCell ⟨m, 1, none⟩ (.slice B2 c.N q2)).setCell ⟨wr.heap.size, 1, none⟩ (.slice E c.batch.toNat ec)).setCell ⟨wr.heap.size, 2, none⟩ (.int .i64 (ratI c k))) := ⟨_, rfl⟩
   rw [← hy1] at B1m MY RY O1 O2 O3 W1 sy1
   have HY1 := Lib.hid hy1
   have J1 := Ints.of_own O1 (HL1.out (k + 1))
   have J2 := Ints.of_own O2 (HL2.out (k + 1))
   have q1l := own_capT O1
   clear hy1 far4 b1 I1 I2 hsz0 R0 hM1 R1 hb1 d0 d1 d2 d3 d4 d5 d6 d7 d8 d9 da
   go_wp2_with fail
   rw [← HY1.out]
   refine (HRT.out k B1 B2 q1 q2 y1 J1 J2).mono ?_
   rintro e u2 ⟨rfl, hb2⟩
   have R2 := RY.below hb2 RY.lt
   have M2 := MY.below hb2 MY.lt
   clear r0 r1 r2 r3 t0 t1 t2 t3 t4 f0 f1 f2 f3 f4 p0 p1
   obtain ⟨⟨t0, t1, t2, t3, t4⟩, f0, f1, f2, f3, f4⟩ := R2.rec5
   have B2m := (but_below B1m hb2).far (p := ⟨wr.heap.size, 3, none⟩) (Nat.le_refl _) (.int .u64 (rootS (st (k + 1))))
   replace O1 := own_far (own_below O1 hb2) (p := ⟨wr.heap.size, 3, none⟩) (by simp) (.int .u64 (rootS (st (k + 1))))
   replace O2 := own_far (own_below O2 hb2) (p := ⟨wr.heap.size, 3, none⟩) (by simp) (.int .u64 (rootS (st (k + 1))))
   replace O3 := own_far (own_below O3 hb2) (p := ⟨wr.heap.size, 3, none⟩) (by simp) (.int .u64 (rootS (st (k + 1))))
   have R2' := R2.put 3 (.int .u64 (rootS (st (k + 1))))
   have M2' := M2.far (p := ⟨wr.heap.size, 3, none⟩) hmr (.int .u64 (rootS (st (k + 1))))
   have W2 : Below m W0 (u2.setCell ⟨wr.heap.size, 3, none⟩ (.int .u64 (rootS (st (k + 1))))) := (W1.trans (hb2.mono (by omega))).setCell (p := ⟨wr.heap.size, 3, none⟩) (by simp; omega) _
   have sy2 : wr.heap.size + 1 ≤ (u2.setCell ⟨wr.heap.size, 3, none⟩ (.int .u64 (rootS (st (k + 1))))).heap.size := by have := hb2.size; simp; omega
   have J3 := Ints.of_own O3 (HLB'.out k)
   have lr2 := R2.lt
   clear J1 J2 hb2 W1 sy1 B1m MY RY M2
   go_wp2_with fail
   refine (HCH.out k (by omega) E ec _ (by rw [HBT.out]; exact J3)).mono ?_
   rintro e u3 ⟨rfl, hb3⟩
   have R3 := R2'.below hb3 R2'.lt
   have M3 := M2'.below hb3 M2'.lt
   clear t0 t1 t2 t3 t4 f0 f1 f2 f3 f4
   obtain ⟨⟨t0, t1, t2, t3, t4⟩, f0, f1, f2, f3, f4⟩ := R3.rec5
   have B3m := (but_below B2m hb3).far (p := ⟨wr.heap.size, 4, none⟩) (Nat.le_refl _) (.int .u64 (ch (k + 1)))
   replace O1 := own_far (own_below O1 hb3) (p := ⟨wr.heap.size, 4, none⟩) (by simp) (.int .u64 (ch (k + 1)))
   replace O2 := own_far (own_below O2 hb3) (p := ⟨wr.heap.size, 4, none⟩) (by simp) (.int .u64 (ch (k + 1)))
   replace O3 := own_far (own_below O3 hb3) (p := ⟨wr.heap.size, 4, none⟩) (by simp) (.int .u64 (ch (k + 1)))
   have M3' := M3.far (p := ⟨wr.heap.size, 4, none⟩) hmr (.int .u64 (ch (k + 1)))
   have W3 : Below m W0 (u3.setCell ⟨wr.heap.size, 4, none⟩ (.int .u64 (ch (k + 1)))) := (W2.trans (hb3.mono (by omega))).setCell (p := ⟨wr.heap.size, 4, none⟩) (by simp; omega) _
   have lr3 := R3.lt
   have hHlt := hH.lt
   have hs3 : (u3.setCell ⟨wr.heap.size, 4, none⟩ (.int .u64 (ch (k + 1)))).heap.size = u3.heap.size := by simp
   have hH3 := hH.but (fun h => h.but B3m) B3m (by omega)
   have X1 : ListV (some m) (u3.setCell ⟨wr.heap.size, 4, none⟩ (.int .u64 (ch (k + 1)))) u12.ownBlock (.slice B1 c.N q1) (st (k + 1)).1 := ListV.own O1 (HL1.out _) (fun b h1 h2 => ⟨by simp; omega, fun e => by have := hHlt b e; omega⟩)
   have X2 : ListV (some m) (u3.setCell ⟨wr.heap.size, 4, none⟩ (.int .u64 (ch (k + 1)))) u12.ownBlock (.slice B2 c.N q2) (st (k + 1)).2 := ListV.own O2 (HL2.out _) (fun b h1 h2 => ⟨by simp; omega, fun e => by have := hHlt b e; omega⟩)
   have X3 : ListO (some m) (u3.setCell ⟨wr.heap.size, 4, none⟩ (.int .u64 (ch (k + 1)))) u12.ownBlock (.slice E c.batch.toNat ec) (bt k) := ListO.own O3 (HLB'.out k) (by omega) (fun b h1 h2 => ⟨by simp; omega, fun e => by have := hHlt b e; omega⟩)
   have bAl : Below (u3.setCell ⟨wr.heap.size, 4, none⟩ (.int .u64 (ch (k + 1)))).heap.size (u3.setCell ⟨wr.heap.size, 4, none⟩ (.int .u64 (ch (k + 1)))) ((u3.setCell ⟨wr.heap.size, 4, none⟩ (.int .u64 (ch (k + 1)))).alloc (.cells #[.int .i64 k, .slice E c.batch.toNat ec, .int .i64 (ratI c k), .int .u64 (rootS (st (k + 1))), .int .u64 (ch (k + 1))] 90)) := (Below.refl _ _).alloc (Nat.le_refl _) _
   have hHX := hH3.below (keepsO_rec _ _) bAl
   have X1X := X1.below bAl
   have X2X := X2.below bAl
   have X3X := HRK.out (some m) _ u12.ownBlock _ k w.heap.size (by rw [HBT.out]; exact X3.below bAl) (fun q hq => by have := (O3.lt q hq).1; have := hbx.size; omega)
   have hMX := M3'.alloc (.cells #[.int .i64 k, .slice E c.batch.toNat ec, .int .i64 (ratI c k), .int .u64 (rootS (st (k + 1))), .int .u64 (ch (k + 1))] 90)
   have hNB : Blk ((u3.setCell ⟨wr.heap.size, 4, none⟩ (.int .u64 (ch (k + 1)))).alloc (.cells #[.int .i64 k, .slice E c.batch.toNat ec, .int .i64 (ratI c k), .int .u64 (rootS (st (k + 1))), .int .u64 (ch (k + 1))] 90)) u3.heap.size 90 #[.int .i64 k, .slice E c.batch.toNat ec, .int .i64 (ratI c k), .int .u64 (rootS (st (k + 1))), .int .u64 (ch (k + 1))] := Blk.made' _ _ _ hs3
   have hsX : ((u3.setCell ⟨wr.heap.size, 4, none⟩ (.int .u64 (ch (k + 1)))).alloc (.cells #[.int .i64 k, .slice E c.batch.toNat ec, .int .i64 (ratI c k), .int .u64 (rootS (st (k + 1))), .int .u64 (ch (k + 1))] 90)).heap.size = u3.heap.size + 1 := by simp
   have hBX : Below m W0 ((u3.setCell ⟨wr.heap.size, 4, none⟩ (.int .u64 (ch (k + 1)))).alloc (.cells #[.int .i64 k, .slice E c.batch.toNat ec, .int .i64 (ratI c k), .int .u64 (rootS (st (k + 1))), .int .u64 (ch (k + 1))] 90)) := W3.alloc (by rw [hs3]; omega) _
   obtain ⟨vs, hoV, hpV⟩ := hHX
   have hvl := hoV.1
   clear X1 X2 X3 bAl O1 O2 O3 hH hH3 M3' M3 B3m B2m J3 W2 sy2 R2' M2'
   go_wp2_with (at_builtin; refine wpList_append_lies _ rfl _ _ 66 rfl (m + 1) 90 i0 (.agg #[.int .i64 0, .slice none 0 0, .int .i64 0, .int .u64 0, .int .u64 0]) 5 56 Tryz.underlying66 hi0 hz0 hz1 hz2 rfl (by decide) u12 k vs rfl hoV ⟨u3.heap.size, 0, none⟩ 1 1 [.int .i64 k, .slice E c.batch.toNat ec, .int .i64 (ratI c k), .int .u64 (rootS (st (k + 1))), .int .u64 (ch (k + 1))] rfl rfl (World.news_of_block (cs := #[.int .i64 k, .slice E c.batch.toNat ec, .int .i64 (ratI c k), .int .u64 (rootS (st (k + 1))), .int .u64 (ch (k + 1))]) hNB) (by simp [Value.oneCell']) (by omega) (by unfold maxLen; omega) (by omega) (by simp <;> omega) (u3.heap.size + 1) (by simp) ?_; intro g1 cap1 w1 hown1 hgrow hgg hlt1)
   have hgg' : u12.ownBlock = some g1 ∨ ((u3.setCell ⟨wr.heap.size, 4, none⟩ (.int .u64 (ch (k + 1)))).alloc (.cells #[.int .i64 k, .slice E c.batch.toNat ec, .int .i64 (ratI c k), .int .u64 (rootS (st (k + 1))), .int .u64 (ch (k + 1))] 90)).heap.size ≤ g1 := hgg.imp id (fun h => by rw [hsX]; omega)
   have hH2 := Held.push (keepsO_rec _ (some m)) hown1 hvl rfl hpV X3X hgrow hgg'
   have hM2 := hMX.grown hgrow (fun e => by have := hHlt m e.symm; omega)
   have K1 := (X1X.turn hgrow hgg').ints.1
   have K2 := (X2X.turn hgrow hgg').ints.1
   have hB2 := Below.grown hBX hgrow (by rw [hsX]; omega) (fun x hx => by have := hHlt x hx; omega)
   clear hown1 hgrow hgg hgg' X1X X2X X3X hpV hoV hMX hNB hBX
   go_roundw
   case rel => exact ⟨k + 1, B1, q1, B2, q2, by omega, by go_num, rfl, hH2, hM2, K1, K2, q1l, hB2⟩
   case measure => simp [intOf]; omega
  ·obtain rfl : k = N := by omega
   obtain ⟨A, c', hv, _⟩ := hH.slice
   subst hv
   go_wp2
   go_ret2
   exact ⟨A, c', rfl, (hH.imp RecKO.drop).base (by omega), hbx⟩
theorem ListO.v {m : Option Nat} {w : World} {o : Option Nat} {v : Value} {xs : List Int} (h : ListO m w o v xs) : ListV m w o v xs := by
 obtain ⟨b, c, cur, e, hB, hs, h1, h2, hi, n1, n2⟩ := h
 exact ⟨_, c, e, hi, h1, h2, fun b' off s e' => by injection e' with e'; injection e' with e1 _ _; subst e1; exact ⟨n1, n2, (Array.getElem?_eq_some_iff.1 hB).1⟩⟩
theorem jrn_Make_ok2 (c : Cfg) (ds : Data) (hC : crs c ds = 0) (s0 : 0 ≤ c.seed) (s1 : c.seed < 18446744073709551616) (D : Option Addr) (n dc : Nat) (w : World) (hd : Duos w D n ds) (N : Nat) (hN : (N : Int) ≤ c.steps) :
  Calls Tryz.prog 47 #[.agg #[.int .i64 c.ci, .int .i64 c.ch, .int .i64 c.co, .int .u64 c.seed, .int .i64 c.batch, .int .i64 c.steps, .int .i64 c.rate, .int .i64 c.decay, .int .i64 c.how, .int .i64 c.keep, .int .i64 c.clip], .slice D n dc, .int .i64 N] w fun e w' => ∃ A k, e = .returned (.tuple #[.slice A N k, .int .i64 0]) ∧ RecHeld none w.heap.size (recC c ds) N (.slice A N k) w' ∧ Below w.heap.size w w' :=
 (jrn_Make_own c ds hC s0 s1 D n dc w hd N hN).mono fun _ _ ⟨A, k, he, hL, hb⟩ => ⟨A, k, he, hL.imp fun ⟨b, h1, h2, _⟩ => ⟨b, h1, ListO.v h2⟩, hb⟩
end Go.Proofs.YtgodgedhddngeaaGreatDoor
