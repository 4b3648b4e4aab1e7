/- What the document's own text reckons of digests: plus, times, mixed, Of, Numbers, Pair, Word: walks, each function once. -/
import Derived.Test.YtgodgedhddngeaaGreatDoorDigW
import Derived.StillTailTactics
set_option maxRecDepth 100000
set_option maxHeartbeats 16000000
namespace Go.Proofs.YtgodgedhddngeaaGreatDoor
open Go.RowKit Pl
theorem ref_plus (a b : Int) (h0 : 0 ≤ a) (ha : a < 18446744073709551616) (h0' : 0 ≤ b) (hb : b < 18446744073709551616) (w : World) :
  Calls Tryz.prog 188 #[.int .u64 a, .int .u64 b] w fun e w' => e = .returned (.int .u64 (addI a b)) ∧ w = w' := by
 have e : (a % 2305843009213693951 + b % 2305843009213693951) % 2305843009213693951 = addI a b := by
  unfold addI addP P61
  omega
 have HE := Lib.hid e
 clear e
 go_enter Tryz.func188, Tryz.ntmps188
 go_wp2
 go_ret
 exact ⟨ret_int HE.out, rfl⟩
theorem shr_tmod (y j : Nat) : ((y : Int) / 2 ^ j).tmod 2 = ((y / 2 ^ j % 2 : Nat) : Int) := by
 have e : ((y : Int) / 2 ^ j) = ((y / 2 ^ j : Nat) : Int) := by simp
 rw [e]
 rfl
theorem ref_times (a b : Int) (h0 : 0 ≤ a) (ha : a < 18446744073709551616) (h0' : 0 ≤ b) (hb : b < 18446744073709551616) (w : World) :
  Calls Tryz.prog 209 #[.int .u64 a, .int .u64 b] w fun e w' => e = .returned (.int .u64 (mulI a b)) ∧ w = w' := by
 obtain ⟨x, hx⟩ : ∃ x : Nat, x = a.toNat % P61 := ⟨_, rfl⟩
 obtain ⟨y, hy⟩ : ∃ y : Nat, y = b.toNat % P61 := ⟨_, rfl⟩
 have hyl : y < P61 := by rw [hy]; exact Nat.mod_lt _ P61_pos
 have hxl : x < P61 := by rw [hx]; exact Nat.mod_lt _ P61_pos
 have HP : P61 = 2305843009213693951 := rfl
 have ex : a % 2305843009213693951 = (x : Int) := by rw [hx, HP]; omega
 have ey : b % 2305843009213693951 = (y : Int) := by rw [hy, HP]; omega
 have HE := Lib.hid (show (dbl x y 61 : Int) = mulI a b by rw [dbl_mul x y hyl, hx, hy]; rfl)
 rw [HP] at hxl hyl
 clear hx hy HP
 go_enter Tryz.func209, Tryz.ntmps209
 go_wp2
 rw [ex, ey]
 clear ex ey
 go_loop [5, 6] (fun o i => ∃ k : Nat, k ≤ 61 ∧ i = .int .i64 (60 - (k : Int)) ∧ o = .int .u64 (dbl x y k)) (fun _ i => (intOf i + 1).toNat)
 case atStart => exact ⟨0, by omega, rfl, rfl⟩
 case round =>
  obtain ⟨k, hk, rfl, rfl⟩ := hrel
  have hd := dbl_lt x y k
  have HP : P61 = 2305843009213693951 := rfl
  rw [HP] at hd
  clear HP
  by_cases hlt : k < 61
  ·obtain ⟨j, hj⟩ : ∃ j, j = 60 - k := ⟨_, rfl⟩
   have ej : 60 - (k : Int) = (j : Int) := by omega
   obtain ⟨t, ht⟩ : ∃ t, t = y / 2 ^ j := ⟨_, rfl⟩
   have htl : t ≤ y := by rw [ht]; exact Nat.div_le_self _ _
   have HT := Lib.hid ht
   have HJ := Lib.hid hj
   rw [ej]
   have j0 : 0 ≤ (j : Int) := by omega
   have j1 : (j : Int) ≤ 60 := by omega
   clear ht hj ej
   by_cases h2 : t % 2 = 1
   ·have b1 : (((y : Int) / 2 ^ j).tmod 2 == 1) = true := by rw [shr_tmod, beq_iff_eq, ← HT.out]; omega
    have HD := Lib.hid (show (((dbl x y k : Int) + (dbl x y k : Int)) % 2305843009213693951 + (x : Int)) % 2305843009213693951 = (dbl x y (k + 1) : Int) by
     have e : dbl x y (k + 1) = ((dbl x y k + dbl x y k) % P61 + x) % P61 := by
      conv => lhs; unfold dbl
      rw [← HJ.out, ← HT.out, if_pos h2]
     rw [e, show P61 = 2305843009213693951 from rfl]
     omega)
    go_wp2
    go_round
    case rel => exact ⟨k + 1, by omega, by have := HJ.out; go_num, by rw [HD.out]⟩
    case measure => simp [intOf] <;> omega
   ·have b1 : (((y : Int) / 2 ^ j).tmod 2 == 1) = false := by rw [shr_tmod, beq_eq_false_iff_ne, ← HT.out]; omega
    have HD := Lib.hid (show ((dbl x y k : Int) + (dbl x y k : Int)) % 2305843009213693951 = (dbl x y (k + 1) : Int) by
     have e : dbl x y (k + 1) = (dbl x y k + dbl x y k) % P61 := by
      conv => lhs; unfold dbl
      rw [← HJ.out, ← HT.out, if_neg h2]
     rw [e, show P61 = 2305843009213693951 from rfl]
     omega)
    go_wp2
    go_round
    case rel => exact ⟨k + 1, by omega, by have := HJ.out; go_num, by rw [HD.out]⟩
    case measure => simp [intOf] <;> omega
  ·obtain rfl : k = 61 := by omega
   go_wp2
   go_ret
   exact ⟨ret_int HE.out, rfl⟩
def MixR (w : World) (s : Nat × Nat × Nat) (wr : World) : Prop :=
 Below w.heap.size w wr ∧ Blk wr w.heap.size 219 (stC s) ∧ Blk wr (w.heap.size + 1) 219 #[.int .u64 0, .int .u64 0, .int .u64 0]
theorem mix_plus (X Y Z : Int) (x0 : 0 ≤ X) (x1 : X < 2305843009213693951) (y0 : 0 ≤ Y) (y1 : Y < 2305843009213693951) (z0 : 0 ≤ Z) (z1 : Z < 2305843009213693951) (W : World) :
  (∀ V, (V = X ∨ V = Y ∨ V = Z) → Calls Tryz.prog 188 #[.int .u64 Z, .int .u64 V] W fun e w' => e = .returned (.int .u64 (addI Z V)) ∧ w' = W) ∧
  (Calls Tryz.prog 188 #[.int .u64 X, .int .u64 Y] W fun e w' => e = .returned (.int .u64 (addI X Y)) ∧ w' = W) ∧
  (∀ V, Calls Tryz.prog 188 #[.int .u64 (addI X Y), .int .u64 (addI Z V)] W fun e w' => e = .returned (.int .u64 (addI (addI X Y) (addI Z V))) ∧ w' = W) := by
 have a0 := addI_lo X Y
 have a1 := addI_hi X Y
 refine ⟨fun V hV => ?_, ?_, fun V => ?_⟩
 ·have : 0 ≤ V ∧ V < 2305843009213693951 := by rcases hV with rfl | rfl | rfl <;> omega
  exact (ref_plus _ _ (by omega) (by omega) (by omega) (by omega) W).mono fun _ _ ⟨h, e⟩ => ⟨h, e.symm⟩
 ·exact (ref_plus _ _ (by omega) (by omega) (by omega) (by omega) W).mono fun _ _ ⟨h, e⟩ => ⟨h, e.symm⟩
 ·have b0 := addI_lo Z V
  have b1 := addI_hi Z V
  exact (ref_plus _ _ (by omega) (by omega) (by omega) (by omega) W).mono fun _ _ ⟨h, e⟩ => ⟨h, e.symm⟩
theorem addI_shuffle {X Y Z U T : Int} (V : Int) (hU : U = addI Y Z) (hT : T = addI X U) : addI (addI X Y) (addI Z V) = addI T V := by
 subst hU; subst hT
 unfold addI
 simp only [Int.toNat_natCast]
 rw [addP_eq, addP_eq, addP_eq, addP_eq, addP_eq, addP_eq]
 generalize X.toNat = a
 generalize Y.toNat = b
 generalize Z.toNat = c
 generalize V.toNat = d
 unfold P61
 omega
theorem ref_mixed (s : Nat × Nat × Nat) (w : World) (hs : st64 s) :
  Calls Tryz.prog 187 #[.agg (stC s)] w fun e w' => e = .returned (.agg (stC (mixP s))) ∧ Below w.heap.size w w' := by
 have hR : MixR w s ((w.alloc (.cells (stC s) 219)).alloc (.cells #[.int .u64 0, .int .u64 0, .int .u64 0] 219)) := ⟨(by repeat (first | exact Below.refl _ _ | assumption | refine bel_drewN ?_ _ | refine Below.drew ?_ | (refine Below.alloc ?_ (by simp <;> omega) _) | (refine Below.setCell ?_ (by simp <;> omega) _))), (Blk.made w _ _).alloc _, Blk.made' _ _ _ (by simp)⟩
 go_enter Tryz.func187, Tryz.ntmps187
 go_wp2
 go_loopw [3] (fun i wr => ∃ k : Nat, k ≤ 6 ∧ i = .int .i64 ((k : Int) + 1) ∧ MixR w (turnsP k s) wr) (fun i _ => 7 - (intOf i).toNat)
 case atStart => exact ⟨0, by omega, rfl, hR⟩
 case round =>
  clear hR
  obtain ⟨k, hk, rfl, hb, hG, hO⟩ := hrel
  obtain ⟨t1, t2, t3⟩ := turnsP_64 hs k
  obtain ⟨x, hx⟩ : ∃ x : Int, x = (turnsP k s).1 := ⟨_, rfl⟩
  obtain ⟨y, hy⟩ : ∃ y : Int, y = (turnsP k s).2.1 := ⟨_, rfl⟩
  obtain ⟨z, hz⟩ : ∃ z : Int, z = (turnsP k s).2.2 := ⟨_, rfl⟩
  have hG2 : Blk wr w.heap.size 219 #[.int .u64 x, .int .u64 y, .int .u64 z] := by rw [hx, hy, hz]; exact hG
  have x0 : 0 ≤ x ∧ x < 18446744073709551616 := by omega
  have y0 : 0 ≤ y ∧ y < 18446744073709551616 := by omega
  have w0 : 0 ≤ z ∧ z < 18446744073709551616 := by omega
  have HX := Lib.hid hx
  have HY := Lib.hid hy
  have HZ := Lib.hid hz
  clear hx hy hz t1 t2 t3 hG
  by_cases hlt : k < 6
  ·obtain ⟨X0, hX0⟩ : ∃ X0, X0 = addI x ((k : Int) + 1) := ⟨_, rfl⟩
   obtain ⟨Y0, hY0⟩ : ∃ Y0, Y0 = addI y (((k : Int) + 1) * 2) := ⟨_, rfl⟩
   obtain ⟨Z0, hZ0⟩ : ∃ Z0, Z0 = addI z (((k : Int) + 1) * 3) := ⟨_, rfl⟩
   have bX : 0 ≤ X0 ∧ X0 < 18446744073709551616 := by have := addI_lo x ((k : Int) + 1); have := addI_hi x ((k : Int) + 1); omega
   have bY : 0 ≤ Y0 ∧ Y0 < 18446744073709551616 := by have := addI_lo y (((k : Int) + 1) * 2); have := addI_hi y (((k : Int) + 1) * 2); omega
   have bZ : 0 ≤ Z0 ∧ Z0 < 18446744073709551616 := by have := addI_lo z (((k : Int) + 1) * 3); have := addI_hi z (((k : Int) + 1) * 3); omega
   have PX := Lib.hid (fun W => ref_plus x ((k : Int) + 1) x0.1 x0.2 (by omega) (by omega) W)
   have PY := Lib.hid (fun W => ref_plus y (((k : Int) + 1) * 2) y0.1 y0.2 (by omega) (by omega) W)
   have PZ := Lib.hid (fun W => ref_plus z (((k : Int) + 1) * 3) w0.1 w0.2 (by omega) (by omega) W)
   rw [← hX0] at PX
   rw [← hY0] at PY
   rw [← hZ0] at PZ
   have HX0 := Lib.hid hX0
   have HY0 := Lib.hid hY0
   have HZ0 := Lib.hid hZ0
   have c0 : ∀ o, (wr.alloc o).cell? ⟨w.heap.size, 0, none⟩ = some (.int .u64 x) := fun o => (hG2.alloc o).cell 0
   have c1 : ∀ o, (wr.alloc o).cell? ⟨w.heap.size, 1, none⟩ = some (.int .u64 y) := fun o => (hG2.alloc o).cell 1
   have c2 : ∀ o, (wr.alloc o).cell? ⟨w.heap.size, 2, none⟩ = some (.int .u64 z) := fun o => (hG2.alloc o).cell 2
   have BX := Lib.hid bX
   have BY := Lib.hid bY
   have BZ := Lib.hid bZ
   clear hX0 hY0 hZ0 bX bY bZ x0 y0 w0
   go_wp2
   refine wp_loop_rounds 4 ?_
   rw [rounds_succ]
   go_wp2_with (go_at_call 188; refine (PX.out _).mono ?_; rintro e w' ⟨rfl, rfl⟩)
   go_loop [7, 8] (fun a i => ∃ m : Nat, m ≤ 4 ∧ i = .int .i64 m ∧ a = .int .u64 (sqI X0 m)) (fun _ i => 4 - (intOf i).toNat)
   case atStart => exact ⟨0, by omega, rfl, rfl⟩
   case round =>
    obtain ⟨m, hm, rfl, rfl⟩ := hrel
    obtain ⟨b1, b2⟩ := sqI_bd X0 BX.out.1 BX.out.2 m
    by_cases hl0 : m < 4
    ·have TM := Lib.hid (fun W => ref_times (sqI X0 m) (sqI X0 m) b1 b2 b1 b2 W)
     clear b1 b2
     go_wp2_with (go_at_call 209; refine (TM.out _).mono ?_; rintro e w' ⟨rfl, rfl⟩)
     go_round
     case rel => exact ⟨m + 1, by omega, by go_num, rfl⟩
     case measure => simp [intOf] <;> omega
    ·obtain rfl : m = 4 := by omega
     have TM := Lib.hid (fun W => ref_times (sqI X0 4) X0 b1 b2 BX.out.1 BX.out.2 W)
     rw [sqI_pow] at TM
     clear b1 b2
     go_wp2_with (go_at_call 209; refine (TM.out _).mono ?_; rintro e w' ⟨rfl, rfl⟩)
     clear TM
     rw [rounds_succ]
     go_wp2_with (go_at_call 188; refine (PY.out _).mono ?_; rintro e w' ⟨rfl, rfl⟩)
     go_loop [7, 8] (fun a i => ∃ m : Nat, m ≤ 4 ∧ i = .int .i64 m ∧ a = .int .u64 (sqI Y0 m)) (fun _ i => 4 - (intOf i).toNat)
     case atStart => exact ⟨0, by omega, rfl, rfl⟩
     case round =>
      obtain ⟨m, hm, rfl, rfl⟩ := hrel
      obtain ⟨b1, b2⟩ := sqI_bd Y0 BY.out.1 BY.out.2 m
      by_cases hl1 : m < 4
      ·have TM := Lib.hid (fun W => ref_times (sqI Y0 m) (sqI Y0 m) b1 b2 b1 b2 W)
       clear b1 b2
       go_wp2_with (go_at_call 209; refine (TM.out _).mono ?_; rintro e w' ⟨rfl, rfl⟩)
       go_round
       case rel => exact ⟨m + 1, by omega, by go_num, rfl⟩
       case measure => simp [intOf] <;> omega
      ·obtain rfl : m = 4 := by omega
       have TM := Lib.hid (fun W => ref_times (sqI Y0 4) Y0 b1 b2 BY.out.1 BY.out.2 W)
       rw [sqI_pow] at TM
       clear b1 b2
       go_wp2_with (go_at_call 209; refine (TM.out _).mono ?_; rintro e w' ⟨rfl, rfl⟩)
       clear TM
       rw [rounds_succ]
       go_wp2_with (go_at_call 188; refine (PZ.out _).mono ?_; rintro e w' ⟨rfl, rfl⟩)
       go_loop [7, 8] (fun a i => ∃ m : Nat, m ≤ 4 ∧ i = .int .i64 m ∧ a = .int .u64 (sqI Z0 m)) (fun _ i => 4 - (intOf i).toNat)
       case atStart => exact ⟨0, by omega, rfl, rfl⟩
       case round =>
        obtain ⟨m, hm, rfl, rfl⟩ := hrel
        obtain ⟨b1, b2⟩ := sqI_bd Z0 BZ.out.1 BZ.out.2 m
        by_cases hl2 : m < 4
        ·have TM := Lib.hid (fun W => ref_times (sqI Z0 m) (sqI Z0 m) b1 b2 b1 b2 W)
         clear b1 b2
         go_wp2_with (go_at_call 209; refine (TM.out _).mono ?_; rintro e w' ⟨rfl, rfl⟩)
         go_round
         case rel => exact ⟨m + 1, by omega, by go_num, rfl⟩
         case measure => simp [intOf] <;> omega
        ·obtain rfl : m = 4 := by omega
         have TM := Lib.hid (fun W => ref_times (sqI Z0 4) Z0 b1 b2 BZ.out.1 BZ.out.2 W)
         rw [sqI_pow] at TM
         clear b1 b2
         go_wp2_with (go_at_call 209; refine (TM.out _).mono ?_; rintro e w' ⟨rfl, rfl⟩)
         clear TM
         rw [rounds_succ]
         go_wp2
         obtain ⟨X, hX⟩ : ∃ X, X = powI X0 := ⟨_, rfl⟩
         obtain ⟨Y, hY⟩ : ∃ Y, Y = powI Y0 := ⟨_, rfl⟩
         obtain ⟨Z, hZ⟩ : ∃ Z, Z = powI Z0 := ⟨_, rfl⟩
         have X1 : 0 ≤ X ∧ X < 2305843009213693951 := by rw [hX]; exact ⟨powI_lo _, powI_hi _⟩
         have Y1 : 0 ≤ Y ∧ Y < 2305843009213693951 := by rw [hY]; exact ⟨powI_lo _, powI_hi _⟩
         have Z1 : 0 ≤ Z ∧ Z < 2305843009213693951 := by rw [hZ]; exact ⟨powI_lo _, powI_hi _⟩
         have HP := Lib.hid (fun W => mix_plus X Y Z X1.1 X1.2 Y1.1 Y1.2 Z1.1 Z1.2 W)
         obtain ⟨U, hU⟩ : ∃ U, U = addI Y Z := ⟨_, rfl⟩
         obtain ⟨T, hT⟩ : ∃ T, T = addI X U := ⟨_, rfl⟩
         have HC := Lib.hid (turn_cells (turnsP k s) k HX.out HY.out HZ.out (X := X) (Y := Y) (Z := Z) (T := T) (by rw [hX, HX0.out]) (by rw [hY, HY0.out, Int.mul_comm]) (by rw [hZ, HZ0.out, Int.mul_comm]) (by rw [← hU]; exact hT))
         have HV := Lib.hid (fun V => addI_shuffle V hU hT)
         obtain ⟨v0, hv0⟩ : ∃ v0, v0 = wr.alloc (.cells #[.int .u64 X, .int .u64 Y, .int .u64 Z] 219) := ⟨_, rfl⟩
         rw [← hX, ← hY, ← hZ]
         rw [← hv0]
         have hT0 : Blk v0 wr.heap.size 219 #[.int .u64 X, .int .u64 Y, .int .u64 Z] := by rw [hv0]; exact Blk.made wr _ _
         have hG0 : Blk v0 w.heap.size 219 #[.int .u64 x, .int .u64 y, .int .u64 z] := by rw [hv0]; exact hG2.alloc _
         have hO0 : Blk v0 (w.heap.size + 1) 219 #[.int .u64 0, .int .u64 0, .int .u64 0] := by rw [hv0]; exact hO.alloc _
         have hb0 : Below w.heap.size w v0 := by rw [hv0]; exact hb.alloc hb.size _
         have hlO := hO.lt
         clear hv0 hX hY hZ hU hT X1 Y1 Z1 hb hG2 hO c0 c1 c2
         refine wp_loop_rounds 4 ?_
         rw [rounds_succ]
         have p0 : v0.cell? ⟨wr.heap.size, 0, none⟩ = some (.int .u64 X) := hT0.cell 0
         have p1 : v0.cell? ⟨wr.heap.size, 1, none⟩ = some (.int .u64 Y) := hT0.cell 1
         have p2 : v0.cell? ⟨wr.heap.size, 2, none⟩ = some (.int .u64 Z) := hT0.cell 2
         have q0 : v0.cell? ⟨w.heap.size, 0, none⟩ = some (.int .u64 x) := hG0.cell 0
         have qz := hG0.frozen 0
         go_wp2
         refine wp_region_still_tail 14 (by kernel_rfl) (by kernel_rfl) ?_
         simp only [List.take_succ_cons, List.take_zero, List.drop_succ_cons, List.drop_zero]
         repeat still_step
         still_call ((HP.out _).2.1)
         repeat still_step
         still_call ((HP.out _).1 X (by simp))
         repeat still_step
         still_call ((HP.out _).2.2 X)
         repeat still_step
         refine wpStill_nil ?_
         rw [HV.out X]
         change wpList _ _ _ _ _ v0.drew
         go_wp2
         obtain ⟨v1, hv1⟩ : ∃ v1, v1 = (v0.setCell ⟨w.heap.size, 0, none⟩ (.int .u64 (addI T X))).drew := ⟨_, rfl⟩
         rw [← hv1]
         have hT1 : Blk v1 wr.heap.size 219 #[.int .u64 X, .int .u64 Y, .int .u64 Z] := by rw [hv1]; exact (Blk.far hT0 (by simp; omega) _).drewN 1
         have hG1 : Blk v1 w.heap.size 219 #[.int .u64 (addI T X), .int .u64 y, .int .u64 z] := by rw [hv1]; exact (Blk.put hG0 0 _).drewN 1
         have hO1 : Blk v1 (w.heap.size + 1) 219 #[.int .u64 0, .int .u64 0, .int .u64 0] := by rw [hv1]; exact (Blk.far hO0 (by simp) _).drewN 1
         have hb1 : Below w.heap.size w v1 := by rw [hv1]; exact bel_drewN (Below.setCell hb0 (by simp) _) 1
         clear hv1 p0 p1 p2 q0 qz hT0 hG0 hO0 hb0
         rw [rounds_succ]
         have p0 : v1.cell? ⟨wr.heap.size, 0, none⟩ = some (.int .u64 X) := hT1.cell 0
         have p1 : v1.cell? ⟨wr.heap.size, 1, none⟩ = some (.int .u64 Y) := hT1.cell 1
         have p2 : v1.cell? ⟨wr.heap.size, 2, none⟩ = some (.int .u64 Z) := hT1.cell 2
         have q1 : v1.cell? ⟨w.heap.size, 1, none⟩ = some (.int .u64 y) := hG1.cell 1
         have qz := hG1.frozen 1
         go_wp2
         refine wp_region_still_tail 14 (by kernel_rfl) (by kernel_rfl) ?_
         simp only [List.take_succ_cons, List.take_zero, List.drop_succ_cons, List.drop_zero]
         repeat still_step
         still_call ((HP.out _).2.1)
         repeat still_step
         still_call ((HP.out _).1 Y (by simp))
         repeat still_step
         still_call ((HP.out _).2.2 Y)
         repeat still_step
         refine wpStill_nil ?_
         rw [HV.out Y]
         change wpList _ _ _ _ _ v1.drew
         go_wp2
         obtain ⟨v2, hv2⟩ : ∃ v2, v2 = (v1.setCell ⟨w.heap.size, 1, none⟩ (.int .u64 (addI T Y))).drew := ⟨_, rfl⟩
         rw [← hv2]
         have hT2 : Blk v2 wr.heap.size 219 #[.int .u64 X, .int .u64 Y, .int .u64 Z] := by rw [hv2]; exact (Blk.far hT1 (by simp; omega) _).drewN 1
         have hG2 : Blk v2 w.heap.size 219 #[.int .u64 (addI T X), .int .u64 (addI T Y), .int .u64 z] := by rw [hv2]; exact (Blk.put hG1 1 _).drewN 1
         have hO2 : Blk v2 (w.heap.size + 1) 219 #[.int .u64 0, .int .u64 0, .int .u64 0] := by rw [hv2]; exact (Blk.far hO1 (by simp) _).drewN 1
         have hb2 : Below w.heap.size w v2 := by rw [hv2]; exact bel_drewN (Below.setCell hb1 (by simp) _) 1
         clear hv2 p0 p1 p2 q1 qz hT1 hG1 hO1 hb1
         rw [rounds_succ]
         have p0 : v2.cell? ⟨wr.heap.size, 0, none⟩ = some (.int .u64 X) := hT2.cell 0
         have p1 : v2.cell? ⟨wr.heap.size, 1, none⟩ = some (.int .u64 Y) := hT2.cell 1
         have p2 : v2.cell? ⟨wr.heap.size, 2, none⟩ = some (.int .u64 Z) := hT2.cell 2
         have q2 : v2.cell? ⟨w.heap.size, 2, none⟩ = some (.int .u64 z) := hG2.cell 2
         have qz := hG2.frozen 2
         go_wp2
         refine wp_region_still_tail 14 (by kernel_rfl) (by kernel_rfl) ?_
         simp only [List.take_succ_cons, List.take_zero, List.drop_succ_cons, List.drop_zero]
         repeat still_step
         still_call ((HP.out _).2.1)
         repeat still_step
         still_call ((HP.out _).1 Z (by simp))
         repeat still_step
         still_call ((HP.out _).2.2 Z)
         repeat still_step
         refine wpStill_nil ?_
         rw [HV.out Z]
         change wpList _ _ _ _ _ v2.drew
         go_wp2
         obtain ⟨v3, hv3⟩ : ∃ v3, v3 = (v2.setCell ⟨w.heap.size, 2, none⟩ (.int .u64 (addI T Z))).drew := ⟨_, rfl⟩
         rw [← hv3]
         have hT3 : Blk v3 wr.heap.size 219 #[.int .u64 X, .int .u64 Y, .int .u64 Z] := by rw [hv3]; exact (Blk.far hT2 (by simp; omega) _).drewN 1
         have hG3 : Blk v3 w.heap.size 219 #[.int .u64 (addI T X), .int .u64 (addI T Y), .int .u64 (addI T Z)] := by rw [hv3]; exact (Blk.put hG2 2 _).drewN 1
         have hO3 : Blk v3 (w.heap.size + 1) 219 #[.int .u64 0, .int .u64 0, .int .u64 0] := by rw [hv3]; exact (Blk.far hO2 (by simp) _).drewN 1
         have hb3 : Below w.heap.size w v3 := by rw [hv3]; exact bel_drewN (Below.setCell hb2 (by simp) _) 1
         clear hv3 p0 p1 p2 q2 qz hT2 hG2 hO2 hb2
         rw [rounds_succ]
         go_wp2
         go_roundw
         case rel => exact ⟨k + 1, by omega, by go_num, hb3, by
          rw [show turnsP (k + 1) s = turnP (k + 1) (turnsP k s) from rfl, ← HC.out]
          exact hG3, hO3⟩
         case measure => simp [intOf] <;> omega
  ·obtain rfl : k = 6 := by omega
   have hG3 : Blk wr w.heap.size 219 (stC (mixP s)) := by
    have h := hG2
    rw [HX.out, HY.out, HZ.out] at h
    exact h
   have c0 : wr.cell? ⟨w.heap.size, 0, none⟩ = some (.int .u64 (mixP s).1) := hG3.cell 0
   have c1 : wr.cell? ⟨w.heap.size, 1, none⟩ = some (.int .u64 (mixP s).2.1) := hG3.cell 1
   have c2 : wr.cell? ⟨w.heap.size, 2, none⟩ = some (.int .u64 (mixP s).2.2) := hG3.cell 2
   have d0 : wr.cell? ⟨w.heap.size + 1, 0, none⟩ = some (.int .u64 0) := hO.cell 0
   have d1 : wr.cell? ⟨w.heap.size + 1, 1, none⟩ = some (.int .u64 0) := hO.cell 1
   have d2 : wr.cell? ⟨w.heap.size + 1, 2, none⟩ = some (.int .u64 0) := hO.cell 2
   have z0 := hO.frozen 0
   have z1 := hO.frozen 1
   have z2 := hO.frozen 2
   clear x0 y0 w0 hG2
   go_wp2
   refine bodyPost_ret (v := .agg #[.int .u64 (mixP s).1, .int .u64 (mixP s).2.1, .int .u64 (mixP s).2.2]) (by simp [results, Tryz.results187, go_sem, d0, d1, d2]) rfl ?_
   exact ⟨rfl, ((hb.setCell (by simp) _).setCell (by simp) _).setCell (by simp) _⟩
theorem ref_mixed_lit (x y z : Int) (s : Nat × Nat × Nat) (hx : x = s.1) (hy : y = s.2.1) (hz : z = s.2.2) (w : World) (hs : st64 s) :
  Calls Tryz.prog 187 #[.agg #[.int .u64 x, .int .u64 y, .int .u64 z]] w fun e w' => e = .returned (.agg #[.int .u64 (mixP s).1, .int .u64 (mixP s).2.1, .int .u64 (mixP s).2.2]) ∧ Below w.heap.size w w' := by
 subst hx; subst hy; subst hz
 exact ref_mixed s w hs
theorem ref_Of (kind : Int) (A : Option Addr) (n c : Nat) (xs : List Int) (w : World) (h0 : 0 ≤ kind) (h1 : kind < 18446744073709551616) (hx : Ints .u64 w A n xs) (hu : U64 xs) (hn : n ≤ 9223372036854775807) :
  Calls Tryz.prog 146 #[.int .u64 kind, .slice A n c] w fun e w' => e = .returned (.int .u64 (ofI kind xs)) ∧ Below w.heap.size w w' := by
 have hcv : IntKind.u64.wrap (n : Int) = (n : Int) := wrap_u64_in (by omega) (by omega)
 have HE := Lib.hid (show ((stK kind xs n).2.1 : Int) = ofI kind xs by rw [← hx.len]; exact stK_end kind xs)
 have HP : P61 = 2305843009213693951 := rfl
 have hs0 : st64 (st0 kind xs) := ⟨by
  show kind.toNat % P61 < _
  have := Nat.mod_lt kind.toNat P61_pos
  omega, by
  show (nats xs).length < _
  rw [nats_length, hx.len]; omega, by show 1 < _; omega⟩
 have e1 : kind % 2305843009213693951 = ((st0 kind xs).1 : Int) := by
  show _ = ((kind.toNat % P61 : Nat) : Int)
  rw [HP]; omega
 have e2 : (n : Int) = ((st0 kind xs).2.1 : Int) := by
  show _ = (((nats xs).length : Nat) : Int)
  rw [nats_length, hx.len]
 have E1 := Lib.hid e1
 have E2 := Lib.hid e2
 clear e1 e2 HP
 go_enter Tryz.func146, Tryz.ntmps146
 go_wp2_with fail
 refine (ref_mixed_lit _ _ _ (st0 kind xs) E1.out E2.out rfl _ hs0).mono ?_
 rintro e w1 ⟨rfl, hb1⟩
 have hG1 : ∀ a b c : Int, a = (mixP (st0 kind xs)).1 → b = (mixP (st0 kind xs)).2.1 → c = (mixP (st0 kind xs)).2.2 → Blk (w1.alloc (.cells #[.int .u64 a, .int .u64 b, .int .u64 c] 219)) w1.heap.size 219 (stC (stK kind xs 0)) := by
  rintro a b c rfl rfl rfl
  exact Blk.made w1 _ _
 have hbw : ∀ o, Below w.heap.size w (w1.alloc o) := fun o => hb1.alloc hb1.size _
 obtain ⟨g, hg⟩ : ∃ g, g = w1.heap.size := ⟨_, rfl⟩
 have hgl : w.heap.size ≤ g := by rw [hg]; exact hb1.size
 have HG := Lib.hid hg
 clear hb1
 go_wp2
 rw [← HG.out]
 rw [← hg] at hG1
 clear hg
 go_loopw [6] (fun i wr => ∃ k : Nat, k ≤ n ∧ i = .int .i64 k ∧ Below w.heap.size w wr ∧ Blk wr g 219 (stC (stK kind xs k))) (fun i _ => n - (intOf i).toNat)
 case atStart => exact ⟨0, by omega, rfl, hbw _, hG1 _ _ _ rfl rfl rfl⟩
 case round =>
  clear hbw hG1
  obtain ⟨k, hk, rfl, hb, hG⟩ := hrel
  by_cases hlt : k < n
  ·obtain ⟨b, off, rfl, hbl, hc⟩ := hx.cells (by omega)
   have g1 := (hb.cell (p := ⟨b, off + k, none⟩) hbl).trans (hc k hlt)
   obtain ⟨l1, l2, l3⟩ := stK_lt kind xs k
   obtain ⟨u1, u2⟩ := hu k
   have l1' := l1
   have hP : P61 = 2305843009213693951 := rfl
   rw [hP] at l1'
   clear hP
   have F := Lib.hid (stK_succ kind xs k)
   have L := Lib.hid (And.intro l1 (And.intro l2 l3))
   obtain ⟨s, hs⟩ : ∃ s, s = stK kind xs k := ⟨_, rfl⟩
   rw [← hs] at hG F l1' L
   clear hs l1 l2 l3 hc
   obtain ⟨v, hv⟩ : ∃ v, v = at0 xs k := ⟨_, rfl⟩
   rw [← hv] at g1 u1 u2 F
   clear hv
   have c0 : wr.cell? ⟨g, 0, none⟩ = some (.int .u64 s.1) := hG.cell 0
   have c1 : wr.cell? ⟨g, 1, none⟩ = some (.int .u64 s.2.1) := hG.cell 1
   have c2 : wr.cell? ⟨g, 2, none⟩ = some (.int .u64 s.2.2) := hG.cell 2
   have z0 := hG.frozen 0
   have HA := Lib.hid (fun W => (ref_plus s.1 v (by omega) (by omega) u1 u2 W).mono (R' := fun e w' => e = .returned (.int .u64 (addI s.1 v)) ∧ w' = W) fun _ _ ⟨h, e⟩ => ⟨h, e.symm⟩)
   have j0 : (0 : Int) ≤ (k : Int) := by omega
   have j1 : (k : Int) < (n : Int) := by omega
   clear l1'
   go_wp2
   refine wp_region_still_tail 8 (by kernel_rfl) (by kernel_rfl) ?_
   simp only [List.take_succ_cons, List.take_zero, List.drop_succ_cons, List.drop_zero]
   repeat still_step
   still_call (HA.out _)
   repeat still_step
   refine wpStill_nil ?_
   change wpList _ _ _ _ _ wr.drew
   go_wp2_with fail
   have hG2 : Blk ((wr.setCell ⟨g, 0, none⟩ (.int .u64 (addI s.1 v))).drew) g 219 (stC (addP s.1 v.toNat, s.2)) := (hG.put 0 (.int .u64 (addI s.1 v))).drewN 1
   have hs2 : st64 (addP s.1 v.toNat, s.2) := st64_lt ⟨addP_lt _ _, L.out.2.1, L.out.2.2⟩
   refine (ref_mixed_lit _ _ _ (addP s.1 v.toNat, s.2) rfl rfl rfl _ hs2).mono ?_
   rintro e w2 ⟨rfl, hb2⟩
   have hb3 : Below w.heap.size w w2 := (bel_drewN (hb.setCell (p := ⟨g, 0, none⟩) hgl _) 1).trans (hb2.mono (by have := hb.size; simp [World.setCell]; exact this))
   have hG3 := hG2.below hb2 hG2.lt
   have d0 : w2.cell? ⟨g, 0, none⟩ = some (.int .u64 (addP s.1 v.toNat)) := hG3.cell 0
   have d1 : w2.cell? ⟨g, 1, none⟩ = some (.int .u64 s.2.1) := hG3.cell 1
   have d2 : w2.cell? ⟨g, 2, none⟩ = some (.int .u64 s.2.2) := hG3.cell 2
   have y0 := hG3.frozen 0
   have y1 := hG3.frozen 1
   have y2 := hG3.frozen 2
   obtain ⟨t, ht⟩ : ∃ t, t = mixP (addP s.1 v.toNat, s.2) := ⟨_, rfl⟩
   rw [← ht] at F ⊢
   clear hG2 hb2 c0 c1 c2 z0 hG g1 ht
   go_wp2
   go_roundw
   case rel => exact ⟨k + 1, by omega, by go_num, ((hb3.setCell hgl _).setCell hgl _).setCell hgl _, by
    rw [F.out]
    have h := ((hG3.put 0 (.int .u64 t.1)).put 1 (.int .u64 t.2.1)).put 2 (.int .u64 t.2.2)
    exact h⟩
   case measure => simp [intOf]; omega
  ·obtain rfl : n = k := by omega
   have c1 : wr.cell? ⟨g, 1, none⟩ = some (.int .u64 (stK kind xs n).2.1) := hG.cell 1
   go_wp2
   go_ret
   exact ⟨ret_int HE.out, hb⟩
theorem ref_PairD (a b : Int) (w : World) (h0 : 0 ≤ a) (h1 : a < 18446744073709551616) (h2 : 0 ≤ b) (h3 : b < 18446744073709551616) :
  Calls Tryz.prog 184 #[.int .u64 a, .int .u64 b] w fun e w' => e = .returned (.int .u64 (pairI a b)) ∧ Below w.heap.size w w' := by
 have hI := Ints.made_u64 w [a, b] 2 rfl #[.int .u64 a, .int .u64 b] rfl rfl 27
 have H := Lib.hid (ref_Of 3 _ 2 2 [a, b] _ (by omega) (by omega) hI (.cons h0 h1 (.cons h2 h3 .nil)) (by omega))
 clear h0 h1 h2 h3
 go_enter Tryz.func184, Tryz.ntmps184
 go_wp2_with (go_at_call 146; refine H.out.mono ?_; rintro e w1 ⟨rfl, hb⟩)
 go_ret
 exact ⟨rfl, Below.trans (B := w.heap.size) (by repeat (first | exact Below.refl _ _ | assumption | refine bel_drewN ?_ _ | refine Below.drew ?_ | (refine Below.alloc ?_ (by simp <;> omega) _) | (refine Below.setCell ?_ (by simp <;> omega) _))) (hb.mono (by simp))⟩
theorem ref_WordD (a b : Int) (w : World) (h0 : 0 ≤ a) (h1 : a < 18446744073709551616) (h2 : 0 ≤ b) (h3 : b < 18446744073709551616) :
  Calls Tryz.prog 144 #[.int .u64 a, .int .u64 b] w fun e w' => e = .returned (.int .u64 (wordI a b)) ∧ Below w.heap.size w w' := by
 have hI := Ints.made_u64 w [a, b] 2 rfl #[.int .u64 a, .int .u64 b] rfl rfl 27
 have H := Lib.hid (ref_Of 2 _ 2 2 [a, b] _ (by omega) (by omega) hI (.cons h0 h1 (.cons h2 h3 .nil)) (by omega))
 clear h0 h1 h2 h3
 go_enter Tryz.func144, Tryz.ntmps144
 go_wp2_with (go_at_call 146; refine H.out.mono ?_; rintro e w1 ⟨rfl, hb⟩)
 go_ret
 exact ⟨rfl, Below.trans (B := w.heap.size) (by repeat (first | exact Below.refl _ _ | assumption | refine bel_drewN ?_ _ | refine Below.drew ?_ | (refine Below.alloc ?_ (by simp <;> omega) _) | (refine Below.setCell ?_ (by simp <;> omega) _))) (hb.mono (by simp))⟩
def numI (x : Int) : Int := (if x < -4294967296 then -4294967296 else if 4294967296 < x then 4294967296 else x) + 4294967296
def numL (xs : List Int) : List Int := upto (fun k => numI (at0 xs k)) xs.length
theorem numL_length (xs : List Int) : (numL xs).length = xs.length := upto_length _ _
theorem numI_bd (x : Int) : 0 ≤ numI x ∧ numI x ≤ 8589934592 := by unfold numI; split <;> (try split) <;> omega
theorem numL_u64 (xs : List Int) : U64 (numL xs) := fun k => by
 unfold numL
 rcases Nat.lt_or_ge k xs.length with h | h
 ·rw [at0_upto _ h]; have := numI_bd (at0 xs k); omega
 ·unfold at0
  rw [List.getElem?_eq_none (by rw [upto_length]; exact h)]
  exact ⟨Int.le_refl _, by show (0 : Int) < _; omega⟩
theorem u64_info : (Tryz.prog.info? 27).map (fun i => (i.zero, i.size, i.bytes)) = some (some (.int .u64 0), 1, 8) := by kernel_rfl
def OwnU1 (w : World) (xs : List Int) (e : Ending) (w' : World) : Prop :=
 ∃ A c, e = .returned (.slice A xs.length c) ∧ w'.ownsRow w.heap.size 27 1 (.slice A xs.length c) xs.length (xs.map (.int .u64)) ∧ Below w.heap.size w w'
def OwnU (w : World) (xs : List Int) (r : Int) (e : Ending) (w' : World) : Prop :=
 ∃ A c, e = .returned (.tuple #[.slice A xs.length c, .int .i64 r]) ∧ w'.ownsRow w.heap.size 27 1 (.slice A xs.length c) xs.length (xs.map (.int .u64)) ∧ Below w.heap.size w w'
theorem ownU_one {w w' : World} {xs : List Int} {v : Value} {n : Nat} (hl : xs.length = n) (h : w'.ownsRow w.heap.size 27 1 v n (xs.map (.int .u64))) (hb : Below w.heap.size w w') : OwnU1 w xs (.returned v) w' := by
 subst hl
 obtain ⟨A, c, rfl, _⟩ := own_ints h
 exact ⟨A, c, rfl, h, hb⟩
theorem ownU_res {w w' : World} {xs : List Int} {v : Value} {n : Nat} {r : Int} (hl : xs.length = n) (h : w'.ownsRow w.heap.size 27 1 v n (xs.map (.int .u64))) (hb : Below w.heap.size w w') : OwnU w xs r (.returned (.tuple #[v, .int .i64 r])) w' := by
 subst hl
 obtain ⟨A, c, rfl, _⟩ := own_ints h
 exact ⟨A, c, rfl, h, hb⟩
theorem dig_Numbers_ok (A : Option Addr) (n c : Nat) (xs : List Int) (w : World) (hx : Ints .i64 w A n xs) (hn : n ≤ 200) :
  Calls Tryz.prog 190 #[.slice A n c] w (OwnU w (numL xs) 0) := by
 obtain ⟨i0, hi0, hz0, hz1, hz2⟩ := info_parts u64_info
 have HE := Lib.hid (show numL xs = upto (fun k => numI (at0 xs k)) n by unfold numL; rw [hx.len])
 go_enter Tryz.func190, Tryz.ntmps190
 go_wp2
 go_loopw [4, 6, 12] (fun o _ i wr => ∃ k : Nat, k ≤ n ∧ i = .int .i64 k ∧ wr.ownsRow w.heap.size 27 1 o k ((upto (fun k => numI (at0 xs k)) k).map (.int .u64)) ∧ Below w.heap.size w wr) (fun _ _ i _ => n - (intOf i).toNat)
 case atStart => exact ⟨0, Nat.zero_le _, rfl, World.ownsRow_nil _ _ _ _, Below.refl _ _⟩
 case round =>
  obtain ⟨k, hk, rfl, hown, hb⟩ := hrel
  by_cases hlt : k < n
  ·obtain ⟨b, off, rfl, hbl, hc⟩ := hx.cells (by omega)
   have g1 := (hb.cell (p := ⟨b, off + k, none⟩) hbl).trans (hc k hlt)
   have hbs := hb.size
   have F := Lib.hid (show upto (fun k => numI (at0 xs k)) (k + 1) = upto (fun k => numI (at0 xs k)) k ++ [numI (at0 xs k)] from upto_succ _ _)
   obtain ⟨x, hxx⟩ : ∃ x, x = at0 xs k := ⟨_, rfl⟩
   rw [← hxx] at g1 F
   clear hc hxx
   have hcs : x < -4294967296 ∨ 4294967296 < x ∨ (-4294967296 ≤ x ∧ x ≤ 4294967296) := by omega
   rcases hcs with h | h | ⟨h, h'⟩
   ·have V := Lib.hid (show numI x = 0 by unfold numI; rw [if_pos h]; rfl)
    rw [V.out] at F
    go_wp2_with (at_builtin; refine wpList_append_own _ rfl _ _ 146 rfl w.heap.size 27 i0 (.int .u64 0) 1 8 Tryz.underlying146 hi0 hz0 hz1 hz2 rfl (by decide) u4 k _ rfl (hown.alloc _) ⟨wr.heap.size, 0, none⟩ 1 1 [.int .u64 (0)] rfl rfl (cell_one_new _ _ _) (by simp [Value.oneCell']) (by unfold maxLen; omega) (by omega) (by simp; omega) ?_; intro v1 w1 hown1 hgrow _)
    have hb2 : Below w.heap.size w w1 := Below.grown (hb.alloc hbs _) hgrow (by simp; omega) (fun x hx => (hown.lt x hx).1)
    rw [← List.map_singleton, ← List.map_append, ← F.out] at hown1
    clear hgrow
    go_roundw
    case rel => exact ⟨k + 1, by omega, by go_num, hown1, hb2⟩
    case measure => simp [intOf]; omega
   ·have V := Lib.hid (show numI x = 8589934592 by unfold numI; rw [if_neg (by omega), if_pos h]; rfl)
    rw [V.out] at F
    go_wp2_with (at_builtin; refine wpList_append_own _ rfl _ _ 146 rfl w.heap.size 27 i0 (.int .u64 0) 1 8 Tryz.underlying146 hi0 hz0 hz1 hz2 rfl (by decide) u4 k _ rfl (hown.alloc _) ⟨wr.heap.size, 0, none⟩ 1 1 [.int .u64 (8589934592)] rfl rfl (cell_one_new _ _ _) (by simp [Value.oneCell']) (by unfold maxLen; omega) (by omega) (by simp; omega) ?_; intro v1 w1 hown1 hgrow _)
    have hb2 : Below w.heap.size w w1 := Below.grown (hb.alloc hbs _) hgrow (by simp; omega) (fun x hx => (hown.lt x hx).1)
    rw [← List.map_singleton, ← List.map_append, ← F.out] at hown1
    clear hgrow
    go_roundw
    case rel => exact ⟨k + 1, by omega, by go_num, hown1, hb2⟩
    case measure => simp [intOf]; omega
   ·have V := Lib.hid (show numI x = x + 4294967296 by unfold numI; rw [if_neg (by omega), if_neg (by omega)])
    rw [V.out] at F
    go_wp2_with (at_builtin; refine wpList_append_own _ rfl _ _ 146 rfl w.heap.size 27 i0 (.int .u64 0) 1 8 Tryz.underlying146 hi0 hz0 hz1 hz2 rfl (by decide) u4 k _ rfl (hown.alloc _) ⟨wr.heap.size, 0, none⟩ 1 1 [.int .u64 (x + 4294967296)] rfl rfl (cell_one_new _ _ _) (by simp [Value.oneCell']) (by unfold maxLen; omega) (by omega) (by simp; omega) ?_; intro v1 w1 hown1 hgrow _)
    have hb2 : Below w.heap.size w w1 := Below.grown (hb.alloc hbs _) hgrow (by simp; omega) (fun x hx => (hown.lt x hx).1)
    rw [← List.map_singleton, ← List.map_append, ← F.out] at hown1
    clear hgrow
    go_roundw
    case rel => exact ⟨k + 1, by omega, by go_num, hown1, hb2⟩
    case measure => simp [intOf]; omega
  ·obtain rfl : n = k := by omega
   go_wp2
   go_ret2
   exact ownU_res ((numL_length xs).trans hx.len) (by rw [HE.out]; exact hown) hb
theorem ref_Numbers (A : Option Addr) (n c : Nat) (xs : List Int) (w : World) (hx : Ints .i64 w A n xs) (hn : n ≤ 200) :
  Calls Tryz.prog 208 #[.slice A n c] w (OwnU1 w (numL xs)) := by
 obtain ⟨i0, hi0, hz0, hz1, hz2⟩ := info_parts u64_info
 have HE := Lib.hid (show numL xs = upto (fun k => numI (at0 xs k)) n by unfold numL; rw [hx.len])
 go_enter Tryz.func208, Tryz.ntmps208
 go_wp2
 go_loopw [3, 4, 5] (fun o i _ wr => ∃ k : Nat, k ≤ n ∧ i = .int .i64 k ∧ wr.ownsRow w.heap.size 27 1 o k ((upto (fun k => numI (at0 xs k)) k).map (.int .u64)) ∧ Below w.heap.size w wr) (fun _ i _ _ => n - (intOf i).toNat)
 case atStart => exact ⟨0, Nat.zero_le _, rfl, World.ownsRow_nil _ _ _ _, Below.refl _ _⟩
 case round =>
  obtain ⟨k, hk, rfl, hown, hb⟩ := hrel
  by_cases hlt : k < n
  ·obtain ⟨b, off, rfl, hbl, hc⟩ := hx.cells (by omega)
   have g1 := (hb.cell (p := ⟨b, off + k, none⟩) hbl).trans (hc k hlt)
   have hbs := hb.size
   have F := Lib.hid (show upto (fun k => numI (at0 xs k)) (k + 1) = upto (fun k => numI (at0 xs k)) k ++ [numI (at0 xs k)] from upto_succ _ _)
   obtain ⟨x, hxx⟩ : ∃ x, x = at0 xs k := ⟨_, rfl⟩
   rw [← hxx] at g1 F
   clear hc hxx
   have hcs : x < -4294967296 ∨ 4294967296 < x ∨ (-4294967296 ≤ x ∧ x ≤ 4294967296) := by omega
   rcases hcs with h | h | ⟨h, h'⟩
   ·have V := Lib.hid (show numI x = 0 by unfold numI; rw [if_pos h]; rfl)
    rw [V.out] at F
    go_wp2_with (at_builtin; refine wpList_append_own _ rfl _ _ 146 rfl w.heap.size 27 i0 (.int .u64 0) 1 8 Tryz.underlying146 hi0 hz0 hz1 hz2 rfl (by decide) u3 k _ rfl (hown.alloc _) ⟨wr.heap.size, 0, none⟩ 1 1 [.int .u64 (0)] rfl rfl (cell_one_new _ _ _) (by simp [Value.oneCell']) (by unfold maxLen; omega) (by omega) (by simp; omega) ?_; intro v1 w1 hown1 hgrow _)
    have hb2 : Below w.heap.size w w1 := Below.grown (hb.alloc hbs _) hgrow (by simp; omega) (fun x hx => (hown.lt x hx).1)
    rw [← List.map_singleton, ← List.map_append, ← F.out] at hown1
    clear hgrow
    go_roundw
    case rel => exact ⟨k + 1, by omega, by go_num, hown1, hb2⟩
    case measure => simp [intOf]; omega
   ·have V := Lib.hid (show numI x = 8589934592 by unfold numI; rw [if_neg (by omega), if_pos h]; rfl)
    rw [V.out] at F
    go_wp2_with (at_builtin; refine wpList_append_own _ rfl _ _ 146 rfl w.heap.size 27 i0 (.int .u64 0) 1 8 Tryz.underlying146 hi0 hz0 hz1 hz2 rfl (by decide) u3 k _ rfl (hown.alloc _) ⟨wr.heap.size, 0, none⟩ 1 1 [.int .u64 (8589934592)] rfl rfl (cell_one_new _ _ _) (by simp [Value.oneCell']) (by unfold maxLen; omega) (by omega) (by simp; omega) ?_; intro v1 w1 hown1 hgrow _)
    have hb2 : Below w.heap.size w w1 := Below.grown (hb.alloc hbs _) hgrow (by simp; omega) (fun x hx => (hown.lt x hx).1)
    rw [← List.map_singleton, ← List.map_append, ← F.out] at hown1
    clear hgrow
    go_roundw
    case rel => exact ⟨k + 1, by omega, by go_num, hown1, hb2⟩
    case measure => simp [intOf]; omega
   ·have V := Lib.hid (show numI x = x + 4294967296 by unfold numI; rw [if_neg (by omega), if_neg (by omega)])
    rw [V.out] at F
    go_wp2_with (at_builtin; refine wpList_append_own _ rfl _ _ 146 rfl w.heap.size 27 i0 (.int .u64 0) 1 8 Tryz.underlying146 hi0 hz0 hz1 hz2 rfl (by decide) u3 k _ rfl (hown.alloc _) ⟨wr.heap.size, 0, none⟩ 1 1 [.int .u64 (x + 4294967296)] rfl rfl (cell_one_new _ _ _) (by simp [Value.oneCell']) (by unfold maxLen; omega) (by omega) (by simp; omega) ?_; intro v1 w1 hown1 hgrow _)
    have hb2 : Below w.heap.size w w1 := Below.grown (hb.alloc hbs _) hgrow (by simp; omega) (fun x hx => (hown.lt x hx).1)
    rw [← List.map_singleton, ← List.map_append, ← F.out] at hown1
    clear hgrow
    go_roundw
    case rel => exact ⟨k + 1, by omega, by go_num, hown1, hb2⟩
    case measure => simp [intOf]; omega
  ·obtain rfl : n = k := by omega
   go_wp2
   go_ret
   exact ownU_one ((numL_length xs).trans hx.len) (by rw [HE.out]; exact hown) hb
end Go.Proofs.YtgodgedhddngeaaGreatDoor
