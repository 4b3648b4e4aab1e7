/- The document's own text's mix of a state: a walk. -/
import Derived.Test.YtgfidgepplfcbaaDigR
import Derived.StillTailTactics
import Derived.Outline
namespace Go.Proofs.Ytgfidgepplfcbaa
open Go.RowKit Pl

/-- While the mix goes on: the state in its box, the answer's box untouched. -/
def MixR (w : World) (s : Nat × Nat × Nat) (wr : World) : Prop :=
  Below w.heap.size w wr ∧ Blk wr w.heap.size 118 (stC s) ∧ Blk wr (w.heap.size + 1) 118 #[.int .u64 0, .int .u64 0, .int .u64 0]
theorem mix_plus (X Y Z : Int) (x0 : 0 ≤ X) (x1 : X < 2305843009213693951) (y0 : 0 ≤ Y) (y1 : Y < 2305843009213693951) (z0 : 0 ≤ Z) (z1 : Z < 2305843009213693951) (W : World) :
    (∀ V, (V = X ∨ V = Y ∨ V = Z) → Calls Try.prog 97 #[.int .u64 Z, .int .u64 V] W fun e w' => e = .returned (.int .u64 (addI Z V)) ∧ w' = W) ∧
    (Calls Try.prog 97 #[.int .u64 X, .int .u64 Y] W fun e w' => e = .returned (.int .u64 (addI X Y)) ∧ w' = W) ∧
    (∀ V, Calls Try.prog 97 #[.int .u64 (addI X Y), .int .u64 (addI Z V)] W fun e w' => e = .returned (.int .u64 (addI (addI X Y) (addI Z V))) ∧ w' = W) := by
  have a0 := addI_lo X Y
  have a1 := addI_hi X Y
  refine ⟨fun V hV => ?_, ?_, fun V => ?_⟩
  · have : 0 ≤ V ∧ V < 2305843009213693951 := by rcases hV with rfl | rfl | rfl <;> omega
    exact (ref_plus _ _ (by omega) (by omega) (by omega) (by omega) W).mono fun _ _ ⟨h, e⟩ => ⟨h, e.symm⟩
  · exact (ref_plus _ _ (by omega) (by omega) (by omega) (by omega) W).mono fun _ _ ⟨h, e⟩ => ⟨h, e.symm⟩
  · have b0 := addI_lo Z V
    have b1 := addI_hi Z V
    exact (ref_plus _ _ (by omega) (by omega) (by omega) (by omega) W).mono fun _ _ ⟨h, e⟩ => ⟨h, e.symm⟩
theorem addI_shuffle {X Y Z U T : Int} (V : Int) (hU : U = addI Y Z) (hT : T = addI X U) : addI (addI X Y) (addI Z V) = addI T V := by
  subst hU; subst hT
  unfold addI
  simp only [Int.toNat_natCast]
  rw [addP_eq, addP_eq, addP_eq, addP_eq, addP_eq, addP_eq]
  generalize X.toNat = a
  generalize Y.toNat = b
  generalize Z.toNat = c
  generalize V.toNat = d
  unfold P61
  omega

set_option maxRecDepth 100000 in
set_option maxHeartbeats 4000000 in
theorem ref_mixed (s : Nat × Nat × Nat) (w : World) (hs : st64 s) :
    Calls Try.prog 96 #[.agg (stC s)] w fun e w' => e = .returned (.agg (stC (mixP s))) ∧ Below w.heap.size w w' := by
  have hR : MixR w s ((w.alloc (.cells (stC s) 118)).alloc (.cells #[.int .u64 0, .int .u64 0, .int .u64 0] 118)) := ⟨(by repeat (first | exact Below.refl _ _ | assumption | refine bel_drewN ?_ _ | refine Below.drew ?_ | (refine Below.alloc ?_ (by simp <;> omega) _) | (refine Below.setCell ?_ (by simp <;> omega) _))), (Blk.made w _ _).alloc _, Blk.made' _ _ _ (by simp)⟩
  go_enter Try.func96, Try.ntmps96
  go_wp2
  go_loopw [3] (fun i wr => ∃ k : Nat, k ≤ 6 ∧ i = .int .i64 ((k : Int) + 1) ∧ MixR w (turnsP k s) wr) (fun i _ => 7 - (intOf i).toNat)
  case atStart => exact ⟨0, by omega, rfl, hR⟩
  case round =>
    clear hR
    obtain ⟨k, hk, rfl, hb, hG, hO⟩ := hrel
    obtain ⟨t1, t2, t3⟩ := turnsP_64 hs k
    obtain ⟨x, hx⟩ : ∃ x : Int, x = (turnsP k s).1 := ⟨_, rfl⟩
    obtain ⟨y, hy⟩ : ∃ y : Int, y = (turnsP k s).2.1 := ⟨_, rfl⟩
    obtain ⟨z, hz⟩ : ∃ z : Int, z = (turnsP k s).2.2 := ⟨_, rfl⟩
    have hG2 : Blk wr w.heap.size 118 #[.int .u64 x, .int .u64 y, .int .u64 z] := by rw [hx, hy, hz]; exact hG
    have x0 : 0 ≤ x ∧ x < 18446744073709551616 := by omega
    have y0 : 0 ≤ y ∧ y < 18446744073709551616 := by omega
    have w0 : 0 ≤ z ∧ z < 18446744073709551616 := by omega
    have HX := Lib.hid hx
    have HY := Lib.hid hy
    have HZ := Lib.hid hz
    clear hx hy hz t1 t2 t3 hG
    by_cases hlt : k < 6
    · obtain ⟨X0, hX0⟩ : ∃ X0, X0 = addI x ((k : Int) + 1) := ⟨_, rfl⟩
      obtain ⟨Y0, hY0⟩ : ∃ Y0, Y0 = addI y (((k : Int) + 1) * 2) := ⟨_, rfl⟩
      obtain ⟨Z0, hZ0⟩ : ∃ Z0, Z0 = addI z (((k : Int) + 1) * 3) := ⟨_, rfl⟩
      have bX : 0 ≤ X0 ∧ X0 < 18446744073709551616 := by have := addI_lo x ((k : Int) + 1); have := addI_hi x ((k : Int) + 1); omega
      have bY : 0 ≤ Y0 ∧ Y0 < 18446744073709551616 := by have := addI_lo y (((k : Int) + 1) * 2); have := addI_hi y (((k : Int) + 1) * 2); omega
      have bZ : 0 ≤ Z0 ∧ Z0 < 18446744073709551616 := by have := addI_lo z (((k : Int) + 1) * 3); have := addI_hi z (((k : Int) + 1) * 3); omega
      have PX := Lib.hid (fun W => ref_plus x ((k : Int) + 1) x0.1 x0.2 (by omega) (by omega) W)
      have PY := Lib.hid (fun W => ref_plus y (((k : Int) + 1) * 2) y0.1 y0.2 (by omega) (by omega) W)
      have PZ := Lib.hid (fun W => ref_plus z (((k : Int) + 1) * 3) w0.1 w0.2 (by omega) (by omega) W)
      rw [← hX0] at PX
      rw [← hY0] at PY
      rw [← hZ0] at PZ
      have HX0 := Lib.hid hX0
      have HY0 := Lib.hid hY0
      have HZ0 := Lib.hid hZ0
      have c0 : ∀ o, (wr.alloc o).cell? ⟨w.heap.size, 0, none⟩ = some (.int .u64 x) := fun o => (hG2.alloc o).cell 0
      have c1 : ∀ o, (wr.alloc o).cell? ⟨w.heap.size, 1, none⟩ = some (.int .u64 y) := fun o => (hG2.alloc o).cell 1
      have c2 : ∀ o, (wr.alloc o).cell? ⟨w.heap.size, 2, none⟩ = some (.int .u64 z) := fun o => (hG2.alloc o).cell 2
      have BX := Lib.hid bX
      have BY := Lib.hid bY
      have BZ := Lib.hid bZ
      clear hX0 hY0 hZ0 bX bY bZ x0 y0 w0
      go_wp2
      refine wp_loop_rounds 4 ?_
      rw [rounds_succ]
      go_wp2_with (go_at_call 97; refine (PX.out _).mono ?_; rintro e w' ⟨rfl, rfl⟩)
      go_loop [7, 8] (fun a i => ∃ m : Nat, m ≤ 4 ∧ i = .int .i64 m ∧ a = .int .u64 (sqI X0 m)) (fun _ i => 4 - (intOf i).toNat)
      case atStart => exact ⟨0, by omega, rfl, rfl⟩
      case round =>
        obtain ⟨m, hm, rfl, rfl⟩ := hrel
        obtain ⟨b1, b2⟩ := sqI_bd X0 BX.out.1 BX.out.2 m
        by_cases hl0 : m < 4
        · have TM := Lib.hid (fun W => ref_times (sqI X0 m) (sqI X0 m) b1 b2 b1 b2 W)
          clear b1 b2
          go_wp2_with (go_at_call 122; refine (TM.out _).mono ?_; rintro e w' ⟨rfl, rfl⟩)
          go_round
          case rel => exact ⟨m + 1, by omega, by go_num, rfl⟩
          case measure => simp [intOf] <;> omega
        · obtain rfl : m = 4 := by omega
          have TM := Lib.hid (fun W => ref_times (sqI X0 4) X0 b1 b2 BX.out.1 BX.out.2 W)
          rw [sqI_pow] at TM
          clear b1 b2
          go_wp2_with (go_at_call 122; refine (TM.out _).mono ?_; rintro e w' ⟨rfl, rfl⟩)
          clear TM
          rw [rounds_succ]
          go_wp2_with (go_at_call 97; refine (PY.out _).mono ?_; rintro e w' ⟨rfl, rfl⟩)
          go_loop [7, 8] (fun a i => ∃ m : Nat, m ≤ 4 ∧ i = .int .i64 m ∧ a = .int .u64 (sqI Y0 m)) (fun _ i => 4 - (intOf i).toNat)
          case atStart => exact ⟨0, by omega, rfl, rfl⟩
          case round =>
            obtain ⟨m, hm, rfl, rfl⟩ := hrel
            obtain ⟨b1, b2⟩ := sqI_bd Y0 BY.out.1 BY.out.2 m
            by_cases hl1 : m < 4
            · have TM := Lib.hid (fun W => ref_times (sqI Y0 m) (sqI Y0 m) b1 b2 b1 b2 W)
              clear b1 b2
              go_wp2_with (go_at_call 122; refine (TM.out _).mono ?_; rintro e w' ⟨rfl, rfl⟩)
              go_round
              case rel => exact ⟨m + 1, by omega, by go_num, rfl⟩
              case measure => simp [intOf] <;> omega
            · obtain rfl : m = 4 := by omega
              have TM := Lib.hid (fun W => ref_times (sqI Y0 4) Y0 b1 b2 BY.out.1 BY.out.2 W)
              rw [sqI_pow] at TM
              clear b1 b2
              go_wp2_with (go_at_call 122; refine (TM.out _).mono ?_; rintro e w' ⟨rfl, rfl⟩)
              clear TM
              rw [rounds_succ]
              go_wp2_with (go_at_call 97; refine (PZ.out _).mono ?_; rintro e w' ⟨rfl, rfl⟩)
              go_loop [7, 8] (fun a i => ∃ m : Nat, m ≤ 4 ∧ i = .int .i64 m ∧ a = .int .u64 (sqI Z0 m)) (fun _ i => 4 - (intOf i).toNat)
              case atStart => exact ⟨0, by omega, rfl, rfl⟩
              case round =>
                obtain ⟨m, hm, rfl, rfl⟩ := hrel
                obtain ⟨b1, b2⟩ := sqI_bd Z0 BZ.out.1 BZ.out.2 m
                by_cases hl2 : m < 4
                · have TM := Lib.hid (fun W => ref_times (sqI Z0 m) (sqI Z0 m) b1 b2 b1 b2 W)
                  clear b1 b2
                  go_wp2_with (go_at_call 122; refine (TM.out _).mono ?_; rintro e w' ⟨rfl, rfl⟩)
                  go_round
                  case rel => exact ⟨m + 1, by omega, by go_num, rfl⟩
                  case measure => simp [intOf] <;> omega
                · obtain rfl : m = 4 := by omega
                  have TM := Lib.hid (fun W => ref_times (sqI Z0 4) Z0 b1 b2 BZ.out.1 BZ.out.2 W)
                  rw [sqI_pow] at TM
                  clear b1 b2
                  go_wp2_with (go_at_call 122; refine (TM.out _).mono ?_; rintro e w' ⟨rfl, rfl⟩)
                  clear TM
                  rw [rounds_succ]
                  go_wp2
                  obtain ⟨X, hX⟩ : ∃ X, X = powI X0 := ⟨_, rfl⟩
                  obtain ⟨Y, hY⟩ : ∃ Y, Y = powI Y0 := ⟨_, rfl⟩
                  obtain ⟨Z, hZ⟩ : ∃ Z, Z = powI Z0 := ⟨_, rfl⟩
                  have X1 : 0 ≤ X ∧ X < 2305843009213693951 := by rw [hX]; exact ⟨powI_lo _, powI_hi _⟩
                  have Y1 : 0 ≤ Y ∧ Y < 2305843009213693951 := by rw [hY]; exact ⟨powI_lo _, powI_hi _⟩
                  have Z1 : 0 ≤ Z ∧ Z < 2305843009213693951 := by rw [hZ]; exact ⟨powI_lo _, powI_hi _⟩
                  have HP := Lib.hid (fun W => mix_plus X Y Z X1.1 X1.2 Y1.1 Y1.2 Z1.1 Z1.2 W)
                  obtain ⟨U, hU⟩ : ∃ U, U = addI Y Z := ⟨_, rfl⟩
                  obtain ⟨T, hT⟩ : ∃ T, T = addI X U := ⟨_, rfl⟩
                  have HC := Lib.hid (turn_cells (turnsP k s) k HX.out HY.out HZ.out (X := X) (Y := Y) (Z := Z) (T := T) (by rw [hX, HX0.out]) (by rw [hY, HY0.out, Int.mul_comm]) (by rw [hZ, HZ0.out, Int.mul_comm]) (by rw [← hU]; exact hT))
                  have HV := Lib.hid (fun V => addI_shuffle V hU hT)
                  obtain ⟨v0, hv0⟩ : ∃ v0, v0 = wr.alloc (.cells #[.int .u64 X, .int .u64 Y, .int .u64 Z] 118) := ⟨_, rfl⟩
                  rw [← hX, ← hY, ← hZ]
                  rw [← hv0]
                  have hT0 : Blk v0 wr.heap.size 118 #[.int .u64 X, .int .u64 Y, .int .u64 Z] := by rw [hv0]; exact Blk.made wr _ _
                  have hG0 : Blk v0 w.heap.size 118 #[.int .u64 x, .int .u64 y, .int .u64 z] := by rw [hv0]; exact hG2.alloc _
                  have hO0 : Blk v0 (w.heap.size + 1) 118 #[.int .u64 0, .int .u64 0, .int .u64 0] := by rw [hv0]; exact hO.alloc _
                  have hb0 : Below w.heap.size w v0 := by rw [hv0]; exact hb.alloc hb.size _
                  have hlO := hO.lt
                  clear hv0 hX hY hZ hU hT X1 Y1 Z1 hb hG2 hO c0 c1 c2
                  refine wp_loop_rounds 4 ?_
                  rw [rounds_succ]
                  have p0 : v0.cell? ⟨wr.heap.size, 0, none⟩ = some (.int .u64 X) := hT0.cell 0
                  have p1 : v0.cell? ⟨wr.heap.size, 1, none⟩ = some (.int .u64 Y) := hT0.cell 1
                  have p2 : v0.cell? ⟨wr.heap.size, 2, none⟩ = some (.int .u64 Z) := hT0.cell 2
                  have q0 : v0.cell? ⟨w.heap.size, 0, none⟩ = some (.int .u64 x) := hG0.cell 0
                  have qz := hG0.frozen 0
                  go_wp2
                  refine wp_region_still_tail 14 (by kernel_rfl) (by kernel_rfl) ?_
                  simp only [List.take_succ_cons, List.take_zero, List.drop_succ_cons, List.drop_zero]
                  repeat still_step
                  still_call ((HP.out _).2.1)
                  repeat still_step
                  still_call ((HP.out _).1 X (by simp))
                  repeat still_step
                  still_call ((HP.out _).2.2 X)
                  repeat still_step
                  refine wpStill_nil ?_
                  rw [HV.out X]
                  change wpList _ _ _ _ _ v0.drew
                  go_wp2
                  obtain ⟨v1, hv1⟩ : ∃ v1, v1 = (v0.setCell ⟨w.heap.size, 0, none⟩ (.int .u64 (addI T X))).drew := ⟨_, rfl⟩
                  rw [← hv1]
                  have hT1 : Blk v1 wr.heap.size 118 #[.int .u64 X, .int .u64 Y, .int .u64 Z] := by rw [hv1]; exact (Blk.far hT0 (by simp; omega) _).drewN 1
                  have hG1 : Blk v1 w.heap.size 118 #[.int .u64 (addI T X), .int .u64 y, .int .u64 z] := by rw [hv1]; exact (Blk.put hG0 0 _).drewN 1
                  have hO1 : Blk v1 (w.heap.size + 1) 118 #[.int .u64 0, .int .u64 0, .int .u64 0] := by rw [hv1]; exact (Blk.far hO0 (by simp) _).drewN 1
                  have hb1 : Below w.heap.size w v1 := by rw [hv1]; exact bel_drewN (Below.setCell hb0 (by simp) _) 1
                  clear hv1 p0 p1 p2 q0 qz hT0 hG0 hO0 hb0
                  rw [rounds_succ]
                  have p0 : v1.cell? ⟨wr.heap.size, 0, none⟩ = some (.int .u64 X) := hT1.cell 0
                  have p1 : v1.cell? ⟨wr.heap.size, 1, none⟩ = some (.int .u64 Y) := hT1.cell 1
                  have p2 : v1.cell? ⟨wr.heap.size, 2, none⟩ = some (.int .u64 Z) := hT1.cell 2
                  have q1 : v1.cell? ⟨w.heap.size, 1, none⟩ = some (.int .u64 y) := hG1.cell 1
                  have qz := hG1.frozen 1
                  go_wp2
                  refine wp_region_still_tail 14 (by kernel_rfl) (by kernel_rfl) ?_
                  simp only [List.take_succ_cons, List.take_zero, List.drop_succ_cons, List.drop_zero]
                  repeat still_step
                  still_call ((HP.out _).2.1)
                  repeat still_step
                  still_call ((HP.out _).1 Y (by simp))
                  repeat still_step
                  still_call ((HP.out _).2.2 Y)
                  repeat still_step
                  refine wpStill_nil ?_
                  rw [HV.out Y]
                  change wpList _ _ _ _ _ v1.drew
                  go_wp2
                  obtain ⟨v2, hv2⟩ : ∃ v2, v2 = (v1.setCell ⟨w.heap.size, 1, none⟩ (.int .u64 (addI T Y))).drew := ⟨_, rfl⟩
                  rw [← hv2]
                  have hT2 : Blk v2 wr.heap.size 118 #[.int .u64 X, .int .u64 Y, .int .u64 Z] := by rw [hv2]; exact (Blk.far hT1 (by simp; omega) _).drewN 1
                  have hG2 : Blk v2 w.heap.size 118 #[.int .u64 (addI T X), .int .u64 (addI T Y), .int .u64 z] := by rw [hv2]; exact (Blk.put hG1 1 _).drewN 1
                  have hO2 : Blk v2 (w.heap.size + 1) 118 #[.int .u64 0, .int .u64 0, .int .u64 0] := by rw [hv2]; exact (Blk.far hO1 (by simp) _).drewN 1
                  have hb2 : Below w.heap.size w v2 := by rw [hv2]; exact bel_drewN (Below.setCell hb1 (by simp) _) 1
                  clear hv2 p0 p1 p2 q1 qz hT1 hG1 hO1 hb1
                  rw [rounds_succ]
                  have p0 : v2.cell? ⟨wr.heap.size, 0, none⟩ = some (.int .u64 X) := hT2.cell 0
                  have p1 : v2.cell? ⟨wr.heap.size, 1, none⟩ = some (.int .u64 Y) := hT2.cell 1
                  have p2 : v2.cell? ⟨wr.heap.size, 2, none⟩ = some (.int .u64 Z) := hT2.cell 2
                  have q2 : v2.cell? ⟨w.heap.size, 2, none⟩ = some (.int .u64 z) := hG2.cell 2
                  have qz := hG2.frozen 2
                  go_wp2
                  refine wp_region_still_tail 14 (by kernel_rfl) (by kernel_rfl) ?_
                  simp only [List.take_succ_cons, List.take_zero, List.drop_succ_cons, List.drop_zero]
                  repeat still_step
                  still_call ((HP.out _).2.1)
                  repeat still_step
                  still_call ((HP.out _).1 Z (by simp))
                  repeat still_step
                  still_call ((HP.out _).2.2 Z)
                  repeat still_step
                  refine wpStill_nil ?_
                  rw [HV.out Z]
                  change wpList _ _ _ _ _ v2.drew
                  go_wp2
                  obtain ⟨v3, hv3⟩ : ∃ v3, v3 = (v2.setCell ⟨w.heap.size, 2, none⟩ (.int .u64 (addI T Z))).drew := ⟨_, rfl⟩
                  rw [← hv3]
                  have hT3 : Blk v3 wr.heap.size 118 #[.int .u64 X, .int .u64 Y, .int .u64 Z] := by rw [hv3]; exact (Blk.far hT2 (by simp; omega) _).drewN 1
                  have hG3 : Blk v3 w.heap.size 118 #[.int .u64 (addI T X), .int .u64 (addI T Y), .int .u64 (addI T Z)] := by rw [hv3]; exact (Blk.put hG2 2 _).drewN 1
                  have hO3 : Blk v3 (w.heap.size + 1) 118 #[.int .u64 0, .int .u64 0, .int .u64 0] := by rw [hv3]; exact (Blk.far hO2 (by simp) _).drewN 1
                  have hb3 : Below w.heap.size w v3 := by rw [hv3]; exact bel_drewN (Below.setCell hb2 (by simp) _) 1
                  clear hv3 p0 p1 p2 q2 qz hT2 hG2 hO2 hb2
                  rw [rounds_succ]
                  go_wp2
                  go_roundw
                  case rel => exact ⟨k + 1, by omega, by go_num, hb3, by
                    rw [show turnsP (k + 1) s = turnP (k + 1) (turnsP k s) from rfl, ← HC.out]
                    exact hG3, hO3⟩
                  case measure => simp [intOf] <;> omega
    · obtain rfl : k = 6 := by omega
      have hG3 : Blk wr w.heap.size 118 (stC (mixP s)) := by
        have h := hG2
        rw [HX.out, HY.out, HZ.out] at h
        exact h
      have c0 : wr.cell? ⟨w.heap.size, 0, none⟩ = some (.int .u64 (mixP s).1) := hG3.cell 0
      have c1 : wr.cell? ⟨w.heap.size, 1, none⟩ = some (.int .u64 (mixP s).2.1) := hG3.cell 1
      have c2 : wr.cell? ⟨w.heap.size, 2, none⟩ = some (.int .u64 (mixP s).2.2) := hG3.cell 2
      have d0 : wr.cell? ⟨w.heap.size + 1, 0, none⟩ = some (.int .u64 0) := hO.cell 0
      have d1 : wr.cell? ⟨w.heap.size + 1, 1, none⟩ = some (.int .u64 0) := hO.cell 1
      have d2 : wr.cell? ⟨w.heap.size + 1, 2, none⟩ = some (.int .u64 0) := hO.cell 2
      have z0 := hO.frozen 0
      have z1 := hO.frozen 1
      have z2 := hO.frozen 2
      clear x0 y0 w0 hG2
      go_wp2
      refine bodyPost_ret (v := .agg #[.int .u64 (mixP s).1, .int .u64 (mixP s).2.1, .int .u64 (mixP s).2.2]) (by simp [results, Try.results96, go_sem, d0, d1, d2]) rfl ?_
      exact ⟨rfl, ((hb.setCell (by simp) _).setCell (by simp) _).setCell (by simp) _⟩
end Go.Proofs.Ytgfidgepplfcbaa
