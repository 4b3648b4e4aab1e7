/- What digest.mul, power17 and mix compute: walks, each function once. -/
import Derived.Test.YtgfidgepplfcbaaDigD
import Derived.Test.YtgfidgepplfcbaaPupShape
import Derived.IntWalk
namespace Go.Proofs.Ytgfidgepplfcbaa
open Go.RowKit Pl

set_option maxRecDepth 100000 in
set_option maxHeartbeats 1000000 in
theorem bits_Rem64 (hi lo : Int) (h0 : 0 ≤ hi) (hh : hi < 288230376151711744) (h1 : 0 ≤ lo) (hl : lo < 18446744073709551616) (w : World) :
    Calls Try.prog 139 #[.int .u64 hi, .int .u64 lo, .int .u64 2305843009213693951] w fun e w' => e = .returned (.int .u64 ((hi * 18446744073709551616 + lo) % 2305843009213693951)) ∧ Quiet w w' := by
  have H : Calls Try.prog 140 #[.int .u64 hi, .int .u64 lo, .int .u64 2305843009213693951] w (DivRes w ((hi * 18446744073709551616 + lo) % 2305843009213693951)) := by
    rcases Int.lt_or_le 0 hi with h | h
    · exact bits_Div64 hi lo h hh h1 hl w
    · obtain rfl : hi = 0 := by omega
      rw [Int.zero_mul, Int.zero_add]
      exact bits_Div64_zero lo h1 hl w
  have H' := Lib.hid H
  have e : hi % 2305843009213693951 = hi := by omega
  have e2 : hi.tmod 2305843009213693951 = hi := by rw [Int.tmod_eq_emod_of_nonneg h0]; exact e
  clear H
  go_enter Try.func139, Try.ntmps139
  go_wp2_with (go_at_call 140; refine H'.out.mono ?_; rintro e w1 ⟨q, rfl, hq⟩)
  go_ret
  exact ⟨rfl, hq⟩

theorem bits_Mul64I (x y : Int) (h0 : 0 ≤ x) (h1 : x < 2305843009213693951) (h2 : 0 ≤ y) (h3 : y < 2305843009213693951) (w : World) :
    Calls Try.prog 138 #[.int .u64 x, .int .u64 y] w fun e w' => (∃ hi lo : Int, 0 ≤ hi ∧ hi < 288230376151711744 ∧ 0 ≤ lo ∧ lo < 18446744073709551616 ∧ hi * 18446744073709551616 + lo = x * y ∧ e = .returned (.tuple #[.int .u64 hi, .int .u64 lo])) ∧ w = w' := by
  obtain ⟨x, rfl⟩ := Int.eq_ofNat_of_zero_le h0
  obtain ⟨y, rfl⟩ := Int.eq_ofNat_of_zero_le h2
  refine (bits_Mul64 x y (by omega) (by omega) w).mono ?_
  rintro e w' ⟨rfl, rfl⟩
  have hb : x * y ≤ 2305843009213693950 * 2305843009213693950 := Nat.mul_le_mul (by omega) (by omega)
  have hc : ((x : Int) * (y : Int)) = ((x * y : Nat) : Int) := (Int.natCast_mul x y).symm
  refine ⟨⟨_, _, by omega, by omega, by omega, by omega, ?_, rfl⟩, rfl⟩
  rw [hc]
  omega

theorem mulI_eq (a b : Int) : nI a * nI b % 2305843009213693951 = mulI a b := by
  unfold nI mulI mulP
  have h : ((a.toNat % P61 : Nat) : Int) * ((b.toNat % P61 : Nat) : Int) = (((a.toNat % P61) * (b.toNat % P61) : Nat) : Int) := (Int.natCast_mul _ _).symm
  rw [h]
  generalize (a.toNat % P61) * (b.toNat % P61) = n
  unfold P61
  omega

set_option maxHeartbeats 1000000 in
theorem dig_mul (a b : Int) (h0 : 0 ≤ a) (ha : a < 18446744073709551616) (h0' : 0 ≤ b) (hb : b < 18446744073709551616) (w : World) :
    Calls Try.prog 136 #[.int .u64 a, .int .u64 b] w fun e w' => e = .returned (.int .u64 (mulI a b)) ∧ Quiet w w' := by
  have h1 := nI_lo a
  have h2 := nI_hi a
  have h3 := nI_lo b
  have h4 := nI_hi b
  have HE := Lib.hid (mulI_eq a b)
  go_enter Try.func136, Try.ntmps136
  go_wp2_with (go_at_call 123; refine (dig_norm _ (by omega) (by omega) _).mono ?_; rintro e w' ⟨rfl, rfl⟩)
  refine (bits_Mul64I (nI a) (nI b) h1 h2 h3 h4 _).mono ?_
  rintro e w' ⟨⟨hi, lo, q1, q2, q3, q4, q5, rfl⟩, rfl⟩
  have H5 := Lib.hid q5
  clear q5
  go_wp2_with (go_at_call 139; refine (bits_Rem64 hi lo q1 q2 q3 q4 _).mono ?_; rintro e w' ⟨rfl, hq⟩)
  go_ret
  exact ⟨ret_int (by rw [H5.out]; exact HE.out), hq⟩

/-- Squared, k times. -/
def sqI (a : Int) : Nat → Int
  | 0 => a
  | k + 1 => mulI (sqI a k) (sqI a k)
theorem sqI_pow (a : Int) : mulI (sqI a 4) a = powI a := rfl
theorem sqI_bd (a : Int) (h0 : 0 ≤ a) (h1 : a < 18446744073709551616) (k : Nat) : 0 ≤ sqI a k ∧ sqI a k < 18446744073709551616 := by
  cases k with
  | zero => exact ⟨h0, h1⟩
  | succ k => exact ⟨mulI_lo _ _, by have := mulI_hi (sqI a k) (sqI a k); show mulI _ _ < _; omega⟩

set_option maxHeartbeats 1000000 in
theorem dig_pow (a : Int) (h0 : 0 ≤ a) (ha : a < 18446744073709551616) (w : World) :
    Calls Try.prog 133 #[.int .u64 a] w fun e w' => e = .returned (.int .u64 (powI a)) ∧ Quiet w w' := by
  go_enter Try.func133, Try.ntmps133
  go_wp2
  go_loopw [3, 5] (fun x i wr => ∃ k : Nat, k ≤ 4 ∧ i = .int .i64 k ∧ x = .int .u64 (sqI a k) ∧ Quiet w wr) (fun _ i _ => 4 - (intOf i).toNat)
  case atStart => exact ⟨0, by omega, rfl, rfl, Quiet.refl _⟩
  case round =>
    obtain ⟨k, hk, rfl, rfl, hq⟩ := hrel
    obtain ⟨b1, b2⟩ := sqI_bd a h0 ha k
    by_cases hlt : k < 4
    · go_wp2_with (go_at_call 136; refine (dig_mul _ _ b1 b2 b1 b2 _).mono ?_; rintro e w1 ⟨rfl, hq1⟩)
      go_roundw
      case rel => exact ⟨k + 1, by omega, by go_num, rfl, hq.trans hq1⟩
      case measure => simp [intOf]; omega
    · obtain rfl : k = 4 := by omega
      go_wp2_with (go_at_call 136; refine (dig_mul _ _ b1 b2 h0 ha _).mono ?_; rintro e w1 ⟨rfl, hq1⟩)
      go_ret
      exact ⟨rfl, hq.trans hq1⟩

theorem But.refl (g : Nat) (w : World) : But g w w := ⟨rfl, rfl, rfl, Nat.le_refl _, fun _ _ _ => rfl⟩
theorem But.trans {g : Nat} {a b c : World} (h : But g a b) (h' : But g b c) : But g a c :=
  ⟨h'.os.trans h.os, h'.tape.trans h.tape, h'.output.trans h.output, Nat.le_trans h.size h'.size, fun k hk hne => (h'.block k (Nat.lt_of_lt_of_le hk h.size) hne).trans (h.block k hk hne)⟩
theorem But.drewN {g : Nat} {a b : World} (h : But g a b) (n : Nat) : But g a (b.drewN n) := ⟨h.os, h.tape, h.output, h.size, h.block⟩
theorem But.put {g : Nat} {a b : World} (h : But g a b) (i : Nat) (v : Value) : But g a (b.setCell ⟨g, i, none⟩ v) :=
  ⟨h.os, h.tape, h.output, by simpa [World.setCell] using h.size, fun k hk hne => (heap_setCell_other b ⟨g, i, none⟩ k v hne).trans (h.block k hk hne)⟩
theorem But.quiet {g : Nat} {a b c : World} (h : But g a b) (hq : Quiet b c) : But g a c := by obtain ⟨k, rfl⟩ := hq; exact h.drewN k

/-- A state's three cells. -/
def stC (s : Nat × Nat × Nat) : Array Value := #[.int .u64 s.1, .int .u64 s.2.1, .int .u64 s.2.2]
def MixAt (w : World) (g : Nat) (s : Nat × Nat × Nat) (w' : World) : Prop := But g w w' ∧ Blk w' g 141 (stC s)
def st64 (s : Nat × Nat × Nat) : Prop := s.1 < 18446744073709551616 ∧ s.2.1 < 18446744073709551616 ∧ s.2.2 < 18446744073709551616
theorem turnsP_64 {s : Nat × Nat × Nat} (h : st64 s) (k : Nat) : st64 (turnsP k s) := by
  cases k with
  | zero => exact h
  | succ k =>
    obtain ⟨a, b, c⟩ := turnP_lt (k + 1) (turnsP k s)
    have : P61 = 2305843009213693951 := rfl
    exact ⟨by show (turnP _ _).1 < _; omega, by show (turnP _ _).2.1 < _; omega, by show (turnP _ _).2.2 < _; omega⟩
theorem addI_nat (a b : Nat) : addI (a : Int) (b : Int) = ((addP a b : Nat) : Int) := rfl
theorem powI_nat (a : Nat) : powI (a : Int) = ((pow17 a : Nat) : Int) := rfl
theorem turn_cells (s : Nat × Nat × Nat) (k : Nat) {x y z X Y Z T : Int} (hx : x = s.1) (hy : y = s.2.1) (hz : z = s.2.2) (hX : X = powI (addI x ((k : Int) + 1))) (hY : Y = powI (addI y (2 * ((k : Int) + 1)))) (hZ : Z = powI (addI z (3 * ((k : Int) + 1)))) (hT : T = addI X (addI Y Z)) :
    #[Value.int .u64 (addI T X), .int .u64 (addI T Y), .int .u64 (addI T Z)] = stC (turnP (k + 1) s) := by
  subst hx; subst hy; subst hz
  have e1 : (k : Int) + 1 = ((k + 1 : Nat) : Int) := by omega
  have e2 : 2 * ((k : Int) + 1) = ((2 * (k + 1) : Nat) : Int) := by omega
  have e3 : 3 * ((k : Int) + 1) = ((3 * (k + 1) : Nat) : Int) := by omega
  rw [e1, addI_nat, powI_nat] at hX
  rw [e2, addI_nat, powI_nat] at hY
  rw [e3, addI_nat, powI_nat] at hZ
  subst hX; subst hY; subst hZ
  rw [addI_nat, addI_nat] at hT
  subst hT
  rw [addI_nat, addI_nat, addI_nat]
  rfl

theorem mix_adds (X Y Z U T : Int) (x0 : 0 ≤ X) (x1 : X < 2305843009213693951) (y0 : 0 ≤ Y) (y1 : Y < 2305843009213693951) (z0 : 0 ≤ Z) (z1 : Z < 2305843009213693951) (hU : U = addI Y Z) (hT : T = addI X U) :
    (∀ W, Calls Try.prog 125 #[.int .u64 Y, .int .u64 Z] W fun e w' => e = .returned (.int .u64 U) ∧ W = w') ∧
    (∀ W, Calls Try.prog 125 #[.int .u64 X, .int .u64 U] W fun e w' => e = .returned (.int .u64 T) ∧ W = w') ∧
    (∀ W, Calls Try.prog 125 #[.int .u64 T, .int .u64 X] W fun e w' => e = .returned (.int .u64 (addI T X)) ∧ W = w') ∧
    (∀ W, Calls Try.prog 125 #[.int .u64 T, .int .u64 Y] W fun e w' => e = .returned (.int .u64 (addI T Y)) ∧ W = w') ∧
    (∀ W, Calls Try.prog 125 #[.int .u64 T, .int .u64 Z] W fun e w' => e = .returned (.int .u64 (addI T Z)) ∧ W = w') := by
  have u0 : 0 ≤ U := by rw [hU]; exact addI_lo _ _
  have u1 : U < 2305843009213693951 := by rw [hU]; exact addI_hi _ _
  have t0 : 0 ≤ T := by rw [hT]; exact addI_lo _ _
  have t1 : T < 2305843009213693951 := by rw [hT]; exact addI_hi _ _
  refine ⟨fun W => ?_, fun W => ?_, fun W => ?_, fun W => ?_, fun W => ?_⟩
  · rw [hU]; exact dig_add _ _ (by omega) (by omega) (by omega) (by omega) W
  · rw [hT]; exact dig_add _ _ (by omega) (by omega) (by omega) (by omega) W
  all_goals exact dig_add _ _ (by omega) (by omega) (by omega) (by omega) W

set_option maxRecDepth 100000 in
set_option maxHeartbeats 1000000 in
theorem dig_mix (g : Nat) (s : Nat × Nat × Nat) (w : World) (hs : st64 s) (hg : Blk w g 141 (stC s)) :
    Calls Try.prog 124 #[.pointer (some ⟨g, 0, none⟩)] w fun e w' => e = .returned (.tuple #[]) ∧ MixAt w g (mixP s) w' := by
  go_enter Try.func124, Try.ntmps124
  go_wp2
  go_loopw [2] (fun i wr => ∃ k : Nat, k ≤ 6 ∧ i = .int .u64 ((k : Int) + 1) ∧ MixAt w g (turnsP k s) wr) (fun i _ => 7 - (intOf i).toNat)
  case atStart => exact ⟨0, by omega, rfl, But.refl _ _, hg⟩
  case round =>
    obtain ⟨k, hk, rfl, hb, hG⟩ := hrel
    obtain ⟨t1, t2, t3⟩ := turnsP_64 hs k
    obtain ⟨x, hx⟩ : ∃ x : Int, x = (turnsP k s).1 := ⟨_, rfl⟩
    obtain ⟨y, hy⟩ : ∃ y : Int, y = (turnsP k s).2.1 := ⟨_, rfl⟩
    obtain ⟨z, hz⟩ : ∃ z : Int, z = (turnsP k s).2.2 := ⟨_, rfl⟩
    have hG2 : Blk wr g 141 #[.int .u64 x, .int .u64 y, .int .u64 z] := by rw [hx, hy, hz]; exact hG
    have c0 : wr.cell? ⟨g, 0, none⟩ = some (.int .u64 x) := hG2.cell 0
    have c1 : wr.cell? ⟨g, 1, none⟩ = some (.int .u64 y) := hG2.cell 1
    have c2 : wr.cell? ⟨g, 2, none⟩ = some (.int .u64 z) := hG2.cell 2
    have z0 := hG2.frozen 0
    have z1 := hG2.frozen 1
    have z2 := hG2.frozen 2
    have x0 : 0 ≤ x ∧ x < 18446744073709551616 := by omega
    have y0 : 0 ≤ y ∧ y < 18446744073709551616 := by omega
    have w0 : 0 ≤ z ∧ z < 18446744073709551616 := by omega
    have HX := Lib.hid hx
    have HY := Lib.hid hy
    have HZ := Lib.hid hz
    clear hx hy hz t1 t2 t3 hG
    by_cases hlt : k < 6
    · have a1 := addI_lo x ((k : Int) + 1)
      have a2 := addI_hi x ((k : Int) + 1)
      have a3 := addI_lo y (2 * ((k : Int) + 1))
      have a4 := addI_hi y (2 * ((k : Int) + 1))
      have a5 := addI_lo z (3 * ((k : Int) + 1))
      have a6 := addI_hi z (3 * ((k : Int) + 1))
      have v2 : IntKind.u64.wrap (2 * ((k : Int) + 1)) = 2 * ((k : Int) + 1) := wrap_u64_in (by omega) (by omega)
      have v3 : IntKind.u64.wrap (3 * ((k : Int) + 1)) = 3 * ((k : Int) + 1) := wrap_u64_in (by omega) (by omega)
      have K1 : ∀ W, Calls Try.prog 125 #[.int .u64 x, .int .u64 ((k : Int) + 1)] W fun e w' => e = .returned (.int .u64 (addI x ((k : Int) + 1))) ∧ ∃ n, w' = W.drewN n := fun W => (dig_add _ _ (by omega) (by omega) (by omega) (by omega) W).mono fun _ _ ⟨he, hw⟩ => ⟨he, 0, hw.symm⟩
      have K2 : ∀ W, Calls Try.prog 125 #[.int .u64 y, .int .u64 (2 * ((k : Int) + 1))] W fun e w' => e = .returned (.int .u64 (addI y (2 * ((k : Int) + 1)))) ∧ ∃ n, w' = W.drewN n := fun W => (dig_add _ _ (by omega) (by omega) (by omega) (by omega) W).mono fun _ _ ⟨he, hw⟩ => ⟨he, 0, hw.symm⟩
      have K3 : ∀ W, Calls Try.prog 125 #[.int .u64 z, .int .u64 (3 * ((k : Int) + 1))] W fun e w' => e = .returned (.int .u64 (addI z (3 * ((k : Int) + 1)))) ∧ ∃ n, w' = W.drewN n := fun W => (dig_add _ _ (by omega) (by omega) (by omega) (by omega) W).mono fun _ _ ⟨he, hw⟩ => ⟨he, 0, hw.symm⟩
      have P1 : ∀ W, Calls Try.prog 133 #[.int .u64 (addI x ((k : Int) + 1))] W fun e w' => e = .returned (.int .u64 (powI (addI x ((k : Int) + 1)))) ∧ ∃ n, w' = W.drewN n := fun W => dig_pow _ (by omega) (by omega) W
      have P2 : ∀ W, Calls Try.prog 133 #[.int .u64 (addI y (2 * ((k : Int) + 1)))] W fun e w' => e = .returned (.int .u64 (powI (addI y (2 * ((k : Int) + 1))))) ∧ ∃ n, w' = W.drewN n := fun W => dig_pow _ (by omega) (by omega) W
      have P3 : ∀ W, Calls Try.prog 133 #[.int .u64 (addI z (3 * ((k : Int) + 1)))] W fun e w' => e = .returned (.int .u64 (powI (addI z (3 * ((k : Int) + 1))))) ∧ ∃ n, w' = W.drewN n := fun W => dig_pow _ (by omega) (by omega) W
      have HK := Lib.hid (And.intro K1 (And.intro K2 (And.intro K3 (And.intro P1 (And.intro P2 P3)))))
      clear K1 K2 K3 P1 P2 P3 a1 a2 a3 a4 a5 a6 x0 y0 w0
      go_wp2
      go_quiet ((first | (go_at_call 125; first | with_reducible exact Calls.quiet_of (HK.out.1 _) | with_reducible exact Calls.quiet_of (HK.out.2.1 _) | with_reducible exact Calls.quiet_of (HK.out.2.2.1 _)) | (go_at_call 133; first | with_reducible exact Calls.quiet_of (HK.out.2.2.2.1 _) | with_reducible exact Calls.quiet_of (HK.out.2.2.2.2.1 _) | with_reducible exact Calls.quiet_of (HK.out.2.2.2.2.2 _))))
      obtain ⟨X, hX⟩ : ∃ X, X = powI (addI x ((k : Int) + 1)) := ⟨_, rfl⟩
      obtain ⟨Y, hY⟩ : ∃ Y, Y = powI (addI y (2 * ((k : Int) + 1))) := ⟨_, rfl⟩
      obtain ⟨Z, hZ⟩ : ∃ Z, Z = powI (addI z (3 * ((k : Int) + 1))) := ⟨_, rfl⟩
      rw [← hX, ← hY, ← hZ]
      obtain ⟨U, hU⟩ : ∃ U, U = addI Y Z := ⟨_, rfl⟩
      obtain ⟨T, hT⟩ : ∃ T, T = addI X U := ⟨_, rfl⟩
      have HA := Lib.hid (mix_adds X Y Z U T (by rw [hX]; exact powI_lo _) (by rw [hX]; exact powI_hi _) (by rw [hY]; exact powI_lo _) (by rw [hY]; exact powI_hi _) (by rw [hZ]; exact powI_lo _) (by rw [hZ]; exact powI_hi _) hU hT)
      have HC := Lib.hid (turn_cells (turnsP k s) k HX.out HY.out HZ.out hX hY hZ (T := T) (by rw [← hU]; exact hT))
      clear hX hY hZ hU hT v2 v3 HK
      go_wp2_with (go_at_call 125; first | ((with_reducible refine (HA.out.1 _).mono ?_); rintro e w' ⟨rfl, rfl⟩) | ((with_reducible refine (HA.out.2.1 _).mono ?_); rintro e w' ⟨rfl, rfl⟩) | ((with_reducible refine (HA.out.2.2.1 _).mono ?_); rintro e w' ⟨rfl, rfl⟩) | ((with_reducible refine (HA.out.2.2.2.1 _).mono ?_); rintro e w' ⟨rfl, rfl⟩) | ((with_reducible refine (HA.out.2.2.2.2 _).mono ?_); rintro e w' ⟨rfl, rfl⟩))
      go_roundw
      case rel => exact ⟨k + 1, by omega, by go_num, (((hb.drewN _).put 0 _).put 1 _).put 2 _, by
        have h := (((hG2.drewN nq).put 0 (.int .u64 (addI T X))).put 1 (.int .u64 (addI T Y))).put 2 (.int .u64 (addI T Z))
        rw [show turnsP (k + 1) s = turnP (k + 1) (turnsP k s) from rfl, ← HC.out]
        exact h⟩
      case measure => simp [intOf]; omega
    · obtain rfl : k = 6 := by omega
      go_wp2
      exact bodyPost_end (v := .tuple #[]) (by simp [results, Try.results124, go_sem]) rfl ⟨rfl, hb, by
        have h := hG2
        rw [HX.out, HY.out, HZ.out] at h
        exact h⟩
end Go.Proofs.Ytgfidgepplfcbaa
