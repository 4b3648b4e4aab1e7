/- What the calls of package fix and their like in the document's own text compute: walks, each function once. -/
import Derived.Test.YtaeeonnjkplohaaGreatDoorRows
import Derived.Test.YtaeeonnjkplohaaGreatDoorPl
import Derived.WalkKit
import Derived.WalkSpells
import Derived.WalkLawsBesides
import Derived.Deep.QuietTactic
import Derived.Lib.Hide
import Derived.BigQuiet
namespace Go.Proofs.YtaeeonnjkplohaaGreatDoor
open Go.RowKit Pl

theorem ret_int {k : IntKind} {a b : Int} (h : a = b) : Ending.returned (.int k a) = .returned (.int k b) := by rw [h]
theorem ret_bool {a b : Bool} (h : a = b) : Ending.returned (.bool a) = .returned (.bool b) := by rw [h]

set_option maxHeartbeats 400000 in
theorem fix_Clamp (n : Int) (w : World) : Calls Tryz.prog 95 #[.int .i64 n] w fun e w' => e = .returned (.int .i64 (clamp n)) ∧ w = w' := by
  go_enter Tryz.func95, Tryz.ntmps95
  go_wp2
  all_goals
    go_ret
    refine ⟨ret_int ?_, rfl⟩
    unfold clamp
    repeat' split
    all_goals first | rfl | omega

set_option maxHeartbeats 400000 in
theorem ref_Clamp (n : Int) (w : World) : Calls Tryz.prog 54 #[.int .i64 n] w fun e w' => e = .returned (.int .i64 (clamp n)) ∧ w = w' := by
  go_enter Tryz.func54, Tryz.ntmps54
  go_wp2
  all_goals
    go_ret
    refine ⟨ret_int ?_, rfl⟩
    unfold clamp
    repeat' split
    all_goals first | rfl | omega

set_option maxHeartbeats 400000 in
theorem fix_Add (a b : Int) (w : World) : Calls Tryz.prog 142 #[.int .i64 a, .int .i64 b] w fun e w' => e = .returned (.int .i64 (addF a b)) ∧ w = w' := by
  have a1 := clamp_lo a
  have a2 := clamp_hi a
  have b1 := clamp_lo b
  have b2 := clamp_hi b
  go_enter Tryz.func142, Tryz.ntmps142
  go_wp2_with (go_at_call 95; refine (fix_Clamp _ _).mono ?_; rintro e w' ⟨rfl, rfl⟩)
  go_ret
  exact ⟨rfl, rfl⟩

set_option maxHeartbeats 400000 in
theorem fix_Sub (a b : Int) (w : World) : Calls Tryz.prog 143 #[.int .i64 a, .int .i64 b] w fun e w' => e = .returned (.int .i64 (subF a b)) ∧ w = w' := by
  have a1 := clamp_lo a
  have a2 := clamp_hi a
  have b1 := clamp_lo b
  have b2 := clamp_hi b
  go_enter Tryz.func143, Tryz.ntmps143
  go_wp2_with (go_at_call 95; refine (fix_Clamp _ _).mono ?_; rintro e w' ⟨rfl, rfl⟩)
  go_ret
  exact ⟨rfl, rfl⟩

set_option maxHeartbeats 1000000 in
theorem fix_rounded (n d : Int) (hd : 0 < d) (hd' : d ≤ 2147483647) (hn : -4611686014132420609 ≤ n) (hn' : n ≤ 4611686014132420609) (w : World) :
    Calls Tryz.prog 173 #[.int .i64 n, .int .i64 d] w fun e w' => e = .returned (.int .i64 (rnd n d)) ∧ ∃ k, w' = w.drewN k := by
  have m1 := Int.emod_nonneg n (show d ≠ 0 by omega)
  have m2 := Int.emod_lt_of_pos n hd
  have q1 : -4611686014132420609 ≤ n / d := by
    have := Int.ediv_le_ediv hd hn
    have h2 : -4611686014132420609 ≤ -4611686014132420609 / d := by
      rw [Int.le_ediv_iff_mul_le hd]; omega
    omega
  have q2 : n / d ≤ 4611686014132420609 := by
    have : n / d < 4611686014132420610 := by rw [Int.ediv_lt_iff_lt_mul hd]; omega
    omega
  by_cases h0 : 0 ≤ n
  · by_cases hr : d < 2 * (n % d)
    · go_enter Tryz.func173, Tryz.ntmps173
      go_wp2
      go_quiet (fail)
      go_wp2
      go_ret
      refine ⟨ret_int ?_, _, rfl⟩
      unfold rnd; rw [if_pos (by omega)]
    · by_cases he : 2 * (n % d) = d
      · have he1 : (2 * (n % d) == d) = true := by rw [beq_iff_eq]; exact he
        by_cases hb : n / d % 2 = 1
        · have hb1 := and_one_yes hb
          have he2 := Lib.hid he
          clear he
          go_enter Tryz.func173, Tryz.ntmps173
          go_wp2
          go_quiet (fail)
          go_wp2
          go_ret
          refine ⟨ret_int ?_, _, rfl⟩
          unfold rnd; rw [if_pos (by have := he2.out; omega)]
        · have hb1 := and_one_no hb
          have he2 := Lib.hid he
          clear he
          go_enter Tryz.func173, Tryz.ntmps173
          go_wp2
          go_quiet (fail)
          go_wp2
          go_ret
          refine ⟨ret_int ?_, _, rfl⟩
          unfold rnd; rw [if_neg (by have := he2.out; omega)]
      · go_enter Tryz.func173, Tryz.ntmps173
        go_wp2
        go_quiet (fail)
        go_wp2
        go_ret
        refine ⟨ret_int ?_, _, rfl⟩
        unfold rnd; rw [if_neg (by omega)]
  · have hn0 : n < 0 := by omega
    have t1 := Int.lt_tmod_of_pos n hd
    have t2 : n.tmod d ≤ 0 := by
      have := Int.tmod_nonneg (a := -n) d (by omega)
      rw [Int.neg_tmod] at this; omega
    by_cases ht : n.tmod d < 0
    · obtain ⟨e1, e2⟩ := tdiv_low hd ht
      have E1 := Lib.hid e1
      have E2 := Lib.hid e2
      have u1 : -4611686014132420609 ≤ n.tdiv d - 1 := by omega
      have u2 : n.tdiv d - 1 ≤ 4611686014132420609 := by omega
      by_cases hr : d < 2 * (n.tmod d + d)
      · clear e1 e2 q1 q2 m1 m2
        go_enter Tryz.func173, Tryz.ntmps173
        go_wp2
        go_quiet (fail)
        go_wp2
        go_ret
        refine ⟨ret_int ?_, _, rfl⟩
        unfold rnd; rw [if_pos (by have := E2.out; omega), E1.out]; omega
      · by_cases he : 2 * (n.tmod d + d) = d
        · have he1 : (2 * (n.tmod d + d) == d) = true := by rw [beq_iff_eq]; exact he
          by_cases hb : (n.tdiv d - 1) % 2 = 1
          · have hb1 := and_one_yes hb
            have he2 := Lib.hid he
            clear he e1 e2 q1 q2 m1 m2
            go_enter Tryz.func173, Tryz.ntmps173
            go_wp2
            go_quiet (fail)
            go_wp2
            go_ret
            refine ⟨ret_int ?_, _, rfl⟩
            unfold rnd; rw [if_pos (by have := E2.out; have := E1.out; have := he2.out; omega), E1.out]; omega
          · have hb1 := and_one_no hb
            have he2 := Lib.hid he
            clear he e1 e2 q1 q2 m1 m2
            go_enter Tryz.func173, Tryz.ntmps173
            go_wp2
            go_quiet (fail)
            go_wp2
            go_ret
            refine ⟨ret_int ?_, _, rfl⟩
            unfold rnd; rw [if_neg (by have := E2.out; have := E1.out; have := he2.out; omega), E1.out]
        · clear e1 e2 q1 q2 m1 m2
          go_enter Tryz.func173, Tryz.ntmps173
          go_wp2
          go_quiet (fail)
          go_wp2
          go_ret
          refine ⟨ret_int ?_, _, rfl⟩
          unfold rnd; rw [if_neg (by have := E2.out; have := E1.out; omega), E1.out]
    · obtain ⟨e1, e2⟩ := tdiv_even (n := n) hd (by omega)
      have E1 := Lib.hid e1
      have E2 := Lib.hid e2
      have u1 : -4611686014132420609 ≤ n.tdiv d := by omega
      have u2 : n.tdiv d ≤ 4611686014132420609 := by omega
      clear e1 e2 q1 q2 m1 m2
      go_enter Tryz.func173, Tryz.ntmps173
      go_wp2
      go_quiet (fail)
      go_wp2
      go_ret
      refine ⟨ret_int ?_, _, rfl⟩
      unfold rnd; rw [if_neg (by have := E2.out; omega), E1.out]

set_option maxHeartbeats 400000 in
theorem fix_Mul (a b : Int) (w : World) : Calls Tryz.prog 136 #[.int .i64 a, .int .i64 b] w fun e w' => e = .returned (.int .i64 (mulF a b)) ∧ ∃ k, w' = w.drewN k := by
  obtain ⟨h1, h2⟩ := mul_bounds a b
  go_enter Tryz.func136, Tryz.ntmps136
  go_wp2_with (first | (go_at_call 95; refine (fix_Clamp _ _).mono ?_; rintro e w' ⟨rfl, rfl⟩) | (go_at_call 173; refine (fix_rounded _ _ (by omega) (by omega) (by omega) (by omega) _).mono ?_; rintro e w' ⟨rfl, k, rfl⟩))
  go_ret
  exact ⟨rfl, _, rfl⟩

set_option maxHeartbeats 400000 in
theorem fix_Div_zero (a b : Int) (hb : clamp b = 0) (w : World) : Calls Tryz.prog 135 #[.int .i64 a, .int .i64 b] w fun e w' => e = .returned (.tuple #[.int .i64 0, .int .i64 1]) ∧ ∃ k, w' = w.drewN k := by
  have a1 := clamp_lo a
  have a2 := clamp_hi a
  go_enter Tryz.func135, Tryz.ntmps135
  go_wp2_with (go_at_call 95; refine (fix_Clamp _ _).mono ?_; rintro e w' ⟨rfl, rfl⟩)
  go_ret2
  exact ⟨rfl, 0, rfl⟩

set_option maxHeartbeats 400000 in
theorem fix_Div_neg (a b : Int) (hb : clamp b < 0) (w : World) : Calls Tryz.prog 135 #[.int .i64 a, .int .i64 b] w fun e w' => e = .returned (.tuple #[.int .i64 (divF a b), .int .i64 0]) ∧ ∃ k, w' = w.drewN k := by
  have a1 := clamp_lo a
  have a2 := clamp_hi a
  have b1 := clamp_lo b
  have hb0 : (clamp b == 0) = false := beq_eq_false_iff_ne.2 (by omega)
  go_enter Tryz.func135, Tryz.ntmps135
  go_wp2_with (first | (go_at_call 95; refine (fix_Clamp _ _).mono ?_; rintro e w' ⟨rfl, rfl⟩) | (go_at_call 173; refine (fix_rounded _ _ (by omega) (by omega) (by omega) (by omega) _).mono ?_; rintro e w' ⟨rfl, k, rfl⟩))
  go_ret2
  refine ⟨?_, _, rfl⟩
  unfold divF
  rw [if_pos hb]
  rfl

set_option maxHeartbeats 400000 in
theorem fix_Div_pos (a b : Int) (hb : 0 < clamp b) (w : World) : Calls Tryz.prog 135 #[.int .i64 a, .int .i64 b] w fun e w' => e = .returned (.tuple #[.int .i64 (divF a b), .int .i64 0]) ∧ ∃ k, w' = w.drewN k := by
  have a1 := clamp_lo a
  have a2 := clamp_hi a
  have b1 := clamp_hi b
  have hb0 : (clamp b == 0) = false := beq_eq_false_iff_ne.2 (by omega)
  go_enter Tryz.func135, Tryz.ntmps135
  go_wp2_with (first | (go_at_call 95; refine (fix_Clamp _ _).mono ?_; rintro e w' ⟨rfl, rfl⟩) | (go_at_call 173; refine (fix_rounded _ _ (by omega) (by omega) (by omega) (by omega) _).mono ?_; rintro e w' ⟨rfl, k, rfl⟩))
  go_ret2
  refine ⟨?_, _, rfl⟩
  unfold divF
  rw [if_neg (by omega)]
  rfl

theorem fix_Div_ok (a b : Int) (hb : clamp b ≠ 0) (w : World) : Calls Tryz.prog 135 #[.int .i64 a, .int .i64 b] w fun e w' => e = .returned (.tuple #[.int .i64 (divF a b), .int .i64 0]) ∧ ∃ k, w' = w.drewN k := by
  rcases Int.lt_or_le (clamp b) 0 with h | h
  · exact fix_Div_neg a b h w
  · exact fix_Div_pos a b (by omega) w

set_option maxHeartbeats 400000 in
theorem ref_Add (a b : Int) (w : World) : Calls Tryz.prog 166 #[.int .i64 a, .int .i64 b] w fun e w' => e = .returned (.int .i64 (addF a b)) ∧ w = w' := by
  have a1 := clamp_lo a
  have a2 := clamp_hi a
  have b1 := clamp_lo b
  have b2 := clamp_hi b
  go_enter Tryz.func166, Tryz.ntmps166
  go_wp2_with (go_at_call 54; refine (ref_Clamp _ _).mono ?_; rintro e w' ⟨rfl, rfl⟩)
  go_ret
  exact ⟨rfl, rfl⟩

set_option maxHeartbeats 400000 in
theorem ref_Sub (a b : Int) (w : World) : Calls Tryz.prog 165 #[.int .i64 a, .int .i64 b] w fun e w' => e = .returned (.int .i64 (subF a b)) ∧ w = w' := by
  have b1 := clamp_lo b
  have b2 := clamp_hi b
  go_enter Tryz.func165, Tryz.ntmps165
  go_wp2_with (first | (go_at_call 54; refine (ref_Clamp _ _).mono ?_; rintro e w' ⟨rfl, rfl⟩) | (go_at_call 166; refine (ref_Add _ _ _).mono ?_; rintro e w' ⟨rfl, rfl⟩))
  go_ret
  exact ⟨by rw [← subF_add]; rfl, rfl⟩

set_option maxHeartbeats 1000000 in
theorem ref_nearest_pos (n d : Int) (hd : 0 < d) (hd' : d ≤ 2147483647) (hn : 0 ≤ n) (hn' : n ≤ 4611686014132420609) (w : World) :
    Calls Tryz.prog 203 #[.int .i64 n, .int .i64 d] w fun e w' => e = .returned (.int .i64 (rnd n d)) ∧ ∃ k, w' = w.drewN k := by
  have m1 := Int.emod_nonneg n (show d ≠ 0 by omega)
  have m2 := Int.emod_lt_of_pos n hd
  have q1 := Int.ediv_nonneg hn (show 0 ≤ d by omega)
  have q2 : n / d ≤ 4611686014132420609 := by
    have : n / d < 4611686014132420610 := by rw [Int.ediv_lt_iff_lt_mul hd]; omega
    omega
  have h2 : n = d * (n / d) + n % d := (Int.mul_ediv_add_emod n d).symm
  have e1 : n - n / d * d = n % d := by rw [Int.mul_comm (n / d) d]; omega
  have e2 : (n / d + 1) * d - n = d - n % d := by rw [Int.add_mul, Int.one_mul, Int.mul_comm (n / d) d]; omega
  have p1 : 0 ≤ n - n / d * d := by omega
  have p2 : 0 ≤ n / d * d := by
    have := Int.mul_nonneg q1 (show 0 ≤ d by omega)
    omega
  have p3 : 0 ≤ (n / d + 1) * d - n := by omega
  have p4 : (n / d + 1) * d ≤ 4611686016279904256 := by omega
  have p5 : n - n / d * d ≤ 2147483647 := by omega
  have p6 : n / d * d ≤ 4611686014132420609 := by omega
  have p7 : (n / d + 1) * d - n ≤ 2147483647 := by omega
  have p8 : 0 ≤ (n / d + 1) * d := by omega
  have F := Lib.hid (near0_eq n d)
  clear h2 e1 e2
  go_enter Tryz.func203, Tryz.ntmps203
  go_wp2_with fail
  all_goals
    go_ret
    refine ⟨ret_int ?_, 0, rfl⟩
    rw [← F.out]
    unfold near0
    try simp only [beq_iff_eq, beq_eq_false_iff_ne, ne_eq] at *
    first | rw [if_pos (by omega)] | rw [if_neg (by omega)]

set_option maxHeartbeats 1000000 in
theorem ref_nearest (n d : Int) (hd : 0 < d) (hd' : d ≤ 2147483647) (hn0 : -4611686014132420609 ≤ n) (hn' : n ≤ 4611686014132420609) (w : World) :
    Calls Tryz.prog 203 #[.int .i64 n, .int .i64 d] w fun e w' => e = .returned (.int .i64 (rnd n d)) ∧ ∃ k, w' = w.drewN k := by
  rcases Int.lt_or_le n 0 with h | h
  · obtain ⟨b1, b2⟩ := rnd_bounds (-n) d hd 4611686014132420609 (by omega) (by omega) (by omega)
    go_enter Tryz.func203, Tryz.ntmps203
    go_wp2_with (go_at_call 203; refine (ref_nearest_pos _ _ hd hd' (by omega) (by omega) _).mono ?_; rintro e w' ⟨rfl, k, rfl⟩)
    go_ret
    exact ⟨ret_int (by rw [rnd_neg _ _ hd]; omega), _, rfl⟩
  · exact ref_nearest_pos n d hd hd' h hn' w

set_option maxHeartbeats 400000 in
theorem ref_Mul (a b : Int) (w : World) : Calls Tryz.prog 167 #[.int .i64 a, .int .i64 b] w fun e w' => e = .returned (.int .i64 (mulF a b)) ∧ ∃ k, w' = w.drewN k := by
  obtain ⟨h1, h2⟩ := mul_bounds a b
  go_enter Tryz.func167, Tryz.ntmps167
  go_wp2_with (first | (go_at_call 54; refine (ref_Clamp _ _).mono ?_; rintro e w' ⟨rfl, rfl⟩) | (go_at_call 203; refine (ref_nearest _ _ (by omega) (by omega) (by omega) (by omega) _).mono ?_; rintro e w' ⟨rfl, k, rfl⟩))
  go_ret
  exact ⟨rfl, _, rfl⟩

set_option maxHeartbeats 400000 in
theorem ref_Div (a b : Int) (hb : clamp b ≠ 0) (w : World) : Calls Tryz.prog 198 #[.int .i64 a, .int .i64 b] w fun e w' => e = .returned (.int .i64 (divF a b)) ∧ ∃ k, w' = w.drewN k := by
  have a1 := clamp_lo a
  have a2 := clamp_hi a
  have b1 := clamp_lo b
  have b2 := clamp_hi b
  rcases Int.lt_or_le (clamp b) 0 with h | h
  · go_enter Tryz.func198, Tryz.ntmps198
    go_wp2_with (first | (go_at_call 54; refine (ref_Clamp _ _).mono ?_; rintro e w' ⟨rfl, rfl⟩) | (go_at_call 203; refine (ref_nearest _ _ (by omega) (by omega) (by omega) (by omega) _).mono ?_; rintro e w' ⟨rfl, k, rfl⟩))
    go_ret
    refine ⟨ret_int ?_, _, rfl⟩
    unfold divF
    rw [if_pos h, show -(clamp a * 65536) = -clamp a * 65536 by omega]
  · go_enter Tryz.func198, Tryz.ntmps198
    go_wp2_with (first | (go_at_call 54; refine (ref_Clamp _ _).mono ?_; rintro e w' ⟨rfl, rfl⟩) | (go_at_call 203; refine (ref_nearest _ _ (by omega) (by omega) (by omega) (by omega) _).mono ?_; rintro e w' ⟨rfl, k, rfl⟩))
    go_ret
    refine ⟨ret_int ?_, _, rfl⟩
    unfold divF
    rw [if_neg (by omega)]

end Go.Proofs.YtaeeonnjkplohaaGreatDoor
