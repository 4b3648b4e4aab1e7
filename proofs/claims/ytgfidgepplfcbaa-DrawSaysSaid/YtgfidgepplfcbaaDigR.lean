/- What the document's own text reckons of digests: plus, times, mixed, Of, Numbers, Pair, Word: walks, each function once. -/
import Derived.Test.YtgfidgepplfcbaaDigOf
import Derived.Test.YtgfidgepplfcbaaVecAny
namespace Go.Proofs.Ytgfidgepplfcbaa
open Go.RowKit Pl

set_option maxHeartbeats 1000000 in
theorem ref_plus (a b : Int) (h0 : 0 ≤ a) (ha : a < 18446744073709551616) (h0' : 0 ≤ b) (hb : b < 18446744073709551616) (w : World) :
    Calls Try.prog 97 #[.int .u64 a, .int .u64 b] w fun e w' => e = .returned (.int .u64 (addI a b)) ∧ w = w' := by
  have e : (a % 2305843009213693951 + b % 2305843009213693951) % 2305843009213693951 = addI a b := by
    unfold addI addP P61
    omega
  have HE := Lib.hid e
  clear e
  go_enter Try.func97, Try.ntmps97
  go_wp2
  go_ret
  exact ⟨ret_int HE.out, rfl⟩

theorem shr_tmod (y j : Nat) : ((y : Int) / 2 ^ j).tmod 2 = ((y / 2 ^ j % 2 : Nat) : Int) := by
  have e : ((y : Int) / 2 ^ j) = ((y / 2 ^ j : Nat) : Int) := by simp
  rw [e]
  rfl

set_option maxRecDepth 100000 in
set_option maxHeartbeats 1000000 in
theorem ref_times (a b : Int) (h0 : 0 ≤ a) (ha : a < 18446744073709551616) (h0' : 0 ≤ b) (hb : b < 18446744073709551616) (w : World) :
    Calls Try.prog 122 #[.int .u64 a, .int .u64 b] w fun e w' => e = .returned (.int .u64 (mulI a b)) ∧ w = w' := by
  obtain ⟨x, hx⟩ : ∃ x : Nat, x = a.toNat % P61 := ⟨_, rfl⟩
  obtain ⟨y, hy⟩ : ∃ y : Nat, y = b.toNat % P61 := ⟨_, rfl⟩
  have hyl : y < P61 := by rw [hy]; exact Nat.mod_lt _ P61_pos
  have hxl : x < P61 := by rw [hx]; exact Nat.mod_lt _ P61_pos
  have HP : P61 = 2305843009213693951 := rfl
  have ex : a % 2305843009213693951 = (x : Int) := by rw [hx, HP]; omega
  have ey : b % 2305843009213693951 = (y : Int) := by rw [hy, HP]; omega
  have HE := Lib.hid (show (dbl x y 61 : Int) = mulI a b by rw [dbl_mul x y hyl, hx, hy]; rfl)
  rw [HP] at hxl hyl
  clear hx hy HP
  go_enter Try.func122, Try.ntmps122
  go_wp2
  rw [ex, ey]
  clear ex ey
  go_loop [5, 6] (fun o i => ∃ k : Nat, k ≤ 61 ∧ i = .int .i64 (60 - (k : Int)) ∧ o = .int .u64 (dbl x y k)) (fun _ i => (intOf i + 1).toNat)
  case atStart => exact ⟨0, by omega, rfl, rfl⟩
  case round =>
    obtain ⟨k, hk, rfl, rfl⟩ := hrel
    have hd := dbl_lt x y k
    have HP : P61 = 2305843009213693951 := rfl
    rw [HP] at hd
    clear HP
    by_cases hlt : k < 61
    · obtain ⟨j, hj⟩ : ∃ j, j = 60 - k := ⟨_, rfl⟩
      have ej : 60 - (k : Int) = (j : Int) := by omega
      obtain ⟨t, ht⟩ : ∃ t, t = y / 2 ^ j := ⟨_, rfl⟩
      have htl : t ≤ y := by rw [ht]; exact Nat.div_le_self _ _
      have HT := Lib.hid ht
      have HJ := Lib.hid hj
      rw [ej]
      have j0 : 0 ≤ (j : Int) := by omega
      have j1 : (j : Int) ≤ 60 := by omega
      clear ht hj ej
      by_cases h2 : t % 2 = 1
      · have b1 : (((y : Int) / 2 ^ j).tmod 2 == 1) = true := by rw [shr_tmod, beq_iff_eq, ← HT.out]; omega
        have HD := Lib.hid (show (((dbl x y k : Int) + (dbl x y k : Int)) % 2305843009213693951 + (x : Int)) % 2305843009213693951 = (dbl x y (k + 1) : Int) by
          have e : dbl x y (k + 1) = ((dbl x y k + dbl x y k) % P61 + x) % P61 := by
            conv => lhs; unfold dbl
            rw [← HJ.out, ← HT.out, if_pos h2]
          rw [e, show P61 = 2305843009213693951 from rfl]
          omega)
        go_wp2
        go_round
        case rel => exact ⟨k + 1, by omega, by have := HJ.out; go_num, by rw [HD.out]⟩
        case measure => simp [intOf] <;> omega
      · have b1 : (((y : Int) / 2 ^ j).tmod 2 == 1) = false := by rw [shr_tmod, beq_eq_false_iff_ne, ← HT.out]; omega
        have HD := Lib.hid (show ((dbl x y k : Int) + (dbl x y k : Int)) % 2305843009213693951 = (dbl x y (k + 1) : Int) by
          have e : dbl x y (k + 1) = (dbl x y k + dbl x y k) % P61 := by
            conv => lhs; unfold dbl
            rw [← HJ.out, ← HT.out, if_neg h2]
          rw [e, show P61 = 2305843009213693951 from rfl]
          omega)
        go_wp2
        go_round
        case rel => exact ⟨k + 1, by omega, by have := HJ.out; go_num, by rw [HD.out]⟩
        case measure => simp [intOf] <;> omega
    · obtain rfl : k = 61 := by omega
      go_wp2
      go_ret
      exact ⟨ret_int HE.out, rfl⟩
end Go.Proofs.Ytgfidgepplfcbaa
