/- A number's last bit: what Go's '&' with 1 tells of an int; quotients that are cut and those that are rounded down. -/
import Derived.Laws.BitsAllLaws
import Derived.Laws.BitsLemmas
import Derived.Test.YtejkkbjepgghlaaFix
namespace Go.Proofs.Ytejkkbjepgghlaa
open Pl

theorem and_one_i64 (q : Int) : bits .and .i64 q 1 = q % 2 := by
  show IntKind.i64.wrap ((BitVec.ofInt 64 q &&& BitVec.ofInt 64 1).toNat : Int) = _
  have h1 : (BitVec.ofInt 64 q &&& BitVec.ofInt 64 1).toNat = (q % 2).toNat := by
    rw [BitVec.toNat_and, show (BitVec.ofInt 64 1).toNat = 1 from rfl, Nat.and_one_is_mod, BitVec.toNat_ofInt]
    omega
  rw [h1, IntKind.wrap_i64]
  omega
theorem and_one_yes {q : Int} (h : q % 2 = 1) : (bits .and .i64 q 1 == 1) = true := by rw [and_one_i64, h]; rfl
theorem and_one_no {q : Int} (h : ¬ q % 2 = 1) : (bits .and .i64 q 1 == 1) = false := by
  rw [and_one_i64]; exact beq_eq_false_iff_ne.2 h

theorem tdiv_low {n d : Int} (hd : 0 < d) (h : n.tmod d < 0) : n / d = n.tdiv d - 1 ∧ n % d = n.tmod d + d := by
  have h1 := Int.mul_tdiv_add_tmod n d
  have h2 : -d < n.tmod d := by
    have := Int.lt_tmod_of_pos n hd
    omega
  have h3 : n = (n.tmod d + d) + d * (n.tdiv d - 1) := by rw [Int.mul_sub, Int.mul_one]; omega
  constructor
  · conv => lhs; rw [h3]
    rw [Int.add_mul_ediv_left _ _ (by omega), Int.ediv_eq_zero_of_lt (by omega) (by omega)]; omega
  · conv => lhs; rw [h3]
    rw [Int.add_mul_emod_self_left, Int.emod_eq_of_lt (by omega) (by omega)]
theorem tdiv_even {n d : Int} (hd : 0 < d) (h : 0 ≤ n.tmod d) : n / d = n.tdiv d ∧ n % d = n.tmod d := by
  have h1 := Int.mul_tdiv_add_tmod n d
  have h2 := Int.tmod_lt_of_pos n hd
  have h3 : n = n.tmod d + d * n.tdiv d := by omega
  constructor
  · conv => lhs; rw [h3]
    rw [Int.add_mul_ediv_left _ _ (by omega), Int.ediv_eq_zero_of_lt (by omega) (by omega)]; omega
  · conv => lhs; rw [h3]
    rw [Int.add_mul_emod_self_left, Int.emod_eq_of_lt (by omega) (by omega)]
end Go.Proofs.Ytejkkbjepgghlaa
