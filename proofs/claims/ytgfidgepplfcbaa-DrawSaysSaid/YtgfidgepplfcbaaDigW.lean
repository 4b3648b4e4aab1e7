/- What the calls of package digest compute: walks, each function once. -/
import Derived.Test.YtgfidgepplfcbaaFixW
import Derived.Test.YtgfidgepplfcbaaMem
import Derived.Test.YtgfidgepplfcbaaDivPl
import Derived.Lib.Mul64
import Derived.Laws.Bits64b
import Derived.Shelf.Bits.Mul64
namespace Go.Proofs.Ytgfidgepplfcbaa
open Go.RowKit Pl

/-- Numbers by the prime, over Int. -/
def nI (a : Int) : Int := ((a.toNat % P61 : Nat) : Int)
def addI (a b : Int) : Int := ((addP a.toNat b.toNat : Nat) : Int)
def mulI (a b : Int) : Int := ((mulP a.toNat b.toNat : Nat) : Int)
def powI (a : Int) : Int := ((pow17 a.toNat : Nat) : Int)
theorem nI_lo (a : Int) : 0 ≤ nI a := Int.natCast_nonneg _
theorem nI_hi (a : Int) : nI a < 2305843009213693951 := by have h : a.toNat % P61 < P61 := Nat.mod_lt _ P61_pos; have : P61 = 2305843009213693951 := rfl; unfold nI; omega
theorem addI_lo (a b : Int) : 0 ≤ addI a b := Int.natCast_nonneg _
theorem addI_hi (a b : Int) : addI a b < 2305843009213693951 := by have h := addP_lt a.toNat b.toNat; have : P61 = 2305843009213693951 := rfl; unfold addI; omega
theorem mulI_lo (a b : Int) : 0 ≤ mulI a b := Int.natCast_nonneg _
theorem mulI_hi (a b : Int) : mulI a b < 2305843009213693951 := by have h := mulP_lt a.toNat b.toNat; have : P61 = 2305843009213693951 := rfl; unfold mulI; omega
theorem powI_lo (a : Int) : 0 ≤ powI a := Int.natCast_nonneg _
theorem powI_hi (a : Int) : powI a < 2305843009213693951 := by have h := pow17_lt a.toNat; have : P61 = 2305843009213693951 := rfl; unfold powI; omega
theorem nI_nI (a b : Int) : nI (nI a + nI b) = addI a b := by
  unfold nI addI addP
  rw [show (((a.toNat % P61 : Nat) : Int) + ((b.toNat % P61 : Nat) : Int)).toNat = a.toNat % P61 + b.toNat % P61 by omega]

set_option maxHeartbeats 400000 in
theorem dig_norm (a : Int) (h0 : 0 ≤ a) (ha : a < 18446744073709551616) (w : World) :
    Calls Try.prog 123 #[.int .u64 a] w fun e w' => e = .returned (.int .u64 (nI a)) ∧ w = w' := by
  go_enter Try.func123, Try.ntmps123
  go_wp2
  go_ret
  exact ⟨ret_int (by unfold nI P61; omega), rfl⟩

set_option maxHeartbeats 400000 in
theorem dig_add (a b : Int) (h0 : 0 ≤ a) (ha : a < 18446744073709551616) (h0' : 0 ≤ b) (hb : b < 18446744073709551616) (w : World) :
    Calls Try.prog 125 #[.int .u64 a, .int .u64 b] w fun e w' => e = .returned (.int .u64 (addI a b)) ∧ w = w' := by
  have h1 := nI_lo a
  have h2 := nI_hi a
  have h3 := nI_lo b
  have h4 := nI_hi b
  go_enter Try.func125, Try.ntmps125
  go_wp2_with (go_at_call 123; refine (dig_norm _ (by omega) (by omega) _).mono ?_; rintro e w' ⟨rfl, rfl⟩)
  go_ret
  exact ⟨ret_int (nI_nI a b), rfl⟩

set_option maxHeartbeats 1000000 in
theorem bits_Mul64 (x y : Nat) (hx : x < 18446744073709551616) (hy : y < 18446744073709551616) (w : World) :
    Calls Try.prog 138 #[.int .u64 x, .int .u64 y] w fun e w' => e = .returned (.tuple #[.int .u64 ((x * y / 18446744073709551616 : Nat) : Int), .int .u64 ((x * y % 18446744073709551616 : Nat) : Int)]) ∧ w' = w := by
  obtain ⟨bd, bt, bw, hhi⟩ := Lib.mul64_hi x y hx hy
  have ba := Lib.half_mul_le (a := x / 4294967296) (b := y / 4294967296) (by omega) (by omega)
  have bb := Lib.half_mul_le (a := x / 4294967296) (b := y % 4294967296) (by omega) (by omega)
  have bc := Lib.half_mul_le (a := x % 4294967296) (b := y / 4294967296) (by omega) (by omega)
  have ba' : x / 4294967296 * (y / 4294967296) < 18446744073709551616 := by omega
  have bb' : x / 4294967296 * (y % 4294967296) < 18446744073709551616 := by omega
  have bc' : x % 4294967296 * (y / 4294967296) < 18446744073709551616 := by omega
  have bh1 : x / 4294967296 * (y / 4294967296) + (x / 4294967296 * (y % 4294967296) + x % 4294967296 * (y % 4294967296) / 4294967296) / 4294967296 < 18446744073709551616 := by omega
  have bh : x / 4294967296 * (y / 4294967296) + (x / 4294967296 * (y % 4294967296) + x % 4294967296 * (y % 4294967296) / 4294967296) / 4294967296 + ((x / 4294967296 * (y % 4294967296) + x % 4294967296 * (y % 4294967296) / 4294967296) % 4294967296 + x % 4294967296 * (y / 4294967296)) / 4294967296 < 18446744073709551616 := by omega
  go_enter Try.func138, Try.ntmps138
  go_wp2
  simp only [Mul64.maskN x hx, Mul64.maskN y hy, Mul64.divN, Mul64.mulN, Mul64.addN, Mul64.wrapN _ bd, Mul64.wrapN _ bb', Mul64.wrapN _ bt, Mul64.maskN _ bt, Mul64.wrapN _ bc', Mul64.wrapN _ bw, Mul64.wrapN _ ba', Mul64.wrapN _ bh1, Mul64.wrapN _ bh, Mul64.wrapM (x * y)]
  rw [hhi]
  go_ret2
  exact ⟨rfl, rfl⟩
end Go.Proofs.Ytgfidgepplfcbaa
