/- Plain laws about Go's way to a rest of a number of 128 bits by the prime 2^61 - 1 (Knuth's division by halves). No program in sight. -/
import Derived.Test.YtgfidgepplfcbaaDigPl
namespace Go.Proofs.Ytgfidgepplfcbaa.Pl

/-- One digit of the quotient: where the loop's test says no, the digit is found. -/
theorem digit_done {u n q r Q : Nat} (hq : q * 4294967295 + r = u) (hQ : Q * 18446744073709551608 ≤ u * 4294967296 + n) (hQ' : u * 4294967296 + n < (Q + 1) * 18446744073709551608)
    (hle : Q ≤ q) (ht : q * 4294967288 ≤ 4294967296 * r + n) : q = Q := by omega
/-- .. where it says yes, the digit is less. -/
theorem digit_less1 {u n q Q : Nat} (hu : u < 18446744073709551608) (hn : n < 4294967296) (hQ : Q * 18446744073709551608 ≤ u * 4294967296 + n) (ht : 4294967296 ≤ q) : Q ≤ q - 1 := by omega
theorem digit_less2 {u n q r Q : Nat} (hq : q * 4294967295 + r = u) (hQ : Q * 18446744073709551608 ≤ u * 4294967296 + n) (ht : 4294967296 * r + n < q * 4294967288) : Q ≤ q - 1 ∧ 1 ≤ q := by omega
/-- .. where the rest has passed 2^32, it is found. -/
theorem digit_break {u n q r Q : Nat} (hq : q * 4294967295 + r = u) (hr : 4294967296 ≤ r) (hq' : q ≤ 4294967296) (hQ : Q * 18446744073709551608 ≤ u * 4294967296 + n)
    (hQ' : u * 4294967296 + n < (Q + 1) * 18446744073709551608) (hle : Q ≤ q) : q = Q := by omega

/-- The digit's own rest. -/
theorem digit_rest {u n Q : Nat} (hQ : Q * 18446744073709551608 ≤ u * 4294967296 + n) (hQ' : u * 4294967296 + n < (Q + 1) * 18446744073709551608) :
    (u * 4294967296 + n - Q * 18446744073709551608) = (u * 4294967296 + n) % 18446744073709551608 := by omega
theorem digit_of (u n : Nat) : (u * 4294967296 + n) / 18446744073709551608 * 18446744073709551608 ≤ u * 4294967296 + n ∧ u * 4294967296 + n < ((u * 4294967296 + n) / 18446744073709551608 + 1) * 18446744073709551608 := by omega
/-- A first guess. -/
theorem digit_guess {u n : Nat} (hu : u < 18446744073709551608) (hn : n < 4294967296) :
    u / 4294967295 * 4294967295 + (u - u / 4294967295 * 4294967295) = u ∧ u - u / 4294967295 * 4294967295 < 4294967295 ∧ (u * 4294967296 + n) / 18446744073709551608 ≤ u / 4294967295 ∧ u / 4294967295 ≤ 4294967297 := by
  refine ⟨by omega, by omega, by omega, by omega⟩

/-- Both digits: the rest. -/
theorem rest_eq (hi lo : Nat) :
    ((((hi * 8 + lo / 2305843009213693952) * 4294967296 + lo * 8 % 18446744073709551616 / 4294967296) % 18446744073709551608) * 4294967296 + lo * 8 % 18446744073709551616 % 4294967296) % 18446744073709551608 / 8 =
      (hi * 18446744073709551616 + lo) % 2305843009213693951 := by
  omega
end Go.Proofs.Ytgfidgepplfcbaa.Pl
