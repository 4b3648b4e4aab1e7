/- math/bits: Len64, LeadingZeros64, Div64 and Rem64 by the prime 2^61 - 1: walks. -/
import Derived.Test.YtgfidgepplfcbaaDigW
import Derived.Test.YtgfidgepplfcbaaDivPl
import Derived.OwnWalk
import Derived.LoopTactic
import Derived.Outline
namespace Go.Proofs.Ytgfidgepplfcbaa
open Go.RowKit Pl

set_option maxRecDepth 100000 in
set_option maxHeartbeats 1000000 in
theorem bits_Len64 (w : World) : Calls Try.prog 142 #[.int .u64 2305843009213693951] w fun e w' => e = .returned (.int .i64 61) ∧ w = w' := by
  go_enter Try.func142, Try.ntmps142
  go_wp2
  go_ret
  exact ⟨ret_int (by decide +kernel), rfl⟩
set_option maxHeartbeats 1000000 in
theorem bits_Lz64 (w : World) : Calls Try.prog 141 #[.int .u64 2305843009213693951] w fun e w' => e = .returned (.int .i64 3) ∧ w = w' := by
  go_enter Try.func141, Try.ntmps141
  go_wp2_with (go_at_call 142; refine (bits_Len64 _).mono ?_; rintro e w' ⟨rfl, rfl⟩)
  go_ret
  exact ⟨rfl, rfl⟩

/-- A quotient, whichever, and the rest. -/
def DivRes (w : World) (x : Int) (e : Ending) (w' : World) : Prop := ∃ q, e = .returned (.tuple #[.int .u64 q, .int .u64 x]) ∧ Quiet w w'

set_option maxRecDepth 100000 in
set_option maxHeartbeats 1000000 in
theorem bits_Div64_zero (lo : Int) (h0 : 0 ≤ lo) (hl : lo < 18446744073709551616) (w : World) :
    Calls Try.prog 140 #[.int .u64 0, .int .u64 lo, .int .u64 2305843009213693951] w (DivRes w (lo % 2305843009213693951)) := by
  go_enter Try.func140, Try.ntmps140
  go_wp2
  go_quiet (fail)
  go_wp2
  go_ret2
  exact ⟨_, rfl, Quiet.drewN _ _⟩

theorem or_u64_8 (a b : Int) (h0 : 0 ≤ a) (h1 : a < 288230376151711744) (h2 : 0 ≤ b) (h3 : b < 8) : bits .or .u64 (a * 8) b = a * 8 + b := by
  obtain ⟨a', rfl⟩ := Int.eq_ofNat_of_zero_le h0
  obtain ⟨b', rfl⟩ := Int.eq_ofNat_of_zero_le h2
  have h := bits_or_u64_nat (a' * 8) b' (by omega) (by omega)
  have e : a' * 8 ||| b' = a' * 8 + b' := by
    have := Nat.two_pow_add_eq_or_of_lt (i := 3) (b := b') (by omega) a'
    rw [show (2 : Nat) ^ 3 = 8 from rfl, Nat.mul_comm 8 a'] at this
    exact this.symm
  rw [e] at h
  rw [show ((a' : Int) * 8) = ((a' * 8 : Nat) : Int) by omega, h]
  omega
theorem and_u64_32 (a : Int) (h0 : 0 ≤ a) (h1 : a < 18446744073709551616) : bits .and .u64 a 4294967295 = a % 4294967296 := by
  obtain ⟨a', rfl⟩ := Int.eq_ofNat_of_zero_le h0
  have h := Mul64.maskN a' (by omega)
  rw [h]
  omega
theorem wrap_u64_in {a : Int} (h0 : 0 ≤ a) (h1 : a < 18446744073709551616) : IntKind.u64.wrap a = a := by rw [IntKind.wrap_u64]; omega
theorem un21_eq {u n1 Q : Int} (h0 : 0 ≤ u * 4294967296 + n1 - Q * 18446744073709551608) (h1 : u * 4294967296 + n1 - Q * 18446744073709551608 < 18446744073709551608) :
    IntKind.u64.wrap (IntKind.u64.wrap (IntKind.u64.wrap (u * 4294967296) + n1) - IntKind.u64.wrap (Q * 18446744073709551608)) = u * 4294967296 + n1 - Q * 18446744073709551608 := by
  simp only [IntKind.wrap_u64]
  omega
theorem rest_int (hi lo : Int) (h0 : 0 ≤ hi) (h1 : 0 ≤ lo) {u n1 n0 L Q R S : Int} (hL : L = lo * 8 % 18446744073709551616) (hu : u = hi * 8 + lo / 2305843009213693952) (hn1 : n1 = L / 4294967296) (hn0 : n0 = L % 4294967296)
    (hQ : Q = (u * 4294967296 + n1) / 18446744073709551608) (hR : R = u * 4294967296 + n1 - Q * 18446744073709551608) (hS : S = (R * 4294967296 + n0) / 18446744073709551608) :
    (R * 4294967296 + n0 - S * 18446744073709551608) / 8 = (hi * 18446744073709551616 + lo) % 2305843009213693951 := by
  obtain ⟨hi', rfl⟩ := Int.eq_ofNat_of_zero_le h0
  obtain ⟨lo', rfl⟩ := Int.eq_ofNat_of_zero_le h1
  have h := rest_eq hi' lo'
  have e1 : R = (u * 4294967296 + n1) % 18446744073709551608 := by omega
  have e2 : (R * 4294967296 + n0 - S * 18446744073709551608) = (R * 4294967296 + n0) % 18446744073709551608 := by omega
  rw [e2, e1, hn1, hn0, hu, hL]
  omega

theorem ret_two {k : IntKind} {v : Value} {a b : Int} (h : a = b) : Ending.returned (.tuple #[v, .int k a]) = .returned (.tuple #[v, .int k b]) := by rw [h]
/-- Slots of the first loop: the digit so far, and its rest. -/
def DivRel (u Q : Int) (a b : Value) : Prop := ∃ q r : Int, a = .int .u64 q ∧ b = .int .u64 r ∧ q * 4294967295 + r = u ∧ 0 ≤ r ∧ r < 4294967296 ∧ Q ≤ q ∧ 0 ≤ q ∧ q ≤ 4294967297

set_option maxRecDepth 100000 in
set_option maxHeartbeats 1000000 in
theorem bits_Div64 (hi lo : Int) (h0 : 0 < hi) (hh : hi < 288230376151711744) (h1 : 0 ≤ lo) (hl : lo < 18446744073709551616) (w : World) :
    Calls Try.prog 140 #[.int .u64 hi, .int .u64 lo, .int .u64 2305843009213693951] w (DivRes w ((hi * 18446744073709551616 + lo) % 2305843009213693951)) := by
  go_enter Try.func140, Try.ntmps140
  go_wp2_with (go_at_call 141; refine (bits_Lz64 _).mono ?_; rintro e w' ⟨rfl, rfl⟩)
  have B1 : bits .and .u64 18446744073709551608 4294967295 = 4294967288 := by decide +kernel
  have B2 : bits .or .u64 (hi * 8) (lo / 2305843009213693952) = hi * 8 + lo / 2305843009213693952 := or_u64_8 _ _ (by omega) hh (by omega) (by omega)
  have B3 : IntKind.u64.wrap (lo * 8) = lo * 8 % 18446744073709551616 := IntKind.wrap_u64 _
  have B4 : bits .and .u64 (lo * 8 % 18446744073709551616) 4294967295 = lo * 8 % 18446744073709551616 % 4294967296 := and_u64_32 _ (by omega) (by omega)
  rw [B1, B2, B3, B4]
  obtain ⟨u, hu⟩ : ∃ u, u = hi * 8 + lo / 2305843009213693952 := ⟨_, rfl⟩
  obtain ⟨L, hL⟩ : ∃ L, L = lo * 8 % 18446744073709551616 := ⟨_, rfl⟩
  rw [← hu, ← hL]
  have u0 : 0 ≤ u := by omega
  have u1 : u < 2305843009213693952 := by omega
  have L0 : 0 ≤ L := by omega
  have L1 : L < 18446744073709551616 := by omega
  obtain ⟨q0, hq0⟩ : ∃ q0, q0 = u / 4294967295 := ⟨_, rfl⟩
  have B5 : IntKind.u64.wrap (u.tdiv 4294967295) = q0 := by rw [Int.tdiv_eq_ediv_of_nonneg u0, hq0]; exact wrap_u64_in (by omega) (by omega)
  have B6 : IntKind.u64.wrap (q0 * 4294967295) = q0 * 4294967295 := wrap_u64_in (by omega) (by omega)
  have B7 : IntKind.u64.wrap (u - q0 * 4294967295) = u - q0 * 4294967295 := wrap_u64_in (by omega) (by omega)
  rw [B5, B6, B7]
  obtain ⟨n1, hn1⟩ : ∃ n1, n1 = L / 4294967296 := ⟨_, rfl⟩
  obtain ⟨n0, hn0⟩ : ∃ n0, n0 = L % 4294967296 := ⟨_, rfl⟩
  rw [← hn1, ← hn0]
  obtain ⟨Q, hQ⟩ : ∃ Q, Q = (u * 4294967296 + n1) / 18446744073709551608 := ⟨_, rfl⟩
  have a0 : 0 ≤ n1 := by omega
  have a1 : n1 < 4294967296 := by omega
  have a2 : 0 ≤ n0 := by omega
  have a3 : n0 < 4294967296 := by omega
  have Q1 : Q * 18446744073709551608 ≤ u * 4294967296 + n1 := by omega
  have Q2 : u * 4294967296 + n1 < (Q + 1) * 18446744073709551608 := by omega
  have Q3 : 0 ≤ Q := by omega
  have R0 : DivRel u Q (.int .u64 q0) (.int .u64 (u - q0 * 4294967295)) := ⟨_, _, rfl, rfl, by omega, by omega, by omega, by omega, by omega, by omega⟩
  have HU := Lib.hid hu
  have HL := Lib.hid hL
  have HN1 := Lib.hid hn1
  have HN0 := Lib.hid hn0
  have HQ := Lib.hid hQ
  clear B1 B2 B3 B4 B5 B6 B7 hu hL hn1 hn0 hQ hq0
  go_loop [15, 16] (fun a b => DivRel u Q a b) (fun a _ => (intOf a).toNat)
  case atStart => exact R0
  case round =>
    clear R0
    obtain ⟨q, r, rfl, rfl, hqr, r0, r1, c0, c1, c2⟩ := hrel
    have e1 : q * 4294967295 + r ≤ u := by omega
    have e2 : u ≤ q * 4294967295 + r := by omega
    clear hqr
    have hdec : ((4294967296 ≤ q ∨ 4294967296 * r + n1 < q * 4294967288) ∧ r = 0) ∨ ((4294967296 ≤ q ∨ 4294967296 * r + n1 < q * 4294967288) ∧ 1 ≤ r) ∨ (q < 4294967296 ∧ q * 4294967288 ≤ 4294967296 * r + n1) := by omega
    rcases hdec with ⟨ht, h2⟩ | ⟨ht, h2⟩ | ⟨t1, t3⟩
    · subst h2
      by_cases t1 : 4294967296 ≤ q
      · exfalso; omega
      · have t3 : 4294967296 * 0 + n1 < q * 4294967288 := ht.resolve_left t1
        have t4 : n1 < q * 4294967288 := by omega
        clear ht
        go_wp2
        go_round
        case rel => exact ⟨q - 1, 4294967295, rfl, rfl, by omega, by omega, by omega, by omega, by omega, by omega⟩
        case measure => simp [intOf]; omega
    · by_cases t1 : 4294967296 ≤ q
      · exfalso; omega
      · have t3 := ht.resolve_left t1
        clear ht
        go_wp2
        have hqQ : q - 1 = Q := by omega
        rw [hqQ]
        clear e1 e2 c0 c1 c2 r0 r1 t1 t3 h2 hqQ
        obtain ⟨R, hR⟩ : ∃ R, R = u * 4294967296 + n1 - Q * 18446744073709551608 := ⟨_, rfl⟩
        have D1 : IntKind.u64.wrap (IntKind.u64.wrap (IntKind.u64.wrap (u * 4294967296) + n1) - IntKind.u64.wrap (Q * 18446744073709551608)) = R := by rw [hR]; exact un21_eq (by omega) (by omega)
        have R0 : 0 ≤ R := by omega
        have R1 : R < 18446744073709551608 := by omega
        have HR := Lib.hid hR
        clear hR Q1 Q2
        rw [D1]
        clear D1
        obtain ⟨p0, hp0⟩ : ∃ p0, p0 = R / 4294967295 := ⟨_, rfl⟩
        have B5 : IntKind.u64.wrap (R.tdiv 4294967295) = p0 := by rw [Int.tdiv_eq_ediv_of_nonneg R0, hp0]; exact wrap_u64_in (by omega) (by omega)
        have B6 : IntKind.u64.wrap (p0 * 4294967295) = p0 * 4294967295 := wrap_u64_in (by omega) (by omega)
        have B7 : IntKind.u64.wrap (R - p0 * 4294967295) = R - p0 * 4294967295 := wrap_u64_in (by omega) (by omega)
        rw [B5, B6, B7]
        obtain ⟨S, hS⟩ : ∃ S, S = (R * 4294967296 + n0) / 18446744073709551608 := ⟨_, rfl⟩
        have S1 : S * 18446744073709551608 ≤ R * 4294967296 + n0 := by omega
        have S2 : R * 4294967296 + n0 < (S + 1) * 18446744073709551608 := by omega
        have S3 : 0 ≤ S := by omega
        have T0 : DivRel R S (.int .u64 p0) (.int .u64 (R - p0 * 4294967295)) := ⟨_, _, rfl, rfl, by omega, by omega, by omega, by omega, by omega, by omega⟩
        have HS := Lib.hid hS
        clear B5 B6 B7 hp0 hS
        go_loop [16, 18] (fun b a => DivRel R S a b) (fun _ a => (intOf a).toNat)
        case atStart => exact T0
        case round =>
          clear T0
          obtain ⟨q, r, rfl, rfl, hqr, r0, r1, c0, c1, c2⟩ := hrel
          have e1 : q * 4294967295 + r ≤ R := by omega
          have e2 : R ≤ q * 4294967295 + r := by omega
          clear hqr
          have hdec : ((4294967296 ≤ q ∨ 4294967296 * r + n0 < q * 4294967288) ∧ r = 0) ∨ ((4294967296 ≤ q ∨ 4294967296 * r + n0 < q * 4294967288) ∧ 1 ≤ r) ∨ (q < 4294967296 ∧ q * 4294967288 ≤ 4294967296 * r + n0) := by omega
          rcases hdec with ⟨ht, h2⟩ | ⟨ht, h2⟩ | ⟨t1, t3⟩
          · subst h2
            by_cases t1 : 4294967296 ≤ q
            · clear ht
              go_wp2
              go_round
              case rel => exact ⟨q - 1, 4294967295, rfl, rfl, by omega, by omega, by omega, by omega, by omega, by omega⟩
              case measure => simp [intOf]; omega
            · have t3 : 4294967296 * 0 + n0 < q * 4294967288 := ht.resolve_left t1
              have t4 : n0 < q * 4294967288 := by omega
              clear ht
              go_wp2
              go_round
              case rel => exact ⟨q - 1, 4294967295, rfl, rfl, by omega, by omega, by omega, by omega, by omega, by omega⟩
              case measure => simp [intOf]; omega
          · by_cases t1 : 4294967296 ≤ q
            · clear ht
              go_wp2
              have hqS : q - 1 = S := by omega
              rw [hqS, un21_eq (by omega) (by omega)]
              go_ret2
              exact ⟨_, ret_two (rest_int hi lo (by omega) h1 HL.out HU.out HN1.out HN0.out HQ.out HR.out HS.out), Quiet.refl _⟩
            · have t3 := ht.resolve_left t1
              clear ht
              go_wp2
              have hqS : q - 1 = S := by omega
              rw [hqS, un21_eq (by omega) (by omega)]
              go_ret2
              exact ⟨_, ret_two (rest_int hi lo (by omega) h1 HL.out HU.out HN1.out HN0.out HQ.out HR.out HS.out), Quiet.refl _⟩
          · go_wp2
            have hqS : q = S := by omega
            rw [hqS, un21_eq (by omega) (by omega)]
            go_ret2
            exact ⟨_, ret_two (rest_int hi lo (by omega) h1 HL.out HU.out HN1.out HN0.out HQ.out HR.out HS.out), Quiet.refl _⟩
    · go_wp2
      have hqQ : Q = q := by omega
      subst hqQ
      clear e1 e2 c0 c1 c2 r0 r1 t1 t3
      obtain ⟨R, hR⟩ : ∃ R, R = u * 4294967296 + n1 - Q * 18446744073709551608 := ⟨_, rfl⟩
      have D1 : IntKind.u64.wrap (IntKind.u64.wrap (IntKind.u64.wrap (u * 4294967296) + n1) - IntKind.u64.wrap (Q * 18446744073709551608)) = R := by rw [hR]; exact un21_eq (by omega) (by omega)
      have R0 : 0 ≤ R := by omega
      have R1 : R < 18446744073709551608 := by omega
      have HR := Lib.hid hR
      clear hR Q1 Q2
      rw [D1]
      clear D1
      obtain ⟨p0, hp0⟩ : ∃ p0, p0 = R / 4294967295 := ⟨_, rfl⟩
      have B5 : IntKind.u64.wrap (R.tdiv 4294967295) = p0 := by rw [Int.tdiv_eq_ediv_of_nonneg R0, hp0]; exact wrap_u64_in (by omega) (by omega)
      have B6 : IntKind.u64.wrap (p0 * 4294967295) = p0 * 4294967295 := wrap_u64_in (by omega) (by omega)
      have B7 : IntKind.u64.wrap (R - p0 * 4294967295) = R - p0 * 4294967295 := wrap_u64_in (by omega) (by omega)
      rw [B5, B6, B7]
      obtain ⟨S, hS⟩ : ∃ S, S = (R * 4294967296 + n0) / 18446744073709551608 := ⟨_, rfl⟩
      have S1 : S * 18446744073709551608 ≤ R * 4294967296 + n0 := by omega
      have S2 : R * 4294967296 + n0 < (S + 1) * 18446744073709551608 := by omega
      have S3 : 0 ≤ S := by omega
      have T0 : DivRel R S (.int .u64 p0) (.int .u64 (R - p0 * 4294967295)) := ⟨_, _, rfl, rfl, by omega, by omega, by omega, by omega, by omega, by omega⟩
      have HS := Lib.hid hS
      clear B5 B6 B7 hp0 hS
      go_loop [16, 18] (fun b a => DivRel R S a b) (fun _ a => (intOf a).toNat)
      case atStart => exact T0
      case round =>
        clear T0
        obtain ⟨q, r, rfl, rfl, hqr, r0, r1, c0, c1, c2⟩ := hrel
        have e1 : q * 4294967295 + r ≤ R := by omega
        have e2 : R ≤ q * 4294967295 + r := by omega
        clear hqr
        have hdec : ((4294967296 ≤ q ∨ 4294967296 * r + n0 < q * 4294967288) ∧ r = 0) ∨ ((4294967296 ≤ q ∨ 4294967296 * r + n0 < q * 4294967288) ∧ 1 ≤ r) ∨ (q < 4294967296 ∧ q * 4294967288 ≤ 4294967296 * r + n0) := by omega
        rcases hdec with ⟨ht, h2⟩ | ⟨ht, h2⟩ | ⟨t1, t3⟩
        · subst h2
          by_cases t1 : 4294967296 ≤ q
          · clear ht
            go_wp2
            go_round
            case rel => exact ⟨q - 1, 4294967295, rfl, rfl, by omega, by omega, by omega, by omega, by omega, by omega⟩
            case measure => simp [intOf]; omega
          · have t3 : 4294967296 * 0 + n0 < q * 4294967288 := ht.resolve_left t1
            have t4 : n0 < q * 4294967288 := by omega
            clear ht
            go_wp2
            go_round
            case rel => exact ⟨q - 1, 4294967295, rfl, rfl, by omega, by omega, by omega, by omega, by omega, by omega⟩
            case measure => simp [intOf]; omega
        · by_cases t1 : 4294967296 ≤ q
          · clear ht
            go_wp2
            have hqS : q - 1 = S := by omega
            rw [hqS, un21_eq (by omega) (by omega)]
            go_ret2
            exact ⟨_, ret_two (rest_int hi lo (by omega) h1 HL.out HU.out HN1.out HN0.out HQ.out HR.out HS.out), Quiet.refl _⟩
          · have t3 := ht.resolve_left t1
            clear ht
            go_wp2
            have hqS : q - 1 = S := by omega
            rw [hqS, un21_eq (by omega) (by omega)]
            go_ret2
            exact ⟨_, ret_two (rest_int hi lo (by omega) h1 HL.out HU.out HN1.out HN0.out HQ.out HR.out HS.out), Quiet.refl _⟩
        · go_wp2
          have hqS : q = S := by omega
          rw [hqS, un21_eq (by omega) (by omega)]
          go_ret2
          exact ⟨_, ret_two (rest_int hi lo (by omega) h1 HL.out HU.out HN1.out HN0.out HQ.out HR.out HS.out), Quiet.refl _⟩
end Go.Proofs.Ytgfidgepplfcbaa
