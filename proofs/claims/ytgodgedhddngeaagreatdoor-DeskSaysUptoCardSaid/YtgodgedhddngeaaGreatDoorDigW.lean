/- What the calls of package digest compute: walks, each function once. -/
import Derived.Test.YtgodgedhddngeaaGreatDoorPupShape
import Derived.Lib.Mul64
import Derived.Laws.Bits64b
import Derived.Shelf.Bits.Mul64
import Derived.Outline
import Derived.IntWalk
set_option maxRecDepth 100000
set_option maxHeartbeats 16000000
namespace Go.Proofs.YtgodgedhddngeaaGreatDoor
open Go.RowKit Pl
def nI (a : Int) : Int := ((a.toNat % P61 : Nat) : Int)
def addI (a b : Int) : Int := ((addP a.toNat b.toNat : Nat) : Int)
def mulI (a b : Int) : Int := ((mulP a.toNat b.toNat : Nat) : Int)
def powI (a : Int) : Int := ((pow17 a.toNat : Nat) : Int)
theorem nI_lo (a : Int) : 0 ≤ nI a := Int.natCast_nonneg _
theorem nI_hi (a : Int) : nI a < 2305843009213693951 := by have h : a.toNat % P61 < P61 := Nat.mod_lt _ P61_pos; have : P61 = 2305843009213693951 := rfl; unfold nI; omega
theorem addI_lo (a b : Int) : 0 ≤ addI a b := Int.natCast_nonneg _
theorem addI_hi (a b : Int) : addI a b < 2305843009213693951 := by have h := addP_lt a.toNat b.toNat; have : P61 = 2305843009213693951 := rfl; unfold addI; omega
theorem mulI_lo (a b : Int) : 0 ≤ mulI a b := Int.natCast_nonneg _
theorem mulI_hi (a b : Int) : mulI a b < 2305843009213693951 := by have h := mulP_lt a.toNat b.toNat; have : P61 = 2305843009213693951 := rfl; unfold mulI; omega
theorem powI_lo (a : Int) : 0 ≤ powI a := Int.natCast_nonneg _
theorem powI_hi (a : Int) : powI a < 2305843009213693951 := by have h := pow17_lt a.toNat; have : P61 = 2305843009213693951 := rfl; unfold powI; omega
theorem nI_nI (a b : Int) : nI (nI a + nI b) = addI a b := by
 unfold nI addI addP
 rw [show (((a.toNat % P61 : Nat) : Int) + ((b.toNat % P61 : Nat) : Int)).toNat = a.toNat % P61 + b.toNat % P61 by omega]
theorem dig_norm (a : Int) (h0 : 0 ≤ a) (ha : a < 18446744073709551616) (w : World) :
  Calls Tryz.prog 192 #[.int .u64 a] w fun e w' => e = .returned (.int .u64 (nI a)) ∧ w = w' := by
 go_enter Tryz.func192, Tryz.ntmps192
 go_wp2
 go_ret
 exact ⟨ret_int (by unfold nI P61; omega), rfl⟩
theorem dig_add (a b : Int) (h0 : 0 ≤ a) (ha : a < 18446744073709551616) (h0' : 0 ≤ b) (hb : b < 18446744073709551616) (w : World) :
  Calls Tryz.prog 194 #[.int .u64 a, .int .u64 b] w fun e w' => e = .returned (.int .u64 (addI a b)) ∧ w = w' := by
 have h1 := nI_lo a
 have h2 := nI_hi a
 have h3 := nI_lo b
 have h4 := nI_hi b
 go_enter Tryz.func194, Tryz.ntmps194
 go_wp2_with (go_at_call 192; refine (dig_norm _ (by omega) (by omega) _).mono ?_; rintro e w' ⟨rfl, rfl⟩)
 go_ret
 exact ⟨ret_int (nI_nI a b), rfl⟩
theorem bits_Mul64 (x y : Nat) (hx : x < 18446744073709551616) (hy : y < 18446744073709551616) (w : World) :
  Calls Tryz.prog 213 #[.int .u64 x, .int .u64 y] w fun e w' => e = .returned (.tuple #[.int .u64 ((x * y / 18446744073709551616 : Nat) : Int), .int .u64 ((x * y % 18446744073709551616 : Nat) : Int)]) ∧ w' = w := by
 obtain ⟨bd, bt, bw, hhi⟩ := Lib.mul64_hi x y hx hy
 have ba := Lib.half_mul_le (a := x / 4294967296) (b := y / 4294967296) (by omega) (by omega)
 have bb := Lib.half_mul_le (a := x / 4294967296) (b := y % 4294967296) (by omega) (by omega)
 have bc := Lib.half_mul_le (a := x % 4294967296) (b := y / 4294967296) (by omega) (by omega)
 have ba' : x / 4294967296 * (y / 4294967296) < 18446744073709551616 := by omega
 have bb' : x / 4294967296 * (y % 4294967296) < 18446744073709551616 := by omega
 have bc' : x % 4294967296 * (y / 4294967296) < 18446744073709551616 := by omega
 have bh1 : x / 4294967296 * (y / 4294967296) + (x / 4294967296 * (y % 4294967296) + x % 4294967296 * (y % 4294967296) / 4294967296) / 4294967296 < 18446744073709551616 := by omega
 have bh : x / 4294967296 * (y / 4294967296) + (x / 4294967296 * (y % 4294967296) + x % 4294967296 * (y % 4294967296) / 4294967296) / 4294967296 + ((x / 4294967296 * (y % 4294967296) + x % 4294967296 * (y % 4294967296) / 4294967296) % 4294967296 + x % 4294967296 * (y / 4294967296)) / 4294967296 < 18446744073709551616 := by omega
 go_enter Tryz.func213, Tryz.ntmps213
 go_wp2
 simp only [Mul64.maskN x hx, Mul64.maskN y hy, Mul64.divN, Mul64.mulN, Mul64.addN, Mul64.wrapN _ bd, Mul64.wrapN _ bb', Mul64.wrapN _ bt, Mul64.maskN _ bt, Mul64.wrapN _ bc', Mul64.wrapN _ bw, Mul64.wrapN _ ba', Mul64.wrapN _ bh1, Mul64.wrapN _ bh, Mul64.wrapM (x * y)]
 rw [hhi]
 go_ret2
 exact ⟨rfl, rfl⟩
theorem bits_Len64 (w : World) : Calls Tryz.prog 180 #[.int .u64 2305843009213693951] w fun e w' => e = .returned (.int .i64 61) ∧ w = w' := by
 go_enter Tryz.func180, Tryz.ntmps180
 go_wp2
 go_ret
 exact ⟨ret_int (by decide +kernel), rfl⟩
theorem bits_Lz64 (w : World) : Calls Tryz.prog 216 #[.int .u64 2305843009213693951] w fun e w' => e = .returned (.int .i64 3) ∧ w = w' := by
 go_enter Tryz.func216, Tryz.ntmps216
 go_wp2_with (go_at_call 180; refine (bits_Len64 _).mono ?_; rintro e w' ⟨rfl, rfl⟩)
 go_ret
 exact ⟨rfl, rfl⟩
def DivRes (w : World) (x : Int) (e : Ending) (w' : World) : Prop := ∃ q, e = .returned (.tuple #[.int .u64 q, .int .u64 x]) ∧ Quiet w w'
theorem bits_Div64_zero (lo : Int) (h0 : 0 ≤ lo) (hl : lo < 18446744073709551616) (w : World) :
  Calls Tryz.prog 215 #[.int .u64 0, .int .u64 lo, .int .u64 2305843009213693951] w (DivRes w (lo % 2305843009213693951)) := by
 go_enter Tryz.func215, Tryz.ntmps215
 go_wp2
 go_quiet (fail)
 go_wp2
 go_ret2
 exact ⟨_, rfl, Quiet.drewN _ _⟩
theorem or_u64_8 (a b : Int) (h0 : 0 ≤ a) (h1 : a < 288230376151711744) (h2 : 0 ≤ b) (h3 : b < 8) : bits .or .u64 (a * 8) b = a * 8 + b := by
 obtain ⟨a', rfl⟩ := Int.eq_ofNat_of_zero_le h0
 obtain ⟨b', rfl⟩ := Int.eq_ofNat_of_zero_le h2
 have h := bits_or_u64_nat (a' * 8) b' (by omega) (by omega)
 have e : a' * 8 ||| b' = a' * 8 + b' := by
  have := Nat.two_pow_add_eq_or_of_lt (i := 3) (b := b') (by omega) a'
  rw [show (2 : Nat) ^ 3 = 8 from rfl, Nat.mul_comm 8 a'] at this
  exact this.symm
 rw [e] at h
 rw [show ((a' : Int) * 8) = ((a' * 8 : Nat) : Int) by omega, h]
 omega
theorem and_u64_32 (a : Int) (h0 : 0 ≤ a) (h1 : a < 18446744073709551616) : bits .and .u64 a 4294967295 = a % 4294967296 := by
 obtain ⟨a', rfl⟩ := Int.eq_ofNat_of_zero_le h0
 have h := Mul64.maskN a' (by omega)
 rw [h]
 omega
theorem wrap_u64_in {a : Int} (h0 : 0 ≤ a) (h1 : a < 18446744073709551616) : IntKind.u64.wrap a = a := by rw [IntKind.wrap_u64]; omega
theorem un21_eq {u n1 Q : Int} (h0 : 0 ≤ u * 4294967296 + n1 - Q * 18446744073709551608) (h1 : u * 4294967296 + n1 - Q * 18446744073709551608 < 18446744073709551608) :
  IntKind.u64.wrap (IntKind.u64.wrap (IntKind.u64.wrap (u * 4294967296) + n1) - IntKind.u64.wrap (Q * 18446744073709551608)) = u * 4294967296 + n1 - Q * 18446744073709551608 := by
 simp only [IntKind.wrap_u64]
 omega
theorem rest_int (hi lo : Int) (h0 : 0 ≤ hi) (h1 : 0 ≤ lo) {u n1 n0 L Q R S : Int} (hL : L = lo * 8 % 18446744073709551616) (hu : u = hi * 8 + lo / 2305843009213693952) (hn1 : n1 = L / 4294967296) (hn0 : n0 = L % 4294967296)
  (hQ : Q = (u * 4294967296 + n1) / 18446744073709551608) (hR : R = u * 4294967296 + n1 - Q * 18446744073709551608) (hS : S = (R * 4294967296 + n0) / 18446744073709551608) :
  (R * 4294967296 + n0 - S * 18446744073709551608) / 8 = (hi * 18446744073709551616 + lo) % 2305843009213693951 := by
 obtain ⟨hi', rfl⟩ := Int.eq_ofNat_of_zero_le h0
 obtain ⟨lo', rfl⟩ := Int.eq_ofNat_of_zero_le h1
 have h := rest_eq hi' lo'
 have e1 : R = (u * 4294967296 + n1) % 18446744073709551608 := by omega
 have e2 : (R * 4294967296 + n0 - S * 18446744073709551608) = (R * 4294967296 + n0) % 18446744073709551608 := by omega
 rw [e2, e1, hn1, hn0, hu, hL]
 omega
theorem ret_two {k : IntKind} {v : Value} {a b : Int} (h : a = b) : Ending.returned (.tuple #[v, .int k a]) = .returned (.tuple #[v, .int k b]) := by rw [h]
def DivRel (u Q : Int) (a b : Value) : Prop := ∃ q r : Int, a = .int .u64 q ∧ b = .int .u64 r ∧ q * 4294967295 + r = u ∧ 0 ≤ r ∧ r < 4294967296 ∧ Q ≤ q ∧ 0 ≤ q ∧ q ≤ 4294967297
theorem bits_Div64 (hi lo : Int) (h0 : 0 < hi) (hh : hi < 288230376151711744) (h1 : 0 ≤ lo) (hl : lo < 18446744073709551616) (w : World) :
  Calls Tryz.prog 215 #[.int .u64 hi, .int .u64 lo, .int .u64 2305843009213693951] w (DivRes w ((hi * 18446744073709551616 + lo) % 2305843009213693951)) := by
 go_enter Tryz.func215, Tryz.ntmps215
 go_wp2_with (go_at_call 216; refine (bits_Lz64 _).mono ?_; rintro e w' ⟨rfl, rfl⟩)
 have B1 : bits .and .u64 18446744073709551608 4294967295 = 4294967288 := by decide +kernel
 have B2 : bits .or .u64 (hi * 8) (lo / 2305843009213693952) = hi * 8 + lo / 2305843009213693952 := or_u64_8 _ _ (by omega) hh (by omega) (by omega)
 have B3 : IntKind.u64.wrap (lo * 8) = lo * 8 % 18446744073709551616 := IntKind.wrap_u64 _
 have B4 : bits .and .u64 (lo * 8 % 18446744073709551616) 4294967295 = lo * 8 % 18446744073709551616 % 4294967296 := and_u64_32 _ (by omega) (by omega)
 rw [B1, B2, B3, B4]
 obtain ⟨u, hu⟩ : ∃ u, u = hi * 8 + lo / 2305843009213693952 := ⟨_, rfl⟩
 obtain ⟨L, hL⟩ : ∃ L, L = lo * 8 % 18446744073709551616 := ⟨_, rfl⟩
 rw [← hu, ← hL]
 have u0 : 0 ≤ u := by omega
 have u1 : u < 2305843009213693952 := by omega
 have L0 : 0 ≤ L := by omega
 have L1 : L < 18446744073709551616 := by omega
 obtain ⟨q0, hq0⟩ : ∃ q0, q0 = u / 4294967295 := ⟨_, rfl⟩
 have B5 : IntKind.u64.wrap (u.tdiv 4294967295) = q0 := by rw [Int.tdiv_eq_ediv_of_nonneg u0, hq0]; exact wrap_u64_in (by omega) (by omega)
 have B6 : IntKind.u64.wrap (q0 * 4294967295) = q0 * 4294967295 := wrap_u64_in (by omega) (by omega)
 have B7 : IntKind.u64.wrap (u - q0 * 4294967295) = u - q0 * 4294967295 := wrap_u64_in (by omega) (by omega)
 rw [B5, B6, B7]
 obtain ⟨n1, hn1⟩ : ∃ n1, n1 = L / 4294967296 := ⟨_, rfl⟩
 obtain ⟨n0, hn0⟩ : ∃ n0, n0 = L % 4294967296 := ⟨_, rfl⟩
 rw [← hn1, ← hn0]
 obtain ⟨Q, hQ⟩ : ∃ Q, Q = (u * 4294967296 + n1) / 18446744073709551608 := ⟨_, rfl⟩
 have a0 : 0 ≤ n1 := by omega
 have a1 : n1 < 4294967296 := by omega
 have a2 : 0 ≤ n0 := by omega
 have a3 : n0 < 4294967296 := by omega
 have Q1 : Q * 18446744073709551608 ≤ u * 4294967296 + n1 := by omega
 have Q2 : u * 4294967296 + n1 < (Q + 1) * 18446744073709551608 := by omega
 have Q3 : 0 ≤ Q := by omega
 have R0 : DivRel u Q (.int .u64 q0) (.int .u64 (u - q0 * 4294967295)) := ⟨_, _, rfl, rfl, by omega, by omega, by omega, by omega, by omega, by omega⟩
 have HU := Lib.hid hu
 have HL := Lib.hid hL
 have HN1 := Lib.hid hn1
 have HN0 := Lib.hid hn0
 have HQ := Lib.hid hQ
 clear B1 B2 B3 B4 B5 B6 B7 hu hL hn1 hn0 hQ hq0
 go_loop [15, 16] (fun a b => DivRel u Q a b) (fun a _ => (intOf a).toNat)
 case atStart => exact R0
 case round =>
  clear R0
  obtain ⟨q, r, rfl, rfl, hqr, r0, r1, c0, c1, c2⟩ := hrel
  have e1 : q * 4294967295 + r ≤ u := by omega
  have e2 : u ≤ q * 4294967295 + r := by omega
  clear hqr
  have hdec : ((4294967296 ≤ q ∨ 4294967296 * r + n1 < q * 4294967288) ∧ r = 0) ∨ ((4294967296 ≤ q ∨ 4294967296 * r + n1 < q * 4294967288) ∧ 1 ≤ r) ∨ (q < 4294967296 ∧ q * 4294967288 ≤ 4294967296 * r + n1) := by omega
  rcases hdec with ⟨ht, h2⟩ | ⟨ht, h2⟩ | ⟨t1, t3⟩
  ·subst h2
   by_cases t1 : 4294967296 ≤ q
   ·exfalso; omega
   ·have t3 : 4294967296 * 0 + n1 < q * 4294967288 := ht.resolve_left t1
    have t4 : n1 < q * 4294967288 := by omega
    clear ht
    go_wp2
    go_round
    case rel => exact ⟨q - 1, 4294967295, rfl, rfl, by omega, by omega, by omega, by omega, by omega, by omega⟩
    case measure => simp [intOf]; omega
  ·by_cases t1 : 4294967296 ≤ q
   ·exfalso; omega
   ·have t3 := ht.resolve_left t1
    clear ht
    go_wp2
    have hqQ : q - 1 = Q := by omega
    rw [hqQ]
    clear e1 e2 c0 c1 c2 r0 r1 t1 t3 h2 hqQ
    obtain ⟨R, hR⟩ : ∃ R, R = u * 4294967296 + n1 - Q * 18446744073709551608 := ⟨_, rfl⟩
    have D1 : IntKind.u64.wrap (IntKind.u64.wrap (IntKind.u64.wrap (u * 4294967296) + n1) - IntKind.u64.wrap (Q * 18446744073709551608)) = R := by rw [hR]; exact un21_eq (by omega) (by omega)
    have R0 : 0 ≤ R := by omega
    have R1 : R < 18446744073709551608 := by omega
    have HR := Lib.hid hR
    clear hR Q1 Q2
    rw [D1]
    clear D1
    obtain ⟨p0, hp0⟩ : ∃ p0, p0 = R / 4294967295 := ⟨_, rfl⟩
    have B5 : IntKind.u64.wrap (R.tdiv 4294967295) = p0 := by rw [Int.tdiv_eq_ediv_of_nonneg R0, hp0]; exact wrap_u64_in (by omega) (by omega)
    have B6 : IntKind.u64.wrap (p0 * 4294967295) = p0 * 4294967295 := wrap_u64_in (by omega) (by omega)
    have B7 : IntKind.u64.wrap (R - p0 * 4294967295) = R - p0 * 4294967295 := wrap_u64_in (by omega) (by omega)
    rw [B5, B6, B7]
    obtain ⟨S, hS⟩ : ∃ S, S = (R * 4294967296 + n0) / 18446744073709551608 := ⟨_, rfl⟩
    have S1 : S * 18446744073709551608 ≤ R * 4294967296 + n0 := by omega
    have S2 : R * 4294967296 + n0 < (S + 1) * 18446744073709551608 := by omega
    have S3 : 0 ≤ S := by omega
    have T0 : DivRel R S (.int .u64 p0) (.int .u64 (R - p0 * 4294967295)) := ⟨_, _, rfl, rfl, by omega, by omega, by omega, by omega, by omega, by omega⟩
    have HS := Lib.hid hS
    clear B5 B6 B7 hp0 hS
    go_loop [16, 18] (fun b a => DivRel R S a b) (fun _ a => (intOf a).toNat)
    case atStart => exact T0
    case round =>
     clear T0
     obtain ⟨q, r, rfl, rfl, hqr, r0, r1, c0, c1, c2⟩ := hrel
     have e1 : q * 4294967295 + r ≤ R := by omega
     have e2 : R ≤ q * 4294967295 + r := by omega
     clear hqr
     have hdec : ((4294967296 ≤ q ∨ 4294967296 * r + n0 < q * 4294967288) ∧ r = 0) ∨ ((4294967296 ≤ q ∨ 4294967296 * r + n0 < q * 4294967288) ∧ 1 ≤ r) ∨ (q < 4294967296 ∧ q * 4294967288 ≤ 4294967296 * r + n0) := by omega
     rcases hdec with ⟨ht, h2⟩ | ⟨ht, h2⟩ | ⟨t1, t3⟩
     ·subst h2
      by_cases t1 : 4294967296 ≤ q
      ·clear ht
       go_wp2
       go_round
       case rel => exact ⟨q - 1, 4294967295, rfl, rfl, by omega, by omega, by omega, by omega, by omega, by omega⟩
       case measure => simp [intOf]; omega
      ·have t3 : 4294967296 * 0 + n0 < q * 4294967288 := ht.resolve_left t1
       have t4 : n0 < q * 4294967288 := by omega
       clear ht
       go_wp2
       go_round
       case rel => exact ⟨q - 1, 4294967295, rfl, rfl, by omega, by omega, by omega, by omega, by omega, by omega⟩
       case measure => simp [intOf]; omega
     ·by_cases t1 : 4294967296 ≤ q
      ·clear ht
       go_wp2
       have hqS : q - 1 = S := by omega
       rw [hqS, un21_eq (by omega) (by omega)]
       go_ret2
       exact ⟨_, ret_two (rest_int hi lo (by omega) h1 HL.out HU.out HN1.out HN0.out HQ.out HR.out HS.out), Quiet.refl _⟩
      ·have t3 := ht.resolve_left t1
       clear ht
       go_wp2
       have hqS : q - 1 = S := by omega
       rw [hqS, un21_eq (by omega) (by omega)]
       go_ret2
       exact ⟨_, ret_two (rest_int hi lo (by omega) h1 HL.out HU.out HN1.out HN0.out HQ.out HR.out HS.out), Quiet.refl _⟩
     ·go_wp2
      have hqS : q = S := by omega
      rw [hqS, un21_eq (by omega) (by omega)]
      go_ret2
      exact ⟨_, ret_two (rest_int hi lo (by omega) h1 HL.out HU.out HN1.out HN0.out HQ.out HR.out HS.out), Quiet.refl _⟩
  ·go_wp2
   have hqQ : Q = q := by omega
   subst hqQ
   clear e1 e2 c0 c1 c2 r0 r1 t1 t3
   obtain ⟨R, hR⟩ : ∃ R, R = u * 4294967296 + n1 - Q * 18446744073709551608 := ⟨_, rfl⟩
   have D1 : IntKind.u64.wrap (IntKind.u64.wrap (IntKind.u64.wrap (u * 4294967296) + n1) - IntKind.u64.wrap (Q * 18446744073709551608)) = R := by rw [hR]; exact un21_eq (by omega) (by omega)
   have R0 : 0 ≤ R := by omega
   have R1 : R < 18446744073709551608 := by omega
   have HR := Lib.hid hR
   clear hR Q1 Q2
   rw [D1]
   clear D1
   obtain ⟨p0, hp0⟩ : ∃ p0, p0 = R / 4294967295 := ⟨_, rfl⟩
   have B5 : IntKind.u64.wrap (R.tdiv 4294967295) = p0 := by rw [Int.tdiv_eq_ediv_of_nonneg R0, hp0]; exact wrap_u64_in (by omega) (by omega)
   have B6 : IntKind.u64.wrap (p0 * 4294967295) = p0 * 4294967295 := wrap_u64_in (by omega) (by omega)
   have B7 : IntKind.u64.wrap (R - p0 * 4294967295) = R - p0 * 4294967295 := wrap_u64_in (by omega) (by omega)
   rw [B5, B6, B7]
   obtain ⟨S, hS⟩ : ∃ S, S = (R * 4294967296 + n0) / 18446744073709551608 := ⟨_, rfl⟩
   have S1 : S * 18446744073709551608 ≤ R * 4294967296 + n0 := by omega
   have S2 : R * 4294967296 + n0 < (S + 1) * 18446744073709551608 := by omega
   have S3 : 0 ≤ S := by omega
   have T0 : DivRel R S (.int .u64 p0) (.int .u64 (R - p0 * 4294967295)) := ⟨_, _, rfl, rfl, by omega, by omega, by omega, by omega, by omega, by omega⟩
   have HS := Lib.hid hS
   clear B5 B6 B7 hp0 hS
   go_loop [16, 18] (fun b a => DivRel R S a b) (fun _ a => (intOf a).toNat)
   case atStart => exact T0
   case round =>
    clear T0
    obtain ⟨q, r, rfl, rfl, hqr, r0, r1, c0, c1, c2⟩ := hrel
    have e1 : q * 4294967295 + r ≤ R := by omega
    have e2 : R ≤ q * 4294967295 + r := by omega
    clear hqr
    have hdec : ((4294967296 ≤ q ∨ 4294967296 * r + n0 < q * 4294967288) ∧ r = 0) ∨ ((4294967296 ≤ q ∨ 4294967296 * r + n0 < q * 4294967288) ∧ 1 ≤ r) ∨ (q < 4294967296 ∧ q * 4294967288 ≤ 4294967296 * r + n0) := by omega
    rcases hdec with ⟨ht, h2⟩ | ⟨ht, h2⟩ | ⟨t1, t3⟩
    ·subst h2
     by_cases t1 : 4294967296 ≤ q
     ·clear ht
      go_wp2
      go_round
      case rel => exact ⟨q - 1, 4294967295, rfl, rfl, by omega, by omega, by omega, by omega, by omega, by omega⟩
      case measure => simp [intOf]; omega
     ·have t3 : 4294967296 * 0 + n0 < q * 4294967288 := ht.resolve_left t1
      have t4 : n0 < q * 4294967288 := by omega
      clear ht
      go_wp2
      go_round
      case rel => exact ⟨q - 1, 4294967295, rfl, rfl, by omega, by omega, by omega, by omega, by omega, by omega⟩
      case measure => simp [intOf]; omega
    ·by_cases t1 : 4294967296 ≤ q
     ·clear ht
      go_wp2
      have hqS : q - 1 = S := by omega
      rw [hqS, un21_eq (by omega) (by omega)]
      go_ret2
      exact ⟨_, ret_two (rest_int hi lo (by omega) h1 HL.out HU.out HN1.out HN0.out HQ.out HR.out HS.out), Quiet.refl _⟩
     ·have t3 := ht.resolve_left t1
      clear ht
      go_wp2
      have hqS : q - 1 = S := by omega
      rw [hqS, un21_eq (by omega) (by omega)]
      go_ret2
      exact ⟨_, ret_two (rest_int hi lo (by omega) h1 HL.out HU.out HN1.out HN0.out HQ.out HR.out HS.out), Quiet.refl _⟩
    ·go_wp2
     have hqS : q = S := by omega
     rw [hqS, un21_eq (by omega) (by omega)]
     go_ret2
     exact ⟨_, ret_two (rest_int hi lo (by omega) h1 HL.out HU.out HN1.out HN0.out HQ.out HR.out HS.out), Quiet.refl _⟩
theorem bits_Rem64 (hi lo : Int) (h0 : 0 ≤ hi) (hh : hi < 288230376151711744) (h1 : 0 ≤ lo) (hl : lo < 18446744073709551616) (w : World) :
  Calls Tryz.prog 214 #[.int .u64 hi, .int .u64 lo, .int .u64 2305843009213693951] w fun e w' => e = .returned (.int .u64 ((hi * 18446744073709551616 + lo) % 2305843009213693951)) ∧ Quiet w w' := by
 have H : Calls Tryz.prog 215 #[.int .u64 hi, .int .u64 lo, .int .u64 2305843009213693951] w (DivRes w ((hi * 18446744073709551616 + lo) % 2305843009213693951)) := by
  rcases Int.lt_or_le 0 hi with h | h
  ·exact bits_Div64 hi lo h hh h1 hl w
  ·obtain rfl : hi = 0 := by omega
   rw [Int.zero_mul, Int.zero_add]
   exact bits_Div64_zero lo h1 hl w
 have H' := Lib.hid H
 have e : hi % 2305843009213693951 = hi := by omega
 have e2 : hi.tmod 2305843009213693951 = hi := by rw [Int.tmod_eq_emod_of_nonneg h0]; exact e
 clear H
 go_enter Tryz.func214, Tryz.ntmps214
 go_wp2_with (go_at_call 215; refine H'.out.mono ?_; rintro e w1 ⟨q, rfl, hq⟩)
 go_ret
 exact ⟨rfl, hq⟩
theorem bits_Mul64I (x y : Int) (h0 : 0 ≤ x) (h1 : x < 2305843009213693951) (h2 : 0 ≤ y) (h3 : y < 2305843009213693951) (w : World) :
  Calls Tryz.prog 213 #[.int .u64 x, .int .u64 y] w fun e w' => (∃ hi lo : Int, 0 ≤ hi ∧ hi < 288230376151711744 ∧ 0 ≤ lo ∧ lo < 18446744073709551616 ∧ hi * 18446744073709551616 + lo = x * y ∧ e = .returned (.tuple #[.int .u64 hi, .int .u64 lo])) ∧ w = w' := by
 obtain ⟨x, rfl⟩ := Int.eq_ofNat_of_zero_le h0
 obtain ⟨y, rfl⟩ := Int.eq_ofNat_of_zero_le h2
 refine (bits_Mul64 x y (by omega) (by omega) w).mono ?_
 rintro e w' ⟨rfl, rfl⟩
 have hb : x * y ≤ 2305843009213693950 * 2305843009213693950 := Nat.mul_le_mul (by omega) (by omega)
 have hc : ((x : Int) * (y : Int)) = ((x * y : Nat) : Int) := (Int.natCast_mul x y).symm
 refine ⟨⟨_, _, by omega, by omega, by omega, by omega, ?_, rfl⟩, rfl⟩
 rw [hc]
 omega
theorem mulI_eq (a b : Int) : nI a * nI b % 2305843009213693951 = mulI a b := by
 unfold nI mulI mulP
 have h : ((a.toNat % P61 : Nat) : Int) * ((b.toNat % P61 : Nat) : Int) = (((a.toNat % P61) * (b.toNat % P61) : Nat) : Int) := (Int.natCast_mul _ _).symm
 rw [h]
 generalize (a.toNat % P61) * (b.toNat % P61) = n
 unfold P61
 omega
theorem dig_mul (a b : Int) (h0 : 0 ≤ a) (ha : a < 18446744073709551616) (h0' : 0 ≤ b) (hb : b < 18446744073709551616) (w : World) :
  Calls Tryz.prog 212 #[.int .u64 a, .int .u64 b] w fun e w' => e = .returned (.int .u64 (mulI a b)) ∧ Quiet w w' := by
 have h1 := nI_lo a
 have h2 := nI_hi a
 have h3 := nI_lo b
 have h4 := nI_hi b
 have HE := Lib.hid (mulI_eq a b)
 go_enter Tryz.func212, Tryz.ntmps212
 go_wp2_with (go_at_call 192; refine (dig_norm _ (by omega) (by omega) _).mono ?_; rintro e w' ⟨rfl, rfl⟩)
 refine (bits_Mul64I (nI a) (nI b) h1 h2 h3 h4 _).mono ?_
 rintro e w' ⟨⟨hi, lo, q1, q2, q3, q4, q5, rfl⟩, rfl⟩
 have H5 := Lib.hid q5
 clear q5
 go_wp2_with (go_at_call 214; refine (bits_Rem64 hi lo q1 q2 q3 q4 _).mono ?_; rintro e w' ⟨rfl, hq⟩)
 go_ret
 exact ⟨ret_int (by rw [H5.out]; exact HE.out), hq⟩
def sqI (a : Int) : Nat → Int
 | 0 => a
 | k + 1 => mulI (sqI a k) (sqI a k)
theorem sqI_pow (a : Int) : mulI (sqI a 4) a = powI a := rfl
theorem sqI_bd (a : Int) (h0 : 0 ≤ a) (h1 : a < 18446744073709551616) (k : Nat) : 0 ≤ sqI a k ∧ sqI a k < 18446744073709551616 := by
 cases k with
 | zero => exact ⟨h0, h1⟩
 | succ k => exact ⟨mulI_lo _ _, by have := mulI_hi (sqI a k) (sqI a k); show mulI _ _ < _; omega⟩
theorem dig_pow (a : Int) (h0 : 0 ≤ a) (ha : a < 18446744073709551616) (w : World) :
  Calls Tryz.prog 210 #[.int .u64 a] w fun e w' => e = .returned (.int .u64 (powI a)) ∧ Quiet w w' := by
 go_enter Tryz.func210, Tryz.ntmps210
 go_wp2
 go_loopw [3, 5] (fun x i wr => ∃ k : Nat, k ≤ 4 ∧ i = .int .i64 k ∧ x = .int .u64 (sqI a k) ∧ Quiet w wr) (fun _ i _ => 4 - (intOf i).toNat)
 case atStart => exact ⟨0, by omega, rfl, rfl, Quiet.refl _⟩
 case round =>
  obtain ⟨k, hk, rfl, rfl, hq⟩ := hrel
  obtain ⟨b1, b2⟩ := sqI_bd a h0 ha k
  by_cases hlt : k < 4
  ·go_wp2_with (go_at_call 212; refine (dig_mul _ _ b1 b2 b1 b2 _).mono ?_; rintro e w1 ⟨rfl, hq1⟩)
   go_roundw
   case rel => exact ⟨k + 1, by omega, by go_num, rfl, hq.trans hq1⟩
   case measure => simp [intOf]; omega
  ·obtain rfl : k = 4 := by omega
   go_wp2_with (go_at_call 212; refine (dig_mul _ _ b1 b2 h0 ha _).mono ?_; rintro e w1 ⟨rfl, hq1⟩)
   go_ret
   exact ⟨rfl, hq.trans hq1⟩
theorem But.refl (g : Nat) (w : World) : But g w w := ⟨rfl, rfl, rfl, Nat.le_refl _, fun _ _ _ => rfl⟩
theorem But.trans {g : Nat} {a b c : World} (h : But g a b) (h' : But g b c) : But g a c :=
 ⟨h'.os.trans h.os, h'.tape.trans h.tape, h'.output.trans h.output, Nat.le_trans h.size h'.size, fun k hk hne => (h'.block k (Nat.lt_of_lt_of_le hk h.size) hne).trans (h.block k hk hne)⟩
theorem But.drewN {g : Nat} {a b : World} (h : But g a b) (n : Nat) : But g a (b.drewN n) := ⟨h.os, h.tape, h.output, h.size, h.block⟩
theorem But.put {g : Nat} {a b : World} (h : But g a b) (i : Nat) (v : Value) : But g a (b.setCell ⟨g, i, none⟩ v) :=
 ⟨h.os, h.tape, h.output, by simpa [World.setCell] using h.size, fun k hk hne => (heap_setCell_other b ⟨g, i, none⟩ k v hne).trans (h.block k hk hne)⟩
def stC (s : Nat × Nat × Nat) : Array Value := #[.int .u64 s.1, .int .u64 s.2.1, .int .u64 s.2.2]
def MixAt (w : World) (g : Nat) (s : Nat × Nat × Nat) (w' : World) : Prop := But g w w' ∧ Blk w' g 224 (stC s)
def st64 (s : Nat × Nat × Nat) : Prop := s.1 < 18446744073709551616 ∧ s.2.1 < 18446744073709551616 ∧ s.2.2 < 18446744073709551616
theorem turnsP_64 {s : Nat × Nat × Nat} (h : st64 s) (k : Nat) : st64 (turnsP k s) := by
 cases k with
 | zero => exact h
 | succ k =>
  obtain ⟨a, b, c⟩ := turnP_lt (k + 1) (turnsP k s)
  have : P61 = 2305843009213693951 := rfl
  exact ⟨by show (turnP _ _).1 < _; omega, by show (turnP _ _).2.1 < _; omega, by show (turnP _ _).2.2 < _; omega⟩
theorem addI_nat (a b : Nat) : addI (a : Int) (b : Int) = ((addP a b : Nat) : Int) := rfl
theorem powI_nat (a : Nat) : powI (a : Int) = ((pow17 a : Nat) : Int) := rfl
theorem turn_cells (s : Nat × Nat × Nat) (k : Nat) {x y z X Y Z T : Int} (hx : x = s.1) (hy : y = s.2.1) (hz : z = s.2.2) (hX : X = powI (addI x ((k : Int) + 1))) (hY : Y = powI (addI y (2 * ((k : Int) + 1)))) (hZ : Z = powI (addI z (3 * ((k : Int) + 1)))) (hT : T = addI X (addI Y Z)) :
  #[Value.int .u64 (addI T X), .int .u64 (addI T Y), .int .u64 (addI T Z)] = stC (turnP (k + 1) s) := by
 subst hx; subst hy; subst hz
 have e1 : (k : Int) + 1 = ((k + 1 : Nat) : Int) := by omega
 have e2 : 2 * ((k : Int) + 1) = ((2 * (k + 1) : Nat) : Int) := by omega
 have e3 : 3 * ((k : Int) + 1) = ((3 * (k + 1) : Nat) : Int) := by omega
 rw [e1, addI_nat, powI_nat] at hX
 rw [e2, addI_nat, powI_nat] at hY
 rw [e3, addI_nat, powI_nat] at hZ
 subst hX; subst hY; subst hZ
 rw [addI_nat, addI_nat] at hT
 subst hT
 rw [addI_nat, addI_nat, addI_nat]
 rfl
theorem mix_adds (X Y Z U T : Int) (x0 : 0 ≤ X) (x1 : X < 2305843009213693951) (y0 : 0 ≤ Y) (y1 : Y < 2305843009213693951) (z0 : 0 ≤ Z) (z1 : Z < 2305843009213693951) (hU : U = addI Y Z) (hT : T = addI X U) :
  (∀ W, Calls Tryz.prog 194 #[.int .u64 Y, .int .u64 Z] W fun e w' => e = .returned (.int .u64 U) ∧ W = w') ∧
  (∀ W, Calls Tryz.prog 194 #[.int .u64 X, .int .u64 U] W fun e w' => e = .returned (.int .u64 T) ∧ W = w') ∧
  (∀ W, Calls Tryz.prog 194 #[.int .u64 T, .int .u64 X] W fun e w' => e = .returned (.int .u64 (addI T X)) ∧ W = w') ∧
  (∀ W, Calls Tryz.prog 194 #[.int .u64 T, .int .u64 Y] W fun e w' => e = .returned (.int .u64 (addI T Y)) ∧ W = w') ∧
  (∀ W, Calls Tryz.prog 194 #[.int .u64 T, .int .u64 Z] W fun e w' => e = .returned (.int .u64 (addI T Z)) ∧ W = w') := by
 have u0 : 0 ≤ U := by rw [hU]; exact addI_lo _ _
 have u1 : U < 2305843009213693951 := by rw [hU]; exact addI_hi _ _
 have t0 : 0 ≤ T := by rw [hT]; exact addI_lo _ _
 have t1 : T < 2305843009213693951 := by rw [hT]; exact addI_hi _ _
 refine ⟨fun W => ?_, fun W => ?_, fun W => ?_, fun W => ?_, fun W => ?_⟩
 ·rw [hU]; exact dig_add _ _ (by omega) (by omega) (by omega) (by omega) W
 ·rw [hT]; exact dig_add _ _ (by omega) (by omega) (by omega) (by omega) W
 all_goals exact dig_add _ _ (by omega) (by omega) (by omega) (by omega) W
theorem dig_mix (g : Nat) (s : Nat × Nat × Nat) (w : World) (hs : st64 s) (hg : Blk w g 224 (stC s)) :
  Calls Tryz.prog 193 #[.pointer (some ⟨g, 0, none⟩)] w fun e w' => e = .returned (.tuple #[]) ∧ MixAt w g (mixP s) w' := by
 go_enter Tryz.func193, Tryz.ntmps193
 go_wp2
 go_loopw [2] (fun i wr => ∃ k : Nat, k ≤ 6 ∧ i = .int .u64 ((k : Int) + 1) ∧ MixAt w g (turnsP k s) wr) (fun i _ => 7 - (intOf i).toNat)
 case atStart => exact ⟨0, by omega, rfl, But.refl _ _, hg⟩
 case round =>
  obtain ⟨k, hk, rfl, hb, hG⟩ := hrel
  obtain ⟨t1, t2, t3⟩ := turnsP_64 hs k
  obtain ⟨x, hx⟩ : ∃ x : Int, x = (turnsP k s).1 := ⟨_, rfl⟩
  obtain ⟨y, hy⟩ : ∃ y : Int, y = (turnsP k s).2.1 := ⟨_, rfl⟩
  obtain ⟨z, hz⟩ : ∃ z : Int, z = (turnsP k s).2.2 := ⟨_, rfl⟩
  have hG2 : Blk wr g 224 #[.int .u64 x, .int .u64 y, .int .u64 z] := by rw [hx, hy, hz]; exact hG
  have c0 : wr.cell? ⟨g, 0, none⟩ = some (.int .u64 x) := hG2.cell 0
  have c1 : wr.cell? ⟨g, 1, none⟩ = some (.int .u64 y) := hG2.cell 1
  have c2 : wr.cell? ⟨g, 2, none⟩ = some (.int .u64 z) := hG2.cell 2
  have z0 := hG2.frozen 0
  have z1 := hG2.frozen 1
  have z2 := hG2.frozen 2
  have x0 : 0 ≤ x ∧ x < 18446744073709551616 := by omega
  have y0 : 0 ≤ y ∧ y < 18446744073709551616 := by omega
  have w0 : 0 ≤ z ∧ z < 18446744073709551616 := by omega
  have HX := Lib.hid hx
  have HY := Lib.hid hy
  have HZ := Lib.hid hz
  clear hx hy hz t1 t2 t3 hG
  by_cases hlt : k < 6
  ·have a1 := addI_lo x ((k : Int) + 1)
   have a2 := addI_hi x ((k : Int) + 1)
   have a3 := addI_lo y (2 * ((k : Int) + 1))
   have a4 := addI_hi y (2 * ((k : Int) + 1))
   have a5 := addI_lo z (3 * ((k : Int) + 1))
   have a6 := addI_hi z (3 * ((k : Int) + 1))
   have v2 : IntKind.u64.wrap (2 * ((k : Int) + 1)) = 2 * ((k : Int) + 1) := wrap_u64_in (by omega) (by omega)
   have v3 : IntKind.u64.wrap (3 * ((k : Int) + 1)) = 3 * ((k : Int) + 1) := wrap_u64_in (by omega) (by omega)
   have K1 : ∀ W, Calls Tryz.prog 194 #[.int .u64 x, .int .u64 ((k : Int) + 1)] W fun e w' => e = .returned (.int .u64 (addI x ((k : Int) + 1))) ∧ ∃ n, w' = W.drewN n := fun W => (dig_add _ _ (by omega) (by omega) (by omega) (by omega) W).mono fun _ _ ⟨he, hw⟩ => ⟨he, 0, hw.symm⟩
   have K2 : ∀ W, Calls Tryz.prog 194 #[.int .u64 y, .int .u64 (2 * ((k : Int) + 1))] W fun e w' => e = .returned (.int .u64 (addI y (2 * ((k : Int) + 1)))) ∧ ∃ n, w' = W.drewN n := fun W => (dig_add _ _ (by omega) (by omega) (by omega) (by omega) W).mono fun _ _ ⟨he, hw⟩ => ⟨he, 0, hw.symm⟩
   have K3 : ∀ W, Calls Tryz.prog 194 #[.int .u64 z, .int .u64 (3 * ((k : Int) + 1))] W fun e w' => e = .returned (.int .u64 (addI z (3 * ((k : Int) + 1)))) ∧ ∃ n, w' = W.drewN n := fun W => (dig_add _ _ (by omega) (by omega) (by omega) (by omega) W).mono fun _ _ ⟨he, hw⟩ => ⟨he, 0, hw.symm⟩
   have P1 : ∀ W, Calls Tryz.prog 210 #[.int .u64 (addI x ((k : Int) + 1))] W fun e w' => e = .returned (.int .u64 (powI (addI x ((k : Int) + 1)))) ∧ ∃ n, w' = W.drewN n := fun W => dig_pow _ (by omega) (by omega) W
   have P2 : ∀ W, Calls Tryz.prog 210 #[.int .u64 (addI y (2 * ((k : Int) + 1)))] W fun e w' => e = .returned (.int .u64 (powI (addI y (2 * ((k : Int) + 1))))) ∧ ∃ n, w' = W.drewN n := fun W => dig_pow _ (by omega) (by omega) W
   have P3 : ∀ W, Calls Tryz.prog 210 #[.int .u64 (addI z (3 * ((k : Int) + 1)))] W fun e w' => e = .returned (.int .u64 (powI (addI z (3 * ((k : Int) + 1))))) ∧ ∃ n, w' = W.drewN n := fun W => dig_pow _ (by omega) (by omega) W
   have HK := Lib.hid (And.intro K1 (And.intro K2 (And.intro K3 (And.intro P1 (And.intro P2 P3)))))
   clear K1 K2 K3 P1 P2 P3 a1 a2 a3 a4 a5 a6 x0 y0 w0
   go_wp2
   go_quiet ((first | (go_at_call 194; first | with_reducible exact Calls.quiet_of (HK.out.1 _) | with_reducible exact Calls.quiet_of (HK.out.2.1 _) | with_reducible exact Calls.quiet_of (HK.out.2.2.1 _)) | (go_at_call 210; first | with_reducible exact Calls.quiet_of (HK.out.2.2.2.1 _) | with_reducible exact Calls.quiet_of (HK.out.2.2.2.2.1 _) | with_reducible exact Calls.quiet_of (HK.out.2.2.2.2.2 _))))
   obtain ⟨X, hX⟩ : ∃ X, X = powI (addI x ((k : Int) + 1)) := ⟨_, rfl⟩
   obtain ⟨Y, hY⟩ : ∃ Y, Y = powI (addI y (2 * ((k : Int) + 1))) := ⟨_, rfl⟩
   obtain ⟨Z, hZ⟩ : ∃ Z, Z = powI (addI z (3 * ((k : Int) + 1))) := ⟨_, rfl⟩
   rw [← hX, ← hY, ← hZ]
   obtain ⟨U, hU⟩ : ∃ U, U = addI Y Z := ⟨_, rfl⟩
   obtain ⟨T, hT⟩ : ∃ T, T = addI X U := ⟨_, rfl⟩
   have HA := Lib.hid (mix_adds X Y Z U T (by rw [hX]; exact powI_lo _) (by rw [hX]; exact powI_hi _) (by rw [hY]; exact powI_lo _) (by rw [hY]; exact powI_hi _) (by rw [hZ]; exact powI_lo _) (by rw [hZ]; exact powI_hi _) hU hT)
   have HC := Lib.hid (turn_cells (turnsP k s) k HX.out HY.out HZ.out hX hY hZ (T := T) (by rw [← hU]; exact hT))
   clear hX hY hZ hU hT v2 v3 HK
   go_wp2_with (go_at_call 194; first | ((with_reducible refine (HA.out.1 _).mono ?_); rintro e w' ⟨rfl, rfl⟩) | ((with_reducible refine (HA.out.2.1 _).mono ?_); rintro e w' ⟨rfl, rfl⟩) | ((with_reducible refine (HA.out.2.2.1 _).mono ?_); rintro e w' ⟨rfl, rfl⟩) | ((with_reducible refine (HA.out.2.2.2.1 _).mono ?_); rintro e w' ⟨rfl, rfl⟩) | ((with_reducible refine (HA.out.2.2.2.2 _).mono ?_); rintro e w' ⟨rfl, rfl⟩))
   go_roundw
   case rel => exact ⟨k + 1, by omega, by go_num, (((hb.drewN _).put 0 _).put 1 _).put 2 _, by
    have h := (((hG2.drewN nq).put 0 (.int .u64 (addI T X))).put 1 (.int .u64 (addI T Y))).put 2 (.int .u64 (addI T Z))
    rw [show turnsP (k + 1) s = turnP (k + 1) (turnsP k s) from rfl, ← HC.out]
    exact h⟩
   case measure => simp [intOf]; omega
  ·obtain rfl : k = 6 := by omega
   go_wp2
   exact bodyPost_end (v := .tuple #[]) (by simp [results, Tryz.results193, go_sem]) rfl ⟨rfl, hb, by
    have h := hG2
    rw [HX.out, HY.out, HZ.out] at h
    exact h⟩
def nats (xs : List Int) : List Nat := xs.map Int.toNat
theorem nats_length (xs : List Int) : (nats xs).length = xs.length := List.length_map _
theorem nats_at (xs : List Int) (k : Nat) : (nats xs)[k]?.getD 0 = (at0 xs k).toNat := by
 unfold nats at0
 rw [List.getElem?_map]
 cases xs[k]? <;> rfl
def ofI (kind : Int) (xs : List Int) : Int := ((ofP kind.toNat (nats xs) : Nat) : Int)
theorem ofI_lo (kind : Int) (xs : List Int) : 0 ≤ ofI kind xs := Int.natCast_nonneg _
theorem ofI_hi (kind : Int) (xs : List Int) : ofI kind xs < 2305843009213693951 := by
 have h := ofP_lt kind.toNat (nats xs)
 have : P61 = 2305843009213693951 := rfl
 unfold ofI
 omega
def U64 (xs : List Int) : Prop := ∀ k, 0 ≤ at0 xs k ∧ at0 xs k < 18446744073709551616
theorem U64.nil : U64 [] := fun k => ⟨Int.le_refl _, by show (0 : Int) < _; omega⟩
theorem U64.cons {a : Int} {xs : List Int} (h0 : 0 ≤ a) (h1 : a < 18446744073709551616) (h : U64 xs) : U64 (a :: xs) := fun k => by
 cases k with
 | zero => exact ⟨h0, h1⟩
 | succ k => exact h k
def st0 (kind : Int) (xs : List Int) : Nat × Nat × Nat := (kind.toNat % P61, (nats xs).length, 1)
def stK (kind : Int) (xs : List Int) (k : Nat) : Nat × Nat × Nat := ofN (st0 kind xs) (nats xs) k
theorem stK_succ (kind : Int) (xs : List Int) (k : Nat) : stK kind xs (k + 1) = mixP (addP (stK kind xs k).1 (at0 xs k).toNat, (stK kind xs k).2) := by
 show mixP (addP (ofN _ _ k).1 ((nats xs)[k]?.getD 0), (ofN _ _ k).2) = _
 rw [nats_at]; rfl
theorem stK_end (kind : Int) (xs : List Int) : ((stK kind xs xs.length).2.1 : Int) = ofI kind xs := by
 unfold stK ofI ofP st0
 rw [nats_length]
theorem st64_lt {s : Nat × Nat × Nat} (h : s.1 < P61 ∧ s.2.1 < P61 ∧ s.2.2 < P61) : st64 s := by
 have : P61 = 2305843009213693951 := rfl
 exact ⟨by omega, by omega, by omega⟩
theorem stK_lt (kind : Int) (xs : List Int) (k : Nat) : (stK kind xs k).1 < P61 ∧ (stK kind xs k).2.1 < P61 ∧ (stK kind xs k).2.2 < P61 := ofN_lt _ _ _
theorem dig_of (kind : Int) (A : Option Addr) (n c : Nat) (xs : List Int) (w : World) (h0 : 0 ≤ kind) (h1 : kind < 18446744073709551616) (hx : Ints .u64 w A n xs) (hu : U64 xs) (hn : n ≤ 9223372036854775807) :
  Calls Tryz.prog 165 #[.int .u64 kind, .slice A n c] w fun e w' => e = .returned (.int .u64 (ofI kind xs)) ∧ Below w.heap.size w w' := by
 have hcv : IntKind.u64.wrap (n : Int) = (n : Int) := wrap_u64_in (by omega) (by omega)
 have HE := Lib.hid (show ((stK kind xs n).2.1 : Int) = ofI kind xs by rw [← hx.len]; exact stK_end kind xs)
 have hs0 : st64 (st0 kind xs) := ⟨by
  show kind.toNat % P61 < _
  have := Nat.mod_lt kind.toNat P61_pos
  have : P61 = 2305843009213693951 := rfl
  omega, by
  show (nats xs).length < _
  rw [nats_length, hx.len]; omega, by show 1 < _; omega⟩
 have hB0 : Blk (w.alloc (.cells #[.int .u64 (nI kind), .int .u64 n, .int .u64 1] 224)) w.heap.size 224 (stC (st0 kind xs)) := by
  have h := Blk.made w 224 #[.int .u64 (nI kind), .int .u64 n, .int .u64 1]
  have e : stC (st0 kind xs) = #[.int .u64 (nI kind), .int .u64 n, .int .u64 1] := by
   unfold stC st0 nI
   rw [nats_length, hx.len]
   rfl
  rw [e]
  exact h
 go_enter Tryz.func165, Tryz.ntmps165
 go_wp2_with (first | (go_at_call 192; refine (dig_norm _ h0 h1 _).mono ?_; rintro e w' ⟨rfl, rfl⟩))
 refine (dig_mix w.heap.size (st0 kind xs) _ hs0 (by exact hB0)).mono ?_
 rintro e w1 ⟨rfl, hb1, hG1⟩
 have hbw : Below w.heap.size w w1 := Below.trans (B := w.heap.size) (by repeat (first | exact Below.refl _ _ | assumption | refine bel_drewN ?_ _ | refine Below.drew ?_ | (refine Below.alloc ?_ (by simp <;> omega) _) | (refine Below.setCell ?_ (by simp <;> omega) _))) (hb1.below (Nat.le_refl _) (by simp))
 clear hb1 hB0
 go_wp2
 go_loopw [7, 19] (fun _ i wr => ∃ k : Nat, k ≤ n ∧ i = .int .i64 k ∧ Below w.heap.size w wr ∧ Blk wr w.heap.size 224 (stC (stK kind xs k))) (fun _ i _ => n - (intOf i).toNat)
 case atStart => exact ⟨0, by omega, rfl, hbw, hG1⟩
 case round =>
  clear hbw hG1
  obtain ⟨k, hk, rfl, hb, hG⟩ := hrel
  by_cases hlt : k < n
  ·obtain ⟨b, off, rfl, hbl, hc⟩ := hx.cells (by omega)
   have g1 := (hb.cell (p := ⟨b, off + k, none⟩) hbl).trans (hc k hlt)
   obtain ⟨l1, l2, l3⟩ := stK_lt kind xs k
   obtain ⟨u1, u2⟩ := hu k
   have l1' := l1
   have l2' := l2
   have l3' := l3
   have hP : P61 = 2305843009213693951 := rfl
   rw [hP] at l1' l2' l3'
   clear hP
   have F := Lib.hid (stK_succ kind xs k)
   have L := Lib.hid (And.intro l1 (And.intro l2 l3))
   obtain ⟨s, hs⟩ : ∃ s, s = stK kind xs k := ⟨_, rfl⟩
   rw [← hs] at hG F l1' l2' l3' L
   clear hs l1 l2 l3 hc
   obtain ⟨v, hv⟩ : ∃ v, v = at0 xs k := ⟨_, rfl⟩
   rw [← hv] at g1 u1 u2 F
   clear hv
   have c0 : wr.cell? ⟨w.heap.size, 0, none⟩ = some (.int .u64 s.1) := hG.cell 0
   have z0 := hG.frozen 0
   have HA := Lib.hid (dig_add s.1 v (by omega) (by omega) u1 u2)
   clear l1' l2' l3'
   go_wp2_with (go_at_call 194; refine (HA.out _).mono ?_; rintro e w' ⟨rfl, rfl⟩)
   have hG2 : Blk (wr.setCell ⟨w.heap.size, 0, none⟩ (.int .u64 (addI s.1 v))) w.heap.size 224 (stC (addP s.1 v.toNat, s.2)) := hG.put 0 (.int .u64 (addI s.1 v))
   have hs2 : st64 (addP s.1 v.toNat, s.2) := st64_lt ⟨addP_lt _ _, L.out.2.1, L.out.2.2⟩
   refine (dig_mix w.heap.size _ _ hs2 (by exact hG2)).mono ?_
   rintro e w2 ⟨rfl, hb2, hG3⟩
   have hb3 : Below w.heap.size w w2 := (hb.setCell (p := ⟨w.heap.size, 0, none⟩) (Nat.le_refl _) _).trans (hb2.below (Nat.le_refl _) (by have := hb.size; simp [World.setCell]; exact this))
   clear hG2 hb2 c0 z0 hG g1
   go_wp2
   go_roundw
   case rel => exact ⟨k + 1, by omega, by go_num, hb3, by rw [F.out]; exact hG3⟩
   case measure => simp [intOf]; omega
  ·obtain rfl : n = k := by omega
   have c1 : wr.cell? ⟨w.heap.size, 1, none⟩ = some (.int .u64 (stK kind xs n).2.1) := hG.cell 1
   go_wp2
   go_ret
   exact ⟨ret_int HE.out, hb⟩
def ofE (xs : List Int) : Int := if 200 < xs.length then 2 else 0
def ofO (kind : Int) (xs : List Int) : Int := if 200 < xs.length then 0 else ofI kind xs
theorem dig_Of (kind : Int) (A : Option Addr) (n c : Nat) (xs : List Int) (w : World) (h0 : 0 ≤ kind) (h1 : kind < 18446744073709551616) (hx : Ints .u64 w A n xs) (hu : U64 xs) :
  Calls Tryz.prog 114 #[.int .u64 kind, .slice A n c] w fun e w' => e = .returned (.tuple #[.int .u64 (ofO kind xs), .int .i64 (ofE xs)]) ∧ Below w.heap.size w w' := by
 unfold ofO ofE
 rw [hx.len]
 by_cases h : 200 < n
 ·rw [if_pos h, if_pos h]
  go_enter Tryz.func114, Tryz.ntmps114
  go_wp2
  go_ret2
  exact ⟨rfl, Below.refl _ _⟩
 ·rw [if_neg h, if_neg h]
  go_enter Tryz.func114, Tryz.ntmps114
  go_wp2_with (go_at_call 165; refine (dig_of kind A n c xs _ h0 h1 hx hu (by omega)).mono ?_; rintro e w1 ⟨rfl, hb⟩)
  go_ret2
  exact ⟨rfl, hb⟩
theorem Ints.made_u64 (w : World) (xs : List Int) (n : Nat) (hn : xs.length = n) (cs : Array Value) (hc : cs = (xs.map (Value.int .u64)).toArray) {g : Nat} (hg : w.heap.size = g) (t : TypeId) : Ints .u64 (w.alloc (.cells cs t)) (some ⟨g, 0, none⟩) n xs := by
 subst hc; subst hg
 refine ⟨hn, fun _ => ⟨w.heap.size, 0, rfl, by simp, fun j hj => ?_⟩⟩
 rw [(Blk.made w t _).cell (0 + j), Nat.zero_add, List.getElem?_toArray, List.getElem?_map, List.getElem?_eq_getElem (by omega), Option.map_some, at0_getElem _ _ (by omega)]
def pairI (a b : Int) : Int := ofI 3 [a, b]
def wordI (a b : Int) : Int := ofI 2 [a, b]
theorem dig_Pair (a b : Int) (w : World) (h0 : 0 ≤ a) (h1 : a < 18446744073709551616) (h2 : 0 ≤ b) (h3 : b < 18446744073709551616) :
  Calls Tryz.prog 162 #[.int .u64 a, .int .u64 b] w fun e w' => e = .returned (.int .u64 (pairI a b)) ∧ Below w.heap.size w w' := by
 have hI := Ints.made_u64 w [a, b] 2 rfl #[.int .u64 a, .int .u64 b] rfl rfl 27
 have H := Lib.hid (dig_of 3 _ 2 2 [a, b] _ (by omega) (by omega) hI (.cons h0 h1 (.cons h2 h3 .nil)) (by omega))
 clear h0 h1 h2 h3
 go_enter Tryz.func162, Tryz.ntmps162
 go_wp2_with (go_at_call 165; refine H.out.mono ?_; rintro e w1 ⟨rfl, hb⟩)
 go_ret
 exact ⟨rfl, Below.trans (B := w.heap.size) (by repeat (first | exact Below.refl _ _ | assumption | refine bel_drewN ?_ _ | refine Below.drew ?_ | (refine Below.alloc ?_ (by simp <;> omega) _) | (refine Below.setCell ?_ (by simp <;> omega) _))) (hb.mono (by simp))⟩
theorem dig_Word (a b : Int) (w : World) (h0 : 0 ≤ a) (h1 : a < 18446744073709551616) (h2 : 0 ≤ b) (h3 : b < 18446744073709551616) :
  Calls Tryz.prog 115 #[.int .u64 a, .int .u64 b] w fun e w' => e = .returned (.int .u64 (wordI a b)) ∧ Below w.heap.size w w' := by
 have hI := Ints.made_u64 w [a, b] 2 rfl #[.int .u64 a, .int .u64 b] rfl rfl 27
 have H := Lib.hid (dig_of 2 _ 2 2 [a, b] _ (by omega) (by omega) hI (.cons h0 h1 (.cons h2 h3 .nil)) (by omega))
 clear h0 h1 h2 h3
 go_enter Tryz.func115, Tryz.ntmps115
 go_wp2_with (go_at_call 165; refine H.out.mono ?_; rintro e w1 ⟨rfl, hb⟩)
 go_ret
 exact ⟨rfl, Below.trans (B := w.heap.size) (by repeat (first | exact Below.refl _ _ | assumption | refine bel_drewN ?_ _ | refine Below.drew ?_ | (refine Below.alloc ?_ (by simp <;> omega) _) | (refine Below.setCell ?_ (by simp <;> omega) _))) (hb.mono (by simp))⟩
end Go.Proofs.YtgodgedhddngeaaGreatDoor
