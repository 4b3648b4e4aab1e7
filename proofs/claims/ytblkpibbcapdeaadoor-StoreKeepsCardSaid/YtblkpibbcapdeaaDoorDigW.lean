/- What the calls of package digest compute: walks, each function once. -/
import Derived.Test.YtblkpibbcapdeaaDoorFixW
import Derived.Test.YtblkpibbcapdeaaDoorMem
import Derived.Test.YtblkpibbcapdeaaDoorPl
import Derived.Lib.Mul64
import Derived.Laws.Bits64b
import Derived.Shelf.Bits.Mul64
import Derived.OwnWalk
import Derived.LoopTactic
import Derived.Outline
import Derived.Test.YtblkpibbcapdeaaDoorPupShape
import Derived.IntWalk
namespace Go.Proofs.YtblkpibbcapdeaaDoor
open Go.RowKit Pl

/-- Numbers by the prime, over Int. -/
def nI (a : Int) : Int := ((a.toNat % P61 : Nat) : Int)
def addI (a b : Int) : Int := ((addP a.toNat b.toNat : Nat) : Int)
def mulI (a b : Int) : Int := ((mulP a.toNat b.toNat : Nat) : Int)
def powI (a : Int) : Int := ((pow17 a.toNat : Nat) : Int)
theorem nI_lo (a : Int) : 0 ≤ nI a := Int.natCast_nonneg _
theorem nI_hi (a : Int) : nI a < 2305843009213693951 := by have h : a.toNat % P61 < P61 := Nat.mod_lt _ P61_pos; have : P61 = 2305843009213693951 := rfl; unfold nI; omega
theorem addI_lo (a b : Int) : 0 ≤ addI a b := Int.natCast_nonneg _
theorem addI_hi (a b : Int) : addI a b < 2305843009213693951 := by have h := addP_lt a.toNat b.toNat; have : P61 = 2305843009213693951 := rfl; unfold addI; omega
theorem mulI_lo (a b : Int) : 0 ≤ mulI a b := Int.natCast_nonneg _
theorem mulI_hi (a b : Int) : mulI a b < 2305843009213693951 := by have h := mulP_lt a.toNat b.toNat; have : P61 = 2305843009213693951 := rfl; unfold mulI; omega
theorem powI_lo (a : Int) : 0 ≤ powI a := Int.natCast_nonneg _
theorem powI_hi (a : Int) : powI a < 2305843009213693951 := by have h := pow17_lt a.toNat; have : P61 = 2305843009213693951 := rfl; unfold powI; omega
theorem nI_nI (a b : Int) : nI (nI a + nI b) = addI a b := by
  unfold nI addI addP
  rw [show (((a.toNat % P61 : Nat) : Int) + ((b.toNat % P61 : Nat) : Int)).toNat = a.toNat % P61 + b.toNat % P61 by omega]

end Go.Proofs.YtblkpibbcapdeaaDoor

/- math/bits: Len64, LeadingZeros64, Div64 and Rem64 by the prime 2^61 - 1: walks. -/
namespace Go.Proofs.YtblkpibbcapdeaaDoor
open Go.RowKit Pl

set_option maxRecDepth 100000 in
set_option maxHeartbeats 1000000 in
theorem bits_Len64 (w : World) : Calls Tryd.prog 61 #[.int .u64 2305843009213693951] w fun e w' => e = .returned (.int .i64 61) ∧ w = w' := by
  go_enter Tryd.func61, Tryd.ntmps61
  go_wp2
  go_ret
  exact ⟨ret_int (by decide +kernel), rfl⟩
/-- A quotient, whichever, and the rest. -/
def DivRes (w : World) (x : Int) (e : Ending) (w' : World) : Prop := ∃ q, e = .returned (.tuple #[.int .u64 q, .int .u64 x]) ∧ Quiet w w'

theorem or_u64_8 (a b : Int) (h0 : 0 ≤ a) (h1 : a < 288230376151711744) (h2 : 0 ≤ b) (h3 : b < 8) : bits .or .u64 (a * 8) b = a * 8 + b := by
  obtain ⟨a', rfl⟩ := Int.eq_ofNat_of_zero_le h0
  obtain ⟨b', rfl⟩ := Int.eq_ofNat_of_zero_le h2
  have h := bits_or_u64_nat (a' * 8) b' (by omega) (by omega)
  have e : a' * 8 ||| b' = a' * 8 + b' := by
    have := Nat.two_pow_add_eq_or_of_lt (i := 3) (b := b') (by omega) a'
    rw [show (2 : Nat) ^ 3 = 8 from rfl, Nat.mul_comm 8 a'] at this
    exact this.symm
  rw [e] at h
  rw [show ((a' : Int) * 8) = ((a' * 8 : Nat) : Int) by omega, h]
  omega
theorem and_u64_32 (a : Int) (h0 : 0 ≤ a) (h1 : a < 18446744073709551616) : bits .and .u64 a 4294967295 = a % 4294967296 := by
  obtain ⟨a', rfl⟩ := Int.eq_ofNat_of_zero_le h0
  have h := Mul64.maskN a' (by omega)
  rw [h]
  omega
theorem wrap_u64_in {a : Int} (h0 : 0 ≤ a) (h1 : a < 18446744073709551616) : IntKind.u64.wrap a = a := by rw [IntKind.wrap_u64]; omega
theorem un21_eq {u n1 Q : Int} (h0 : 0 ≤ u * 4294967296 + n1 - Q * 18446744073709551608) (h1 : u * 4294967296 + n1 - Q * 18446744073709551608 < 18446744073709551608) :
    IntKind.u64.wrap (IntKind.u64.wrap (IntKind.u64.wrap (u * 4294967296) + n1) - IntKind.u64.wrap (Q * 18446744073709551608)) = u * 4294967296 + n1 - Q * 18446744073709551608 := by
  simp only [IntKind.wrap_u64]
  omega
theorem rest_int (hi lo : Int) (h0 : 0 ≤ hi) (h1 : 0 ≤ lo) {u n1 n0 L Q R S : Int} (hL : L = lo * 8 % 18446744073709551616) (hu : u = hi * 8 + lo / 2305843009213693952) (hn1 : n1 = L / 4294967296) (hn0 : n0 = L % 4294967296)
    (hQ : Q = (u * 4294967296 + n1) / 18446744073709551608) (hR : R = u * 4294967296 + n1 - Q * 18446744073709551608) (hS : S = (R * 4294967296 + n0) / 18446744073709551608) :
    (R * 4294967296 + n0 - S * 18446744073709551608) / 8 = (hi * 18446744073709551616 + lo) % 2305843009213693951 := by
  obtain ⟨hi', rfl⟩ := Int.eq_ofNat_of_zero_le h0
  obtain ⟨lo', rfl⟩ := Int.eq_ofNat_of_zero_le h1
  have h := rest_eq hi' lo'
  have e1 : R = (u * 4294967296 + n1) % 18446744073709551608 := by omega
  have e2 : (R * 4294967296 + n0 - S * 18446744073709551608) = (R * 4294967296 + n0) % 18446744073709551608 := by omega
  rw [e2, e1, hn1, hn0, hu, hL]
  omega

theorem ret_two {k : IntKind} {v : Value} {a b : Int} (h : a = b) : Ending.returned (.tuple #[v, .int k a]) = .returned (.tuple #[v, .int k b]) := by rw [h]
/-- Slots of the first loop: the digit so far, and its rest. -/
def DivRel (u Q : Int) (a b : Value) : Prop := ∃ q r : Int, a = .int .u64 q ∧ b = .int .u64 r ∧ q * 4294967295 + r = u ∧ 0 ≤ r ∧ r < 4294967296 ∧ Q ≤ q ∧ 0 ≤ q ∧ q ≤ 4294967297

end Go.Proofs.YtblkpibbcapdeaaDoor

/- What digest.mul, power17 and mix compute: walks, each function once. -/
namespace Go.Proofs.YtblkpibbcapdeaaDoor
open Go.RowKit Pl

theorem mulI_eq (a b : Int) : nI a * nI b % 2305843009213693951 = mulI a b := by
  unfold nI mulI mulP
  have h : ((a.toNat % P61 : Nat) : Int) * ((b.toNat % P61 : Nat) : Int) = (((a.toNat % P61) * (b.toNat % P61) : Nat) : Int) := (Int.natCast_mul _ _).symm
  rw [h]
  generalize (a.toNat % P61) * (b.toNat % P61) = n
  unfold P61
  omega

/-- Squared, k times. -/
def sqI (a : Int) : Nat → Int
  | 0 => a
  | k + 1 => mulI (sqI a k) (sqI a k)
theorem sqI_pow (a : Int) : mulI (sqI a 4) a = powI a := rfl
theorem sqI_bd (a : Int) (h0 : 0 ≤ a) (h1 : a < 18446744073709551616) (k : Nat) : 0 ≤ sqI a k ∧ sqI a k < 18446744073709551616 := by
  cases k with
  | zero => exact ⟨h0, h1⟩
  | succ k => exact ⟨mulI_lo _ _, by have := mulI_hi (sqI a k) (sqI a k); show mulI _ _ < _; omega⟩

theorem But.refl (g : Nat) (w : World) : But g w w := ⟨rfl, rfl, rfl, Nat.le_refl _, fun _ _ _ => rfl⟩
theorem But.trans {g : Nat} {a b c : World} (h : But g a b) (h' : But g b c) : But g a c :=
  ⟨h'.os.trans h.os, h'.tape.trans h.tape, h'.output.trans h.output, Nat.le_trans h.size h'.size, fun k hk hne => (h'.block k (Nat.lt_of_lt_of_le hk h.size) hne).trans (h.block k hk hne)⟩
theorem But.drewN {g : Nat} {a b : World} (h : But g a b) (n : Nat) : But g a (b.drewN n) := ⟨h.os, h.tape, h.output, h.size, h.block⟩
theorem But.put {g : Nat} {a b : World} (h : But g a b) (i : Nat) (v : Value) : But g a (b.setCell ⟨g, i, none⟩ v) :=
  ⟨h.os, h.tape, h.output, by simpa [World.setCell] using h.size, fun k hk hne => (heap_setCell_other b ⟨g, i, none⟩ k v hne).trans (h.block k hk hne)⟩
theorem But.quiet {g : Nat} {a b c : World} (h : But g a b) (hq : Quiet b c) : But g a c := by obtain ⟨k, rfl⟩ := hq; exact h.drewN k

/-- A state's three cells. -/
def stC (s : Nat × Nat × Nat) : Array Value := #[.int .u64 s.1, .int .u64 s.2.1, .int .u64 s.2.2]
def st64 (s : Nat × Nat × Nat) : Prop := s.1 < 18446744073709551616 ∧ s.2.1 < 18446744073709551616 ∧ s.2.2 < 18446744073709551616
theorem turnsP_64 {s : Nat × Nat × Nat} (h : st64 s) (k : Nat) : st64 (turnsP k s) := by
  cases k with
  | zero => exact h
  | succ k =>
    obtain ⟨a, b, c⟩ := turnP_lt (k + 1) (turnsP k s)
    have : P61 = 2305843009213693951 := rfl
    exact ⟨by show (turnP _ _).1 < _; omega, by show (turnP _ _).2.1 < _; omega, by show (turnP _ _).2.2 < _; omega⟩
theorem addI_nat (a b : Nat) : addI (a : Int) (b : Int) = ((addP a b : Nat) : Int) := rfl
theorem powI_nat (a : Nat) : powI (a : Int) = ((pow17 a : Nat) : Int) := rfl
theorem turn_cells (s : Nat × Nat × Nat) (k : Nat) {x y z X Y Z T : Int} (hx : x = s.1) (hy : y = s.2.1) (hz : z = s.2.2) (hX : X = powI (addI x ((k : Int) + 1))) (hY : Y = powI (addI y (2 * ((k : Int) + 1)))) (hZ : Z = powI (addI z (3 * ((k : Int) + 1)))) (hT : T = addI X (addI Y Z)) :
    #[Value.int .u64 (addI T X), .int .u64 (addI T Y), .int .u64 (addI T Z)] = stC (turnP (k + 1) s) := by
  subst hx; subst hy; subst hz
  have e1 : (k : Int) + 1 = ((k + 1 : Nat) : Int) := by omega
  have e2 : 2 * ((k : Int) + 1) = ((2 * (k + 1) : Nat) : Int) := by omega
  have e3 : 3 * ((k : Int) + 1) = ((3 * (k + 1) : Nat) : Int) := by omega
  rw [e1, addI_nat, powI_nat] at hX
  rw [e2, addI_nat, powI_nat] at hY
  rw [e3, addI_nat, powI_nat] at hZ
  subst hX; subst hY; subst hZ
  rw [addI_nat, addI_nat] at hT
  subst hT
  rw [addI_nat, addI_nat, addI_nat]
  rfl

end Go.Proofs.YtblkpibbcapdeaaDoor

/- What digest.of, Of, Numbers, Pair and Word compute: walks, each function once. -/
namespace Go.Proofs.YtblkpibbcapdeaaDoor
open Go.RowKit Pl

def nats (xs : List Int) : List Nat := xs.map Int.toNat
theorem nats_length (xs : List Int) : (nats xs).length = xs.length := List.length_map _
theorem nats_at (xs : List Int) (k : Nat) : (nats xs)[k]?.getD 0 = (at0 xs k).toNat := by
  unfold nats at0
  rw [List.getElem?_map]
  cases xs[k]? <;> rfl
/-- A list's digest. -/
def ofI (kind : Int) (xs : List Int) : Int := ((ofP kind.toNat (nats xs) : Nat) : Int)
theorem ofI_lo (kind : Int) (xs : List Int) : 0 ≤ ofI kind xs := Int.natCast_nonneg _
theorem ofI_hi (kind : Int) (xs : List Int) : ofI kind xs < 2305843009213693951 := by
  have h := ofP_lt kind.toNat (nats xs)
  have : P61 = 2305843009213693951 := rfl
  unfold ofI
  omega
/-- All numbers of 64 bits without a sign. -/
def U64 (xs : List Int) : Prop := ∀ k, 0 ≤ at0 xs k ∧ at0 xs k < 18446744073709551616
theorem U64.of_wf {xs : List Int} (h : ∀ z ∈ xs, (Lit.int .u64 z).wf = true) : U64 xs := fun k => by
  unfold at0
  cases hk : xs[k]? with
  | none => exact ⟨Int.le_refl _, by show (0 : Int) < _; omega⟩
  | some z =>
    have hw := h z (List.mem_of_getElem? hk)
    simp [Lit.wf, IntKind.min, IntKind.max, IntKind.signed, IntKind.bits] at hw
    simp only [Option.getD_some]
    omega
theorem U64.nil : U64 [] := fun k => ⟨Int.le_refl _, by show (0 : Int) < _; omega⟩
theorem U64.cons {a : Int} {xs : List Int} (h0 : 0 ≤ a) (h1 : a < 18446744073709551616) (h : U64 xs) : U64 (a :: xs) := fun k => by
  cases k with
  | zero => exact ⟨h0, h1⟩
  | succ k => exact h k

/-- The state's start; the state behind k numbers. -/
def st0 (kind : Int) (xs : List Int) : Nat × Nat × Nat := (kind.toNat % P61, (nats xs).length, 1)
def stK (kind : Int) (xs : List Int) (k : Nat) : Nat × Nat × Nat := ofN (st0 kind xs) (nats xs) k
theorem stK_succ (kind : Int) (xs : List Int) (k : Nat) : stK kind xs (k + 1) = mixP (addP (stK kind xs k).1 (at0 xs k).toNat, (stK kind xs k).2) := by
  show mixP (addP (ofN _ _ k).1 ((nats xs)[k]?.getD 0), (ofN _ _ k).2) = _
  rw [nats_at]; rfl
theorem stK_end (kind : Int) (xs : List Int) : ((stK kind xs xs.length).2.1 : Int) = ofI kind xs := by
  unfold stK ofI ofP st0
  rw [nats_length]
theorem st64_lt {s : Nat × Nat × Nat} (h : s.1 < P61 ∧ s.2.1 < P61 ∧ s.2.2 < P61) : st64 s := by
  have : P61 = 2305843009213693951 := rfl
  exact ⟨by omega, by omega, by omega⟩
theorem stK_lt (kind : Int) (xs : List Int) (k : Nat) : (stK kind xs k).1 < P61 ∧ (stK kind xs k).2.1 < P61 ∧ (stK kind xs k).2.2 < P61 := ofN_lt _ _ _

/-- What Of answers: its error; its number. -/
def ofE (xs : List Int) : Int := if 200 < xs.length then 2 else 0
def ofO (kind : Int) (xs : List Int) : Int := if 200 < xs.length then 0 else ofI kind xs
theorem Ints.made_u64 (w : World) (xs : List Int) (n : Nat) (hn : xs.length = n) (cs : Array Value) (hc : cs = (xs.map (Value.int .u64)).toArray) {g : Nat} (hg : w.heap.size = g) (t : TypeId) : Ints .u64 (w.alloc (.cells cs t)) (some ⟨g, 0, none⟩) n xs := by
  subst hc; subst hg
  refine ⟨hn, fun _ => ⟨w.heap.size, 0, rfl, by simp, fun j hj => ?_⟩⟩
  rw [(Blk.made w t _).cell (0 + j), Nat.zero_add, List.getElem?_toArray, List.getElem?_map, List.getElem?_eq_getElem (by omega), Option.map_some, at0_getElem _ _ (by omega)]

def pairI (a b : Int) : Int := ofI 3 [a, b]
def wordI (a b : Int) : Int := ofI 2 [a, b]
end Go.Proofs.YtblkpibbcapdeaaDoor
