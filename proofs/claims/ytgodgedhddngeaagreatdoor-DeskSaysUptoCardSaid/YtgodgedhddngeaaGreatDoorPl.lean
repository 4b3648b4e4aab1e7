/- Plain laws about numbers with a fixed point: clamp, sums, differences, rounded products and quotients. No program in sight. -/
import Derived.Laws.BitsAllLaws
import Derived.Laws.BitsLemmas
namespace Go.Proofs.YtgodgedhddngeaaGreatDoor.Pl
def clamp (n : Int) : Int := if n < -2147483647 then -2147483647 else if n > 2147483647 then 2147483647 else n
theorem clamp_lo (n : Int) : -2147483647 ≤ clamp n := by unfold clamp; split <;> (try split) <;> omega
theorem clamp_hi (n : Int) : clamp n ≤ 2147483647 := by unfold clamp; split <;> (try split) <;> omega
theorem clamp_id {n : Int} (h : -2147483647 ≤ n) (h' : n ≤ 2147483647) : clamp n = n := by unfold clamp; rw [if_neg (by omega), if_neg (by omega)]
theorem clamp_clamp (n : Int) : clamp (clamp n) = clamp n := clamp_id (clamp_lo n) (clamp_hi n)
theorem clamp_neg (n : Int) : clamp (-n) = -clamp n := by unfold clamp; split <;> split <;> (try split) <;> (try split) <;> omega
theorem clamp_mono {m n : Int} (h : m ≤ n) : clamp m ≤ clamp n := by unfold clamp; split <;> split <;> (try split) <;> (try split) <;> omega
def rnd (n d : Int) : Int := if d < 2 * (n % d) ∨ (2 * (n % d) = d ∧ n / d % 2 = 1) then n / d + 1 else n / d
def IsRnd (n d q : Int) : Prop := 2 * (n - q * d) ≤ d ∧ -d ≤ 2 * (n - q * d) ∧ ((2 * (n - q * d) = d ∨ 2 * (n - q * d) = -d) → q % 2 = 0)
theorem rnd_is (n d : Int) (hd : 0 < d) : IsRnd n d (rnd n d) := by
 have h0 := Int.emod_nonneg n (show d ≠ 0 by omega)
 have h1 := Int.emod_lt_of_pos n hd
 have h2 : n = d * (n / d) + n % d := (Int.mul_ediv_add_emod n d).symm
 unfold rnd IsRnd
 generalize hq : n / d = q at *
 generalize hr : n % d = r at *
 have e1 : n - q * d = r := by rw [h2, Int.mul_comm d q]; omega
 have e2 : n - (q + 1) * d = r - d := by rw [Int.add_mul, Int.one_mul]; omega
 split
 ·rename_i h
  rw [e2]
  refine ⟨by omega, by omega, ?_⟩
  intro h3
  rcases h with h | h <;> omega
 ·rename_i h
  rw [e1]
  refine ⟨by omega, by omega, ?_⟩
  intro h3
  omega
theorem IsRnd.le {n m d p q : Int} (hd : 0 < d) (h : n ≤ m) (hp : IsRnd n d p) (hq : IsRnd m d q) : p ≤ q := by
 obtain ⟨a1, a2, a3⟩ := hp
 obtain ⟨b1, b2, b3⟩ := hq
 rcases Int.lt_or_le q p with hlt | hle
 ·exfalso
  have h1 : (q + 1) * d ≤ p * d := Int.mul_le_mul_of_nonneg_right (by omega) (by omega)
  rw [Int.add_mul, Int.one_mul] at h1
  have e1 : 2 * (n - p * d) = -d := by omega
  have e2 : 2 * (m - q * d) = d := by omega
  have e3 : p * d = (q + 1) * d := by rw [Int.add_mul, Int.one_mul]; omega
  have e4 : p = q + 1 := Int.eq_of_mul_eq_mul_right (by omega) e3
  have c1 := a3 (.inr e1)
  have c2 := b3 (.inl e2)
  omega
 ·exact hle
theorem IsRnd.uniq {n d p q : Int} (hd : 0 < d) (hp : IsRnd n d p) (hq : IsRnd n d q) : p = q :=
 Int.le_antisymm (hp.le hd (Int.le_refl _) hq) (hq.le hd (Int.le_refl _) hp)
theorem IsRnd.neg {n d q : Int} (h : IsRnd n d q) : IsRnd (-n) d (-q) := by
 obtain ⟨a, b, c⟩ := h
 have e : -n - -q * d = -(n - q * d) := by rw [Int.neg_mul]; omega
 unfold IsRnd
 rw [e]
 refine ⟨by omega, by omega, ?_⟩
 intro h3
 have := c (by omega)
 omega
theorem rnd_neg (n d : Int) (hd : 0 < d) : rnd (-n) d = -rnd n d := (rnd_is _ _ hd).uniq hd (rnd_is _ _ hd).neg
theorem rnd_mono {m n d : Int} (hd : 0 < d) (h : m ≤ n) : rnd m d ≤ rnd n d := (rnd_is _ _ hd).le hd h (rnd_is _ _ hd)
theorem rnd_mul (n d : Int) (hd : 0 < d) : rnd (n * d) d = n := (rnd_is _ _ hd).uniq hd ⟨by omega, by omega, fun h => by omega⟩
theorem rnd_zero (d : Int) (hd : 0 < d) : rnd 0 d = 0 := by have h := rnd_mul 0 d hd; rwa [Int.zero_mul] at h
def near0 (n d : Int) : Int := if n - n / d * d < (n / d + 1) * d - n ∨ (n - n / d * d = (n / d + 1) * d - n ∧ n / d % 2 = 0) then n / d else n / d + 1
theorem near0_eq (n d : Int) : near0 n d = rnd n d := by
 have h2 : n = d * (n / d) + n % d := (Int.mul_ediv_add_emod n d).symm
 have e1 : n - n / d * d = n % d := by rw [Int.mul_comm (n / d) d]; omega
 have e2 : (n / d + 1) * d - n = d - n % d := by rw [Int.add_mul, Int.one_mul, Int.mul_comm (n / d) d]; omega
 unfold near0 rnd
 rw [e1, e2]
 split <;> split <;> omega
def addF (a b : Int) : Int := clamp (clamp a + clamp b)
def subF (a b : Int) : Int := clamp (clamp a - clamp b)
def mulF (a b : Int) : Int := clamp (rnd (clamp a * clamp b) 65536)
def divF (a b : Int) : Int := clamp (if clamp b < 0 then rnd (-(clamp a * 65536)) (-clamp b) else rnd (clamp a * 65536) (clamp b))
theorem mulF_comm (a b : Int) : mulF a b = mulF b a := by unfold mulF; rw [Int.mul_comm]
theorem addF_lo (a b : Int) : -2147483647 ≤ addF a b := clamp_lo _
theorem addF_hi (a b : Int) : addF a b ≤ 2147483647 := clamp_hi _
theorem clamp_addF (a b : Int) : clamp (addF a b) = addF a b := clamp_clamp _
theorem clamp_mulF (a b : Int) : clamp (mulF a b) = mulF a b := clamp_clamp _
theorem clamp_subF (a b : Int) : clamp (subF a b) = subF a b := clamp_clamp _
theorem mulF_clamp_l (a b : Int) : mulF (clamp a) b = mulF a b := by unfold mulF; rw [clamp_clamp]
theorem subF_add (a b : Int) : addF a (-clamp b) = subF a b := by unfold addF subF; rw [clamp_neg, clamp_clamp]; rfl
theorem mulF_one {a : Int} (h : clamp a = a) : mulF a 65536 = a := by
 unfold mulF
 rw [show clamp 65536 = 65536 from rfl, rnd_mul _ _ (by omega), clamp_clamp, h]
theorem mulF_zero_l (b : Int) : mulF 0 b = 0 := by
 unfold mulF
 rw [show clamp 0 = 0 from rfl, Int.zero_mul]; rfl
theorem mulF_mono {a b c : Int} (h : a ≤ b) (hc : 0 ≤ c) : mulF a c ≤ mulF b c := by
 unfold mulF
 have h1 := clamp_mono h
 have h2 : 0 ≤ clamp c := by have := clamp_mono hc; rwa [show clamp 0 = 0 from rfl] at this
 exact clamp_mono (rnd_mono (by omega) (Int.mul_le_mul_of_nonneg_right h1 h2))
theorem mulF_nonneg {a b : Int} (ha : 0 ≤ a) (hb : 0 ≤ b) : 0 ≤ mulF a b := by
 have h := mulF_mono (a := 0) (b := a) ha hb
 rwa [mulF_zero_l] at h
theorem mul_bounds (a b : Int) : -4611686014132420609 ≤ clamp a * clamp b ∧ clamp a * clamp b ≤ 4611686014132420609 := by
 have a1 := clamp_lo a
 have a2 := clamp_hi a
 have b1 := clamp_lo b
 have b2 := clamp_hi b
 generalize clamp a = x at *
 generalize clamp b = y at *
 have h1 : 0 ≤ (2147483647 - x) * (2147483647 - y) := Int.mul_nonneg (by omega) (by omega)
 have h2 : 0 ≤ (2147483647 + x) * (2147483647 + y) := Int.mul_nonneg (by omega) (by omega)
 have h3 : 0 ≤ (2147483647 - x) * (2147483647 + y) := Int.mul_nonneg (by omega) (by omega)
 have h4 : 0 ≤ (2147483647 + x) * (2147483647 - y) := Int.mul_nonneg (by omega) (by omega)
 simp only [Int.sub_mul, Int.add_mul, Int.mul_sub, Int.mul_add] at h1 h2 h3 h4
 omega
theorem rnd_bounds (n d : Int) (hd : 0 < d) (B : Int) (hB : 0 ≤ B) (h1 : -B ≤ n) (h2 : n ≤ B) : -B ≤ rnd n d ∧ rnd n d ≤ B := by
 have hm : B ≤ B * d := by have := Int.mul_le_mul_of_nonneg_left (show (1 : Int) ≤ d by omega) hB; omega
 have e1 : rnd n d ≤ rnd (B * d) d := rnd_mono hd (by omega)
 have e2 : rnd (-B * d) d ≤ rnd n d := rnd_mono hd (by rw [Int.neg_mul]; omega)
 rw [rnd_mul _ _ hd] at e1 e2
 exact ⟨e2, e1⟩
end Go.Proofs.YtgodgedhddngeaaGreatDoor.Pl
namespace Go.Proofs.YtgodgedhddngeaaGreatDoor
open Pl
theorem and_one_i64 (q : Int) : bits .and .i64 q 1 = q % 2 := by
 show IntKind.i64.wrap ((BitVec.ofInt 64 q &&& BitVec.ofInt 64 1).toNat : Int) = _
 have h1 : (BitVec.ofInt 64 q &&& BitVec.ofInt 64 1).toNat = (q % 2).toNat := by
  rw [BitVec.toNat_and, show (BitVec.ofInt 64 1).toNat = 1 from rfl, Nat.and_one_is_mod, BitVec.toNat_ofInt]
  omega
 rw [h1, IntKind.wrap_i64]
 omega
theorem and_one_yes {q : Int} (h : q % 2 = 1) : (bits .and .i64 q 1 == 1) = true := by rw [and_one_i64, h]; rfl
theorem and_one_no {q : Int} (h : ¬ q % 2 = 1) : (bits .and .i64 q 1 == 1) = false := by
 rw [and_one_i64]; exact beq_eq_false_iff_ne.2 h
theorem tdiv_low {n d : Int} (hd : 0 < d) (h : n.tmod d < 0) : n / d = n.tdiv d - 1 ∧ n % d = n.tmod d + d := by
 have h1 := Int.mul_tdiv_add_tmod n d
 have h2 : -d < n.tmod d := by
  have := Int.lt_tmod_of_pos n hd
  omega
 have h3 : n = (n.tmod d + d) + d * (n.tdiv d - 1) := by rw [Int.mul_sub, Int.mul_one]; omega
 constructor
 ·conv => lhs; rw [h3]
  rw [Int.add_mul_ediv_left _ _ (by omega), Int.ediv_eq_zero_of_lt (by omega) (by omega)]; omega
 ·conv => lhs; rw [h3]
  rw [Int.add_mul_emod_self_left, Int.emod_eq_of_lt (by omega) (by omega)]
theorem tdiv_even {n d : Int} (hd : 0 < d) (h : 0 ≤ n.tmod d) : n / d = n.tdiv d ∧ n % d = n.tmod d := by
 have h1 := Int.mul_tdiv_add_tmod n d
 have h2 := Int.tmod_lt_of_pos n hd
 have h3 : n = n.tmod d + d * n.tdiv d := by omega
 constructor
 ·conv => lhs; rw [h3]
  rw [Int.add_mul_ediv_left _ _ (by omega), Int.ediv_eq_zero_of_lt (by omega) (by omega)]; omega
 ·conv => lhs; rw [h3]
  rw [Int.add_mul_emod_self_left, Int.emod_eq_of_lt (by omega) (by omega)]
end Go.Proofs.YtgodgedhddngeaaGreatDoor
namespace Go.Proofs.YtgodgedhddngeaaGreatDoor.Pl
def at0 (l : List Int) (k : Nat) : Int := l[k]?.getD 0
theorem at0_getElem (l : List Int) (k : Nat) (h : k < l.length) : at0 l k = l[k] := by simp [at0, List.getElem?_eq_getElem h]
def dotN (a b : List Int) : Nat → Int
 | 0 => 0
 | k + 1 => addF (dotN a b k) (mulF (at0 a k) (at0 b k))
theorem dotN_lo (a b : List Int) (k : Nat) : -2147483647 ≤ dotN a b k := by
 cases k with
 | zero => show (-2147483647 : Int) ≤ 0; omega
 | succ k => exact addF_lo _ _
theorem dotN_hi (a b : List Int) (k : Nat) : dotN a b k ≤ 2147483647 := by
 cases k with
 | zero => show (0 : Int) ≤ 2147483647; omega
 | succ k => exact addF_hi _ _
theorem dotN_clamp (a b : List Int) (k : Nat) : clamp (dotN a b k) = dotN a b k := clamp_id (dotN_lo a b k) (dotN_hi a b k)
def upto {α : Type} (f : Nat → α) (k : Nat) : List α := (List.range k).map f
theorem upto_succ {α : Type} (f : Nat → α) (k : Nat) : upto f (k + 1) = upto f k ++ [f k] := by simp [upto, List.range_succ]
theorem upto_zero {α : Type} (f : Nat → α) : upto f 0 = [] := rfl
theorem upto_length {α : Type} (f : Nat → α) (k : Nat) : (upto f k).length = k := by simp [upto]
theorem upto_at0 (l : List Int) : upto (at0 l) l.length = l := by
 apply List.ext_getElem (by simp [upto])
 intro i h1 h2
 simp [upto, at0, List.getElem?_eq_getElem h2]
def sumL (a b : List Int) : List Int := upto (fun k => addF (at0 a k) (at0 b k)) a.length
theorem sumL_length (a b : List Int) : (sumL a b).length = a.length := upto_length _ _
def okL (l : List Int) : Bool := l.all fun n => n == clamp n
theorem okL_iff (l : List Int) : okL l = true ↔ ∀ n ∈ l, clamp n = n := by
 unfold okL
 rw [List.all_eq_true]
 exact ⟨fun h n hn => (eq_of_beq (h n hn)).symm, fun h n hn => beq_iff_eq.2 (h n hn).symm⟩
theorem okL_at0 {l : List Int} (h : okL l = true) (k : Nat) : clamp (at0 l k) = at0 l k := by
 unfold at0
 cases hk : l[k]? with
 | none => rfl
 | some n => exact (okL_iff l).1 h n (List.mem_of_getElem? hk)
def rowL (A : List Int) (n r : Nat) : List Int := upto (fun c => at0 A (r * n + c)) n
def colL (A : List Int) (n m c : Nat) : List Int := upto (fun r => at0 A (r * n + c)) m
def mulL (A : List Int) (rows cols : Nat) (v : List Int) : List Int := upto (fun r => dotN (rowL A cols r) v cols) rows
def backL (A : List Int) (rows cols : Nat) (v : List Int) : List Int := upto (fun c => dotN (colL A cols rows c) v rows) cols
def outerL (a b : List Int) : List Int := upto (fun k => mulF (at0 a (k / b.length)) (at0 b (k % b.length))) (a.length * b.length)
def sideB (n : Int) : Bool := decide (1 ≤ n ∧ n ≤ 4)
def matE (r c : Int) (A : List Int) : Int := if !sideB r || !sideB c then 1 else if (A.length : Int) ≠ r * c ∨ okL A = false then 5 else 0
def pairE (a b : List Int) : Int := if 200 < a.length ∨ 200 < b.length then 2 else if a.length ≠ b.length then 5 else 0
theorem sideB_iff {n : Int} : sideB n = true ↔ 1 ≤ n ∧ n ≤ 4 := by simp [sideB]
theorem sideB_no {n : Int} (h : ¬ (1 ≤ n ∧ n ≤ 4)) : sideB n = false := by simp [sideB]; omega
theorem okL_any (l : List Int) : (l.any fun n => n != clamp n) = !okL l := by
 induction l with
 | nil => rfl
 | cons a l ih =>
  rw [List.any_cons, ih]
  unfold okL
  rw [List.all_cons]
  rw [Bool.not_and]
  rfl
theorem matE_1 {r c : Int} {A : List Int} (h : sideB r = false) : matE r c A = 1 := by unfold matE; rw [h]; rfl
theorem matE_2 {r c : Int} {A : List Int} (h : sideB r = true) (h' : sideB c = false) : matE r c A = 1 := by unfold matE; rw [h, h']; rfl
theorem matE_3 {r c : Int} {A : List Int} (h : sideB r = true) (h' : sideB c = true) (hl : ¬ (A.length : Int) = r * c) : matE r c A = 5 := by
 unfold matE; rw [h, h', if_neg (by simp), if_pos (.inl hl)]
theorem matE_4 {r c : Int} {A : List Int} (h : sideB r = true) (h' : sideB c = true) (ho : okL A = false) : matE r c A = 5 := by
 unfold matE; rw [h, h', if_neg (by simp), if_pos (.inr ho)]
theorem matE_5 {r c : Int} {A : List Int} (h : sideB r = true) (h' : sideB c = true) (hl : (A.length : Int) = r * c) (ho : okL A = true) : matE r c A = 0 := by
 unfold matE; rw [h, h', if_neg (by simp), if_neg (by rw [ho]; simp [hl])]
theorem matE_ok {r c : Int} {A : List Int} (h : matE r c A = 0) : (1 ≤ r ∧ r ≤ 4) ∧ (1 ≤ c ∧ c ≤ 4) ∧ (A.length : Int) = r * c ∧ okL A = true := by
 cases h1 : sideB r
 ·rw [matE_1 h1] at h; omega
 ·cases h2 : sideB c
  ·rw [matE_2 h1 h2] at h; omega
  ·by_cases h3 : (A.length : Int) = r * c
   ·cases h4 : okL A
    ·rw [matE_4 h1 h2 h4] at h; omega
    ·exact ⟨sideB_iff.1 h1, sideB_iff.1 h2, h3, rfl⟩
   ·rw [matE_3 h1 h2 h3] at h; omega
theorem side_mul {r c : Int} (h : 1 ≤ r ∧ r ≤ 4) (h' : 1 ≤ c ∧ c ≤ 4) : 1 ≤ r * c ∧ r * c ≤ 16 := by
 obtain ⟨h1, h2⟩ := h
 have : r = 1 ∨ r = 2 ∨ r = 3 ∨ r = 4 := by omega
 rcases this with rfl | rfl | rfl | rfl <;> omega
theorem list_ext_at0 {a b : List Int} (hl : a.length = b.length) (h : ∀ j, j < a.length → at0 a j = at0 b j) : a = b := by
 apply List.ext_getElem hl
 intro i h1 h2
 have := h i h1
 rwa [at0_getElem _ _ h1, at0_getElem _ _ h2] at this
theorem at0_upto (f : Nat → Int) {k n : Nat} (h : k < n) : at0 (upto f n) k = f k := by
 unfold at0 upto
 rw [List.getElem?_map, List.getElem?_range h]; rfl
end Go.Proofs.YtgodgedhddngeaaGreatDoor.Pl
namespace Go.Proofs.YtgodgedhddngeaaGreatDoor.Pl
def pupE (r1 c1 : Int) (a1 : List Int) (r2 c2 : Int) (a2 b1 b2 : List Int) : Int :=
 if matE r1 c1 a1 ≠ 0 then matE r1 c1 a1 else if matE r2 c2 a2 ≠ 0 then matE r2 c2 a2
 else if c2 ≠ r1 ∨ (b1.length : Int) ≠ r1 ∨ (b2.length : Int) ≠ r2 ∨ okL b1 = false ∨ okL b2 = false then 5 else 0
def flatP (a1 b1 a2 b2 : List Int) : List Int := a1 ++ b1 ++ a2 ++ b2
def sizeP (i h o : Int) : Int := h * i + h + o * h + o
theorem pupE_1 {r1 c1 : Int} {a1 : List Int} {r2 c2 : Int} {a2 b1 b2 : List Int} (h : matE r1 c1 a1 ≠ 0) : pupE r1 c1 a1 r2 c2 a2 b1 b2 = matE r1 c1 a1 := by
 unfold pupE; rw [if_pos h]
theorem pupE_2 {r1 c1 : Int} {a1 : List Int} {r2 c2 : Int} {a2 b1 b2 : List Int} (h : matE r1 c1 a1 = 0) (h' : matE r2 c2 a2 ≠ 0) : pupE r1 c1 a1 r2 c2 a2 b1 b2 = matE r2 c2 a2 := by
 unfold pupE; rw [if_neg (by simp [h]), if_pos h']
theorem pupE_3 {r1 c1 : Int} {a1 : List Int} {r2 c2 : Int} {a2 b1 b2 : List Int} (h : matE r1 c1 a1 = 0) (h' : matE r2 c2 a2 = 0)
  (hb : c2 ≠ r1 ∨ (b1.length : Int) ≠ r1 ∨ (b2.length : Int) ≠ r2 ∨ okL b1 = false ∨ okL b2 = false) : pupE r1 c1 a1 r2 c2 a2 b1 b2 = 5 := by
 unfold pupE; rw [if_neg (by simp [h]), if_neg (by simp [h']), if_pos hb]
theorem pupE_4 {r1 c1 : Int} {a1 : List Int} {r2 c2 : Int} {a2 b1 b2 : List Int} (h : matE r1 c1 a1 = 0) (h' : matE r2 c2 a2 = 0)
  (e1 : c2 = r1) (e2 : (b1.length : Int) = r1) (e3 : (b2.length : Int) = r2) (e4 : okL b1 = true) (e5 : okL b2 = true) : pupE r1 c1 a1 r2 c2 a2 b1 b2 = 0 := by
 unfold pupE; rw [if_neg (by simp [h]), if_neg (by simp [h']), if_neg (by simp [e1, e2, e3, e4, e5])]
theorem pupE_ok {r1 c1 : Int} {a1 : List Int} {r2 c2 : Int} {a2 b1 b2 : List Int} (h : pupE r1 c1 a1 r2 c2 a2 b1 b2 = 0) :
  matE r1 c1 a1 = 0 ∧ matE r2 c2 a2 = 0 ∧ c2 = r1 ∧ (b1.length : Int) = r1 ∧ (b2.length : Int) = r2 ∧ okL b1 = true ∧ okL b2 = true := by
 by_cases h1 : matE r1 c1 a1 = 0
 ·by_cases h2 : matE r2 c2 a2 = 0
  ·by_cases h3 : c2 ≠ r1 ∨ (b1.length : Int) ≠ r1 ∨ (b2.length : Int) ≠ r2 ∨ okL b1 = false ∨ okL b2 = false
   ·rw [pupE_3 h1 h2 h3] at h; omega
   ·simp only [not_or, Bool.not_eq_false, ne_eq, Decidable.not_not] at h3
    obtain ⟨q1, q2, q3, q4, q5⟩ := h3
    exact ⟨h1, h2, q1, q2, q3, q4, q5⟩
  ·rw [pupE_2 h1 h2] at h; exact absurd h h2
 ·rw [pupE_1 h1] at h; exact absurd h h1
theorem okL_append (a b : List Int) : okL (a ++ b) = (okL a && okL b) := by unfold okL; rw [List.all_append]
theorem flatP_length (a1 b1 a2 b2 : List Int) : (flatP a1 b1 a2 b2).length = a1.length + b1.length + a2.length + b2.length := by simp [flatP]; omega
end Go.Proofs.YtgodgedhddngeaaGreatDoor.Pl
namespace Go.Proofs.YtgodgedhddngeaaGreatDoor.Pl
def lineA (A : List Int) (cols k : Nat) (across : Bool) (r c : Nat) : List Int :=
 if across then upto (fun r => at0 A (r * cols + k)) (r + if k < c then 1 else 0)
 else if r < k then [] else if r = k then upto (fun c => at0 A (k * cols + c)) c else upto (fun c => at0 A (k * cols + c)) cols
theorem lineA_start (A : List Int) (cols k : Nat) (across : Bool) : lineA A cols k across 0 0 = [] := by
 unfold lineA
 cases across
 ·simp only [Bool.false_eq_true, if_false]
  split
  ·rfl
  ·split
   ·rfl
   ·omega
 ·simp only [if_true, Nat.not_lt_zero, if_false]; rfl
theorem lineA_col_hit (A : List Int) (cols k r : Nat) : lineA A cols k true r (k + 1) = lineA A cols k true r k ++ [at0 A (r * cols + k)] := by
 unfold lineA
 simp only [if_true, Nat.lt_irrefl, if_false, Nat.add_zero]
 rw [if_pos (by omega), upto_succ (fun r => at0 A (r * cols + k)) r]
theorem lineA_col_miss (A : List Int) (cols k r c : Nat) (h : c ≠ k) : lineA A cols k true r (c + 1) = lineA A cols k true r c := by
 unfold lineA
 simp only [if_true]
 by_cases hk : k < c
 ·rw [if_pos hk, if_pos (by omega)]
 ·rw [if_neg hk, if_neg (by omega)]
theorem lineA_row_hit (A : List Int) (cols k c : Nat) : lineA A cols k false k (c + 1) = lineA A cols k false k c ++ [at0 A (k * cols + c)] := by
 unfold lineA
 simp only [Bool.false_eq_true, if_false, Nat.lt_irrefl, if_true]
 rw [upto_succ (fun c => at0 A (k * cols + c)) c]
theorem lineA_row_miss (A : List Int) (cols k r c : Nat) (h : r ≠ k) : lineA A cols k false r (c + 1) = lineA A cols k false r c := by
 unfold lineA
 simp only [Bool.false_eq_true, if_false, if_neg h]
theorem lineA_next (A : List Int) (cols k r : Nat) (across : Bool) (h : across = true → k < cols) : lineA A cols k across r cols = lineA A cols k across (r + 1) 0 := by
 unfold lineA
 cases across
 ·simp only [Bool.false_eq_true, if_false]
  by_cases h1 : r < k
  ·rw [if_pos h1]
   by_cases h3 : r + 1 < k
   ·rw [if_pos h3]
   ·rw [if_neg h3, if_pos (by omega)]; rfl
  ·by_cases h2 : r = k
   ·rw [if_neg h1, if_pos h2, if_neg (by omega), if_neg (by omega)]
   ·rw [if_neg h1, if_neg h2, if_neg (by omega), if_neg (by omega)]
 ·have := h rfl
  simp only [if_true, Nat.not_lt_zero, if_false, Nat.add_zero]
  rw [if_pos this]
theorem lineA_col (A : List Int) (cols k rows : Nat) : lineA A cols k true rows 0 = colL A cols rows k := by
 unfold lineA colL
 simp only [if_true, Nat.not_lt_zero, if_false, Nat.add_zero]
theorem lineA_row (A : List Int) (cols k rows : Nat) (h : k < rows) : lineA A cols k false rows 0 = rowL A cols k := by
 unfold lineA rowL
 simp only [Bool.false_eq_true, if_false]
 rw [if_neg (by omega), if_neg (by omega)]
theorem lineA_len (A : List Int) (cols k r c : Nat) (across : Bool) : (lineA A cols k across r c).length ≤ r + c + cols + 1 := by
 unfold lineA
 cases across
 ·simp only [Bool.false_eq_true, if_false]
  split
  ·simp
  ·split <;> rw [upto_length] <;> omega
 ·simp only [if_true, upto_length]
  split <;> omega
theorem rowL_length (A : List Int) (n r : Nat) : (rowL A n r).length = n := upto_length _ _
theorem mulL_length (A : List Int) (r c : Nat) (v : List Int) : (mulL A r c v).length = r := upto_length _ _
theorem backL_length (A : List Int) (r c : Nat) (v : List Int) : (backL A r c v).length = c := upto_length _ _
theorem outerL_length (a b : List Int) : (outerL a b).length = a.length * b.length := upto_length _ _
theorem rowL_cut (A : List Int) (n r : Nat) (h : (r + 1) * n ≤ A.length) : (A.drop (r * n)).take n = rowL A n r := by
 have e : (r + 1) * n = r * n + n := Nat.succ_mul r n
 apply list_ext_at0
 ·rw [List.length_take, List.length_drop, rowL_length]; omega
 ·intro j hj
  rw [List.length_take, List.length_drop] at hj
  unfold rowL
  rw [at0_upto _ (by omega)]
  unfold at0
  rw [List.getElem?_take, if_pos (by omega), List.getElem?_drop]
end Go.Proofs.YtgodgedhddngeaaGreatDoor.Pl
namespace Go.Proofs.YtgodgedhddngeaaGreatDoor.Pl
def P61 : Nat := 2305843009213693951
theorem P61_pos : 0 < P61 := by decide
def addP (a b : Nat) : Nat := (a % P61 + b % P61) % P61
def mulP (a b : Nat) : Nat := (a % P61) * (b % P61) % P61
theorem addP_lt (a b : Nat) : addP a b < P61 := Nat.mod_lt _ P61_pos
theorem mulP_lt (a b : Nat) : mulP a b < P61 := Nat.mod_lt _ P61_pos
theorem addP_eq (a b : Nat) : addP a b = (a + b) % P61 := by unfold addP; rw [← Nat.add_mod]
def sqP (a : Nat) : Nat := mulP a a
def pow17 (a : Nat) : Nat := mulP (sqP (sqP (sqP (sqP a)))) a
theorem pow17_lt (a : Nat) : pow17 a < P61 := mulP_lt _ _
def turnP (i : Nat) (s : Nat × Nat × Nat) : Nat × Nat × Nat :=
 (addP (addP (pow17 (addP s.1 i)) (addP (pow17 (addP s.2.1 (2 * i))) (pow17 (addP s.2.2 (3 * i))))) (pow17 (addP s.1 i)),
  addP (addP (pow17 (addP s.1 i)) (addP (pow17 (addP s.2.1 (2 * i))) (pow17 (addP s.2.2 (3 * i))))) (pow17 (addP s.2.1 (2 * i))),
  addP (addP (pow17 (addP s.1 i)) (addP (pow17 (addP s.2.1 (2 * i))) (pow17 (addP s.2.2 (3 * i))))) (pow17 (addP s.2.2 (3 * i))))
def turnsP : Nat → Nat × Nat × Nat → Nat × Nat × Nat
 | 0, s => s
 | k + 1, s => turnP (k + 1) (turnsP k s)
def mixP (s : Nat × Nat × Nat) : Nat × Nat × Nat := turnsP 6 s
def ofN (s : Nat × Nat × Nat) (l : List Nat) : Nat → Nat × Nat × Nat
 | 0 => mixP s
 | k + 1 => mixP (addP (ofN s l k).1 (l[k]?.getD 0), (ofN s l k).2)
def ofP (kind : Nat) (l : List Nat) : Nat := (ofN (kind % P61, l.length, 1) l l.length).2.1
def wordP (a b : Nat) : Nat := ofP 2 [a, b]
theorem turnP_lt (i : Nat) (s : Nat × Nat × Nat) : (turnP i s).1 < P61 ∧ (turnP i s).2.1 < P61 ∧ (turnP i s).2.2 < P61 := ⟨addP_lt _ _, addP_lt _ _, addP_lt _ _⟩
theorem mixP_lt (s : Nat × Nat × Nat) : (mixP s).1 < P61 ∧ (mixP s).2.1 < P61 ∧ (mixP s).2.2 < P61 := turnP_lt 6 _
theorem ofN_lt (s : Nat × Nat × Nat) (l : List Nat) (k : Nat) : (ofN s l k).1 < P61 ∧ (ofN s l k).2.1 < P61 ∧ (ofN s l k).2.2 < P61 := by
 cases k with
 | zero => exact mixP_lt _
 | succ k => exact mixP_lt _
theorem ofP_lt (kind : Nat) (l : List Nat) : ofP kind l < P61 := (ofN_lt _ _ _).2.1
def dbl (a b : Nat) : Nat → Nat
 | 0 => 0
 | k + 1 => if b / 2 ^ (60 - k) % 2 = 1 then ((dbl a b k + dbl a b k) % P61 + a) % P61 else (dbl a b k + dbl a b k) % P61
theorem dbl_lt (a b k : Nat) : dbl a b k < P61 := by
 cases k with
 | zero => exact P61_pos
 | succ k => unfold dbl; split <;> exact Nat.mod_lt _ P61_pos
theorem dbl_eq (a b k : Nat) (hk : k ≤ 61) : dbl a b k = a * (b / 2 ^ (61 - k) % 2 ^ k) % P61 := by
 induction k with
 | zero => simp [dbl, Nat.mod_one]
 | succ k ih =>
  have e1 : 61 - k = (60 - k) + 1 := by omega
  have e2 : 61 - (k + 1) = 60 - k := by omega
  rw [e2]
  have hb : b / 2 ^ (60 - k) % 2 ^ (k + 1) = 2 * (b / 2 ^ (61 - k) % 2 ^ k) + b / 2 ^ (60 - k) % 2 := by
   rw [e1, Nat.pow_succ 2 (60 - k), ← Nat.div_div_eq_div_mul, Nat.pow_succ, Nat.mul_comm (2 ^ k) 2, Nat.mod_mul]
   omega
  have ih' := ih (by omega)
  have h2 : (dbl a b k + dbl a b k) % P61 = a * (2 * (b / 2 ^ (61 - k) % 2 ^ k)) % P61 := by
   rw [ih', ← Nat.add_mod, ← Nat.two_mul, ← Nat.mul_assoc, Nat.mul_comm 2 a, Nat.mul_assoc]
  unfold dbl
  rw [h2, hb]
  split
  ·rename_i h
   rw [h, Nat.mod_add_mod]
   congr 1
  ·rename_i h
   have h0 : b / 2 ^ (60 - k) % 2 = 0 := by omega
   rw [h0, Nat.add_zero]
theorem dbl_mul (a b : Nat) (hb : b < P61) : dbl a b 61 = a * b % P61 := by
 rw [dbl_eq a b 61 (by omega)]
 have : b < 2 ^ 61 := Nat.lt_trans hb (by decide)
 rw [show 61 - 61 = 0 from rfl, Nat.pow_zero, Nat.div_one, Nat.mod_eq_of_lt this]
end Go.Proofs.YtgodgedhddngeaaGreatDoor.Pl
namespace Go.Proofs.YtgodgedhddngeaaGreatDoor.Pl
theorem rest_eq (hi lo : Nat) :
  ((((hi * 8 + lo / 2305843009213693952) * 4294967296 + lo * 8 % 18446744073709551616 / 4294967296) % 18446744073709551608) * 4294967296 + lo * 8 % 18446744073709551616 % 4294967296) % 18446744073709551608 / 8 =
   (hi * 18446744073709551616 + lo) % 2305843009213693951 := by
 omega
end Go.Proofs.YtgodgedhddngeaaGreatDoor.Pl
namespace Go.Proofs.YtgodgedhddngeaaGreatDoor.Pl
def atN (l : List Nat) (k : Nat) : Nat := l[k]?.getD 0
def swapN (l : List Nat) (i j : Nat) : List Nat := (l.set i (atN l j)).set j (atN l i)
theorem swapN_length (l : List Nat) (i j : Nat) : (swapN l i j).length = l.length := by simp [swapN]
def shufN (seed epoch n : Nat) : Nat → List Nat
 | 0 => List.range n
 | k + 1 => swapN (shufN seed epoch n k) (n - 1 - k) (wordP seed (64 * epoch + (n - 1 - k)) % (n - 1 - k + 1))
theorem shufN_length (seed epoch n k : Nat) : (shufN seed epoch n k).length = n := by
 induction k with
 | zero => simp [shufN]
 | succ k ih => simp only [shufN]; rw [swapN_length, ih]
def shufP (seed epoch n : Nat) : List Nat := shufN seed epoch n (n - 1)
theorem shufP_length (seed epoch n : Nat) : (shufP seed epoch n).length = n := shufN_length _ _ _ _
theorem swapN_perm (l : List Nat) (i j : Nat) (hi : i < l.length) (hj : j < l.length) : (swapN l i j).Perm l := by
 unfold swapN atN
 rw [List.getElem?_eq_getElem hi, List.getElem?_eq_getElem hj]
 simp only [Option.getD_some]
 rw [List.perm_iff_count]
 intro a
 rw [List.count_set (by simpa using hj), List.count_set hi]
 by_cases hij : i = j
 ·subst hij
  rw [List.getElem_set_self]
  have h1 : 0 < l.count l[i] := List.count_pos_iff.2 (List.getElem_mem hi)
  by_cases ha : l[i] = a
  ·subst ha; simp
  ·simp [ha]
 ·rw [List.getElem_set_ne hij]
  have h1 : 0 < l.count l[i] := List.count_pos_iff.2 (List.getElem_mem hi)
  have h2 : 0 < l.count l[j] := List.count_pos_iff.2 (List.getElem_mem hj)
  by_cases ha : l[i] = a
  ·by_cases hb : l[j] = a
   ·simp [ha, hb]; rw [ha] at h1; omega
   ·simp [ha, hb]; rw [ha] at h1; omega
  ·by_cases hb : l[j] = a
   ·simp [ha, hb]
   ·simp [ha, hb]
theorem shufN_perm (seed epoch n k : Nat) (hk : k ≤ n - 1) : (shufN seed epoch n k).Perm (List.range n) := by
 induction k with
 | zero => exact List.Perm.refl _
 | succ k ih =>
  simp only [shufN]
  refine (swapN_perm _ _ _ ?_ ?_).trans (ih (by omega))
  ·rw [shufN_length]; omega
  ·rw [shufN_length]; exact Nat.lt_of_lt_of_le (Nat.mod_lt _ (by omega)) (by omega)
theorem shufP_perm (seed epoch n : Nat) : (shufP seed epoch n).Perm (List.range n) := shufN_perm _ _ _ _ (Nat.le_refl _)
theorem shufP_lt (seed epoch n k : Nat) (hn : 0 < n) : atN (shufP seed epoch n) k < n := by
 unfold atN
 cases h : (shufP seed epoch n)[k]? with
 | none => exact hn
 | some x =>
  have := (shufP_perm seed epoch n).mem_iff.1 (List.mem_of_getElem? h)
  simpa using this
def comesP (seed n t : Nat) : Nat := atN (shufP seed (t / n) n) (t % n)
def batchP (seed size n step : Nat) : List Nat := (List.range size).map fun k => comesP seed n (step * size + k)
theorem batchP_length (seed size n step : Nat) : (batchP seed size n step).length = size := by simp [batchP]
theorem comesP_lt (seed n t : Nat) (hn : 0 < n) : comesP seed n t < n := shufP_lt _ _ _ _ hn
end Go.Proofs.YtgodgedhddngeaaGreatDoor.Pl
namespace Go.Proofs.YtgodgedhddngeaaGreatDoor.Pl
def half (n : Nat) : Nat := 2 ^ Nat.log2 (n - 1)
theorem half_pos (n : Nat) : 1 ≤ half n := Nat.one_le_two_pow
theorem half_lt {n : Nat} (h : 2 ≤ n) : half n < n := by
 have : 2 ^ Nat.log2 (n - 1) ≤ n - 1 := Nat.log2_self_le (by omega)
 unfold half; omega
theorem half_eq {n j : Nat} (h1 : 2 ^ j < n) (h2 : n ≤ 2 * 2 ^ j) : half n = 2 ^ j := by
 have h3 : n - 1 ≠ 0 := by have := @Nat.one_le_two_pow j; omega
 have : Nat.log2 (n - 1) = j := (Nat.log2_eq_iff h3).2 ⟨by omega, by rw [Nat.pow_succ]; omega⟩
 unfold half; rw [this]
end Go.Proofs.YtgodgedhddngeaaGreatDoor.Pl
namespace Go.Proofs.YtgodgedhddngeaaGreatDoor.Pl
def highN (g : List Int) : Nat → Int
 | 0 => 0
 | k + 1 => max (highN g k) (max (clamp (at0 g k)) (-clamp (at0 g k)))
theorem highN_nonneg (g : List Int) (k : Nat) : 0 ≤ highN g k := by
 induction k with
 | zero => exact Int.le_refl _
 | succ k ih => simp only [highN]; omega
theorem highN_le (g : List Int) (k : Nat) : highN g k ≤ 2147483647 := by
 induction k with
 | zero => show (0 : Int) ≤ _; omega
 | succ k ih =>
  simp only [highN]
  have a := clamp_lo (at0 g k)
  have b := clamp_hi (at0 g k)
  omega
def clipL (g : List Int) (most : Int) : List Int :=
 if most = 0 ∨ highN g g.length ≤ most then upto (fun k => clamp (at0 g k)) g.length
 else upto (fun k => mulF (at0 g k) (divF most (highN g g.length))) g.length
theorem clipL_length (g : List Int) (most : Int) : (clipL g most).length = g.length := by unfold clipL; split <;> simp [upto_length]
theorem divF_nonneg {a b : Int} (ha : 0 ≤ a) (hb : 0 < b) : 0 ≤ divF a b := by
 unfold divF
 have h1 : 0 < clamp b := by
  have := clamp_mono (show 1 ≤ b by omega)
  rw [show clamp 1 = 1 from rfl] at this; omega
 have h2 : 0 ≤ clamp a := by have := clamp_mono ha; rwa [show clamp 0 = 0 from rfl] at this
 rw [if_neg (by omega)]
 have h3 := rnd_mono h1 (show 0 ≤ clamp a * 65536 by omega)
 rw [rnd_zero _ h1] at h3
 have h4 := clamp_mono h3
 rwa [show clamp 0 = 0 from rfl] at h4
theorem divF_le_one {a b : Int} (hb : 0 < clamp b) (h : clamp a ≤ clamp b) : divF a b ≤ 65536 := by
 unfold divF
 rw [if_neg (by omega)]
 have h1 : clamp a * 65536 ≤ 65536 * clamp b := by omega
 have h2 := rnd_mono hb h1
 rw [rnd_mul _ _ hb] at h2
 have h3 := clamp_mono h2
 rwa [show clamp 65536 = 65536 from rfl] at h3
theorem mulF_part {r p : Int} (hr : 0 ≤ r) (hc : clamp r = r) (hp : 0 ≤ p) (hp1 : p ≤ 65536) : 0 ≤ mulF r p ∧ mulF r p ≤ r := by
 refine ⟨mulF_nonneg hr hp, ?_⟩
 have h := mulF_mono (c := r) hp1 hr
 rw [mulF_comm p r, mulF_comm 65536 r, mulF_one hc] at h
 exact h
def rateP (decay rate steps step : Int) : Int := if decay = 0 then rate else mulF rate (divF (steps - step) steps)
theorem rateP_le {decay rate steps step : Int} (h0 : 0 ≤ rate) (h1 : rate ≤ 2147483647) (h2 : 1 ≤ steps) (h3 : steps ≤ 40) (h4 : 0 ≤ step) (h5 : step ≤ steps - 1) :
  0 ≤ rateP decay rate steps step ∧ rateP decay rate steps step ≤ rate := by
 unfold rateP
 split
 ·omega
 ·have e1 : clamp steps = steps := clamp_id (by omega) (by omega)
  have e2 : clamp (steps - step) = steps - step := clamp_id (by omega) (by omega)
  exact mulF_part h0 (clamp_id (by omega) h1) (divF_nonneg (by omega) (by omega)) (divF_le_one (by omega) (by omega))
def moveP (how keep mv g : Int) : Int := if how = 1 then addF (mulF keep mv) g else clamp g
def movesL (how keep : Int) (mv g : List Int) : List Int := if how = 1 then upto (fun k => moveP how keep (at0 mv k) (at0 g k)) g.length else mv
def weightsL (how keep rate : Int) (wt mv g : List Int) : List Int := upto (fun k => subF (at0 wt k) (mulF rate (moveP how keep (at0 mv k) (at0 g k)))) g.length
end Go.Proofs.YtgodgedhddngeaaGreatDoor.Pl
