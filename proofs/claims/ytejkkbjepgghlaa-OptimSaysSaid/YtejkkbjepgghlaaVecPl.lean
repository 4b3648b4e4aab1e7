/- Plain laws about lists of numbers: products of lists, sums, multiples, lines of matrices. No program in sight. -/
import Derived.Test.YtejkkbjepgghlaaFix
namespace Go.Proofs.Ytejkkbjepgghlaa.Pl

def at0 (l : List Int) (k : Nat) : Int := l[k]?.getD 0
theorem at0_getElem (l : List Int) (k : Nat) (h : k < l.length) : at0 l k = l[k] := by simp [at0, List.getElem?_eq_getElem h]
theorem at0_map (f : Int → Int) (h0 : f 0 = 0) (l : List Int) (k : Nat) : at0 (l.map f) k = f (at0 l k) := by
  unfold at0
  rw [List.getElem?_map]
  cases l[k]? <;> simp [h0]

/-- Dot: the first k products, added one by one. -/
def dotN (a b : List Int) : Nat → Int
  | 0 => 0
  | k + 1 => addF (dotN a b k) (mulF (at0 a k) (at0 b k))
theorem dotN_lo (a b : List Int) (k : Nat) : -2147483647 ≤ dotN a b k := by
  cases k with
  | zero => show (-2147483647 : Int) ≤ 0; omega
  | succ k => exact addF_lo _ _
theorem dotN_hi (a b : List Int) (k : Nat) : dotN a b k ≤ 2147483647 := by
  cases k with
  | zero => show (0 : Int) ≤ 2147483647; omega
  | succ k => exact addF_hi _ _
theorem dotN_clamp (a b : List Int) (k : Nat) : clamp (dotN a b k) = dotN a b k := clamp_id (dotN_lo a b k) (dotN_hi a b k)
theorem dotN_comm (a b : List Int) (k : Nat) : dotN a b k = dotN b a k := by
  induction k with
  | zero => rfl
  | succ k ih => simp only [dotN]; rw [ih, mulF_comm]
theorem dotN_neg (a b : List Int) (k : Nat) : dotN (a.map fun n => -clamp n) b k = -dotN a b k := by
  induction k with
  | zero => rfl
  | succ k ih =>
    simp only [dotN]
    rw [ih, at0_map (fun n => -clamp n) rfl, mulF_neg, mulF_clamp_l, addF_neg]
theorem dotN_neg_r (a b : List Int) (k : Nat) : dotN a (b.map fun n => -clamp n) k = -dotN a b k := by
  rw [dotN_comm, dotN_neg, dotN_comm]
theorem dotN_sq (a : List Int) (k : Nat) : 0 ≤ dotN a a k := by
  induction k with
  | zero => exact Int.le_refl _
  | succ k ih =>
    simp only [dotN]
    have h := mulF_sq (at0 a k)
    unfold addF
    have h1 := clamp_mono ih
    have h2 := clamp_mono h
    have h3 := clamp_mono (show (0 : Int) ≤ clamp (dotN a a k) + clamp (mulF (at0 a k) (at0 a k)) by
      rw [show clamp 0 = 0 from rfl] at h1 h2; omega)
    rwa [show clamp 0 = 0 from rfl] at h3
theorem dotN_congr (a b a' b' : List Int) (k : Nat) (h : ∀ i, i < k → at0 a i = at0 a' i ∧ at0 b i = at0 b' i) : dotN a b k = dotN a' b' k := by
  induction k with
  | zero => rfl
  | succ k ih =>
    simp only [dotN]
    rw [ih (fun i hi => h i (by omega)), (h k (by omega)).1, (h k (by omega)).2]

/-- What is made of places 0 .. k-1. -/
def upto {α : Type} (f : Nat → α) (k : Nat) : List α := (List.range k).map f
theorem upto_succ {α : Type} (f : Nat → α) (k : Nat) : upto f (k + 1) = upto f k ++ [f k] := by simp [upto, List.range_succ]
theorem upto_zero {α : Type} (f : Nat → α) : upto f 0 = [] := rfl
theorem upto_length {α : Type} (f : Nat → α) (k : Nat) : (upto f k).length = k := by simp [upto]
theorem upto_at0 (l : List Int) : upto (at0 l) l.length = l := by
  apply List.ext_getElem (by simp [upto])
  intro i h1 h2
  simp [upto, at0, List.getElem?_eq_getElem h2]

def sumL (a b : List Int) : List Int := upto (fun k => addF (at0 a k) (at0 b k)) a.length
def timesL (a : List Int) (n : Int) : List Int := upto (fun k => mulF (at0 a k) n) a.length
theorem sumL_length (a b : List Int) : (sumL a b).length = a.length := upto_length _ _
theorem timesL_length (a : List Int) (n : Int) : (timesL a n).length = a.length := upto_length _ _

/-- May all numbers of a list be? -/
def okL (l : List Int) : Bool := l.all fun n => n == clamp n
theorem okL_iff (l : List Int) : okL l = true ↔ ∀ n ∈ l, clamp n = n := by
  unfold okL
  rw [List.all_eq_true]
  exact ⟨fun h n hn => (eq_of_beq (h n hn)).symm, fun h n hn => beq_iff_eq.2 (h n hn).symm⟩
theorem okL_at0 {l : List Int} (h : okL l = true) (k : Nat) : clamp (at0 l k) = at0 l k := by
  unfold at0
  cases hk : l[k]? with
  | none => rfl
  | some n => exact (okL_iff l).1 h n (List.mem_of_getElem? hk)

/-- Row r, column c of numbers that stand row by row, n a row. -/
def rowL (A : List Int) (n r : Nat) : List Int := upto (fun c => at0 A (r * n + c)) n
def colL (A : List Int) (n m c : Nat) : List Int := upto (fun r => at0 A (r * n + c)) m
def mulL (A : List Int) (rows cols : Nat) (v : List Int) : List Int := upto (fun r => dotN (rowL A cols r) v cols) rows
def backL (A : List Int) (rows cols : Nat) (v : List Int) : List Int := upto (fun c => dotN (colL A cols rows c) v rows) cols
def outerL (a b : List Int) : List Int := upto (fun k => mulF (at0 a (k / b.length)) (at0 b (k % b.length))) (a.length * b.length)

/-- What is wrong with a matrix; with two lists. -/
def sideB (n : Int) : Bool := decide (1 ≤ n ∧ n ≤ 4)
def matE (r c : Int) (A : List Int) : Int := if !sideB r || !sideB c then 1 else if (A.length : Int) ≠ r * c ∨ okL A = false then 5 else 0
def pairE (a b : List Int) : Int := if 200 < a.length ∨ 200 < b.length then 2 else if a.length ≠ b.length then 5 else 0
theorem sideB_iff {n : Int} : sideB n = true ↔ 1 ≤ n ∧ n ≤ 4 := by simp [sideB]
theorem sideB_no {n : Int} (h : ¬ (1 ≤ n ∧ n ≤ 4)) : sideB n = false := by simp [sideB]; omega
theorem okL_any (l : List Int) : (l.any fun n => n != clamp n) = !okL l := by
  induction l with
  | nil => rfl
  | cons a l ih =>
    rw [List.any_cons, ih]
    unfold okL
    rw [List.all_cons]
    rw [Bool.not_and]
    rfl
theorem matE_1 {r c : Int} {A : List Int} (h : sideB r = false) : matE r c A = 1 := by unfold matE; rw [h]; rfl
theorem matE_2 {r c : Int} {A : List Int} (h : sideB r = true) (h' : sideB c = false) : matE r c A = 1 := by unfold matE; rw [h, h']; rfl
theorem matE_3 {r c : Int} {A : List Int} (h : sideB r = true) (h' : sideB c = true) (hl : ¬ (A.length : Int) = r * c) : matE r c A = 5 := by
  unfold matE; rw [h, h', if_neg (by simp), if_pos (.inl hl)]
theorem matE_4 {r c : Int} {A : List Int} (h : sideB r = true) (h' : sideB c = true) (ho : okL A = false) : matE r c A = 5 := by
  unfold matE; rw [h, h', if_neg (by simp), if_pos (.inr ho)]
theorem matE_5 {r c : Int} {A : List Int} (h : sideB r = true) (h' : sideB c = true) (hl : (A.length : Int) = r * c) (ho : okL A = true) : matE r c A = 0 := by
  unfold matE; rw [h, h', if_neg (by simp), if_neg (by rw [ho]; simp [hl])]
theorem matE_ok {r c : Int} {A : List Int} (h : matE r c A = 0) : (1 ≤ r ∧ r ≤ 4) ∧ (1 ≤ c ∧ c ≤ 4) ∧ (A.length : Int) = r * c ∧ okL A = true := by
  cases h1 : sideB r
  · rw [matE_1 h1] at h; omega
  · cases h2 : sideB c
    · rw [matE_2 h1 h2] at h; omega
    · by_cases h3 : (A.length : Int) = r * c
      · cases h4 : okL A
        · rw [matE_4 h1 h2 h4] at h; omega
        · exact ⟨sideB_iff.1 h1, sideB_iff.1 h2, h3, rfl⟩
      · rw [matE_3 h1 h2 h3] at h; omega
theorem side_mul {r c : Int} (h : 1 ≤ r ∧ r ≤ 4) (h' : 1 ≤ c ∧ c ≤ 4) : 1 ≤ r * c ∧ r * c ≤ 16 := by
  obtain ⟨h1, h2⟩ := h
  have : r = 1 ∨ r = 2 ∨ r = 3 ∨ r = 4 := by omega
  rcases this with rfl | rfl | rfl | rfl <;> omega
theorem list_ext_at0 {a b : List Int} (hl : a.length = b.length) (h : ∀ j, j < a.length → at0 a j = at0 b j) : a = b := by
  apply List.ext_getElem hl
  intro i h1 h2
  have := h i h1
  rwa [at0_getElem _ _ h1, at0_getElem _ _ h2] at this
theorem at0_upto (f : Nat → Int) {k n : Nat} (h : k < n) : at0 (upto f n) k = f k := by
  unfold at0 upto
  rw [List.getElem?_map, List.getElem?_range h]; rfl
end Go.Proofs.Ytejkkbjepgghlaa.Pl
