/- Plain laws about pupils: what is wrong with one, its numbers, and the pupil made of them again. No program in sight. -/
import Derived.Test.YtejkkbjepgghlaaVecPl
namespace Go.Proofs.Ytejkkbjepgghlaa.Pl

/-- What is wrong with a pupil. -/
def pupE (r1 c1 : Int) (a1 : List Int) (r2 c2 : Int) (a2 b1 b2 : List Int) : Int :=
  if matE r1 c1 a1 ≠ 0 then matE r1 c1 a1 else if matE r2 c2 a2 ≠ 0 then matE r2 c2 a2
  else if c2 ≠ r1 ∨ (b1.length : Int) ≠ r1 ∨ (b2.length : Int) ≠ r2 ∨ okL b1 = false ∨ okL b2 = false then 5 else 0
def flatP (a1 b1 a2 b2 : List Int) : List Int := a1 ++ b1 ++ a2 ++ b2
def sizeP (i h o : Int) : Int := h * i + h + o * h + o

theorem matE_nonneg (r c : Int) (A : List Int) : matE r c A = 0 ∨ matE r c A = 1 ∨ matE r c A = 5 := by
  unfold matE; split <;> (try split) <;> simp
theorem pupE_1 {r1 c1 : Int} {a1 : List Int} {r2 c2 : Int} {a2 b1 b2 : List Int} (h : matE r1 c1 a1 ≠ 0) : pupE r1 c1 a1 r2 c2 a2 b1 b2 = matE r1 c1 a1 := by
  unfold pupE; rw [if_pos h]
theorem pupE_2 {r1 c1 : Int} {a1 : List Int} {r2 c2 : Int} {a2 b1 b2 : List Int} (h : matE r1 c1 a1 = 0) (h' : matE r2 c2 a2 ≠ 0) : pupE r1 c1 a1 r2 c2 a2 b1 b2 = matE r2 c2 a2 := by
  unfold pupE; rw [if_neg (by simp [h]), if_pos h']
theorem pupE_3 {r1 c1 : Int} {a1 : List Int} {r2 c2 : Int} {a2 b1 b2 : List Int} (h : matE r1 c1 a1 = 0) (h' : matE r2 c2 a2 = 0)
    (hb : c2 ≠ r1 ∨ (b1.length : Int) ≠ r1 ∨ (b2.length : Int) ≠ r2 ∨ okL b1 = false ∨ okL b2 = false) : pupE r1 c1 a1 r2 c2 a2 b1 b2 = 5 := by
  unfold pupE; rw [if_neg (by simp [h]), if_neg (by simp [h']), if_pos hb]
theorem pupE_4 {r1 c1 : Int} {a1 : List Int} {r2 c2 : Int} {a2 b1 b2 : List Int} (h : matE r1 c1 a1 = 0) (h' : matE r2 c2 a2 = 0)
    (e1 : c2 = r1) (e2 : (b1.length : Int) = r1) (e3 : (b2.length : Int) = r2) (e4 : okL b1 = true) (e5 : okL b2 = true) : pupE r1 c1 a1 r2 c2 a2 b1 b2 = 0 := by
  unfold pupE; rw [if_neg (by simp [h]), if_neg (by simp [h']), if_neg (by simp [e1, e2, e3, e4, e5])]
theorem pupE_ok {r1 c1 : Int} {a1 : List Int} {r2 c2 : Int} {a2 b1 b2 : List Int} (h : pupE r1 c1 a1 r2 c2 a2 b1 b2 = 0) :
    matE r1 c1 a1 = 0 ∧ matE r2 c2 a2 = 0 ∧ c2 = r1 ∧ (b1.length : Int) = r1 ∧ (b2.length : Int) = r2 ∧ okL b1 = true ∧ okL b2 = true := by
  by_cases h1 : matE r1 c1 a1 = 0
  · by_cases h2 : matE r2 c2 a2 = 0
    · by_cases h3 : c2 ≠ r1 ∨ (b1.length : Int) ≠ r1 ∨ (b2.length : Int) ≠ r2 ∨ okL b1 = false ∨ okL b2 = false
      · rw [pupE_3 h1 h2 h3] at h; omega
      · simp only [not_or, Bool.not_eq_false, ne_eq, Decidable.not_not] at h3
        obtain ⟨q1, q2, q3, q4, q5⟩ := h3
        exact ⟨h1, h2, q1, q2, q3, q4, q5⟩
    · rw [pupE_2 h1 h2] at h; exact absurd h h2
  · rw [pupE_1 h1] at h; exact absurd h h1

theorem okL_append (a b : List Int) : okL (a ++ b) = (okL a && okL b) := by unfold okL; rw [List.all_append]
theorem flatP_ok {a1 b1 a2 b2 : List Int} (h1 : okL a1 = true) (h2 : okL b1 = true) (h3 : okL a2 = true) (h4 : okL b2 = true) : okL (flatP a1 b1 a2 b2) = true := by
  unfold flatP
  rw [okL_append, okL_append, okL_append, h1, h2, h3, h4]; rfl
theorem flatP_length (a1 b1 a2 b2 : List Int) : (flatP a1 b1 a2 b2).length = a1.length + b1.length + a2.length + b2.length := by simp [flatP]; omega
theorem flatP_take1 (a1 b1 a2 b2 : List Int) : (flatP a1 b1 a2 b2).take a1.length = a1 := by
  unfold flatP
  rw [List.append_assoc, List.append_assoc, List.take_left]
theorem flatP_take2 (a1 b1 a2 b2 : List Int) : ((flatP a1 b1 a2 b2).drop a1.length).take b1.length = b1 := by
  unfold flatP
  rw [List.append_assoc, List.append_assoc, List.drop_left, List.take_left]
theorem flatP_take3 (a1 b1 a2 b2 : List Int) : ((flatP a1 b1 a2 b2).drop (a1.length + b1.length)).take a2.length = a2 := by
  unfold flatP
  rw [List.append_assoc (a1 ++ b1), List.drop_append_of_le_length (by simp), List.drop_of_length_le (by simp), List.nil_append, List.take_left]
theorem flatP_take4 (a1 b1 a2 b2 : List Int) : (flatP a1 b1 a2 b2).drop (a1.length + b1.length + a2.length) = b2 := by
  unfold flatP
  rw [List.drop_append_of_le_length (by simp; omega), List.drop_of_length_le (by simp; omega), List.nil_append]
end Go.Proofs.Ytejkkbjepgghlaa.Pl
