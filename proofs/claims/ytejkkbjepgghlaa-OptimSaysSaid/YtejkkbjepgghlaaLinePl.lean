/- Plain laws about a matrix's lines as the document's own text collects them. No program in sight. -/
import Derived.Test.YtejkkbjepgghlaaVecPl
namespace Go.Proofs.Ytejkkbjepgghlaa.Pl

/-- What has been collected of line k (across: of column k) ahead of row r, column c. -/
def lineA (A : List Int) (cols k : Nat) (across : Bool) (r c : Nat) : List Int :=
  if across then upto (fun r => at0 A (r * cols + k)) (r + if k < c then 1 else 0)
  else if r < k then [] else if r = k then upto (fun c => at0 A (k * cols + c)) c else upto (fun c => at0 A (k * cols + c)) cols
theorem lineA_start (A : List Int) (cols k : Nat) (across : Bool) : lineA A cols k across 0 0 = [] := by
  unfold lineA
  cases across
  · simp only [Bool.false_eq_true, if_false]
    split
    · rfl
    · split
      · rfl
      · omega
  · simp only [if_true, Nat.not_lt_zero, if_false]; rfl
theorem lineA_col_hit (A : List Int) (cols k r : Nat) : lineA A cols k true r (k + 1) = lineA A cols k true r k ++ [at0 A (r * cols + k)] := by
  unfold lineA
  simp only [if_true, Nat.lt_irrefl, if_false, Nat.add_zero]
  rw [if_pos (by omega), upto_succ (fun r => at0 A (r * cols + k)) r]
theorem lineA_col_miss (A : List Int) (cols k r c : Nat) (h : c ≠ k) : lineA A cols k true r (c + 1) = lineA A cols k true r c := by
  unfold lineA
  simp only [if_true]
  by_cases hk : k < c
  · rw [if_pos hk, if_pos (by omega)]
  · rw [if_neg hk, if_neg (by omega)]
theorem lineA_row_hit (A : List Int) (cols k c : Nat) : lineA A cols k false k (c + 1) = lineA A cols k false k c ++ [at0 A (k * cols + c)] := by
  unfold lineA
  simp only [Bool.false_eq_true, if_false, Nat.lt_irrefl, if_true]
  rw [upto_succ (fun c => at0 A (k * cols + c)) c]
theorem lineA_row_miss (A : List Int) (cols k r c : Nat) (h : r ≠ k) : lineA A cols k false r (c + 1) = lineA A cols k false r c := by
  unfold lineA
  simp only [Bool.false_eq_true, if_false, if_neg h]
theorem lineA_next (A : List Int) (cols k r : Nat) (across : Bool) (h : across = true → k < cols) : lineA A cols k across r cols = lineA A cols k across (r + 1) 0 := by
  unfold lineA
  cases across
  · simp only [Bool.false_eq_true, if_false]
    by_cases h1 : r < k
    · rw [if_pos h1]
      by_cases h3 : r + 1 < k
      · rw [if_pos h3]
      · rw [if_neg h3, if_pos (by omega)]; rfl
    · by_cases h2 : r = k
      · rw [if_neg h1, if_pos h2, if_neg (by omega), if_neg (by omega)]
      · rw [if_neg h1, if_neg h2, if_neg (by omega), if_neg (by omega)]
  · have := h rfl
    simp only [if_true, Nat.not_lt_zero, if_false, Nat.add_zero]
    rw [if_pos this]
theorem lineA_col (A : List Int) (cols k rows : Nat) : lineA A cols k true rows 0 = colL A cols rows k := by
  unfold lineA colL
  simp only [if_true, Nat.not_lt_zero, if_false, Nat.add_zero]
theorem lineA_row (A : List Int) (cols k rows : Nat) (h : k < rows) : lineA A cols k false rows 0 = rowL A cols k := by
  unfold lineA rowL
  simp only [Bool.false_eq_true, if_false]
  rw [if_neg (by omega), if_neg (by omega)]
theorem lineA_len (A : List Int) (cols k r c : Nat) (across : Bool) : (lineA A cols k across r c).length ≤ r + c + cols + 1 := by
  unfold lineA
  cases across
  · simp only [Bool.false_eq_true, if_false]
    split
    · simp
    · split <;> rw [upto_length] <;> omega
  · simp only [if_true, upto_length]
    split <;> omega
theorem colL_length (A : List Int) (n m c : Nat) : (colL A n m c).length = m := upto_length _ _
theorem rowL_length (A : List Int) (n r : Nat) : (rowL A n r).length = n := upto_length _ _
theorem mulL_length (A : List Int) (r c : Nat) (v : List Int) : (mulL A r c v).length = r := upto_length _ _
theorem backL_length (A : List Int) (r c : Nat) (v : List Int) : (backL A r c v).length = c := upto_length _ _
theorem outerL_length (a b : List Int) : (outerL a b).length = a.length * b.length := upto_length _ _
/-- A piece of a list, as its row. -/
theorem rowL_cut (A : List Int) (n r : Nat) (h : (r + 1) * n ≤ A.length) : (A.drop (r * n)).take n = rowL A n r := by
  have e : (r + 1) * n = r * n + n := Nat.succ_mul r n
  apply list_ext_at0
  · rw [List.length_take, List.length_drop, rowL_length]; omega
  · intro j hj
    rw [List.length_take, List.length_drop] at hj
    unfold rowL
    rw [at0_upto _ (by omega)]
    unfold at0
    rw [List.getElem?_take, if_pos (by omega), List.getElem?_drop]
end Go.Proofs.Ytejkkbjepgghlaa.Pl
