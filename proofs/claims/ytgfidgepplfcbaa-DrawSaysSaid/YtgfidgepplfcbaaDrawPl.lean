/- Plain laws about what comes when: orders, batches. No program in sight. -/
import Derived.Test.YtgfidgepplfcbaaDigPl
namespace Go.Proofs.Ytgfidgepplfcbaa.Pl

def atN (l : List Nat) (k : Nat) : Nat := l[k]?.getD 0
/-- Places i and j change. -/
def swapN (l : List Nat) (i j : Nat) : List Nat := (l.set i (atN l j)).set j (atN l i)
theorem swapN_length (l : List Nat) (i j : Nat) : (swapN l i j).length = l.length := by simp [swapN]
/-- The order behind the first k changes: the first is at place n - 1. -/
def shufN (seed epoch n : Nat) : Nat → List Nat
  | 0 => List.range n
  | k + 1 => swapN (shufN seed epoch n k) (n - 1 - k) (wordP seed (64 * epoch + (n - 1 - k)) % (n - 1 - k + 1))
theorem shufN_length (seed epoch n k : Nat) : (shufN seed epoch n k).length = n := by
  induction k with
  | zero => simp [shufN]
  | succ k ih => simp only [shufN]; rw [swapN_length, ih]
def shufP (seed epoch n : Nat) : List Nat := shufN seed epoch n (n - 1)
theorem shufP_length (seed epoch n : Nat) : (shufP seed epoch n).length = n := shufN_length _ _ _ _

theorem swapN_perm (l : List Nat) (i j : Nat) (hi : i < l.length) (hj : j < l.length) : (swapN l i j).Perm l := by
  unfold swapN atN
  rw [List.getElem?_eq_getElem hi, List.getElem?_eq_getElem hj]
  simp only [Option.getD_some]
  rw [List.perm_iff_count]
  intro a
  rw [List.count_set (by simpa using hj), List.count_set hi]
  by_cases hij : i = j
  · subst hij
    rw [List.getElem_set_self]
    have h1 : 0 < l.count l[i] := List.count_pos_iff.2 (List.getElem_mem hi)
    by_cases ha : l[i] = a
    · subst ha; simp
    · simp [ha]
  · rw [List.getElem_set_ne hij]
    have h1 : 0 < l.count l[i] := List.count_pos_iff.2 (List.getElem_mem hi)
    have h2 : 0 < l.count l[j] := List.count_pos_iff.2 (List.getElem_mem hj)
    by_cases ha : l[i] = a
    · by_cases hb : l[j] = a
      · simp [ha, hb]; rw [ha] at h1; omega
      · simp [ha, hb]; rw [ha] at h1; omega
    · by_cases hb : l[j] = a
      · simp [ha, hb]
      · simp [ha, hb]
theorem shufN_perm (seed epoch n k : Nat) (hk : k ≤ n - 1) : (shufN seed epoch n k).Perm (List.range n) := by
  induction k with
  | zero => exact List.Perm.refl _
  | succ k ih =>
    simp only [shufN]
    refine (swapN_perm _ _ _ ?_ ?_).trans (ih (by omega))
    · rw [shufN_length]; omega
    · rw [shufN_length]; exact Nat.lt_of_lt_of_le (Nat.mod_lt _ (by omega)) (by omega)
theorem shufP_perm (seed epoch n : Nat) : (shufP seed epoch n).Perm (List.range n) := shufN_perm _ _ _ _ (Nat.le_refl _)
theorem shufP_lt (seed epoch n k : Nat) (hn : 0 < n) : atN (shufP seed epoch n) k < n := by
  unfold atN
  cases h : (shufP seed epoch n)[k]? with
  | none => exact hn
  | some x =>
    have := (shufP_perm seed epoch n).mem_iff.1 (List.mem_of_getElem? h)
    simpa using this

/-- The number that comes at time t. -/
def comesP (seed n t : Nat) : Nat := atN (shufP seed (t / n) n) (t % n)
def batchP (seed size n step : Nat) : List Nat := (List.range size).map fun k => comesP seed n (step * size + k)
theorem batchP_length (seed size n step : Nat) : (batchP seed size n step).length = size := by simp [batchP]
theorem comesP_lt (seed n t : Nat) (hn : 0 < n) : comesP seed n t < n := shufP_lt _ _ _ _ hn
end Go.Proofs.Ytgfidgepplfcbaa.Pl
