/- Small parts of the laws on trees: a small tree is told; lists that aren't too long; rests: walks. -/
import Derived.Test.YtaeeonnjkplohaaGreatDoorTreeC
import Derived.Test.YtaeeonnjkplohaaGreatDoorArgs
import Derived.Deep.DeepCutAuto
import Derived.Deep.CutBlock
import Derived.Outline
namespace Go.Proofs.YtaeeonnjkplohaaGreatDoor
open Go.ChangeShapes Go.WideShapes Go.ChangeAt Go.RowKit Pl

theorem downI_u64 (ts : List (Bool × Nat × Nat)) : ∀ {l : List Int} {x : Int}, U64 l → x ∈ downI ts l → 0 ≤ x ∧ x < 18446744073709551616 := by
  have tr : ∀ {l : List Int}, U64 l → 0 ≤ treeI l ∧ treeI l < 18446744073709551616 := fun {l} h => by
    rcases Nat.eq_zero_or_pos l.length with h0 | h0
    · rw [List.eq_nil_of_length_eq_zero h0]; exact ⟨Int.le_refl _, by show (0 : Int) < _; omega⟩
    · exact treeI_u64 h h0
  induction ts with
  | nil => intro l x _ h; simp [downI] at h
  | cons t ts ih =>
    intro l x hu h
    unfold downI at h
    split at h
    · rcases List.mem_cons.1 h with rfl | h
      · exact tr (hu.take _)
      · exact ih (hu.drop _) h
    · rcases List.mem_cons.1 h with rfl | h
      · exact tr (hu.drop _)
      · exact ih (hu.take _) h
theorem wayI_u64 {l : List Int} {k : Nat} {x : Int} (hu : U64 l) (h : x ∈ wayI l k) : 0 ≤ x ∧ x < 18446744073709551616 := by
  unfold wayI at h
  exact downI_u64 _ hu (List.mem_reverse.1 h)
theorem root5 : rootI [5] = pairI 1 (ofI 4 (numL [5])) := by
  unfold rootI
  rw [treeI_one (by rw [leavesI_length]; rfl)]
  rfl
theorem root5_ne : rootI [5] ≠ 0 := by decide +kernel
/-- A list of some numbers, not too many. -/
def Some60 (w : World) (e : Ending) (w' : World) : Prop := ∃ A n c ys, e = .returned (.slice A n c) ∧ Ints .i64 w' A n ys ∧ 1 ≤ n ∧ n ≤ 60 ∧ n ≤ c ∧ Below w.heap.size w w'
def Rest (m : Nat) (w : World) (e : Ending) (w' : World) : Prop := ∃ r : Nat, r < m ∧ e = .returned (.int .i64 r) ∧ w = w'
set_option maxHeartbeats 1000000 in
theorem ref_Rest (n : Int) (m : Nat) (w : World) (h1 : 1 ≤ m) (h2 : m ≤ 1000000) :
    Calls Tryz.prog 9 #[.int .i64 n, .int .i64 m] w (Rest m w) := by
  have t0 : ¬ (m : Int) = 0 := by omega
  have t1 : ((m : Int) == 0) = false := by rw [beq_eq_false_iff_ne]; omega
  obtain ⟨r, hr⟩ : ∃ r : Int, r = n.tmod (m : Int) := ⟨_, rfl⟩
  have b1 : -(m : Int) < r := by rw [hr]; have := Int.lt_tmod_of_pos n (show (0 : Int) < (m : Int) by omega); omega
  have b2 : r < (m : Int) := by rw [hr]; exact Int.tmod_lt_of_pos n (by omega)
  by_cases h0 : 0 ≤ n
  · have r0 : 0 ≤ r := by rw [hr]; exact Int.tmod_nonneg _ h0
    have e1 : n % (m : Int) = r := by rw [hr, Int.tmod_eq_emod_of_nonneg h0]
    have e2 : n.tmod (m : Int) = r := hr.symm
    clear hr
    go_enter Tryz.func9, Tryz.ntmps9
    go_wp2
    go_ret
    exact ⟨r.toNat, by omega, ret_int (by omega), rfl⟩
  · have e2 : n.tmod (m : Int) = r := hr.symm
    clear hr
    by_cases r0 : r < 0
    · go_enter Tryz.func9, Tryz.ntmps9
      go_wp2
      go_ret
      exact ⟨(r + m).toNat, by omega, ret_int (by omega), rfl⟩
    · go_enter Tryz.func9, Tryz.ntmps9
      go_wp2
      go_ret
      exact ⟨r.toNat, by omega, ret_int (by omega), rfl⟩
end Go.Proofs.YtaeeonnjkplohaaGreatDoor
