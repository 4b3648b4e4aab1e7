/- tree.Climb and tree.Path: walks. -/
import Derived.Test.YtaeeonnjkplohaaGreatDoorTreeW
import Derived.StillTailTactics
import Derived.Test.YtaeeonnjkplohaaGreatDoorDrawW
import Derived.BigRegion
import Derived.ChangeAlike
namespace Go.Proofs.YtaeeonnjkplohaaGreatDoor
open Go.RowKit Pl

/-- One step up: whether it goes right. -/
def stepI (r : Bool) (x y : Int) : Int := if r then pairI x y else pairI y x
/-- The last turns first: up from the leaf, k of them. -/
def climbI (ts : List (Bool × Nat × Nat)) (path : List Int) (leaf : Int) : Nat → Int
  | 0 => leaf
  | k + 1 => stepI (ts[ts.length - 1 - k]?.getD (false, 0, 0)).1 (at0 path k) (climbI ts path leaf k)
theorem climbI_u64 (ts : List (Bool × Nat × Nat)) (path : List Int) (leaf : Int) (h : 0 ≤ leaf ∧ leaf < 18446744073709551616) (k : Nat) : 0 ≤ climbI ts path leaf k ∧ climbI ts path leaf k < 18446744073709551616 := by
  cases k with
  | zero => exact h
  | succ k =>
    unfold climbI stepI
    split
    · have := pairI_bd (at0 path k) (climbI ts path leaf k); omega
    · have := pairI_bd (climbI ts path leaf k) (at0 path k); omega
theorem climbI_congr (ts ts' : List (Bool × Nat × Nat)) (path path' : List Int) (leaf : Int) (k : Nat) (h : ∀ j, j < k → (ts[ts.length - 1 - j]?.getD (false, 0, 0)) = (ts'[ts'.length - 1 - j]?.getD (false, 0, 0)) ∧ at0 path j = at0 path' j) : climbI ts path leaf k = climbI ts' path' leaf k := by
  induction k with
  | zero => rfl
  | succ k ih =>
    unfold climbI
    rw [(h k (by omega)).1, (h k (by omega)).2, ih (fun j hj => h j (by omega))]
theorem climbI_up (ts : List (Bool × Nat × Nat)) (path : List Int) (leaf : Int) (h : ts.length = path.length) : climbI ts path leaf ts.length = upG ts path.reverse leaf := by
  induction ts generalizing path with
  | nil =>
    match path, h with
    | [], _ => rfl
  | cons t ts ih =>
    rw [List.length_cons] at h
    rw [rev_last (m := ts.length) (by omega)]
    unfold upG
    rw [← ih (path.take ts.length) (by rw [List.length_take]; omega)]
    rw [List.length_cons]
    conv => lhs; unfold climbI
    have e1 : ((t :: ts)[(t :: ts).length - 1 - ts.length]?.getD (false, 0, 0)) = t := by
      rw [List.length_cons, show ts.length + 1 - 1 - ts.length = 0 by omega]; rfl
    have e2 : climbI (t :: ts) path leaf ts.length = climbI ts (path.take ts.length) leaf ts.length := by
      apply climbI_congr
      intro j hj
      constructor
      · rw [List.length_cons, show ts.length + 1 - 1 - j = (ts.length - 1 - j) + 1 by omega]; rfl
      · rw [at0_take hj]
    rw [e1, e2]
    rfl

theorem turnsV_right (ts : List (Bool × Nat × Nat)) {j : Nat} (h : j < ts.length) : (turnsV ts)[j * 3]? = some (.bool (ts[j]?.getD (false, 0, 0)).1) := by
  have := turnsV_at ts h 0 (by omega)
  rw [Nat.add_zero] at this
  rw [this, List.getElem?_eq_getElem h]; rfl
end Go.Proofs.YtaeeonnjkplohaaGreatDoor

/- slices.Reverse over a list of the call's own; tree.Path: walks. -/
namespace Go.Proofs.YtaeeonnjkplohaaGreatDoor
open Go.RowKit Pl

/-- k exchanges from both ends. -/
def revK (xs : List Int) (k : Nat) : List Int := upto (fun j => if j < k ∨ xs.length ≤ j + k then at0 xs (xs.length - 1 - j) else at0 xs j) xs.length
theorem revK_length (xs : List Int) (k : Nat) : (revK xs k).length = xs.length := upto_length _ _
theorem revK_zero (xs : List Int) : revK xs 0 = xs := by
  apply list_ext_at0 (revK_length _ _)
  intro j hj
  rw [revK_length] at hj
  unfold revK
  rw [at0_upto _ hj, if_neg (by omega)]
theorem at0_set (xs : List Int) (i j : Nat) (v : Int) : at0 (xs.set i v) j = if i = j ∧ j < xs.length then v else at0 xs j := by
  unfold at0
  rw [List.getElem?_set]
  split
  · rename_i h
    subst h
    by_cases h2 : i < xs.length
    · simp [h2]
    · simp [h2]
  · rename_i h
    rw [if_neg (by omega)]
theorem revK_step (xs : List Int) (k : Nat) (h : 2 * k + 1 < xs.length) :
    ((revK xs k).set k (at0 xs (xs.length - 1 - k))).set (xs.length - 1 - k) (at0 xs k) = revK xs (k + 1) := by
  apply list_ext_at0 (by rw [List.length_set, List.length_set, revK_length, revK_length])
  intro j hj
  rw [List.length_set, List.length_set, revK_length] at hj
  rw [at0_set, at0_set, List.length_set, revK_length]
  unfold revK
  rw [at0_upto _ hj, at0_upto _ hj]
  by_cases h1 : xs.length - 1 - k = j
  · rw [if_pos ⟨h1, hj⟩, if_pos (by omega), ← h1, show xs.length - 1 - (xs.length - 1 - k) = k by omega]
  · rw [if_neg (by omega)]
    by_cases h2 : k = j
    · rw [if_pos ⟨h2, hj⟩, if_pos (by omega), h2]
    · rw [if_neg (by omega)]
      by_cases h3 : j < k ∨ xs.length ≤ j + k
      · rw [if_pos h3, if_pos (by omega)]
      · rw [if_neg h3, if_neg (by omega)]
theorem revK_end (xs : List Int) (k : Nat) (h : xs.length ≤ 2 * k + 1) : revK xs k = xs.reverse := by
  apply list_ext_at0 (by rw [revK_length, List.length_reverse])
  intro j hj
  rw [revK_length] at hj
  unfold revK
  rw [at0_upto _ hj]
  have e : at0 xs.reverse j = at0 xs (xs.length - 1 - j) := by
    unfold at0
    rw [List.getElem?_reverse hj]
  rw [e]
  by_cases h3 : j < k ∨ xs.length ≤ j + k
  · rw [if_pos h3]
  · rw [if_neg h3, show xs.length - 1 - j = j by omega]
theorem revK_at (xs : List Int) (k j : Nat) (h : ¬ (j < k ∨ xs.length ≤ j + k)) (hj : j < xs.length) : at0 (revK xs k) j = at0 xs j := by
  unfold revK
  rw [at0_upto _ hj, if_neg h]

end Go.Proofs.YtaeeonnjkplohaaGreatDoor

/- tree.Path: a walk. -/
namespace Go.Proofs.YtaeeonnjkplohaaGreatDoor
open Go.RowKit Pl

/-- On the way down: the leaves that are left, what stands beside the turns so far. -/
def PathR (w : World) (ts : List (Bool × Nat × Nat)) (D : List Int) (k : Nat) (xv ov : Value) (wr : World) : Prop :=
  ∃ (i' n' c' b off : Nat) (l pre : List Int), ts.drop k = waysP i' n' ∧ l.length = n' ∧ 1 ≤ n' ∧ n' ≤ 50 ∧ n' ≤ c' ∧ U64 l ∧ pre.length = k ∧ D = pre ++ downI (ts.drop k) l ∧ xv = .slice (some ⟨b, off, none⟩) n' c' ∧
    Ints .u64 w (some ⟨b, off, none⟩) n' l ∧ wr.ownsRow w.heap.size 22 1 ov k (pre.map (.int .u64)) ∧ Below w.heap.size w wr
theorem ways_cells (ts : List (Bool × Nat × Nat)) {k i' n' : Nat} (h : ts.drop k = waysP i' n') (h2 : 2 ≤ n') :
    k < ts.length ∧ ∃ r : Bool, (r = true ↔ half n' ≤ i') ∧ ts[k]? = some (r, half n', n' - half n') ∧ ts.drop (k + 1) = if r then waysP (i' - half n') (n' - half n') else waysP i' (half n') := by
  rw [waysP_more i' h2] at h
  have hk : k < ts.length := by
    rcases Nat.lt_or_ge k ts.length with hlt | hge
    · exact hlt
    · rw [List.drop_eq_nil_of_le hge] at h
      split at h <;> simp at h
  refine ⟨hk, ?_⟩
  rw [List.drop_eq_getElem_cons hk] at h
  by_cases hc : half n' ≤ i'
  · rw [if_pos hc] at h
    injection h with h1 h3
    exact ⟨true, by simp [hc], by rw [List.getElem?_eq_getElem hk, h1], by rw [h3]; rfl⟩
  · rw [if_neg hc] at h
    injection h with h1 h3
    exact ⟨false, by simp [hc], by rw [List.getElem?_eq_getElem hk, h1], by rw [h3]; rfl⟩
theorem turnsV_cells (ts : List (Bool × Nat × Nat)) {k p m : Nat} {r : Bool} (h : ts[k]? = some (r, p, m)) :
    (turnsV ts)[k * 3]? = some (.bool r) ∧ (turnsV ts)[k * 3 + 1]? = some (.int .i64 (p : Nat)) ∧ (turnsV ts)[k * 3 + 2]? = some (.int .i64 (m : Nat)) := by
  obtain ⟨hk, e⟩ := List.getElem?_eq_some_iff.1 h
  have a := turnsV_at ts hk 0 (by omega)
  have b := turnsV_at ts hk 1 (by omega)
  have c := turnsV_at ts hk 2 (by omega)
  rw [e] at a b c
  exact ⟨a, b, c⟩

end Go.Proofs.YtaeeonnjkplohaaGreatDoor

/- What tree.Path and tree.Climb answer, right or wrong: walks. -/
namespace Go.Proofs.YtaeeonnjkplohaaGreatDoor
open Go.RowKit Pl

theorem inB_iffT {n lo hi : Int} : inB n lo hi = true ↔ lo ≤ n ∧ n ≤ hi := by unfold inB; exact decide_eq_true_iff

/-- Is it a leaf of a list that may be? -/
def climbB (i n : Int) : Prop := (1 ≤ n ∧ n ≤ 200) ∧ 0 ≤ i ∧ i < (n + 3) / 4
instance (i n : Int) : Decidable (climbB i n) := by unfold climbB; infer_instance
def climbE (i n : Int) (L : Nat) : Int := if climbB i n then (if L = deepP i.toNat ((n.toNat + 3) / 4) then 0 else 5) else 1
def climbO (i n leaf : Int) (path : List Int) : Int := if climbE i n path.length = 0 then pairI n (upI i.toNat ((n.toNat + 3) / 4) leaf path) else 0
end Go.Proofs.YtaeeonnjkplohaaGreatDoor
