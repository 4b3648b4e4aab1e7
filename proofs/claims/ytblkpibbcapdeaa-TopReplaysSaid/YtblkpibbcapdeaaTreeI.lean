/- Plain laws about trees of leaves, over numbers as the program has them: what is made of leaves, ways, ways up. -/
import Derived.Test.YtblkpibbcapdeaaDigN
import Derived.Test.YtblkpibbcapdeaaPl
namespace Go.Proofs.Ytblkpibbcapdeaa
open Go.RowKit Pl

theorem at0_drop (l : List Int) (i j : Nat) : at0 (l.drop i) j = at0 l (i + j) := by unfold at0; rw [List.getElem?_drop]
theorem at0_take {l : List Int} {i j : Nat} (h : j < i) : at0 (l.take i) j = at0 l j := by unfold at0; rw [List.getElem?_take, if_pos h]
theorem at0_take' (l : List Int) (i j : Nat) : at0 (l.take i) j = if j < i then at0 l j else 0 := by
  unfold at0; rw [List.getElem?_take]; split <;> rfl
theorem at0_nil (j : Nat) : at0 [] j = 0 := rfl
theorem U64.take {l : List Int} (h : U64 l) (i : Nat) : U64 (l.take i) := fun k => by
  rw [at0_take']
  split
  · exact h k
  · omega
theorem U64.drop {l : List Int} (h : U64 l) (i : Nat) : U64 (l.drop i) := fun k => by rw [at0_drop]; exact h _
theorem pairI_bd (a b : Int) : 0 ≤ pairI a b ∧ pairI a b < 2305843009213693951 := ⟨ofI_lo _ _, ofI_hi _ _⟩

def treeG : Nat → List Int → Int
  | 0, _ => 0
  | f + 1, l => if l.length ≤ 1 then at0 l 0 else pairI (treeG f (l.take (half l.length))) (treeG f (l.drop (half l.length)))
def treeI (l : List Int) : Int := treeG l.length l
theorem treeG_more (f : Nat) : ∀ (l : List Int), l.length ≤ f → 1 ≤ l.length → treeG f l = treeI l := by
  induction f using Nat.strongRecOn with
  | ind f ih =>
    intro l hl h1
    obtain ⟨g, rfl⟩ : ∃ g, f = g + 1 := ⟨f - 1, by omega⟩
    unfold treeI
    obtain ⟨n, hn⟩ : ∃ n, l.length = n + 1 := ⟨l.length - 1, by omega⟩
    rw [hn]
    simp only [treeG]
    split
    · rfl
    · rename_i hgt
      have a := half_lt (n := l.length) (by omega)
      have b := half_pos l.length
      have t1 : (l.take (half l.length)).length = half l.length := by rw [List.length_take]; omega
      have t2 : (l.drop (half l.length)).length = l.length - half l.length := List.length_drop
      rw [ih g (by omega) _ (by omega) (by omega), ih g (by omega) _ (by omega) (by omega)]
      by_cases hg : n < g + 1
      · rw [ih n (by omega) _ (by omega) (by omega), ih n (by omega) _ (by omega) (by omega)]
      · omega
theorem treeI_one {l : List Int} (h : l.length = 1) : treeI l = at0 l 0 := by
  unfold treeI; rw [h]; simp only [treeG]; rw [if_pos (by omega)]
theorem treeI_more {l : List Int} (h : 2 ≤ l.length) : treeI l = pairI (treeI (l.take (half l.length))) (treeI (l.drop (half l.length))) := by
  have a := half_lt h
  have b := half_pos l.length
  have t1 : (l.take (half l.length)).length = half l.length := by rw [List.length_take]; omega
  have t2 : (l.drop (half l.length)).length = l.length - half l.length := List.length_drop
  rw [← treeG_more l.length l (Nat.le_refl _) (by omega)]
  obtain ⟨n, hn⟩ : ∃ n, l.length = n + 1 := ⟨l.length - 1, by omega⟩
  conv => lhs; rw [hn]
  simp only [treeG]
  rw [if_neg (by omega), treeG_more n _ (by omega) (by omega), treeG_more n _ (by omega) (by omega)]

theorem treeI_u64 : ∀ {l : List Int}, U64 l → 1 ≤ l.length → 0 ≤ treeI l ∧ treeI l < 18446744073709551616 := by
  intro l h h1
  rcases Nat.lt_or_ge l.length 2 with h2 | h2
  · rw [treeI_one (by omega)]; exact h 0
  · rw [treeI_more h2]
    have := pairI_bd (treeI (l.take (half l.length))) (treeI (l.drop (half l.length)))
    omega

/-- What stands beside the way, from the root down. -/
def downI : List (Bool × Nat × Nat) → List Int → List Int
  | [], _ => []
  | t :: ts, l => if t.1 then treeI (l.take t.2.1) :: downI ts (l.drop t.2.1) else treeI (l.drop t.2.1) :: downI ts (l.take t.2.1)
def wayI (l : List Int) (i : Nat) : List Int := (downI (waysP i l.length) l).reverse
/-- Up again: the turns and what stands beside them, from the root down. -/
def upG : List (Bool × Nat × Nat) → List Int → Int → Int
  | t :: ts, x :: xs, leaf => if t.1 then pairI x (upG ts xs leaf) else pairI (upG ts xs leaf) x
  | _, _, leaf => leaf
def upI (i n : Nat) (leaf : Int) (way : List Int) : Int := upG (waysP i n) way.reverse leaf
theorem downI_length (ts : List (Bool × Nat × Nat)) (l : List Int) : (downI ts l).length = ts.length := by
  induction ts generalizing l with
  | nil => rfl
  | cons t ts ih => unfold downI; split <;> simp [ih]
theorem wayI_length (l : List Int) (i : Nat) : (wayI l i).length = deepP i l.length := by simp [wayI, downI_length, deepP]

/-- MERKLE: from each leaf, by its way, one comes to the tree. -/
theorem upG_tree (n : Nat) : ∀ (l : List Int) (i : Nat), l.length = n → i < n → upG (waysP i n) (downI (waysP i n) l) (at0 l i) = treeI l := by
  induction n using Nat.strongRecOn with
  | ind n ih =>
    intro l i hl hi
    by_cases h1 : n ≤ 1
    · rw [waysP_one i h1, treeI_one (by omega)]
      have : i = 0 := by omega
      subst this
      rfl
    · have a := half_lt (n := n) (by omega)
      have b := half_pos n
      rw [waysP_more i (by omega), treeI_more (by omega), hl]
      split
      · rename_i hc
        simp only [downI, upG, if_true]
        have := ih (n - half n) (by omega) (l.drop (half n)) (i - half n) (by rw [List.length_drop]; omega) (by omega)
        rw [at0_drop, show half n + (i - half n) = i by omega] at this
        rw [this]
      · rename_i hc
        simp only [downI, upG, Bool.false_eq_true, if_false]
        have := ih (half n) (by omega) (l.take (half n)) i (by rw [List.length_take]; omega) (by omega)
        rw [at0_take (by omega)] at this
        rw [this]
theorem upG_u64 (ts : List (Bool × Nat × Nat)) (xs : List Int) (leaf : Int) (h : 0 ≤ leaf ∧ leaf < 18446744073709551616) : 0 ≤ upG ts xs leaf ∧ upG ts xs leaf < 18446744073709551616 := by
  cases ts with
  | nil => exact h
  | cons t ts =>
    cases xs with
    | nil => exact h
    | cons x xs =>
      unfold upG
      split
      · have := pairI_bd x (upG ts xs leaf); omega
      · have := pairI_bd (upG ts xs leaf) x; omega
theorem upI_way (l : List Int) (i : Nat) (hi : i < l.length) : upI i l.length (at0 l i) (wayI l i) = treeI l := by
  unfold upI wayI
  rw [List.reverse_reverse]
  exact upG_tree _ l i rfl hi

/-- The leaves of a list: of each four numbers one. -/
def leafI (xs : List Int) (j : Nat) : Int := ofI 4 (numL ((xs.drop (4 * j)).take 4))
def leavesI (xs : List Int) : List Int := upto (leafI xs) ((xs.length + 3) / 4)
theorem leavesI_length (xs : List Int) : (leavesI xs).length = (xs.length + 3) / 4 := upto_length _ _
theorem leavesI_u64 (xs : List Int) : U64 (leavesI xs) := fun k => by
  unfold leavesI
  rcases Nat.lt_or_ge k ((xs.length + 3) / 4) with h | h
  · rw [at0_upto _ h]
    have h1 := ofI_lo 4 (numL ((xs.drop (4 * k)).take 4))
    have h2 := ofI_hi 4 (numL ((xs.drop (4 * k)).take 4))
    unfold leafI; omega
  · unfold at0
    rw [List.getElem?_eq_none (by rw [upto_length]; exact h)]
    exact ⟨Int.le_refl _, by show (0 : Int) < _; omega⟩
/-- What the root of a list is. -/
def rootI (xs : List Int) : Int := pairI xs.length (treeI (leavesI xs))
def lvE (n : Nat) : Int := if n = 0 then 1 else if 200 < n then 2 else 0
def lvO (xs : List Int) : List Int := if lvE xs.length = 0 then leavesI xs else []
def rootO (xs : List Int) : Int := if lvE xs.length = 0 then rootI xs else 0
theorem lvE_ok {n : Nat} (h : lvE n = 0) : 1 ≤ n ∧ n ≤ 200 := by
  unfold lvE at h
  split at h
  · omega
  · split at h <;> omega
/-- Paths: what is told beside an error. -/
def pathE (n : Nat) (i : Int) : Int := if lvE n ≠ 0 then lvE n else if inB i 0 (((n + 3) / 4 : Nat) - 1 : Int) = true then 0 else 1
def pathO (xs : List Int) (i : Int) : List Int := if pathE xs.length i = 0 then wayI (leavesI xs) i.toNat else []
end Go.Proofs.Ytblkpibbcapdeaa
