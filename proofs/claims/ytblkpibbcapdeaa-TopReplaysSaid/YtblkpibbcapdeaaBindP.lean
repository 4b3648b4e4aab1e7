/- What was digested on the way up to a root, plainly: two ways up to one root that part tell two unlike lists of which the same is made. -/
import Derived.Test.YtblkpibbcapdeaaTreeC
namespace Go.Proofs.Ytblkpibbcapdeaa
open Go.RowKit Pl

theorem pairI_mod_l {a b : Int} (h : 0 ≤ a) : pairI (a % 2305843009213693951) b = pairI a b := by
  have e : (a % 2305843009213693951).toNat = a.toNat % P61 := by show _ = _ % 2305843009213693951; omega
  unfold pairI ofI nats
  simp only [List.map_cons, List.map_nil]
  rw [e, ← ofP_mod _ [a.toNat % P61, b.toNat], ← ofP_mod _ [a.toNat, b.toNat]]
  simp only [List.map_cons, List.map_nil, Nat.mod_mod]
theorem pairI_mod_r {a b : Int} (h : 0 ≤ b) : pairI a (b % 2305843009213693951) = pairI a b := by
  have e : (b % 2305843009213693951).toNat = b.toNat % P61 := by show _ = _ % 2305843009213693951; omega
  unfold pairI ofI nats
  simp only [List.map_cons, List.map_nil]
  rw [e, ← ofP_mod _ [a.toNat, b.toNat % P61], ← ofP_mod _ [a.toNat, b.toNat]]
  simp only [List.map_cons, List.map_nil, Nat.mod_mod]
/-- What is made of a kind and a list. -/
def madeI (l : List Int) : Int := ofI (at0 l 0) (l.drop 1)
/-- Does turn k, from the leaf on, go right? -/
def rightB (ts : List (Bool × Nat × Nat)) (k : Nat) : Bool := (ts[ts.length - 1 - k]?.getD (false, 0, 0)).1
/-- The pair that is digested at turn k, from the leaf on. -/
def turnR (ts : List (Bool × Nat × Nat)) (path : List Int) (leaf : Int) (k : Nat) : List Int :=
  if rightB ts k then [3, at0 path k % 2305843009213693951, climbI ts path leaf k] else [3, climbI ts path leaf k, at0 path k % 2305843009213693951]
def leafR (chunk : List Int) : Int := ofI 4 (numL chunk)
/-- All that is digested on the way up. -/
def rowR (ts : List (Bool × Nat × Nat)) (n : Int) (chunk path : List Int) (k : Nat) : List Int :=
  if k = 0 then 4 :: numL chunk else if k ≤ ts.length then turnR ts path (leafR chunk) (k - 1) else [3, n, climbI ts path (leafR chunk) ts.length]
theorem rowR_zero (ts : List (Bool × Nat × Nat)) (n : Int) (chunk path : List Int) : rowR ts n chunk path 0 = 4 :: numL chunk := rfl
theorem rowR_turn {ts : List (Bool × Nat × Nat)} (n : Int) (chunk path : List Int) {k : Nat} (h : k < ts.length) : rowR ts n chunk path (k + 1) = turnR ts path (leafR chunk) k := by
  unfold rowR; rw [if_neg (by omega), if_pos (by omega)]; rfl
theorem rowR_last (ts : List (Bool × Nat × Nat)) (n : Int) (chunk path : List Int) : rowR ts n chunk path (ts.length + 1) = [3, n, climbI ts path (leafR chunk) ts.length] := by
  unfold rowR; rw [if_neg (by omega), if_neg (by omega)]
theorem climbI_succ (ts : List (Bool × Nat × Nat)) (path : List Int) (leaf : Int) (k : Nat) : climbI ts path leaf (k + 1) = stepI (rightB ts k) (at0 path k) (climbI ts path leaf k) := rfl
theorem made_turn (ts : List (Bool × Nat × Nat)) {path : List Int} (hp : U64 path) (leaf : Int) (k : Nat) : madeI (turnR ts path leaf k) = climbI ts path leaf (k + 1) := by
  rw [climbI_succ]
  unfold turnR
  cases rightB ts k
  · show pairI (climbI ts path leaf k) (at0 path k % 2305843009213693951) = pairI (climbI ts path leaf k) (at0 path k)
    exact pairI_mod_r (hp k).1
  · show pairI (at0 path k % 2305843009213693951) (climbI ts path leaf k) = pairI (at0 path k) (climbI ts path leaf k)
    exact pairI_mod_l (hp k).1
theorem turn_apart {ts : List (Bool × Nat × Nat)} {p q : List Int} {x y : Int} {k : Nat} (h : climbI ts p x k ≠ climbI ts q y k) : turnR ts p x k ≠ turnR ts q y k := by
  unfold turnR
  cases rightB ts k
  · intro e
    simp only [Bool.false_eq_true, if_false, List.cons.injEq] at e
    exact h e.2.1
  · intro e
    simp only [if_true, List.cons.injEq] at e
    exact h e.2.2.1
/-- Two ways up to one root that part. -/
theorem binds {ts : List (Bool × Nat × Nat)} {n : Int} {a b p q : List Int} (hp : U64 p) (hq : U64 q) (h0 : rowR ts n a p 0 ≠ rowR ts n b q 0)
    (hr : pairI n (climbI ts p (leafR a) ts.length) = pairI n (climbI ts q (leafR b) ts.length)) (hall : ∀ k, k < ts.length + 2 → rowR ts n a p k ≠ rowR ts n b q k → madeI (rowR ts n a p k) ≠ madeI (rowR ts n b q k)) : False := by
  have hs : ∀ k, k ≤ ts.length → climbI ts p (leafR a) k ≠ climbI ts q (leafR b) k := by
    intro k
    induction k with
    | zero => intro _; exact hall 0 (by omega) h0
    | succ k ih =>
      intro hk
      have h1 := turn_apart (ih (by omega))
      rw [← rowR_turn n a p (by omega), ← rowR_turn n b q (by omega)] at h1
      have h2 := hall (k + 1) (by omega) h1
      rw [rowR_turn n a p (by omega), rowR_turn n b q (by omega), made_turn ts hp, made_turn ts hq] at h2
      exact h2
  have h1 := hs ts.length (Nat.le_refl _)
  refine hall (ts.length + 1) (by omega) ?_ ?_
  · rw [rowR_last, rowR_last]
    intro e
    simp only [List.cons.injEq] at e
    exact h1 e.2.2.1
  · rw [rowR_last, rowR_last]
    exact hr
theorem rowR_len (ts : List (Bool × Nat × Nat)) (n : Int) (chunk path : List Int) (h0 : 1 ≤ chunk.length) (h : chunk.length ≤ 4) (k : Nat) : 2 ≤ (rowR ts n chunk path k).length ∧ (rowR ts n chunk path k).length ≤ 5 := by
  unfold rowR
  split
  · rw [List.length_cons, numL_length]; omega
  · split
    · unfold turnR; split <;> simp
    · simp
theorem U64.three {x y z : Int} (hx : 0 ≤ x ∧ x < 18446744073709551616) (hy : 0 ≤ y ∧ y < 18446744073709551616) (hz : 0 ≤ z ∧ z < 18446744073709551616) : U64 [x, y, z] := .cons hx.1 hx.2 (.cons hy.1 hy.2 (.cons hz.1 hz.2 .nil))
theorem rowR_u64 (ts : List (Bool × Nat × Nat)) {n : Int} (chunk : List Int) {path : List Int} (hn : 0 ≤ n ∧ n < 18446744073709551616) (k : Nat) : U64 (rowR ts n chunk path k) := by
  have hl : 0 ≤ leafR chunk ∧ leafR chunk < 18446744073709551616 := ⟨ofI_lo _ _, by have := ofI_hi 4 (numL chunk); unfold leafR; omega⟩
  have hc := fun j => climbI_u64 ts path (leafR chunk) hl j
  have hm : ∀ j, 0 ≤ at0 path j % 2305843009213693951 ∧ at0 path j % 2305843009213693951 < 18446744073709551616 := fun j => by omega
  unfold rowR
  split
  · exact .cons (by omega) (by omega) (numL_u64 _)
  · split
    · unfold turnR; split
      · exact .three (by omega) (hm _) (hc _)
      · exact .three (by omega) (hc _) (hm _)
    · exact .three (by omega) hn (hc _)
end Go.Proofs.Ytblkpibbcapdeaa
