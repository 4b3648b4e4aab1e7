/- The plain law of the desk's answers: one line each, and what follows is not seen. No program in sight. -/
import Derived.Test.YtaeeonnjkplohaaGreatDoorDskB
namespace Go.Proofs.YtaeeonnjkplohaaGreatDoor
open Go.RowKit Go.Sort Pl

theorem itoa_no10 (n : Int) : (10 : UInt8) ∉ Lib.itoa n := by
  have hd : ∀ k, (10 : UInt8) ∉ Lib.decDigits k := fun k => dec_no 10 (by decide) k
  rcases Int.lt_or_le n 0 with h | h
  · obtain ⟨u, hu⟩ : ∃ u : Nat, n = -(u : Int) := ⟨n.natAbs, by omega⟩
    rw [hu, Lib.itoa_neg u (by omega)]
    intro h
    rcases List.mem_cons.1 h with h | h
    · cases h
    · exact hd u h
  · obtain ⟨u, hu⟩ : ∃ u : Nat, n = (u : Int) := ⟨n.natAbs, by omega⟩
    rw [hu, Lib.itoa_nonneg]
    exact hd u
theorem errT_no10 (e : Int) : (10 : UInt8) ∉ errT e := by
  unfold errT
  intro h
  rcases List.mem_append.1 h with h | h
  · exact absurd h (by decide)
  · exact itoa_no10 e h
theorem okT_no10 : (10 : UInt8) ∉ okT := by decide
theorem join_no10 : ∀ (ws : List (List UInt8)), (∀ p ∈ ws, (10 : UInt8) ∉ p) → (10 : UInt8) ∉ [32].intercalate ws := by
  intro ws h hm
  rw [List.intercalate] at hm
  obtain ⟨l, hl, hx⟩ := List.mem_flatten.1 hm
  have : ∀ (ws : List (List UInt8)), l ∈ List.intersperse [32] ws → l ∈ ws ∨ l = [32] := by
    intro ws
    induction ws with
    | nil => intro h; cases h
    | cons a t ih =>
      cases t with
      | nil => intro h; exact .inl h
      | cons b t =>
        intro h
        rw [List.intersperse_cons_cons] at h
        rcases List.mem_cons.1 h with h | h
        · exact .inl (by rw [h]; simp)
        · rcases List.mem_cons.1 h with h | h
          · exact .inr h
          · rcases ih h with h | h
            · exact .inl (List.mem_cons_of_mem _ h)
            · exact .inr h
  rcases this ws hl with h2 | h2
  · exact h l h2 hx
  · rw [h2] at hx
    exact absurd hx (by decide)
theorem line_no10 (r : Rec) : (10 : UInt8) ∉ (lineT r).dropLast := by
  unfold lineT
  rw [List.dropLast_concat]
  apply join_no10
  intro p hp
  have hd : ∀ k, (10 : UInt8) ∉ Lib.decDigits k := fun k => dec_no 10 (by decide) k
  unfold wordsR at hp
  simp only [List.mem_cons, List.mem_map] at hp
  rcases hp with rfl | rfl | rfl | rfl | ⟨n, _, rfl⟩ <;> exact hd _
theorem verbD_no10 (d : DSt) (v : List UInt8) (n : List Int) : (10 : UInt8) ∉ (verbD d v n).1 := by
  unfold verbD
  split
  · unfold confD
    split
    · exact okT_no10
    · exact errT_no10 _
  split
  · unfold stepD
    split
    · exact errT_no10 _
    split
    · exact errT_no10 _
    split
    · exact errT_no10 _
    · exact line_no10 _
  split
  · exact okT_no10
  split
  · exact okT_no10
  split
  · exact itoa_no10 _
  split
  · show (10 : UInt8) ∉ auditD d
    unfold auditD
    split
    · exact errT_no10 _
    split
    · exact errT_no10 _
    · exact itoa_no10 _
  split
  · show (10 : UInt8) ∉ lossD d (at0 n 0)
    unfold lossD
    split
    · exact errT_no10 _
    split
    · exact errT_no10 _
    split
    · exact errT_no10 _
    · exact itoa_no10 _
  split
  · show (10 : UInt8) ∉ Lib.itoa (d.by_.length : Nat)
    exact itoa_no10 _
  · exact errT_no10 _
theorem lineD_no10 (d : DSt) (v : List UInt8) (w : List (List UInt8)) : (10 : UInt8) ∉ (lineD d v w).1 := by
  unfold lineD
  split
  · unfold moreD
    split
    · exact errT_no10 _
    · split
      · split
        · exact errT_no10 _
        · exact okT_no10
      · exact errT_no10 _
  · split
    · exact errT_no10 _
    · exact verbD_no10 d v _
/-- Whether a line has an answer. -/
def hasA (l : List UInt8) : Bool := match wordsL l with
  | [] => false
  | v :: _ => v.head? != some 35
def cntA (ls : List (List UInt8)) (p : Nat) : Nat := ((ls.take p).filter hasA).length
theorem cntA_succ {ls : List (List UInt8)} {p : Nat} {l : List UInt8} (h : ls[p]? = some l) : cntA ls (p + 1) = if hasA l then cntA ls p + 1 else cntA ls p := by
  unfold cntA
  rw [List.take_add_one, h]
  simp only [Option.toList_some, List.filter_append, List.length_append]
  cases h : hasA l <;> simp [h]
theorem cntA_le (ls : List (List UInt8)) (p : Nat) : cntA ls p ≤ p := Nat.le_trans (List.length_filter_le _ _) (by rw [List.length_take]; omega)
theorem runK_count (ls : List (List UInt8)) : ∀ p, p ≤ ls.length → (runK ls p).1.count 10 = cntA ls p ∧ ((runK ls p).1 = [] ∨ (runK ls p).1.getLast? = some 10)
  | 0, _ => ⟨rfl, .inl rfl⟩
  | p + 1, h => by
    obtain ⟨h1, h2⟩ := runK_count ls p (by omega)
    have he := List.getElem?_eq_getElem (show p < ls.length by omega)
    rw [runK_succ he, cntA_succ he]
    unfold goL hasA
    cases hw : wordsL ls[p] with
    | nil => exact ⟨by rw [h1]; rfl, h2⟩
    | cons v w =>
      simp only
      by_cases h3 : v.head? = some 35
      · have h4 : (v.head? != some 35) = false := by rw [h3]; rfl
        rw [if_pos h3, if_neg (show ¬ (v.head? != some 35) = true by rw [h4]; decide)]
        exact ⟨by rw [h1], h2⟩
      · have h4 : (v.head? != some 35) = true := by simpa using h3
        rw [if_pos h4, if_neg h3]
        refine ⟨?_, .inr ?_⟩
        · rw [List.count_append, List.count_append, h1, List.count_eq_zero.2 (lineD_no10 _ _ _)]
          rfl
        · rw [← List.append_assoc, List.getLast?_concat]
theorem runD_small {s : List UInt8} (h : ¬ (65536 < s.length ∨ 200 < (linesL s).length)) : runD s = (runK (linesL s) (linesL s).length).1 := by
  unfold runD runK
  rw [if_neg h, List.take_length]
theorem runD_big {s : List UInt8} (h : 65536 < s.length ∨ 200 < (linesL s).length) : runD s = tooT := by
  unfold runD
  rw [if_pos h]
theorem runD_one : runD [35, 10, 10, 115, 116, 101, 112] = [101, 114, 114, 111, 114, 32, 49, 10] := by
  have hl : linesL [35, 10, 10, 115, 116, 101, 112] = [[35], [], [115, 116, 101, 112]] := by decide +kernel
  rw [runD_small (by rw [hl]; decide), hl]
  have hw0 : wordsL [35] = [[35]] := by decide +kernel
  have hw1 : wordsL [] = [] := by decide +kernel
  have hw2 : wordsL [115, 116, 101, 112] = [[115, 116, 101, 112]] := by decide +kernel
  unfold runK
  simp only [List.length_cons, List.length_nil, List.take_succ_cons, List.take_zero, List.foldl_cons, List.foldl_nil]
  unfold goL
  rw [hw0, hw1, hw2]
  simp only
  decide +kernel
end Go.Proofs.YtaeeonnjkplohaaGreatDoor
