/- The law TreeBinds holds of the given program for every input. No condition. -/
import Derived.Test.YtblkpibbcapdeaaBindW
import Derived.Test.YtblkpibbcapdeaaGrown
import Derived.Test.YtblkpibbcapdeaaSpot
import Derived.Test.YtblkpibbcapdeaaArgs
namespace Go.Proofs.Ytblkpibbcapdeaa
open Go.ChangeShapes Go.WideShapes Go.ChangeAt Go.RowKit Pl

theorem Heaps.at {B : Nat} {row : Nat → List Int} {k g c : Nat} {w : World} (h : Heaps B row k (.slice (some ⟨g, 0, none⟩) k c) w) {j : Nat} (hj : j < k) :
    ∃ b s, w.cell? ⟨g, j, none⟩ = some (.slice (some ⟨b, 0, none⟩) (row j).length s) ∧ Ints .u64 w (some ⟨b, 0, none⟩) (row j).length (row j) ∧ (row j).length ≤ s ∧ g < w.heap.size := by
  obtain ⟨vs, hl, ho, hp⟩ := h.len
  obtain ⟨b, s, hv, hi, hs, _⟩ := hp j hj
  refine ⟨b, s, ?_, hi, hs, (ho.lt g rfl).2⟩
  rw [ho.cellAt j (by omega), List.getElem?_eq_getElem (by omega), ← hv, List.getElem?_eq_getElem (by omega)]
  rfl
theorem opens_nat {i n : Int} {L m : Nat} (hE : opensE i n L m = 0) : 0 ≤ i ∧ 1 ≤ n := by
  have hc : climbE i n L = 0 := by
    unfold opensE at hE
    by_cases h : climbE i n L = 0
    · exact h
    · rw [if_pos h] at hE; exact hE
  obtain ⟨⟨⟨n1, n2⟩, i1, i2⟩, _⟩ := climbE_ok hc
  exact ⟨i1, n1⟩
/-- Two lists of u64s are held against each other: what the call answers, told ahead. -/
theorem equalU_told {A B : Option Addr} {n m c d : Nat} {xs ys : List Int} {r : Bool} (hr : decide (xs = ys) = r) {w : World} (hx : Ints .u64 w A n xs) (hy : Ints .u64 w B m ys) (hn : n ≤ 9223372036854775806) :
    Calls Try.prog 28 #[.slice A n c, .slice B m d] w fun e w' => e = .returned (.bool r) ∧ Quiet w w' := by
  rw [← hr]
  exact equalU_any A B n c d m xs ys w hx hy hn
theorem opens_up {root : Int} {k N : Nat} {a p : List Int} (hE : opensE k N p.length a.length = 0) (hO : opensO root k N a p = true) :
    (waysP k ((N + 3) / 4)).length = p.length ∧ (1 ≤ N ∧ N ≤ 200) ∧ k < (N + 3) / 4 ∧ (1 ≤ a.length ∧ a.length ≤ 4) ∧ p.length = deepP k ((N + 3) / 4) ∧ pairI N (climbI (waysP k ((N + 3) / 4)) p (leafR a) (waysP k ((N + 3) / 4)).length) = root % 2305843009213693951 := by
  have hc : climbE k N p.length = 0 := by
    unfold opensE at hE
    by_cases h : climbE (k : Int) (N : Int) p.length = 0
    · exact h
    · rw [if_pos h] at hE; exact hE
  have hm : (a.length : Int) = min 4 ((N : Int) - 4 * (k : Int)) := by
    unfold opensE at hE
    rw [if_neg (by simp [hc])] at hE
    by_cases h : (a.length : Int) = min 4 ((N : Int) - 4 * (k : Int))
    · exact h
    · rw [if_pos h] at hE; omega
  obtain ⟨⟨⟨n1, n2⟩, i1, i2⟩, hd⟩ := climbE_ok hc
  simp only [Int.toNat_natCast] at hd
  have hl : (waysP k ((N + 3) / 4)).length = p.length := hd.symm
  have ha : 1 ≤ a.length ∧ a.length ≤ 4 := by omega
  refine ⟨hl, by omega, by omega, ha, hd, ?_⟩
  have hle : at0 (leavesI a) 0 = leafR a := by
    unfold leavesI
    rw [at0_upto _ (by omega)]
    unfold leafI leafR
    rw [Nat.mul_zero, List.drop_zero, List.take_of_length_le ha.2]
  unfold opensO climbO at hO
  rw [hE, hc, hle] at hO
  simp only [decide_true, Bool.true_and, if_true, Int.toNat_natCast] at hO
  rw [climbI_up _ _ _ hl]
  exact beq_iff_eq.1 hO

end Go.Proofs.Ytblkpibbcapdeaa
