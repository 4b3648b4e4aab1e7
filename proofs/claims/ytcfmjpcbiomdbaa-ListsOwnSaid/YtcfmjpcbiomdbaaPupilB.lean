/- The law PupilBack holds of the given program for every input. No condition. -/
import Derived.Test.YtcfmjpcbiomdbaaOptC
import Derived.Test.YtcfmjpcbiomdbaaRefPup
import Derived.Test.YtcfmjpcbiomdbaaArgs
import Derived.Deep.DeepCutAuto
import Derived.Deep.CutBlock
namespace Go.Proofs.Ytcfmjpcbiomdbaa
open Go.ChangeShapes Go.WideShapes Go.ChangeAt Go.RowKit Pl

theorem own_cap {w : World} {base : Nat} {e : TypeId} {size : Nat} {A : Option Addr} {n c : Nat} {xs : List Value} (h : w.ownsRow base e size (.slice A n c) n xs) : n ≤ c := by
  rcases h.2 with ⟨e, rfl⟩ | ⟨g, cap, cur, e, _, _, hc, _⟩
  · exact Nat.zero_le _
  · injection e with _ _ e3
    omega
theorem shape_flat {r1 c1 : Int} {a1 : List Int} {r2 c2 : Int} {a2 b1 b2 : List Int} (he : pupE r1 c1 a1 r2 c2 a2 b1 b2 = 0) :
    shapeE c1 r1 r2 (flatP a1 b1 a2 b2) = 0 ∧ shapeO c1 r1 r2 (flatP a1 b1 a2 b2) = ⟨r1, c1, a1, r2, c2, a2, b1, b2⟩ := by
  obtain ⟨h1, h2, h3, h4, h5, h6, h7⟩ := pupE_ok he
  obtain ⟨p1, p2, p3, p4⟩ := matE_ok h1
  obtain ⟨q1, q2, q3, q4⟩ := matE_ok h2
  subst h3
  have e : shapeE c1 c2 r2 (flatP a1 b1 a2 b2) = 0 := by
    rw [shapeE_2 p2 p1 q1, if_neg]
    rw [flatP_ok p4 h6 q4 h7, flatP_length]
    unfold sizeP
    simp only [Bool.true_eq_false, or_false, ne_eq, Decidable.not_not]
    omega
  refine ⟨e, ?_⟩
  unfold shapeO
  rw [if_pos e]
  obtain ⟨c1', rfl⟩ := Int.eq_ofNat_of_zero_le (show 0 ≤ c1 by omega)
  obtain ⟨c2', rfl⟩ := Int.eq_ofNat_of_zero_le (show 0 ≤ c2 by omega)
  obtain ⟨r2', rfl⟩ := Int.eq_ofNat_of_zero_le (show 0 ≤ r2 by omega)
  have n1 : c2' * c1' = a1.length := by rw [← Int.natCast_mul] at p3; omega
  have n2 : r2' * c2' = a2.length := by rw [← Int.natCast_mul] at q3; omega
  have n3 : c2' = b1.length := by omega
  have n4 : (flatP a1 b1 a2 b2).drop (a1.length + b1.length + a2.length) = b2 := flatP_take4 _ _ _ _
  simp only [shapeP, Int.toNat_natCast, n1, n2]
  rw [flatP_take1]
  have e2 : ((flatP a1 b1 a2 b2).drop (a1.length + c2')).take a2.length = a2 := by rw [n3]; exact flatP_take3 _ _ _ _
  have e3 : ((flatP a1 b1 a2 b2).drop a1.length).take c2' = b1 := by rw [n3]; exact flatP_take2 _ _ _ _
  have e4 : ((flatP a1 b1 a2 b2).drop (a1.length + c2' + a2.length)).take r2' = b2 := by rw [n3, n4, List.take_of_length_le (by omega)]
  rw [e2, e3, e4]

theorem pupE_small {r1 c1 : Int} {a1 : List Int} {r2 c2 : Int} {a2 b1 b2 : List Int} (he : pupE r1 c1 a1 r2 c2 a2 b1 b2 = 0) : a1.length ≤ 16 ∧ a2.length ≤ 16 ∧ b1.length ≤ 16 ∧ b2.length ≤ 16 := by
  obtain ⟨h1, h2, h3, h4, h5, h6, h7⟩ := pupE_ok he
  obtain ⟨p1, p2, p3, p4⟩ := matE_ok h1
  obtain ⟨q1, q2, q3, q4⟩ := matE_ok h2
  have s1 := side_mul p1 p2
  have s2 := side_mul q1 q2
  refine ⟨by omega, by omega, by omega, by omega⟩

set_option maxRecDepth 100000 in
set_option maxHeartbeats 1000000 in
theorem shape1234 (A : Option Addr) (w : World) (hx : Ints .i64 w A 4 [1, 2, 3, 4]) : Calls Try.prog 36 #[.int .i64 1, .int .i64 1, .int .i64 1, .slice A 4 4] w fun e w' =>
    ∃ A1 k1 A2 k2 B1 d1 B2 d2, e = .returned (.tuple #[.agg #[.int .i64 1, .int .i64 1, .slice A1 1 k1, .int .i64 1, .int .i64 1, .slice A2 1 k2, .slice B1 1 d1, .slice B2 1 d2], .int .i64 0]) ∧ Ints .i64 w' B1 1 [2] ∧ Ints .i64 w' A2 1 [3] ∧ Below w.heap.size w w' := by
  have e1 : shapeE 1 1 1 [1, 2, 3, 4] = 0 := by decide +kernel
  have e2 : shapeO 1 1 1 [1, 2, 3, 4] = ⟨1, 1, [1], 1, 1, [3], [2], [4]⟩ := by unfold shapeO; rw [if_pos e1]; rfl
  have H := pup_Shape_any 1 1 1 A 4 4 [1, 2, 3, 4] w hx (by omega) (by omega)
  rw [e1, e2] at H
  refine H.mono ?_
  rintro e w1 ⟨A1, k1, A2, k2, B1, d1, B2, d2, rfl, O1, O2, O3, O4, hb⟩
  exact ⟨A1, k1, A2, k2, B1, d1, B2, d2, rfl, Ints.of_own O3 rfl, Ints.of_own O2 rfl, hb⟩

end Go.Proofs.Ytcfmjpcbiomdbaa
