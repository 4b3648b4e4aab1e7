/- A pupil in a box; the law's own shape. No program in sight but its numbers. -/
import Derived.Test.YtaeeonnjkplohaaGreatDoorPupShape
import Derived.Test.YtaeeonnjkplohaaGreatDoorPl
namespace Go.Proofs.YtaeeonnjkplohaaGreatDoor
open Go.RowKit Pl

theorem Blk.pup {w : World} {g : Nat} {t : TypeId} {a0 a1 a2 a3 a4 a5 a6 a7 : Value} (h : Blk w g t #[a0, a1, a2, a3, a4, a5, a6, a7]) :
    w.cell? ⟨g, 0, none⟩ = some a0 ∧ w.cell? ⟨g, 1, none⟩ = some a1 ∧ w.cell? ⟨g, 2, none⟩ = some a2 ∧ w.cell? ⟨g, 3, none⟩ = some a3 ∧ w.cell? ⟨g, 4, none⟩ = some a4 ∧ w.cell? ⟨g, 5, none⟩ = some a5 ∧ w.cell? ⟨g, 6, none⟩ = some a6 ∧ w.cell? ⟨g, 7, none⟩ = some a7 :=
  ⟨h.cell 0, h.cell 1, h.cell 2, h.cell 3, h.cell 4, h.cell 5, h.cell 6, h.cell 7⟩
theorem Blk.pupz {w : World} {g : Nat} {t : TypeId} {a0 a1 a2 a3 a4 a5 a6 a7 : Value} (h : Blk w g t #[a0, a1, a2, a3, a4, a5, a6, a7]) :
    w.frozen? ⟨g, 0, none⟩ = false ∧ w.frozen? ⟨g, 1, none⟩ = false ∧ w.frozen? ⟨g, 2, none⟩ = false ∧ w.frozen? ⟨g, 3, none⟩ = false ∧ w.frozen? ⟨g, 4, none⟩ = false ∧ w.frozen? ⟨g, 5, none⟩ = false ∧ w.frozen? ⟨g, 6, none⟩ = false ∧ w.frozen? ⟨g, 7, none⟩ = false :=
  ⟨h.frozen 0, h.frozen 1, h.frozen 2, h.frozen 3, h.frozen 4, h.frozen 5, h.frozen 6, h.frozen 7⟩

/-- A pupil in a box of its own number: its cells, and its lists. -/
def PupBox (w : World) (g : Nat) (P : Pup) : Prop :=
  ∃ A1 k1 A2 k2 B1 d1 B2 d2, Blk w g 155 #[.int .i64 P.r1, .int .i64 P.c1, .slice A1 P.a1.length k1, .int .i64 P.r2, .int .i64 P.c2, .slice A2 P.a2.length k2, .slice B1 P.b1.length d1, .slice B2 P.b2.length d2] ∧
    Ints .i64 w A1 P.a1.length P.a1 ∧ Ints .i64 w A2 P.a2.length P.a2 ∧ Ints .i64 w B1 P.b1.length P.b1 ∧ Ints .i64 w B2 P.b2.length P.b2
theorem PupBox.zero {w : World} {g : Nat} (h : Blk w g 155 #[.int .i64 0, .int .i64 0, .slice none 0 0, .int .i64 0, .int .i64 0, .slice none 0 0, .slice none 0 0, .slice none 0 0]) : PupBox w g .zero := ⟨none, 0, none, 0, none, 0, none, 0, h, Ints.nil _ _ _, Ints.nil _ _ _, Ints.nil _ _ _, Ints.nil _ _ _⟩
/-- A pupil's lists are short. -/
def Pup.small (P : Pup) : Prop := P.a1.length ≤ 16 ∧ P.a2.length ≤ 16 ∧ P.b1.length ≤ 16 ∧ P.b2.length ≤ 16
theorem Pup.small_zero : Pup.small .zero := ⟨by decide, by decide, by decide, by decide⟩
theorem shapeO_small (i h o : Int) (xs : List Int) : (shapeO i h o xs).small := by
  unfold shapeO
  split
  · rename_i he
    obtain ⟨hi, hh, ho, _, _⟩ := shapeE_ok he
    obtain ⟨i', rfl⟩ := Int.eq_ofNat_of_zero_le (show 0 ≤ i by omega)
    obtain ⟨h', rfl⟩ := Int.eq_ofNat_of_zero_le (show 0 ≤ h by omega)
    obtain ⟨o', rfl⟩ := Int.eq_ofNat_of_zero_le (show 0 ≤ o by omega)
    have e1 : h' * i' ≤ 4 * 4 := Nat.mul_le_mul (by omega) (by omega)
    have e2 : o' * h' ≤ 4 * 4 := Nat.mul_le_mul (by omega) (by omega)
    refine ⟨?_, ?_, ?_, ?_⟩ <;> simp only [shapeP, Int.toNat_natCast, List.length_take] <;> omega
  · exact Pup.small_zero
theorem flatO_len (r1 c1 : Int) (a1 : List Int) (r2 c2 : Int) (a2 b1 b2 : List Int) : (flatO r1 c1 a1 r2 c2 a2 b1 b2).length ≤ 40 := by
  unfold flatO
  split
  · rename_i h
    exact flatP_len40 h
  · simp
theorem forall_and8 {α : Sort _} {p0 p1 p2 p3 p4 p5 p6 p7 : α → Prop} (h : ∀ o, p0 o ∧ p1 o ∧ p2 o ∧ p3 o ∧ p4 o ∧ p5 o ∧ p6 o ∧ p7 o) : (∀ o, p0 o) ∧ (∀ o, p1 o) ∧ (∀ o, p2 o) ∧ (∀ o, p3 o) ∧ (∀ o, p4 o) ∧ (∀ o, p5 o) ∧ (∀ o, p6 o) ∧ (∀ o, p7 o) :=
  ⟨fun o => (h o).1, fun o => (h o).2.1, fun o => (h o).2.2.1, fun o => (h o).2.2.2.1, fun o => (h o).2.2.2.2.1, fun o => (h o).2.2.2.2.2.1, fun o => (h o).2.2.2.2.2.2.1, fun o => (h o).2.2.2.2.2.2.2⟩

end Go.Proofs.YtaeeonnjkplohaaGreatDoor
