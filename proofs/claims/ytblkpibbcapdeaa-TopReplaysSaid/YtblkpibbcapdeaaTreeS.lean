/- The law TreeSays holds of the given program for every input. No condition. -/
import Derived.Test.YtblkpibbcapdeaaTreeC
import Derived.Test.YtblkpibbcapdeaaArgs
import Derived.Deep.DeepCutAuto
import Derived.Deep.CutBlock
import Derived.Outline
namespace Go.Proofs.Ytblkpibbcapdeaa
open Go.ChangeShapes Go.WideShapes Go.ChangeAt Go.RowKit Pl

/-- A list that is told: its value, its numbers. -/
def ToldU (w : World) (L : List Int) (v : Value) : Prop := ∃ A c, v = .slice A L.length c ∧ Ints .u64 w A L.length L
theorem ToldU.nil (w : World) : ToldU w [] (.slice none 0 0) := ⟨none, 0, rfl, Ints.nil _ _ _⟩
theorem lvO_len (xs : List Int) : (lvO xs).length ≤ 50 := by
  unfold lvO
  split
  · rename_i h
    have := lvE_ok h
    rw [leavesI_length]; omega
  · simp
theorem pathO_len (xs : List Int) (i : Int) : (pathO xs i).length ≤ 50 := by
  unfold pathO
  split
  · rename_i h
    have h1 : lvE xs.length = 0 := by
      unfold pathE at h
      by_cases h0 : lvE xs.length = 0
      · exact h0
      · rw [if_pos h0] at h; exact absurd h h0
    have h2 := lvE_ok h1
    rw [wayI_length, leavesI_length]
    have := deepP_le ((xs.length + 3) / 4) i.toNat (by omega)
    omega
  · simp
/-- Behind the law's first parts: what it expects of Leaves, Root and Path. -/
def TsA (w : World) (pe ro : Int) (LV WY : List Int) (f lv wy rt : Value) (wx : World) : Prop :=
  f = .int .i64 pe ∧ rt = .int .u64 ro ∧ ToldU wx LV lv ∧ ToldU wx WY wy ∧ Below w.heap.size w wx
/-- .. of Climb. -/
def TsB (w : World) (ce co : Int) (g up : Value) (wx : World) : Prop := g = .int .i64 ce ∧ up = .int .u64 co ∧ Below w.heap.size w wx

end Go.Proofs.Ytblkpibbcapdeaa
