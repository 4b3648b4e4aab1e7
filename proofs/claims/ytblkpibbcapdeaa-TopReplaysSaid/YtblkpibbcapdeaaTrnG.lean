/- The law TrainGoes holds of the given program for every input. No condition. -/
import Derived.Test.YtblkpibbcapdeaaJrnA
import Derived.Test.YtblkpibbcapdeaaTaught
import Derived.Test.YtblkpibbcapdeaaGrown
import Derived.Test.YtblkpibbcapdeaaGoP
namespace Go.Proofs.Ytblkpibbcapdeaa
open Go.ChangeShapes Go.WideShapes Go.ChangeAt Go.RowKit Pl

theorem rest_of (x M : Int) (h1 : 1 ≤ M) (h2 : M ≤ 1000) (W : World) : Calls Try.prog 6 #[.int .i64 x, .int .i64 M] W fun e w' => ∃ r : Nat, (r : Int) < M ∧ e = .returned (.int .i64 r) ∧ W = w' := by
  obtain ⟨m, rfl⟩ : ∃ m : Nat, M = (m : Int) := ⟨M.toNat, by omega⟩
  refine (ref_Rest x m W (by omega) (by omega)).mono ?_
  rintro e w' ⟨r, h, rfl, rfl⟩
  exact ⟨r, by omega, rfl, rfl⟩

end Go.Proofs.Ytblkpibbcapdeaa
