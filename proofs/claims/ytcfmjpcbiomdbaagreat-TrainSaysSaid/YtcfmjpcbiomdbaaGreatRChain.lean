/- The document's own chain of a record: walks. -/
import Derived.Test.YtcfmjpcbiomdbaaGreatRFin
namespace Go.Proofs.YtcfmjpcbiomdbaaGreat
open Go.RowKit Pl

def posL (xs : List Int) : Bool := xs.all fun n => decide (0 ≤ n)
theorem posL_take_succ {xs : List Int} {k : Nat} (hk : k < xs.length) : posL (xs.take (k + 1)) = (posL (xs.take k) && decide (0 ≤ at0 xs k)) := by
  unfold posL
  rw [List.take_succ_eq_append_getElem hk, List.all_append, at0_getElem _ _ hk]
  simp
def chB0 (r : Rec) : Bool := decide (0 ≤ r.step) && decide (0 ≤ r.rate) && decide (r.batch.length ≤ 8)
def chB (r : Rec) : Bool := chB0 r && posL r.batch
theorem chE_chB (r : Rec) : chE r = if chB r = true then 0 else 5 := by
  unfold chE chB chB0 posL
  simp only [Bool.and_eq_true, decide_eq_true_eq, and_assoc]

end Go.Proofs.YtcfmjpcbiomdbaaGreat
