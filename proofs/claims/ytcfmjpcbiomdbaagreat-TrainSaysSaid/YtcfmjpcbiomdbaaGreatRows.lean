/-
  No cell of these rows narrows 'for every input' (looked for: loops, veiled, ifaces, maps, wideKeys, modest, calm, conditions, laid).
  DERIVED. THE GIVEN ROWS OF THIS SEAT. 2 by the template 'for every input the law returns true; each argument reads behind the call as it read before'; 0 by the template 'total and deterministic' (their statements: YtcfmjpcbiomdbaaGreatTotals.lean).
  GIVEN WITH THE SEED: the statements are not yours to turn. If you find one false, say at which input.
  Laid BY PROGRAM, IN A SANDBOX (cutbox-rows.mjs): the forced cells as the released guide's own fill.sh prints them over the translation 537b3e3df06d47a7… (all of the seat's roots in one cut). By AI agents, Wed Nov 11 2026. No macro, syntax, notation, axiom, sorry.
-/
import Derived.Test.YtcfmjpcbiomdbaaGreatChecked
import GoSem.Claim
import GoSem.ClaimJoined
import GoSem.ClaimMapViews
import Derived.JoinedTies
import Derived.KernelRfl
namespace Go.Proofs.YtcfmjpcbiomdbaaGreat
/- THE CELL 'sum', in the pinned program and in every row, IS THE sha256 OF THE DUMP (.gsa) THAT YtcfmjpcbiomdbaaGreatProg.lean LOADS. Nothing in Lean hashes anything: it is a label: what it is worth is what the hold of that sum in a sandbox is worth. -/
noncomputable def Tryz.pinned : Pinned := { name := "ytcfmjpcbiomdbaagreat", sum := "537b3e3df06d47a7e7769e9f892469bbef347c736a9c41365cb674f7343e68f0", checked := Tryz.checked }
namespace Rows
def none {H : Type} : Left H := { results := [], args := [] }

/-- 'coachlaw.TrainSays': WHATEVER THE INPUT: true; the input reads as it did. -/
def trainSaysSpec : ChangeSpec := { name := "trainSays", fn := fun _ => fun
  | [d1, d2, d3, d4, d5] => { results := [.lit (.bool true)], args := [d1, d2, d3, d4, d5] }
  | _ => none }
def trainSaysRow : OpenClaim := { program := "ytcfmjpcbiomdbaagreat", sum := "537b3e3df06d47a7e7769e9f892469bbef347c736a9c41365cb674f7343e68f0", func := "lessonbook/coachlaw.TrainSays", spec := "trainSays", unfollowed := true, recurses := true, named := ["math/bits.divideError", "math/bits.overflowError"], apart := false }
def TrainSaysSaid : Prop := trainSaysRow.holds Tryz.pinned (OpenSpec.ofChange trainSaysSpec)

/-- ITS FALSE NEIGHBOUR: 'it returns false'. Refute it at one input. -/
def trainSaysWrong : ChangeSpec := { name := "trainSays", fn := fun _ => fun
  | [d1, d2, d3, d4, d5] => { results := [.lit (.bool false)], args := [d1, d2, d3, d4, d5] }
  | _ => none }
def TrainSaysWrongFalsely : Prop := trainSaysRow.holds Tryz.pinned (OpenSpec.ofChange trainSaysWrong)

/-- 'coachlaw.SpotSays': WHATEVER THE INPUT: true; the input reads as it did. -/
def spotSaysSpec : ChangeSpec := { name := "spotSays", fn := fun _ => fun
  | [d1, d2, d3, d4, d5, d6] => { results := [.lit (.bool true)], args := [d1, d2, d3, d4, d5, d6] }
  | _ => none }
def spotSaysRow : OpenClaim := { program := "ytcfmjpcbiomdbaagreat", sum := "537b3e3df06d47a7e7769e9f892469bbef347c736a9c41365cb674f7343e68f0", func := "lessonbook/coachlaw.SpotSays", spec := "spotSays", unfollowed := true, recurses := true, named := ["math/bits.divideError", "math/bits.overflowError"], apart := false }
def SpotSaysSaid : Prop := spotSaysRow.holds Tryz.pinned (OpenSpec.ofChange spotSaysSpec)

/-- ITS FALSE NEIGHBOUR: 'it returns false'. Refute it at one input. -/
def spotSaysWrong : ChangeSpec := { name := "spotSays", fn := fun _ => fun
  | [d1, d2, d3, d4, d5, d6] => { results := [.lit (.bool false)], args := [d1, d2, d3, d4, d5, d6] }
  | _ => none }
def SpotSaysWrongFalsely : Prop := spotSaysRow.holds Tryz.pinned (OpenSpec.ofChange spotSaysWrong)

/- THE SECOND FORM. 'bulk': how many values and letters a reading holds, each counted each time it is reached (what is shared counts as often as it is met; a slice's spare places count too). A statement '..UptoSaid' is the law's where the arguments, and the package variables that the reading takes, are together of bulk at most 1048576: NARROWER than '..Said'. Prove '..Said' where nothing that the law and all that it calls make is longer than what came in: it says more and counts as full. Else prove '..UptoSaid'. A law counts once. -/
mutual
def uptoBulk {H : Type} : DataW H → Nat
  | .lit (.string bytes) => bytes.length + 1
  | .lit _ => 1
  | .nil => 1
  | .ptr d => uptoBulk d + 1
  | .slice elems spare => uptoBulkAll elems + uptoBulkAll spare + 1
  | .agg parts => uptoBulkAll parts + 1
  | .iface _ d => uptoBulk d + 1
  | .map entries => uptoBulkEntries entries + 1
  | .held _ => 1
def uptoBulkAll {H : Type} : List (DataW H) → Nat
  | [] => 0
  | d :: r => uptoBulk d + uptoBulkAll r
def uptoBulkEntries {H : Type} : List (Lit × DataW H) → Nat
  | [] => 0
  | x :: r => uptoBulkEntry x + uptoBulkEntries r
def uptoBulkEntry {H : Type} : Lit × DataW H → Nat
  | (.string bytes, d) => bytes.length + uptoBulk d + 1
  | (_, d) => uptoBulk d + 1
 end
def uptoSmall : (H : Type) → List (DataW H) → Bool := fun _ ds => decide (uptoBulkAll ds ≤ 1048576)
def OpenSpec.upto (s : _root_.Go.ChangeSpec) : _root_.Go.OpenSpec := { _root_.Go.OpenSpec.ofChange s with cond := some uptoSmall }

/-- 'coachlaw.TrainSays', WHERE WHAT IT READS IS OF BULK AT MOST 1048576: true; the input reads as it did. -/
def trainSaysUptoRow : OpenClaim := { program := "ytcfmjpcbiomdbaagreat", sum := "537b3e3df06d47a7e7769e9f892469bbef347c736a9c41365cb674f7343e68f0", func := "lessonbook/coachlaw.TrainSays", spec := "trainSays", unfollowed := true, recurses := true, named := ["math/bits.divideError", "math/bits.overflowError"], apart := false, narrowed := true }
def TrainSaysUptoSaid : Prop := trainSaysUptoRow.holds Tryz.pinned (OpenSpec.upto trainSaysSpec)

/-- 'coachlaw.SpotSays', WHERE WHAT IT READS IS OF BULK AT MOST 1048576: true; the input reads as it did. -/
def spotSaysUptoRow : OpenClaim := { program := "ytcfmjpcbiomdbaagreat", sum := "537b3e3df06d47a7e7769e9f892469bbef347c736a9c41365cb674f7343e68f0", func := "lessonbook/coachlaw.SpotSays", spec := "spotSays", unfollowed := true, recurses := true, named := ["math/bits.divideError", "math/bits.overflowError"], apart := false, narrowed := true }
def SpotSaysUptoSaid : Prop := spotSaysUptoRow.holds Tryz.pinned (OpenSpec.upto spotSaysSpec)

end Rows
end Go.Proofs.YtcfmjpcbiomdbaaGreat
