/-
  No cell of these rows narrows 'for every input' (looked for: loops, veiled, ifaces, maps, wideKeys, modest, calm, conditions, laid).
  DERIVED. THE GIVEN ROWS OF THIS SEAT. 11 by the template 'for every input the law returns true; each argument reads behind the call as it read before'; 0 by the template 'total and deterministic' (their statements: YtejkkbjepgghlaaTotals.lean).
  GIVEN WITH THE SEED: the statements are not yours to turn. If you find one false, say at which input.
  Laid BY PROGRAM, IN A SANDBOX (cutbox-rows.mjs): the forced cells as the released guide's own fill.sh prints them over the translation ae7a29840256f35c… (all of the seat's roots in one cut). By AI agents, Wed Nov 11 2026. No macro, syntax, notation, axiom, sorry.
-/
import Derived.Test.YtejkkbjepgghlaaChecked
import GoSem.Claim
import GoSem.ClaimJoined
import GoSem.ClaimMapViews
import Derived.JoinedTies
import Derived.KernelRfl
namespace Go.Proofs.Ytejkkbjepgghlaa
/- THE CELL 'sum', in the pinned program and in every row, IS THE sha256 OF THE DUMP (.gsa) THAT YtejkkbjepgghlaaProg.lean LOADS. Nothing in Lean hashes anything: it is a label: what it is worth is what the hold of that sum in a sandbox is worth. -/
noncomputable def Try.pinned : Pinned := { name := "ytejkkbjepgghlaa", sum := "ae7a29840256f35ccad70a8c917d406b1a9e79eb4b76bfe88be5c48f62091d18", checked := Try.checked }
namespace Rows
def none {H : Type} : Left H := { results := [], args := [] }

/-- 'coachlaw.OptimSays': WHATEVER THE INPUT: true; the input reads as it did. -/
def optimSaysSpec : ChangeSpec := { name := "optimSays", fn := fun _ => fun
  | [d1, d2, d3, d4, d5, d6] => { results := [.lit (.bool true)], args := [d1, d2, d3, d4, d5, d6] }
  | _ => none }
def optimSaysRow : OpenClaim := { program := "ytejkkbjepgghlaa", sum := "ae7a29840256f35ccad70a8c917d406b1a9e79eb4b76bfe88be5c48f62091d18", func := "lessonbook/coachlaw.OptimSays", spec := "optimSays", unfollowed := true, recurses := true, apart := false }
def OptimSaysSaid : Prop := optimSaysRow.holds Try.pinned (OpenSpec.ofChange optimSaysSpec)

/-- ITS FALSE NEIGHBOUR: 'it returns false'. Refute it at one input. -/
def optimSaysWrong : ChangeSpec := { name := "optimSays", fn := fun _ => fun
  | [d1, d2, d3, d4, d5, d6] => { results := [.lit (.bool false)], args := [d1, d2, d3, d4, d5, d6] }
  | _ => none }
def OptimSaysWrongFalsely : Prop := optimSaysRow.holds Try.pinned (OpenSpec.ofChange optimSaysWrong)

/-- 'coachkeep.OptimKeeps': WHATEVER THE INPUT: true; the input reads as it did. -/
def optimKeepsSpec : ChangeSpec := { name := "optimKeeps", fn := fun _ => fun
  | [d1, d2, d3, d4, d5] => { results := [.lit (.bool true)], args := [d1, d2, d3, d4, d5] }
  | _ => none }
def optimKeepsRow : OpenClaim := { program := "ytejkkbjepgghlaa", sum := "ae7a29840256f35ccad70a8c917d406b1a9e79eb4b76bfe88be5c48f62091d18", func := "lessonbook/coachkeep.OptimKeeps", spec := "optimKeeps", unfollowed := true, recurses := true, apart := false }
def OptimKeepsSaid : Prop := optimKeepsRow.holds Try.pinned (OpenSpec.ofChange optimKeepsSpec)

/-- ITS FALSE NEIGHBOUR: 'it returns false'. Refute it at one input. -/
def optimKeepsWrong : ChangeSpec := { name := "optimKeeps", fn := fun _ => fun
  | [d1, d2, d3, d4, d5] => { results := [.lit (.bool false)], args := [d1, d2, d3, d4, d5] }
  | _ => none }
def OptimKeepsWrongFalsely : Prop := optimKeepsRow.holds Try.pinned (OpenSpec.ofChange optimKeepsWrong)

/-- 'coachlaw.PupilRuns': WHATEVER THE INPUT: true; the input reads as it did. -/
def pupilRunsSpec : ChangeSpec := { name := "pupilRuns", fn := fun _ => fun
  | [d1, d2] => { results := [.lit (.bool true)], args := [d1, d2] }
  | _ => none }
def pupilRunsRow : OpenClaim := { program := "ytejkkbjepgghlaa", sum := "ae7a29840256f35ccad70a8c917d406b1a9e79eb4b76bfe88be5c48f62091d18", func := "lessonbook/coachlaw.PupilRuns", spec := "pupilRuns", unfollowed := true, recurses := true, apart := false }
def PupilRunsSaid : Prop := pupilRunsRow.holds Try.pinned (OpenSpec.ofChange pupilRunsSpec)

/-- ITS FALSE NEIGHBOUR: 'it returns false'. Refute it at one input. -/
def pupilRunsWrong : ChangeSpec := { name := "pupilRuns", fn := fun _ => fun
  | [d1, d2] => { results := [.lit (.bool false)], args := [d1, d2] }
  | _ => none }
def PupilRunsWrongFalsely : Prop := pupilRunsRow.holds Try.pinned (OpenSpec.ofChange pupilRunsWrong)

/-- 'coachkeep.TreeBinds': WHATEVER THE INPUT: true; the input reads as it did. -/
def treeBindsSpec : ChangeSpec := { name := "treeBinds", fn := fun _ => fun
  | [d1, d2, d3, d4, d5, d6, d7] => { results := [.lit (.bool true)], args := [d1, d2, d3, d4, d5, d6, d7] }
  | _ => none }
def treeBindsRow : OpenClaim := { program := "ytejkkbjepgghlaa", sum := "ae7a29840256f35ccad70a8c917d406b1a9e79eb4b76bfe88be5c48f62091d18", func := "lessonbook/coachkeep.TreeBinds", spec := "treeBinds", unfollowed := true, recurses := true, named := ["math/bits.divideError", "math/bits.overflowError"], apart := false }
def TreeBindsSaid : Prop := treeBindsRow.holds Try.pinned (OpenSpec.ofChange treeBindsSpec)

/-- ITS FALSE NEIGHBOUR: 'it returns false'. Refute it at one input. -/
def treeBindsWrong : ChangeSpec := { name := "treeBinds", fn := fun _ => fun
  | [d1, d2, d3, d4, d5, d6, d7] => { results := [.lit (.bool false)], args := [d1, d2, d3, d4, d5, d6, d7] }
  | _ => none }
def TreeBindsWrongFalsely : Prop := treeBindsRow.holds Try.pinned (OpenSpec.ofChange treeBindsWrong)

/-- 'coachkeep.PupilStill': WHATEVER THE INPUT: true; the input reads as it did. -/
def pupilStillSpec : ChangeSpec := { name := "pupilStill", fn := fun _ => fun
  | [d1, d2] => { results := [.lit (.bool true)], args := [d1, d2] }
  | _ => none }
def pupilStillRow : OpenClaim := { program := "ytejkkbjepgghlaa", sum := "ae7a29840256f35ccad70a8c917d406b1a9e79eb4b76bfe88be5c48f62091d18", func := "lessonbook/coachkeep.PupilStill", spec := "pupilStill", unfollowed := true, recurses := true, apart := false }
def PupilStillSaid : Prop := pupilStillRow.holds Try.pinned (OpenSpec.ofChange pupilStillSpec)

/-- ITS FALSE NEIGHBOUR: 'it returns false'. Refute it at one input. -/
def pupilStillWrong : ChangeSpec := { name := "pupilStill", fn := fun _ => fun
  | [d1, d2] => { results := [.lit (.bool false)], args := [d1, d2] }
  | _ => none }
def PupilStillWrongFalsely : Prop := pupilStillRow.holds Try.pinned (OpenSpec.ofChange pupilStillWrong)

/-- 'coachkeep.TreePaths': WHATEVER THE INPUT: true; the input reads as it did. -/
def treePathsSpec : ChangeSpec := { name := "treePaths", fn := fun _ => fun
  | [d1, d2] => { results := [.lit (.bool true)], args := [d1, d2] }
  | _ => none }
def treePathsRow : OpenClaim := { program := "ytejkkbjepgghlaa", sum := "ae7a29840256f35ccad70a8c917d406b1a9e79eb4b76bfe88be5c48f62091d18", func := "lessonbook/coachkeep.TreePaths", spec := "treePaths", unfollowed := true, recurses := true, named := ["math/bits.divideError", "math/bits.overflowError"], apart := false }
def TreePathsSaid : Prop := treePathsRow.holds Try.pinned (OpenSpec.ofChange treePathsSpec)

/-- ITS FALSE NEIGHBOUR: 'it returns false'. Refute it at one input. -/
def treePathsWrong : ChangeSpec := { name := "treePaths", fn := fun _ => fun
  | [d1, d2] => { results := [.lit (.bool false)], args := [d1, d2] }
  | _ => none }
def TreePathsWrongFalsely : Prop := treePathsRow.holds Try.pinned (OpenSpec.ofChange treePathsWrong)

/-- 'coachlaw.TreeSays': WHATEVER THE INPUT: true; the input reads as it did. -/
def treeSaysSpec : ChangeSpec := { name := "treeSays", fn := fun _ => fun
  | [d1, d2, d3, d4, d5] => { results := [.lit (.bool true)], args := [d1, d2, d3, d4, d5] }
  | _ => none }
def treeSaysRow : OpenClaim := { program := "ytejkkbjepgghlaa", sum := "ae7a29840256f35ccad70a8c917d406b1a9e79eb4b76bfe88be5c48f62091d18", func := "lessonbook/coachlaw.TreeSays", spec := "treeSays", unfollowed := true, recurses := true, named := ["math/bits.divideError", "math/bits.overflowError"], apart := false }
def TreeSaysSaid : Prop := treeSaysRow.holds Try.pinned (OpenSpec.ofChange treeSaysSpec)

/-- ITS FALSE NEIGHBOUR: 'it returns false'. Refute it at one input. -/
def treeSaysWrong : ChangeSpec := { name := "treeSays", fn := fun _ => fun
  | [d1, d2, d3, d4, d5] => { results := [.lit (.bool false)], args := [d1, d2, d3, d4, d5] }
  | _ => none }
def TreeSaysWrongFalsely : Prop := treeSaysRow.holds Try.pinned (OpenSpec.ofChange treeSaysWrong)

/-- 'coachlaw.SpotOpens': WHATEVER THE INPUT: true; the input reads as it did. -/
def spotOpensSpec : ChangeSpec := { name := "spotOpens", fn := fun _ => fun
  | [d1, d2, d3, d4, d5, d6] => { results := [.lit (.bool true)], args := [d1, d2, d3, d4, d5, d6] }
  | _ => none }
def spotOpensRow : OpenClaim := { program := "ytejkkbjepgghlaa", sum := "ae7a29840256f35ccad70a8c917d406b1a9e79eb4b76bfe88be5c48f62091d18", func := "lessonbook/coachlaw.SpotOpens", spec := "spotOpens", unfollowed := true, recurses := true, named := ["math/bits.divideError", "math/bits.overflowError"], apart := false }
def SpotOpensSaid : Prop := spotOpensRow.holds Try.pinned (OpenSpec.ofChange spotOpensSpec)

/-- ITS FALSE NEIGHBOUR: 'it returns false'. Refute it at one input. -/
def spotOpensWrong : ChangeSpec := { name := "spotOpens", fn := fun _ => fun
  | [d1, d2, d3, d4, d5, d6] => { results := [.lit (.bool false)], args := [d1, d2, d3, d4, d5, d6] }
  | _ => none }
def SpotOpensWrongFalsely : Prop := spotOpensRow.holds Try.pinned (OpenSpec.ofChange spotOpensWrong)

/-- 'coachkeep.DrawOnce': WHATEVER THE INPUT: true; the input reads as it did. -/
def drawOnceSpec : ChangeSpec := { name := "drawOnce", fn := fun _ => fun
  | [d1, d2, d3, d4] => { results := [.lit (.bool true)], args := [d1, d2, d3, d4] }
  | _ => none }
def drawOnceRow : OpenClaim := { program := "ytejkkbjepgghlaa", sum := "ae7a29840256f35ccad70a8c917d406b1a9e79eb4b76bfe88be5c48f62091d18", func := "lessonbook/coachkeep.DrawOnce", spec := "drawOnce", recurses := true, named := ["math/bits.divideError", "math/bits.overflowError"], apart := false }
def DrawOnceSaid : Prop := drawOnceRow.holds Try.pinned (OpenSpec.ofChange drawOnceSpec)

/-- ITS FALSE NEIGHBOUR: 'it returns false'. Refute it at one input. -/
def drawOnceWrong : ChangeSpec := { name := "drawOnce", fn := fun _ => fun
  | [d1, d2, d3, d4] => { results := [.lit (.bool false)], args := [d1, d2, d3, d4] }
  | _ => none }
def DrawOnceWrongFalsely : Prop := drawOnceRow.holds Try.pinned (OpenSpec.ofChange drawOnceWrong)

/-- 'coachkeep.TrainGoes': WHATEVER THE INPUT: true; the input reads as it did. -/
def trainGoesSpec : ChangeSpec := { name := "trainGoes", fn := fun _ => fun
  | [d1, d2, d3, d4] => { results := [.lit (.bool true)], args := [d1, d2, d3, d4] }
  | _ => none }
def trainGoesRow : OpenClaim := { program := "ytejkkbjepgghlaa", sum := "ae7a29840256f35ccad70a8c917d406b1a9e79eb4b76bfe88be5c48f62091d18", func := "lessonbook/coachkeep.TrainGoes", spec := "trainGoes", unfollowed := true, recurses := true, named := ["math/bits.divideError", "math/bits.overflowError"], apart := false }
def TrainGoesSaid : Prop := trainGoesRow.holds Try.pinned (OpenSpec.ofChange trainGoesSpec)

/-- ITS FALSE NEIGHBOUR: 'it returns false'. Refute it at one input. -/
def trainGoesWrong : ChangeSpec := { name := "trainGoes", fn := fun _ => fun
  | [d1, d2, d3, d4] => { results := [.lit (.bool false)], args := [d1, d2, d3, d4] }
  | _ => none }
def TrainGoesWrongFalsely : Prop := trainGoesRow.holds Try.pinned (OpenSpec.ofChange trainGoesWrong)

/-- 'coachkeep.JournalGoes': WHATEVER THE INPUT: true; the input reads as it did. -/
def journalGoesSpec : ChangeSpec := { name := "journalGoes", fn := fun _ => fun
  | [d1, d2, d3, d4] => { results := [.lit (.bool true)], args := [d1, d2, d3, d4] }
  | _ => none }
def journalGoesRow : OpenClaim := { program := "ytejkkbjepgghlaa", sum := "ae7a29840256f35ccad70a8c917d406b1a9e79eb4b76bfe88be5c48f62091d18", func := "lessonbook/coachkeep.JournalGoes", spec := "journalGoes", unfollowed := true, recurses := true, named := ["math/bits.divideError", "math/bits.overflowError"], apart := false }
def JournalGoesSaid : Prop := journalGoesRow.holds Try.pinned (OpenSpec.ofChange journalGoesSpec)

/-- ITS FALSE NEIGHBOUR: 'it returns false'. Refute it at one input. -/
def journalGoesWrong : ChangeSpec := { name := "journalGoes", fn := fun _ => fun
  | [d1, d2, d3, d4] => { results := [.lit (.bool false)], args := [d1, d2, d3, d4] }
  | _ => none }
def JournalGoesWrongFalsely : Prop := journalGoesRow.holds Try.pinned (OpenSpec.ofChange journalGoesWrong)

/- THE SECOND FORM. 'bulk': how many values and letters a reading holds, each counted each time it is reached (what is shared counts as often as it is met; a slice's spare places count too). A statement '..UptoSaid' is the law's where the arguments, and the package variables that the reading takes, are together of bulk at most 1048576: NARROWER than '..Said'. Prove '..Said' where nothing that the law and all that it calls make is longer than what came in: it says more and counts as full. Else prove '..UptoSaid'. A law counts once. -/
mutual
def uptoBulk {H : Type} : DataW H → Nat
  | .lit (.string bytes) => bytes.length + 1
  | .lit _ => 1
  | .nil => 1
  | .ptr d => uptoBulk d + 1
  | .slice elems spare => uptoBulkAll elems + uptoBulkAll spare + 1
  | .agg parts => uptoBulkAll parts + 1
  | .iface _ d => uptoBulk d + 1
  | .map entries => uptoBulkEntries entries + 1
  | .held _ => 1
def uptoBulkAll {H : Type} : List (DataW H) → Nat
  | [] => 0
  | d :: r => uptoBulk d + uptoBulkAll r
def uptoBulkEntries {H : Type} : List (Lit × DataW H) → Nat
  | [] => 0
  | x :: r => uptoBulkEntry x + uptoBulkEntries r
def uptoBulkEntry {H : Type} : Lit × DataW H → Nat
  | (.string bytes, d) => bytes.length + uptoBulk d + 1
  | (_, d) => uptoBulk d + 1
 end
def uptoSmall : (H : Type) → List (DataW H) → Bool := fun _ ds => decide (uptoBulkAll ds ≤ 1048576)
def OpenSpec.upto (s : _root_.Go.ChangeSpec) : _root_.Go.OpenSpec := { _root_.Go.OpenSpec.ofChange s with cond := some uptoSmall }

/-- 'coachlaw.OptimSays', WHERE WHAT IT READS IS OF BULK AT MOST 1048576: true; the input reads as it did. -/
def optimSaysUptoRow : OpenClaim := { program := "ytejkkbjepgghlaa", sum := "ae7a29840256f35ccad70a8c917d406b1a9e79eb4b76bfe88be5c48f62091d18", func := "lessonbook/coachlaw.OptimSays", spec := "optimSays", unfollowed := true, recurses := true, apart := false, narrowed := true }
def OptimSaysUptoSaid : Prop := optimSaysUptoRow.holds Try.pinned (OpenSpec.upto optimSaysSpec)

/-- 'coachkeep.OptimKeeps', WHERE WHAT IT READS IS OF BULK AT MOST 1048576: true; the input reads as it did. -/
def optimKeepsUptoRow : OpenClaim := { program := "ytejkkbjepgghlaa", sum := "ae7a29840256f35ccad70a8c917d406b1a9e79eb4b76bfe88be5c48f62091d18", func := "lessonbook/coachkeep.OptimKeeps", spec := "optimKeeps", unfollowed := true, recurses := true, apart := false, narrowed := true }
def OptimKeepsUptoSaid : Prop := optimKeepsUptoRow.holds Try.pinned (OpenSpec.upto optimKeepsSpec)

/-- 'coachlaw.PupilRuns', WHERE WHAT IT READS IS OF BULK AT MOST 1048576: true; the input reads as it did. -/
def pupilRunsUptoRow : OpenClaim := { program := "ytejkkbjepgghlaa", sum := "ae7a29840256f35ccad70a8c917d406b1a9e79eb4b76bfe88be5c48f62091d18", func := "lessonbook/coachlaw.PupilRuns", spec := "pupilRuns", unfollowed := true, recurses := true, apart := false, narrowed := true }
def PupilRunsUptoSaid : Prop := pupilRunsUptoRow.holds Try.pinned (OpenSpec.upto pupilRunsSpec)

/-- 'coachkeep.TreeBinds', WHERE WHAT IT READS IS OF BULK AT MOST 1048576: true; the input reads as it did. -/
def treeBindsUptoRow : OpenClaim := { program := "ytejkkbjepgghlaa", sum := "ae7a29840256f35ccad70a8c917d406b1a9e79eb4b76bfe88be5c48f62091d18", func := "lessonbook/coachkeep.TreeBinds", spec := "treeBinds", unfollowed := true, recurses := true, named := ["math/bits.divideError", "math/bits.overflowError"], apart := false, narrowed := true }
def TreeBindsUptoSaid : Prop := treeBindsUptoRow.holds Try.pinned (OpenSpec.upto treeBindsSpec)

/-- 'coachkeep.PupilStill', WHERE WHAT IT READS IS OF BULK AT MOST 1048576: true; the input reads as it did. -/
def pupilStillUptoRow : OpenClaim := { program := "ytejkkbjepgghlaa", sum := "ae7a29840256f35ccad70a8c917d406b1a9e79eb4b76bfe88be5c48f62091d18", func := "lessonbook/coachkeep.PupilStill", spec := "pupilStill", unfollowed := true, recurses := true, apart := false, narrowed := true }
def PupilStillUptoSaid : Prop := pupilStillUptoRow.holds Try.pinned (OpenSpec.upto pupilStillSpec)

/-- 'coachkeep.TreePaths', WHERE WHAT IT READS IS OF BULK AT MOST 1048576: true; the input reads as it did. -/
def treePathsUptoRow : OpenClaim := { program := "ytejkkbjepgghlaa", sum := "ae7a29840256f35ccad70a8c917d406b1a9e79eb4b76bfe88be5c48f62091d18", func := "lessonbook/coachkeep.TreePaths", spec := "treePaths", unfollowed := true, recurses := true, named := ["math/bits.divideError", "math/bits.overflowError"], apart := false, narrowed := true }
def TreePathsUptoSaid : Prop := treePathsUptoRow.holds Try.pinned (OpenSpec.upto treePathsSpec)

/-- 'coachlaw.TreeSays', WHERE WHAT IT READS IS OF BULK AT MOST 1048576: true; the input reads as it did. -/
def treeSaysUptoRow : OpenClaim := { program := "ytejkkbjepgghlaa", sum := "ae7a29840256f35ccad70a8c917d406b1a9e79eb4b76bfe88be5c48f62091d18", func := "lessonbook/coachlaw.TreeSays", spec := "treeSays", unfollowed := true, recurses := true, named := ["math/bits.divideError", "math/bits.overflowError"], apart := false, narrowed := true }
def TreeSaysUptoSaid : Prop := treeSaysUptoRow.holds Try.pinned (OpenSpec.upto treeSaysSpec)

/-- 'coachlaw.SpotOpens', WHERE WHAT IT READS IS OF BULK AT MOST 1048576: true; the input reads as it did. -/
def spotOpensUptoRow : OpenClaim := { program := "ytejkkbjepgghlaa", sum := "ae7a29840256f35ccad70a8c917d406b1a9e79eb4b76bfe88be5c48f62091d18", func := "lessonbook/coachlaw.SpotOpens", spec := "spotOpens", unfollowed := true, recurses := true, named := ["math/bits.divideError", "math/bits.overflowError"], apart := false, narrowed := true }
def SpotOpensUptoSaid : Prop := spotOpensUptoRow.holds Try.pinned (OpenSpec.upto spotOpensSpec)

/-- 'coachkeep.DrawOnce', WHERE WHAT IT READS IS OF BULK AT MOST 1048576: true; the input reads as it did. -/
def drawOnceUptoRow : OpenClaim := { program := "ytejkkbjepgghlaa", sum := "ae7a29840256f35ccad70a8c917d406b1a9e79eb4b76bfe88be5c48f62091d18", func := "lessonbook/coachkeep.DrawOnce", spec := "drawOnce", recurses := true, named := ["math/bits.divideError", "math/bits.overflowError"], apart := false, narrowed := true }
def DrawOnceUptoSaid : Prop := drawOnceUptoRow.holds Try.pinned (OpenSpec.upto drawOnceSpec)

/-- 'coachkeep.TrainGoes', WHERE WHAT IT READS IS OF BULK AT MOST 1048576: true; the input reads as it did. -/
def trainGoesUptoRow : OpenClaim := { program := "ytejkkbjepgghlaa", sum := "ae7a29840256f35ccad70a8c917d406b1a9e79eb4b76bfe88be5c48f62091d18", func := "lessonbook/coachkeep.TrainGoes", spec := "trainGoes", unfollowed := true, recurses := true, named := ["math/bits.divideError", "math/bits.overflowError"], apart := false, narrowed := true }
def TrainGoesUptoSaid : Prop := trainGoesUptoRow.holds Try.pinned (OpenSpec.upto trainGoesSpec)

/-- 'coachkeep.JournalGoes', WHERE WHAT IT READS IS OF BULK AT MOST 1048576: true; the input reads as it did. -/
def journalGoesUptoRow : OpenClaim := { program := "ytejkkbjepgghlaa", sum := "ae7a29840256f35ccad70a8c917d406b1a9e79eb4b76bfe88be5c48f62091d18", func := "lessonbook/coachkeep.JournalGoes", spec := "journalGoes", unfollowed := true, recurses := true, named := ["math/bits.divideError", "math/bits.overflowError"], apart := false, narrowed := true }
def JournalGoesUptoSaid : Prop := journalGoesUptoRow.holds Try.pinned (OpenSpec.upto journalGoesSpec)

end Rows
end Go.Proofs.Ytejkkbjepgghlaa
