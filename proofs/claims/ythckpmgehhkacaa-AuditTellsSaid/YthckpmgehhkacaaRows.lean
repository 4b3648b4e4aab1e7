/-
  No cell of these rows narrows 'for every input' (looked for: loops, veiled, ifaces, maps, wideKeys, modest, calm, conditions, laid).
  DERIVED. THE GIVEN ROWS OF THIS SEAT. 12 by the template 'for every input the law returns true; each argument reads behind the call as it read before'; 0 by the template 'total and deterministic' (their statements: YthckpmgehhkacaaTotals.lean).
  GIVEN WITH THE SEED: the statements are not yours to turn. If you find one false, say at which input.
  Laid BY PROGRAM, IN A SANDBOX (cutbox-rows.mjs): the forced cells as the released guide's own fill.sh prints them over the translation 2d4cea4cf6cedc7f… (all of the seat's roots in one cut). By AI agents, Wed Nov 11 2026. No macro, syntax, notation, axiom, sorry.
-/
import Derived.Test.YthckpmgehhkacaaChecked
import GoSem.Claim
import GoSem.ClaimJoined
import GoSem.ClaimMapViews
import Derived.JoinedTies
import Derived.KernelRfl
namespace Go.Proofs.Ythckpmgehhkacaa
/- THE CELL 'sum', in the pinned program and in every row, IS THE sha256 OF THE DUMP (.gsa) THAT YthckpmgehhkacaaProg.lean LOADS. Nothing in Lean hashes anything: it is a label: what it is worth is what the hold of that sum in a sandbox is worth. -/
noncomputable def Try.pinned : Pinned := { name := "ythckpmgehhkacaa", sum := "2d4cea4cf6cedc7f5d4217edd6aa9b1049e988ee42025237209ff3f00065407a", checked := Try.checked }
namespace Rows
def none {H : Type} : Left H := { results := [], args := [] }

/-- 'coachkeep.TreeBinds': WHATEVER THE INPUT: true; the input reads as it did. -/
def treeBindsSpec : ChangeSpec := { name := "treeBinds", fn := fun _ => fun
  | [d1, d2, d3, d4, d5, d6, d7] => { results := [.lit (.bool true)], args := [d1, d2, d3, d4, d5, d6, d7] }
  | _ => none }
def treeBindsRow : OpenClaim := { program := "ythckpmgehhkacaa", sum := "2d4cea4cf6cedc7f5d4217edd6aa9b1049e988ee42025237209ff3f00065407a", func := "lessonbook/coachkeep.TreeBinds", spec := "treeBinds", unfollowed := true, recurses := true, named := ["math/bits.divideError", "math/bits.overflowError"], apart := false }
def TreeBindsSaid : Prop := treeBindsRow.holds Try.pinned (OpenSpec.ofChange treeBindsSpec)

/-- ITS FALSE NEIGHBOUR: 'it returns false'. Refute it at one input. -/
def treeBindsWrong : ChangeSpec := { name := "treeBinds", fn := fun _ => fun
  | [d1, d2, d3, d4, d5, d6, d7] => { results := [.lit (.bool false)], args := [d1, d2, d3, d4, d5, d6, d7] }
  | _ => none }
def TreeBindsWrongFalsely : Prop := treeBindsRow.holds Try.pinned (OpenSpec.ofChange treeBindsWrong)

/-- 'coachlaw.SpotOpens': WHATEVER THE INPUT: true; the input reads as it did. -/
def spotOpensSpec : ChangeSpec := { name := "spotOpens", fn := fun _ => fun
  | [d1, d2, d3, d4, d5, d6] => { results := [.lit (.bool true)], args := [d1, d2, d3, d4, d5, d6] }
  | _ => none }
def spotOpensRow : OpenClaim := { program := "ythckpmgehhkacaa", sum := "2d4cea4cf6cedc7f5d4217edd6aa9b1049e988ee42025237209ff3f00065407a", func := "lessonbook/coachlaw.SpotOpens", spec := "spotOpens", unfollowed := true, recurses := true, named := ["math/bits.divideError", "math/bits.overflowError"], apart := false }
def SpotOpensSaid : Prop := spotOpensRow.holds Try.pinned (OpenSpec.ofChange spotOpensSpec)

/-- ITS FALSE NEIGHBOUR: 'it returns false'. Refute it at one input. -/
def spotOpensWrong : ChangeSpec := { name := "spotOpens", fn := fun _ => fun
  | [d1, d2, d3, d4, d5, d6] => { results := [.lit (.bool false)], args := [d1, d2, d3, d4, d5, d6] }
  | _ => none }
def SpotOpensWrongFalsely : Prop := spotOpensRow.holds Try.pinned (OpenSpec.ofChange spotOpensWrong)

/-- 'coachkeep.DrawOnce': WHATEVER THE INPUT: true; the input reads as it did. -/
def drawOnceSpec : ChangeSpec := { name := "drawOnce", fn := fun _ => fun
  | [d1, d2, d3, d4] => { results := [.lit (.bool true)], args := [d1, d2, d3, d4] }
  | _ => none }
def drawOnceRow : OpenClaim := { program := "ythckpmgehhkacaa", sum := "2d4cea4cf6cedc7f5d4217edd6aa9b1049e988ee42025237209ff3f00065407a", func := "lessonbook/coachkeep.DrawOnce", spec := "drawOnce", recurses := true, named := ["math/bits.divideError", "math/bits.overflowError"], apart := false }
def DrawOnceSaid : Prop := drawOnceRow.holds Try.pinned (OpenSpec.ofChange drawOnceSpec)

/-- ITS FALSE NEIGHBOUR: 'it returns false'. Refute it at one input. -/
def drawOnceWrong : ChangeSpec := { name := "drawOnce", fn := fun _ => fun
  | [d1, d2, d3, d4] => { results := [.lit (.bool false)], args := [d1, d2, d3, d4] }
  | _ => none }
def DrawOnceWrongFalsely : Prop := drawOnceRow.holds Try.pinned (OpenSpec.ofChange drawOnceWrong)

/-- 'coachkeep.TrainGoes': WHATEVER THE INPUT: true; the input reads as it did. -/
def trainGoesSpec : ChangeSpec := { name := "trainGoes", fn := fun _ => fun
  | [d1, d2, d3, d4] => { results := [.lit (.bool true)], args := [d1, d2, d3, d4] }
  | _ => none }
def trainGoesRow : OpenClaim := { program := "ythckpmgehhkacaa", sum := "2d4cea4cf6cedc7f5d4217edd6aa9b1049e988ee42025237209ff3f00065407a", func := "lessonbook/coachkeep.TrainGoes", spec := "trainGoes", unfollowed := true, recurses := true, named := ["math/bits.divideError", "math/bits.overflowError"], apart := false }
def TrainGoesSaid : Prop := trainGoesRow.holds Try.pinned (OpenSpec.ofChange trainGoesSpec)

/-- ITS FALSE NEIGHBOUR: 'it returns false'. Refute it at one input. -/
def trainGoesWrong : ChangeSpec := { name := "trainGoes", fn := fun _ => fun
  | [d1, d2, d3, d4] => { results := [.lit (.bool false)], args := [d1, d2, d3, d4] }
  | _ => none }
def TrainGoesWrongFalsely : Prop := trainGoesRow.holds Try.pinned (OpenSpec.ofChange trainGoesWrong)

/-- 'coachkeep.JournalGoes': WHATEVER THE INPUT: true; the input reads as it did. -/
def journalGoesSpec : ChangeSpec := { name := "journalGoes", fn := fun _ => fun
  | [d1, d2, d3, d4] => { results := [.lit (.bool true)], args := [d1, d2, d3, d4] }
  | _ => none }
def journalGoesRow : OpenClaim := { program := "ythckpmgehhkacaa", sum := "2d4cea4cf6cedc7f5d4217edd6aa9b1049e988ee42025237209ff3f00065407a", func := "lessonbook/coachkeep.JournalGoes", spec := "journalGoes", unfollowed := true, recurses := true, named := ["math/bits.divideError", "math/bits.overflowError"], apart := false }
def JournalGoesSaid : Prop := journalGoesRow.holds Try.pinned (OpenSpec.ofChange journalGoesSpec)

/-- ITS FALSE NEIGHBOUR: 'it returns false'. Refute it at one input. -/
def journalGoesWrong : ChangeSpec := { name := "journalGoes", fn := fun _ => fun
  | [d1, d2, d3, d4] => { results := [.lit (.bool false)], args := [d1, d2, d3, d4] }
  | _ => none }
def JournalGoesWrongFalsely : Prop := journalGoesRow.holds Try.pinned (OpenSpec.ofChange journalGoesWrong)

/-- 'coachkeep.CoursesOwn': WHATEVER THE INPUT: true; the input reads as it did. -/
def coursesOwnSpec : ChangeSpec := { name := "coursesOwn", fn := fun _ => fun
  | [d1, d2, d3] => { results := [.lit (.bool true)], args := [d1, d2, d3] }
  | _ => none }
def coursesOwnRow : OpenClaim := { program := "ythckpmgehhkacaa", sum := "2d4cea4cf6cedc7f5d4217edd6aa9b1049e988ee42025237209ff3f00065407a", func := "lessonbook/coachkeep.CoursesOwn", spec := "coursesOwn", unfollowed := true, recurses := true, named := ["math/bits.divideError", "math/bits.overflowError"], apart := false }
def CoursesOwnSaid : Prop := coursesOwnRow.holds Try.pinned (OpenSpec.ofChange coursesOwnSpec)

/-- ITS FALSE NEIGHBOUR: 'it returns false'. Refute it at one input. -/
def coursesOwnWrong : ChangeSpec := { name := "coursesOwn", fn := fun _ => fun
  | [d1, d2, d3] => { results := [.lit (.bool false)], args := [d1, d2, d3] }
  | _ => none }
def CoursesOwnWrongFalsely : Prop := coursesOwnRow.holds Try.pinned (OpenSpec.ofChange coursesOwnWrong)

/-- 'coachkeep.AuditTells': WHATEVER THE INPUT: true; the input reads as it did. -/
def auditTellsSpec : ChangeSpec := { name := "auditTells", fn := fun _ => fun
  | [d1, d2, d3, d4, d5] => { results := [.lit (.bool true)], args := [d1, d2, d3, d4, d5] }
  | _ => none }
def auditTellsRow : OpenClaim := { program := "ythckpmgehhkacaa", sum := "2d4cea4cf6cedc7f5d4217edd6aa9b1049e988ee42025237209ff3f00065407a", func := "lessonbook/coachkeep.AuditTells", spec := "auditTells", unfollowed := true, recurses := true, named := ["math/bits.divideError", "math/bits.overflowError"], apart := false }
def AuditTellsSaid : Prop := auditTellsRow.holds Try.pinned (OpenSpec.ofChange auditTellsSpec)

/-- ITS FALSE NEIGHBOUR: 'it returns false'. Refute it at one input. -/
def auditTellsWrong : ChangeSpec := { name := "auditTells", fn := fun _ => fun
  | [d1, d2, d3, d4, d5] => { results := [.lit (.bool false)], args := [d1, d2, d3, d4, d5] }
  | _ => none }
def AuditTellsWrongFalsely : Prop := auditTellsRow.holds Try.pinned (OpenSpec.ofChange auditTellsWrong)

/-- 'coachkeep.ListsOwn': WHATEVER THE INPUT: true; the input reads as it did. -/
def listsOwnSpec : ChangeSpec := { name := "listsOwn", fn := fun _ => fun
  | [d1, d2, d3] => { results := [.lit (.bool true)], args := [d1, d2, d3] }
  | _ => none }
def listsOwnRow : OpenClaim := { program := "ythckpmgehhkacaa", sum := "2d4cea4cf6cedc7f5d4217edd6aa9b1049e988ee42025237209ff3f00065407a", func := "lessonbook/coachkeep.ListsOwn", spec := "listsOwn", unfollowed := true, recurses := true, named := ["math/bits.divideError", "math/bits.overflowError"], apart := false }
def ListsOwnSaid : Prop := listsOwnRow.holds Try.pinned (OpenSpec.ofChange listsOwnSpec)

/-- ITS FALSE NEIGHBOUR: 'it returns false'. Refute it at one input. -/
def listsOwnWrong : ChangeSpec := { name := "listsOwn", fn := fun _ => fun
  | [d1, d2, d3] => { results := [.lit (.bool false)], args := [d1, d2, d3] }
  | _ => none }
def ListsOwnWrongFalsely : Prop := listsOwnRow.holds Try.pinned (OpenSpec.ofChange listsOwnWrong)

/-- 'coachkeep.SpotHonest': WHATEVER THE INPUT: true; the input reads as it did. -/
def spotHonestSpec : ChangeSpec := { name := "spotHonest", fn := fun _ => fun
  | [d1, d2, d3, d4] => { results := [.lit (.bool true)], args := [d1, d2, d3, d4] }
  | _ => none }
def spotHonestRow : OpenClaim := { program := "ythckpmgehhkacaa", sum := "2d4cea4cf6cedc7f5d4217edd6aa9b1049e988ee42025237209ff3f00065407a", func := "lessonbook/coachkeep.SpotHonest", spec := "spotHonest", unfollowed := true, recurses := true, named := ["math/bits.divideError", "math/bits.overflowError"], apart := false }
def SpotHonestSaid : Prop := spotHonestRow.holds Try.pinned (OpenSpec.ofChange spotHonestSpec)

/-- ITS FALSE NEIGHBOUR: 'it returns false'. Refute it at one input. -/
def spotHonestWrong : ChangeSpec := { name := "spotHonest", fn := fun _ => fun
  | [d1, d2, d3, d4] => { results := [.lit (.bool false)], args := [d1, d2, d3, d4] }
  | _ => none }
def SpotHonestWrongFalsely : Prop := spotHonestRow.holds Try.pinned (OpenSpec.ofChange spotHonestWrong)

/-- 'coachtop.TopFirst': WHATEVER THE INPUT: true; the input reads as it did. -/
def topFirstSpec : ChangeSpec := { name := "topFirst", fn := fun _ => fun
  | [d1, d2, d3, d4] => { results := [.lit (.bool true)], args := [d1, d2, d3, d4] }
  | _ => none }
def topFirstRow : OpenClaim := { program := "ythckpmgehhkacaa", sum := "2d4cea4cf6cedc7f5d4217edd6aa9b1049e988ee42025237209ff3f00065407a", func := "lessonbook/coachtop.TopFirst", spec := "topFirst", unfollowed := true, recurses := true, named := ["math/bits.divideError", "math/bits.overflowError"], apart := false }
def TopFirstSaid : Prop := topFirstRow.holds Try.pinned (OpenSpec.ofChange topFirstSpec)

/-- ITS FALSE NEIGHBOUR: 'it returns false'. Refute it at one input. -/
def topFirstWrong : ChangeSpec := { name := "topFirst", fn := fun _ => fun
  | [d1, d2, d3, d4] => { results := [.lit (.bool false)], args := [d1, d2, d3, d4] }
  | _ => none }
def TopFirstWrongFalsely : Prop := topFirstRow.holds Try.pinned (OpenSpec.ofChange topFirstWrong)

/-- 'coachtop.TopConvicts': WHATEVER THE INPUT: true; the input reads as it did. -/
def topConvictsSpec : ChangeSpec := { name := "topConvicts", fn := fun _ => fun
  | [d1, d2, d3, d4] => { results := [.lit (.bool true)], args := [d1, d2, d3, d4] }
  | _ => none }
def topConvictsRow : OpenClaim := { program := "ythckpmgehhkacaa", sum := "2d4cea4cf6cedc7f5d4217edd6aa9b1049e988ee42025237209ff3f00065407a", func := "lessonbook/coachtop.TopConvicts", spec := "topConvicts", unfollowed := true, recurses := true, named := ["math/bits.divideError", "math/bits.overflowError"], apart := false }
def TopConvictsSaid : Prop := topConvictsRow.holds Try.pinned (OpenSpec.ofChange topConvictsSpec)

/-- ITS FALSE NEIGHBOUR: 'it returns false'. Refute it at one input. -/
def topConvictsWrong : ChangeSpec := { name := "topConvicts", fn := fun _ => fun
  | [d1, d2, d3, d4] => { results := [.lit (.bool false)], args := [d1, d2, d3, d4] }
  | _ => none }
def TopConvictsWrongFalsely : Prop := topConvictsRow.holds Try.pinned (OpenSpec.ofChange topConvictsWrong)

/-- 'coachtop.TopReplays': WHATEVER THE INPUT: true; the input reads as it did. -/
def topReplaysSpec : ChangeSpec := { name := "topReplays", fn := fun _ => fun
  | [d1, d2, d3, d4, d5] => { results := [.lit (.bool true)], args := [d1, d2, d3, d4, d5] }
  | _ => none }
def topReplaysRow : OpenClaim := { program := "ythckpmgehhkacaa", sum := "2d4cea4cf6cedc7f5d4217edd6aa9b1049e988ee42025237209ff3f00065407a", func := "lessonbook/coachtop.TopReplays", spec := "topReplays", unfollowed := true, recurses := true, named := ["math/bits.divideError", "math/bits.overflowError"], apart := false }
def TopReplaysSaid : Prop := topReplaysRow.holds Try.pinned (OpenSpec.ofChange topReplaysSpec)

/-- ITS FALSE NEIGHBOUR: 'it returns false'. Refute it at one input. -/
def topReplaysWrong : ChangeSpec := { name := "topReplays", fn := fun _ => fun
  | [d1, d2, d3, d4, d5] => { results := [.lit (.bool false)], args := [d1, d2, d3, d4, d5] }
  | _ => none }
def TopReplaysWrongFalsely : Prop := topReplaysRow.holds Try.pinned (OpenSpec.ofChange topReplaysWrong)

/- THE SECOND FORM. 'bulk': how many values and letters a reading holds, each counted each time it is reached (what is shared counts as often as it is met; a slice's spare places count too). A statement '..UptoSaid' is the law's where the arguments, and the package variables that the reading takes, are together of bulk at most 1048576: NARROWER than '..Said'. Prove '..Said' where nothing that the law and all that it calls make is longer than what came in: it says more and counts as full. Else prove '..UptoSaid'. A law counts once. -/
mutual
def uptoBulk {H : Type} : DataW H → Nat
  | .lit (.string bytes) => bytes.length + 1
  | .lit _ => 1
  | .nil => 1
  | .ptr d => uptoBulk d + 1
  | .slice elems spare => uptoBulkAll elems + uptoBulkAll spare + 1
  | .agg parts => uptoBulkAll parts + 1
  | .iface _ d => uptoBulk d + 1
  | .map entries => uptoBulkEntries entries + 1
  | .held _ => 1
def uptoBulkAll {H : Type} : List (DataW H) → Nat
  | [] => 0
  | d :: r => uptoBulk d + uptoBulkAll r
def uptoBulkEntries {H : Type} : List (Lit × DataW H) → Nat
  | [] => 0
  | x :: r => uptoBulkEntry x + uptoBulkEntries r
def uptoBulkEntry {H : Type} : Lit × DataW H → Nat
  | (.string bytes, d) => bytes.length + uptoBulk d + 1
  | (_, d) => uptoBulk d + 1
 end
def uptoSmall : (H : Type) → List (DataW H) → Bool := fun _ ds => decide (uptoBulkAll ds ≤ 1048576)
def OpenSpec.upto (s : _root_.Go.ChangeSpec) : _root_.Go.OpenSpec := { _root_.Go.OpenSpec.ofChange s with cond := some uptoSmall }

/-- 'coachkeep.TreeBinds', WHERE WHAT IT READS IS OF BULK AT MOST 1048576: true; the input reads as it did. -/
def treeBindsUptoRow : OpenClaim := { program := "ythckpmgehhkacaa", sum := "2d4cea4cf6cedc7f5d4217edd6aa9b1049e988ee42025237209ff3f00065407a", func := "lessonbook/coachkeep.TreeBinds", spec := "treeBinds", unfollowed := true, recurses := true, named := ["math/bits.divideError", "math/bits.overflowError"], apart := false, narrowed := true }
def TreeBindsUptoSaid : Prop := treeBindsUptoRow.holds Try.pinned (OpenSpec.upto treeBindsSpec)

/-- 'coachlaw.SpotOpens', WHERE WHAT IT READS IS OF BULK AT MOST 1048576: true; the input reads as it did. -/
def spotOpensUptoRow : OpenClaim := { program := "ythckpmgehhkacaa", sum := "2d4cea4cf6cedc7f5d4217edd6aa9b1049e988ee42025237209ff3f00065407a", func := "lessonbook/coachlaw.SpotOpens", spec := "spotOpens", unfollowed := true, recurses := true, named := ["math/bits.divideError", "math/bits.overflowError"], apart := false, narrowed := true }
def SpotOpensUptoSaid : Prop := spotOpensUptoRow.holds Try.pinned (OpenSpec.upto spotOpensSpec)

/-- 'coachkeep.DrawOnce', WHERE WHAT IT READS IS OF BULK AT MOST 1048576: true; the input reads as it did. -/
def drawOnceUptoRow : OpenClaim := { program := "ythckpmgehhkacaa", sum := "2d4cea4cf6cedc7f5d4217edd6aa9b1049e988ee42025237209ff3f00065407a", func := "lessonbook/coachkeep.DrawOnce", spec := "drawOnce", recurses := true, named := ["math/bits.divideError", "math/bits.overflowError"], apart := false, narrowed := true }
def DrawOnceUptoSaid : Prop := drawOnceUptoRow.holds Try.pinned (OpenSpec.upto drawOnceSpec)

/-- 'coachkeep.TrainGoes', WHERE WHAT IT READS IS OF BULK AT MOST 1048576: true; the input reads as it did. -/
def trainGoesUptoRow : OpenClaim := { program := "ythckpmgehhkacaa", sum := "2d4cea4cf6cedc7f5d4217edd6aa9b1049e988ee42025237209ff3f00065407a", func := "lessonbook/coachkeep.TrainGoes", spec := "trainGoes", unfollowed := true, recurses := true, named := ["math/bits.divideError", "math/bits.overflowError"], apart := false, narrowed := true }
def TrainGoesUptoSaid : Prop := trainGoesUptoRow.holds Try.pinned (OpenSpec.upto trainGoesSpec)

/-- 'coachkeep.JournalGoes', WHERE WHAT IT READS IS OF BULK AT MOST 1048576: true; the input reads as it did. -/
def journalGoesUptoRow : OpenClaim := { program := "ythckpmgehhkacaa", sum := "2d4cea4cf6cedc7f5d4217edd6aa9b1049e988ee42025237209ff3f00065407a", func := "lessonbook/coachkeep.JournalGoes", spec := "journalGoes", unfollowed := true, recurses := true, named := ["math/bits.divideError", "math/bits.overflowError"], apart := false, narrowed := true }
def JournalGoesUptoSaid : Prop := journalGoesUptoRow.holds Try.pinned (OpenSpec.upto journalGoesSpec)

/-- 'coachkeep.CoursesOwn', WHERE WHAT IT READS IS OF BULK AT MOST 1048576: true; the input reads as it did. -/
def coursesOwnUptoRow : OpenClaim := { program := "ythckpmgehhkacaa", sum := "2d4cea4cf6cedc7f5d4217edd6aa9b1049e988ee42025237209ff3f00065407a", func := "lessonbook/coachkeep.CoursesOwn", spec := "coursesOwn", unfollowed := true, recurses := true, named := ["math/bits.divideError", "math/bits.overflowError"], apart := false, narrowed := true }
def CoursesOwnUptoSaid : Prop := coursesOwnUptoRow.holds Try.pinned (OpenSpec.upto coursesOwnSpec)

/-- 'coachkeep.AuditTells', WHERE WHAT IT READS IS OF BULK AT MOST 1048576: true; the input reads as it did. -/
def auditTellsUptoRow : OpenClaim := { program := "ythckpmgehhkacaa", sum := "2d4cea4cf6cedc7f5d4217edd6aa9b1049e988ee42025237209ff3f00065407a", func := "lessonbook/coachkeep.AuditTells", spec := "auditTells", unfollowed := true, recurses := true, named := ["math/bits.divideError", "math/bits.overflowError"], apart := false, narrowed := true }
def AuditTellsUptoSaid : Prop := auditTellsUptoRow.holds Try.pinned (OpenSpec.upto auditTellsSpec)

/-- 'coachkeep.ListsOwn', WHERE WHAT IT READS IS OF BULK AT MOST 1048576: true; the input reads as it did. -/
def listsOwnUptoRow : OpenClaim := { program := "ythckpmgehhkacaa", sum := "2d4cea4cf6cedc7f5d4217edd6aa9b1049e988ee42025237209ff3f00065407a", func := "lessonbook/coachkeep.ListsOwn", spec := "listsOwn", unfollowed := true, recurses := true, named := ["math/bits.divideError", "math/bits.overflowError"], apart := false, narrowed := true }
def ListsOwnUptoSaid : Prop := listsOwnUptoRow.holds Try.pinned (OpenSpec.upto listsOwnSpec)

/-- 'coachkeep.SpotHonest', WHERE WHAT IT READS IS OF BULK AT MOST 1048576: true; the input reads as it did. -/
def spotHonestUptoRow : OpenClaim := { program := "ythckpmgehhkacaa", sum := "2d4cea4cf6cedc7f5d4217edd6aa9b1049e988ee42025237209ff3f00065407a", func := "lessonbook/coachkeep.SpotHonest", spec := "spotHonest", unfollowed := true, recurses := true, named := ["math/bits.divideError", "math/bits.overflowError"], apart := false, narrowed := true }
def SpotHonestUptoSaid : Prop := spotHonestUptoRow.holds Try.pinned (OpenSpec.upto spotHonestSpec)

/-- 'coachtop.TopFirst', WHERE WHAT IT READS IS OF BULK AT MOST 1048576: true; the input reads as it did. -/
def topFirstUptoRow : OpenClaim := { program := "ythckpmgehhkacaa", sum := "2d4cea4cf6cedc7f5d4217edd6aa9b1049e988ee42025237209ff3f00065407a", func := "lessonbook/coachtop.TopFirst", spec := "topFirst", unfollowed := true, recurses := true, named := ["math/bits.divideError", "math/bits.overflowError"], apart := false, narrowed := true }
def TopFirstUptoSaid : Prop := topFirstUptoRow.holds Try.pinned (OpenSpec.upto topFirstSpec)

/-- 'coachtop.TopConvicts', WHERE WHAT IT READS IS OF BULK AT MOST 1048576: true; the input reads as it did. -/
def topConvictsUptoRow : OpenClaim := { program := "ythckpmgehhkacaa", sum := "2d4cea4cf6cedc7f5d4217edd6aa9b1049e988ee42025237209ff3f00065407a", func := "lessonbook/coachtop.TopConvicts", spec := "topConvicts", unfollowed := true, recurses := true, named := ["math/bits.divideError", "math/bits.overflowError"], apart := false, narrowed := true }
def TopConvictsUptoSaid : Prop := topConvictsUptoRow.holds Try.pinned (OpenSpec.upto topConvictsSpec)

/-- 'coachtop.TopReplays', WHERE WHAT IT READS IS OF BULK AT MOST 1048576: true; the input reads as it did. -/
def topReplaysUptoRow : OpenClaim := { program := "ythckpmgehhkacaa", sum := "2d4cea4cf6cedc7f5d4217edd6aa9b1049e988ee42025237209ff3f00065407a", func := "lessonbook/coachtop.TopReplays", spec := "topReplays", unfollowed := true, recurses := true, named := ["math/bits.divideError", "math/bits.overflowError"], apart := false, narrowed := true }
def TopReplaysUptoSaid : Prop := topReplaysUptoRow.holds Try.pinned (OpenSpec.upto topReplaysSpec)

end Rows
end Go.Proofs.Ythckpmgehhkacaa
