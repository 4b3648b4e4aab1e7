/-
  No cell of these rows narrows 'for every input' (looked for: loops, veiled, ifaces, maps, wideKeys, modest, calm, conditions, laid).
  DERIVED. THE GIVEN ROWS OF THIS SEAT. 5 by the template 'for every input the law returns true; each argument reads behind the call as it read before'; 0 by the template 'total and deterministic' (their statements: YtcfmjpcbiomdbaaTotals.lean).
  GIVEN WITH THE SEED: the statements are not yours to turn. If you find one false, say at which input.
  Laid BY PROGRAM, IN A SANDBOX (cutbox-rows.mjs): the forced cells as the released guide's own fill.sh prints them over the translation d40f14db7b78a93e… (all of the seat's roots in one cut). By AI agents, Wed Nov 11 2026. No macro, syntax, notation, axiom, sorry.
-/
import Derived.Test.YtcfmjpcbiomdbaaChecked
import GoSem.Claim
import GoSem.ClaimJoined
import GoSem.ClaimMapViews
import Derived.JoinedTies
import Derived.KernelRfl
namespace Go.Proofs.Ytcfmjpcbiomdbaa
/- THE CELL 'sum', in the pinned program and in every row, IS THE sha256 OF THE DUMP (.gsa) THAT YtcfmjpcbiomdbaaProg.lean LOADS. Nothing in Lean hashes anything: it is a label: what it is worth is what the hold of that sum in a sandbox is worth. -/
noncomputable def Try.pinned : Pinned := { name := "ytcfmjpcbiomdbaa", sum := "d40f14db7b78a93edbb8739b8b407616ecbd383cb1a7d31ad22ead650018825e", checked := Try.checked }
namespace Rows
def none {H : Type} : Left H := { results := [], args := [] }

/-- 'coachtop.TopReplays': WHATEVER THE INPUT: true; the input reads as it did. -/
def topReplaysSpec : ChangeSpec := { name := "topReplays", fn := fun _ => fun
  | [d1, d2, d3, d4, d5] => { results := [.lit (.bool true)], args := [d1, d2, d3, d4, d5] }
  | _ => none }
def topReplaysRow : OpenClaim := { program := "ytcfmjpcbiomdbaa", sum := "d40f14db7b78a93edbb8739b8b407616ecbd383cb1a7d31ad22ead650018825e", func := "lessonbook/coachtop.TopReplays", spec := "topReplays", unfollowed := true, recurses := true, named := ["math/bits.divideError", "math/bits.overflowError"], apart := false }
def TopReplaysSaid : Prop := topReplaysRow.holds Try.pinned (OpenSpec.ofChange topReplaysSpec)

/-- ITS FALSE NEIGHBOUR: 'it returns false'. Refute it at one input. -/
def topReplaysWrong : ChangeSpec := { name := "topReplays", fn := fun _ => fun
  | [d1, d2, d3, d4, d5] => { results := [.lit (.bool false)], args := [d1, d2, d3, d4, d5] }
  | _ => none }
def TopReplaysWrongFalsely : Prop := topReplaysRow.holds Try.pinned (OpenSpec.ofChange topReplaysWrong)

/-- 'coachtop.TopFirst': WHATEVER THE INPUT: true; the input reads as it did. -/
def topFirstSpec : ChangeSpec := { name := "topFirst", fn := fun _ => fun
  | [d1, d2, d3, d4] => { results := [.lit (.bool true)], args := [d1, d2, d3, d4] }
  | _ => none }
def topFirstRow : OpenClaim := { program := "ytcfmjpcbiomdbaa", sum := "d40f14db7b78a93edbb8739b8b407616ecbd383cb1a7d31ad22ead650018825e", func := "lessonbook/coachtop.TopFirst", spec := "topFirst", unfollowed := true, recurses := true, named := ["math/bits.divideError", "math/bits.overflowError"], apart := false }
def TopFirstSaid : Prop := topFirstRow.holds Try.pinned (OpenSpec.ofChange topFirstSpec)

/-- ITS FALSE NEIGHBOUR: 'it returns false'. Refute it at one input. -/
def topFirstWrong : ChangeSpec := { name := "topFirst", fn := fun _ => fun
  | [d1, d2, d3, d4] => { results := [.lit (.bool false)], args := [d1, d2, d3, d4] }
  | _ => none }
def TopFirstWrongFalsely : Prop := topFirstRow.holds Try.pinned (OpenSpec.ofChange topFirstWrong)

/-- 'coachtop.TopConvicts': WHATEVER THE INPUT: true; the input reads as it did. -/
def topConvictsSpec : ChangeSpec := { name := "topConvicts", fn := fun _ => fun
  | [d1, d2, d3, d4] => { results := [.lit (.bool true)], args := [d1, d2, d3, d4] }
  | _ => none }
def topConvictsRow : OpenClaim := { program := "ytcfmjpcbiomdbaa", sum := "d40f14db7b78a93edbb8739b8b407616ecbd383cb1a7d31ad22ead650018825e", func := "lessonbook/coachtop.TopConvicts", spec := "topConvicts", unfollowed := true, recurses := true, named := ["math/bits.divideError", "math/bits.overflowError"], apart := false }
def TopConvictsSaid : Prop := topConvictsRow.holds Try.pinned (OpenSpec.ofChange topConvictsSpec)

/-- ITS FALSE NEIGHBOUR: 'it returns false'. Refute it at one input. -/
def topConvictsWrong : ChangeSpec := { name := "topConvicts", fn := fun _ => fun
  | [d1, d2, d3, d4] => { results := [.lit (.bool false)], args := [d1, d2, d3, d4] }
  | _ => none }
def TopConvictsWrongFalsely : Prop := topConvictsRow.holds Try.pinned (OpenSpec.ofChange topConvictsWrong)

/-- 'coachkeep.CoursesOwn': WHATEVER THE INPUT: true; the input reads as it did. -/
def coursesOwnSpec : ChangeSpec := { name := "coursesOwn", fn := fun _ => fun
  | [d1, d2, d3] => { results := [.lit (.bool true)], args := [d1, d2, d3] }
  | _ => none }
def coursesOwnRow : OpenClaim := { program := "ytcfmjpcbiomdbaa", sum := "d40f14db7b78a93edbb8739b8b407616ecbd383cb1a7d31ad22ead650018825e", func := "lessonbook/coachkeep.CoursesOwn", spec := "coursesOwn", unfollowed := true, recurses := true, named := ["math/bits.divideError", "math/bits.overflowError"], apart := false }
def CoursesOwnSaid : Prop := coursesOwnRow.holds Try.pinned (OpenSpec.ofChange coursesOwnSpec)

/-- ITS FALSE NEIGHBOUR: 'it returns false'. Refute it at one input. -/
def coursesOwnWrong : ChangeSpec := { name := "coursesOwn", fn := fun _ => fun
  | [d1, d2, d3] => { results := [.lit (.bool false)], args := [d1, d2, d3] }
  | _ => none }
def CoursesOwnWrongFalsely : Prop := coursesOwnRow.holds Try.pinned (OpenSpec.ofChange coursesOwnWrong)

/-- 'coachkeep.ListsOwn': WHATEVER THE INPUT: true; the input reads as it did. -/
def listsOwnSpec : ChangeSpec := { name := "listsOwn", fn := fun _ => fun
  | [d1, d2, d3] => { results := [.lit (.bool true)], args := [d1, d2, d3] }
  | _ => none }
def listsOwnRow : OpenClaim := { program := "ytcfmjpcbiomdbaa", sum := "d40f14db7b78a93edbb8739b8b407616ecbd383cb1a7d31ad22ead650018825e", func := "lessonbook/coachkeep.ListsOwn", spec := "listsOwn", unfollowed := true, recurses := true, named := ["math/bits.divideError", "math/bits.overflowError"], apart := false }
def ListsOwnSaid : Prop := listsOwnRow.holds Try.pinned (OpenSpec.ofChange listsOwnSpec)

/-- ITS FALSE NEIGHBOUR: 'it returns false'. Refute it at one input. -/
def listsOwnWrong : ChangeSpec := { name := "listsOwn", fn := fun _ => fun
  | [d1, d2, d3] => { results := [.lit (.bool false)], args := [d1, d2, d3] }
  | _ => none }
def ListsOwnWrongFalsely : Prop := listsOwnRow.holds Try.pinned (OpenSpec.ofChange listsOwnWrong)

/- THE SECOND FORM. 'bulk': how many values and letters a reading holds, each counted each time it is reached (what is shared counts as often as it is met; a slice's spare places count too). A statement '..UptoSaid' is the law's where the arguments, and the package variables that the reading takes, are together of bulk at most 1048576: NARROWER than '..Said'. Prove '..Said' where nothing that the law and all that it calls make is longer than what came in: it says more and counts as full. Else prove '..UptoSaid'. A law counts once. -/
mutual
def uptoBulk {H : Type} : DataW H → Nat
  | .lit (.string bytes) => bytes.length + 1
  | .lit _ => 1
  | .nil => 1
  | .ptr d => uptoBulk d + 1
  | .slice elems spare => uptoBulkAll elems + uptoBulkAll spare + 1
  | .agg parts => uptoBulkAll parts + 1
  | .iface _ d => uptoBulk d + 1
  | .map entries => uptoBulkEntries entries + 1
  | .held _ => 1
def uptoBulkAll {H : Type} : List (DataW H) → Nat
  | [] => 0
  | d :: r => uptoBulk d + uptoBulkAll r
def uptoBulkEntries {H : Type} : List (Lit × DataW H) → Nat
  | [] => 0
  | x :: r => uptoBulkEntry x + uptoBulkEntries r
def uptoBulkEntry {H : Type} : Lit × DataW H → Nat
  | (.string bytes, d) => bytes.length + uptoBulk d + 1
  | (_, d) => uptoBulk d + 1
 end
def uptoSmall : (H : Type) → List (DataW H) → Bool := fun _ ds => decide (uptoBulkAll ds ≤ 1048576)
def OpenSpec.upto (s : _root_.Go.ChangeSpec) : _root_.Go.OpenSpec := { _root_.Go.OpenSpec.ofChange s with cond := some uptoSmall }

/-- 'coachtop.TopReplays', WHERE WHAT IT READS IS OF BULK AT MOST 1048576: true; the input reads as it did. -/
def topReplaysUptoRow : OpenClaim := { program := "ytcfmjpcbiomdbaa", sum := "d40f14db7b78a93edbb8739b8b407616ecbd383cb1a7d31ad22ead650018825e", func := "lessonbook/coachtop.TopReplays", spec := "topReplays", unfollowed := true, recurses := true, named := ["math/bits.divideError", "math/bits.overflowError"], apart := false, narrowed := true }
def TopReplaysUptoSaid : Prop := topReplaysUptoRow.holds Try.pinned (OpenSpec.upto topReplaysSpec)

/-- 'coachtop.TopFirst', WHERE WHAT IT READS IS OF BULK AT MOST 1048576: true; the input reads as it did. -/
def topFirstUptoRow : OpenClaim := { program := "ytcfmjpcbiomdbaa", sum := "d40f14db7b78a93edbb8739b8b407616ecbd383cb1a7d31ad22ead650018825e", func := "lessonbook/coachtop.TopFirst", spec := "topFirst", unfollowed := true, recurses := true, named := ["math/bits.divideError", "math/bits.overflowError"], apart := false, narrowed := true }
def TopFirstUptoSaid : Prop := topFirstUptoRow.holds Try.pinned (OpenSpec.upto topFirstSpec)

/-- 'coachtop.TopConvicts', WHERE WHAT IT READS IS OF BULK AT MOST 1048576: true; the input reads as it did. -/
def topConvictsUptoRow : OpenClaim := { program := "ytcfmjpcbiomdbaa", sum := "d40f14db7b78a93edbb8739b8b407616ecbd383cb1a7d31ad22ead650018825e", func := "lessonbook/coachtop.TopConvicts", spec := "topConvicts", unfollowed := true, recurses := true, named := ["math/bits.divideError", "math/bits.overflowError"], apart := false, narrowed := true }
def TopConvictsUptoSaid : Prop := topConvictsUptoRow.holds Try.pinned (OpenSpec.upto topConvictsSpec)

/-- 'coachkeep.CoursesOwn', WHERE WHAT IT READS IS OF BULK AT MOST 1048576: true; the input reads as it did. -/
def coursesOwnUptoRow : OpenClaim := { program := "ytcfmjpcbiomdbaa", sum := "d40f14db7b78a93edbb8739b8b407616ecbd383cb1a7d31ad22ead650018825e", func := "lessonbook/coachkeep.CoursesOwn", spec := "coursesOwn", unfollowed := true, recurses := true, named := ["math/bits.divideError", "math/bits.overflowError"], apart := false, narrowed := true }
def CoursesOwnUptoSaid : Prop := coursesOwnUptoRow.holds Try.pinned (OpenSpec.upto coursesOwnSpec)

/-- 'coachkeep.ListsOwn', WHERE WHAT IT READS IS OF BULK AT MOST 1048576: true; the input reads as it did. -/
def listsOwnUptoRow : OpenClaim := { program := "ytcfmjpcbiomdbaa", sum := "d40f14db7b78a93edbb8739b8b407616ecbd383cb1a7d31ad22ead650018825e", func := "lessonbook/coachkeep.ListsOwn", spec := "listsOwn", unfollowed := true, recurses := true, named := ["math/bits.divideError", "math/bits.overflowError"], apart := false, narrowed := true }
def ListsOwnUptoSaid : Prop := listsOwnUptoRow.holds Try.pinned (OpenSpec.upto listsOwnSpec)

end Rows
end Go.Proofs.Ytcfmjpcbiomdbaa
