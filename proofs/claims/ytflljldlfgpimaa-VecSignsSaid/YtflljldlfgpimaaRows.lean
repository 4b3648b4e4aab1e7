/-
  No cell of these rows narrows 'for every input' (looked for: loops, veiled, ifaces, maps, wideKeys, modest, calm, conditions, laid).
  DERIVED. THE GIVEN ROWS OF THIS SEAT. 12 by the template 'for every input the law returns true; each argument reads behind the call as it read before'; 0 by the template 'total and deterministic' (their statements: YtflljldlfgpimaaTotals.lean).
  GIVEN WITH THE SEED: the statements are not yours to turn. If you find one false, say at which input.
  Laid BY PROGRAM, IN A SANDBOX (cutbox-rows.mjs): the forced cells as the released guide's own fill.sh prints them over the translation a99bd86664e8cdb1… (all of the seat's roots in one cut). By AI agents, Wed Nov 11 2026. No macro, syntax, notation, axiom, sorry.
-/
import Derived.Test.YtflljldlfgpimaaChecked
import GoSem.Claim
import GoSem.ClaimJoined
import GoSem.ClaimMapViews
import Derived.JoinedTies
import Derived.KernelRfl
namespace Go.Proofs.Ytflljldlfgpimaa
/- THE CELL 'sum', in the pinned program and in every row, IS THE sha256 OF THE DUMP (.gsa) THAT YtflljldlfgpimaaProg.lean LOADS. Nothing in Lean hashes anything: it is a label: what it is worth is what the hold of that sum in a sandbox is worth. -/
noncomputable def Try.pinned : Pinned := { name := "ytflljldlfgpimaa", sum := "a99bd86664e8cdb1eac16525154047b65f74599dcf2b9834a0eff12d4aec8541", checked := Try.checked }
namespace Rows
def none {H : Type} : Left H := { results := [], args := [] }

/-- 'coachlaw.Names': WHATEVER THE INPUT: true; the input reads as it did. -/
def namesSpec : ChangeSpec := { name := "names", fn := fun _ => fun
  | [] => { results := [.lit (.bool true)], args := [] }
  | _ => none }
def namesRow : OpenClaim := { program := "ytflljldlfgpimaa", sum := "a99bd86664e8cdb1eac16525154047b65f74599dcf2b9834a0eff12d4aec8541", func := "lessonbook/coachlaw.Names", spec := "names", apart := false }
def NamesSaid : Prop := namesRow.holds Try.pinned (OpenSpec.ofChange namesSpec)

/-- ITS FALSE NEIGHBOUR: 'it returns false'. Refute it at one input. -/
def namesWrong : ChangeSpec := { name := "names", fn := fun _ => fun
  | [] => { results := [.lit (.bool false)], args := [] }
  | _ => none }
def NamesWrongFalsely : Prop := namesRow.holds Try.pinned (OpenSpec.ofChange namesWrong)

/-- 'coachkeep.FixNearest': WHATEVER THE INPUT: true; the input reads as it did. -/
def fixNearestSpec : ChangeSpec := { name := "fixNearest", fn := fun _ => fun
  | [d1, d2] => { results := [.lit (.bool true)], args := [d1, d2] }
  | _ => none }
def fixNearestRow : OpenClaim := { program := "ytflljldlfgpimaa", sum := "a99bd86664e8cdb1eac16525154047b65f74599dcf2b9834a0eff12d4aec8541", func := "lessonbook/coachkeep.FixNearest", spec := "fixNearest", apart := false }
def FixNearestSaid : Prop := fixNearestRow.holds Try.pinned (OpenSpec.ofChange fixNearestSpec)

/-- ITS FALSE NEIGHBOUR: 'it returns false'. Refute it at one input. -/
def fixNearestWrong : ChangeSpec := { name := "fixNearest", fn := fun _ => fun
  | [d1, d2] => { results := [.lit (.bool false)], args := [d1, d2] }
  | _ => none }
def FixNearestWrongFalsely : Prop := fixNearestRow.holds Try.pinned (OpenSpec.ofChange fixNearestWrong)

/-- 'coachlaw.AuditFinds': WHATEVER THE INPUT: true; the input reads as it did. -/
def auditFindsSpec : ChangeSpec := { name := "auditFinds", fn := fun _ => fun
  | [d1, d2] => { results := [.lit (.bool true)], args := [d1, d2] }
  | _ => none }
def auditFindsRow : OpenClaim := { program := "ytflljldlfgpimaa", sum := "a99bd86664e8cdb1eac16525154047b65f74599dcf2b9834a0eff12d4aec8541", func := "lessonbook/coachlaw.AuditFinds", spec := "auditFinds", unfollowed := true, recurses := true, apart := false }
def AuditFindsSaid : Prop := auditFindsRow.holds Try.pinned (OpenSpec.ofChange auditFindsSpec)

/-- ITS FALSE NEIGHBOUR: 'it returns false'. Refute it at one input. -/
def auditFindsWrong : ChangeSpec := { name := "auditFinds", fn := fun _ => fun
  | [d1, d2] => { results := [.lit (.bool false)], args := [d1, d2] }
  | _ => none }
def AuditFindsWrongFalsely : Prop := auditFindsRow.holds Try.pinned (OpenSpec.ofChange auditFindsWrong)

/-- 'coachkeep.AuditSearch': WHATEVER THE INPUT: true; the input reads as it did. -/
def auditSearchSpec : ChangeSpec := { name := "auditSearch", fn := fun _ => fun
  | [d1, d2] => { results := [.lit (.bool true)], args := [d1, d2] }
  | _ => none }
def auditSearchRow : OpenClaim := { program := "ytflljldlfgpimaa", sum := "a99bd86664e8cdb1eac16525154047b65f74599dcf2b9834a0eff12d4aec8541", func := "lessonbook/coachkeep.AuditSearch", spec := "auditSearch", unfollowed := true, recurses := true, apart := false }
def AuditSearchSaid : Prop := auditSearchRow.holds Try.pinned (OpenSpec.ofChange auditSearchSpec)

/-- ITS FALSE NEIGHBOUR: 'it returns false'. Refute it at one input. -/
def auditSearchWrong : ChangeSpec := { name := "auditSearch", fn := fun _ => fun
  | [d1, d2] => { results := [.lit (.bool false)], args := [d1, d2] }
  | _ => none }
def AuditSearchWrongFalsely : Prop := auditSearchRow.holds Try.pinned (OpenSpec.ofChange auditSearchWrong)

/-- 'coachlaw.FixSays': WHATEVER THE INPUT: true; the input reads as it did. -/
def fixSaysSpec : ChangeSpec := { name := "fixSays", fn := fun _ => fun
  | [d1, d2] => { results := [.lit (.bool true)], args := [d1, d2] }
  | _ => none }
def fixSaysRow : OpenClaim := { program := "ytflljldlfgpimaa", sum := "a99bd86664e8cdb1eac16525154047b65f74599dcf2b9834a0eff12d4aec8541", func := "lessonbook/coachlaw.FixSays", spec := "fixSays", recurses := true, apart := false }
def FixSaysSaid : Prop := fixSaysRow.holds Try.pinned (OpenSpec.ofChange fixSaysSpec)

/-- ITS FALSE NEIGHBOUR: 'it returns false'. Refute it at one input. -/
def fixSaysWrong : ChangeSpec := { name := "fixSays", fn := fun _ => fun
  | [d1, d2] => { results := [.lit (.bool false)], args := [d1, d2] }
  | _ => none }
def FixSaysWrongFalsely : Prop := fixSaysRow.holds Try.pinned (OpenSpec.ofChange fixSaysWrong)

/-- 'coachkeep.FixLaws': WHATEVER THE INPUT: true; the input reads as it did. -/
def fixLawsSpec : ChangeSpec := { name := "fixLaws", fn := fun _ => fun
  | [d1, d2, d3] => { results := [.lit (.bool true)], args := [d1, d2, d3] }
  | _ => none }
def fixLawsRow : OpenClaim := { program := "ytflljldlfgpimaa", sum := "a99bd86664e8cdb1eac16525154047b65f74599dcf2b9834a0eff12d4aec8541", func := "lessonbook/coachkeep.FixLaws", spec := "fixLaws", apart := false }
def FixLawsSaid : Prop := fixLawsRow.holds Try.pinned (OpenSpec.ofChange fixLawsSpec)

/-- ITS FALSE NEIGHBOUR: 'it returns false'. Refute it at one input. -/
def fixLawsWrong : ChangeSpec := { name := "fixLaws", fn := fun _ => fun
  | [d1, d2, d3] => { results := [.lit (.bool false)], args := [d1, d2, d3] }
  | _ => none }
def FixLawsWrongFalsely : Prop := fixLawsRow.holds Try.pinned (OpenSpec.ofChange fixLawsWrong)

/-- 'coachlaw.VecSays': WHATEVER THE INPUT: true; the input reads as it did. -/
def vecSaysSpec : ChangeSpec := { name := "vecSays", fn := fun _ => fun
  | [d1, d2, d3] => { results := [.lit (.bool true)], args := [d1, d2, d3] }
  | _ => none }
def vecSaysRow : OpenClaim := { program := "ytflljldlfgpimaa", sum := "a99bd86664e8cdb1eac16525154047b65f74599dcf2b9834a0eff12d4aec8541", func := "lessonbook/coachlaw.VecSays", spec := "vecSays", unfollowed := true, recurses := true, apart := false }
def VecSaysSaid : Prop := vecSaysRow.holds Try.pinned (OpenSpec.ofChange vecSaysSpec)

/-- ITS FALSE NEIGHBOUR: 'it returns false'. Refute it at one input. -/
def vecSaysWrong : ChangeSpec := { name := "vecSays", fn := fun _ => fun
  | [d1, d2, d3] => { results := [.lit (.bool false)], args := [d1, d2, d3] }
  | _ => none }
def VecSaysWrongFalsely : Prop := vecSaysRow.holds Try.pinned (OpenSpec.ofChange vecSaysWrong)

/-- 'coachlaw.PupilSays': WHATEVER THE INPUT: true; the input reads as it did. -/
def pupilSaysSpec : ChangeSpec := { name := "pupilSays", fn := fun _ => fun
  | [d1, d2, d3, d4, d5] => { results := [.lit (.bool true)], args := [d1, d2, d3, d4, d5] }
  | _ => none }
def pupilSaysRow : OpenClaim := { program := "ytflljldlfgpimaa", sum := "a99bd86664e8cdb1eac16525154047b65f74599dcf2b9834a0eff12d4aec8541", func := "lessonbook/coachlaw.PupilSays", spec := "pupilSays", unfollowed := true, recurses := true, apart := false }
def PupilSaysSaid : Prop := pupilSaysRow.holds Try.pinned (OpenSpec.ofChange pupilSaysSpec)

/-- ITS FALSE NEIGHBOUR: 'it returns false'. Refute it at one input. -/
def pupilSaysWrong : ChangeSpec := { name := "pupilSays", fn := fun _ => fun
  | [d1, d2, d3, d4, d5] => { results := [.lit (.bool false)], args := [d1, d2, d3, d4, d5] }
  | _ => none }
def PupilSaysWrongFalsely : Prop := pupilSaysRow.holds Try.pinned (OpenSpec.ofChange pupilSaysWrong)

/-- 'coachkeep.PupilBack': WHATEVER THE INPUT: true; the input reads as it did. -/
def pupilBackSpec : ChangeSpec := { name := "pupilBack", fn := fun _ => fun
  | [d] => { results := [.lit (.bool true)], args := [d] }
  | _ => none }
def pupilBackRow : OpenClaim := { program := "ytflljldlfgpimaa", sum := "a99bd86664e8cdb1eac16525154047b65f74599dcf2b9834a0eff12d4aec8541", func := "lessonbook/coachkeep.PupilBack", spec := "pupilBack", unfollowed := true, recurses := true, apart := false }
def PupilBackSaid : Prop := pupilBackRow.holds Try.pinned (OpenSpec.ofChange pupilBackSpec)

/-- ITS FALSE NEIGHBOUR: 'it returns false'. Refute it at one input. -/
def pupilBackWrong : ChangeSpec := { name := "pupilBack", fn := fun _ => fun
  | [d] => { results := [.lit (.bool false)], args := [d] }
  | _ => none }
def PupilBackWrongFalsely : Prop := pupilBackRow.holds Try.pinned (OpenSpec.ofChange pupilBackWrong)

/-- 'coachlaw.VecTurns': WHATEVER THE INPUT: true; the input reads as it did. -/
def vecTurnsSpec : ChangeSpec := { name := "vecTurns", fn := fun _ => fun
  | [d1, d2, d3] => { results := [.lit (.bool true)], args := [d1, d2, d3] }
  | _ => none }
def vecTurnsRow : OpenClaim := { program := "ytflljldlfgpimaa", sum := "a99bd86664e8cdb1eac16525154047b65f74599dcf2b9834a0eff12d4aec8541", func := "lessonbook/coachlaw.VecTurns", spec := "vecTurns", unfollowed := true, recurses := true, apart := false }
def VecTurnsSaid : Prop := vecTurnsRow.holds Try.pinned (OpenSpec.ofChange vecTurnsSpec)

/-- ITS FALSE NEIGHBOUR: 'it returns false'. Refute it at one input. -/
def vecTurnsWrong : ChangeSpec := { name := "vecTurns", fn := fun _ => fun
  | [d1, d2, d3] => { results := [.lit (.bool false)], args := [d1, d2, d3] }
  | _ => none }
def VecTurnsWrongFalsely : Prop := vecTurnsRow.holds Try.pinned (OpenSpec.ofChange vecTurnsWrong)

/-- 'coachkeep.VecSigns': WHATEVER THE INPUT: true; the input reads as it did. -/
def vecSignsSpec : ChangeSpec := { name := "vecSigns", fn := fun _ => fun
  | [d1, d2, d3] => { results := [.lit (.bool true)], args := [d1, d2, d3] }
  | _ => none }
def vecSignsRow : OpenClaim := { program := "ytflljldlfgpimaa", sum := "a99bd86664e8cdb1eac16525154047b65f74599dcf2b9834a0eff12d4aec8541", func := "lessonbook/coachkeep.VecSigns", spec := "vecSigns", unfollowed := true, recurses := true, apart := false }
def VecSignsSaid : Prop := vecSignsRow.holds Try.pinned (OpenSpec.ofChange vecSignsSpec)

/-- ITS FALSE NEIGHBOUR: 'it returns false'. Refute it at one input. -/
def vecSignsWrong : ChangeSpec := { name := "vecSigns", fn := fun _ => fun
  | [d1, d2, d3] => { results := [.lit (.bool false)], args := [d1, d2, d3] }
  | _ => none }
def VecSignsWrongFalsely : Prop := vecSignsRow.holds Try.pinned (OpenSpec.ofChange vecSignsWrong)

/-- 'coachtop.TopReplays': WHATEVER THE INPUT: true; the input reads as it did. -/
def topReplaysSpec : ChangeSpec := { name := "topReplays", fn := fun _ => fun
  | [d1, d2, d3, d4, d5] => { results := [.lit (.bool true)], args := [d1, d2, d3, d4, d5] }
  | _ => none }
def topReplaysRow : OpenClaim := { program := "ytflljldlfgpimaa", sum := "a99bd86664e8cdb1eac16525154047b65f74599dcf2b9834a0eff12d4aec8541", func := "lessonbook/coachtop.TopReplays", spec := "topReplays", unfollowed := true, recurses := true, named := ["math/bits.divideError", "math/bits.overflowError"], apart := false }
def TopReplaysSaid : Prop := topReplaysRow.holds Try.pinned (OpenSpec.ofChange topReplaysSpec)

/-- ITS FALSE NEIGHBOUR: 'it returns false'. Refute it at one input. -/
def topReplaysWrong : ChangeSpec := { name := "topReplays", fn := fun _ => fun
  | [d1, d2, d3, d4, d5] => { results := [.lit (.bool false)], args := [d1, d2, d3, d4, d5] }
  | _ => none }
def TopReplaysWrongFalsely : Prop := topReplaysRow.holds Try.pinned (OpenSpec.ofChange topReplaysWrong)

/- THE SECOND FORM. 'bulk': how many values and letters a reading holds, each counted each time it is reached (what is shared counts as often as it is met; a slice's spare places count too). A statement '..UptoSaid' is the law's where the arguments, and the package variables that the reading takes, are together of bulk at most 1048576: NARROWER than '..Said'. Prove '..Said' where nothing that the law and all that it calls make is longer than what came in: it says more and counts as full. Else prove '..UptoSaid'. A law counts once. -/
mutual
def uptoBulk {H : Type} : DataW H → Nat
  | .lit (.string bytes) => bytes.length + 1
  | .lit _ => 1
  | .nil => 1
  | .ptr d => uptoBulk d + 1
  | .slice elems spare => uptoBulkAll elems + uptoBulkAll spare + 1
  | .agg parts => uptoBulkAll parts + 1
  | .iface _ d => uptoBulk d + 1
  | .map entries => uptoBulkEntries entries + 1
  | .held _ => 1
def uptoBulkAll {H : Type} : List (DataW H) → Nat
  | [] => 0
  | d :: r => uptoBulk d + uptoBulkAll r
def uptoBulkEntries {H : Type} : List (Lit × DataW H) → Nat
  | [] => 0
  | x :: r => uptoBulkEntry x + uptoBulkEntries r
def uptoBulkEntry {H : Type} : Lit × DataW H → Nat
  | (.string bytes, d) => bytes.length + uptoBulk d + 1
  | (_, d) => uptoBulk d + 1
 end
def uptoSmall : (H : Type) → List (DataW H) → Bool := fun _ ds => decide (uptoBulkAll ds ≤ 1048576)
def OpenSpec.upto (s : _root_.Go.ChangeSpec) : _root_.Go.OpenSpec := { _root_.Go.OpenSpec.ofChange s with cond := some uptoSmall }

/-- 'coachlaw.Names', WHERE WHAT IT READS IS OF BULK AT MOST 1048576: true; the input reads as it did. -/
def namesUptoRow : OpenClaim := { program := "ytflljldlfgpimaa", sum := "a99bd86664e8cdb1eac16525154047b65f74599dcf2b9834a0eff12d4aec8541", func := "lessonbook/coachlaw.Names", spec := "names", apart := false, narrowed := true }
def NamesUptoSaid : Prop := namesUptoRow.holds Try.pinned (OpenSpec.upto namesSpec)

/-- 'coachkeep.FixNearest', WHERE WHAT IT READS IS OF BULK AT MOST 1048576: true; the input reads as it did. -/
def fixNearestUptoRow : OpenClaim := { program := "ytflljldlfgpimaa", sum := "a99bd86664e8cdb1eac16525154047b65f74599dcf2b9834a0eff12d4aec8541", func := "lessonbook/coachkeep.FixNearest", spec := "fixNearest", apart := false, narrowed := true }
def FixNearestUptoSaid : Prop := fixNearestUptoRow.holds Try.pinned (OpenSpec.upto fixNearestSpec)

/-- 'coachlaw.AuditFinds', WHERE WHAT IT READS IS OF BULK AT MOST 1048576: true; the input reads as it did. -/
def auditFindsUptoRow : OpenClaim := { program := "ytflljldlfgpimaa", sum := "a99bd86664e8cdb1eac16525154047b65f74599dcf2b9834a0eff12d4aec8541", func := "lessonbook/coachlaw.AuditFinds", spec := "auditFinds", unfollowed := true, recurses := true, apart := false, narrowed := true }
def AuditFindsUptoSaid : Prop := auditFindsUptoRow.holds Try.pinned (OpenSpec.upto auditFindsSpec)

/-- 'coachkeep.AuditSearch', WHERE WHAT IT READS IS OF BULK AT MOST 1048576: true; the input reads as it did. -/
def auditSearchUptoRow : OpenClaim := { program := "ytflljldlfgpimaa", sum := "a99bd86664e8cdb1eac16525154047b65f74599dcf2b9834a0eff12d4aec8541", func := "lessonbook/coachkeep.AuditSearch", spec := "auditSearch", unfollowed := true, recurses := true, apart := false, narrowed := true }
def AuditSearchUptoSaid : Prop := auditSearchUptoRow.holds Try.pinned (OpenSpec.upto auditSearchSpec)

/-- 'coachlaw.FixSays', WHERE WHAT IT READS IS OF BULK AT MOST 1048576: true; the input reads as it did. -/
def fixSaysUptoRow : OpenClaim := { program := "ytflljldlfgpimaa", sum := "a99bd86664e8cdb1eac16525154047b65f74599dcf2b9834a0eff12d4aec8541", func := "lessonbook/coachlaw.FixSays", spec := "fixSays", recurses := true, apart := false, narrowed := true }
def FixSaysUptoSaid : Prop := fixSaysUptoRow.holds Try.pinned (OpenSpec.upto fixSaysSpec)

/-- 'coachkeep.FixLaws', WHERE WHAT IT READS IS OF BULK AT MOST 1048576: true; the input reads as it did. -/
def fixLawsUptoRow : OpenClaim := { program := "ytflljldlfgpimaa", sum := "a99bd86664e8cdb1eac16525154047b65f74599dcf2b9834a0eff12d4aec8541", func := "lessonbook/coachkeep.FixLaws", spec := "fixLaws", apart := false, narrowed := true }
def FixLawsUptoSaid : Prop := fixLawsUptoRow.holds Try.pinned (OpenSpec.upto fixLawsSpec)

/-- 'coachlaw.VecSays', WHERE WHAT IT READS IS OF BULK AT MOST 1048576: true; the input reads as it did. -/
def vecSaysUptoRow : OpenClaim := { program := "ytflljldlfgpimaa", sum := "a99bd86664e8cdb1eac16525154047b65f74599dcf2b9834a0eff12d4aec8541", func := "lessonbook/coachlaw.VecSays", spec := "vecSays", unfollowed := true, recurses := true, apart := false, narrowed := true }
def VecSaysUptoSaid : Prop := vecSaysUptoRow.holds Try.pinned (OpenSpec.upto vecSaysSpec)

/-- 'coachlaw.PupilSays', WHERE WHAT IT READS IS OF BULK AT MOST 1048576: true; the input reads as it did. -/
def pupilSaysUptoRow : OpenClaim := { program := "ytflljldlfgpimaa", sum := "a99bd86664e8cdb1eac16525154047b65f74599dcf2b9834a0eff12d4aec8541", func := "lessonbook/coachlaw.PupilSays", spec := "pupilSays", unfollowed := true, recurses := true, apart := false, narrowed := true }
def PupilSaysUptoSaid : Prop := pupilSaysUptoRow.holds Try.pinned (OpenSpec.upto pupilSaysSpec)

/-- 'coachkeep.PupilBack', WHERE WHAT IT READS IS OF BULK AT MOST 1048576: true; the input reads as it did. -/
def pupilBackUptoRow : OpenClaim := { program := "ytflljldlfgpimaa", sum := "a99bd86664e8cdb1eac16525154047b65f74599dcf2b9834a0eff12d4aec8541", func := "lessonbook/coachkeep.PupilBack", spec := "pupilBack", unfollowed := true, recurses := true, apart := false, narrowed := true }
def PupilBackUptoSaid : Prop := pupilBackUptoRow.holds Try.pinned (OpenSpec.upto pupilBackSpec)

/-- 'coachlaw.VecTurns', WHERE WHAT IT READS IS OF BULK AT MOST 1048576: true; the input reads as it did. -/
def vecTurnsUptoRow : OpenClaim := { program := "ytflljldlfgpimaa", sum := "a99bd86664e8cdb1eac16525154047b65f74599dcf2b9834a0eff12d4aec8541", func := "lessonbook/coachlaw.VecTurns", spec := "vecTurns", unfollowed := true, recurses := true, apart := false, narrowed := true }
def VecTurnsUptoSaid : Prop := vecTurnsUptoRow.holds Try.pinned (OpenSpec.upto vecTurnsSpec)

/-- 'coachkeep.VecSigns', WHERE WHAT IT READS IS OF BULK AT MOST 1048576: true; the input reads as it did. -/
def vecSignsUptoRow : OpenClaim := { program := "ytflljldlfgpimaa", sum := "a99bd86664e8cdb1eac16525154047b65f74599dcf2b9834a0eff12d4aec8541", func := "lessonbook/coachkeep.VecSigns", spec := "vecSigns", unfollowed := true, recurses := true, apart := false, narrowed := true }
def VecSignsUptoSaid : Prop := vecSignsUptoRow.holds Try.pinned (OpenSpec.upto vecSignsSpec)

/-- 'coachtop.TopReplays', WHERE WHAT IT READS IS OF BULK AT MOST 1048576: true; the input reads as it did. -/
def topReplaysUptoRow : OpenClaim := { program := "ytflljldlfgpimaa", sum := "a99bd86664e8cdb1eac16525154047b65f74599dcf2b9834a0eff12d4aec8541", func := "lessonbook/coachtop.TopReplays", spec := "topReplays", unfollowed := true, recurses := true, named := ["math/bits.divideError", "math/bits.overflowError"], apart := false, narrowed := true }
def TopReplaysUptoSaid : Prop := topReplaysUptoRow.holds Try.pinned (OpenSpec.upto topReplaysSpec)

end Rows
end Go.Proofs.Ytflljldlfgpimaa
