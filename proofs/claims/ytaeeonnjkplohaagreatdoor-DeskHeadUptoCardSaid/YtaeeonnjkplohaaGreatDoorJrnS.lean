/- The law JournalSays, where what comes in is not too long: the walk. -/
import Derived.Test.YtaeeonnjkplohaaGreatDoorMem
import Derived.Test.YtaeeonnjkplohaaGreatDoorJrnA
import Derived.Test.YtaeeonnjkplohaaGreatDoorOptC
import Derived.Test.YtaeeonnjkplohaaGreatDoorDrawW
import Derived.Test.YtaeeonnjkplohaaGreatDoorPupC
import Derived.Test.YtaeeonnjkplohaaGreatDoorPupW
import Derived.Test.YtaeeonnjkplohaaGreatDoorRecW
import Derived.Test.YtaeeonnjkplohaaGreatDoorArgs
import Derived.Test.YtaeeonnjkplohaaGreatDoorTreeW
import Derived.Test.YtaeeonnjkplohaaGreatDoorUpto
import Derived.Deep.DeepCutAuto
import Derived.Deep.CutBlock
import Derived.Outline
import Derived.Deep.RegionHeld3
import Derived.Deep.RegionLaw
import Derived.StillTailTactics
import Derived.BigRegion
import Derived.ChangeAlike
namespace Go.Proofs.YtaeeonnjkplohaaGreatDoor
open Go.ChangeShapes Go.WideShapes Go.ChangeAt Go.RowKit Pl

set_option maxRecDepth 100000 in
set_option maxHeartbeats 2000000 in
theorem jrn_Make_arg (c : Cfg) (ds : Data) (hC : crs c ds = 0) (s0 : 0 ≤ c.seed) (s1 : c.seed < 18446744073709551616) (D : Option Addr) (n dc : Nat) (w : World) (hd : Duos w D n ds) (N0 : Int) (hN : ¬ (0 ≤ N0 ∧ N0 ≤ c.steps)) :
    Calls Tryz.prog 10 #[.agg #[.int .i64 c.ci, .int .i64 c.ch, .int .i64 c.co, .int .u64 c.seed, .int .i64 c.batch, .int .i64 c.steps, .int .i64 c.rate, .int .i64 c.decay, .int .i64 c.how, .int .i64 c.keep, .int .i64 c.clip], .slice D n dc, .int .i64 N0] w fun e w' => e = .returned (.tuple #[.slice none 0 0, .int .i64 1]) ∧ Below w.heap.size w w' := by
  have HCK := Lib.hid (fun W (h : Below w.heap.size w W) => jrn_Head_ok c ds hC s0 s1 D n dc W (hd.below h))
  have HB0 := Blk.made w 24 #[.int .i64 c.ci, .int .i64 c.ch, .int .i64 c.co, .int .u64 c.seed, .int .i64 c.batch, .int .i64 c.steps, .int .i64 c.rate, .int .i64 c.decay, .int .i64 c.how, .int .i64 c.keep, .int .i64 c.clip]
  have b0 : Below w.heap.size w (w.alloc (.cells #[.int .i64 c.ci, .int .i64 c.ch, .int .i64 c.co, .int .u64 c.seed, .int .i64 c.batch, .int .i64 c.steps, .int .i64 c.rate, .int .i64 c.decay, .int .i64 c.how, .int .i64 c.keep, .int .i64 c.clip] 24)) := (Below.refl _ _).alloc (Nat.le_refl _) _
  have h4 : ¬ N0 < 0 → c.steps < N0 := by omega
  clear hC hN hd
  by_cases h1 : N0 < 0
  all_goals
    first
      | (have h5 : c.steps < N0 := h4 h1)
      | skip
    clear h4
    go_enter Tryz.func10, Tryz.ntmps10
    go_wp2_with fail
    refine (HCK.out _ b0).mono ?_
    rintro e x1 ⟨rfl, hb1⟩
    have d5 : x1.cell? ⟨w.heap.size, 5, none⟩ = some (.int .i64 c.steps) := (HB0.below hb1 HB0.lt).cell 5
    go_wp2
    go_ret2
    exact ⟨rfl, b0.trans (hb1.mono b0.size)⟩
/-- Numbers that a record may have. -/
structure RecW (r : Rec) : Prop where
  st : r.step < 9223372036854775808
  ra : r.rate < 9223372036854775808
  t0 : 0 ≤ r.root
  t1 : r.root < 18446744073709551616
  b : ∀ z ∈ r.batch, z < 9223372036854775808
end Go.Proofs.YtaeeonnjkplohaaGreatDoor
