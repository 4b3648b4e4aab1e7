/- The law AuditSays holds of the given program for every input. No condition. -/
import Derived.Test.YtaeeonnjkplohaaGreatDoorMem
import Derived.Test.YtaeeonnjkplohaaGreatDoorJrnA
import Derived.Test.YtaeeonnjkplohaaGreatDoorOptC
import Derived.Test.YtaeeonnjkplohaaGreatDoorDrawW
import Derived.Test.YtaeeonnjkplohaaGreatDoorPupC
import Derived.Test.YtaeeonnjkplohaaGreatDoorPupW
import Derived.Test.YtaeeonnjkplohaaGreatDoorWhole
import Derived.Test.YtaeeonnjkplohaaGreatDoorRecW
import Derived.Test.YtaeeonnjkplohaaGreatDoorArgs
import Derived.Deep.RegionHeld3
import Derived.Deep.DeepCutAuto
import Derived.Deep.CutBlock
import Derived.Deep.RegionLaw
namespace Go.Proofs.YtaeeonnjkplohaaGreatDoor
open Go.ChangeShapes Go.WideShapes Go.ChangeAt Go.RowKit Pl

def wholeE (c : Cfg) (ds : Data) (N : Nat) : Int := if crs c ds ≠ 0 then crs c ds else if (N : Int) ≤ c.steps then 0 else 2
set_option maxRecDepth 100000 in
set_option maxHeartbeats 2000000 in
theorem aud_Whole_no (c : Cfg) (ds : Data) (D : Option Addr) (n dc : Nat) (w : World) (hd : Duos w D n ds) (hn : n ≤ 9223372036854775806) (A : Option Addr) (N ac : Nat) (h : wholeE c ds N ≠ 0) :
    Calls Tryz.prog 26 #[.agg #[.int .i64 c.ci, .int .i64 c.ch, .int .i64 c.co, .int .u64 c.seed, .int .i64 c.batch, .int .i64 c.steps, .int .i64 c.rate, .int .i64 c.decay, .int .i64 c.how, .int .i64 c.keep, .int .i64 c.clip], .slice D n dc, .slice A N ac] w fun e w' => e = .returned (.tuple #[.int .i64 0, .int .i64 (wholeE c ds N)]) ∧ Below w.heap.size w w' := by
  have HCK := Lib.hid (fun W (h : Below w.heap.size w W) => trn_Check c D n dc ds W (hd.below h) hn)
  have HB0 := Blk.made w 24 #[.int .i64 c.ci, .int .i64 c.ch, .int .i64 c.co, .int .u64 c.seed, .int .i64 c.batch, .int .i64 c.steps, .int .i64 c.rate, .int .i64 c.decay, .int .i64 c.how, .int .i64 c.keep, .int .i64 c.clip]
  have b0 : Below w.heap.size w (w.alloc (.cells #[.int .i64 c.ci, .int .i64 c.ch, .int .i64 c.co, .int .u64 c.seed, .int .i64 c.batch, .int .i64 c.steps, .int .i64 c.rate, .int .i64 c.decay, .int .i64 c.how, .int .i64 c.keep, .int .i64 c.clip] 24)) := (Below.refl _ _).alloc (Nat.le_refl _) _
  by_cases hC : crs c ds = 0
  · have hst : ¬ (N : Int) ≤ c.steps := fun hh => h (by unfold wholeE; rw [if_neg (by simp [hC]), if_pos hh])
    have F := Lib.hid (show wholeE c ds N = 2 by unfold wholeE; rw [if_neg (by simp [hC]), if_neg hst])
    have C0 := Lib.hid hC
    have h5 : c.steps < (N : Int) := by omega
    clear hC h hst
    go_enter Tryz.func26, Tryz.ntmps26
    go_wp2_with fail
    refine (HCK.out _ b0).mono ?_
    rintro e x1 ⟨rfl, hb1⟩
    rw [C0.out]
    have hbw := b0.trans (hb1.mono b0.size)
    have d5 : x1.cell? ⟨w.heap.size, 5, none⟩ = some (.int .i64 c.steps) := (HB0.below hb1 HB0.lt).cell 5
    go_wp2
    go_ret2
    rw [F.out]
    exact ⟨rfl, hbw⟩
  · have F := Lib.hid (show wholeE c ds N = crs c ds from if_pos hC)
    have t : (crs c ds != 0) = true := by rw [bne_iff_ne]; exact hC
    obtain ⟨z, hz⟩ : ∃ z, z = crs c ds := ⟨_, rfl⟩
    rw [← hz] at F t HCK
    clear hz hC h
    go_enter Tryz.func26, Tryz.ntmps26
    go_wp2_with fail
    refine (HCK.out _ b0).mono ?_
    rintro e x1 ⟨rfl, hb1⟩
    have hbw := b0.trans (hb1.mono b0.size)
    go_wp2
    go_ret2
    rw [F.out]
    exact ⟨rfl, hbw⟩

end Go.Proofs.YtaeeonnjkplohaaGreatDoor
