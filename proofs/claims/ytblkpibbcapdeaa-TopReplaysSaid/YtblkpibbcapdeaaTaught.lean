/- A small course is kept: coachkeep.small, coachkeep.taught: walks. -/
import Derived.Test.YtblkpibbcapdeaaJrnA
namespace Go.Proofs.Ytblkpibbcapdeaa
open Go.RowKit Pl

def smallC : Cfg := ⟨1, 1, 1, 1, 1, 3, 6554, 0, 0, 0, 0⟩
def smallD : Data := [([65536], [131072])]
theorem small_fine : crs smallC smallD = 0 := by decide +kernel
theorem small_N : smallC.N = 4 := by decide +kernel
theorem small_bat : batI smallC smallD 0 = [0] := by decide +kernel
set_option maxRecDepth 100000 in
theorem small_chain : chainC smallC smallD 1 ≠ chainC smallC smallD 2 := by decide +kernel
theorem small_duos (w : World) : Duos ((((w.alloc (.cells #[.int .i64 1, .int .i64 1, .int .i64 1, .int .u64 1, .int .i64 1, .int .i64 3, .int .i64 6554, .int .i64 0, .int .i64 0, .int .i64 0, .int .i64 0] 24)).alloc (.cells #[.int .i64 65536] 3)).alloc (.cells #[.int .i64 131072] 3)).alloc (.cells #[.slice (some ⟨w.heap.size + 1, 0, none⟩) 1 1, .slice (some ⟨w.heap.size + 1 + 1, 0, none⟩) 1 1] 51)) (some ⟨w.heap.size + 1 + 1 + 1, 0, none⟩) 1 smallD := by
  have L1 := ((Ints.made (w.alloc (.cells #[.int .i64 1, .int .i64 1, .int .i64 1, .int .u64 1, .int .i64 1, .int .i64 3, .int .i64 6554, .int .i64 0, .int .i64 0, .int .i64 0, .int .i64 0] 24)) [65536] 1 rfl #[.int .i64 65536] rfl (g := w.heap.size + 1) (by simp) 3).alloc (.cells #[.int .i64 131072] 3)).alloc (.cells #[.slice (some ⟨w.heap.size + 1, 0, none⟩) 1 1, .slice (some ⟨w.heap.size + 1 + 1, 0, none⟩) 1 1] 51)
  have L2 := (Ints.made ((w.alloc (.cells #[.int .i64 1, .int .i64 1, .int .i64 1, .int .u64 1, .int .i64 1, .int .i64 3, .int .i64 6554, .int .i64 0, .int .i64 0, .int .i64 0, .int .i64 0] 24)).alloc (.cells #[.int .i64 65536] 3)) [131072] 1 rfl #[.int .i64 131072] rfl (g := w.heap.size + 1 + 1) (by simp) 3).alloc (.cells #[.slice (some ⟨w.heap.size + 1, 0, none⟩) 1 1, .slice (some ⟨w.heap.size + 1 + 1, 0, none⟩) 1 1] 51)
  have B : Blk ((((w.alloc (.cells #[.int .i64 1, .int .i64 1, .int .i64 1, .int .u64 1, .int .i64 1, .int .i64 3, .int .i64 6554, .int .i64 0, .int .i64 0, .int .i64 0, .int .i64 0] 24)).alloc (.cells #[.int .i64 65536] 3)).alloc (.cells #[.int .i64 131072] 3)).alloc (.cells #[.slice (some ⟨w.heap.size + 1, 0, none⟩) 1 1, .slice (some ⟨w.heap.size + 1 + 1, 0, none⟩) 1 1] 51)) (w.heap.size + 1 + 1 + 1) 51 #[.slice (some ⟨w.heap.size + 1, 0, none⟩) 1 1, .slice (some ⟨w.heap.size + 1 + 1, 0, none⟩) 1 1] := Blk.made' _ _ _ (by simp)
  refine ⟨rfl, fun _ => ⟨w.heap.size + 1 + 1 + 1, 0, rfl, B.lt, fun j hj => ?_⟩⟩
  obtain rfl : j = 0 := by omega
  exact ⟨_, 1, 1, _, 1, 1, B.cell 0, B.cell 1, L1, L2, Nat.le_refl _, by decide, Nat.le_refl _, by decide⟩

end Go.Proofs.Ytblkpibbcapdeaa
