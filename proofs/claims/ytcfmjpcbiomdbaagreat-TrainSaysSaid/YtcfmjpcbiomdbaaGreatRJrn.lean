/- The document's own journal: a walk. -/
import Derived.Test.YtcfmjpcbiomdbaaGreatRNext
import Derived.Test.YtcfmjpcbiomdbaaGreatRHead
import Derived.Test.YtcfmjpcbiomdbaaGreatRChain
namespace Go.Proofs.YtcfmjpcbiomdbaaGreat
open Go.RowKit Pl

theorem bal {x u : World} (h : Below x.heap.size x u) (o : Obj) : Below x.heap.size x (u.alloc o) := h.alloc h.size o
theorem bs2 {x u : World} {m : Nat} {a0 a1 : Value} (h : Below x.heap.size x u) (hm : x.heap.size ≤ m) : Below x.heap.size x ((u.setCell ⟨m, 0, none⟩ a0).setCell ⟨m, 1, none⟩ a1) :=
  (h.setCell (p := ⟨m, 0, none⟩) hm _).setCell (p := ⟨m, 1, none⟩) hm _
theorem st_storedN {x u : World} {b m N : Nat} {s : List Int × List Int} {B1 B2 : Option Addr} {q1 q2 : Nat} {a0 a1 : Value} (h : Below x.heap.size x u) (o1 : u.ownsRow b 3 1 (.slice B1 N q1) N (s.1.map (.int .i64))) (o2 : u.ownsRow b 3 1 (.slice B2 N q2) N (s.2.map (.int .i64))) (hb : x.heap.size ≤ b)
    (hz : Blk u m 28 #[a0, a1]) (n1 : (Value.slice B1 N q1).ownBlock ≠ some m) (n2 : (Value.slice B2 N q2).ownBlock ≠ some m) (hm : x.heap.size ≤ m) :
    StBx x N s (.pointer (some ⟨m, 0, none⟩)) ((u.setCell ⟨m, 0, none⟩ (.slice B1 N q1)).setCell ⟨m, 1, none⟩ (.slice B2 N q2)) := by
  have hB := ((But.refl m u).put 0 (.slice B1 N q1)).put 1 (.slice B2 N q2)
  exact ⟨m, B1, q1, B2, q2, rfl, (hz.put 0 _).put 1 _, own_base (own_butN o1 hB n1) hb, own_base (own_butN o2 hB n2) hb, hm, but_to h hB hm h.size⟩
end Go.Proofs.YtcfmjpcbiomdbaaGreat
