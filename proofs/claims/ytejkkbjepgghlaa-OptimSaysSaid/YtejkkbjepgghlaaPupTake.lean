/- Shape's closure take: a clone of the first numbers; the rest stays in the box. -/
import Derived.Test.YtejkkbjepgghlaaRefFlat
import Derived.Test.YtejkkbjepgghlaaBlk
namespace Go.Proofs.Ytejkkbjepgghlaa
open Go.RowKit Pl

/-- What take leaves: k numbers of its own, and the box holding nv. -/
def Took (w : World) (g k : Nat) (xs : List Int) (nv : Value) (e : Ending) (w' : World) : Prop :=
  ∃ A' c' w1, e = .returned (.slice A' k c') ∧ w1.ownsRow w.heap.size 3 1 (.slice A' k c') k (xs.map (.int .i64)) ∧ Below w.heap.size w w1 ∧ w' = w1.setCell ⟨g, 0, none⟩ nv

set_option maxRecDepth 100000 in
set_option maxHeartbeats 2000000 in
theorem pup_take (w : World) (g : Nat) (A : Option Addr) (n c k : Nat) (xs : List Int) (hg : Blk w g 25 #[.slice A n c]) (hx : Ints .i64 w A n xs) (hk : k ≤ n) (hc : n ≤ c) (hn : n * 8 ≤ 140737488351232) :
    Calls Try.prog 172 #[.int .i64 k, .pointer (some ⟨g, 0, none⟩)] w (Took w g k (xs.take k) (sliced A k n c 1)) := by
  have g0 : w.cell? ⟨g, 0, none⟩ = some (.slice A n c) := hg.cell 0
  have z0 := hg.frozen 0
  have hI : Ints .i64 w A k (xs.take k) := by
    have h := hx.cut (i := 0) (m := k) (by omega) (A' := A) (fun _ b off e => by rw [e]; rfl)
    simpa using h
  have hl : (xs.take k).length = k := hI.len
  by_cases hq : c = k
  · subst hq
    obtain rfl : c = n := by omega
    have hS : sliced A c c c 1 = (.slice A 0 0) := by simp [sliced]
    rw [hS]
    go_enter Try.func172, Try.ntmps172
    go_wp2_with fail
    refine (sl_Clone A c c (xs.take c) w hI (by omega)).mono ?_
    rintro e w1 ⟨A', c', rfl, hown, hb⟩
    rw [hl] at hown ⊢
    have T := Lib.hid (show Took w g c (xs.take c) (.slice A 0 0) (.returned (.slice A' c c')) (w1.setCell ⟨g, 0, none⟩ (.slice A 0 0)) from ⟨A', c', w1, rfl, hown, hb, rfl⟩)
    have hg1 := hg.below hb hg.lt
    have g1 : w1.cell? ⟨g, 0, none⟩ = some (.slice A c c) := hg1.cell 0
    have z1 := hg1.frozen 0
    clear g0 z0 hg hg1 hown hb hx hI
    go_wp2
    go_ret
    exact T.out
  · have hS : sliced A k n c 1 = (.slice (A.map (·.add k)) (n - k) (c - k)) := by simp [sliced, hq]
    rw [hS]
    go_enter Try.func172, Try.ntmps172
    go_wp2_with fail
    refine (sl_Clone A k c (xs.take k) w hI (by omega)).mono ?_
    rintro e w1 ⟨A', c', rfl, hown, hb⟩
    rw [hl] at hown ⊢
    have T := Lib.hid (show Took w g k (xs.take k) (.slice (A.map (·.add k)) (n - k) (c - k)) (.returned (.slice A' k c')) (w1.setCell ⟨g, 0, none⟩ (.slice (A.map (·.add k)) (n - k) (c - k))) from ⟨A', c', w1, rfl, hown, hb, rfl⟩)
    have hg1 := hg.below hb hg.lt
    have g1 : w1.cell? ⟨g, 0, none⟩ = some (.slice A n c) := hg1.cell 0
    have z1 := hg1.frozen 0
    clear g0 z0 hg hg1 hown hb hx hI
    go_wp2
    go_ret
    exact T.out
end Go.Proofs.Ytejkkbjepgghlaa
