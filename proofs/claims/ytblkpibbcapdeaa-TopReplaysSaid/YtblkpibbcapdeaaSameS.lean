/- The document's own comparing of states, right or wrong: a walk. -/
import Derived.Test.YtblkpibbcapdeaaRecW
namespace Go.Proofs.Ytblkpibbcapdeaa
open Go.RowKit Pl

def sameS (s t : List Int × List Int) : Bool := decide (s.1 = t.1) && decide (s.2 = t.2)
set_option maxRecDepth 100000 in
set_option maxHeartbeats 2000000 in
theorem ref_SameState (s t : List Int × List Int) (A1 A2 B1 B2 : Option Addr) (n1 n2 m1 m2 c1 c2 d1 d2 : Nat) (w : World) (i1 : Ints .i64 w A1 n1 s.1) (i2 : Ints .i64 w A2 n2 s.2) (j1 : Ints .i64 w B1 m1 t.1) (j2 : Ints .i64 w B2 m2 t.2) (h1 : n1 ≤ 9223372036854775806 ∨ m1 ≤ 9223372036854775806) (h2 : n2 ≤ 9223372036854775806 ∨ m2 ≤ 9223372036854775806) :
    Calls Try.prog 13 #[.agg #[.slice A1 n1 c1, .slice A2 n2 c2], .agg #[.slice B1 m1 d1, .slice B2 m2 d2]] w fun e w' => e = .returned (.bool (sameS s t)) ∧ Below w.heap.size w w' := by
  have b2 : Below w.heap.size w ((w.alloc (.cells #[.slice A1 n1 c1, .slice A2 n2 c2] 28)).alloc (.cells #[.slice B1 m1 d1, .slice B2 m2 d2] 28)) := (by repeat (first | exact Below.refl _ _ | assumption | refine bel_drewN ?_ _ | refine Below.drew ?_ | (refine Below.alloc ?_ (by simp <;> omega) _) | (refine Below.setCell ?_ (by simp <;> omega) _)))
  have HA := (Blk.made w 28 #[.slice A1 n1 c1, .slice A2 n2 c2]).alloc (.cells #[.slice B1 m1 d1, .slice B2 m2 d2] 28)
  have HB := Blk.made' (w.alloc (.cells #[.slice A1 n1 c1, .slice A2 n2 c2] 28)) 28 #[.slice B1 m1 d1, .slice B2 m2 d2] (g := w.heap.size + 1) (by simp)
  have HE1 := Lib.hid (fun W (h : Below w.heap.size w W) r (hr : decide (s.1 = t.1) = r) => eq_any2 (c := c1) (d := d1) hr (i1.below h) (j1.below h) h1)
  have HE2 := Lib.hid (fun W (h : Below w.heap.size w W) r (hr : decide (s.2 = t.2) = r) => eq_any2 (c := c2) (d := d2) hr (i2.below h) (j2.below h) h2)
  clear i1 i2 j1 j2 h1 h2
  cases e1 : decide (s.1 = t.1)
  · have F := Lib.hid (show sameS s t = false by unfold sameS; rw [e1]; rfl)
    have H1 := Lib.hid (HE1.out _ b2 false e1)
    clear e1
    go_enter Try.func13, Try.ntmps13
    go_wp2_with fail
    refine H1.out.mono ?_
    rintro e w1 ⟨rfl, q, rfl⟩
    go_wp2
    go_ret
    rw [F.out]
    exact ⟨rfl, bel_drewN b2 _⟩
  · cases e2 : decide (s.2 = t.2)
    · have F := Lib.hid (show sameS s t = false by unfold sameS; rw [e1, e2]; rfl)
      have H1 := Lib.hid (HE1.out _ b2 true e1)
      have H2 := Lib.hid (fun q => HE2.out _ (bel_drewN b2 q) false e2)
      clear e1 e2
      go_enter Try.func13, Try.ntmps13
      go_wp2_with fail
      refine H1.out.mono ?_
      rintro e w1 ⟨rfl, q, rfl⟩
      obtain ⟨⟨a0, a1⟩, _⟩ := (HA.drewN q).two
      obtain ⟨⟨b0, b1⟩, _⟩ := (HB.drewN q).two
      go_wp2_with fail
      refine (H2.out q).mono ?_
      rintro e w2 ⟨rfl, q', rfl⟩
      go_wp2
      go_ret
      rw [F.out]
      exact ⟨rfl, bel_drewN b2 _⟩
    · have F := Lib.hid (show sameS s t = true by unfold sameS; rw [e1, e2]; rfl)
      have H1 := Lib.hid (HE1.out _ b2 true e1)
      have H2 := Lib.hid (fun q => HE2.out _ (bel_drewN b2 q) true e2)
      clear e1 e2
      go_enter Try.func13, Try.ntmps13
      go_wp2_with fail
      refine H1.out.mono ?_
      rintro e w1 ⟨rfl, q, rfl⟩
      obtain ⟨⟨a0, a1⟩, _⟩ := (HA.drewN q).two
      obtain ⟨⟨b0, b1⟩, _⟩ := (HB.drewN q).two
      go_wp2_with fail
      refine (H2.out q).mono ?_
      rintro e w2 ⟨rfl, q', rfl⟩
      go_wp2
      go_ret
      rw [F.out]
      exact ⟨rfl, bel_drewN b2 _⟩
end Go.Proofs.Ytblkpibbcapdeaa
