/- What the document's own text makes of a row of numbers: a pupil. A walk. -/
import Derived.Test.YtgfidgepplfcbaaPupTake
import Derived.BigRegion
namespace Go.Proofs.Ytgfidgepplfcbaa
open Go.RowKit Pl

set_option maxRecDepth 100000 in
set_option maxHeartbeats 4000000 in
theorem ref_Shape (i h o : Nat) (A : Option Addr) (n c : Nat) (w : World) (hc : n ≤ c) (hi : 1 ≤ i ∧ i ≤ 4) (hh : 1 ≤ h ∧ h ≤ 4) (ho : 1 ≤ o ∧ o ≤ 4) (p q : Nat) (hp : h * i = p) (hq : o * h = q) (hn : n = p + h + q + o) :
    Calls Try.prog 23 #[.int .i64 i, .int .i64 h, .int .i64 o, .slice A n c] w fun e w' =>
      e = .returned (.agg #[.int .i64 h, .int .i64 i, (.slice A p c), .int .i64 o, .int .i64 h, (.slice (A.map (·.add (p + h))) q (c - (p + h))), (.slice (A.map (·.add p)) h (c - p)), (.slice (A.map (·.add (p + h + q))) o (c - (p + h + q)))]) ∧ Below w.heap.size w w' := by
  have e1 : (h : Int) * (i : Int) = (p : Int) := by rw [← hp]; simp
  have e2 : (o : Int) * (h : Int) = (q : Int) := by rw [← hq]; simp
  have hp16 : p ≤ 16 := by rw [← hp]; exact Nat.mul_le_mul hh.2 hi.2
  have hq16 : q ≤ 16 := by rw [← hq]; exact Nat.mul_le_mul ho.2 hh.2
  clear hp hq
  have n1 : ¬ c = p := by omega
  have n2 : ¬ c = p + h := by omega
  have n3 : ¬ c = p + h + q := by omega
  go_enter Try.func23, Try.ntmps23
  go_wp2_with fail
  go_region
  go_wp2
  all_goals refine bodyPost_ret (v := .agg #[.int .i64 h, .int .i64 i, .slice A p c, .int .i64 o, .int .i64 h, .slice (A.map (·.add (p + h))) q (c - (p + h)), .slice (A.map (·.add p)) h (c - p), .slice (A.map (·.add (p + h + q))) o (c - (p + h + q))]) (by simp [results, Try.results23, go_sem]) rfl ?_
  all_goals exact ⟨rfl, (by repeat (first | exact Below.refl _ _ | assumption | refine bel_drewN ?_ _ | refine Below.drew ?_ | (refine Below.alloc ?_ (by simp <;> omega) _) | (refine Below.setCell ?_ (by simp <;> omega) _)))⟩
end Go.Proofs.Ytgfidgepplfcbaa
