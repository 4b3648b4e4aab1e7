/- slices.Sort at []int of a list of the call's own: its contract. -/
import Derived.Test.YthckpmgehhkacaaSortL
import Derived.Test.YthckpmgehhkacaaSortX
import Derived.Sort.OwnSortedInts
namespace Go.Proofs.Ythckpmgehhkacaa
open Go.RowKit Go.Sort Pl

theorem sl_Sort : SortC := by
  intro base g c n l w hown hp hn hb
  have hl : l.length = n := by rw [hp.length_eq, List.length_range]
  rcases hown.2 with ⟨h0, _⟩ | ⟨g', cap, cur, hv, hg, hblk, hc1, hc2, hc3, htake⟩
  · cases h0
  cases hv
  have htk : cur.toList.take (l.map fun (x : Nat) => (x : Int)).length = (l.map fun (x : Nat) => (x : Int)).map (Value.int .i64) := by
    rw [List.length_map, hl]
    rw [Nat.mul_one] at htake
    rw [htake]
    unfold vN
    rw [List.map_map]
    rfl
  have H := Try.slices_Sort_int g 0 c (l.map fun (x : Nat) => (x : Int)) w (holds_of_blockI hblk htk) (Array.getElem?_eq_some_iff.1 hblk).1 (by rw [List.length_map, hl]; omega)
  rw [List.length_map, hl, sort_range hp] at H
  refine H.mono ?_
  rintro e w' ⟨rfl, k, os, rfl⟩
  have h := ownsRow_sortedI (w := w) (base := base) (g := g) (cap := c) (n := k) (os := os) (ss := l.map fun (x : Nat) => (x : Int)) (ts := (List.range n).map fun (x : Nat) => (x : Int)) (by rw [List.length_map, List.length_map, List.length_range, hl]) hg hblk (by rw [List.length_map, hl]; exact hc1) hc2 hc3
  rw [List.length_map, hl, List.map_map] at h
  exact ⟨rfl, h, Below.grown (Below.refl _ _) (grownBy_sortedI _) hb (fun x hx => by cases hx; exact hg)⟩
end Go.Proofs.Ythckpmgehhkacaa
