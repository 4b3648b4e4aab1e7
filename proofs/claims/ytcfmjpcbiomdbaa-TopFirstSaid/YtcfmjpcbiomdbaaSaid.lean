/- A rate of a run of records is turned: what is read then. -/
import Derived.Test.YtcfmjpcbiomdbaaBent
namespace Go.Proofs.Ytcfmjpcbiomdbaa
open Go.RowKit Pl

theorem bent_rate {y : World} {B g N c K : Nat} {f : Nat → Rec} (h : RecHeld none B f N (.slice (some ⟨g, 0, none⟩) N c) y) (hK : K < N) (v : Int) :
    RecsR (y.setCell ⟨g, K * 5 + 2, none⟩ (.int .i64 v)) (some ⟨g, 0, none⟩) N (upto (bentF f K { f K with rate := v }) N) ∧ But g y (y.setCell ⟨g, K * 5 + 2, none⟩ (.int .i64 v)) := by
  have hBt := (But.refl g y).put (K * 5 + 2) (.int .i64 v)
  obtain ⟨vs, ho, hp⟩ := h
  have hg := ho.lt g rfl
  obtain ⟨cur, hcur, hsz, htk⟩ : ∃ cur : Array Value, Blk y g 30 cur ∧ N * 5 ≤ cur.size ∧ cur.toList.take (N * 5) = vs := by
    rcases ho.2 with ⟨hv, h0⟩ | ⟨g', cap, cur, hv, _, hgg, hn, _, hs, ht⟩
    · omega
    · have : g = g' := by injection hv with a _ _; injection a with a; injection a
      subst this
      exact ⟨cur, hgg, by rw [hs]; exact Nat.mul_le_mul_right _ hn, ht⟩
  have hB5 := hcur.put (K * 5 + 2) (.int .i64 v)
  refine ⟨⟨upto_length _ _, fun _ => ⟨g, 0, rfl, hB5.lt, fun j hj => ?_⟩⟩, hBt⟩
  rw [recAt_upto _ hj, Nat.zero_add]
  obtain ⟨u, hcs, L, kk, rfl, hI', l1, l2, hne⟩ := hp j hj
  have hbd : j * 5 + 5 ≤ N * 5 := by omega
  have cellE : ∀ i, i < 5 → K * 5 + 2 ≠ j * 5 + i → (y.setCell ⟨g, K * 5 + 2, none⟩ (.int .i64 v)).cell? ⟨g, j * 5 + i, none⟩ = [Value.int .i64 (f j).step, .slice L (f j).batch.length kk, .int .i64 (f j).rate, .int .u64 (f j).root, .int .u64 (f j).chain][i]? := fun i hi d => by
    rw [hB5.cell, ← hcs, List.getElem?_take, if_pos hi, List.getElem?_drop, ← htk, List.getElem?_take, if_pos (by omega), Array.getElem?_toList, Array.getElem?_setIfInBounds_ne d]
  have hI2 : Ints .i64 (y.setCell ⟨g, K * 5 + 2, none⟩ (.int .i64 v)) L (f j).batch.length (f j).batch := ⟨hI'.len, fun hn => by
    obtain ⟨b, off, e, hb, hc⟩ := hI'.cells hn
    have hng : b ≠ g := fun h => (hne b off none e).2.1 (by rw [h]; rfl)
    exact ⟨b, off, e, Nat.lt_of_lt_of_le hb hBt.size, fun i hi => (World.cell?_of_block (a := ⟨b, off + i, none⟩) (hBt.block b hb hng)).trans (hc i hi)⟩⟩
  by_cases hjK : j = K
  · subst hjK
    have e : bentF f j { f j with rate := v } j = { f j with rate := v } := if_pos rfl
    rw [e]
    refine ⟨L, kk, ⟨cellE 0 (by omega) (by omega), cellE 1 (by omega) (by omega), ?_, cellE 3 (by omega) (by omega), cellE 4 (by omega) (by omega)⟩, hI2, l1, l2⟩
    rw [hB5.cell]
    simp [Array.getElem?_setIfInBounds]
    omega
  · have e : bentF f K { f K with rate := v } j = f j := if_neg hjK
    rw [e]
    exact ⟨L, kk, ⟨cellE 0 (by omega) (by omega), cellE 1 (by omega) (by omega), cellE 2 (by omega) (by omega), cellE 3 (by omega) (by omega), cellE 4 (by omega) (by omega)⟩, hI2, l1, l2⟩
end Go.Proofs.Ytcfmjpcbiomdbaa
