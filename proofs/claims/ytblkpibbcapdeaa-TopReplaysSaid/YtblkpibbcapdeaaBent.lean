/- One record of a run of records is turned: what is read then. -/
import Derived.Test.YtblkpibbcapdeaaJrnG
import Derived.Test.YtblkpibbcapdeaaArgR
namespace Go.Proofs.Ytblkpibbcapdeaa
open Go.ChangeShapes Go.WideShapes Go.ChangeAt Go.RowKit Pl

section
variable {H : Type} {enc : TypeId × Value → H} {w : World} {base : Nat} {sp : Nat → Bool} {held : Bool}
set_option maxRecDepth 100000 in
theorem arg_rec {r : Reach} {b : Nat} {v : Value} {d : DataW H} {p : List MemPlace} (hsp : ∀ b, sp b = true) (hv : Value.okWide Try.prog w r b 30 v) (h : DataW.Trod enc Try.prog w base sp held 30 v d p) :
    ∃ (x : Rec) (A : Option Addr) (k : Nat), v = .agg #[.int .i64 x.step, .slice A x.batch.length k, .int .i64 x.rate, .int .u64 x.root, .int .u64 x.chain] ∧ Ints .i64 w A x.batch.length x.batch ∧ x.batch.length ≤ k ∧ k ≤ maxLen := by
  obtain ⟨cs, rfl, hsz⟩ := okWide_struct Try.underlying30 hv
  obtain ⟨f, h⟩ := h
  obtain ⟨cs⟩ := cs
  obtain ⟨x, A, n, k, e, hI, h1, h2, _⟩ := open_rec2 hsp h
  have hl := hI.len
  subst hl
  have e' : cs = [.int .i64 x.step, .slice A x.batch.length k, .int .i64 x.rate, .int .u64 x.root, .int .u64 x.chain] := e
  subst e'
  exact ⟨x, A, k, rfl, hI, h1, h2⟩
end

def bentF (f : Nat → Rec) (K : Nat) (x : Rec) (j : Nat) : Rec := if j = K then x else f j
/-- One record of the call's own run is turned. -/
theorem bent_recs {y : World} {B g N c K : Nat} {f : Nat → Rec} {x : Rec} {A : Option Addr} {k : Nat} (h : RecHeld none B f N (.slice (some ⟨g, 0, none⟩) N c) y) (hK : K < N) (hI : Ints .i64 y A x.batch.length x.batch) (hlt : ∀ b off, A = some ⟨b, off, none⟩ → 0 < x.batch.length → b < B) (h1 : x.batch.length ≤ k) (h2 : k ≤ maxLen) :
    RecsR (((((y.setCell ⟨g, K * 5, none⟩ (.int .i64 x.step)).setCell ⟨g, K * 5 + 1, none⟩ (.slice A x.batch.length k)).setCell ⟨g, K * 5 + 2, none⟩ (.int .i64 x.rate)).setCell ⟨g, K * 5 + 3, none⟩ (.int .u64 x.root)).setCell ⟨g, K * 5 + 4, none⟩ (.int .u64 x.chain)) (some ⟨g, 0, none⟩) N (upto (bentF f K x) N) ∧
    But g y (((((y.setCell ⟨g, K * 5, none⟩ (.int .i64 x.step)).setCell ⟨g, K * 5 + 1, none⟩ (.slice A x.batch.length k)).setCell ⟨g, K * 5 + 2, none⟩ (.int .i64 x.rate)).setCell ⟨g, K * 5 + 3, none⟩ (.int .u64 x.root)).setCell ⟨g, K * 5 + 4, none⟩ (.int .u64 x.chain)) := by
  have hBt := ((((((But.refl g y).put (K * 5) (.int .i64 x.step)).put (K * 5 + 1) (.slice A x.batch.length k)).put (K * 5 + 2) (.int .i64 x.rate)).put (K * 5 + 3) (.int .u64 x.root)).put (K * 5 + 4) (.int .u64 x.chain))
  obtain ⟨vs, ho, hp⟩ := h
  have hg := ho.lt g rfl
  obtain ⟨cur, hcur, hsz, htk⟩ : ∃ cur : Array Value, Blk y g 30 cur ∧ N * 5 ≤ cur.size ∧ cur.toList.take (N * 5) = vs := by
    rcases ho.2 with ⟨hv, h0⟩ | ⟨g', cap, cur, hv, _, hgg, hn, _, hs, ht⟩
    · omega
    · have : g = g' := by injection hv with a _ _; injection a with a; injection a
      subst this
      exact ⟨cur, hgg, by rw [hs]; exact Nat.mul_le_mul_right _ hn, ht⟩
  have hB5 := ((((hcur.put (K * 5) (.int .i64 x.step)).put (K * 5 + 1) (.slice A x.batch.length k)).put (K * 5 + 2) (.int .i64 x.rate)).put (K * 5 + 3) (.int .u64 x.root)).put (K * 5 + 4) (.int .u64 x.chain)
  refine ⟨⟨upto_length _ _, fun _ => ⟨g, 0, rfl, hB5.lt, fun j hj => ?_⟩⟩, hBt⟩
  rw [recAt_upto _ hj, Nat.zero_add]
  by_cases hjK : j = K
  · subst hjK
    have e : bentF f j x j = x := if_pos rfl
    rw [e]
    refine ⟨A, k, ⟨?_, ?_, ?_, ?_, ?_⟩, ⟨hI.len, fun hn => ?_⟩, h1, h2⟩
    · rw [hB5.cell]; simp [Array.getElem?_setIfInBounds]; omega
    · rw [hB5.cell]; simp [Array.getElem?_setIfInBounds]; omega
    · rw [hB5.cell]; simp [Array.getElem?_setIfInBounds]; omega
    · rw [hB5.cell]; simp [Array.getElem?_setIfInBounds]; omega
    · rw [hB5.cell]; simp [Array.getElem?_setIfInBounds]; omega
    · obtain ⟨b, off, e, hb, hc⟩ := hI.cells hn
      have hne : b ≠ g := by have := hlt b off e hn; omega
      exact ⟨b, off, e, Nat.lt_of_lt_of_le hb hBt.size, fun i hi => (World.cell?_of_block (a := ⟨b, off + i, none⟩) (hBt.block b hb hne)).trans (hc i hi)⟩
  · have e : bentF f K x j = f j := if_neg hjK
    rw [e]
    obtain ⟨v, hcs, L, kk, rfl, hI', l1, l2, hne⟩ := hp j hj
    have hbd : j * 5 + 5 ≤ N * 5 := by omega
    have cellE : ∀ i, i < 5 → (((((y.setCell ⟨g, K * 5, none⟩ (.int .i64 x.step)).setCell ⟨g, K * 5 + 1, none⟩ (.slice A x.batch.length k)).setCell ⟨g, K * 5 + 2, none⟩ (.int .i64 x.rate)).setCell ⟨g, K * 5 + 3, none⟩ (.int .u64 x.root)).setCell ⟨g, K * 5 + 4, none⟩ (.int .u64 x.chain)).cell? ⟨g, j * 5 + i, none⟩ = [Value.int .i64 (f j).step, .slice L (f j).batch.length kk, .int .i64 (f j).rate, .int .u64 (f j).root, .int .u64 (f j).chain][i]? := fun i hi => by
      rw [hB5.cell, ← hcs, List.getElem?_take, if_pos hi, List.getElem?_drop, ← htk, List.getElem?_take, if_pos (by omega), Array.getElem?_toList]
      have d0 : K * 5 ≠ j * 5 + i := by omega
      have d1 : K * 5 + 1 ≠ j * 5 + i := by omega
      have d2 : K * 5 + 2 ≠ j * 5 + i := by omega
      have d3 : K * 5 + 3 ≠ j * 5 + i := by omega
      have d4 : K * 5 + 4 ≠ j * 5 + i := by omega
      rw [Array.getElem?_setIfInBounds_ne d4, Array.getElem?_setIfInBounds_ne d3, Array.getElem?_setIfInBounds_ne d2, Array.getElem?_setIfInBounds_ne d1, Array.getElem?_setIfInBounds_ne d0]
    refine ⟨L, kk, ⟨cellE 0 (by omega), cellE 1 (by omega), cellE 2 (by omega), cellE 3 (by omega), cellE 4 (by omega)⟩, ⟨hI'.len, fun hn => ?_⟩, l1, l2⟩
    obtain ⟨b, off, e, hb, hc⟩ := hI'.cells hn
    have hng : b ≠ g := fun h => (hne b off none e).2.1 (by rw [h]; rfl)
    exact ⟨b, off, e, Nat.lt_of_lt_of_le hb hBt.size, fun i hi => (World.cell?_of_block (a := ⟨b, off + i, none⟩) (hBt.block b hb hng)).trans (hc i hi)⟩
end Go.Proofs.Ytblkpibbcapdeaa
