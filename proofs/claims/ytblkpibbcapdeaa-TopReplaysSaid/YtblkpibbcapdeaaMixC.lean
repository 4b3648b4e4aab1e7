/- Runs of records in a block of one's own, some of them another's: what is read when they are turned one by one. -/
import Derived.Test.YtblkpibbcapdeaaBent
namespace Go.Proofs.Ytblkpibbcapdeaa
open Go.ChangeShapes Go.WideShapes Go.ChangeAt Go.RowKit Pl

/-- Block g holds the N records f; their batches do not stand in it. -/
def RunR (w : World) (g N : Nat) (f : Nat → Rec) : Prop :=
  ∃ cur, Blk w g 30 cur ∧ N * 5 ≤ cur.size ∧ ∀ j, j < N → ∃ L k,
    (cur[j * 5]? = some (.int .i64 (f j).step) ∧ cur[j * 5 + 1]? = some (.slice L (f j).batch.length k) ∧ cur[j * 5 + 2]? = some (.int .i64 (f j).rate) ∧ cur[j * 5 + 3]? = some (.int .u64 (f j).root) ∧ cur[j * 5 + 4]? = some (.int .u64 (f j).chain)) ∧
    Ints .i64 w L (f j).batch.length (f j).batch ∧ (∀ b off, L = some ⟨b, off, none⟩ → 0 < (f j).batch.length → b ≠ g) ∧ (f j).batch.length ≤ k ∧ k ≤ maxLen

theorem RunR.below {w w' : World} {g N : Nat} {f : Nat → Rec} (h : RunR w g N f) (hb : Below w.heap.size w w') : RunR w' g N f := by
  obtain ⟨cur, hB, hs, hp⟩ := h
  refine ⟨cur, hB.below hb hB.lt, hs, fun j hj => ?_⟩
  obtain ⟨L, k, hc, hI, hr⟩ := hp j hj
  exact ⟨L, k, hc, hI.below hb, hr⟩
theorem upto_recAtM {rs : List Rec} {n : Nat} (h : rs.length = n) : upto (recAt rs) n = rs := by
  subst h
  apply List.ext_getElem (by rw [upto_length])
  intro j h1 h2
  simp [upto, recAt, List.getElem?_eq_getElem h2]
theorem RunR.lt {w : World} {g N : Nat} {f : Nat → Rec} (h : RunR w g N f) : g < w.heap.size := by
  obtain ⟨cur, hB, _⟩ := h
  exact hB.lt
theorem RunR.at {w : World} {g N : Nat} {f : Nat → Rec} (h : RunR w g N f) {j : Nat} (hj : j < N) : ∃ L k, RecAt w g (j * 5) L k (f j) ∧ Ints .i64 w L (f j).batch.length (f j).batch ∧ (f j).batch.length ≤ k ∧ k ≤ maxLen := by
  obtain ⟨cur, hB, hs, hp⟩ := h
  obtain ⟨L, k, ⟨h0, h1, h2, h3, h4⟩, hI, _, l1, l2⟩ := hp j hj
  exact ⟨L, k, ⟨(hB.cell _).trans h0, (hB.cell _).trans h1, (hB.cell _).trans h2, (hB.cell _).trans h3, (hB.cell _).trans h4⟩, hI, l1, l2⟩
theorem RunR.recs {w : World} {g N : Nat} {f : Nat → Rec} (h : RunR w g N f) : RecsR w (some ⟨g, 0, none⟩) N (upto f N) :=
  ⟨upto_length _ _, fun _ => ⟨g, 0, rfl, h.lt, fun j hj => by
    rw [recAt_upto _ hj, Nat.zero_add]
    obtain ⟨L, k, h1, h2, h3, h4⟩ := h.at hj
    exact ⟨L, k, h1, h2, h3, h4⟩⟩⟩
/-- One record of them, by itself. -/
theorem RunR.one {w : World} {g N : Nat} {f : Nat → Rec} (h : RunR w g N f) {j : Nat} (hj : j < N) : RecsR w (some ⟨g, j * 5, none⟩) 1 [f j] := by
  obtain ⟨L, k, h1, h2, h3, h4⟩ := h.at hj
  refine ⟨rfl, fun _ => ⟨g, j * 5, rfl, h.lt, fun i hi => ?_⟩⟩
  obtain rfl : i = 0 := by omega
  exact ⟨L, k, by show RecAt w g (j * 5 + 0 * 5) L k (f j); simpa using h1, h2, h3, h4⟩
/-- The first of them. -/
theorem RunR.pre {w : World} {g N : Nat} {f : Nat → Rec} (h : RunR w g N f) {k : Nat} (hk : k ≤ N) : RunR w g k f := by
  obtain ⟨cur, hB, hs, hp⟩ := h
  exact ⟨cur, hB, by omega, fun j hj => hp j (by omega)⟩
theorem RunR.writes {w : World} {g N : Nat} {f : Nat → Rec} (h : RunR w g N f) (j i : Nat) : w.frozen? ⟨g, j * 5 + i, none⟩ = false := by
  obtain ⟨cur, hB, hs, hp⟩ := h
  exact hB.frozen _
theorem RunR.congr {w : World} {g N : Nat} {f f' : Nat → Rec} (h : RunR w g N f) (e : ∀ j, j < N → f j = f' j) : RunR w g N f' := by
  obtain ⟨cur, hB, hs, hp⟩ := h
  refine ⟨cur, hB, hs, fun j hj => ?_⟩
  rw [← e j hj]
  exact hp j hj
/-- One of them is turned. -/
theorem RunR.put {y : World} {g N K : Nat} {f : Nat → Rec} {x : Rec} {A : Option Addr} {k : Nat} (h : RunR y g N f) (hK : K < N) (hI : Ints .i64 y A x.batch.length x.batch) (hne : ∀ b off, A = some ⟨b, off, none⟩ → 0 < x.batch.length → b ≠ g) (h1 : x.batch.length ≤ k) (h2 : k ≤ maxLen) :
    RunR (((((y.setCell ⟨g, K * 5, none⟩ (.int .i64 x.step)).setCell ⟨g, K * 5 + 1, none⟩ (.slice A x.batch.length k)).setCell ⟨g, K * 5 + 2, none⟩ (.int .i64 x.rate)).setCell ⟨g, K * 5 + 3, none⟩ (.int .u64 x.root)).setCell ⟨g, K * 5 + 4, none⟩ (.int .u64 x.chain)) g N (bentF f K x) ∧
    But g y (((((y.setCell ⟨g, K * 5, none⟩ (.int .i64 x.step)).setCell ⟨g, K * 5 + 1, none⟩ (.slice A x.batch.length k)).setCell ⟨g, K * 5 + 2, none⟩ (.int .i64 x.rate)).setCell ⟨g, K * 5 + 3, none⟩ (.int .u64 x.root)).setCell ⟨g, K * 5 + 4, none⟩ (.int .u64 x.chain)) := by
  have hBt := ((((((But.refl g y).put (K * 5) (.int .i64 x.step)).put (K * 5 + 1) (.slice A x.batch.length k)).put (K * 5 + 2) (.int .i64 x.rate)).put (K * 5 + 3) (.int .u64 x.root)).put (K * 5 + 4) (.int .u64 x.chain))
  obtain ⟨cur, hB, hs, hp⟩ := h
  have hB5 := ((((hB.put (K * 5) (.int .i64 x.step)).put (K * 5 + 1) (.slice A x.batch.length k)).put (K * 5 + 2) (.int .i64 x.rate)).put (K * 5 + 3) (.int .u64 x.root)).put (K * 5 + 4) (.int .u64 x.chain)
  have keepI : ∀ {L : Option Addr} {n : Nat} {xs : List Int}, Ints .i64 y L n xs → (∀ b off, L = some ⟨b, off, none⟩ → 0 < n → b ≠ g) → Ints .i64 (((((y.setCell ⟨g, K * 5, none⟩ (.int .i64 x.step)).setCell ⟨g, K * 5 + 1, none⟩ (.slice A x.batch.length k)).setCell ⟨g, K * 5 + 2, none⟩ (.int .i64 x.rate)).setCell ⟨g, K * 5 + 3, none⟩ (.int .u64 x.root)).setCell ⟨g, K * 5 + 4, none⟩ (.int .u64 x.chain)) L n xs := fun hI' hn' => ⟨hI'.len, fun hn => by
    obtain ⟨b, off, e, hb, hc⟩ := hI'.cells hn
    exact ⟨b, off, e, Nat.lt_of_lt_of_le hb hBt.size, fun i hi => (World.cell?_of_block (a := ⟨b, off + i, none⟩) (hBt.block b hb (hn' b off e hn))).trans (hc i hi)⟩⟩
  refine ⟨⟨_, hB5, by simpa using hs, fun j hj => ?_⟩, hBt⟩
  by_cases hjK : j = K
  · subst hjK
    have e : bentF f j x j = x := if_pos rfl
    rw [e]
    refine ⟨A, k, ⟨?_, ?_, ?_, ?_, ?_⟩, keepI hI hne, hne, h1, h2⟩
    · simp [Array.getElem?_setIfInBounds]; omega
    · simp [Array.getElem?_setIfInBounds]; omega
    · simp [Array.getElem?_setIfInBounds]; omega
    · simp [Array.getElem?_setIfInBounds]; omega
    · simp [Array.getElem?_setIfInBounds]; omega
  · have e : bentF f K x j = f j := if_neg hjK
    rw [e]
    obtain ⟨L, kk, hcs, hI', hn', l1, l2⟩ := hp j hj
    have cellE : ∀ i, i < 5 → (((((cur.setIfInBounds (K * 5) (.int .i64 x.step)).setIfInBounds (K * 5 + 1) (.slice A x.batch.length k)).setIfInBounds (K * 5 + 2) (.int .i64 x.rate)).setIfInBounds (K * 5 + 3) (.int .u64 x.root)).setIfInBounds (K * 5 + 4) (.int .u64 x.chain))[j * 5 + i]? = cur[j * 5 + i]? := fun i hi => by
      have d0 : K * 5 ≠ j * 5 + i := by omega
      have d1 : K * 5 + 1 ≠ j * 5 + i := by omega
      have d2 : K * 5 + 2 ≠ j * 5 + i := by omega
      have d3 : K * 5 + 3 ≠ j * 5 + i := by omega
      have d4 : K * 5 + 4 ≠ j * 5 + i := by omega
      rw [Array.getElem?_setIfInBounds_ne d4, Array.getElem?_setIfInBounds_ne d3, Array.getElem?_setIfInBounds_ne d2, Array.getElem?_setIfInBounds_ne d1, Array.getElem?_setIfInBounds_ne d0]
    obtain ⟨q0, q1, q2, q3, q4⟩ := hcs
    exact ⟨L, kk, ⟨(cellE 0 (by omega)).trans q0, (cellE 1 (by omega)).trans q1, (cellE 2 (by omega)).trans q2, (cellE 3 (by omega)).trans q3, (cellE 4 (by omega)).trans q4⟩, keepI hI' hn', hn', l1, l2⟩

/-- The first q of these laid over those, but where a step is -1. -/
def overF (f l : Nat → Rec) : Nat → Nat → Rec
  | 0 => f
  | q + 1 => if (l q).step = -1 then overF f l q else bentF (overF f l q) q (l q)
theorem overF_skip {f l : Nat → Rec} {q : Nat} (h : (l q).step = -1) : overF f l (q + 1) = overF f l q := by show (if _ then _ else _) = _; rw [if_pos h]
theorem overF_put {f l : Nat → Rec} {q : Nat} (h : (l q).step ≠ -1) : overF f l (q + 1) = bentF (overF f l q) q (l q) := by show (if _ then _ else _) = _; rw [if_neg h]
end Go.Proofs.Ytblkpibbcapdeaa

/- slices.Clone over records: a walk. -/
namespace Go.Proofs.Ytblkpibbcapdeaa
open Go.ChangeShapes Go.WideShapes Go.ChangeAt Go.RowKit Pl

/-- The cells of n records at b, off. -/
def cellsL (w : World) (b off m : Nat) : List Value := (List.range m).map fun j => (w.cell? ⟨b, off + j, none⟩).getD undef
theorem cellsL_length (w : World) (b off m : Nat) : (cellsL w b off m).length = m := by simp [cellsL]
theorem cellsL_at {w : World} {b off m j : Nat} (h : j < m) : (cellsL w b off m)[j]? = some ((w.cell? ⟨b, off + j, none⟩).getD undef) := by
  unfold cellsL
  rw [List.getElem?_map, List.getElem?_range h]
  rfl
theorem recs_cells {w : World} {b off n : Nat} {rs : List Rec} (h : RecsR w (some ⟨b, off, none⟩) n rs) {j i : Nat} (hj : j < n) (hi : i < 5) : ∃ L k, RecAt w b (off + j * 5) L k (recAt rs j) ∧ Ints .i64 w L (recAt rs j).batch.length (recAt rs j).batch ∧ (recAt rs j).batch.length ≤ k ∧ k ≤ maxLen ∧
    w.cell? ⟨b, off + (j * 5 + i), none⟩ = [Value.int .i64 (recAt rs j).step, .slice L (recAt rs j).batch.length k, .int .i64 (recAt rs j).rate, .int .u64 (recAt rs j).root, .int .u64 (recAt rs j).chain][i]? := by
  obtain ⟨b', off', L, k, e, hb, ha, hI, h1, h2⟩ := h.at hj
  cases e
  refine ⟨L, k, ha, hI, h1, h2, ?_⟩
  obtain ⟨a0, a1, a2, a3, a4⟩ := ha
  match i, hi with
  | 0, _ => exact a0
  | 1, _ => rw [← Nat.add_assoc]; exact a1
  | 2, _ => rw [← Nat.add_assoc]; exact a2
  | 3, _ => rw [← Nat.add_assoc]; exact a3
  | 4, _ => rw [← Nat.add_assoc]; exact a4
theorem recs_some {w : World} {b off n : Nat} {rs : List Rec} (h : RecsR w (some ⟨b, off, none⟩) n rs) {j : Nat} (hj : j < n * 5) : w.cell? ⟨b, off + j, none⟩ = some ((w.cell? ⟨b, off + j, none⟩).getD undef) ∧ ((w.cell? ⟨b, off + j, none⟩).getD undef).oneCell' = true := by
  obtain ⟨L, k, _, _, _, _, hc⟩ := recs_cells h (j := j / 5) (i := j % 5) (by omega) (by omega)
  rw [show j / 5 * 5 + j % 5 = j by omega] at hc
  rw [hc]
  have : j % 5 < 5 := by omega
  obtain ⟨i, hi⟩ : ∃ i, i = j % 5 := ⟨_, rfl⟩
  rw [← hi] at this ⊢
  match i, this with
  | 0, _ => exact ⟨rfl, rfl⟩
  | 1, _ => exact ⟨rfl, rfl⟩
  | 2, _ => exact ⟨rfl, rfl⟩
  | 3, _ => exact ⟨rfl, rfl⟩
  | 4, _ => exact ⟨rfl, rfl⟩
/-- What a clone of records is. -/
def CloneR (w : World) (n : Nat) (rs : List Rec) (e : Ending) (w' : World) : Prop :=
  ∃ B bc, e = .returned (.slice B n bc) ∧ n ≤ bc ∧ bc ≤ maxLen ∧ RecsR w' B n rs ∧ (0 < n → ∃ g, B = some ⟨g, 0, none⟩ ∧ w.heap.size ≤ g ∧ RunR w' g n (recAt rs)) ∧ Below w.heap.size w w'
theorem clone_fin {w w1 : World} {b off n : Nat} {rs : List Rec} {v : Value} (h : RecsR w (some ⟨b, off, none⟩) n rs) (hown : w1.ownsRow w.heap.size 30 5 v n (cellsL w b off (n * 5))) (hb : Below w.heap.size w w1) : CloneR w n rs (.returned v) w1 := by
  rcases hown.2 with ⟨rfl, rfl⟩ | ⟨g, cap, cur, rfl, hbg, hg, hnc, hcm, hcs, htk⟩
  · exact ⟨none, 0, rfl, Nat.le_refl _, by unfold maxLen; omega, ⟨h.len, fun h => absurd h (by omega)⟩, fun h => absurd h (by omega), hb⟩
  · have hrun : RunR w1 g n (recAt rs) := by
      refine ⟨cur, hg, by rw [hcs]; exact Nat.mul_le_mul_right _ hnc, fun j hj => ?_⟩
      obtain ⟨L, k, ha, hI, l1, l2, _⟩ := recs_cells h (j := j) (i := 0) hj (by omega)
      have ce : ∀ i, i < 5 → cur[j * 5 + i]? = [Value.int .i64 (recAt rs j).step, .slice L (recAt rs j).batch.length k, .int .i64 (recAt rs j).rate, .int .u64 (recAt rs j).root, .int .u64 (recAt rs j).chain][i]? := fun i hi => by
        have hlt : j * 5 + i < n * 5 := by omega
        have e1 : cur[j * 5 + i]? = (cellsL w b off (n * 5))[j * 5 + i]? := by rw [← htk, List.getElem?_take, if_pos hlt, Array.getElem?_toList]
        obtain ⟨L', k', ha', _, _, _, hc⟩ := recs_cells h (j := j) (i := i) hj hi
        have e2 : L = L' ∧ k = k' := by
          have := ha.2.1.symm.trans ha'.2.1
          simp only [Option.some.injEq, Value.slice.injEq] at this
          exact ⟨this.1, this.2.2⟩
        obtain ⟨rfl, rfl⟩ := e2
        rw [e1, cellsL_at hlt, ← hc]
        exact (recs_some h hlt).1.symm
      refine ⟨L, k, ⟨ce 0 (by omega), ce 1 (by omega), ce 2 (by omega), ce 3 (by omega), ce 4 (by omega)⟩, hI.below hb, fun b' off' e hn => ?_, l1, l2⟩
      obtain ⟨b2, off2, e2, hl2, _⟩ := hI.cells hn
      rw [e] at e2
      cases e2
      omega
    exact ⟨_, cap, rfl, hnc, hcm, by have := hrun.recs; rw [upto_recAtM h.len] at this; exact this, fun _ => ⟨g, rfl, hbg, hrun⟩, hb⟩

end Go.Proofs.Ytblkpibbcapdeaa
