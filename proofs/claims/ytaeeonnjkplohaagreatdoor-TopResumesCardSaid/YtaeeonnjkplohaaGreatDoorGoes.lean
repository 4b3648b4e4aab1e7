/- A small course is kept: coachkeep.small, coachkeep.taught: walks. -/
import Derived.Test.YtaeeonnjkplohaaGreatDoorJrnA
import Derived.Test.YtaeeonnjkplohaaGreatDoorRecS
import Derived.Test.YtaeeonnjkplohaaGreatDoorArgs
import Derived.Test.YtaeeonnjkplohaaGreatDoorGrown
import Derived.Test.YtaeeonnjkplohaaGreatDoorArgR
namespace Go.Proofs.YtaeeonnjkplohaaGreatDoor
open Go.RowKit Pl

def smallC : Cfg := ⟨1, 1, 1, 1, 1, 3, 6554, 0, 0, 0, 0⟩
def smallD : Data := [([65536], [131072])]
theorem small_fine : crs smallC smallD = 0 := by decide +kernel
theorem small_N : smallC.N = 4 := by decide +kernel
theorem small_bat : batI smallC smallD 0 = [0] := by decide +kernel
set_option maxRecDepth 100000 in
theorem small_chain : chainC smallC smallD 1 ≠ chainC smallC smallD 2 := by decide +kernel
theorem small_duos (w : World) : Duos ((((w.alloc (.cells #[.int .i64 1, .int .i64 1, .int .i64 1, .int .u64 1, .int .i64 1, .int .i64 3, .int .i64 6554, .int .i64 0, .int .i64 0, .int .i64 0, .int .i64 0] 24)).alloc (.cells #[.int .i64 65536] 3)).alloc (.cells #[.int .i64 131072] 3)).alloc (.cells #[.slice (some ⟨w.heap.size + 1, 0, none⟩) 1 1, .slice (some ⟨w.heap.size + 1 + 1, 0, none⟩) 1 1] 53)) (some ⟨w.heap.size + 1 + 1 + 1, 0, none⟩) 1 smallD := by
  have L1 := ((Ints.made (w.alloc (.cells #[.int .i64 1, .int .i64 1, .int .i64 1, .int .u64 1, .int .i64 1, .int .i64 3, .int .i64 6554, .int .i64 0, .int .i64 0, .int .i64 0, .int .i64 0] 24)) [65536] 1 rfl #[.int .i64 65536] rfl (g := w.heap.size + 1) (by simp) 3).alloc (.cells #[.int .i64 131072] 3)).alloc (.cells #[.slice (some ⟨w.heap.size + 1, 0, none⟩) 1 1, .slice (some ⟨w.heap.size + 1 + 1, 0, none⟩) 1 1] 53)
  have L2 := (Ints.made ((w.alloc (.cells #[.int .i64 1, .int .i64 1, .int .i64 1, .int .u64 1, .int .i64 1, .int .i64 3, .int .i64 6554, .int .i64 0, .int .i64 0, .int .i64 0, .int .i64 0] 24)).alloc (.cells #[.int .i64 65536] 3)) [131072] 1 rfl #[.int .i64 131072] rfl (g := w.heap.size + 1 + 1) (by simp) 3).alloc (.cells #[.slice (some ⟨w.heap.size + 1, 0, none⟩) 1 1, .slice (some ⟨w.heap.size + 1 + 1, 0, none⟩) 1 1] 53)
  have B : Blk ((((w.alloc (.cells #[.int .i64 1, .int .i64 1, .int .i64 1, .int .u64 1, .int .i64 1, .int .i64 3, .int .i64 6554, .int .i64 0, .int .i64 0, .int .i64 0, .int .i64 0] 24)).alloc (.cells #[.int .i64 65536] 3)).alloc (.cells #[.int .i64 131072] 3)).alloc (.cells #[.slice (some ⟨w.heap.size + 1, 0, none⟩) 1 1, .slice (some ⟨w.heap.size + 1 + 1, 0, none⟩) 1 1] 53)) (w.heap.size + 1 + 1 + 1) 53 #[.slice (some ⟨w.heap.size + 1, 0, none⟩) 1 1, .slice (some ⟨w.heap.size + 1 + 1, 0, none⟩) 1 1] := Blk.made' _ _ _ (by simp)
  refine ⟨rfl, fun _ => ⟨w.heap.size + 1 + 1 + 1, 0, rfl, B.lt, fun j hj => ?_⟩⟩
  obtain rfl : j = 0 := by omega
  exact ⟨_, 1, 1, _, 1, 1, B.cell 0, B.cell 1, L1, L2, Nat.le_refl _, by decide, Nat.le_refl _, by decide⟩

end Go.Proofs.YtaeeonnjkplohaaGreatDoor

/- A course's records, read. -/
namespace Go.Proofs.YtaeeonnjkplohaaGreatDoor
open Go.RowKit Pl

theorem recs_at (c : Cfg) (ds : Data) {w : World} {A : Option Addr} {N : Nat} (h : RecsK w A N (upto (recC c ds) N)) {q : Nat} (hq : q < N) : ∃ b off L k, A = some ⟨b, off, none⟩ ∧ b < w.heap.size ∧
    (w.cell? ⟨b, off + q * 5, none⟩ = some (.int .i64 q) ∧ w.cell? ⟨b, off + q * 5 + 1, none⟩ = some (.slice L c.batch.toNat k) ∧ w.cell? ⟨b, off + q * 5 + 2, none⟩ = some (.int .i64 (ratI c q)) ∧ w.cell? ⟨b, off + q * 5 + 3, none⟩ = some (.int .u64 (rootS (states c ds (q + 1)))) ∧ w.cell? ⟨b, off + q * 5 + 4, none⟩ = some (.int .u64 (chainC c ds (q + 1)))) ∧
    Ints .i64 w L c.batch.toNat ((batI c ds q).map fun (n : Nat) => (n : Int)) ∧ c.batch.toNat ≤ k := by
  obtain ⟨b, off, L, k, e, hb, ⟨h0, h1, h2, h3, h4⟩, hI, hk, _⟩ := h.at hq
  rw [recAt_upto _ hq] at h0 h1 h2 h3 h4 hI hk
  have hl : (recC c ds q).batch.length = c.batch.toNat := by
    show ((batI c ds q).map _).length = _
    rw [List.length_map, batI_length]
  rw [hl] at h1 hI hk
  exact ⟨b, off, L, k, e, hb, ⟨h0, h1, h2, h3, h4⟩, hI, hk⟩
theorem recC_short (c : Cfg) (ds : Data) (hb : c.batch ≤ 8) {n j : Nat} (hj : j < n) : (recAt (upto (recC c ds) n) j).batch.length ≤ 9223372036854775806 := by
  rw [recAt_upto _ hj]
  show ((batI c ds j).map _).length ≤ _
  rw [List.length_map, batI_length]
  omega
end Go.Proofs.YtaeeonnjkplohaaGreatDoor

/- A course's arguments, opened. -/
namespace Go.Proofs.YtaeeonnjkplohaaGreatDoor
open Go.ChangeShapes Go.WideShapes Go.ChangeAt Go.RowKit Pl

section
variable {H : Type} {enc : TypeId × Value → H} {w : World} {base : Nat} {sp : Nat → Bool} {held : Bool}
set_option maxRecDepth 100000 in
theorem open_ex {fuel : Nat} {cs : List Value} {x : DataW H × List MemPlace} (hsp : ∀ b, sp b = true) (h : DataW.trod enc Tryz.prog w base sp held fuel 53 cs = some x) :
    ∃ (A1 : Option Addr) (n1 c1 : Nat) (p1 : List Int) (A2 : Option Addr) (n2 c2 : Nat) (p2 : List Int), cs = [.slice A1 n1 c1, .slice A2 n2 c2] ∧ Ints .i64 w A1 n1 p1 ∧ Ints .i64 w A2 n2 p2 ∧ n1 ≤ c1 ∧ c1 ≤ maxLen ∧ n2 ≤ c2 ∧ c2 ≤ maxLen := by
  obtain ⟨xs, n, _, _, hl, hxl, hf⟩ := DataW.trod_struct Tryz.underlying53 h
  rw [cells_example] at hl
  match cs, hl with
  | [e0, e1], _ =>
    obtain ⟨y2, f2⟩ := field_at hf hxl 0 26 0 1 rfl cells_ints
    obtain ⟨y3, f3⟩ := field_at hf hxl 1 26 1 1 rfl cells_ints
    simp only [List.drop_zero, List.drop_succ_cons, List.take_succ_cons, List.take_zero] at f2 f3
    obtain ⟨b1, B1, m1, d1, rfl, s1, s2, s3, _⟩ := intsV_of hsp f2
    obtain ⟨b2, B2, m2, d2, rfl, t1, t2, t3, _⟩ := intsV_of hsp f3
    exact ⟨B1, m1, d1, b1, B2, m2, d2, b2, rfl, s1, t1, s2, s3, t2, t3⟩
set_option maxRecDepth 100000 in
theorem arg_data {r : Reach} {b : Nat} {v : Value} {d : DataW H} {p : List MemPlace} {ts : List TypeId} {ds : List (DataW H)} {j : Nat} (hsp : ∀ b, sp b = true)
    (hv : Value.okWide Tryz.prog w r b 25 v) (h : DataW.Trod enc Tryz.prog w base sp held 25 v d p) (hsz : (DataW.weightsEach Tryz.prog ts ds).all (· ≤ reachBytes) = true) (ht : ts[j]? = some 25) (hd : ds[j]? = some d) :
    ∃ (A : Option Addr) (n c : Nat) (xs : Data), v = .slice A n c ∧ Duos w A n xs ∧ n ≤ 9223372036854775806 := by
  obtain ⟨A, n, c, rfl⟩ := okWide_slice Tryz.underlying25 hv
  obtain ⟨f, h⟩ := h
  obtain ⟨A', n', c', e, h1, h2, h3, h4⟩ := open_rows Tryz.underlying25 cells_example (by omega) hsp h
  have e' : Value.slice A n c = .slice A' n' c' := by simpa [Value.cells] using e
  injection e' with e1 e2 e3
  subst e1; subst e2; subst e3
  have hn : n ≤ 9223372036854775806 := by
    rcases h3 with ⟨_, rfl⟩ | ⟨ys, zs, hy, hl, _⟩
    · omega
    · dsimp only at hy
      subst hy
      have h5 := sized_slice hsz ht hd Tryz.underlying25
      have hb : Tryz.prog.bytesOf 53 = 48 := by kernel_rfl
      have hr : reachBytes = 140737488351232 := rfl
      rw [hb, hr] at h5
      omega
  rcases Nat.eq_zero_or_pos n with h0 | h0
  · subst h0
    exact ⟨A, 0, c, [], rfl, Duos.nil _ _, hn⟩
  · obtain ⟨bb, off, rfl, hb, hr⟩ := h4 h0
    have hch : ∀ i, ∃ q : List Int × List Int, i < n → DuoAt w bb (off + i * 2) q := fun i => by
      by_cases hi : i < n
      · obtain ⟨cs', f', y, _, hc, ht'⟩ := hr i hi
        obtain ⟨A1, n1, c1, p1, A2, n2, c2, p2, rfl, i1, i2, q1, q2, q3, q4⟩ := open_ex hsp ht'
        exact ⟨(p1, p2), fun _ => ⟨A1, n1, c1, A2, n2, c2, hc 0 (by omega), hc 1 (by omega), i1, i2, q1, q2, q3, q4⟩⟩
      · exact ⟨([], []), fun h => absurd h hi⟩
    obtain ⟨g, hg⟩ := Classical.axiomOfChoice hch
    refine ⟨_, n, c, (List.range n).map g, rfl, ⟨by simp, fun _ => ⟨bb, off, rfl, hb, fun j hj => ?_⟩⟩, hn⟩
    have : duoAt ((List.range n).map g) j = g j := by
      unfold duoAt
      rw [List.getElem?_map, List.getElem?_range hj]
      rfl
    rw [this]
    exact hg j hj
end
end Go.Proofs.YtaeeonnjkplohaaGreatDoor

/- The law TrainGoes holds of the given program for every input. No condition. -/
namespace Go.Proofs.YtaeeonnjkplohaaGreatDoor
open Go.ChangeShapes Go.WideShapes Go.ChangeAt Go.RowKit Pl

theorem rest_of (x M : Int) (h1 : 1 ≤ M) (h2 : M ≤ 1000) (W : World) : Calls Tryz.prog 9 #[.int .i64 x, .int .i64 M] W fun e w' => ∃ r : Nat, (r : Int) < M ∧ e = .returned (.int .i64 r) ∧ W = w' := by
  obtain ⟨m, rfl⟩ : ∃ m : Nat, M = (m : Int) := ⟨M.toNat, by omega⟩
  refine (ref_Rest x m W (by omega) (by omega)).mono ?_
  rintro e w' ⟨r, h, rfl, rfl⟩
  exact ⟨r, by omega, rfl, rfl⟩

end Go.Proofs.YtaeeonnjkplohaaGreatDoor

/- The law JournalGoes holds of the given program for every input. No condition. -/
namespace Go.Proofs.YtaeeonnjkplohaaGreatDoor
open Go.ChangeShapes Go.WideShapes Go.ChangeAt Go.RowKit Pl

end Go.Proofs.YtaeeonnjkplohaaGreatDoor

/- One record of a run of records is turned: what is read then. -/
namespace Go.Proofs.YtaeeonnjkplohaaGreatDoor
open Go.ChangeShapes Go.WideShapes Go.ChangeAt Go.RowKit Pl

section
variable {H : Type} {enc : TypeId × Value → H} {w : World} {base : Nat} {sp : Nat → Bool} {held : Bool}
set_option maxRecDepth 100000 in
theorem arg_rec {r : Reach} {b : Nat} {v : Value} {d : DataW H} {p : List MemPlace} (hsp : ∀ b, sp b = true) (hv : Value.okWide Tryz.prog w r b 40 v) (h : DataW.Trod enc Tryz.prog w base sp held 40 v d p) :
    ∃ (x : Rec) (A : Option Addr) (k : Nat), v = .agg #[.int .i64 x.step, .slice A x.batch.length k, .int .i64 x.rate, .int .u64 x.root, .int .u64 x.chain] ∧ Ints .i64 w A x.batch.length x.batch ∧ x.batch.length ≤ k ∧ k ≤ maxLen := by
  obtain ⟨cs, rfl, hsz⟩ := okWide_struct Tryz.underlying40 hv
  obtain ⟨f, h⟩ := h
  obtain ⟨cs⟩ := cs
  obtain ⟨x, A, n, k, e, hI, h1, h2, _⟩ := open_rec2 hsp h
  have hl := hI.len
  subst hl
  have e' : cs = [.int .i64 x.step, .slice A x.batch.length k, .int .i64 x.rate, .int .u64 x.root, .int .u64 x.chain] := e
  subst e'
  exact ⟨x, A, k, rfl, hI, h1, h2⟩
end

def bentF (f : Nat → Rec) (K : Nat) (x : Rec) (j : Nat) : Rec := if j = K then x else f j
/-- One record of the call's own run is turned. -/
theorem bent_recs {y : World} {B g N c K : Nat} {f : Nat → Rec} {x : Rec} {A : Option Addr} {k : Nat} (h : RecHeld none B f N (.slice (some ⟨g, 0, none⟩) N c) y) (hK : K < N) (hI : Ints .i64 y A x.batch.length x.batch) (hlt : ∀ b off, A = some ⟨b, off, none⟩ → 0 < x.batch.length → b < B) (h1 : x.batch.length ≤ k) (h2 : k ≤ maxLen) :
    RecsR (((((y.setCell ⟨g, K * 5, none⟩ (.int .i64 x.step)).setCell ⟨g, K * 5 + 1, none⟩ (.slice A x.batch.length k)).setCell ⟨g, K * 5 + 2, none⟩ (.int .i64 x.rate)).setCell ⟨g, K * 5 + 3, none⟩ (.int .u64 x.root)).setCell ⟨g, K * 5 + 4, none⟩ (.int .u64 x.chain)) (some ⟨g, 0, none⟩) N (upto (bentF f K x) N) ∧
    But g y (((((y.setCell ⟨g, K * 5, none⟩ (.int .i64 x.step)).setCell ⟨g, K * 5 + 1, none⟩ (.slice A x.batch.length k)).setCell ⟨g, K * 5 + 2, none⟩ (.int .i64 x.rate)).setCell ⟨g, K * 5 + 3, none⟩ (.int .u64 x.root)).setCell ⟨g, K * 5 + 4, none⟩ (.int .u64 x.chain)) := by
  have hBt := ((((((But.refl g y).put (K * 5) (.int .i64 x.step)).put (K * 5 + 1) (.slice A x.batch.length k)).put (K * 5 + 2) (.int .i64 x.rate)).put (K * 5 + 3) (.int .u64 x.root)).put (K * 5 + 4) (.int .u64 x.chain))
  obtain ⟨vs, ho, hp⟩ := h
  have hg := ho.lt g rfl
  obtain ⟨cur, hcur, hsz, htk⟩ : ∃ cur : Array Value, Blk y g 40 cur ∧ N * 5 ≤ cur.size ∧ cur.toList.take (N * 5) = vs := by
    rcases ho.2 with ⟨hv, h0⟩ | ⟨g', cap, cur, hv, _, hgg, hn, _, hs, ht⟩
    · omega
    · have : g = g' := by injection hv with a _ _; injection a with a; injection a
      subst this
      exact ⟨cur, hgg, by rw [hs]; exact Nat.mul_le_mul_right _ hn, ht⟩
  have hB5 := ((((hcur.put (K * 5) (.int .i64 x.step)).put (K * 5 + 1) (.slice A x.batch.length k)).put (K * 5 + 2) (.int .i64 x.rate)).put (K * 5 + 3) (.int .u64 x.root)).put (K * 5 + 4) (.int .u64 x.chain)
  refine ⟨⟨upto_length _ _, fun _ => ⟨g, 0, rfl, hB5.lt, fun j hj => ?_⟩⟩, hBt⟩
  rw [recAt_upto _ hj, Nat.zero_add]
  by_cases hjK : j = K
  · subst hjK
    have e : bentF f j x j = x := if_pos rfl
    rw [e]
    refine ⟨A, k, ⟨?_, ?_, ?_, ?_, ?_⟩, ⟨hI.len, fun hn => ?_⟩, h1, h2⟩
    · rw [hB5.cell]; simp [Array.getElem?_setIfInBounds]; omega
    · rw [hB5.cell]; simp [Array.getElem?_setIfInBounds]; omega
    · rw [hB5.cell]; simp [Array.getElem?_setIfInBounds]; omega
    · rw [hB5.cell]; simp [Array.getElem?_setIfInBounds]; omega
    · rw [hB5.cell]; simp [Array.getElem?_setIfInBounds]; omega
    · obtain ⟨b, off, e, hb, hc⟩ := hI.cells hn
      have hne : b ≠ g := by have := hlt b off e hn; omega
      exact ⟨b, off, e, Nat.lt_of_lt_of_le hb hBt.size, fun i hi => (World.cell?_of_block (a := ⟨b, off + i, none⟩) (hBt.block b hb hne)).trans (hc i hi)⟩
  · have e : bentF f K x j = f j := if_neg hjK
    rw [e]
    obtain ⟨v, hcs, L, kk, rfl, hI', l1, l2, hne⟩ := hp j hj
    have hbd : j * 5 + 5 ≤ N * 5 := by omega
    have cellE : ∀ i, i < 5 → (((((y.setCell ⟨g, K * 5, none⟩ (.int .i64 x.step)).setCell ⟨g, K * 5 + 1, none⟩ (.slice A x.batch.length k)).setCell ⟨g, K * 5 + 2, none⟩ (.int .i64 x.rate)).setCell ⟨g, K * 5 + 3, none⟩ (.int .u64 x.root)).setCell ⟨g, K * 5 + 4, none⟩ (.int .u64 x.chain)).cell? ⟨g, j * 5 + i, none⟩ = [Value.int .i64 (f j).step, .slice L (f j).batch.length kk, .int .i64 (f j).rate, .int .u64 (f j).root, .int .u64 (f j).chain][i]? := fun i hi => by
      rw [hB5.cell, ← hcs, List.getElem?_take, if_pos hi, List.getElem?_drop, ← htk, List.getElem?_take, if_pos (by omega), Array.getElem?_toList]
      have d0 : K * 5 ≠ j * 5 + i := by omega
      have d1 : K * 5 + 1 ≠ j * 5 + i := by omega
      have d2 : K * 5 + 2 ≠ j * 5 + i := by omega
      have d3 : K * 5 + 3 ≠ j * 5 + i := by omega
      have d4 : K * 5 + 4 ≠ j * 5 + i := by omega
      rw [Array.getElem?_setIfInBounds_ne d4, Array.getElem?_setIfInBounds_ne d3, Array.getElem?_setIfInBounds_ne d2, Array.getElem?_setIfInBounds_ne d1, Array.getElem?_setIfInBounds_ne d0]
    refine ⟨L, kk, ⟨cellE 0 (by omega), cellE 1 (by omega), cellE 2 (by omega), cellE 3 (by omega), cellE 4 (by omega)⟩, ⟨hI'.len, fun hn => ?_⟩, l1, l2⟩
    obtain ⟨b, off, e, hb, hc⟩ := hI'.cells hn
    have hng : b ≠ g := fun h => (hne b off none e).2.1 (by rw [h]; rfl)
    exact ⟨b, off, e, Nat.lt_of_lt_of_le hb hBt.size, fun i hi => (World.cell?_of_block (a := ⟨b, off + i, none⟩) (hBt.block b hb hng)).trans (hc i hi)⟩
end Go.Proofs.YtaeeonnjkplohaaGreatDoor

/- AuditTells: the walk, given what audit.Whole answers. -/
namespace Go.Proofs.YtaeeonnjkplohaaGreatDoor
open Go.ChangeShapes Go.WideShapes Go.ChangeAt Go.RowKit Pl

/-- The first record that is not as it should be. -/
def FirstOff (n : Nat) (f g : Nat → Rec) (k : Nat) : Prop := k ≤ n ∧ (∀ j, j < k → sameR (f j) (g j) = true) ∧ (k < n → sameR (f k) (g k) = false)
theorem first_self {N k : Nat} {f : Nat → Rec} (h : FirstOff N f f k) : k = N := by
  obtain ⟨h1, _, h3⟩ := h
  rcases Nat.lt_or_ge k N with hk | hk
  · rw [sameR_self] at h3; exact absurd (h3 hk) (by simp)
  · omega
theorem first_bent {N k K : Nat} {f : Nat → Rec} {x : Rec} (hK : K < N) (h : FirstOff N (bentF f K x) f k) : (sameR x (f K) = true → k = N) ∧ (sameR x (f K) = false → k = K) := by
  obtain ⟨h1, h2, h3⟩ := h
  refine ⟨fun hs => ?_, fun hs => ?_⟩
  · have e := sameR_eq hs
    rcases Nat.lt_or_ge k N with hk | hk
    · have := h3 hk
      unfold bentF at this
      by_cases hkK : k = K
      · subst hkK; rw [if_pos rfl, hs] at this; cases this
      · rw [if_neg hkK, sameR_self] at this; cases this
    · omega
  · rcases Nat.lt_trichotomy k K with hk | hk | hk
    · have := h3 (by omega)
      unfold bentF at this
      rw [if_neg (by omega), sameR_self] at this
      cases this
    · exact hk
    · have := h2 K hk
      unfold bentF at this
      rw [if_pos rfl, hs] at this
      cases this
theorem sameB_one (x r : Rec) : sameB 1 1 [x] [r] = sameR x r := by
  unfold sameB
  simp [List.range_succ, recAt]
theorem recs_one {w : World} {g o k : Nat} {A : Option Addr} {x : Rec} (hg : g < w.heap.size) (h : RecAt w g o A k x) (hI : Ints .i64 w A x.batch.length x.batch) (h1 : x.batch.length ≤ k) (h2 : k ≤ maxLen) : RecsR w (some ⟨g, o, none⟩) 1 [x] :=
  ⟨rfl, fun _ => ⟨g, o, rfl, hg, fun j hj => by
    obtain rfl : j = 0 := by omega
    exact ⟨A, k, by show RecAt w g (o + 0 * 5) A k x; simpa using h, hI, h1, h2⟩⟩⟩

end Go.Proofs.YtaeeonnjkplohaaGreatDoor
