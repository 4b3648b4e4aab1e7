/- A record, records that came in, opened. -/
import Derived.Test.YtaeeonnjkplohaaGreatDoorRecW
import Derived.Test.YtaeeonnjkplohaaGreatDoorArgs
namespace Go.Proofs.YtaeeonnjkplohaaGreatDoor
open Go.ChangeShapes Go.WideShapes Go.ChangeAt Go.RowKit Pl

theorem cells_rec2 : Tryz.prog.cellsOf 40 = 5 := by kernel_rfl
section
variable {H : Type} {enc : TypeId × Value → H} {w : World} {base : Nat} {sp : Nat → Bool} {held : Bool}
set_option maxRecDepth 100000 in
theorem open_rec2 {fuel : Nat} {cs : List Value} {x : DataW H × List MemPlace} (hsp : ∀ b, sp b = true) (h : DataW.trod enc Tryz.prog w base sp held fuel 40 cs = some x) : ∃ r, RecV w cs r := by
  obtain ⟨xs, n, _, _, hl, hxl, hf⟩ := DataW.trod_struct Tryz.underlying40 h
  rw [cells_rec2] at hl
  match cs, hl with
  | [c0, c1, c2, c3, c4], _ =>
    obtain ⟨y0, f0⟩ := field_at hf hxl 0 3 0 1 rfl cells_int
    obtain ⟨y1, f1⟩ := field_at hf hxl 1 26 1 1 rfl cells_ints
    obtain ⟨y2, f2⟩ := field_at hf hxl 2 3 2 1 rfl cells_int
    obtain ⟨y3, f3⟩ := field_at hf hxl 3 22 3 1 rfl cells_u64
    obtain ⟨y4, f4⟩ := field_at hf hxl 4 22 4 1 rfl cells_u64
    simp only [List.drop_zero, List.drop_succ_cons, List.take_succ_cons, List.take_zero] at f0 f1 f2 f3 f4
    obtain ⟨s, k0, _, w0⟩ := DataW.trod_int Tryz.underlying3 f0
    obtain ⟨A, m, c, bs, k1, hI, hmc, hcm, hbw, _⟩ := open_Ints (k := .i64) Tryz.underlying26 Tryz.underlying3 cells_int hsp f1
    obtain ⟨r, k2, _, w2⟩ := DataW.trod_int Tryz.underlying3 f2
    obtain ⟨ro, k3, _, w3⟩ := DataW.trod_int Tryz.underlying22 f3
    obtain ⟨ch, k4, _, w4⟩ := DataW.trod_int Tryz.underlying22 f4
    simp only [List.cons.injEq, and_true] at k0 k1 k2 k3 k4
    subst k0; subst k1; subst k2; subst k3; subst k4
    exact ⟨⟨s, bs, r, ro, ch⟩, A, m, c, rfl, hI, hmc, hcm, w0, w2, w3, w4, hbw⟩
theorem open_recs2 {fuel : Nat} {cs : List Value} {x : DataW H × List MemPlace} (hsp : ∀ b, sp b = true) (h : DataW.trod enc Tryz.prog w base sp held fuel 31 cs = some x) :
    ∃ (A : Option Addr) (n c : Nat) (rs : List Rec), cs = [.slice A n c] ∧ n ≤ c ∧ c ≤ maxLen ∧ Recs w A n rs ∧ ((x.1 = .nil ∧ n = 0) ∨ ∃ ys zs, x.1 = .slice ys zs ∧ ys.length = n ∧ ys.length + zs.length = c) := by
  obtain ⟨A, n, c, rfl, h1, h2, h3, h4⟩ := open_rows Tryz.underlying31 cells_rec2 (by omega) hsp h
  rcases Nat.eq_zero_or_pos n with h0 | h0
  · subst h0
    exact ⟨A, 0, c, [], rfl, h1, h2, ⟨rfl, fun h => absurd h (by omega)⟩, h3⟩
  · obtain ⟨b, off, rfl, hb, hr⟩ := h4 h0
    have hch : ∀ i, ∃ r : Rec, i < n → ∃ cs, RecV w cs r ∧ ∀ j, j < 5 → w.cell? ⟨b, off + i * 5 + j, none⟩ = cs[j]? := fun i => by
      by_cases hi : i < n
      · obtain ⟨cs', f', y, _, hc, ht⟩ := hr i hi
        obtain ⟨r, hv⟩ := open_rec2 hsp ht
        exact ⟨r, fun _ => ⟨cs', hv, hc⟩⟩
      · exact ⟨Rec.none_, fun h => absurd h hi⟩
    obtain ⟨f, hf⟩ := Classical.axiomOfChoice hch
    refine ⟨_, n, c, upto f n, rfl, h1, h2, ⟨upto_length _ _, fun _ => ⟨b, off, rfl, hb, fun j hj => ?_⟩⟩, h3⟩
    rw [recAt_upto f hj]
    exact hf j hj
set_option maxRecDepth 100000 in
theorem arg_rec2 {r : Reach} {b : Nat} {v : Value} {d : DataW H} {p : List MemPlace} (hsp : ∀ b, sp b = true) (hv : Value.okWide Tryz.prog w r b 40 v) (h : DataW.Trod enc Tryz.prog w base sp held 40 v d p) :
    ∃ (x : Rec) (A : Option Addr) (n k : Nat), v = .agg #[.int .i64 x.step, .slice A n k, .int .i64 x.rate, .int .u64 x.root, .int .u64 x.chain] ∧ Ints .i64 w A n x.batch ∧ n ≤ k ∧ k ≤ maxLen ∧
      (Lit.int .i64 x.step).wf = true ∧ (Lit.int .i64 x.rate).wf = true ∧ (Lit.int .u64 x.root).wf = true ∧ (Lit.int .u64 x.chain).wf = true ∧ (∀ z ∈ x.batch, (Lit.int .i64 z).wf = true) := by
  obtain ⟨cs, rfl, hsz⟩ := okWide_struct Tryz.underlying40 hv
  obtain ⟨f, h⟩ := h
  obtain ⟨cs⟩ := cs
  obtain ⟨x, A, n, k, e, hI, h1, h2, hw⟩ := open_rec2 hsp h
  have e' : cs = [.int .i64 x.step, .slice A n k, .int .i64 x.rate, .int .u64 x.root, .int .u64 x.chain] := e
  subst e'
  exact ⟨x, A, n, k, rfl, hI, h1, h2, hw⟩
theorem Recs.weak {A : Option Addr} {n : Nat} {rs : List Rec} (h : Recs w A n rs) : RecsR w A n rs :=
  ⟨h.len, fun hn => by
    obtain ⟨b, off, e, hb, hc⟩ := h.cells hn
    refine ⟨b, off, e, hb, fun j hj => ?_⟩
    obtain ⟨cs, ⟨L, m, c, rfl, hI, h1, h2, _⟩, hi⟩ := hc j hj
    have hl := hI.len
    rw [← hl] at hi hI h1
    exact ⟨L, c, ⟨hi 0 (by omega), hi 1 (by omega), hi 2 (by omega), hi 3 (by omega), hi 4 (by omega)⟩, hI, h1, h2⟩⟩
set_option maxRecDepth 100000 in
theorem arg_recs2 {r : Reach} {b : Nat} {v : Value} {d : DataW H} {p : List MemPlace} {ts : List TypeId} {ds : List (DataW H)} {j : Nat} (hsp : ∀ b, sp b = true)
    (hv : Value.okWide Tryz.prog w r b 31 v) (h : DataW.Trod enc Tryz.prog w base sp held 31 v d p) (hsz : (DataW.weightsEach Tryz.prog ts ds).all (· ≤ reachBytes) = true) (ht : ts[j]? = some 31) (hd : ds[j]? = some d) :
    ∃ (A : Option Addr) (n c : Nat) (rs : List Rec), v = .slice A n c ∧ Recs w A n rs ∧ n ≤ 9223372036854775806 ∧ n ≤ c ∧ c ≤ maxLen := by
  obtain ⟨A, n, c, rfl⟩ := okWide_slice Tryz.underlying31 hv
  obtain ⟨f, h⟩ := h
  obtain ⟨A', n', c', rs, e, h1, h2, h3, h4⟩ := open_recs2 hsp h
  have e' : Value.slice A n c = .slice A' n' c' := by simpa [Value.cells] using e
  injection e' with e1 e2 e3
  subst e1; subst e2; subst e3
  have hn : n ≤ 9223372036854775806 := by
    rcases h4 with ⟨_, rfl⟩ | ⟨ys, zs, hy, hl, _⟩
    · omega
    · dsimp only at hy
      subst hy
      have h5 := sized_slice hsz ht hd Tryz.underlying31
      have hb : Tryz.prog.bytesOf 40 = 56 := by kernel_rfl
      have hr : reachBytes = 140737488351232 := rfl
      rw [hb, hr] at h5
      omega
  exact ⟨A, n, c, rs, rfl, h3, hn, h1, h2⟩
end
end Go.Proofs.YtaeeonnjkplohaaGreatDoor
