/- A record, a string that came in, opened: with what the second form's bound says of it. -/
import Derived.Test.YtblkpibbcapdeaaDoorUpto
import Derived.Test.YtblkpibbcapdeaaDoorArgR
import Derived.ChangeMaps5
namespace Go.Proofs.YtblkpibbcapdeaaDoor
open Go.ChangeShapes Go.WideShapes Go.ChangeAt Go.RowKit Pl

section
variable {H : Type} {enc : TypeId × Value → H} {w : World} {base : Nat} {sp : Nat → Bool} {held : Bool}
set_option maxRecDepth 100000 in
theorem rec_bulk {fuel : Nat} {cs : List Value} {x : DataW H × List MemPlace} (hsp : ∀ b, sp b = true) (h : DataW.trod enc Tryd.prog w base sp held fuel 25 cs = some x) : ∃ r : Rec, RecV w cs r ∧ r.batch.length ≤ Rows.uptoBulk x.1 := by
  obtain ⟨xs, n, _, hd, hl, hxl, hf⟩ := DataW.trod_struct Tryd.underlying25 h
  rw [cells_rec2] at hl
  match cs, hl, xs, hxl with
  | [c0, c1, c2, c3, c4], _, [y0, y1, y2, y3, y4], _ =>
    have f0 : DataW.trod enc Tryd.prog w base sp held n 3 (([c0, c1, c2, c3, c4].drop 0).take (Tryd.prog.cellsOf 3)) = some y0 := hf 0 _ rfl
    have f1 : DataW.trod enc Tryd.prog w base sp held n 22 (([c0, c1, c2, c3, c4].drop 1).take (Tryd.prog.cellsOf 22)) = some y1 := hf 1 _ rfl
    have f2 : DataW.trod enc Tryd.prog w base sp held n 3 (([c0, c1, c2, c3, c4].drop 2).take (Tryd.prog.cellsOf 3)) = some y2 := hf 2 _ rfl
    have f3 : DataW.trod enc Tryd.prog w base sp held n 23 (([c0, c1, c2, c3, c4].drop 3).take (Tryd.prog.cellsOf 23)) = some y3 := hf 3 _ rfl
    have f4 : DataW.trod enc Tryd.prog w base sp held n 23 (([c0, c1, c2, c3, c4].drop 4).take (Tryd.prog.cellsOf 23)) = some y4 := hf 4 _ rfl
    rw [cells_int] at f0 f2
    rw [cells_ints] at f1
    rw [cells_u64] at f3 f4
    simp only [List.drop_zero, List.drop_succ_cons, List.take_succ_cons, List.take_zero] at f0 f1 f2 f3 f4
    obtain ⟨s, k0, _, w0⟩ := DataW.trod_int Tryd.underlying3 f0
    obtain ⟨bs, A, m, c, rfl, ⟨hI, hmc, hcm, hbw⟩, hbk⟩ := intsV_bulk hsp f1
    obtain ⟨r, k2, _, w2⟩ := DataW.trod_int Tryd.underlying3 f2
    obtain ⟨ro, k3, _, w3⟩ := DataW.trod_int Tryd.underlying23 f3
    obtain ⟨ch, k4, _, w4⟩ := DataW.trod_int Tryd.underlying23 f4
    simp only [List.cons.injEq, and_true] at k0 k2 k3 k4
    subst k0; subst k2; subst k3; subst k4
    refine ⟨⟨s, bs, r, ro, ch⟩, ⟨A, m, c, rfl, hI, hmc, hcm, w0, w2, w3, w4, hbw⟩, ?_⟩
    subst hd
    have hl2 := hI.len
    simp only [List.map_cons, List.map_nil, Rows.uptoBulk, Rows.uptoBulkAll]
    show bs.length ≤ _
    omega
set_option maxRecDepth 100000 in
theorem arg_rec_upto {r : Reach} {b : Nat} {v : Value} {d : DataW H} {p : List MemPlace} (hsp : ∀ b, sp b = true) (hv : Value.okWide Tryd.prog w r b 25 v) (h : DataW.Trod enc Tryd.prog w base sp held 25 v d p) :
    ∃ (x : Rec) (A : Option Addr) (k : Nat), v = .agg #[.int .i64 x.step, .slice A x.batch.length k, .int .i64 x.rate, .int .u64 x.root, .int .u64 x.chain] ∧ Ints .i64 w A x.batch.length x.batch ∧ x.batch.length ≤ k ∧ k ≤ maxLen ∧ x.batch.length ≤ Rows.uptoBulk d ∧
      (Lit.int .i64 x.step).wf = true ∧ (Lit.int .i64 x.rate).wf = true ∧ (Lit.int .u64 x.root).wf = true ∧ (Lit.int .u64 x.chain).wf = true ∧ (∀ z ∈ x.batch, (Lit.int .i64 z).wf = true) := by
  obtain ⟨cs, rfl, hsz⟩ := okWide_struct Tryd.underlying25 hv
  obtain ⟨f, h⟩ := h
  obtain ⟨cs⟩ := cs
  obtain ⟨x, ⟨A, n, k, e, hI, h1, h2, hw⟩, hb⟩ := rec_bulk hsp h
  have hl := hI.len
  subst hl
  have e' : cs = [.int .i64 x.step, .slice A x.batch.length k, .int .i64 x.rate, .int .u64 x.root, .int .u64 x.chain] := e
  subst e'
  exact ⟨x, A, k, rfl, hI, h1, h2, hb, hw⟩
set_option maxRecDepth 100000 in
theorem arg_string_upto {r : Reach} {b : Nat} {v : Value} {d : DataW H} {p : List MemPlace} (hv : Value.okWide Tryd.prog w r b 9 v) (h : DataW.Trod enc Tryd.prog w base sp held 9 v d p) :
    ∃ s : ByteArray, v = .string s ∧ s.size + 1 ≤ Rows.uptoBulk d := by
  obtain ⟨s, rfl, rfl, _, _⟩ := ChangeMaps.open_string Tryd.underlying9 hv h
  refine ⟨s, rfl, ?_⟩
  simp only [Rows.uptoBulk, Array.length_toList]
  exact Nat.le_refl _
end
end Go.Proofs.YtblkpibbcapdeaaDoor
