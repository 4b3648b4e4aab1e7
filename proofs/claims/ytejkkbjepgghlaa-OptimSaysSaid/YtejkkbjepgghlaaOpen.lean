/- Arguments that came in, opened: structs of one-cell fields, slices of structs; records. -/
import Derived.Test.YtejkkbjepgghlaaMem
import Derived.Deep.Slices
import Derived.Test.YtejkkbjepgghlaaRows
namespace Go.Proofs.Ytejkkbjepgghlaa
open Go.RowKit Pl

section
variable {H : Type} {enc : TypeId × Value → H} {P : Program} {w : World} {base : Nat} {sp : Nat → Bool} {held : Bool}
/-- A slice of elements of sz cells that came in. -/
theorem open_rows {t e sz : Nat} {fuel : Nat} {cs : List Value} {x : DataW H × List MemPlace} (ht : P.underlying t = some (.slice e)) (hC : P.cellsOf e = sz) (h0 : 0 < sz) (hsp : ∀ b, sp b = true)
    (h : DataW.trod enc P w base sp held fuel t cs = some x) :
    ∃ (A : Option Addr) (n c : Nat), cs = [.slice A n c] ∧ n ≤ c ∧ c ≤ maxLen ∧ ((x.1 = .nil ∧ n = 0) ∨ ∃ ys zs, x.1 = .slice ys zs ∧ ys.length = n ∧ ys.length + zs.length = c) ∧
      (0 < n → ∃ b off, A = some ⟨b, off, none⟩ ∧ b < w.heap.size ∧ ∀ i, i < n → ∃ (cs' : List Value) (f' : Nat) (y : DataW H × List MemPlace), cs'.length = sz ∧ (∀ j, j < sz → w.cell? ⟨b, off + i * sz + j, none⟩ = cs'[j]?) ∧
        DataW.trod enc P w base sp held f' e cs' = some y) := by
  rcases Go.Deep.open_slice ht h with ⟨rfl, rfl⟩ | ⟨a, len, cap, m, n, D, Pl', rfl, _, hl, hm, hmm, rfl, hi⟩
  · exact ⟨none, 0, 0, rfl, Nat.le_refl _, Nat.zero_le _, .inl ⟨rfl, rfl⟩, fun h => absurd h (by omega)⟩
  · rw [hsp, if_pos rfl] at hmm
    subst hmm
    refine ⟨some a, len, m, rfl, hl, hm, .inr ⟨_, _, rfl, by simp, by simp; omega⟩, fun hn => ?_⟩
    obtain ⟨cs0, hc0, _⟩ := hi 0 (by omega)
    obtain ⟨_, hl0, hat0⟩ := World.cells?_some hc0
    rw [hC] at hl0 hat0
    have hz : w.cell? a = cs0[0]? := by
      have := hat0 0 h0
      simpa [Addr.add] using this
    have hz' : w.cell? a = some (cs0[0]'(by omega)) := by rw [hz, List.getElem?_eq_getElem]
    obtain ⟨b, off, spot⟩ := a
    have hspot : spot = none := by simpa [Addr.add] using World.cell?_spot hz'
    subst hspot
    refine ⟨b, off, rfl, World.block_lt_of_cell? _ _ hz', fun i hin => ?_⟩
    obtain ⟨cs', hc', ht'⟩ := hi i (by omega)
    obtain ⟨_, hl', hat⟩ := World.cells?_some hc'
    rw [hC] at hl' hat
    refine ⟨cs', n, _, hl', fun j hj => ?_, ht'⟩
    rw [← hat j hj, Go.WideShapes.add_plain, Go.WideShapes.add_plain]
end

/-- A struct's field, by its type, its place among the cells, its size. -/
theorem field_at {H : Type} {enc : TypeId × Value → H} {P : Program} {w : World} {base : Nat} {sp : Nat → Bool} {held : Bool} {fs : Array Field} {n : Nat} {cs : List Value} {xs : List (DataW H × List MemPlace)}
    (hf : ∀ (i : Nat) (f : Field), fs[i]? = some f → DataW.trod enc P w base sp held n f.type ((cs.drop f.offset).take (P.cellsOf f.type)) = xs[i]?) (hl : xs.length = fs.size)
    (i t o k : Nat) (h : (fs[i]?).map (fun f => (f.type, f.offset)) = some (t, o)) (hk : P.cellsOf t = k) : ∃ y, DataW.trod enc P w base sp held n t ((cs.drop o).take k) = some y := by
  obtain ⟨f, hfi, he⟩ := Option.map_eq_some_iff.1 h
  injection he with h1 h2
  subst h1; subst h2; subst hk
  have hi : i < xs.length := by rw [hl]; exact (Array.getElem?_eq_some_iff.1 hfi).1
  exact ⟨_, (hf i f hfi).trans (List.getElem?_eq_getElem hi)⟩

/-- A record. -/
structure Rec where
  step : Int
  batch : List Int
  rate : Int
  root : Int
  chain : Int

def Rec.none_ : Rec := ⟨0, [], 0, 0, 0⟩
def recAt (rs : List Rec) (j : Nat) : Rec := rs[j]?.getD Rec.none_
theorem recAt_upto (f : Nat → Rec) {k n : Nat} (h : k < n) : recAt (upto f n) k = f k := by
  unfold recAt upto
  rw [List.getElem?_map, List.getElem?_range h]; rfl

/-- A record's five cells. -/
def RecV (w : World) (cs : List Value) (r : Rec) : Prop :=
  ∃ A n c, cs = [.int .i64 r.step, .slice A n c, .int .i64 r.rate, .int .u64 r.root, .int .u64 r.chain] ∧ Ints .i64 w A n r.batch ∧ n ≤ c ∧ c ≤ maxLen ∧
    (Lit.int .i64 r.step).wf = true ∧ (Lit.int .i64 r.rate).wf = true ∧ (Lit.int .u64 r.root).wf = true ∧ (Lit.int .u64 r.chain).wf = true ∧ (∀ z ∈ r.batch, (Lit.int .i64 z).wf = true)

/-- The slice of n records at A reads as rs. -/
structure Recs (w : World) (A : Option Addr) (n : Nat) (rs : List Rec) : Prop where
  len : rs.length = n
  cells : 0 < n → ∃ b off, A = some ⟨b, off, none⟩ ∧ b < w.heap.size ∧ ∀ j, j < n → ∃ cs, RecV w cs (recAt rs j) ∧ ∀ i, i < 5 → w.cell? ⟨b, off + j * 5 + i, none⟩ = cs[i]?

theorem cells_int : Try.prog.cellsOf 3 = 1 := by kernel_rfl
theorem cells_u64 : Try.prog.cellsOf 22 = 1 := by kernel_rfl
theorem cells_ints : Try.prog.cellsOf 25 = 1 := by kernel_rfl

end Go.Proofs.Ytejkkbjepgghlaa
