/- Calls of a store, as the two laws StorePlays and StoreKeeps are handed them. -/
import Derived.Test.YtblkpibbcapdeaaDoorStoM
import Derived.Test.YtblkpibbcapdeaaDoorArgR
import Derived.Test.YtblkpibbcapdeaaDoorVecW
namespace Go.Proofs.YtblkpibbcapdeaaDoor
open Go.ChangeShapes Go.WideShapes Go.ChangeAt Go.RowKit Go.Sort Pl

/-- A call of a store. -/
structure Cal where
  kind : Int
  r : Rec
  keep : Int
def Cal.none_ : Cal := ⟨0, Rec.none_, 0⟩
def calAt (cs : List Cal) (j : Nat) : Cal := cs[j]?.getD Cal.none_
/-- Seven cells that read as a call. -/
def CalV (w : World) (cs : List Value) (x : Cal) : Prop := ∃ v u, cs = v :: u ∧ v = .int .i64 x.kind ∧ ∃ r k, u = r ++ [k] ∧ k = .int .i64 x.keep ∧ RecV w r x.r
structure CalsR (w : World) (A : Option Addr) (n : Nat) (xs : List Cal) : Prop where
  len : xs.length = n
  cells : 0 < n → ∃ b off, A = some ⟨b, off, none⟩ ∧ b < w.heap.size ∧ ∀ j, j < n → ∃ cs, CalV w cs (calAt xs j) ∧ ∀ i, i < 7 → w.cell? ⟨b, off + j * 7 + i, none⟩ = cs[i]?
theorem cells_call : Tryd.prog.cellsOf 43 = 7 := by kernel_rfl
theorem calAt_upto (f : Nat → Cal) {n j : Nat} (h : j < n) : calAt (upto f n) j = f j := by
  unfold calAt upto
  rw [List.getElem?_map, List.getElem?_range h]
  rfl
section
variable {H : Type} {enc : TypeId × Value → H} {w : World} {base : Nat} {sp : Nat → Bool} {held : Bool}
set_option maxRecDepth 100000 in
theorem open_cal {fuel : Nat} {cs : List Value} {x : DataW H × List MemPlace} (hsp : ∀ b, sp b = true) (h : DataW.trod enc Tryd.prog w base sp held fuel 43 cs = some x) : ∃ r, CalV w cs r := by
  obtain ⟨xs, n, _, _, hl, hxl, hf⟩ := DataW.trod_struct Tryd.underlying43 h
  rw [cells_call] at hl
  match cs, hl with
  | [c0, c1, c2, c3, c4, c5, c6], _ =>
    obtain ⟨y0, f0⟩ := field_at hf hxl 0 3 0 1 rfl cells_int
    obtain ⟨y1, f1⟩ := field_at hf hxl 1 25 1 5 rfl cells_rec2
    obtain ⟨y2, f2⟩ := field_at hf hxl 2 3 6 1 rfl cells_int
    simp only [List.drop_zero, List.drop_succ_cons, List.take_succ_cons, List.take_zero] at f0 f1 f2
    obtain ⟨s, k0, _, w0⟩ := DataW.trod_int Tryd.underlying3 f0
    obtain ⟨r, hr⟩ := open_rec2 hsp f1
    obtain ⟨t, k2, _, w2⟩ := DataW.trod_int Tryd.underlying3 f2
    simp only [List.cons.injEq, and_true] at k0 k2
    subst k0; subst k2
    exact ⟨⟨s, r, t⟩, _, _, rfl, rfl, _, _, rfl, rfl, hr⟩
theorem open_cals {fuel : Nat} {cs : List Value} {x : DataW H × List MemPlace} (hsp : ∀ b, sp b = true) (h : DataW.trod enc Tryd.prog w base sp held fuel 37 cs = some x) :
    ∃ (A : Option Addr) (n c : Nat) (xs : List Cal), cs = [.slice A n c] ∧ n ≤ c ∧ c ≤ maxLen ∧ CalsR w A n xs := by
  obtain ⟨A, n, c, rfl, h1, h2, h3, h4⟩ := open_rows Tryd.underlying37 cells_call (by omega) hsp h
  rcases Nat.eq_zero_or_pos n with h0 | h0
  · subst h0
    exact ⟨A, 0, c, [], rfl, h1, h2, ⟨rfl, fun h => absurd h (by omega)⟩⟩
  · obtain ⟨b, off, rfl, hb, hr⟩ := h4 h0
    have hch : ∀ i, ∃ r : Cal, i < n → ∃ cs, CalV w cs r ∧ ∀ j, j < 7 → w.cell? ⟨b, off + i * 7 + j, none⟩ = cs[j]? := fun i => by
      by_cases hi : i < n
      · obtain ⟨cs', f', y, _, hc, ht⟩ := hr i hi
        obtain ⟨r, hv⟩ := open_cal hsp ht
        exact ⟨r, fun _ => ⟨cs', hv, hc⟩⟩
      · exact ⟨Cal.none_, fun h => absurd h hi⟩
    obtain ⟨f, hf⟩ := Classical.axiomOfChoice hch
    refine ⟨_, n, c, upto f n, rfl, h1, h2, ⟨upto_length _ _, fun _ => ⟨b, off, rfl, hb, fun j hj => ?_⟩⟩⟩
    rw [calAt_upto f hj]
    exact hf j hj
set_option maxRecDepth 100000 in
theorem arg_cals {r : Reach} {b : Nat} {v : Value} {d : DataW H} {p : List MemPlace} (hsp : ∀ b, sp b = true) (hv : Value.okWide Tryd.prog w r b 37 v) (h : DataW.Trod enc Tryd.prog w base sp held 37 v d p) :
    ∃ (A : Option Addr) (n c : Nat) (xs : List Cal), v = .slice A n c ∧ n ≤ c ∧ c ≤ maxLen ∧ CalsR w A n xs := by
  obtain ⟨A, n, c, rfl⟩ := okWide_slice Tryd.underlying37 hv
  obtain ⟨f, h⟩ := h
  obtain ⟨A', n', c', rs, e, h1, h2, h3⟩ := open_cals hsp h
  have e' : Value.slice A n c = .slice A' n' c' := by simpa [Value.cells] using e
  injection e' with e1 e2 e3
  subst e1; subst e2; subst e3
  exact ⟨A, n, c, rs, rfl, h1, h2, h3⟩
end
theorem CalsR.at {w : World} {A : Option Addr} {n : Nat} {xs : List Cal} (h : CalsR w A n xs) {j : Nat} (hj : j < n) : ∃ b off L m c, A = some ⟨b, off, none⟩ ∧ b < w.heap.size ∧
    (w.cell? ⟨b, off + j * 7, none⟩ = some (.int .i64 (calAt xs j).kind) ∧ w.cell? ⟨b, off + j * 7 + 1, none⟩ = some (.int .i64 (calAt xs j).r.step) ∧ w.cell? ⟨b, off + j * 7 + 2, none⟩ = some (.slice L m c) ∧ w.cell? ⟨b, off + j * 7 + 3, none⟩ = some (.int .i64 (calAt xs j).r.rate) ∧ w.cell? ⟨b, off + j * 7 + 4, none⟩ = some (.int .u64 (calAt xs j).r.root) ∧ w.cell? ⟨b, off + j * 7 + 5, none⟩ = some (.int .u64 (calAt xs j).r.chain) ∧ w.cell? ⟨b, off + j * 7 + 6, none⟩ = some (.int .i64 (calAt xs j).keep)) ∧
    Ints .i64 w L m (calAt xs j).r.batch ∧ m ≤ c ∧ c ≤ maxLen ∧ 0 ≤ (calAt xs j).r.root ∧ 0 ≤ (calAt xs j).r.chain := by
  obtain ⟨b, off, e, hb, hc⟩ := h.cells (by omega)
  obtain ⟨cs, ⟨v, u, rfl, rfl, r, k, rfl, rfl, L, m, c, rfl, hI, h1, h2, _, _, w3, w4, _⟩, hi⟩ := hc j hj
  exact ⟨b, off, L, m, c, e, hb, ⟨hi 0 (by omega), hi 1 (by omega), hi 2 (by omega), hi 3 (by omega), hi 4 (by omega), hi 5 (by omega), hi 6 (by omega)⟩, hI, h1, h2, (wf_u64 w3).1, (wf_u64 w4).1⟩
theorem CalsR.below {w w' : World} {A : Option Addr} {n : Nat} {xs : List Cal} (h : CalsR w A n xs) (hb : Below w.heap.size w w') : CalsR w' A n xs :=
  ⟨h.len, fun hn => by
    obtain ⟨b, off, e, hl, hc⟩ := h.cells hn
    refine ⟨b, off, e, Nat.lt_of_lt_of_le hl hb.size, fun j hj => ?_⟩
    obtain ⟨cs, ⟨v, u, h1, h2, r, k, h3, h4, L, m, c, h5, hI, h6⟩, h7⟩ := hc j hj
    exact ⟨cs, ⟨v, u, h1, h2, r, k, h3, h4, L, m, c, h5, hI.below hb, h6⟩, fun i hi => (hb.cell (p := ⟨b, off + j * 7 + i, none⟩) hl).trans (h7 i hi)⟩⟩
theorem beg_short (l : List UInt8) {j : Nat} : (recAt (beg l).1 j).batch.length ≤ 9223372036854775806 := by
  unfold recAt
  rcases Nat.lt_or_ge j (beg l).1.length with h | h
  · rw [List.getElem?_eq_getElem h]
    have := (goodR_iff.1 (beg_good l _ (List.getElem_mem h))).2.2.2.2.1
    show ((beg l).1[j]).batch.length ≤ _
    omega
  · rw [List.getElem?_eq_none h]
    exact Nat.zero_le _
theorem but_low {g B : Nat} {a b w : World} (h : Below B w a) (hb : But g a b) (hB : B ≤ g) (hs : B ≤ a.heap.size) : Below B w b :=
  ⟨hb.os.trans h.os, hb.tape.trans h.tape, hb.output.trans h.output, Nat.le_trans h.size hb.size, fun k hk => (hb.block k (by omega) (by omega)).trans (h.block k hk)⟩

theorem Blk.seven {w : World} {g : Nat} {t : TypeId} {a b c d e f h : Value} (H : Blk w g t #[a, b, c, d, e, f, h]) : (w.cell? ⟨g, 1, none⟩ = some b ∧ w.cell? ⟨g, 2, none⟩ = some c ∧ w.cell? ⟨g, 3, none⟩ = some d ∧ w.cell? ⟨g, 4, none⟩ = some e ∧ w.cell? ⟨g, 5, none⟩ = some f) ∧ w.cell? ⟨g, 6, none⟩ = some h :=
  ⟨⟨H.cell 1, H.cell 2, H.cell 3, H.cell 4, H.cell 5⟩, H.cell 6⟩

end Go.Proofs.YtblkpibbcapdeaaDoor
