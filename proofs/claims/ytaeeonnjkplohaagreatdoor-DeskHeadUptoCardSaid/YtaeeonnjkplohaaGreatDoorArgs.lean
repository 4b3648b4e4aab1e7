/- Arguments that came in, opened: structs of one-cell fields, slices of structs; records. -/
import Derived.Test.YtaeeonnjkplohaaGreatDoorMem
import Derived.Deep.Slices
import Derived.Test.YtaeeonnjkplohaaGreatDoorRows
import Derived.WalkKit
import Derived.ProofKit
import Derived.OpenShut
import Derived.ChangeCalls
import Derived.SizedLaws
import Derived.JoinedCond
import Derived.Deep.CondSized
namespace Go.Proofs.YtaeeonnjkplohaaGreatDoor
open Go.RowKit Pl

section
variable {H : Type} {enc : TypeId × Value → H} {P : Program} {w : World} {base : Nat} {sp : Nat → Bool} {held : Bool}
/-- A slice of elements of sz cells that came in. -/
theorem open_rows {t e sz : Nat} {fuel : Nat} {cs : List Value} {x : DataW H × List MemPlace} (ht : P.underlying t = some (.slice e)) (hC : P.cellsOf e = sz) (h0 : 0 < sz) (hsp : ∀ b, sp b = true)
    (h : DataW.trod enc P w base sp held fuel t cs = some x) :
    ∃ (A : Option Addr) (n c : Nat), cs = [.slice A n c] ∧ n ≤ c ∧ c ≤ maxLen ∧ ((x.1 = .nil ∧ n = 0) ∨ ∃ ys zs, x.1 = .slice ys zs ∧ ys.length = n ∧ ys.length + zs.length = c) ∧
      (0 < n → ∃ b off, A = some ⟨b, off, none⟩ ∧ b < w.heap.size ∧ ∀ i, i < n → ∃ (cs' : List Value) (f' : Nat) (y : DataW H × List MemPlace), cs'.length = sz ∧ (∀ j, j < sz → w.cell? ⟨b, off + i * sz + j, none⟩ = cs'[j]?) ∧
        DataW.trod enc P w base sp held f' e cs' = some y) := by
  rcases Go.Deep.open_slice ht h with ⟨rfl, rfl⟩ | ⟨a, len, cap, m, n, D, Pl', rfl, _, hl, hm, hmm, rfl, hi⟩
  · exact ⟨none, 0, 0, rfl, Nat.le_refl _, Nat.zero_le _, .inl ⟨rfl, rfl⟩, fun h => absurd h (by omega)⟩
  · rw [hsp, if_pos rfl] at hmm
    subst hmm
    refine ⟨some a, len, m, rfl, hl, hm, .inr ⟨_, _, rfl, by simp, by simp; omega⟩, fun hn => ?_⟩
    obtain ⟨cs0, hc0, _⟩ := hi 0 (by omega)
    obtain ⟨_, hl0, hat0⟩ := World.cells?_some hc0
    rw [hC] at hl0 hat0
    have hz : w.cell? a = cs0[0]? := by
      have := hat0 0 h0
      simpa [Addr.add] using this
    have hz' : w.cell? a = some (cs0[0]'(by omega)) := by rw [hz, List.getElem?_eq_getElem]
    obtain ⟨b, off, spot⟩ := a
    have hspot : spot = none := by simpa [Addr.add] using World.cell?_spot hz'
    subst hspot
    refine ⟨b, off, rfl, World.block_lt_of_cell? _ _ hz', fun i hin => ?_⟩
    obtain ⟨cs', hc', ht'⟩ := hi i (by omega)
    obtain ⟨_, hl', hat⟩ := World.cells?_some hc'
    rw [hC] at hl' hat
    refine ⟨cs', n, _, hl', fun j hj => ?_, ht'⟩
    rw [← hat j hj, Go.WideShapes.add_plain, Go.WideShapes.add_plain]
end

/-- A struct's field, by its type, its place among the cells, its size. -/
theorem field_at {H : Type} {enc : TypeId × Value → H} {P : Program} {w : World} {base : Nat} {sp : Nat → Bool} {held : Bool} {fs : Array Field} {n : Nat} {cs : List Value} {xs : List (DataW H × List MemPlace)}
    (hf : ∀ (i : Nat) (f : Field), fs[i]? = some f → DataW.trod enc P w base sp held n f.type ((cs.drop f.offset).take (P.cellsOf f.type)) = xs[i]?) (hl : xs.length = fs.size)
    (i t o k : Nat) (h : (fs[i]?).map (fun f => (f.type, f.offset)) = some (t, o)) (hk : P.cellsOf t = k) : ∃ y, DataW.trod enc P w base sp held n t ((cs.drop o).take k) = some y := by
  obtain ⟨f, hfi, he⟩ := Option.map_eq_some_iff.1 h
  injection he with h1 h2
  subst h1; subst h2; subst hk
  have hi : i < xs.length := by rw [hl]; exact (Array.getElem?_eq_some_iff.1 hfi).1
  exact ⟨_, (hf i f hfi).trans (List.getElem?_eq_getElem hi)⟩

/-- A record. -/
structure Rec where
  step : Int
  batch : List Int
  rate : Int
  root : Int
  chain : Int

def Rec.none_ : Rec := ⟨0, [], 0, 0, 0⟩
def recAt (rs : List Rec) (j : Nat) : Rec := rs[j]?.getD Rec.none_
theorem recAt_upto (f : Nat → Rec) {k n : Nat} (h : k < n) : recAt (upto f n) k = f k := by
  unfold recAt upto
  rw [List.getElem?_map, List.getElem?_range h]; rfl

/-- A record's five cells. -/
def RecV (w : World) (cs : List Value) (r : Rec) : Prop :=
  ∃ A n c, cs = [.int .i64 r.step, .slice A n c, .int .i64 r.rate, .int .u64 r.root, .int .u64 r.chain] ∧ Ints .i64 w A n r.batch ∧ n ≤ c ∧ c ≤ maxLen ∧
    (Lit.int .i64 r.step).wf = true ∧ (Lit.int .i64 r.rate).wf = true ∧ (Lit.int .u64 r.root).wf = true ∧ (Lit.int .u64 r.chain).wf = true ∧ (∀ z ∈ r.batch, (Lit.int .i64 z).wf = true)

/-- The slice of n records at A reads as rs. -/
structure Recs (w : World) (A : Option Addr) (n : Nat) (rs : List Rec) : Prop where
  len : rs.length = n
  cells : 0 < n → ∃ b off, A = some ⟨b, off, none⟩ ∧ b < w.heap.size ∧ ∀ j, j < n → ∃ cs, RecV w cs (recAt rs j) ∧ ∀ i, i < 5 → w.cell? ⟨b, off + j * 5 + i, none⟩ = cs[i]?

theorem cells_int : Tryz.prog.cellsOf 3 = 1 := by kernel_rfl
theorem cells_u64 : Tryz.prog.cellsOf 22 = 1 := by kernel_rfl
theorem cells_ints : Tryz.prog.cellsOf 26 = 1 := by kernel_rfl

end Go.Proofs.YtaeeonnjkplohaaGreatDoor

/- The frame of every law here: a call that answers true, and turns nothing that was there, meets the given statement. -/
namespace Go.Proofs.YtaeeonnjkplohaaGreatDoor
open Go.ChangeShapes Go.WideShapes Go.ChangeAt Go.RowKit Go.ChangeAt

theorem own : ownKnob Tryz.prog.godebug = none := by kernel_rfl
theorem laidOut : laidOutB Tryz.prog = true := by kernel_rfl

section
variable {H : Type} {enc : TypeId × Value → H} {P : Program}

theorem trodAll_below (hl : laidOutB P = true) {W W' : World} (hb : Below W.heap.size W W') :
    ∀ {ts : List TypeId} {vs : List Value} {ds : List (DataW H)} {ps : List MemPlace}, (ts.all fun t => P.readableRec t && decide (t < P.types.size)) = true →
      DataW.TrodAll enc P W 0 (fun _ => true) true ts vs ds ps → (∀ x ∈ ps, x.block < W.heap.size) → DataW.TrodAll enc P W' 0 (fun b => decide (b < W.heap.size)) true ts vs ds ps
  | [], [], [], _, _, h, _ => h
  | [], _ :: _, _, _, _, h, _ => h.elim
  | [], [], _ :: _, _, _, h, _ => h.elim
  | _ :: _, [], _, _, _, h, _ => h.elim
  | _ :: _, _ :: _, [], _, _, h, _ => h.elim
  | t :: ts, v :: vs, d :: ds, ps, hr, h, hlt => by
    obtain ⟨p, q, h1, h2, rfl⟩ := h
    simp only [List.all_cons, Bool.and_eq_true, decide_eq_true_eq] at hr
    exact ⟨p, q, Below.trod hl hr.1.1 hr.1.2 h1 hb (fun x hx => hlt x (List.mem_append_left _ hx)), trodAll_below hl hb (by simpa using hr.2) h2 (fun x hx => hlt x (List.mem_append_right _ hx)), rfl⟩

theorem post_true {f : Func} {s : ChangeSpec} {W W' : World} {args : Array Value} {ds gs : List (DataW H)} {before : List MemPlace} {tb : TypeId}
    (hl : laidOutB P = true) (hts : (f.params.toList.all fun t => P.readableRec t && decide (t < P.types.size)) = true) (htb : f.resultTypes = #[tb]) (hbool : P.underlying tb = some .bool)
    (hv : s.vars = []) (hsp : s.fn H (ds ++ gs) = { results := [.lit (.bool true)], args := ds })
    (hW : DataW.Whole enc P f.params.toList s.vars false W args.toList ds gs before) (hb : Below W.heap.size W W') :
    s.post enc P f false true false false W args (.bool true) W' := by
  have hlt : ∀ p ∈ before, p.block < W.heap.size := fun p hp => hW.lt p hp
  obtain ⟨p, q, hA, hV, rfl, hfz, hnd⟩ := hW
  have hV' := hV
  rw [hv] at hV
  obtain ⟨rfl, rfl⟩ := trodVars_none hV
  refine ⟨ds, [], p ++ [], [], p, [], ⟨p, [], hA, hV', rfl, hfz, hnd⟩, ?_, ?_, ?_, hb.frame _, fun h => by cases h⟩
  · rw [hsp, htb]
    exact trodAll_cons_mk (shut_bool hbool _) trodAll_mk0
  · rw [hsp]
    exact trodAll_below hl hb hts hA (fun x hx => hlt x (by simpa using hx))
  · rw [hsp, hv]
    rfl
end

set_option maxRecDepth 100000 in
/-- THE STEP FROM A LAW's WALK TO ITS ROW. 'core': whatever reads as the arguments' data, the call answers true, and turns nothing that was there. -/
theorem lift_law {os : Os} (started : os.Started) {H : Type} {enc : TypeId × Value → H} {f : FuncId} {fn : Func} {s : ChangeSpec} {conds : List PathCond}
    (noInit : Tryz.checked.prog.inits.idxOf? f = none) (hfn : Tryz.checked.prog.funcs[f]? = some fn)
    (witness : ∃ (w : World) (tape : Tape) (i : Input), w.os = os ∧ (w.forCall tape i).Shaped Tryz.checked.prog ∧ i.vars = [] ∧ Input.okWide Tryz.checked.prog (w.forCall tape i) .any w.heap.size f i ∧
      s.pre6 enc Tryz.checked.prog fn conds false (w.forCall tape i).memory i.args ∧ Assume.holds {} Tryz.checked.prog (lone (Frame.enter Tryz.checked.prog f i.args .normal) [] (w.forCall tape i)))
    (hts : (fn.params.toList.all fun t => Tryz.checked.prog.readableRec t && decide (t < Tryz.checked.prog.types.size)) = true) {tb : TypeId} (htb : fn.resultTypes = #[tb]) (hbool : Tryz.checked.prog.underlying tb = some .bool)
    (hv : s.vars = []) (hsp : ∀ ds : List (DataW H), ds.length = fn.params.toList.length → s.fn H ds = { results := [.lit (.bool true)], args := ds })
    (core : ∀ (W : World) (args : Array Value) (ds : List (DataW H)) (ps : List MemPlace), DataW.TrodAll enc Tryz.prog W 0 (fun _ => true) true fn.params.toList args.toList ds ps → (∀ x ∈ ps, x.block < W.heap.size) →
      (∀ (j : Nat) t v, fn.params[j]? = some t → args[j]? = some v → ∃ base, Value.okWide Tryz.prog W .any base t v) →
      (DataW.weightsEach Tryz.prog fn.params.toList ds).all (· ≤ reachBytes) = true →
      Calls Tryz.prog f args W fun e W' => e = .returned (.bool true) ∧ Below W.heap.size W W') :
    ReturnsInHanded {} Tryz.checked os f .any (s.pre6 enc Tryz.checked.prog fn conds false) (s.post enc Tryz.checked.prog fn false true false false) := by
  refine returnsInHanded_of_change_sized own started noInit hfn witness ?_
  intro W base args ds gs before hval hW _ hsz _
  have hW' := hW
  obtain ⟨p, q, hA, hV, rfl, hfz, hnd⟩ := hW
  have hV' := hV
  rw [hv] at hV
  obtain ⟨rfl, rfl⟩ := trodVars_none hV
  have hlen : ds.length = fn.params.toList.length := (trodAll_length hA).2
  have e0 : s.plain.varTypes Tryz.checked.prog = [] := by
    show s.vars.filterMap _ = []
    rw [hv]; rfl
  rw [e0, List.append_nil, List.append_nil] at hsz
  refine (core W args ds p hA (fun x hx => hW'.lt x (by simpa using hx)) (fun j t v h1 h2 => ⟨base, hval j t v h1 h2⟩) hsz).mono fun e W' ⟨he, hb⟩ => ⟨_, he, ?_⟩
  exact post_true laidOut hts htb hbool hv (by rw [List.append_nil]; exact hsp ds hlen) hW' hb
end Go.Proofs.YtaeeonnjkplohaaGreatDoor

/- Arguments that came in, opened, a lemma for each type: numbers, lists of numbers, matrices, pupils, examples, configs, states. -/
namespace Go.Proofs.YtaeeonnjkplohaaGreatDoor
open Go.ChangeShapes Go.WideShapes Go.RowKit Pl

section
variable {H : Type} {enc : TypeId × Value → H} {w : World} {base : Nat} {sp : Nat → Bool} {held : Bool}

set_option maxRecDepth 100000 in
theorem arg_int {r : Reach} {b : Nat} {v : Value} {d : DataW H} {p : List MemPlace} (hv : Value.okWide Tryz.prog w r b 3 v) (h : DataW.Trod enc Tryz.prog w base sp held 3 v d p) :
    ∃ n : Int, v = .int .i64 n ∧ (Lit.int .i64 n).wf = true := by
  obtain ⟨n, rfl⟩ := okWide_int Tryz.underlying3 hv
  obtain ⟨f, h⟩ := h
  obtain ⟨m, e, _, hw⟩ := DataW.trod_int Tryz.underlying3 h
  have e' : Value.int .i64 n = .int .i64 m := by simpa [Value.cells] using e
  injection e' with _ e'
  subst e'
  exact ⟨n, rfl, hw⟩

set_option maxRecDepth 100000 in
theorem arg_u64 {r : Reach} {b : Nat} {v : Value} {d : DataW H} {p : List MemPlace} (hv : Value.okWide Tryz.prog w r b 22 v) (h : DataW.Trod enc Tryz.prog w base sp held 22 v d p) :
    ∃ n : Int, v = .int .u64 n ∧ (Lit.int .u64 n).wf = true := by
  obtain ⟨n, rfl⟩ := okWide_int Tryz.underlying22 hv
  obtain ⟨f, h⟩ := h
  obtain ⟨m, e, _, hw⟩ := DataW.trod_int Tryz.underlying22 h
  have e' : Value.int .u64 n = .int .u64 m := by simpa [Value.cells] using e
  injection e' with _ e'
  subst e'
  exact ⟨n, rfl, hw⟩

set_option maxRecDepth 100000 in
theorem arg_ints {r : Reach} {b : Nat} {v : Value} {d : DataW H} {p : List MemPlace} (hsp : ∀ b, sp b = true) (hv : Value.okWide Tryz.prog w r b 26 v) (h : DataW.Trod enc Tryz.prog w base sp held 26 v d p) :
    ∃ (A : Option Addr) (n c : Nat) (xs : List Int), v = .slice A n c ∧ Ints .i64 w A n xs ∧ n ≤ c ∧ c ≤ maxLen ∧ (∀ z ∈ xs, (Lit.int .i64 z).wf = true) := by
  obtain ⟨A, n, c, rfl⟩ := okWide_slice Tryz.underlying26 hv
  obtain ⟨f, h⟩ := h
  obtain ⟨A', n', c', xs, e, hI, h1, h2, h3, _⟩ := open_Ints (k := .i64) Tryz.underlying26 Tryz.underlying3 cells_int hsp h
  have e' : Value.slice A n c = .slice A' n' c' := by simpa [Value.cells] using e
  injection e' with e1 e2 e3
  subst e1; subst e2; subst e3
  exact ⟨A, n, c, xs, rfl, hI, h1, h2, h3⟩

set_option maxRecDepth 100000 in
theorem arg_u64s {r : Reach} {b : Nat} {v : Value} {d : DataW H} {p : List MemPlace} (hsp : ∀ b, sp b = true) (hv : Value.okWide Tryz.prog w r b 99 v) (h : DataW.Trod enc Tryz.prog w base sp held 99 v d p) :
    ∃ (A : Option Addr) (n c : Nat) (xs : List Int), v = .slice A n c ∧ Ints .u64 w A n xs ∧ n ≤ c ∧ c ≤ maxLen ∧ (∀ z ∈ xs, (Lit.int .u64 z).wf = true) := by
  obtain ⟨A, n, c, rfl⟩ := okWide_slice Tryz.underlying99 hv
  obtain ⟨f, h⟩ := h
  obtain ⟨A', n', c', xs, e, hI, h1, h2, h3, _⟩ := open_Ints (k := .u64) Tryz.underlying99 Tryz.underlying22 cells_u64 hsp h
  have e' : Value.slice A n c = .slice A' n' c' := by simpa [Value.cells] using e
  injection e' with e1 e2 e3
  subst e1; subst e2; subst e3
  exact ⟨A, n, c, xs, rfl, hI, h1, h2, h3⟩

/-- A cell with a list of numbers. -/
def IntsV (w : World) (v : Value) (xs : List Int) : Prop := ∃ A n c, v = .slice A n c ∧ Ints .i64 w A n xs ∧ n ≤ c ∧ c ≤ maxLen ∧ (∀ z ∈ xs, (Lit.int .i64 z).wf = true)
set_option maxRecDepth 100000 in
theorem intsV_of {fuel : Nat} {v : Value} {x : DataW H × List MemPlace} (hsp : ∀ b, sp b = true) (h : DataW.trod enc Tryz.prog w base sp held fuel 26 [v] = some x) : ∃ xs, IntsV w v xs := by
  obtain ⟨A', n', c', xs, e, hI, h1, h2, h3, _⟩ := open_Ints (k := .i64) Tryz.underlying26 Tryz.underlying3 cells_int hsp h
  injection e with e _
  exact ⟨xs, A', n', c', e, hI, h1, h2, h3⟩

theorem cells_mat : Tryz.prog.cellsOf 153 = 3 := by kernel_rfl
set_option maxRecDepth 100000 in
theorem open_mat {fuel : Nat} {cs : List Value} {x : DataW H × List MemPlace} (hsp : ∀ b, sp b = true) (h : DataW.trod enc Tryz.prog w base sp held fuel 153 cs = some x) :
    ∃ (r c : Int) (v : Value) (xs : List Int), cs = [.int .i64 r, .int .i64 c, v] ∧ (Lit.int .i64 r).wf = true ∧ (Lit.int .i64 c).wf = true ∧ IntsV w v xs := by
  obtain ⟨xs, n, _, _, hl, hxl, hf⟩ := DataW.trod_struct Tryz.underlying153 h
  rw [cells_mat] at hl
  match cs, hl with
  | [c0, c1, c2], _ =>
    obtain ⟨y0, f0⟩ := field_at hf hxl 0 3 0 1 rfl cells_int
    obtain ⟨y1, f1⟩ := field_at hf hxl 1 3 1 1 rfl cells_int
    obtain ⟨y2, f2⟩ := field_at hf hxl 2 26 2 1 rfl cells_ints
    simp only [List.drop_zero, List.drop_succ_cons, List.take_succ_cons, List.take_zero] at f0 f1 f2
    obtain ⟨r, k0, _, w0⟩ := DataW.trod_int Tryz.underlying3 f0
    obtain ⟨c, k1, _, w1⟩ := DataW.trod_int Tryz.underlying3 f1
    obtain ⟨zs, hz⟩ := intsV_of hsp f2
    simp only [List.cons.injEq, and_true] at k0 k1
    subst k0; subst k1
    exact ⟨r, c, c2, zs, rfl, w0, w1, hz⟩
set_option maxRecDepth 100000 in
theorem arg_mat {r : Reach} {b : Nat} {v : Value} {d : DataW H} {p : List MemPlace} (hsp : ∀ b, sp b = true) (hv : Value.okWide Tryz.prog w r b 153 v) (h : DataW.Trod enc Tryz.prog w base sp held 153 v d p) :
    ∃ (r c : Int) (A : Option Addr) (n k : Nat) (xs : List Int), v = .agg #[.int .i64 r, .int .i64 c, .slice A n k] ∧ (Lit.int .i64 r).wf = true ∧ (Lit.int .i64 c).wf = true ∧ Ints .i64 w A n xs ∧ n ≤ k ∧ k ≤ maxLen := by
  obtain ⟨cs, rfl, hsz⟩ := okWide_struct Tryz.underlying153 hv
  obtain ⟨f, h⟩ := h
  obtain ⟨r, c, v, xs, e, w0, w1, A, n, k, rfl, hI, h1, h2, _⟩ := open_mat hsp h
  obtain ⟨cs⟩ := cs
  have e' : cs = [.int .i64 r, .int .i64 c, .slice A n k] := e
  subst e'
  exact ⟨r, c, A, n, k, xs, rfl, w0, w1, hI, h1, h2⟩

theorem cells_pup : Tryz.prog.cellsOf 155 = 8 := by kernel_rfl
set_option maxRecDepth 100000 in
theorem arg_pup {r : Reach} {b : Nat} {v : Value} {d : DataW H} {p : List MemPlace} (hsp : ∀ b, sp b = true) (hv : Value.okWide Tryz.prog w r b 155 v) (h : DataW.Trod enc Tryz.prog w base sp held 155 v d p) :
    ∃ (r1 c1 : Int) (A1 : Option Addr) (n1 k1 : Nat) (a1 : List Int) (r2 c2 : Int) (A2 : Option Addr) (n2 k2 : Nat) (a2 : List Int) (B1 : Option Addr) (m1 d1 : Nat) (b1 : List Int) (B2 : Option Addr) (m2 d2 : Nat) (b2 : List Int),
      v = .agg #[.int .i64 r1, .int .i64 c1, .slice A1 n1 k1, .int .i64 r2, .int .i64 c2, .slice A2 n2 k2, .slice B1 m1 d1, .slice B2 m2 d2] ∧
      (Lit.int .i64 r1).wf = true ∧ (Lit.int .i64 c1).wf = true ∧ (Lit.int .i64 r2).wf = true ∧ (Lit.int .i64 c2).wf = true ∧
      (Ints .i64 w A1 n1 a1 ∧ n1 ≤ k1 ∧ k1 ≤ maxLen) ∧ (Ints .i64 w A2 n2 a2 ∧ n2 ≤ k2 ∧ k2 ≤ maxLen) ∧ (Ints .i64 w B1 m1 b1 ∧ m1 ≤ d1 ∧ d1 ≤ maxLen) ∧ (Ints .i64 w B2 m2 b2 ∧ m2 ≤ d2 ∧ d2 ≤ maxLen) := by
  obtain ⟨cs, rfl, hsz⟩ := okWide_struct Tryz.underlying155 hv
  obtain ⟨f, h⟩ := h
  obtain ⟨cs⟩ := cs
  rw [cells_pup] at hsz
  obtain ⟨xs, n, _, _, hl, hxl, hf⟩ := DataW.trod_struct Tryz.underlying155 h
  match cs, hsz with
  | [e0, e1, e2, e3, e4, e5, e6, e7], _ =>
    obtain ⟨y0, f0⟩ := field_at hf hxl 0 153 0 3 rfl cells_mat
    obtain ⟨y1, f1⟩ := field_at hf hxl 1 153 3 3 rfl cells_mat
    obtain ⟨y2, f2⟩ := field_at hf hxl 2 26 6 1 rfl cells_ints
    obtain ⟨y3, f3⟩ := field_at hf hxl 3 26 7 1 rfl cells_ints
    simp only [Value.cells, List.drop_zero, List.drop_succ_cons, List.take_succ_cons, List.take_zero] at f0 f1 f2 f3
    obtain ⟨r1, c1, v1, a1, q1, w1, w2, A1, n1, k1, rfl, i1, i2, i3, _⟩ := open_mat hsp f0
    obtain ⟨r2, c2, v2, a2, q2, w3, w4, A2, n2, k2, rfl, j1, j2, j3, _⟩ := open_mat hsp f1
    obtain ⟨b1, B1, m1, d1, rfl, s1, s2, s3, _⟩ := intsV_of hsp f2
    obtain ⟨b2, B2, m2, d2, rfl, t1, t2, t3, _⟩ := intsV_of hsp f3
    simp only [List.cons.injEq, and_true] at q1 q2
    obtain ⟨rfl, rfl, rfl⟩ := q1
    obtain ⟨rfl, rfl, rfl⟩ := q2
    exact ⟨r1, c1, A1, n1, k1, a1, r2, c2, A2, n2, k2, a2, B1, m1, d1, b1, B2, m2, d2, b2, rfl, w1, w2, w3, w4, ⟨i1, i2, i3⟩, ⟨j1, j2, j3⟩, ⟨s1, s2, s3⟩, ⟨t1, t2, t3⟩⟩

theorem cells_state : Tryz.prog.cellsOf 61 = 2 := by kernel_rfl
set_option maxRecDepth 100000 in
theorem arg_state {r : Reach} {b : Nat} {v : Value} {d : DataW H} {p : List MemPlace} (hsp : ∀ b, sp b = true) (hv : Value.okWide Tryz.prog w r b 61 v) (h : DataW.Trod enc Tryz.prog w base sp held 61 v d p) :
    ∃ (B1 : Option Addr) (m1 d1 : Nat) (b1 : List Int) (B2 : Option Addr) (m2 d2 : Nat) (b2 : List Int), v = .agg #[.slice B1 m1 d1, .slice B2 m2 d2] ∧
      (Ints .i64 w B1 m1 b1 ∧ m1 ≤ d1 ∧ d1 ≤ maxLen ∧ ∀ z ∈ b1, (Lit.int .i64 z).wf = true) ∧ (Ints .i64 w B2 m2 b2 ∧ m2 ≤ d2 ∧ d2 ≤ maxLen ∧ ∀ z ∈ b2, (Lit.int .i64 z).wf = true) := by
  obtain ⟨cs, rfl, hsz⟩ := okWide_struct Tryz.underlying61 hv
  obtain ⟨f, h⟩ := h
  obtain ⟨cs⟩ := cs
  rw [cells_state] at hsz
  obtain ⟨xs, n, _, _, hl, hxl, hf⟩ := DataW.trod_struct Tryz.underlying61 h
  match cs, hsz with
  | [e0, e1], _ =>
    obtain ⟨y2, f2⟩ := field_at hf hxl 0 26 0 1 rfl cells_ints
    obtain ⟨y3, f3⟩ := field_at hf hxl 1 26 1 1 rfl cells_ints
    simp only [Value.cells, List.drop_zero, List.drop_succ_cons, List.take_succ_cons, List.take_zero] at f2 f3
    obtain ⟨b1, B1, m1, d1, rfl, s1, s2, s3, s4⟩ := intsV_of hsp f2
    obtain ⟨b2, B2, m2, d2, rfl, t1, t2, t3, t4⟩ := intsV_of hsp f3
    exact ⟨B1, m1, d1, b1, B2, m2, d2, b2, rfl, ⟨s1, s2, s3, s4⟩, ⟨t1, t2, t3, t4⟩⟩

theorem cells_cfg : Tryz.prog.cellsOf 24 = 11 := by kernel_rfl
/-- The numbers of a config. -/
structure Cfg where
  (ci ch co seed batch steps rate decay how keep clip : Int)
def Cfg.cells (c : Cfg) : Array Value := #[.int .i64 c.ci, .int .i64 c.ch, .int .i64 c.co, .int .u64 c.seed, .int .i64 c.batch, .int .i64 c.steps, .int .i64 c.rate, .int .i64 c.decay, .int .i64 c.how, .int .i64 c.keep, .int .i64 c.clip]
def Cfg.wf (c : Cfg) : Prop := (Lit.int .i64 c.ci).wf = true ∧ (Lit.int .i64 c.ch).wf = true ∧ (Lit.int .i64 c.co).wf = true ∧ (Lit.int .u64 c.seed).wf = true ∧ (Lit.int .i64 c.batch).wf = true ∧ (Lit.int .i64 c.steps).wf = true ∧
  (Lit.int .i64 c.rate).wf = true ∧ (Lit.int .i64 c.decay).wf = true ∧ (Lit.int .i64 c.how).wf = true ∧ (Lit.int .i64 c.keep).wf = true ∧ (Lit.int .i64 c.clip).wf = true
set_option maxRecDepth 100000 in
theorem arg_cfg {r : Reach} {b : Nat} {v : Value} {d : DataW H} {p : List MemPlace} (hv : Value.okWide Tryz.prog w r b 24 v) (h : DataW.Trod enc Tryz.prog w base sp held 24 v d p) :
    ∃ c : Cfg, v = .agg c.cells ∧ c.wf := by
  obtain ⟨cs, rfl, hsz⟩ := okWide_struct Tryz.underlying24 hv
  obtain ⟨f, h⟩ := h
  obtain ⟨cs⟩ := cs
  rw [cells_cfg] at hsz
  obtain ⟨xs, n, _, _, hl, hxl, hf⟩ := DataW.trod_struct Tryz.underlying24 h
  match cs, hsz with
  | [e0, e1, e2, e3, e4, e5, e6, e7, e8, e9, e10], _ =>
    obtain ⟨y0, f0⟩ := field_at hf hxl 0 3 0 1 rfl cells_int
    obtain ⟨y1, f1⟩ := field_at hf hxl 1 3 1 1 rfl cells_int
    obtain ⟨y2, f2⟩ := field_at hf hxl 2 3 2 1 rfl cells_int
    obtain ⟨y3, f3⟩ := field_at hf hxl 3 22 3 1 rfl cells_u64
    obtain ⟨y4, f4⟩ := field_at hf hxl 4 3 4 1 rfl cells_int
    obtain ⟨y5, f5⟩ := field_at hf hxl 5 3 5 1 rfl cells_int
    obtain ⟨y6, f6⟩ := field_at hf hxl 6 3 6 1 rfl cells_int
    obtain ⟨y7, f7⟩ := field_at hf hxl 7 3 7 1 rfl cells_int
    obtain ⟨y8, f8⟩ := field_at hf hxl 8 3 8 1 rfl cells_int
    obtain ⟨y9, f9⟩ := field_at hf hxl 9 3 9 1 rfl cells_int
    obtain ⟨ya, fa⟩ := field_at hf hxl 10 3 10 1 rfl cells_int
    simp only [Value.cells, List.drop_zero, List.drop_succ_cons, List.take_succ_cons, List.take_zero] at f0 f1 f2 f3 f4 f5 f6 f7 f8 f9 fa
    obtain ⟨x0, k0, _, w0⟩ := DataW.trod_int Tryz.underlying3 f0
    obtain ⟨x1, k1, _, w1⟩ := DataW.trod_int Tryz.underlying3 f1
    obtain ⟨x2, k2, _, w2⟩ := DataW.trod_int Tryz.underlying3 f2
    obtain ⟨x3, k3, _, w3⟩ := DataW.trod_int Tryz.underlying22 f3
    obtain ⟨x4, k4, _, w4⟩ := DataW.trod_int Tryz.underlying3 f4
    obtain ⟨x5, k5, _, w5⟩ := DataW.trod_int Tryz.underlying3 f5
    obtain ⟨x6, k6, _, w6⟩ := DataW.trod_int Tryz.underlying3 f6
    obtain ⟨x7, k7, _, w7⟩ := DataW.trod_int Tryz.underlying3 f7
    obtain ⟨x8, k8, _, w8⟩ := DataW.trod_int Tryz.underlying3 f8
    obtain ⟨x9, k9, _, w9⟩ := DataW.trod_int Tryz.underlying3 f9
    obtain ⟨xa, ka, _, wa⟩ := DataW.trod_int Tryz.underlying3 fa
    simp only [List.cons.injEq, and_true] at k0 k1 k2 k3 k4 k5 k6 k7 k8 k9 ka
    subst k0; subst k1; subst k2; subst k3; subst k4; subst k5; subst k6; subst k7; subst k8; subst k9; subst ka
    exact ⟨⟨x0, x1, x2, x3, x4, x5, x6, x7, x8, x9, xa⟩, rfl, w0, w1, w2, w3, w4, w5, w6, w7, w8, w9, wa⟩
end

theorem wf_i64 {n : Int} (h : (Lit.int .i64 n).wf = true) : -9223372036854775808 ≤ n ∧ n ≤ 9223372036854775807 := by
  simp [Lit.wf, IntKind.min, IntKind.max, IntKind.signed, IntKind.bits] at h
  omega
theorem wf_u64 {n : Int} (h : (Lit.int .u64 n).wf = true) : 0 ≤ n ∧ n ≤ 18446744073709551615 := by
  simp [Lit.wf, IntKind.min, IntKind.max, IntKind.signed, IntKind.bits] at h
  omega
end Go.Proofs.YtaeeonnjkplohaaGreatDoor
