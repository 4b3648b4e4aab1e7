/- Arguments that came in, opened: structs of one-cell fields, slices of structs; records. -/
import Derived.Test.YtblkpibbcapdeaaDoorMem
import Derived.Deep.Slices
import Derived.Test.YtblkpibbcapdeaaDoorRows
import Derived.WalkKit
import Derived.ProofKit
import Derived.OpenShut
import Derived.ChangeCalls
import Derived.SizedLaws
import Derived.JoinedCond
import Derived.Deep.CondSized
namespace Go.Proofs.YtblkpibbcapdeaaDoor
open Go.RowKit Pl

section
variable {H : Type} {enc : TypeId × Value → H} {P : Program} {w : World} {base : Nat} {sp : Nat → Bool} {held : Bool}
/-- A slice of elements of sz cells that came in. -/
theorem open_rows {t e sz : Nat} {fuel : Nat} {cs : List Value} {x : DataW H × List MemPlace} (ht : P.underlying t = some (.slice e)) (hC : P.cellsOf e = sz) (h0 : 0 < sz) (hsp : ∀ b, sp b = true)
    (h : DataW.trod enc P w base sp held fuel t cs = some x) :
    ∃ (A : Option Addr) (n c : Nat), cs = [.slice A n c] ∧ n ≤ c ∧ c ≤ maxLen ∧ ((x.1 = .nil ∧ n = 0) ∨ ∃ ys zs, x.1 = .slice ys zs ∧ ys.length = n ∧ ys.length + zs.length = c) ∧
      (0 < n → ∃ b off, A = some ⟨b, off, none⟩ ∧ b < w.heap.size ∧ ∀ i, i < n → ∃ (cs' : List Value) (f' : Nat) (y : DataW H × List MemPlace), cs'.length = sz ∧ (∀ j, j < sz → w.cell? ⟨b, off + i * sz + j, none⟩ = cs'[j]?) ∧
        DataW.trod enc P w base sp held f' e cs' = some y) := by
  rcases Go.Deep.open_slice ht h with ⟨rfl, rfl⟩ | ⟨a, len, cap, m, n, D, Pl', rfl, _, hl, hm, hmm, rfl, hi⟩
  · exact ⟨none, 0, 0, rfl, Nat.le_refl _, Nat.zero_le _, .inl ⟨rfl, rfl⟩, fun h => absurd h (by omega)⟩
  · rw [hsp, if_pos rfl] at hmm
    subst hmm
    refine ⟨some a, len, m, rfl, hl, hm, .inr ⟨_, _, rfl, by simp, by simp; omega⟩, fun hn => ?_⟩
    obtain ⟨cs0, hc0, _⟩ := hi 0 (by omega)
    obtain ⟨_, hl0, hat0⟩ := World.cells?_some hc0
    rw [hC] at hl0 hat0
    have hz : w.cell? a = cs0[0]? := by
      have := hat0 0 h0
      simpa [Addr.add] using this
    have hz' : w.cell? a = some (cs0[0]'(by omega)) := by rw [hz, List.getElem?_eq_getElem]
    obtain ⟨b, off, spot⟩ := a
    have hspot : spot = none := by simpa [Addr.add] using World.cell?_spot hz'
    subst hspot
    refine ⟨b, off, rfl, World.block_lt_of_cell? _ _ hz', fun i hin => ?_⟩
    obtain ⟨cs', hc', ht'⟩ := hi i (by omega)
    obtain ⟨_, hl', hat⟩ := World.cells?_some hc'
    rw [hC] at hl' hat
    refine ⟨cs', n, _, hl', fun j hj => ?_, ht'⟩
    rw [← hat j hj, Go.WideShapes.add_plain, Go.WideShapes.add_plain]
end

/-- A struct's field, by its type, its place among the cells, its size. -/
theorem field_at {H : Type} {enc : TypeId × Value → H} {P : Program} {w : World} {base : Nat} {sp : Nat → Bool} {held : Bool} {fs : Array Field} {n : Nat} {cs : List Value} {xs : List (DataW H × List MemPlace)}
    (hf : ∀ (i : Nat) (f : Field), fs[i]? = some f → DataW.trod enc P w base sp held n f.type ((cs.drop f.offset).take (P.cellsOf f.type)) = xs[i]?) (hl : xs.length = fs.size)
    (i t o k : Nat) (h : (fs[i]?).map (fun f => (f.type, f.offset)) = some (t, o)) (hk : P.cellsOf t = k) : ∃ y, DataW.trod enc P w base sp held n t ((cs.drop o).take k) = some y := by
  obtain ⟨f, hfi, he⟩ := Option.map_eq_some_iff.1 h
  injection he with h1 h2
  subst h1; subst h2; subst hk
  have hi : i < xs.length := by rw [hl]; exact (Array.getElem?_eq_some_iff.1 hfi).1
  exact ⟨_, (hf i f hfi).trans (List.getElem?_eq_getElem hi)⟩

/-- A record. -/
structure Rec where
  step : Int
  batch : List Int
  rate : Int
  root : Int
  chain : Int

def Rec.none_ : Rec := ⟨0, [], 0, 0, 0⟩
def recAt (rs : List Rec) (j : Nat) : Rec := rs[j]?.getD Rec.none_
theorem recAt_upto (f : Nat → Rec) {k n : Nat} (h : k < n) : recAt (upto f n) k = f k := by
  unfold recAt upto
  rw [List.getElem?_map, List.getElem?_range h]; rfl

/-- A record's five cells. -/
def RecV (w : World) (cs : List Value) (r : Rec) : Prop :=
  ∃ A n c, cs = [.int .i64 r.step, .slice A n c, .int .i64 r.rate, .int .u64 r.root, .int .u64 r.chain] ∧ Ints .i64 w A n r.batch ∧ n ≤ c ∧ c ≤ maxLen ∧
    (Lit.int .i64 r.step).wf = true ∧ (Lit.int .i64 r.rate).wf = true ∧ (Lit.int .u64 r.root).wf = true ∧ (Lit.int .u64 r.chain).wf = true ∧ (∀ z ∈ r.batch, (Lit.int .i64 z).wf = true)

/-- The slice of n records at A reads as rs. -/
structure Recs (w : World) (A : Option Addr) (n : Nat) (rs : List Rec) : Prop where
  len : rs.length = n
  cells : 0 < n → ∃ b off, A = some ⟨b, off, none⟩ ∧ b < w.heap.size ∧ ∀ j, j < n → ∃ cs, RecV w cs (recAt rs j) ∧ ∀ i, i < 5 → w.cell? ⟨b, off + j * 5 + i, none⟩ = cs[i]?

theorem cells_int : Tryd.prog.cellsOf 3 = 1 := by kernel_rfl
theorem cells_u64 : Tryd.prog.cellsOf 23 = 1 := by kernel_rfl
theorem cells_ints : Tryd.prog.cellsOf 22 = 1 := by kernel_rfl

end Go.Proofs.YtblkpibbcapdeaaDoor

/- The frame of every law here: a call that answers true, and turns nothing that was there, meets the given statement. -/
namespace Go.Proofs.YtblkpibbcapdeaaDoor
open Go.ChangeShapes Go.WideShapes Go.ChangeAt Go.RowKit Go.ChangeAt

theorem own : ownKnob Tryd.prog.godebug = none := by kernel_rfl
theorem laidOut : laidOutB Tryd.prog = true := by kernel_rfl

section
variable {H : Type} {enc : TypeId × Value → H} {P : Program}

theorem trodAll_below (hl : laidOutB P = true) {W W' : World} (hb : Below W.heap.size W W') :
    ∀ {ts : List TypeId} {vs : List Value} {ds : List (DataW H)} {ps : List MemPlace}, (ts.all fun t => P.readableRec t && decide (t < P.types.size)) = true →
      DataW.TrodAll enc P W 0 (fun _ => true) true ts vs ds ps → (∀ x ∈ ps, x.block < W.heap.size) → DataW.TrodAll enc P W' 0 (fun b => decide (b < W.heap.size)) true ts vs ds ps
  | [], [], [], _, _, h, _ => h
  | [], _ :: _, _, _, _, h, _ => h.elim
  | [], [], _ :: _, _, _, h, _ => h.elim
  | _ :: _, [], _, _, _, h, _ => h.elim
  | _ :: _, _ :: _, [], _, _, h, _ => h.elim
  | t :: ts, v :: vs, d :: ds, ps, hr, h, hlt => by
    obtain ⟨p, q, h1, h2, rfl⟩ := h
    simp only [List.all_cons, Bool.and_eq_true, decide_eq_true_eq] at hr
    exact ⟨p, q, Below.trod hl hr.1.1 hr.1.2 h1 hb (fun x hx => hlt x (List.mem_append_left _ hx)), trodAll_below hl hb (by simpa using hr.2) h2 (fun x hx => hlt x (List.mem_append_right _ hx)), rfl⟩

theorem post_true {f : Func} {s : ChangeSpec} {W W' : World} {args : Array Value} {ds gs : List (DataW H)} {before : List MemPlace} {tb : TypeId}
    (hl : laidOutB P = true) (hts : (f.params.toList.all fun t => P.readableRec t && decide (t < P.types.size)) = true) (htb : f.resultTypes = #[tb]) (hbool : P.underlying tb = some .bool)
    (hv : s.vars = []) (hsp : s.fn H (ds ++ gs) = { results := [.lit (.bool true)], args := ds })
    (hW : DataW.Whole enc P f.params.toList s.vars false W args.toList ds gs before) (hb : Below W.heap.size W W') :
    s.post enc P f false true false false W args (.bool true) W' := by
  have hlt : ∀ p ∈ before, p.block < W.heap.size := fun p hp => hW.lt p hp
  obtain ⟨p, q, hA, hV, rfl, hfz, hnd⟩ := hW
  have hV' := hV
  rw [hv] at hV
  obtain ⟨rfl, rfl⟩ := trodVars_none hV
  refine ⟨ds, [], p ++ [], [], p, [], ⟨p, [], hA, hV', rfl, hfz, hnd⟩, ?_, ?_, ?_, hb.frame _, fun h => by cases h⟩
  · rw [hsp, htb]
    exact trodAll_cons_mk (shut_bool hbool _) trodAll_mk0
  · rw [hsp]
    exact trodAll_below hl hb hts hA (fun x hx => hlt x (by simpa using hx))
  · rw [hsp, hv]
    rfl
end

set_option maxRecDepth 100000 in
/-- THE STEP FROM A LAW's WALK TO ITS ROW. 'core': whatever reads as the arguments' data, the call answers true, and turns nothing that was there. -/
theorem lift_law {os : Os} (started : os.Started) {H : Type} {enc : TypeId × Value → H} {f : FuncId} {fn : Func} {s : ChangeSpec} {conds : List PathCond}
    (noInit : Tryd.checked.prog.inits.idxOf? f = none) (hfn : Tryd.checked.prog.funcs[f]? = some fn)
    (witness : ∃ (w : World) (tape : Tape) (i : Input), w.os = os ∧ (w.forCall tape i).Shaped Tryd.checked.prog ∧ i.vars = [] ∧ Input.okWide Tryd.checked.prog (w.forCall tape i) .any w.heap.size f i ∧
      s.pre6 enc Tryd.checked.prog fn conds false (w.forCall tape i).memory i.args ∧ Assume.holds {} Tryd.checked.prog (lone (Frame.enter Tryd.checked.prog f i.args .normal) [] (w.forCall tape i)))
    (hts : (fn.params.toList.all fun t => Tryd.checked.prog.readableRec t && decide (t < Tryd.checked.prog.types.size)) = true) {tb : TypeId} (htb : fn.resultTypes = #[tb]) (hbool : Tryd.checked.prog.underlying tb = some .bool)
    (hv : s.vars = []) (hsp : ∀ ds : List (DataW H), ds.length = fn.params.toList.length → s.fn H ds = { results := [.lit (.bool true)], args := ds })
    (core : ∀ (W : World) (args : Array Value) (ds : List (DataW H)) (ps : List MemPlace), DataW.TrodAll enc Tryd.prog W 0 (fun _ => true) true fn.params.toList args.toList ds ps → (∀ x ∈ ps, x.block < W.heap.size) →
      (∀ (j : Nat) t v, fn.params[j]? = some t → args[j]? = some v → ∃ base, Value.okWide Tryd.prog W .any base t v) →
      (DataW.weightsEach Tryd.prog fn.params.toList ds).all (· ≤ reachBytes) = true →
      Calls Tryd.prog f args W fun e W' => e = .returned (.bool true) ∧ Below W.heap.size W W') :
    ReturnsInHanded {} Tryd.checked os f .any (s.pre6 enc Tryd.checked.prog fn conds false) (s.post enc Tryd.checked.prog fn false true false false) := by
  refine returnsInHanded_of_change_sized own started noInit hfn witness ?_
  intro W base args ds gs before hval hW _ hsz _
  have hW' := hW
  obtain ⟨p, q, hA, hV, rfl, hfz, hnd⟩ := hW
  have hV' := hV
  rw [hv] at hV
  obtain ⟨rfl, rfl⟩ := trodVars_none hV
  have hlen : ds.length = fn.params.toList.length := (trodAll_length hA).2
  have e0 : s.plain.varTypes Tryd.checked.prog = [] := by
    show s.vars.filterMap _ = []
    rw [hv]; rfl
  rw [e0, List.append_nil, List.append_nil] at hsz
  refine (core W args ds p hA (fun x hx => hW'.lt x (by simpa using hx)) (fun j t v h1 h2 => ⟨base, hval j t v h1 h2⟩) hsz).mono fun e W' ⟨he, hb⟩ => ⟨_, he, ?_⟩
  exact post_true laidOut hts htb hbool hv (by rw [List.append_nil]; exact hsp ds hlen) hW' hb
end Go.Proofs.YtblkpibbcapdeaaDoor

/- Arguments that came in, opened, a lemma for each type: numbers, lists of numbers, matrices, pupils, examples, configs, states. -/
namespace Go.Proofs.YtblkpibbcapdeaaDoor
open Go.ChangeShapes Go.WideShapes Go.RowKit Pl

section
variable {H : Type} {enc : TypeId × Value → H} {w : World} {base : Nat} {sp : Nat → Bool} {held : Bool}

set_option maxRecDepth 100000 in
theorem arg_int {r : Reach} {b : Nat} {v : Value} {d : DataW H} {p : List MemPlace} (hv : Value.okWide Tryd.prog w r b 3 v) (h : DataW.Trod enc Tryd.prog w base sp held 3 v d p) :
    ∃ n : Int, v = .int .i64 n ∧ (Lit.int .i64 n).wf = true := by
  obtain ⟨n, rfl⟩ := okWide_int Tryd.underlying3 hv
  obtain ⟨f, h⟩ := h
  obtain ⟨m, e, _, hw⟩ := DataW.trod_int Tryd.underlying3 h
  have e' : Value.int .i64 n = .int .i64 m := by simpa [Value.cells] using e
  injection e' with _ e'
  subst e'
  exact ⟨n, rfl, hw⟩

set_option maxRecDepth 100000 in
theorem arg_u64 {r : Reach} {b : Nat} {v : Value} {d : DataW H} {p : List MemPlace} (hv : Value.okWide Tryd.prog w r b 23 v) (h : DataW.Trod enc Tryd.prog w base sp held 23 v d p) :
    ∃ n : Int, v = .int .u64 n ∧ (Lit.int .u64 n).wf = true := by
  obtain ⟨n, rfl⟩ := okWide_int Tryd.underlying23 hv
  obtain ⟨f, h⟩ := h
  obtain ⟨m, e, _, hw⟩ := DataW.trod_int Tryd.underlying23 h
  have e' : Value.int .u64 n = .int .u64 m := by simpa [Value.cells] using e
  injection e' with _ e'
  subst e'
  exact ⟨n, rfl, hw⟩

set_option maxRecDepth 100000 in
theorem arg_ints {r : Reach} {b : Nat} {v : Value} {d : DataW H} {p : List MemPlace} (hsp : ∀ b, sp b = true) (hv : Value.okWide Tryd.prog w r b 22 v) (h : DataW.Trod enc Tryd.prog w base sp held 22 v d p) :
    ∃ (A : Option Addr) (n c : Nat) (xs : List Int), v = .slice A n c ∧ Ints .i64 w A n xs ∧ n ≤ c ∧ c ≤ maxLen ∧ (∀ z ∈ xs, (Lit.int .i64 z).wf = true) := by
  obtain ⟨A, n, c, rfl⟩ := okWide_slice Tryd.underlying22 hv
  obtain ⟨f, h⟩ := h
  obtain ⟨A', n', c', xs, e, hI, h1, h2, h3, _⟩ := open_Ints (k := .i64) Tryd.underlying22 Tryd.underlying3 cells_int hsp h
  have e' : Value.slice A n c = .slice A' n' c' := by simpa [Value.cells] using e
  injection e' with e1 e2 e3
  subst e1; subst e2; subst e3
  exact ⟨A, n, c, xs, rfl, hI, h1, h2, h3⟩

set_option maxRecDepth 100000 in
theorem arg_u64s {r : Reach} {b : Nat} {v : Value} {d : DataW H} {p : List MemPlace} (hsp : ∀ b, sp b = true) (hv : Value.okWide Tryd.prog w r b 60 v) (h : DataW.Trod enc Tryd.prog w base sp held 60 v d p) :
    ∃ (A : Option Addr) (n c : Nat) (xs : List Int), v = .slice A n c ∧ Ints .u64 w A n xs ∧ n ≤ c ∧ c ≤ maxLen ∧ (∀ z ∈ xs, (Lit.int .u64 z).wf = true) := by
  obtain ⟨A, n, c, rfl⟩ := okWide_slice Tryd.underlying60 hv
  obtain ⟨f, h⟩ := h
  obtain ⟨A', n', c', xs, e, hI, h1, h2, h3, _⟩ := open_Ints (k := .u64) Tryd.underlying60 Tryd.underlying23 cells_u64 hsp h
  have e' : Value.slice A n c = .slice A' n' c' := by simpa [Value.cells] using e
  injection e' with e1 e2 e3
  subst e1; subst e2; subst e3
  exact ⟨A, n, c, xs, rfl, hI, h1, h2, h3⟩

/-- A cell with a list of numbers. -/
def IntsV (w : World) (v : Value) (xs : List Int) : Prop := ∃ A n c, v = .slice A n c ∧ Ints .i64 w A n xs ∧ n ≤ c ∧ c ≤ maxLen ∧ (∀ z ∈ xs, (Lit.int .i64 z).wf = true)
set_option maxRecDepth 100000 in
theorem intsV_of {fuel : Nat} {v : Value} {x : DataW H × List MemPlace} (hsp : ∀ b, sp b = true) (h : DataW.trod enc Tryd.prog w base sp held fuel 22 [v] = some x) : ∃ xs, IntsV w v xs := by
  obtain ⟨A', n', c', xs, e, hI, h1, h2, h3, _⟩ := open_Ints (k := .i64) Tryd.underlying22 Tryd.underlying3 cells_int hsp h
  injection e with e _
  exact ⟨xs, A', n', c', e, hI, h1, h2, h3⟩




end

theorem wf_i64 {n : Int} (h : (Lit.int .i64 n).wf = true) : -9223372036854775808 ≤ n ∧ n ≤ 9223372036854775807 := by
  simp [Lit.wf, IntKind.min, IntKind.max, IntKind.signed, IntKind.bits] at h
  omega
theorem wf_u64 {n : Int} (h : (Lit.int .u64 n).wf = true) : 0 ≤ n ∧ n ≤ 18446744073709551615 := by
  simp [Lit.wf, IntKind.min, IntKind.max, IntKind.signed, IntKind.bits] at h
  omega
end Go.Proofs.YtblkpibbcapdeaaDoor
