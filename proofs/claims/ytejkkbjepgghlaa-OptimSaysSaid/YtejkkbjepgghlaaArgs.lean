/- Arguments that came in, opened, a lemma for each type: numbers, lists of numbers, matrices, pupils, examples, configs, states. -/
import Derived.Test.YtejkkbjepgghlaaOpen
import Derived.Test.YtejkkbjepgghlaaFrame
namespace Go.Proofs.Ytejkkbjepgghlaa
open Go.ChangeShapes Go.WideShapes Go.RowKit Pl

section
variable {H : Type} {enc : TypeId × Value → H} {w : World} {base : Nat} {sp : Nat → Bool} {held : Bool}

set_option maxRecDepth 100000 in
theorem arg_int {r : Reach} {b : Nat} {v : Value} {d : DataW H} {p : List MemPlace} (hv : Value.okWide Try.prog w r b 3 v) (h : DataW.Trod enc Try.prog w base sp held 3 v d p) :
    ∃ n : Int, v = .int .i64 n ∧ (Lit.int .i64 n).wf = true := by
  obtain ⟨n, rfl⟩ := okWide_int Try.underlying3 hv
  obtain ⟨f, h⟩ := h
  obtain ⟨m, e, _, hw⟩ := DataW.trod_int Try.underlying3 h
  have e' : Value.int .i64 n = .int .i64 m := by simpa [Value.cells] using e
  injection e' with _ e'
  subst e'
  exact ⟨n, rfl, hw⟩

set_option maxRecDepth 100000 in
theorem arg_u64 {r : Reach} {b : Nat} {v : Value} {d : DataW H} {p : List MemPlace} (hv : Value.okWide Try.prog w r b 22 v) (h : DataW.Trod enc Try.prog w base sp held 22 v d p) :
    ∃ n : Int, v = .int .u64 n ∧ (Lit.int .u64 n).wf = true := by
  obtain ⟨n, rfl⟩ := okWide_int Try.underlying22 hv
  obtain ⟨f, h⟩ := h
  obtain ⟨m, e, _, hw⟩ := DataW.trod_int Try.underlying22 h
  have e' : Value.int .u64 n = .int .u64 m := by simpa [Value.cells] using e
  injection e' with _ e'
  subst e'
  exact ⟨n, rfl, hw⟩

set_option maxRecDepth 100000 in
theorem arg_ints {r : Reach} {b : Nat} {v : Value} {d : DataW H} {p : List MemPlace} (hsp : ∀ b, sp b = true) (hv : Value.okWide Try.prog w r b 25 v) (h : DataW.Trod enc Try.prog w base sp held 25 v d p) :
    ∃ (A : Option Addr) (n c : Nat) (xs : List Int), v = .slice A n c ∧ Ints .i64 w A n xs ∧ n ≤ c ∧ c ≤ maxLen ∧ (∀ z ∈ xs, (Lit.int .i64 z).wf = true) := by
  obtain ⟨A, n, c, rfl⟩ := okWide_slice Try.underlying25 hv
  obtain ⟨f, h⟩ := h
  obtain ⟨A', n', c', xs, e, hI, h1, h2, h3, _⟩ := open_Ints (k := .i64) Try.underlying25 Try.underlying3 cells_int hsp h
  have e' : Value.slice A n c = .slice A' n' c' := by simpa [Value.cells] using e
  injection e' with e1 e2 e3
  subst e1; subst e2; subst e3
  exact ⟨A, n, c, xs, rfl, hI, h1, h2, h3⟩

set_option maxRecDepth 100000 in
theorem arg_u64s {r : Reach} {b : Nat} {v : Value} {d : DataW H} {p : List MemPlace} (hsp : ∀ b, sp b = true) (hv : Value.okWide Try.prog w r b 64 v) (h : DataW.Trod enc Try.prog w base sp held 64 v d p) :
    ∃ (A : Option Addr) (n c : Nat) (xs : List Int), v = .slice A n c ∧ Ints .u64 w A n xs ∧ n ≤ c ∧ c ≤ maxLen ∧ (∀ z ∈ xs, (Lit.int .u64 z).wf = true) := by
  obtain ⟨A, n, c, rfl⟩ := okWide_slice Try.underlying64 hv
  obtain ⟨f, h⟩ := h
  obtain ⟨A', n', c', xs, e, hI, h1, h2, h3, _⟩ := open_Ints (k := .u64) Try.underlying64 Try.underlying22 cells_u64 hsp h
  have e' : Value.slice A n c = .slice A' n' c' := by simpa [Value.cells] using e
  injection e' with e1 e2 e3
  subst e1; subst e2; subst e3
  exact ⟨A, n, c, xs, rfl, hI, h1, h2, h3⟩

/-- A cell with a list of numbers. -/
def IntsV (w : World) (v : Value) (xs : List Int) : Prop := ∃ A n c, v = .slice A n c ∧ Ints .i64 w A n xs ∧ n ≤ c ∧ c ≤ maxLen ∧ (∀ z ∈ xs, (Lit.int .i64 z).wf = true)
set_option maxRecDepth 100000 in
theorem intsV_of {fuel : Nat} {v : Value} {x : DataW H × List MemPlace} (hsp : ∀ b, sp b = true) (h : DataW.trod enc Try.prog w base sp held fuel 25 [v] = some x) : ∃ xs, IntsV w v xs := by
  obtain ⟨A', n', c', xs, e, hI, h1, h2, h3, _⟩ := open_Ints (k := .i64) Try.underlying25 Try.underlying3 cells_int hsp h
  injection e with e _
  exact ⟨xs, A', n', c', e, hI, h1, h2, h3⟩

theorem cells_mat : Try.prog.cellsOf 47 = 3 := by kernel_rfl
set_option maxRecDepth 100000 in
theorem open_mat {fuel : Nat} {cs : List Value} {x : DataW H × List MemPlace} (hsp : ∀ b, sp b = true) (h : DataW.trod enc Try.prog w base sp held fuel 47 cs = some x) :
    ∃ (r c : Int) (v : Value) (xs : List Int), cs = [.int .i64 r, .int .i64 c, v] ∧ (Lit.int .i64 r).wf = true ∧ (Lit.int .i64 c).wf = true ∧ IntsV w v xs := by
  obtain ⟨xs, n, _, _, hl, hxl, hf⟩ := DataW.trod_struct Try.underlying47 h
  rw [cells_mat] at hl
  match cs, hl with
  | [c0, c1, c2], _ =>
    obtain ⟨y0, f0⟩ := field_at hf hxl 0 3 0 1 rfl cells_int
    obtain ⟨y1, f1⟩ := field_at hf hxl 1 3 1 1 rfl cells_int
    obtain ⟨y2, f2⟩ := field_at hf hxl 2 25 2 1 rfl cells_ints
    simp only [List.drop_zero, List.drop_succ_cons, List.take_succ_cons, List.take_zero] at f0 f1 f2
    obtain ⟨r, k0, _, w0⟩ := DataW.trod_int Try.underlying3 f0
    obtain ⟨c, k1, _, w1⟩ := DataW.trod_int Try.underlying3 f1
    obtain ⟨zs, hz⟩ := intsV_of hsp f2
    simp only [List.cons.injEq, and_true] at k0 k1
    subst k0; subst k1
    exact ⟨r, c, c2, zs, rfl, w0, w1, hz⟩
set_option maxRecDepth 100000 in
theorem arg_mat {r : Reach} {b : Nat} {v : Value} {d : DataW H} {p : List MemPlace} (hsp : ∀ b, sp b = true) (hv : Value.okWide Try.prog w r b 47 v) (h : DataW.Trod enc Try.prog w base sp held 47 v d p) :
    ∃ (r c : Int) (A : Option Addr) (n k : Nat) (xs : List Int), v = .agg #[.int .i64 r, .int .i64 c, .slice A n k] ∧ (Lit.int .i64 r).wf = true ∧ (Lit.int .i64 c).wf = true ∧ Ints .i64 w A n xs ∧ n ≤ k ∧ k ≤ maxLen := by
  obtain ⟨cs, rfl, hsz⟩ := okWide_struct Try.underlying47 hv
  obtain ⟨f, h⟩ := h
  obtain ⟨r, c, v, xs, e, w0, w1, A, n, k, rfl, hI, h1, h2, _⟩ := open_mat hsp h
  obtain ⟨cs⟩ := cs
  have e' : cs = [.int .i64 r, .int .i64 c, .slice A n k] := e
  subst e'
  exact ⟨r, c, A, n, k, xs, rfl, w0, w1, hI, h1, h2⟩

theorem cells_pup : Try.prog.cellsOf 49 = 8 := by kernel_rfl
set_option maxRecDepth 100000 in
theorem arg_pup {r : Reach} {b : Nat} {v : Value} {d : DataW H} {p : List MemPlace} (hsp : ∀ b, sp b = true) (hv : Value.okWide Try.prog w r b 49 v) (h : DataW.Trod enc Try.prog w base sp held 49 v d p) :
    ∃ (r1 c1 : Int) (A1 : Option Addr) (n1 k1 : Nat) (a1 : List Int) (r2 c2 : Int) (A2 : Option Addr) (n2 k2 : Nat) (a2 : List Int) (B1 : Option Addr) (m1 d1 : Nat) (b1 : List Int) (B2 : Option Addr) (m2 d2 : Nat) (b2 : List Int),
      v = .agg #[.int .i64 r1, .int .i64 c1, .slice A1 n1 k1, .int .i64 r2, .int .i64 c2, .slice A2 n2 k2, .slice B1 m1 d1, .slice B2 m2 d2] ∧
      (Lit.int .i64 r1).wf = true ∧ (Lit.int .i64 c1).wf = true ∧ (Lit.int .i64 r2).wf = true ∧ (Lit.int .i64 c2).wf = true ∧
      (Ints .i64 w A1 n1 a1 ∧ n1 ≤ k1 ∧ k1 ≤ maxLen) ∧ (Ints .i64 w A2 n2 a2 ∧ n2 ≤ k2 ∧ k2 ≤ maxLen) ∧ (Ints .i64 w B1 m1 b1 ∧ m1 ≤ d1 ∧ d1 ≤ maxLen) ∧ (Ints .i64 w B2 m2 b2 ∧ m2 ≤ d2 ∧ d2 ≤ maxLen) := by
  obtain ⟨cs, rfl, hsz⟩ := okWide_struct Try.underlying49 hv
  obtain ⟨f, h⟩ := h
  obtain ⟨cs⟩ := cs
  rw [cells_pup] at hsz
  obtain ⟨xs, n, _, _, hl, hxl, hf⟩ := DataW.trod_struct Try.underlying49 h
  match cs, hsz with
  | [e0, e1, e2, e3, e4, e5, e6, e7], _ =>
    obtain ⟨y0, f0⟩ := field_at hf hxl 0 47 0 3 rfl cells_mat
    obtain ⟨y1, f1⟩ := field_at hf hxl 1 47 3 3 rfl cells_mat
    obtain ⟨y2, f2⟩ := field_at hf hxl 2 25 6 1 rfl cells_ints
    obtain ⟨y3, f3⟩ := field_at hf hxl 3 25 7 1 rfl cells_ints
    simp only [Value.cells, List.drop_zero, List.drop_succ_cons, List.take_succ_cons, List.take_zero] at f0 f1 f2 f3
    obtain ⟨r1, c1, v1, a1, q1, w1, w2, A1, n1, k1, rfl, i1, i2, i3, _⟩ := open_mat hsp f0
    obtain ⟨r2, c2, v2, a2, q2, w3, w4, A2, n2, k2, rfl, j1, j2, j3, _⟩ := open_mat hsp f1
    obtain ⟨b1, B1, m1, d1, rfl, s1, s2, s3, _⟩ := intsV_of hsp f2
    obtain ⟨b2, B2, m2, d2, rfl, t1, t2, t3, _⟩ := intsV_of hsp f3
    simp only [List.cons.injEq, and_true] at q1 q2
    obtain ⟨rfl, rfl, rfl⟩ := q1
    obtain ⟨rfl, rfl, rfl⟩ := q2
    exact ⟨r1, c1, A1, n1, k1, a1, r2, c2, A2, n2, k2, a2, B1, m1, d1, b1, B2, m2, d2, b2, rfl, w1, w2, w3, w4, ⟨i1, i2, i3⟩, ⟨j1, j2, j3⟩, ⟨s1, s2, s3⟩, ⟨t1, t2, t3⟩⟩

theorem cells_state : Try.prog.cellsOf 27 = 2 := by kernel_rfl
set_option maxRecDepth 100000 in
theorem arg_state {r : Reach} {b : Nat} {v : Value} {d : DataW H} {p : List MemPlace} (hsp : ∀ b, sp b = true) (hv : Value.okWide Try.prog w r b 27 v) (h : DataW.Trod enc Try.prog w base sp held 27 v d p) :
    ∃ (B1 : Option Addr) (m1 d1 : Nat) (b1 : List Int) (B2 : Option Addr) (m2 d2 : Nat) (b2 : List Int), v = .agg #[.slice B1 m1 d1, .slice B2 m2 d2] ∧
      (Ints .i64 w B1 m1 b1 ∧ m1 ≤ d1 ∧ d1 ≤ maxLen ∧ ∀ z ∈ b1, (Lit.int .i64 z).wf = true) ∧ (Ints .i64 w B2 m2 b2 ∧ m2 ≤ d2 ∧ d2 ≤ maxLen ∧ ∀ z ∈ b2, (Lit.int .i64 z).wf = true) := by
  obtain ⟨cs, rfl, hsz⟩ := okWide_struct Try.underlying27 hv
  obtain ⟨f, h⟩ := h
  obtain ⟨cs⟩ := cs
  rw [cells_state] at hsz
  obtain ⟨xs, n, _, _, hl, hxl, hf⟩ := DataW.trod_struct Try.underlying27 h
  match cs, hsz with
  | [e0, e1], _ =>
    obtain ⟨y2, f2⟩ := field_at hf hxl 0 25 0 1 rfl cells_ints
    obtain ⟨y3, f3⟩ := field_at hf hxl 1 25 1 1 rfl cells_ints
    simp only [Value.cells, List.drop_zero, List.drop_succ_cons, List.take_succ_cons, List.take_zero] at f2 f3
    obtain ⟨b1, B1, m1, d1, rfl, s1, s2, s3, s4⟩ := intsV_of hsp f2
    obtain ⟨b2, B2, m2, d2, rfl, t1, t2, t3, t4⟩ := intsV_of hsp f3
    exact ⟨B1, m1, d1, b1, B2, m2, d2, b2, rfl, ⟨s1, s2, s3, s4⟩, ⟨t1, t2, t3, t4⟩⟩

theorem cells_cfg : Try.prog.cellsOf 24 = 11 := by kernel_rfl
/-- The numbers of a config. -/
structure Cfg where
  (ci ch co seed batch steps rate decay how keep clip : Int)
def Cfg.cells (c : Cfg) : Array Value := #[.int .i64 c.ci, .int .i64 c.ch, .int .i64 c.co, .int .u64 c.seed, .int .i64 c.batch, .int .i64 c.steps, .int .i64 c.rate, .int .i64 c.decay, .int .i64 c.how, .int .i64 c.keep, .int .i64 c.clip]
def Cfg.wf (c : Cfg) : Prop := (Lit.int .i64 c.ci).wf = true ∧ (Lit.int .i64 c.ch).wf = true ∧ (Lit.int .i64 c.co).wf = true ∧ (Lit.int .u64 c.seed).wf = true ∧ (Lit.int .i64 c.batch).wf = true ∧ (Lit.int .i64 c.steps).wf = true ∧
  (Lit.int .i64 c.rate).wf = true ∧ (Lit.int .i64 c.decay).wf = true ∧ (Lit.int .i64 c.how).wf = true ∧ (Lit.int .i64 c.keep).wf = true ∧ (Lit.int .i64 c.clip).wf = true
set_option maxRecDepth 100000 in
theorem arg_cfg {r : Reach} {b : Nat} {v : Value} {d : DataW H} {p : List MemPlace} (hv : Value.okWide Try.prog w r b 24 v) (h : DataW.Trod enc Try.prog w base sp held 24 v d p) :
    ∃ c : Cfg, v = .agg c.cells ∧ c.wf := by
  obtain ⟨cs, rfl, hsz⟩ := okWide_struct Try.underlying24 hv
  obtain ⟨f, h⟩ := h
  obtain ⟨cs⟩ := cs
  rw [cells_cfg] at hsz
  obtain ⟨xs, n, _, _, hl, hxl, hf⟩ := DataW.trod_struct Try.underlying24 h
  match cs, hsz with
  | [e0, e1, e2, e3, e4, e5, e6, e7, e8, e9, e10], _ =>
    obtain ⟨y0, f0⟩ := field_at hf hxl 0 3 0 1 rfl cells_int
    obtain ⟨y1, f1⟩ := field_at hf hxl 1 3 1 1 rfl cells_int
    obtain ⟨y2, f2⟩ := field_at hf hxl 2 3 2 1 rfl cells_int
    obtain ⟨y3, f3⟩ := field_at hf hxl 3 22 3 1 rfl cells_u64
    obtain ⟨y4, f4⟩ := field_at hf hxl 4 3 4 1 rfl cells_int
    obtain ⟨y5, f5⟩ := field_at hf hxl 5 3 5 1 rfl cells_int
    obtain ⟨y6, f6⟩ := field_at hf hxl 6 3 6 1 rfl cells_int
    obtain ⟨y7, f7⟩ := field_at hf hxl 7 3 7 1 rfl cells_int
    obtain ⟨y8, f8⟩ := field_at hf hxl 8 3 8 1 rfl cells_int
    obtain ⟨y9, f9⟩ := field_at hf hxl 9 3 9 1 rfl cells_int
    obtain ⟨ya, fa⟩ := field_at hf hxl 10 3 10 1 rfl cells_int
    simp only [Value.cells, List.drop_zero, List.drop_succ_cons, List.take_succ_cons, List.take_zero] at f0 f1 f2 f3 f4 f5 f6 f7 f8 f9 fa
    obtain ⟨x0, k0, _, w0⟩ := DataW.trod_int Try.underlying3 f0
    obtain ⟨x1, k1, _, w1⟩ := DataW.trod_int Try.underlying3 f1
    obtain ⟨x2, k2, _, w2⟩ := DataW.trod_int Try.underlying3 f2
    obtain ⟨x3, k3, _, w3⟩ := DataW.trod_int Try.underlying22 f3
    obtain ⟨x4, k4, _, w4⟩ := DataW.trod_int Try.underlying3 f4
    obtain ⟨x5, k5, _, w5⟩ := DataW.trod_int Try.underlying3 f5
    obtain ⟨x6, k6, _, w6⟩ := DataW.trod_int Try.underlying3 f6
    obtain ⟨x7, k7, _, w7⟩ := DataW.trod_int Try.underlying3 f7
    obtain ⟨x8, k8, _, w8⟩ := DataW.trod_int Try.underlying3 f8
    obtain ⟨x9, k9, _, w9⟩ := DataW.trod_int Try.underlying3 f9
    obtain ⟨xa, ka, _, wa⟩ := DataW.trod_int Try.underlying3 fa
    simp only [List.cons.injEq, and_true] at k0 k1 k2 k3 k4 k5 k6 k7 k8 k9 ka
    subst k0; subst k1; subst k2; subst k3; subst k4; subst k5; subst k6; subst k7; subst k8; subst k9; subst ka
    exact ⟨⟨x0, x1, x2, x3, x4, x5, x6, x7, x8, x9, xa⟩, rfl, w0, w1, w2, w3, w4, w5, w6, w7, w8, w9, wa⟩
end

theorem wf_i64 {n : Int} (h : (Lit.int .i64 n).wf = true) : -9223372036854775808 ≤ n ∧ n ≤ 9223372036854775807 := by
  simp [Lit.wf, IntKind.min, IntKind.max, IntKind.signed, IntKind.bits] at h
  omega
theorem wf_u64 {n : Int} (h : (Lit.int .u64 n).wf = true) : 0 ≤ n ∧ n ≤ 18446744073709551615 := by
  simp [Lit.wf, IntKind.min, IntKind.max, IntKind.signed, IntKind.bits] at h
  omega
end Go.Proofs.Ytejkkbjepgghlaa
