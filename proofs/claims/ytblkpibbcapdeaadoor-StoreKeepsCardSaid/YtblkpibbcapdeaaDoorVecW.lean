/- What the calls of package vec compute: walks, each function once. -/
import Derived.Test.YtblkpibbcapdeaaDoorFixW
import Derived.Test.YtblkpibbcapdeaaDoorSlW
import Derived.OwnWalk
import Derived.LoopTactic
import Derived.Deep.RegionHeld3
import Derived.Deep.AppendLies
import Derived.Test.YtblkpibbcapdeaaDoorPl
namespace Go.Proofs.YtblkpibbcapdeaaDoor
open Go.RowKit Pl

/-- How long a slice is. -/
def lenV : Value → Int
  | .slice _ n _ => n
  | _ => 0

/-- Is a number one that may not be? -/
def badV : Value → Bool
  | .int _ n => n != clamp n
  | _ => false
theorem badV_any (k : IntKind) (xs : List Int) : ((xs.map (Value.int k)).any badV) = !okL xs := by
  rw [List.any_map]
  exact okL_any xs

theorem pairE_no {a b : List Int} (h : 200 < a.length ∨ 200 < b.length) : pairE a b = 2 := if_pos h
theorem pairE_form {a b : List Int} (h : ¬ (200 < a.length ∨ 200 < b.length)) (h' : a.length ≠ b.length) : pairE a b = 5 := by unfold pairE; rw [if_neg h, if_pos h']
theorem pairE_ok {a b : List Int} (h : ¬ (200 < a.length ∨ 200 < b.length)) (h' : a.length = b.length) : pairE a b = 0 := by unfold pairE; rw [if_neg h, if_neg (by simp [h'])]


theorem large2 (A B : Option Addr) (n c m d : Nat) : ([Value.slice A n c, Value.slice B m d].any fun v => decide (200 < lenV v)) = decide (200 < n ∨ 200 < m) := by
  rw [Bool.eq_iff_iff, decide_eq_true_eq]
  simp only [List.any_cons, List.any_nil, Bool.or_false, Bool.or_eq_true, decide_eq_true_eq]
  show 200 < (n : Int) ∨ 200 < (m : Int) ↔ _
  omega
theorem large1 (A : Option Addr) (n c : Nat) : ([Value.slice A n c].any fun v => decide (200 < lenV v)) = decide (200 < n) := by
  rw [Bool.eq_iff_iff, decide_eq_true_eq]
  simp only [List.any_cons, List.any_nil, Bool.or_false, decide_eq_true_eq]
  show 200 < (n : Int) ↔ _
  omega

theorem int_info : (Tryd.prog.info? 3).map (fun i => (i.zero, i.size, i.bytes)) = some (some (.int .i64 0), 1, 8) := by kernel_rfl

/-- A slice of the call's own with numbers, told beside an error. -/
def OwnRes (w : World) (xs : List Int) (r : Int) (e : Ending) (w' : World) : Prop :=
  ∃ A c, e = .returned (.tuple #[.slice A xs.length c, .int .i64 r]) ∧ w'.ownsRow w.heap.size 3 1 (.slice A xs.length c) xs.length (xs.map (.int .i64)) ∧ Below w.heap.size w w'

theorem own_res {w w' : World} {xs : List Int} {v : Value} {n : Nat} {r : Int} (hl : xs.length = n) (h : w'.ownsRow w.heap.size 3 1 v n (xs.map (.int .i64))) (hb : Below w.heap.size w w') :
    OwnRes w xs r (.returned (.tuple #[v, .int .i64 r])) w' := by
  subst hl
  obtain ⟨A, c, rfl, _⟩ := own_ints h
  exact ⟨A, c, rfl, h, hb⟩

end Go.Proofs.YtblkpibbcapdeaaDoor

/- What the calls of package vec compute, further: multiples of lists, products with matrices: walks, each function once. -/
namespace Go.Proofs.YtblkpibbcapdeaaDoor
open Go.RowKit Pl

end Go.Proofs.YtblkpibbcapdeaaDoor

/- What the document's own text computes of bounds, matrices and pupils: walks, each function once. -/
namespace Go.Proofs.YtblkpibbcapdeaaDoor
open Go.RowKit Pl

def inB (n lo hi : Int) : Bool := decide (lo ≤ n ∧ n ≤ hi)
theorem inB_yes {n lo hi : Int} (h : lo ≤ n ∧ n ≤ hi) : inB n lo hi = true := decide_eq_true h
theorem inB_no {n lo hi : Int} (h : ¬ (lo ≤ n ∧ n ≤ hi)) : inB n lo hi = false := decide_eq_false h
theorem inB_side (n : Int) : inB n 1 4 = sideB n := rfl

set_option maxHeartbeats 400000 in
theorem ref_In (n lo hi : Int) (w : World) : Calls Tryd.prog 15 #[.int .i64 n, .int .i64 lo, .int .i64 hi] w fun e w' => e = .returned (.bool (inB n lo hi)) ∧ w = w' := by
  by_cases h : lo ≤ n
  · have h1 : decide (lo ≤ n) = true := decide_eq_true h
    go_enter Tryd.func15, Tryd.ntmps15
    go_wp2
    go_ret
    exact ⟨ret_bool (by simp [inB, h]), rfl⟩
  · have h1 : decide (lo ≤ n) = false := decide_eq_false h
    go_enter Tryd.func15, Tryd.ntmps15
    go_wp2
    go_ret
    exact ⟨ret_bool (inB_no (by omega)).symm, rfl⟩

theorem okL_take_succ {xs : List Int} {k : Nat} (hk : k < xs.length) : okL (xs.take (k + 1)) = (okL (xs.take k) && (clamp (at0 xs k) == at0 xs k)) := by
  rw [List.take_succ_eq_append_getElem hk, okL_append, at0_getElem _ _ hk]
  unfold okL
  rw [List.all_cons, List.all_nil, Bool.and_true, Bool.beq_comm]


end Go.Proofs.YtblkpibbcapdeaaDoor

/- What the document's own text computes of a matrix's lines, and of products with it: walks, each function once. -/
namespace Go.Proofs.YtblkpibbcapdeaaDoor
open Go.RowKit Pl

theorem own_base {w : World} {base base' : Nat} {e : TypeId} {size : Nat} {v : Value} {n : Nat} {xs : List Value} (h : w.ownsRow base e size v n xs) (hb : base' ≤ base) : w.ownsRow base' e size v n xs := by
  refine ⟨h.1, ?_⟩
  rcases h.2 with hn | ⟨g, cap, cur, rfl, hg, rest⟩
  · exact .inl hn
  · exact .inr ⟨g, cap, cur, rfl, by omega, rest⟩

/-- A matrix in a box: its three cells. -/
def MatBox (w : World) (B : Nat) (r c : Int) (A : Option Addr) (n cap : Nat) : Prop :=
  w.cell? ⟨B, 0, none⟩ = some (.int .i64 r) ∧ w.cell? ⟨B, 1, none⟩ = some (.int .i64 c) ∧ w.cell? ⟨B, 2, none⟩ = some (.slice A n cap)
theorem MatBox.below {w w' : World} {B : Nat} {r c : Int} {A : Option Addr} {n cap : Nat} (h : MatBox w B r c A n cap) {D : Nat} (hb : Below D w w') (hB : B < D) : MatBox w' B r c A n cap :=
  ⟨(hb.cell (p := ⟨B, 0, none⟩) hB).trans h.1, (hb.cell (p := ⟨B, 1, none⟩) hB).trans h.2.1, (hb.cell (p := ⟨B, 2, none⟩) hB).trans h.2.2⟩

end Go.Proofs.YtblkpibbcapdeaaDoor

/- What the document's own text computes of products with a matrix: a walk. -/
namespace Go.Proofs.YtblkpibbcapdeaaDoor
open Go.RowKit Pl

theorem own_below {w w' : World} {base : Nat} {e : TypeId} {size : Nat} {v : Value} {n : Nat} {xs : List Value} (h : w.ownsRow base e size v n xs) (hb : Below w.heap.size w w') : w'.ownsRow base e size v n xs := by
  refine ⟨h.1, ?_⟩
  rcases h.2 with hn | ⟨g, cap, cur, rfl, hg, hc, rest⟩
  · exact .inl hn
  · exact .inr ⟨g, cap, cur, rfl, hg, (hb.block g (Array.getElem?_eq_some_iff.1 hc).1).trans hc, rest⟩

/-- A slice of the call's own with numbers: the one result. -/
def Own1 (w : World) (xs : List Int) (e : Ending) (w' : World) : Prop :=
  ∃ A c, e = .returned (.slice A xs.length c) ∧ w'.ownsRow w.heap.size 3 1 (.slice A xs.length c) xs.length (xs.map (.int .i64)) ∧ Below w.heap.size w w'
theorem own_one {w w' : World} {xs : List Int} {v : Value} {n : Nat} (hl : xs.length = n) (h : w'.ownsRow w.heap.size 3 1 v n (xs.map (.int .i64))) (hb : Below w.heap.size w w') : Own1 w xs (.returned v) w' := by
  subst hl
  obtain ⟨A, c, rfl, _⟩ := own_ints h
  exact ⟨A, c, rfl, h, hb⟩



end Go.Proofs.YtblkpibbcapdeaaDoor

/- What vec.Back and vec.Outer compute, and what vec.Mul and vec.Back say is wrong: walks, each function once. -/
namespace Go.Proofs.YtblkpibbcapdeaaDoor
open Go.RowKit Pl

/-- What is wrong ahead of a product with a matrix: too long; the matrix; not as many. -/
def prodE (r c : Int) (xs : List Int) (m k : Int) : Int := if 200 < m then 2 else if matE r c xs ≠ 0 then matE r c xs else if m ≠ k then 5 else 0
theorem prodE_1 {r c : Int} {xs : List Int} {m k : Int} (h : 200 < m) : prodE r c xs m k = 2 := if_pos h
theorem prodE_2 {r c : Int} {xs : List Int} {m k : Int} (h : ¬ 200 < m) (h' : matE r c xs ≠ 0) : prodE r c xs m k = matE r c xs := by unfold prodE; rw [if_neg h, if_pos h']
theorem prodE_3 {r c : Int} {xs : List Int} {m k : Int} (h : ¬ 200 < m) (h' : matE r c xs = 0) (h3 : m ≠ k) : prodE r c xs m k = 5 := by unfold prodE; rw [if_neg h, if_neg (by simp [h']), if_pos h3]


end Go.Proofs.YtblkpibbcapdeaaDoor
