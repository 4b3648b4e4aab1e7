/- What the document's own text reckons of digests: plus, times, mixed, Of, Numbers, Pair, Word: walks, each function once. -/
import Derived.Test.YtblkpibbcapdeaaDoorDigW
import Derived.Test.YtblkpibbcapdeaaDoorVecAny
import Derived.StillTailTactics
import Derived.Outline
namespace Go.Proofs.YtblkpibbcapdeaaDoor
open Go.RowKit Pl


theorem shr_tmod (y j : Nat) : ((y : Int) / 2 ^ j).tmod 2 = ((y / 2 ^ j % 2 : Nat) : Int) := by
  have e : ((y : Int) / 2 ^ j) = ((y / 2 ^ j : Nat) : Int) := by simp
  rw [e]
  rfl

end Go.Proofs.YtblkpibbcapdeaaDoor

/- The document's own text's mix of a state: a walk. -/
namespace Go.Proofs.YtblkpibbcapdeaaDoor
open Go.RowKit Pl

theorem addI_shuffle {X Y Z U T : Int} (V : Int) (hU : U = addI Y Z) (hT : T = addI X U) : addI (addI X Y) (addI Z V) = addI T V := by
  subst hU; subst hT
  unfold addI
  simp only [Int.toNat_natCast]
  rw [addP_eq, addP_eq, addP_eq, addP_eq, addP_eq, addP_eq]
  generalize X.toNat = a
  generalize Y.toNat = b
  generalize Z.toNat = c
  generalize V.toNat = d
  unfold P61
  omega

end Go.Proofs.YtblkpibbcapdeaaDoor

/- What the document's own text says of digests: Of, Pair, Word: walks, each function once. -/
namespace Go.Proofs.YtblkpibbcapdeaaDoor
open Go.RowKit Pl



end Go.Proofs.YtblkpibbcapdeaaDoor

/- Numbers that are digested: digest.Numbers and the document's own: walks, each function once. -/
namespace Go.Proofs.YtblkpibbcapdeaaDoor
open Go.RowKit Pl

/-- A number as it is digested: held between -2^32 and 2^32, and lifted. -/
def numI (x : Int) : Int := (if x < -4294967296 then -4294967296 else if 4294967296 < x then 4294967296 else x) + 4294967296
def numL (xs : List Int) : List Int := upto (fun k => numI (at0 xs k)) xs.length
theorem numL_length (xs : List Int) : (numL xs).length = xs.length := upto_length _ _
theorem numI_bd (x : Int) : 0 ≤ numI x ∧ numI x ≤ 8589934592 := by unfold numI; split <;> (try split) <;> omega
theorem numL_u64 (xs : List Int) : U64 (numL xs) := fun k => by
  unfold numL
  rcases Nat.lt_or_ge k xs.length with h | h
  · rw [at0_upto _ h]; have := numI_bd (at0 xs k); omega
  · unfold at0
    rw [List.getElem?_eq_none (by rw [upto_length]; exact h)]
    exact ⟨Int.le_refl _, by show (0 : Int) < _; omega⟩
theorem u64_info : (Tryd.prog.info? 23).map (fun i => (i.zero, i.size, i.bytes)) = some (some (.int .u64 0), 1, 8) := by kernel_rfl
/-- A slice of the call's own, told alone; beside an error. -/
def OwnU1 (w : World) (xs : List Int) (e : Ending) (w' : World) : Prop :=
  ∃ A c, e = .returned (.slice A xs.length c) ∧ w'.ownsRow w.heap.size 23 1 (.slice A xs.length c) xs.length (xs.map (.int .u64)) ∧ Below w.heap.size w w'
def OwnU (w : World) (xs : List Int) (r : Int) (e : Ending) (w' : World) : Prop :=
  ∃ A c, e = .returned (.tuple #[.slice A xs.length c, .int .i64 r]) ∧ w'.ownsRow w.heap.size 23 1 (.slice A xs.length c) xs.length (xs.map (.int .u64)) ∧ Below w.heap.size w w'
theorem ownU_one {w w' : World} {xs : List Int} {v : Value} {n : Nat} (hl : xs.length = n) (h : w'.ownsRow w.heap.size 23 1 v n (xs.map (.int .u64))) (hb : Below w.heap.size w w') : OwnU1 w xs (.returned v) w' := by
  subst hl
  obtain ⟨A, c, rfl, _⟩ := own_ints h
  exact ⟨A, c, rfl, h, hb⟩
theorem ownU_res {w w' : World} {xs : List Int} {v : Value} {n : Nat} {r : Int} (hl : xs.length = n) (h : w'.ownsRow w.heap.size 23 1 v n (xs.map (.int .u64))) (hb : Below w.heap.size w w') : OwnU w xs r (.returned (.tuple #[v, .int .i64 r])) w' := by
  subst hl
  obtain ⟨A, c, rfl, _⟩ := own_ints h
  exact ⟨A, c, rfl, h, hb⟩

end Go.Proofs.YtblkpibbcapdeaaDoor
