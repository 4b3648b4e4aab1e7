/- What the document's own text reckons of digests: plus, times, mixed, Of, Numbers, Pair, Word: walks, each function once. -/
import Derived.Test.YtblkpibbcapdeaaDigW
import Derived.Test.YtblkpibbcapdeaaVecAny
import Derived.StillTailTactics
import Derived.Outline
namespace Go.Proofs.Ytblkpibbcapdeaa
open Go.RowKit Pl


theorem shr_tmod (y j : Nat) : ((y : Int) / 2 ^ j).tmod 2 = ((y / 2 ^ j % 2 : Nat) : Int) := by
  have e : ((y : Int) / 2 ^ j) = ((y / 2 ^ j : Nat) : Int) := by simp
  rw [e]
  rfl

end Go.Proofs.Ytblkpibbcapdeaa

/- The document's own text's mix of a state: a walk. -/
namespace Go.Proofs.Ytblkpibbcapdeaa
open Go.RowKit Pl

theorem addI_shuffle {X Y Z U T : Int} (V : Int) (hU : U = addI Y Z) (hT : T = addI X U) : addI (addI X Y) (addI Z V) = addI T V := by
  subst hU; subst hT
  unfold addI
  simp only [Int.toNat_natCast]
  rw [addP_eq, addP_eq, addP_eq, addP_eq, addP_eq, addP_eq]
  generalize X.toNat = a
  generalize Y.toNat = b
  generalize Z.toNat = c
  generalize V.toNat = d
  unfold P61
  omega

end Go.Proofs.Ytblkpibbcapdeaa

/- What the document's own text says of digests: Of, Pair, Word: walks, each function once. -/
namespace Go.Proofs.Ytblkpibbcapdeaa
open Go.RowKit Pl



end Go.Proofs.Ytblkpibbcapdeaa

/- Numbers that are digested: digest.Numbers and the document's own: walks, each function once. -/
namespace Go.Proofs.Ytblkpibbcapdeaa
open Go.RowKit Pl

/-- A number as it is digested: held between -2^32 and 2^32, and lifted. -/
def numI (x : Int) : Int := (if x < -4294967296 then -4294967296 else if 4294967296 < x then 4294967296 else x) + 4294967296
def numL (xs : List Int) : List Int := upto (fun k => numI (at0 xs k)) xs.length
theorem numL_length (xs : List Int) : (numL xs).length = xs.length := upto_length _ _
theorem numI_bd (x : Int) : 0 ≤ numI x ∧ numI x ≤ 8589934592 := by unfold numI; split <;> (try split) <;> omega
theorem numL_u64 (xs : List Int) : U64 (numL xs) := fun k => by
  unfold numL
  rcases Nat.lt_or_ge k xs.length with h | h
  · rw [at0_upto _ h]; have := numI_bd (at0 xs k); omega
  · unfold at0
    rw [List.getElem?_eq_none (by rw [upto_length]; exact h)]
    exact ⟨Int.le_refl _, by show (0 : Int) < _; omega⟩
theorem u64_info : (Try.prog.info? 22).map (fun i => (i.zero, i.size, i.bytes)) = some (some (.int .u64 0), 1, 8) := by kernel_rfl
/-- A slice of the call's own, told alone; beside an error. -/
def OwnU1 (w : World) (xs : List Int) (e : Ending) (w' : World) : Prop :=
  ∃ A c, e = .returned (.slice A xs.length c) ∧ w'.ownsRow w.heap.size 22 1 (.slice A xs.length c) xs.length (xs.map (.int .u64)) ∧ Below w.heap.size w w'
def OwnU (w : World) (xs : List Int) (r : Int) (e : Ending) (w' : World) : Prop :=
  ∃ A c, e = .returned (.tuple #[.slice A xs.length c, .int .i64 r]) ∧ w'.ownsRow w.heap.size 22 1 (.slice A xs.length c) xs.length (xs.map (.int .u64)) ∧ Below w.heap.size w w'
theorem ownU_one {w w' : World} {xs : List Int} {v : Value} {n : Nat} (hl : xs.length = n) (h : w'.ownsRow w.heap.size 22 1 v n (xs.map (.int .u64))) (hb : Below w.heap.size w w') : OwnU1 w xs (.returned v) w' := by
  subst hl
  obtain ⟨A, c, rfl, _⟩ := own_ints h
  exact ⟨A, c, rfl, h, hb⟩
theorem ownU_res {w w' : World} {xs : List Int} {v : Value} {n : Nat} {r : Int} (hl : xs.length = n) (h : w'.ownsRow w.heap.size 22 1 v n (xs.map (.int .u64))) (hb : Below w.heap.size w w') : OwnU w xs r (.returned (.tuple #[v, .int .i64 r])) w' := by
  subst hl
  obtain ⟨A, c, rfl, _⟩ := own_ints h
  exact ⟨A, c, rfl, h, hb⟩

set_option maxHeartbeats 1000000 in
theorem dig_Numbers_no (A : Option Addr) (n c : Nat) (w : World) (hn : 200 < n) :
    Calls Try.prog 49 #[.slice A n c] w fun e w' => e = .returned (.tuple #[.slice none 0 0, .int .i64 2]) ∧ w = w' := by
  go_enter Try.func49, Try.ntmps49
  go_wp2
  go_ret2
  exact ⟨rfl, rfl⟩

set_option maxRecDepth 100000 in
set_option maxHeartbeats 2000000 in
theorem dig_Numbers_ok (A : Option Addr) (n c : Nat) (xs : List Int) (w : World) (hx : Ints .i64 w A n xs) (hn : n ≤ 200) :
    Calls Try.prog 49 #[.slice A n c] w (OwnU w (numL xs) 0) := by
  obtain ⟨i0, hi0, hz0, hz1, hz2⟩ := info_parts u64_info
  have HE := Lib.hid (show numL xs = upto (fun k => numI (at0 xs k)) n by unfold numL; rw [hx.len])
  go_enter Try.func49, Try.ntmps49
  go_wp2
  go_loopw [4, 6, 12] (fun o _ i wr => ∃ k : Nat, k ≤ n ∧ i = .int .i64 k ∧ wr.ownsRow w.heap.size 22 1 o k ((upto (fun k => numI (at0 xs k)) k).map (.int .u64)) ∧ Below w.heap.size w wr) (fun _ _ i _ => n - (intOf i).toNat)
  case atStart => exact ⟨0, Nat.zero_le _, rfl, World.ownsRow_nil _ _ _ _, Below.refl _ _⟩
  case round =>
    obtain ⟨k, hk, rfl, hown, hb⟩ := hrel
    by_cases hlt : k < n
    · obtain ⟨b, off, rfl, hbl, hc⟩ := hx.cells (by omega)
      have g1 := (hb.cell (p := ⟨b, off + k, none⟩) hbl).trans (hc k hlt)
      have hbs := hb.size
      have F := Lib.hid (show upto (fun k => numI (at0 xs k)) (k + 1) = upto (fun k => numI (at0 xs k)) k ++ [numI (at0 xs k)] from upto_succ _ _)
      obtain ⟨x, hxx⟩ : ∃ x, x = at0 xs k := ⟨_, rfl⟩
      rw [← hxx] at g1 F
      clear hc hxx
      have hcs : x < -4294967296 ∨ 4294967296 < x ∨ (-4294967296 ≤ x ∧ x ≤ 4294967296) := by omega
      rcases hcs with h | h | ⟨h, h'⟩
      · have V := Lib.hid (show numI x = 0 by unfold numI; rw [if_pos h]; rfl)
        rw [V.out] at F
        go_wp2_with (at_builtin; refine wpList_append_own _ rfl _ _ 69 rfl w.heap.size 22 i0 (.int .u64 0) 1 8 Try.underlying69 hi0 hz0 hz1 hz2 rfl (by decide) u4 k _ rfl (hown.alloc _) ⟨wr.heap.size, 0, none⟩ 1 1 [.int .u64 (0)] rfl rfl (cell_one_new _ _ _) (by simp [Value.oneCell']) (by unfold maxLen; omega) (by omega) (by simp; omega) ?_; intro v1 w1 hown1 hgrow _)
        have hb2 : Below w.heap.size w w1 := Below.grown (hb.alloc hbs _) hgrow (by simp; omega) (fun x hx => (hown.lt x hx).1)
        rw [← List.map_singleton, ← List.map_append, ← F.out] at hown1
        clear hgrow
        go_roundw
        case rel => exact ⟨k + 1, by omega, by go_num, hown1, hb2⟩
        case measure => simp [intOf]; omega
      · have V := Lib.hid (show numI x = 8589934592 by unfold numI; rw [if_neg (by omega), if_pos h]; rfl)
        rw [V.out] at F
        go_wp2_with (at_builtin; refine wpList_append_own _ rfl _ _ 69 rfl w.heap.size 22 i0 (.int .u64 0) 1 8 Try.underlying69 hi0 hz0 hz1 hz2 rfl (by decide) u4 k _ rfl (hown.alloc _) ⟨wr.heap.size, 0, none⟩ 1 1 [.int .u64 (8589934592)] rfl rfl (cell_one_new _ _ _) (by simp [Value.oneCell']) (by unfold maxLen; omega) (by omega) (by simp; omega) ?_; intro v1 w1 hown1 hgrow _)
        have hb2 : Below w.heap.size w w1 := Below.grown (hb.alloc hbs _) hgrow (by simp; omega) (fun x hx => (hown.lt x hx).1)
        rw [← List.map_singleton, ← List.map_append, ← F.out] at hown1
        clear hgrow
        go_roundw
        case rel => exact ⟨k + 1, by omega, by go_num, hown1, hb2⟩
        case measure => simp [intOf]; omega
      · have V := Lib.hid (show numI x = x + 4294967296 by unfold numI; rw [if_neg (by omega), if_neg (by omega)])
        rw [V.out] at F
        go_wp2_with (at_builtin; refine wpList_append_own _ rfl _ _ 69 rfl w.heap.size 22 i0 (.int .u64 0) 1 8 Try.underlying69 hi0 hz0 hz1 hz2 rfl (by decide) u4 k _ rfl (hown.alloc _) ⟨wr.heap.size, 0, none⟩ 1 1 [.int .u64 (x + 4294967296)] rfl rfl (cell_one_new _ _ _) (by simp [Value.oneCell']) (by unfold maxLen; omega) (by omega) (by simp; omega) ?_; intro v1 w1 hown1 hgrow _)
        have hb2 : Below w.heap.size w w1 := Below.grown (hb.alloc hbs _) hgrow (by simp; omega) (fun x hx => (hown.lt x hx).1)
        rw [← List.map_singleton, ← List.map_append, ← F.out] at hown1
        clear hgrow
        go_roundw
        case rel => exact ⟨k + 1, by omega, by go_num, hown1, hb2⟩
        case measure => simp [intOf]; omega
    · obtain rfl : n = k := by omega
      go_wp2
      go_ret2
      exact ownU_res ((numL_length xs).trans hx.len) (by rw [HE.out]; exact hown) hb

end Go.Proofs.Ytblkpibbcapdeaa
