/- Trees of leaves: where they are cut, what is made of leaves: walks, each function once. -/
import Derived.Test.YtaeeonnjkplohaaGreatDoorTreeL
import Derived.Deep.RegionHeld3
import Derived.Deep.RegionLaw
import Derived.RegionTactic
import Derived.Outline
import Derived.IntWalk
namespace Go.Proofs.YtaeeonnjkplohaaGreatDoor
open Go.RowKit Pl

/-- A power of two. -/
def IsP2 (p : Nat) : Prop := ∃ j, p = 2 ^ j
theorem IsP2.one : IsP2 1 := ⟨0, rfl⟩
theorem IsP2.dbl {p : Nat} (h : IsP2 p) : IsP2 (p * 2) := by
  obtain ⟨j, rfl⟩ := h
  exact ⟨j + 1, (Nat.pow_succ ..).symm⟩
theorem IsP2.half {p n : Nat} (h : IsP2 p) (h1 : p < n) (h2 : n ≤ 2 * p) : half n = p := by
  obtain ⟨j, rfl⟩ := h
  exact half_eq h1 h2

set_option maxHeartbeats 1000000 in
theorem tree_half (n : Nat) (w : World) (h1 : 2 ≤ n) (h2 : n ≤ 1000000) :
    Calls Tryz.prog 130 #[.int .i64 n] w fun e w' => e = .returned (.int .i64 ((half n : Nat) : Int)) ∧ w = w' := by
  go_enter Tryz.func130, Tryz.ntmps130
  go_wp2
  go_loop [3] (fun k => ∃ p : Nat, 1 ≤ p ∧ p < n ∧ IsP2 p ∧ k = .int .i64 p) (fun k => n - (intOf k).toNat)
  case atStart => exact ⟨1, by omega, by omega, .one, rfl⟩
  case round =>
    obtain ⟨p, hp1, hp2, hp, rfl⟩ := hrel
    by_cases hlt : 2 * p < n
    · go_wp2
      go_round
      case rel => exact ⟨p * 2, by omega, by omega, hp.dbl, by go_num⟩
      case measure => simp [intOf]; omega
    · go_wp2
      go_ret
      exact ⟨ret_int (by rw [hp.half hp2 (by omega)]), rfl⟩


set_option maxRecDepth 100000 in
set_option maxHeartbeats 2000000 in
theorem tree_tree (f : Nat) : ∀ (A : Option Addr) (n c : Nat) (xs : List Int) (w : World), n ≤ f → 1 ≤ n → n ≤ c → n ≤ 1000 → Ints .u64 w A n xs → U64 xs →
    Calls Tryz.prog 90 #[.slice A n c] w fun e w' => e = .returned (.int .u64 (treeI xs)) ∧ Below w.heap.size w w' := by
  induction f with
  | zero => intro A n c xs w h1 h2; omega
  | succ f ih =>
    intro A n c xs w hf h1 hc hn hx hu
    obtain ⟨b, off, rfl, hb, hcl⟩ := hx.cells (by omega)
    have hl := hx.len
    by_cases h2 : n = 1
    · subst h2
      have g := hcl 0 (by omega)
      have E := Lib.hid (treeI_one hl)
      rw [Nat.add_zero] at g
      clear hcl hl
      go_enter Tryz.func90, Tryz.ntmps90
      go_wp2_with fail
      go_ret
      exact ⟨ret_int E.out.symm, Below.refl _ _⟩
    · have a1 := half_lt (n := n) (by omega)
      have a2 := half_pos n
      have HH := Lib.hid (fun W => tree_half n W (by omega) (by omega))
      have E := Lib.hid (treeI_more (l := xs) (by omega))
      rw [hl] at E
      obtain ⟨k, hk⟩ : ∃ k, k = half n := ⟨_, rfl⟩
      rw [← hk] at HH E a1 a2
      have k0 : (0 : Int) ≤ (k : Int) := by omega
      have k1 : (k : Int) ≤ (n : Int) := by omega
      have k2 : (k : Int) ≤ (c : Int) := by omega
      have k3 : ¬ c = k := by omega
      have k4 : ¬ (c : Int) = (k : Int) := by omega
      have T1 := Lib.hid (fun W (q : Ints .u64 W (some ⟨b, off, none⟩) n xs) => ih (some ⟨b, off, none⟩) k c (xs.take k) W (by omega) (by omega) (by omega) (by omega) (by
        have := q.cut (i := 0) (m := k) (by omega) (A' := some ⟨b, off, none⟩) (fun _ b' o' e => by injection e with e; injection e with e1 e2; subst e1; subst e2; rfl)
        rwa [List.drop_zero] at this) (hu.take _))
      have T2 := Lib.hid (fun W (q : Ints .u64 W (some ⟨b, off, none⟩) n xs) => ih (some ⟨b, off + k, none⟩) (n - k) (c - k) (xs.drop k) W (by omega) (by omega) (by omega) (by omega) (by
        have := q.cut (i := k) (m := n - k) (by omega) (A' := some ⟨b, off + k, none⟩) (fun _ b' o' e => by injection e with e; injection e with e1 e2; subst e1; subst e2; rfl)
        rwa [List.take_of_length_le (by rw [List.length_drop, q.len]; exact Nat.le_refl _)] at this) (hu.drop _))
      have b1 := treeI_u64 (hu.take k) (by rw [List.length_take]; omega)
      have b2 := treeI_u64 (hu.drop k) (by rw [List.length_drop]; omega)
      obtain ⟨p, hp⟩ : ∃ p, p = treeI (xs.take k) := ⟨_, rfl⟩
      obtain ⟨q, hq⟩ : ∃ q, q = treeI (xs.drop k) := ⟨_, rfl⟩
      rw [← hp] at T1 b1 E
      rw [← hq] at T2 b2 E
      clear hp hq hk hl hcl ih
      go_enter Tryz.func90, Tryz.ntmps90
      go_wp2_with (go_at_call 130; refine (HH.out _).mono ?_; rintro e w' ⟨rfl, rfl⟩)
      go_region_held3 (fun _ => True) (trivial) (first
        | (go_at_call 90; (with_reducible refine (T1.out _ (hx.drew)).mono ?_); rintro e u1 ⟨rfl, hb1⟩)
        | (go_at_call 90; (with_reducible refine (T2.out _ ((hx.drew).below hb1)).mono ?_); rintro e u2 ⟨rfl, hb2⟩)
        | (go_at_call 89; refine (dig_Pair p q _ b1.1 b1.2 b2.1 b2.2).mono ?_; rintro e u3 ⟨rfl, hb3⟩))
      go_wp2
      go_ret
      exact ⟨ret_int E.out.symm, bel_trans (bel_trans (bel_trans ((Below.refl _ _).drew) hb1) hb2) hb3⟩

end Go.Proofs.YtaeeonnjkplohaaGreatDoor

/- Roots: tree.Root, the document's leaves and roots: walks. -/
namespace Go.Proofs.YtaeeonnjkplohaaGreatDoor
open Go.RowKit Pl

theorem own_capT {w : World} {base : Nat} {e : TypeId} {size : Nat} {A : Option Addr} {n c : Nat} {xs : List Value} (h : w.ownsRow base e size (.slice A n c) n xs) : n ≤ c := by
  rcases h.2 with ⟨e, rfl⟩ | ⟨g, cap, cur, e, _, _, hc, _⟩
  · exact Nat.zero_le _
  · injection e with _ _ e3
    omega


theorem ret_fst {k : IntKind} {v : Value} {a b : Int} (h : a = b) : Ending.returned (.tuple #[.int k a, v]) = .returned (.tuple #[.int k b, v]) := by rw [h]
theorem u64_len {n : Nat} (h : n ≤ 9223372036854775807) : IntKind.u64.wrap (n : Int) = (n : Int) := wrap_u64_in (by omega) (by omega)

set_option maxRecDepth 100000 in
set_option maxHeartbeats 1000000 in
theorem tree_Root_any (A : Option Addr) (n c : Nat) (xs : List Int) (w : World) (hx : Ints .i64 w A n xs) (hc : n ≤ c) (hm : n ≤ 9223372036854775807) :
    Calls Tryz.prog 55 #[.slice A n c] w fun e w' => e = .returned (.tuple #[.int .u64 (rootO xs), .int .i64 (lvE n)]) ∧ Below w.heap.size w w' := by
  have HL := Lib.hid (tree_Leaves_any A n c xs w hx hc hm)
  by_cases h : lvE n = 0
  · obtain ⟨h1, h2⟩ := lvE_ok h
    rw [h, show lvO xs = leavesI xs from if_pos (by rw [hx.len]; exact h)] at HL
    rw [h, show rootO xs = rootI xs from if_pos (by rw [hx.len]; exact h)]
    have U := u64_len (n := n) (by omega)
    have HR := Lib.hid (show rootI xs = pairI n (treeI (leavesI xs)) by unfold rootI; rw [hx.len])
    have L1 := Lib.hid (show 1 ≤ (leavesI xs).length ∧ (leavesI xs).length ≤ 1000 by rw [leavesI_length, hx.len]; omega)
    have b1 := treeI_u64 (leavesI_u64 xs) L1.out.1
    clear h
    go_enter Tryz.func55, Tryz.ntmps55
    go_wp2_with fail
    refine HL.out.mono ?_
    rintro e w1 ⟨S, sc, rfl, hown, hb1⟩
    have hcap : (leavesI xs).length ≤ sc := own_capT hown
    go_wp2_with fail
    refine (tree_tree _ S (leavesI xs).length sc (leavesI xs) w1 (Nat.le_refl _) L1.out.1 hcap L1.out.2 (Ints.of_own hown rfl) (leavesI_u64 xs)).mono ?_
    rintro e w2 ⟨rfl, hb2⟩
    go_wp2_with fail
    refine (dig_Pair n (treeI (leavesI xs)) _ (by omega) (by omega) b1.1 b1.2).mono ?_
    rintro e w3 ⟨rfl, hb3⟩
    go_wp2
    go_ret2
    exact ⟨ret_fst HR.out.symm, bel_trans (bel_trans hb1 hb2) hb3⟩
  · rw [show rootO xs = 0 from if_neg (by rw [hx.len]; exact h)]
    rw [show lvO xs = [] from if_neg (by rw [hx.len]; exact h)] at HL
    obtain ⟨x, hxx⟩ : ∃ x, x = lvE n := ⟨_, rfl⟩
    rw [← hxx] at HL h ⊢
    have t : (x != 0) = true := by rw [bne_iff_ne]; exact h
    clear h hxx
    go_enter Tryz.func55, Tryz.ntmps55
    go_wp2_with fail
    refine HL.out.mono ?_
    rintro e w1 ⟨S, sc, rfl, hown, hb1⟩
    go_wp2
    go_ret2
    exact ⟨rfl, hb1⟩
end Go.Proofs.YtaeeonnjkplohaaGreatDoor

/- Ways up: the document's own: Way, Deep, Up: walks. -/
namespace Go.Proofs.YtaeeonnjkplohaaGreatDoor
open Go.RowKit Pl



end Go.Proofs.YtaeeonnjkplohaaGreatDoor

/- Turns on the way to a leaf: tree.turns: a walk. -/
namespace Go.Proofs.YtaeeonnjkplohaaGreatDoor
open Go.RowKit Pl

end Go.Proofs.YtaeeonnjkplohaaGreatDoor
