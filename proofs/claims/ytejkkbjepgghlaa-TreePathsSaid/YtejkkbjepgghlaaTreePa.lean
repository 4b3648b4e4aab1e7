/- The law TreePaths holds of the given program for every input. No condition. -/
import Derived.Test.YtejkkbjepgghlaaGrown
import Derived.Outline
namespace Go.Proofs.Ytejkkbjepgghlaa
open Go.ChangeShapes Go.WideShapes Go.ChangeAt Go.RowKit Pl

def KLess (L : Nat) (w : World) (v : Value) (w' : World) : Prop := ∃ k : Nat, k < L ∧ v = .int .i64 k ∧ w = w'
set_option maxRecDepth 100000 in
set_option maxHeartbeats 4000000 in
theorem treePaths_walk (A : Option Addr) (n c : Nat) (xs : List Int) (i : Int) (w : World) (hx : Ints .i64 w A n xs) (hc : n ≤ c) (hm : n ≤ 9223372036854775807) :
    Calls Try.prog 8 #[.slice A n c, .int .i64 i] w fun e w' => e = .returned (.bool true) ∧ Below w.heap.size w w' := by
  go_enter Try.func8, Try.ntmps8
  go_wp2_with fail
  refine (keep_grown _).mono ?_
  rintro e w1 ⟨rfl, hb1⟩
  go_wp2_with fail
  refine (keep_list A n c xs _ (hx.below hb1) hc hm).mono ?_
  rintro e w2 ⟨B, m, d, ys, rfl, hy, m1, m60, md, hb2⟩
  have hb12 := bel_trans hb1 hb2
  have HLL := Lib.hid (show (leavesI ys).length = (m + 3) / 4 by rw [leavesI_length, hy.len])
  obtain ⟨L, hL⟩ : ∃ L, L = (m + 3) / 4 := ⟨_, rfl⟩
  have L1 : 1 ≤ L ∧ L ≤ 50 := by omega
  rw [← hL] at HLL
  have HL := Lib.hid hL
  have HS := Lib.hid (fun W (q : Ints .i64 W B m ys) => tree_Leaves_ok B m d ys W q m1 (by omega) md)
  have HR := Lib.hid (fun W (q : Ints .i64 W B m ys) => tree_Root_any B m d ys W q md (by omega))
  rw [show lvE m = 0 from by unfold lvE; rw [if_neg (by omega), if_neg (by omega)], show rootO ys = rootI ys from if_pos (by rw [hy.len]; unfold lvE; rw [if_neg (by omega), if_neg (by omega)])] at HR
  have HRI := Lib.hid (show rootI ys = pairI m (treeI (leavesI ys)) by unfold rootI; rw [hy.len])
  have hu := leavesI_u64 ys
  obtain ⟨lv, hlv⟩ : ∃ lv, lv = leavesI ys := ⟨_, rfl⟩
  have HLV := Lib.hid hlv
  rw [← hlv] at HS HLL HRI hu
  obtain ⟨r, hr⟩ : ∃ r, r = rootI ys := ⟨_, rfl⟩
  rw [← hr] at HR HRI
  clear hL hlv hr
  go_upto_region 5 with (go_at_call 47; refine (HS.out _ hy).mono ?_; rintro e w3 ⟨S, sc, rfl, O3, hb3⟩; rw [HLL.out] at O3 ⊢)
  go_cut [7] (fun kv wx => KLess L w3 kv wx)
  case first =>
    clear HR HRI HLV hb12 hb1 hb2 hx
    by_cases h1 : L = 1
    · have q1 : (L : Int) ≤ 1 := by omega
      clear h1
      go_wp2_with fail
      refine (ref_Rest i 1 _ (by omega) (by omega)).mono ?_
      rintro e w4 ⟨k, hk, rfl, rfl⟩
      go_wp2
      go_meet
      case rel => exact ⟨k, by omega, rfl, rfl⟩
    · have q1 : (1 : Int) < (L : Int) := by omega
      go_wp2_with fail
      refine (ref_Rest i L _ (by omega) (by omega)).mono ?_
      rintro e w4 ⟨k, hk, rfl, rfl⟩
      go_wp2
      go_meet
      case rel => exact ⟨k, hk, rfl, rfl⟩
  case rest =>
  obtain ⟨k, hk, rfl, rfl⟩ := hcut
  have HP := Lib.hid (fun W (q : Ints .i64 W B m ys) => tree_Path_ok B m d k ys W q m1 (by omega) md (by rw [← HL.out]; exact hk))
  have HPL := Lib.hid (show (wayI lv k).length = deepP k L by rw [wayI_length, HLL.out])
  have HUP := Lib.hid (show pairI m (upI k L (at0 lv k) (wayI lv k)) = r by
    have := upI_way lv k (by rw [HLL.out]; exact hk)
    rw [HLL.out] at this
    rw [this, ← HRI.out])
  rw [← HLV.out] at HP
  go_wp2_with fail
  refine (HP.out _ (hy.below hb3)).mono ?_
  rintro e w5 ⟨T, tc, rfl, O5, hb5⟩
  have hb35 := bel_trans hb3 hb5
  go_wp2_with fail
  refine (HR.out _ (hy.below hb35)).mono ?_
  rintro e w6 ⟨rfl, hb6⟩
  have J3 := (Ints.of_own O3 HLL.out).below (bel_trans hb5 hb6)
  have J5 := (Ints.of_own O5 rfl).below hb6
  obtain ⟨b, off, hS, _, hcl⟩ := J3.cells (by omega)
  subst hS
  have g := hcl k hk
  have bx := hu k
  have hwu : U64 (wayI lv k) := by
    intro j
    rcases Nat.lt_or_ge j (wayI lv k).length with h | h
    · have e1 : at0 (wayI lv k) j ∈ wayI lv k := by rw [at0_getElem _ _ h]; exact List.getElem_mem h
      exact wayI_u64 hu e1
    · unfold at0
      rw [List.getElem?_eq_none h]
      exact ⟨Int.le_refl _, by show (0 : Int) < _; omega⟩
  have HC := Lib.hid (tree_Climb_ok k m (at0 lv k) T (wayI lv k).length tc (wayI lv k) w6 J5 hwu m1 (by omega) (by rw [← HL.out]; exact hk) (by rw [← HL.out]; exact HPL.out) bx.1 bx.2)
  rw [← HL.out, HUP.out] at HC
  have k0 : (0 : Int) ≤ (k : Int) := by omega
  have k1 : (k : Int) < (L : Int) := by omega
  clear hcl hwu J3 J5 O3 O5 hu hk hm hx
  go_wp2_with fail
  refine HC.out.mono ?_
  rintro e w7 ⟨rfl, hb7⟩
  go_wp2
  go_ret
  exact ⟨rfl, bel_trans (bel_trans (bel_trans hb12 hb35) hb6) hb7⟩

set_option maxRecDepth 100000 in
theorem treePaths_lifted (os : Os) (started : os.Started) (H : Type) (enc : TypeId × Value → H) :
    ReturnsInHanded {} Try.checked os 8 .any (Rows.treePathsSpec.pre6 enc Try.prog Try.f8 Rows.treePathsRow.domain false) (Rows.treePathsSpec.post enc Try.prog Try.f8 false true false false) := by
  refine lift_law (fn := Try.f8) started (by kernel_rfl) Try.func8
    (ChangeSpec.witness6 (enc := enc) (C := Try.checked) false ⟨#[], #[.slice none 0 0, .int .i64 0], []⟩ 8 (by kernel_rfl) (by kernel_rfl) (by kernel_rfl) (by kernel_rfl)) (by kernel_rfl) rfl Try.underlying4 rfl ?_ ?_
  · intro ds h
    rw [Try.params8] at h
    match ds, h with
    | [d0, d1], _ => rfl
  · intro W args ds ps hA hlt hval hsz
    rw [Try.params8] at hA hval hsz
    obtain ⟨v0, vs0, d0, ds0, p0, q0, hargs, rfl, rfl, H0, T0⟩ := trodAll_cons hA
    obtain ⟨v1, vs1, d1, ds1, p1, q1, rfl, rfl, rfl, H1, T1⟩ := trodAll_cons T0
    obtain ⟨rfl, rfl, rfl⟩ := trodAll_nil T1
    obtain rfl : args = #[v0, v1] := by cases args; simp_all
    obtain ⟨b0, hv0⟩ := hval 0 25 v0 rfl rfl
    obtain ⟨b1, hv1⟩ := hval 1 3 v1 rfl rfl
    obtain ⟨A, n, c, xs, rfl, hx, l1, l2, _⟩ := arg_ints (fun _ => rfl) hv0 H0
    obtain ⟨i, rfl, _⟩ := arg_int hv1 H1
    have hmx : maxLen = 9223372036854775807 := rfl
    exact treePaths_walk A n c xs i W hx l1 (by omega)
theorem TreePaths_holds : Rows.TreePathsSaid :=
  OpenClaim.holds_of_wide 8 Try.f8 rfl rfl rfl rfl rfl rfl rfl ⟨rfl, rfl, rfl, rfl, rfl⟩ rfl rfl rfl rfl rfl (by kernel_rfl) Try.func8 (by kernel_rfl)
    (of_decide_eq_true (by kernel_rfl)) (by unfold Func.isWrapper; first | (rw [if_pos (by decide +kernel)]; kernel_rfl) | (rw [if_neg (by decide +kernel)]; exact ⟨rfl, rfl⟩))
    (fun os started H enc _ => treePaths_lifted os started H enc)

end Go.Proofs.Ytejkkbjepgghlaa
