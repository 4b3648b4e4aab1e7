/- The law DigestSays holds of the given program for every input. No condition. -/
import Derived.Test.YtgfidgepplfcbaaDigNum
import Derived.Test.YtgfidgepplfcbaaArgs
import Derived.Deep.DeepCutAuto
import Derived.Deep.CutBlock
namespace Go.Proofs.Ytgfidgepplfcbaa
open Go.ChangeShapes Go.WideShapes Go.ChangeAt Go.RowKit Pl

def numO (xs : List Int) : List Int := if 200 < xs.length then [] else numL xs
theorem numO_len (xs : List Int) : (numO xs).length ≤ 200 := by
  unfold numO
  split
  · simp
  · rw [numL_length]; omega
/-- A list of numbers without a sign beside an error, what lay untouched. -/
def ListU (w : World) (xs : List Int) (x : Int) (e : Ending) (w' : World) : Prop :=
  ∃ A c, e = .returned (.tuple #[.slice A xs.length c, .int .i64 x]) ∧ Ints .u64 w' A xs.length xs ∧ Below w.heap.size w w'
theorem dig_Numbers_any (A : Option Addr) (n c : Nat) (xs : List Int) (w : World) (hx : Ints .i64 w A n xs) :
    Calls Try.prog 40 #[.slice A n c] w (ListU w (numO xs) (ofE xs)) := by
  unfold numO ofE
  rw [hx.len]
  by_cases h : 200 < n
  · rw [if_pos h, if_pos h]
    exact (dig_Numbers_no A n c w h).mono fun e w' ⟨he, hw⟩ => ⟨none, 0, he, Ints.nil _ _ _, hw ▸ Below.refl _ _⟩
  · rw [if_neg h, if_neg h]
    exact (dig_Numbers_ok A n c xs w hx (by omega)).mono fun e w' ⟨B, c', he, ho, hb⟩ => ⟨B, c', he, Ints.of_own ho rfl, hb⟩

def DsA (w : World) (kind : Int) (xs : List Int) (e v : Value) (wx : World) : Prop := e = .int .i64 (ofE xs) ∧ v = .int .u64 (ofO kind xs) ∧ Below w.heap.size w wx
def DsB (w : World) (ns : List Int) (e v : Value) (wx : World) : Prop := e = .int .i64 (ofE ns) ∧ Below w.heap.size w wx ∧ ∃ A c, v = .slice A (numO ns).length c ∧ Ints .u64 wx A (numO ns).length (numO ns)

set_option maxRecDepth 100000 in
set_option maxHeartbeats 4000000 in
theorem digestSays_walk (kind a b : Int) (A B : Option Addr) (n c m d : Nat) (xs ns : List Int) (w : World) (hx : Ints .u64 w A n xs) (hu : U64 xs) (hy : Ints .i64 w B m ns)
    (k0 : 0 ≤ kind) (k1 : kind < 18446744073709551616) (a0 : 0 ≤ a) (a1 : a < 18446744073709551616) (b0 : 0 ≤ b) (b1 : b < 18446744073709551616) :
    Calls Try.prog 7 #[.int .u64 kind, .slice A n c, .slice B m d, .int .u64 a, .int .u64 b] w fun e w' => e = .returned (.bool true) ∧ Below w.heap.size w w' := by
  have HO := Lib.hid (fun W (q : Ints .u64 W A n xs) => dig_Of kind A n c xs W k0 k1 q hu)
  have HP := Lib.hid (fun W => dig_Pair a b W a0 a1 b0 b1)
  have HW := Lib.hid (fun W => dig_Word a b W a0 a1 b0 b1)
  have HRP := Lib.hid (fun W => ref_PairD a b W a0 a1 b0 b1)
  have HRW := Lib.hid (fun W => ref_WordD a b W a0 a1 b0 b1)
  have HRO := Lib.hid (fun W (q : Ints .u64 W A n xs) (hn : n ≤ 200) => ref_Of kind A n c xs W k0 k1 q hu (by omega))
  clear k0 k1 a0 a1 b0 b1
  go_enter Try.func7, Try.ntmps7
  go_upto_if 21 with fail
  go_cut [11, 13] (fun e v wx => DsA w kind xs e v wx)
  case first =>
    by_cases h : 200 < n
    · have F1 := Lib.hid (show ofE xs = 2 by unfold ofE; rw [hx.len, if_pos h])
      have F2 := Lib.hid (show ofO kind xs = 0 by unfold ofO; rw [hx.len, if_pos h])
      go_wp2
      go_meet
      case rel => exact ⟨by rw [F1.out], by rw [F2.out], Below.refl _ _⟩
    · have F1 := Lib.hid (show ofE xs = 0 by unfold ofE; rw [hx.len, if_neg h])
      have F2 := Lib.hid (show ofO kind xs = ofI kind xs by unfold ofO; rw [hx.len, if_neg h])
      go_wp2_with (go_at_call 37; refine (HRO.out _ hx (by omega)).mono ?_; rintro e w1 ⟨rfl, hb⟩)
      go_meet
      case rel => exact ⟨by rw [F1.out], by rw [F2.out], hb⟩
  case rest =>
    obtain ⟨rfl, rfl, hb⟩ := hcut
    obtain ⟨wa, rfl⟩ : ∃ wa : World, wa = wc := ⟨_, rfl⟩
    have hxa := hx.below hb
    have hya := hy.below hb
    go_upto_if 27 with fail
    go_cut [12, 14] (fun e v wx => DsB wa ns e v wx)
    case first =>
      by_cases h : 200 < m
      · have F1 := Lib.hid (show ofE ns = 2 by unfold ofE; rw [hy.len, if_pos h])
        have F2 := Lib.hid (show numO ns = [] by unfold numO; rw [hy.len, if_pos h])
        go_wp2
        go_meet
        case rel => exact ⟨by rw [F1.out], Below.refl _ _, none, 0, by rw [F2.out]; rfl, by rw [F2.out]; exact Ints.nil _ _ _⟩
      · have F1 := Lib.hid (show ofE ns = 0 by unfold ofE; rw [hy.len, if_neg h])
        have F2 := Lib.hid (show numO ns = numL ns by unfold numO; rw [hy.len, if_neg h])
        go_wp2_with (go_at_call 38; refine (ref_Numbers B m d ns _ hya (by omega)).mono ?_; rintro e w1 ⟨A', c', rfl, ho, hb1⟩)
        go_meet
        case rel => exact ⟨by rw [F1.out], hb1, A', c', by rw [F2.out], by rw [F2.out]; exact Ints.of_own ho rfl⟩
    case rest =>
      obtain ⟨rfl, hbc, A', c', rfl, hI⟩ := hcut
      obtain ⟨wb, rfl⟩ : ∃ wb : World, wb = wc := ⟨_, rfl⟩
      have hbw := hb.trans (hbc.mono hb.size)
      have hl := numO_len ns
      go_wp2_with fail
      refine (HO.out _ (hxa.below hbc)).mono ?_
      rintro e w1 ⟨rfl, hb1⟩
      go_wp2_with fail
      refine (dig_Numbers_any B m d ns _ ((hya.below hbc).below hb1)).mono ?_
      rintro e w2 ⟨A2, c2, rfl, hI2, hb2⟩
      have hb12 := bel_trans hb1 hb2
      have hI' := hI.below hb12
      go_wp2_with fail
      refine (equalU_any A2 A' _ c2 c' _ _ _ _ hI2 hI' (by omega)).mono ?_
      rintro e w3 ⟨rfl, k3, rfl⟩
      rw [decide_eq_true rfl]
      go_wp2_with fail
      refine (HP.out _).mono ?_
      rintro e w4 ⟨rfl, hb4⟩
      go_wp2_with fail
      refine (HRP.out _).mono ?_
      rintro e w5 ⟨rfl, hb5⟩
      go_wp2_with fail
      refine (HW.out _).mono ?_
      rintro e w6 ⟨rfl, hb6⟩
      go_wp2_with fail
      refine (HRW.out _).mono ?_
      rintro e w7 ⟨rfl, hb7⟩
      go_wp2
      go_ret
      have hz : Below w.heap.size w (w2.drewN k3) := bel_drewN (hbw.trans (hb12.mono hbw.size)) _
      exact ⟨rfl, hz.trans ((bel_trans (bel_trans (bel_trans hb4 hb5) hb6) hb7).mono hz.size)⟩

set_option maxRecDepth 100000 in
theorem digestSays_lifted (os : Os) (started : os.Started) (H : Type) (enc : TypeId × Value → H) :
    ReturnsInHanded {} Try.checked os 7 .any (Rows.digestSaysSpec.pre6 enc Try.prog Try.f7 Rows.digestSaysRow.domain false) (Rows.digestSaysSpec.post enc Try.prog Try.f7 false true false false) := by
  refine lift_law (fn := Try.f7) started (by kernel_rfl) Try.func7
    (ChangeSpec.witness6 (enc := enc) (C := Try.checked) false ⟨#[], #[.int .u64 0, .slice none 0 0, .slice none 0 0, .int .u64 0, .int .u64 0], []⟩ 8 (by kernel_rfl) (by kernel_rfl) (by kernel_rfl) (by kernel_rfl)) (by kernel_rfl) rfl Try.underlying4 rfl ?_ ?_
  · intro ds h
    rw [Try.params7] at h
    match ds, h with
    | [d0, d1, d2, d3, d4], _ => rfl
  · intro W args ds ps hA hlt hval hsz
    rw [Try.params7] at hA hval hsz
    obtain ⟨v0, vs0, d0, ds0, p0, q0, hargs, rfl, rfl, H0, T0⟩ := trodAll_cons hA
    obtain ⟨v1, vs1, d1, ds1, p1, q1, rfl, rfl, rfl, H1, T1⟩ := trodAll_cons T0
    obtain ⟨v2, vs2, d2, ds2, p2, q2, rfl, rfl, rfl, H2, T2⟩ := trodAll_cons T1
    obtain ⟨v3, vs3, d3, ds3, p3, q3, rfl, rfl, rfl, H3, T3⟩ := trodAll_cons T2
    obtain ⟨v4, vs4, d4, ds4, p4, q4, rfl, rfl, rfl, H4, T4⟩ := trodAll_cons T3
    obtain ⟨rfl, rfl, rfl⟩ := trodAll_nil T4
    obtain rfl : args = #[v0, v1, v2, v3, v4] := by cases args; simp_all
    obtain ⟨b0, hv0⟩ := hval 0 42 v0 rfl rfl
    obtain ⟨b1, hv1⟩ := hval 1 61 v1 rfl rfl
    obtain ⟨b2, hv2⟩ := hval 2 22 v2 rfl rfl
    obtain ⟨b3, hv3⟩ := hval 3 42 v3 rfl rfl
    obtain ⟨b4, hv4⟩ := hval 4 42 v4 rfl rfl
    obtain ⟨kk, rfl, y0⟩ := arg_u64 hv0 H0
    obtain ⟨A, n, c, xs, rfl, hx, l1, l2, hwf⟩ := arg_u64s (fun _ => rfl) hv1 H1
    obtain ⟨B, m, e, ns, rfl, hy, l3, l4, _⟩ := arg_ints (fun _ => rfl) hv2 H2
    obtain ⟨aa, rfl, y3⟩ := arg_u64 hv3 H3
    obtain ⟨bb, rfl, y4⟩ := arg_u64 hv4 H4
    have z0 := wf_u64 y0
    have z3 := wf_u64 y3
    have z4 := wf_u64 y4
    exact digestSays_walk kk aa bb A B n c m e xs ns W hx (.of_wf hwf) hy (by omega) (by omega) (by omega) (by omega) (by omega) (by omega)
theorem DigestSays_holds : Rows.DigestSaysSaid :=
  OpenClaim.holds_of_wide 7 Try.f7 rfl rfl rfl rfl rfl rfl rfl ⟨rfl, rfl, rfl, rfl, rfl⟩ rfl rfl rfl rfl rfl (by kernel_rfl) Try.func7 (by kernel_rfl)
    (of_decide_eq_true (by kernel_rfl)) (by unfold Func.isWrapper; first | (rw [if_pos (by decide +kernel)]; kernel_rfl) | (rw [if_neg (by decide +kernel)]; exact ⟨rfl, rfl⟩))
    (fun os started H enc _ => digestSays_lifted os started H enc)

end Go.Proofs.Ytgfidgepplfcbaa
