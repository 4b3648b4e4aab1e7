/- The law TreeSays holds of the given program for every input. No condition. -/
import Derived.Test.YtejkkbjepgghlaaTreeC
import Derived.Test.YtejkkbjepgghlaaArgs
import Derived.Deep.DeepCutAuto
import Derived.Deep.CutBlock
import Derived.Outline
namespace Go.Proofs.Ytejkkbjepgghlaa
open Go.ChangeShapes Go.WideShapes Go.ChangeAt Go.RowKit Pl

/-- A list that is told: its value, its numbers. -/
def ToldU (w : World) (L : List Int) (v : Value) : Prop := ∃ A c, v = .slice A L.length c ∧ Ints .u64 w A L.length L
theorem ToldU.nil (w : World) : ToldU w [] (.slice none 0 0) := ⟨none, 0, rfl, Ints.nil _ _ _⟩
theorem lvO_len (xs : List Int) : (lvO xs).length ≤ 50 := by
  unfold lvO
  split
  · rename_i h
    have := lvE_ok h
    rw [leavesI_length]; omega
  · simp
theorem pathO_len (xs : List Int) (i : Int) : (pathO xs i).length ≤ 50 := by
  unfold pathO
  split
  · rename_i h
    have h1 : lvE xs.length = 0 := by
      unfold pathE at h
      by_cases h0 : lvE xs.length = 0
      · exact h0
      · rw [if_pos h0] at h; exact absurd h h0
    have h2 := lvE_ok h1
    rw [wayI_length, leavesI_length]
    have := deepP_le ((xs.length + 3) / 4) i.toNat (by omega)
    omega
  · simp
/-- Behind the law's first parts: what it expects of Leaves, Root and Path. -/
def TsA (w : World) (pe ro : Int) (LV WY : List Int) (f lv wy rt : Value) (wx : World) : Prop :=
  f = .int .i64 pe ∧ rt = .int .u64 ro ∧ ToldU wx LV lv ∧ ToldU wx WY wy ∧ Below w.heap.size w wx
/-- .. of Climb. -/
def TsB (w : World) (ce co : Int) (g up : Value) (wx : World) : Prop := g = .int .i64 ce ∧ up = .int .u64 co ∧ Below w.heap.size w wx

set_option maxRecDepth 100000 in
set_option maxHeartbeats 4000000 in
theorem treeSays_walk (i n leaf : Int) (A B : Option Addr) (m c d e' : Nat) (xs path : List Int) (w : World) (hx : Ints .i64 w A m xs) (hp : Ints .u64 w B d path) (hu : U64 path) (hc : m ≤ c) (hm : m ≤ 9223372036854775807) (hd : d ≤ e') (hi : -9223372036854775808 ≤ i ∧ i ≤ 9223372036854775807) (hn : -9223372036854775808 ≤ n ∧ n ≤ 9223372036854775807)
    (l0 : 0 ≤ leaf) (l1 : leaf < 18446744073709551616) :
    Calls Try.prog 9 #[.slice A m c, .int .i64 i, .int .i64 n, .int .u64 leaf, .slice B d e'] w fun e w' => e = .returned (.bool true) ∧ Below w.heap.size w w' := by
  have HCL := Lib.hid (fun W (q : Ints .u64 W B d path) => tree_Climb_any i n leaf B d e' path W q hu l0 l1)
  have HUP := Lib.hid (fun (f : Nat) W (q : Ints .u64 W B d path) (k mm : Nat) h1 h2 h3 h4 h5 => ref_Up f B d e' path k mm leaf W h1 h2 h3 h4 hd h5 q hu l0 l1)
  have HUB := Lib.hid (fun k mm => upI_u64 k mm leaf path ⟨l0, l1⟩)
  have hl0 := hx.len
  have HPL := Lib.hid hp.len
  have HXL := Lib.hid hl0
  clear l0 l1 hl0
  go_enter Try.func9, Try.ntmps9
  go_upto_block 0 with fail
  go_cut [11] (fun e wx => e = .int .i64 (lvE m) ∧ wx = w)
  case first =>
    by_cases h0 : m = 0
    · have F := Lib.hid (show lvE m = 1 by unfold lvE; rw [if_pos h0])
      have t : ((m : Int) == 0) = true := by rw [beq_iff_eq]; omega
      clear h0
      go_wp2
      go_meet
      case rel => exact ⟨by rw [F.out], rfl⟩
    · have t : ((m : Int) == 0) = false := by rw [beq_eq_false_iff_ne]; omega
      by_cases h2 : 200 < m
      · have F := Lib.hid (show lvE m = 2 by unfold lvE; rw [if_neg h0, if_pos h2])
        clear h0
        go_wp2
        go_meet
        case rel => exact ⟨by rw [F.out], rfl⟩
      · have F := Lib.hid (show lvE m = 0 by unfold lvE; rw [if_neg h0, if_neg h2])
        clear h0
        go_wp2
        go_meet
        case rel => exact ⟨by rw [F.out], rfl⟩
  case rest =>
  obtain ⟨rfl, rfl⟩ := hcut
  go_upto_if 36 with fail
  go_cut [12, 13, 14, 15] (fun f lv wy rt wx => TsA wc (pathE m i) (rootO xs) (lvO xs) (pathO xs i) f lv wy rt wx)
  case first =>
    by_cases h : lvE m = 0
    · obtain ⟨m1, m2⟩ := lvE_ok h
      have t : (lvE m == 0) = true := by rw [beq_iff_eq]; exact h
      have F1 := Lib.hid (show lvO xs = leavesI xs from if_pos (by rw [HXL.out]; exact h))
      have F2 := Lib.hid (show rootO xs = rootI xs from if_pos (by rw [HXL.out]; exact h))
      have HN := Lib.hid (show (leavesI xs).length = (m + 3) / 4 by rw [leavesI_length, HXL.out])
      have hlu := leavesI_u64 xs
      obtain ⟨k, hk⟩ : ∃ k, k = (m + 3) / 4 := ⟨_, rfl⟩
      have k1 : 1 ≤ k ∧ k ≤ 50 := by omega
      rw [← hk] at HN
      have HK := Lib.hid hk
      have HLV := Lib.hid (fun W (q : Ints .i64 W A m xs) => ref_Leaves A m c xs W q m2 hc)
      have HRT := Lib.hid (fun W (q : Ints .i64 W A m xs) => ref_Root A m c xs W q m1 m2 hc)
      obtain ⟨lv, hlv⟩ : ∃ lv, lv = leavesI xs := ⟨_, rfl⟩
      have HV := Lib.hid hlv
      rw [← hlv] at HLV HN F1 hlu
      cases hI : inB i 0 ((k : Int) - 1)
      · have G1 := Lib.hid (show pathE m i = 1 by unfold pathE; rw [if_neg (by simp [h]), ← HK.out, if_neg (by rw [hI]; decide)])
        have G2 := Lib.hid (show pathO xs i = [] from if_neg (by rw [HXL.out, G1.out]; decide))
        clear hk hlv h m1 m2
        go_wp2_with fail
        refine (HLV.out _ hx).mono ?_
        rintro e w1 ⟨S, sc, rfl, hown, hb1⟩
        rw [HN.out] at hown ⊢
        go_wp2_with fail
        refine (HRT.out _ (hx.below hb1)).mono ?_
        rintro e w2 ⟨rfl, hb2⟩
        have hI2 := (Ints.of_own hown HN.out).below hb2
        go_wp2_with (go_at_call 15; refine (ref_In _ _ _ _).mono ?_; rintro e w' ⟨rfl, rfl⟩; rw [hI])
        go_meet
        case rel => exact ⟨by rw [G1.out], by rw [F2.out], ⟨S, sc, by rw [F1.out, HN.out], by rw [F1.out, HN.out]; exact hI2⟩, by rw [G2.out]; exact ToldU.nil _, bel_trans hb1 hb2⟩
      · obtain ⟨i1, i2⟩ := inB_iffT.1 hI
        have G1 := Lib.hid (show pathE m i = 0 by unfold pathE; rw [if_neg (by simp [h]), ← HK.out, if_pos hI])
        obtain ⟨j, rfl⟩ : ∃ j : Nat, i = (j : Int) := ⟨i.toNat, by omega⟩
        have G2 := Lib.hid (show pathO xs (j : Int) = wayI lv j by rw [HV.out]; exact if_pos (by rw [HXL.out, G1.out]))
        clear hk hlv h m1 m2
        go_wp2_with fail
        refine (HLV.out _ hx).mono ?_
        rintro e w1 ⟨S, sc, rfl, hown, hb1⟩
        have hcap := own_capT hown
        rw [HN.out] at hown hcap ⊢
        go_wp2_with fail
        refine (HRT.out _ (hx.below hb1)).mono ?_
        rintro e w2 ⟨rfl, hb2⟩
        have hI2 := (Ints.of_own hown HN.out).below hb2
        go_wp2_with (go_at_call 15; refine (ref_In _ _ _ _).mono ?_; rintro e w' ⟨rfl, rfl⟩; rw [hI])
        refine (ref_Way k S k sc lv j _ (Nat.le_refl _) k1.1 hcap (by omega) hI2 hlu (by omega)).mono ?_
        rintro e w3 ⟨S3, s3, rfl, hown3, hb3⟩
        go_wp2
        go_meet
        case rel => exact ⟨by rw [G1.out], by rw [F2.out], ⟨S, sc, by rw [F1.out, HN.out], by rw [F1.out, HN.out]; exact hI2.below hb3⟩, ⟨S3, s3, by rw [G2.out], by rw [G2.out]; exact Ints.of_own hown3 rfl⟩, bel_trans (bel_trans hb1 hb2) hb3⟩
    · have t : (lvE m == 0) = false := by rw [beq_eq_false_iff_ne]; exact h
      have F1 := Lib.hid (show lvO xs = [] from if_neg (by rw [HXL.out]; exact h))
      have F2 := Lib.hid (show rootO xs = 0 from if_neg (by rw [HXL.out]; exact h))
      have G1 := Lib.hid (show pathE m i = lvE m by unfold pathE; rw [if_pos h])
      have G2 := Lib.hid (show pathO xs i = [] from if_neg (by rw [HXL.out, G1.out]; exact h))
      clear h
      go_wp2
      go_meet
      case rel => exact ⟨by rw [G1.out], by rw [F2.out], by rw [F1.out]; exact ToldU.nil _, by rw [G2.out]; exact ToldU.nil _, Below.refl _ _⟩
  case rest =>
  obtain ⟨rfl, rfl, hLV, hWY, hba⟩ := hcut
  obtain ⟨wa, rfl⟩ : ∃ wa : World, wa = wc := ⟨_, rfl⟩
  go_upto_block 1 with fail
  go_cut [16, 17] (fun g up wx => TsB wa (climbE i n d) (climbO i n leaf path) g up wx)
  case first =>
    have hpa := hp.below hba
    by_cases hB : climbB i n
    · have hB' := hB
      obtain ⟨⟨n1, n2⟩, i1, i2⟩ := hB
      obtain ⟨k, rfl⟩ : ∃ k : Nat, i = (k : Int) := ⟨i.toNat, by omega⟩
      obtain ⟨N, rfl⟩ : ∃ N : Nat, n = (N : Int) := ⟨n.toNat, by omega⟩
      obtain ⟨r, hr⟩ : ∃ r : Nat, r = (N - 1) / 4 := ⟨_, rfl⟩
      have q1 : ((N : Int) - 1) / 4 = (r : Int) := by omega
      have q2 : (N + 3) / 4 = r + 1 := by omega
      have q3 : (k : Int) ≤ (r : Int) := by omega
      have q4 : (r : Int) ≤ 60 := by omega
      have hI : inB (N : Int) 1 200 = true := inB_yes ⟨n1, n2⟩
      have HD := Lib.hid (fun W => ref_Deep (r + 1) k (r + 1) W (Nat.le_refl _) (by omega) (by omega) (by omega))
      rw [show ((r + 1 : Nat) : Int) = (r : Int) + 1 by omega] at HD
      by_cases hL : d = deepP k (r + 1)
      · have E1 := Lib.hid (show climbE k N d = 0 by unfold climbE; rw [if_pos hB', if_pos (by simpa [q2] using hL)])
        have E2 := Lib.hid (show climbO k N leaf path = pairI N (upI k (r + 1) leaf path) by
          unfold climbO
          rw [HPL.out, if_pos E1.out]
          simp [q2])
        have HU := Lib.hid (fun W (q : Ints .u64 W B d path) => HUP.out (r + 1) W q k (r + 1) (Nat.le_refl _) (by omega) (by omega) (by omega) hL)
        rw [show ((r + 1 : Nat) : Int) = (r : Int) + 1 by omega] at HU
        have gu := HUB.out k (r + 1)
        have U := u64_len (n := N) (by omega)
        have tl : ((d : Int) != ((deepP k (r + 1) : Nat) : Int)) = false := by rw [bne_eq_false_iff_eq, hL]
        obtain ⟨up, hup⟩ : ∃ up, up = upI k (r + 1) leaf path := ⟨_, rfl⟩
        rw [← hup] at HU gu E2
        obtain ⟨D, hD⟩ : ∃ D, D = deepP k (r + 1) := ⟨_, rfl⟩
        rw [← hD] at HD tl
        clear hL q2 hr hB' hup hD i2 hLV hWY
        go_wp2_with (go_at_call 15; refine (ref_In _ _ _ _).mono ?_; rintro e w' ⟨rfl, rfl⟩; rw [hI])
        refine (HD.out _).mono ?_
        rintro e w' ⟨rfl, rfl⟩
        go_wp2_with fail
        refine (HU.out _ hpa).mono ?_
        rintro e w1 ⟨rfl, hb1⟩
        go_wp2_with fail
        refine (ref_PairD N up _ (by omega) (by omega) gu.1 gu.2).mono ?_
        rintro e w2 ⟨rfl, hb2⟩
        go_wp2
        go_meet
        case rel => exact ⟨by rw [E1.out], by rw [E2.out], bel_trans hb1 hb2⟩
      · have E1 := Lib.hid (show climbE k N d = 5 by unfold climbE; rw [if_pos hB', if_neg (by simpa [q2] using hL)])
        have E2 := Lib.hid (show climbO k N leaf path = 0 from if_neg (by rw [HPL.out, E1.out]; decide))
        have tl : ((d : Int) != ((deepP k (r + 1) : Nat) : Int)) = true := by rw [bne_iff_ne]; omega
        obtain ⟨D, hD⟩ : ∃ D, D = deepP k (r + 1) := ⟨_, rfl⟩
        rw [← hD] at HD tl
        clear hL q2 hr hB' hD i2 hLV hWY
        go_wp2_with (go_at_call 15; refine (ref_In _ _ _ _).mono ?_; rintro e w' ⟨rfl, rfl⟩; rw [hI])
        refine (HD.out _).mono ?_
        rintro e w' ⟨rfl, rfl⟩
        go_wp2
        go_meet
        case rel => exact ⟨by rw [E1.out], by rw [E2.out], Below.refl _ _⟩
    · have E1 := Lib.hid (show climbE i n d = 1 by unfold climbE; rw [if_neg hB])
      have E2 := Lib.hid (show climbO i n leaf path = 0 from if_neg (by rw [HPL.out, E1.out]; decide))
      unfold climbB at hB
      cases hI : inB n 1 200
      · clear hB hLV hWY
        go_wp2_with (go_at_call 15; refine (ref_In _ _ _ _).mono ?_; rintro e w' ⟨rfl, rfl⟩; rw [hI])
        go_meet
        case rel => exact ⟨by rw [E1.out], by rw [E2.out], Below.refl _ _⟩
      · obtain ⟨n1, n2⟩ := inB_iffT.1 hI
        by_cases h0 : i < 0
        · clear hB hLV hWY
          go_wp2_with (go_at_call 15; refine (ref_In _ _ _ _).mono ?_; rintro e w' ⟨rfl, rfl⟩; rw [hI])
          go_meet
          case rel => exact ⟨by rw [E1.out], by rw [E2.out], Below.refl _ _⟩
        · have h1 : (n - 1) / 4 < i := by omega
          clear hB hLV hWY
          go_wp2_with (go_at_call 15; refine (ref_In _ _ _ _).mono ?_; rintro e w' ⟨rfl, rfl⟩; rw [hI])
          go_meet
          case rel => exact ⟨by rw [E1.out], by rw [E2.out], Below.refl _ _⟩
  case rest =>
  obtain ⟨rfl, rfl, hbb⟩ := hcut
  obtain ⟨wb, rfl⟩ : ∃ wb : World, wb = wc := ⟨_, rfl⟩
  obtain ⟨A1, c1, rfl, I1⟩ := hLV
  obtain ⟨A2, c2, rfl, I2⟩ := hWY
  have l1 := lvO_len xs
  have l2 := pathO_len xs i
  have hbw := bel_trans hba hbb
  have hxb := hx.below hbw
  have hpb := hp.below hbw
  have J1 := I1.below hbb
  have J2 := I2.below hbb
  go_wp2_with fail
  refine (tree_Leaves_any A m c xs _ hxb hc hm).mono ?_
  rintro e w1 ⟨S1, s1, rfl, O1, hb1⟩
  go_wp2_with fail
  refine (tree_Root_any A m c xs _ (hxb.below hb1) hc hm).mono ?_
  rintro e w2 ⟨rfl, hb2⟩
  have hb12 := bel_trans hb1 hb2
  go_wp2_with fail
  refine (tree_Path_any A m c i xs _ (hxb.below hb12) hc hm).mono ?_
  rintro e w3 ⟨S3, s3, rfl, O3, hb3⟩
  have hb13 := bel_trans hb12 hb3
  go_wp2_with fail
  refine (HCL.out _ (hpb.below hb13)).mono ?_
  rintro e w4 ⟨rfl, hb4⟩
  have hb14 := bel_trans hb13 hb4
  have K1 := ((Ints.of_own O1 rfl).below (bel_trans (bel_trans hb2 hb3) hb4))
  have K3 := (Ints.of_own O3 rfl).below hb4
  have M1 := J1.below hb14
  have M2 := J2.below hb14
  clear I1 I2 J1 J2 O1 O3 hxb hpb
  go_wp2_with fail
  refine (equalU_any S1 A1 _ s1 c1 _ _ _ _ K1 M1 (by omega)).mono ?_
  rintro e w5 ⟨rfl, k5, rfl⟩
  rw [decide_eq_true rfl]
  go_wp2_with fail
  refine (equalU_any S3 A2 _ s3 c2 _ _ _ _ (K3.drewN _) (M2.drewN _) (by omega)).mono ?_
  rintro e w6 ⟨rfl, k6, rfl⟩
  rw [decide_eq_true rfl]
  go_wp2
  go_ret
  have hz := hbw.trans (hb14.mono hbw.size)
  exact ⟨rfl, bel_drewN hz _⟩

set_option maxRecDepth 100000 in
theorem treeSays_lifted (os : Os) (started : os.Started) (H : Type) (enc : TypeId × Value → H) :
    ReturnsInHanded {} Try.checked os 9 .any (Rows.treeSaysSpec.pre6 enc Try.prog Try.f9 Rows.treeSaysRow.domain false) (Rows.treeSaysSpec.post enc Try.prog Try.f9 false true false false) := by
  refine lift_law (fn := Try.f9) started (by kernel_rfl) Try.func9
    (ChangeSpec.witness6 (enc := enc) (C := Try.checked) false ⟨#[], #[.slice none 0 0, .int .i64 0, .int .i64 0, .int .u64 0, .slice none 0 0], []⟩ 8 (by kernel_rfl) (by kernel_rfl) (by kernel_rfl) (by kernel_rfl)) (by kernel_rfl) rfl Try.underlying4 rfl ?_ ?_
  · intro ds h
    rw [Try.params9] at h
    match ds, h with
    | [d0, d1, d2, d3, d4], _ => rfl
  · intro W args ds ps hA hlt hval hsz
    rw [Try.params9] at hA hval hsz
    obtain ⟨v0, vs0, d0, ds0, p0, q0, hargs, rfl, rfl, H0, T0⟩ := trodAll_cons hA
    obtain ⟨v1, vs1, d1, ds1, p1, q1, rfl, rfl, rfl, H1, T1⟩ := trodAll_cons T0
    obtain ⟨v2, vs2, d2, ds2, p2, q2, rfl, rfl, rfl, H2, T2⟩ := trodAll_cons T1
    obtain ⟨v3, vs3, d3, ds3, p3, q3, rfl, rfl, rfl, H3, T3⟩ := trodAll_cons T2
    obtain ⟨v4, vs4, d4, ds4, p4, q4, rfl, rfl, rfl, H4, T4⟩ := trodAll_cons T3
    obtain ⟨rfl, rfl, rfl⟩ := trodAll_nil T4
    obtain rfl : args = #[v0, v1, v2, v3, v4] := by cases args; simp_all
    obtain ⟨b0, hv0⟩ := hval 0 25 v0 rfl rfl
    obtain ⟨b1, hv1⟩ := hval 1 3 v1 rfl rfl
    obtain ⟨b2, hv2⟩ := hval 2 3 v2 rfl rfl
    obtain ⟨b3, hv3⟩ := hval 3 22 v3 rfl rfl
    obtain ⟨b4, hv4⟩ := hval 4 64 v4 rfl rfl
    obtain ⟨A, m, c, xs, rfl, hx, l1, l2, _⟩ := arg_ints (fun _ => rfl) hv0 H0
    obtain ⟨i, rfl, y1⟩ := arg_int hv1 H1
    obtain ⟨n, rfl, y2⟩ := arg_int hv2 H2
    obtain ⟨leaf, rfl, y3⟩ := arg_u64 hv3 H3
    obtain ⟨B, d, e, path, rfl, hp, l3, l4, hwf⟩ := arg_u64s (fun _ => rfl) hv4 H4
    have z3 := wf_u64 y3
    have hmx : maxLen = 9223372036854775807 := rfl
    exact treeSays_walk i n leaf A B m c d e xs path W hx hp (.of_wf hwf) l1 (by omega) l3 (wf_i64 y1) (wf_i64 y2) (by omega) (by omega)
theorem TreeSays_holds : Rows.TreeSaysSaid :=
  OpenClaim.holds_of_wide 9 Try.f9 rfl rfl rfl rfl rfl rfl rfl ⟨rfl, rfl, rfl, rfl, rfl⟩ rfl rfl rfl rfl rfl (by kernel_rfl) Try.func9 (by kernel_rfl)
    (of_decide_eq_true (by kernel_rfl)) (by unfold Func.isWrapper; first | (rw [if_pos (by decide +kernel)]; kernel_rfl) | (rw [if_neg (by decide +kernel)]; exact ⟨rfl, rfl⟩))
    (fun os started H enc _ => treeSays_lifted os started H enc)

end Go.Proofs.Ytejkkbjepgghlaa
