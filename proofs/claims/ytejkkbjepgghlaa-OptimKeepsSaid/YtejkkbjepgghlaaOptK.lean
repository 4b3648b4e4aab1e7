/- The law OptimKeeps holds of the given program for every input. No condition but the reach. -/
import Derived.Test.YtejkkbjepgghlaaOptT
import Derived.Test.YtejkkbjepgghlaaVecAny
import Derived.Test.YtejkkbjepgghlaaArgs
import Derived.Deep.DeepCutAuto
import Derived.Deep.CutBlock
import Derived.Outline
import Derived.IntWalk
import Derived.Deep.QuietTactic
import Derived.BigQuiet
namespace Go.Proofs.Ytejkkbjepgghlaa
open Go.ChangeShapes Go.WideShapes Go.ChangeAt Go.RowKit Pl

/-- All numbers of a list with their signs turned. -/
def minusC (xs : List Int) : List Int := xs.map fun n => -clamp n
theorem minusC_length (xs : List Int) : (minusC xs).length = xs.length := List.length_map _
theorem minusC_upto (xs : List Int) : upto (fun j => -clamp (at0 xs j)) xs.length = minusC xs := by
  apply list_ext_at0 (by rw [upto_length, minusC_length])
  intro j hj
  rw [upto_length] at hj
  rw [at0_upto _ hj]
  unfold minusC
  rw [at0_map (fun n => -clamp n) rfl]
theorem clip2 : clipL [-4, 2] 2 = [-2, 1] := by decide +kernel
theorem clipO2 : clipO [-4, 2] 2 = [-2, 1] ∧ clipE 2 2 = 0 := ⟨by unfold clipO; rw [if_pos (by decide +kernel)]; exact clip2, by decide +kernel⟩
theorem clipO_minus (g : List Int) (most : Int) : (clipO (minusC g) most).length = (clipO g most).length := by
  unfold clipO
  rw [minusC_length]
  split
  · rw [clipL_length, clipL_length, minusC_length]
  · rfl
theorem clipL_bd (g : List Int) (most : Int) {k : Nat} (h : k < g.length) : -2147483647 ≤ at0 (clipL g most) k ∧ at0 (clipL g most) k ≤ 2147483647 := by
  rw [clipL_at g most h]
  split
  · exact ⟨clamp_lo _, clamp_hi _⟩
  · exact ⟨clamp_lo _, clamp_hi _⟩
theorem clipE_ok {n : Nat} {most : Int} (h : clipE n most = 0) : n ≤ 200 ∧ 0 ≤ most ∧ most ≤ 2147483647 := by
  unfold clipE at h
  split at h
  · omega
  · rename_i h2
    cases hI : inB most 0 2147483647
    · rw [hI] at h; simp at h
    · obtain ⟨a, b⟩ := inB_iff.1 hI
      exact ⟨by omega, a, b⟩
theorem rateO_bd (x st ra de step : Int) (hra : 0 ≤ ra ∧ ra ≤ 2147483647) (hst : 1 ≤ st ∧ st ≤ 40) (h : rateE x st step = 0) : 0 ≤ rateO x st ra de step ∧ rateO x st ra de step ≤ ra := by
  unfold rateO
  rw [if_pos h]
  have hx : inB step 0 (st - 1) = true := by
    unfold rateE at h
    split at h
    · omega
    · cases hI : inB step 0 (st - 1)
      · rw [hI] at h; simp at h
      · rfl
  obtain ⟨a, b⟩ := inB_iff.1 hx
  exact rateP_le hra.1 hra.2 hst.1 hst.2 a b
theorem stepW_zero {x N nw nm ng hw ke : Int} {wt mv g : List Int} (hw1 : (wt.length : Int) = nw) (hg : (g.length : Int) = ng) (h : stepE x N nw nm ng wt mv 0 = 0) : stepW x N nw nm ng hw ke 0 wt mv g = wt := by
  unfold stepW
  rw [if_pos h]
  unfold stepE at h
  split at h
  · omega
  · split at h
    · omega
    · rename_i h1 h2
      simp only [not_or, ne_eq, Decidable.not_not, Bool.not_eq_false] at h2
      exact weightsL_zero hw ke wt mv g (by omega) h2.2.2.2.1

theorem stepK_40 (ci ch co ba st ra de hw ke cl : Int) {nw nm ng : Int} {wt mv : List Int} {rate : Int} (h : stepE (cfgE ci ch co ba st ra de hw ke cl) (sizeP ci ch co) nw nm ng wt mv rate = 0) : nw ≤ 40 ∧ nm ≤ 40 ∧ ng ≤ 40 := by
  unfold stepE at h
  split at h
  · omega
  · rename_i hx
    have hx' : cfgE ci ch co ba st ra de hw ke cl = 0 := by omega
    obtain ⟨s1, s2, s3, _⟩ := cfgE_ok hx'
    have := sizeP_bd s1 s2 s3
    split at h
    · omega
    · rename_i h1
      simp only [not_or, ne_eq, Decidable.not_not] at h1
      omega

set_option maxRecDepth 100000 in
set_option maxHeartbeats 4000000 in
theorem optimKeeps_walk (ci ch co se ba st ra de hw ke cl : Int) (A1 A2 A3 : Option Addr) (nw nm ng c1 c2 c3 : Nat) (wt mv g : List Int) (most step : Int) (w : World) (i1 : Ints .i64 w A1 nw wt) (i2 : Ints .i64 w A2 nm mv) (i3 : Ints .i64 w A3 ng g)
    (z1 : nw ≤ 9223372036854775807) (z2 : nm ≤ 9223372036854775807) (hs : -9223372036854775808 ≤ step ∧ step ≤ 9223372036854775807) :
    Calls Try.prog 4 #[.agg #[.int .i64 ci, .int .i64 ch, .int .i64 co, .int .u64 se, .int .i64 ba, .int .i64 st, .int .i64 ra, .int .i64 de, .int .i64 hw, .int .i64 ke, .int .i64 cl], .agg #[.slice A1 nw c1, .slice A2 nm c2], .slice A3 ng c3, .int .i64 most, .int .i64 step] w fun e w' => e = .returned (.bool true) ∧ Below w.heap.size w w' := by
  obtain ⟨i0, hi0, hz0, hz1, hz2⟩ := info_parts int_info
  have HB0 := ((Blk.made w 24 #[.int .i64 ci, .int .i64 ch, .int .i64 co, .int .u64 se, .int .i64 ba, .int .i64 st, .int .i64 ra, .int .i64 de, .int .i64 hw, .int .i64 ke, .int .i64 cl]).alloc (.cells #[.slice A1 nw c1, .slice A2 nm c2] 27)).alloc (.cells #[.int .i64 (-4), .int .i64 2] 3)
  have HB1 := (Blk.made' (w.alloc (.cells #[.int .i64 ci, .int .i64 ch, .int .i64 co, .int .u64 se, .int .i64 ba, .int .i64 st, .int .i64 ra, .int .i64 de, .int .i64 hw, .int .i64 ke, .int .i64 cl] 24)) 27 #[.slice A1 nw c1, .slice A2 nm c2] (g := w.heap.size + 1) (by simp)).alloc (.cells #[.int .i64 (-4), .int .i64 2] 3)
  have hM : Ints .i64 (((w.alloc (.cells #[.int .i64 ci, .int .i64 ch, .int .i64 co, .int .u64 se, .int .i64 ba, .int .i64 st, .int .i64 ra, .int .i64 de, .int .i64 hw, .int .i64 ke, .int .i64 cl] 24)).alloc (.cells #[.slice A1 nw c1, .slice A2 nm c2] 27)).alloc (.cells #[.int .i64 (-4), .int .i64 2] 3)) (some ⟨w.heap.size + 1 + 1, 0, none⟩) 2 [-4, 2] := Ints.made ((w.alloc (.cells #[.int .i64 ci, .int .i64 ch, .int .i64 co, .int .u64 se, .int .i64 ba, .int .i64 st, .int .i64 ra, .int .i64 de, .int .i64 hw, .int .i64 ke, .int .i64 cl] 24)).alloc (.cells #[.slice A1 nw c1, .slice A2 nm c2] 27)) [-4, 2] 2 rfl _ rfl (by simp) _
  have HC2 := Lib.hid (opt_Clip_any _ 2 2 [-4, 2] 2 _ hM)
  rw [clipO2.1, clipO2.2] at HC2
  have HRT := Lib.hid (fun W => opt_Rate ci ch co se ba st ra de hw ke cl step W hs)
  have HCL := Lib.hid (fun W (q : Ints .i64 W A3 ng g) => opt_Clip_any A3 ng c3 g most W q)
  have HST := Lib.hid (fun W (q1 : Ints .i64 W A1 nw wt) (q2 : Ints .i64 W A2 nm mv) (q3 : Ints .i64 W A3 ng g) => opt_Step_any ci ch co se ba st ra de hw ke cl A1 A2 A3 nw nm ng c1 c2 c3 wt mv g 0 W q1 q2 q3 (by omega) z2)
  clear hs hM
  go_enter Try.func4, Try.ntmps4
  go_wp2_with fail
  refine HC2.out.mono ?_
  rintro e x1 ⟨L1, k1, rfl, I1, hb1⟩
  replace HB0 := HB0.below hb1 (by simp <;> omega)
  replace HB1 := HB1.below hb1 (by simp <;> omega)
  have hbw : Below w.heap.size w x1 := Below.trans (B := w.heap.size) (by repeat (first | exact Below.refl _ _ | assumption | refine bel_drewN ?_ _ | refine Below.drew ?_ | (refine Below.alloc ?_ (by simp <;> omega) _) | (refine Below.setCell ?_ (by simp <;> omega) _))) (hb1.mono (by simp <;> omega))
  clear hb1
  rw [show ([-2, 1] : List Int).length = 2 from rfl] at I1 ⊢
  have J1 := I1.alloc
  have hM2 : Ints .i64 (x1.alloc (.cells #[.int .i64 (-2), .int .i64 1] 3)) (some ⟨x1.heap.size, 0, none⟩) 2 [-2, 1] := Ints.made x1 [-2, 1] 2 rfl _ rfl rfl _
  go_wp2_with fail
  refine (equalI_any L1 _ 2 k1 2 2 [-2, 1] [-2, 1] _ (by exact J1 _) (by exact hM2) (by omega)).mono ?_
  rintro e x2 ⟨rfl, k2, rfl⟩
  rw [decide_eq_true rfl]
  obtain ⟨x3, hx3⟩ : ∃ x3, x3 = (x1.alloc (.cells #[.int .i64 (-2), .int .i64 1] 3)).drewN k2 := ⟨_, rfl⟩
  rw [← hx3]
  replace HB0 : Blk x3 w.heap.size 24 #[.int .i64 ci, .int .i64 ch, .int .i64 co, .int .u64 se, .int .i64 ba, .int .i64 st, .int .i64 ra, .int .i64 de, .int .i64 hw, .int .i64 ke, .int .i64 cl] := by rw [hx3]; exact (HB0.alloc _).drewN _
  replace HB1 : Blk x3 (w.heap.size + 1) 27 #[.slice A1 nw c1, .slice A2 nm c2] := by rw [hx3]; exact (HB1.alloc _).drewN _
  replace hbw : Below w.heap.size w x3 := by rw [hx3]; exact bel_drewN (hbw.alloc hbw.size _) _
  clear hx3 J1 hM2 I1
  have RB := Lib.hid (fun (h : rateE (cfgE ci ch co ba st ra de hw ke cl) st step = 0) => show 0 ≤ rateO (cfgE ci ch co ba st ra de hw ke cl) st ra de step ∧ rateO (cfgE ci ch co ba st ra de hw ke cl) st ra de step ≤ ra from by
    have hx : cfgE ci ch co ba st ra de hw ke cl = 0 := by
      by_cases hx : cfgE ci ch co ba st ra de hw ke cl = 0
      · exact hx
      · rw [rateE_0 hx] at h; exact absurd h hx
    obtain ⟨_, _, _, _, s5, s6, _⟩ := cfgE_ok hx
    exact rateO_bd _ st ra de step s6 s5 h)
  obtain ⟨z, hz⟩ : ∃ z, z = rateE (cfgE ci ch co ba st ra de hw ke cl) st step := ⟨_, rfl⟩
  obtain ⟨r, hr⟩ : ∃ r, r = rateO (cfgE ci ch co ba st ra de hw ke cl) st ra de step := ⟨_, rfl⟩
  rw [← hz, ← hr] at HRT RB
  clear hz hr
  obtain ⟨d0, d1, d2, d3, d4, d5, d6, d7, d8, d9, da⟩ := HB0.cfg
  go_upto_region 5 with (go_at_call 20; refine (HRT.out _).mono ?_; rintro e x4 ⟨rfl, hb4⟩)
  replace HB0 := HB0.below hb4 HB0.lt
  replace HB1 := HB1.below hb4 HB1.lt
  replace hbw := bel_trans hbw hb4
  clear d0 d1 d2 d3 d4 d5 d6 d7 d8 d9 da hb4
  have d6 : x4.cell? ⟨w.heap.size, 6, none⟩ = some (.int .i64 ra) := HB0.cell 6
  go_cut [55] (fun b wx => b = .bool false ∧ wx = x4)
  case first =>
    by_cases hz0 : z = 0
    · obtain ⟨r0, r1⟩ := RB.out hz0
      have tz : (z == 0) = true := by rw [beq_iff_eq]; exact hz0
      clear hz0
      go_wp2
      go_meet
      case rel => exact ⟨by rw [decide_eq_false (show ¬ r < 0 by omega), decide_eq_false (show ¬ ra < r by omega)]; rfl, rfl⟩
    · have tz : (z == 0) = false := by rw [beq_eq_false_iff_ne]; exact hz0
      clear hz0
      go_wp2
      go_meet
      case rel => exact ⟨rfl, rfl⟩
  case rest =>
  obtain ⟨rfl, rfl⟩ := hcut
  obtain ⟨x5, hx5⟩ : ∃ x5 : World, x5 = wc := ⟨_, rfl⟩
  rw [← hx5] at HB0 HB1 hbw d6 ⊢
  clear hx5 d6 RB HRT
  have j3 := i3.below hbw
  go_upto_if 63 with (go_at_call 21; refine (HCL.out _ j3).mono ?_; rintro e x6 ⟨L5, k5, rfl, I5, hb6⟩)
  have j36 := j3.below hb6
  have HLO := Lib.hid (show clipE ng most = 0 → (clipO g most).length = ng from fun he => by rw [show clipO g most = clipL g most from if_pos (by rw [i3.len]; exact he), clipL_length]; exact i3.len)
  obtain ⟨lo, hlo⟩ : ∃ lo, lo = (clipO g most).length := ⟨_, rfl⟩
  rw [← hlo] at I5 HLO ⊢
  clear hlo
  go_cut [17, 19, 20, 21, 22, 23] (fun _ _ _ _ _ _ wx => Below x6.heap.size x6 wx)
  case first =>
    by_cases he : clipE ng most = 0
    · obtain ⟨n200, mo0, mo1⟩ := clipE_ok he
      have te : (clipE ng most == 0) = true := by rw [beq_iff_eq]; exact he
      have hO : clipO g most = clipL g most := if_pos (by rw [i3.len]; exact he)
      have hLm : (minusC g).length = ng := by rw [minusC_length]; exact i3.len
      have hOm : clipO (minusC g) most = clipL (minusC g) most := if_pos (by rw [hLm]; exact he)
      have hL := clipL_length g most
      rw [i3.len] at hL
      rw [hO] at I5
      obtain rfl : ng = lo := (HLO.out he).symm
      have Lh := Lib.hid hL
      have Hbd := Lib.hid (fun k (hk : k < ng) => clipL_bd g most (k := k) (by rw [i3.len]; exact hk))
      have Hneg := Lib.hid (fun k (hk : k < ng) => show at0 (clipL (minusC g) most) k = -at0 (clipL g most) k from clipL_neg g most (by rw [i3.len]; exact hk))
      have Hpos := Lib.hid (fun k (hk : k < ng) (h : 0 ≤ clamp (at0 g k)) => clipL_pos g most mo0 (by rw [i3.len]; exact hk) h)
      have Hnon := Lib.hid (fun k (hk : k < ng) (h : clamp (at0 g k) ≤ 0) => clipL_nonpos g most mo0 (by rw [i3.len]; exact hk) h)
      have Hmon := Lib.hid (fun j k (hj : j < ng) (hk : k < ng) (h : clamp (at0 g j) ≤ clamp (at0 g k)) => clipL_mono g most mo0 (by rw [i3.len]; exact hj) (by rw [i3.len]; exact hk) h)
      have HML := Lib.hid (show (clipL (minusC g) most).length = ng by rw [clipL_length]; exact hLm)
      have HCM := Lib.hid (fun W A c (q : Ints .i64 W A ng (minusC g)) => opt_Clip_any A ng c (minusC g) most W q)
      rw [hOm, he] at HCM
      have HU := Lib.hid (show upto (fun j => -clamp (at0 g j)) ng = minusC g by have := minusC_upto g; rw [i3.len] at this; exact this)
      have HLm := Lib.hid hLm
      obtain ⟨lc, hlc⟩ : ∃ lc, lc = clipL g most := ⟨_, rfl⟩
      rw [← hlc] at I5 Hneg Hpos Hnon Hmon Hbd
      obtain ⟨mc, hmc⟩ : ∃ mc, mc = clipL (minusC g) most := ⟨_, rfl⟩
      rw [← hmc] at HCM Hneg HML
      have hs6 := hb6.size
      clear he hO hLm hOm hL hlc hmc
      go_wp2
      try rw [te]
      clear te
      go_loopw [17, 19, 66] (fun o _ i wr => ∃ k : Nat, k ≤ ng ∧ i = .int .i64 k ∧ wr.ownsRow x6.heap.size 3 1 o k ((upto (fun j => -clamp (at0 g j)) k).map (.int .i64)) ∧ Below x6.heap.size x6 wr) (fun _ _ i _ => ng - (intOf i).toNat)
      case atStart => exact ⟨0, Nat.zero_le _, rfl, World.ownsRow_nil _ _ _ _, Below.refl _ _⟩
      case round =>
        obtain ⟨k, hk, rfl, hown, hb⟩ := hrel
        have hbs := hb.size
        by_cases hlt : k < ng
        · obtain ⟨b, off, rfl, _, hcl⟩ := (j36.below hb).cells (by omega)
          have g1 := hcl k hlt
          have F := Lib.hid (show upto (fun j => -clamp (at0 g j)) (k + 1) = upto (fun j => -clamp (at0 g j)) k ++ [-clamp (at0 g k)] from upto_succ _ _)
          have q1 := clamp_lo (at0 g k)
          have q2 := clamp_hi (at0 g k)
          clear hcl
          go_wp2_with (first
            | (go_at_call 26; refine (fix_Clamp _ _).mono ?_; rintro e w' ⟨rfl, rfl⟩)
            | (at_builtin; refine wpList_append_own _ rfl _ _ 25 rfl x6.heap.size 3 i0 (.int .i64 0) 1 8 Try.underlying25 hi0 hz0 hz1 hz2 rfl (by decide) u17 k _ rfl (hown.alloc _) ⟨wr.heap.size, 0, none⟩ 1 1 [.int .i64 (-clamp (at0 g k))] rfl rfl (cell_one_new _ _ _) (by simp [Value.oneCell']) (by unfold maxLen; omega) (by omega) (by simp; omega) ?_; intro v1 w3 hown3 hgrow _))
          have hb3 : Below x6.heap.size x6 w3 := Below.grown (hb.alloc hbs _) hgrow (by simp; omega) (fun x hx => (hown.lt x hx).1)
          rw [← List.map_singleton, ← List.map_append, ← F.out] at hown3
          clear hgrow
          go_roundw
          case rel => exact ⟨k + 1, by omega, by go_num, hown3, hb3⟩
          case measure => simp [intOf]; omega
        · obtain rfl : ng = k := by omega
          rw [HU.out] at hown
          obtain ⟨M, mcp, rfl, IMn⟩ := own_ints hown
          clear hlt
          go_wp2_with fail
          refine (HCM.out _ M mcp IMn).mono ?_
          rintro e y ⟨N, ncp, rfl, IN, hby⟩
          rw [HML.out] at IN ⊢
          have hby6 := hb.trans (hby.mono hbs)
          have I5y := I5.below hby6
          have jgy := j36.below hby6
          clear hown IMn
          go_wp2
          go_loopw [22, 23, 94] (fun _ _ i wr => ∃ k : Nat, k ≤ ng ∧ i = .int .i64 k ∧ Quiet y wr) (fun _ _ i _ => ng - (intOf i).toNat)
          case atStart => exact ⟨0, Nat.zero_le _, rfl, Quiet.refl _⟩
          case round =>
            obtain ⟨k, hk, rfl, hq⟩ := hrel
            by_cases hlt : k < ng
            · obtain ⟨b, off, rfl, _, hcl⟩ := (jgy.quiet hq).cells (by omega)
              obtain ⟨b', off', rfl, _, hcl'⟩ := (I5y.quiet hq).cells (by omega)
              obtain ⟨b'', off'', rfl, _, hcl''⟩ := (IN.quiet hq).cells (by omega)
              have c1 := hcl k hlt
              have c2 := hcl' k hlt
              have c3 := hcl'' k hlt
              rw [Hneg.out k hlt] at c3
              have bl := Hbd.out k hlt
              have p0 := fun h => Hpos.out k hlt h
              have p1 := fun h => Hnon.out k hlt h
              obtain ⟨gk, hgk⟩ : ∃ gk, gk = at0 g k := ⟨_, rfl⟩
              rw [← hgk] at c1 p0 p1
              obtain ⟨lk, hlk⟩ : ∃ lk, lk = at0 lc k := ⟨_, rfl⟩
              rw [← hlk] at c2 c3 p0 p1 bl
              obtain ⟨bl0, bl1⟩ := bl
              obtain ⟨n, hn⟩ : ∃ n, n = clamp gk := ⟨_, rfl⟩
              have HN := Lib.hid hn
              rw [← hn] at p0 p1
              have P0 := Lib.hid p0
              have P1 := Lib.hid p1
              have k0 : (0 : Int) ≤ (k : Int) := by omega
              have k1' : (k : Int) < (ng : Int) := by omega
              have HM := Lib.hid (fun j (hj : j < ng) (h : clamp (at0 g j) ≤ n) => Hmon.out j k hj hlt (by rw [← hgk, ← hn]; exact h))
              rw [← hlk] at HM
              clear hn p0 p1 hgk hlk hcl''
              have hcase : (n < 0 ∧ lk ≤ 0) ∨ (n = 0 ∧ lk = 0) ∨ (0 < n ∧ 0 ≤ lk) := by
                rcases Int.lt_trichotomy n 0 with h | h | h
                · exact .inl ⟨h, P1.out (by omega)⟩
                · exact .inr (.inl ⟨h, by have := P0.out (by omega); have := P1.out (by omega); omega⟩)
                · exact .inr (.inr ⟨h, P0.out (by omega)⟩)
              rcases Nat.eq_zero_or_pos k with hk0 | hk0
              · have kz : (k : Int) ≤ 0 := by omega
                have kz' : decide ((0 : Int) < (k : Int)) = false := decide_eq_false (by omega)
                have kz'' : decide (0 < k) = false := decide_eq_false (by omega)
                clear hcl hcl' hk0
                rcases hcase with ⟨h1, h2⟩ | ⟨h1, h2⟩ | ⟨h1, h2⟩
                · have h3 : decide (0 ≤ n) = false := decide_eq_false (by omega)
                  have h4 : n ≤ 0 := by omega
                  have h5 : decide (0 < lk) = false := decide_eq_false (by omega)
                  go_wp2_with (go_at_call 26; refine (fix_Clamp _ _).mono ?_; rintro e w' ⟨rfl, rfl⟩)
                  rw [← HN.out]
                  have hwn : IntKind.i64.wrap (-lk) = -lk := IntWalk.i64_in _ (by omega)
                  go_quiet ((go_at_call 26; exact Calls.quiet_of ((fix_Clamp _ _).mono fun _ _ ⟨he, hw⟩ => ⟨he, 0, hw.symm⟩)))
                  clear hwn
                  go_wp2
                  go_roundw
                  case rel => exact ⟨k + 1, by omega, by go_num, hq.step _⟩
                  case measure => simp [intOf]; omega
                · have h3 : 0 ≤ n := by omega
                  have h4 : n ≤ 0 := by omega
                  have h5 : decide (0 < lk) = false := decide_eq_false (by omega)
                  have h6 : decide (lk < 0) = false := decide_eq_false (by omega)
                  clear h1 h2
                  go_wp2_with (go_at_call 26; refine (fix_Clamp _ _).mono ?_; rintro e w' ⟨rfl, rfl⟩)
                  rw [← HN.out]
                  have hwn : IntKind.i64.wrap (-lk) = -lk := IntWalk.i64_in _ (by omega)
                  go_quiet ((go_at_call 26; exact Calls.quiet_of ((fix_Clamp _ _).mono fun _ _ ⟨he, hw⟩ => ⟨he, 0, hw.symm⟩)))
                  clear hwn
                  go_wp2
                  go_roundw
                  case rel => exact ⟨k + 1, by omega, by go_num, hq.step _⟩
                  case measure => simp [intOf]; omega
                · have h3 : 0 ≤ n := by omega
                  have h4 : decide (n ≤ 0) = false := decide_eq_false (by omega)
                  have h6 : decide (lk < 0) = false := decide_eq_false (by omega)
                  go_wp2_with (go_at_call 26; refine (fix_Clamp _ _).mono ?_; rintro e w' ⟨rfl, rfl⟩)
                  rw [← HN.out]
                  have hwn : IntKind.i64.wrap (-lk) = -lk := IntWalk.i64_in _ (by omega)
                  go_quiet ((go_at_call 26; exact Calls.quiet_of ((fix_Clamp _ _).mono fun _ _ ⟨he, hw⟩ => ⟨he, 0, hw.symm⟩)))
                  clear hwn
                  go_wp2
                  go_roundw
                  case rel => exact ⟨k + 1, by omega, by go_num, hq.step _⟩
                  case measure => simp [intOf]; omega
              · have c1' := hcl (k - 1) (by omega)
                have c2' := hcl' (k - 1) (by omega)
                have m0 := fun h => HM.out (k - 1) (by omega) h
                obtain ⟨gp, hgp⟩ : ∃ gp, gp = at0 g (k - 1) := ⟨_, rfl⟩
                rw [← hgp] at c1' m0
                obtain ⟨lp, hlp⟩ : ∃ lp, lp = at0 lc (k - 1) := ⟨_, rfl⟩
                rw [← hlp] at c2' m0
                have M0 := Lib.hid m0
                have w2 : (0 : Int) ≤ (k : Int) - 1 := by omega
                have w3 : (k : Int) - 1 < (ng : Int) := by omega
                have w4 : (0 : Int) < (k : Int) := by omega
                clear hcl hcl' m0 hgp hlp
                by_cases hm : clamp gp ≤ n
                · have hlm : decide (lk < lp) = false := decide_eq_false (by have := M0.out hm; omega)
                  rcases hcase with ⟨h1, h2⟩ | ⟨h1, h2⟩ | ⟨h1, h2⟩
                  · have h3 : decide (0 ≤ n) = false := decide_eq_false (by omega)
                    have h4 : n ≤ 0 := by omega
                    have h5 : decide (0 < lk) = false := decide_eq_false (by omega)
                    go_wp2_with (go_at_call 26; refine (fix_Clamp _ _).mono ?_; rintro e w' ⟨rfl, rfl⟩)
                    rw [← HN.out]
                    have hwn : IntKind.i64.wrap (-lk) = -lk := IntWalk.i64_in _ (by omega)
                    have w1 : IntKind.i64.wrap ((k : Int) - 1) = (k : Int) - 1 := IntWalk.i64_in _ (by omega)
                    go_quiet ((go_at_call 26; exact Calls.quiet_of ((fix_Clamp _ _).mono fun _ _ ⟨he, hw⟩ => ⟨he, 0, hw.symm⟩)))
                    clear hwn w1
                    go_wp2
                    go_roundw
                    case rel => exact ⟨k + 1, by omega, by go_num, hq.step _⟩
                    case measure => simp [intOf]; omega
                  · have h3 : 0 ≤ n := by omega
                    have h4 : n ≤ 0 := by omega
                    have h5 : decide (0 < lk) = false := decide_eq_false (by omega)
                    have h6 : decide (lk < 0) = false := decide_eq_false (by omega)
                    clear h1 h2
                    go_wp2_with (go_at_call 26; refine (fix_Clamp _ _).mono ?_; rintro e w' ⟨rfl, rfl⟩)
                    rw [← HN.out]
                    have hwn : IntKind.i64.wrap (-lk) = -lk := IntWalk.i64_in _ (by omega)
                    have w1 : IntKind.i64.wrap ((k : Int) - 1) = (k : Int) - 1 := IntWalk.i64_in _ (by omega)
                    go_quiet ((go_at_call 26; exact Calls.quiet_of ((fix_Clamp _ _).mono fun _ _ ⟨he, hw⟩ => ⟨he, 0, hw.symm⟩)))
                    clear hwn w1
                    go_wp2
                    go_roundw
                    case rel => exact ⟨k + 1, by omega, by go_num, hq.step _⟩
                    case measure => simp [intOf]; omega
                  · have h3 : 0 ≤ n := by omega
                    have h4 : decide (n ≤ 0) = false := decide_eq_false (by omega)
                    have h6 : decide (lk < 0) = false := decide_eq_false (by omega)
                    go_wp2_with (go_at_call 26; refine (fix_Clamp _ _).mono ?_; rintro e w' ⟨rfl, rfl⟩)
                    rw [← HN.out]
                    have hwn : IntKind.i64.wrap (-lk) = -lk := IntWalk.i64_in _ (by omega)
                    have w1 : IntKind.i64.wrap ((k : Int) - 1) = (k : Int) - 1 := IntWalk.i64_in _ (by omega)
                    go_quiet ((go_at_call 26; exact Calls.quiet_of ((fix_Clamp _ _).mono fun _ _ ⟨he, hw⟩ => ⟨he, 0, hw.symm⟩)))
                    clear hwn w1
                    go_wp2
                    go_roundw
                    case rel => exact ⟨k + 1, by omega, by go_num, hq.step _⟩
                    case measure => simp [intOf]; omega
                · have hm' : decide (clamp gp ≤ n) = false := decide_eq_false hm
                  rcases hcase with ⟨h1, h2⟩ | ⟨h1, h2⟩ | ⟨h1, h2⟩
                  · have h3 : decide (0 ≤ n) = false := decide_eq_false (by omega)
                    have h4 : n ≤ 0 := by omega
                    have h5 : decide (0 < lk) = false := decide_eq_false (by omega)
                    go_wp2_with (go_at_call 26; refine (fix_Clamp _ _).mono ?_; rintro e w' ⟨rfl, rfl⟩)
                    rw [← HN.out]
                    have hwn : IntKind.i64.wrap (-lk) = -lk := IntWalk.i64_in _ (by omega)
                    have w1 : IntKind.i64.wrap ((k : Int) - 1) = (k : Int) - 1 := IntWalk.i64_in _ (by omega)
                    go_quiet ((go_at_call 26; exact Calls.quiet_of ((fix_Clamp _ _).mono fun _ _ ⟨he, hw⟩ => ⟨he, 0, hw.symm⟩)))
                    clear hwn w1
                    go_wp2
                    go_roundw
                    case rel => exact ⟨k + 1, by omega, by go_num, hq.step _⟩
                    case measure => simp [intOf]; omega
                  · have h3 : 0 ≤ n := by omega
                    have h4 : n ≤ 0 := by omega
                    have h5 : decide (0 < lk) = false := decide_eq_false (by omega)
                    have h6 : decide (lk < 0) = false := decide_eq_false (by omega)
                    clear h1 h2
                    go_wp2_with (go_at_call 26; refine (fix_Clamp _ _).mono ?_; rintro e w' ⟨rfl, rfl⟩)
                    rw [← HN.out]
                    have hwn : IntKind.i64.wrap (-lk) = -lk := IntWalk.i64_in _ (by omega)
                    have w1 : IntKind.i64.wrap ((k : Int) - 1) = (k : Int) - 1 := IntWalk.i64_in _ (by omega)
                    go_quiet ((go_at_call 26; exact Calls.quiet_of ((fix_Clamp _ _).mono fun _ _ ⟨he, hw⟩ => ⟨he, 0, hw.symm⟩)))
                    clear hwn w1
                    go_wp2
                    go_roundw
                    case rel => exact ⟨k + 1, by omega, by go_num, hq.step _⟩
                    case measure => simp [intOf]; omega
                  · have h3 : 0 ≤ n := by omega
                    have h4 : decide (n ≤ 0) = false := decide_eq_false (by omega)
                    have h6 : decide (lk < 0) = false := decide_eq_false (by omega)
                    go_wp2_with (go_at_call 26; refine (fix_Clamp _ _).mono ?_; rintro e w' ⟨rfl, rfl⟩)
                    rw [← HN.out]
                    have hwn : IntKind.i64.wrap (-lk) = -lk := IntWalk.i64_in _ (by omega)
                    have w1 : IntKind.i64.wrap ((k : Int) - 1) = (k : Int) - 1 := IntWalk.i64_in _ (by omega)
                    go_quiet ((go_at_call 26; exact Calls.quiet_of ((fix_Clamp _ _).mono fun _ _ ⟨he, hw⟩ => ⟨he, 0, hw.symm⟩)))
                    clear hwn w1
                    go_wp2
                    go_roundw
                    case rel => exact ⟨k + 1, by omega, by go_num, hq.step _⟩
                    case measure => simp [intOf]; omega
            · obtain rfl : ng = k := by omega
              go_wp2
              go_meet
              case rel => exact hq.after hby6
    · have te : (clipE ng most == 0) = false := by rw [beq_eq_false_iff_ne]; exact he
      clear he
      go_wp2
      go_meet
      case rel => exact Below.refl _ _
  case rest =>
  obtain ⟨x7, hx7⟩ : ∃ x7 : World, x7 = wc := ⟨_, rfl⟩
  rw [← hx7] at hcut ⊢
  clear hx7
  have hb7 : Below x5.heap.size x5 x7 := hb6.trans (hcut.mono hb6.size)
  have bw7 := hbw.trans (hb7.mono hbw.size)
  have HB7 := HB0.below hb7 HB0.lt
  have HS7 := HB1.below hb7 HB1.lt
  obtain ⟨d0, d1, d2, d3, d4, d5, d6, d7, d8, d9, da⟩ := HB7.cfg
  obtain ⟨⟨f0, f1⟩, _⟩ := HS7.two
  have HI1 := Lib.hid i1.len
  have HI3 := Lib.hid i3.len
  clear I5 hcut HLO j36 HCL
  by_cases hE : stepE (cfgE ci ch co ba st ra de hw ke cl) (sizeP ci ch co) nw nm ng wt mv 0 = 0
  · have n40 : nw ≤ 40 := by have := stepK_40 ci ch co ba st ra de hw ke cl hE; omega
    have HW := Lib.hid (stepW_zero (hw := hw) (ke := ke) (by rw [HI1.out]) (by rw [HI3.out]) hE)
    rw [HW.out, hE] at HST
    obtain ⟨mo, hmo⟩ : ∃ mo, mo = stepM (cfgE ci ch co ba st ra de hw ke cl) (sizeP ci ch co) nw nm ng hw ke 0 wt mv g := ⟨_, rfl⟩
    rw [← hmo] at HST
    clear hE hmo
    go_wp2_with fail
    refine (HST.out _ (i1.below bw7) (i2.below bw7) (i3.below bw7)).mono ?_
    rintro e x8 ⟨S1, s1, S2, s2, rfl, O1, O2, hb8⟩
    have bw8 := bw7.trans (hb8.mono bw7.size)
    have HS8 := HS7.below hb8 HS7.lt
    have f8 : ∀ o, (x8.alloc o).cell? ⟨w.heap.size + 1, 0, none⟩ = some (.slice A1 nw c1) := fun o => (HS8.alloc o).cell 0
    have IS := Ints.of_own O1 rfl
    rw [HI1.out] at IS ⊢
    clear d0 d1 d2 d3 d4 d5 d6 d7 d8 d9 da f0 f1
    go_wp2_with fail
    refine (equalI_any S1 A1 _ s1 c1 _ wt wt _ (by exact IS.alloc _) (by exact (i1.below bw8).alloc _) (by omega)).mono ?_
    rintro e x9 ⟨rfl, k9, rfl⟩
    rw [decide_eq_true rfl]
    go_wp2
    go_ret
    exact ⟨rfl, bel_drewN (bw8.alloc bw8.size _) _⟩
  · have HW := Lib.hid (show stepW (cfgE ci ch co ba st ra de hw ke cl) (sizeP ci ch co) nw nm ng hw ke 0 wt mv g = [] from if_neg hE)
    rw [HW.out] at HST
    obtain ⟨s, hs⟩ : ∃ s, s = stepE (cfgE ci ch co ba st ra de hw ke cl) (sizeP ci ch co) nw nm ng wt mv 0 := ⟨_, rfl⟩
    obtain ⟨mo, hmo⟩ : ∃ mo, mo = stepM (cfgE ci ch co ba st ra de hw ke cl) (sizeP ci ch co) nw nm ng hw ke 0 wt mv g := ⟨_, rfl⟩
    rw [← hs, ← hmo] at HST
    rw [← hs] at hE
    have t1 : (s != 0) = true := by rw [bne_iff_ne]; exact hE
    have t2 : (s == 0) = false := by rw [beq_eq_false_iff_ne]; exact hE
    clear hE hs hmo
    go_wp2_with fail
    refine (HST.out _ (i1.below bw7) (i2.below bw7) (i3.below bw7)).mono ?_
    rintro e x8 ⟨S1, s1, S2, s2, rfl, O1, O2, hb8⟩
    have bw8 := bw7.trans (hb8.mono bw7.size)
    clear d0 d1 d2 d3 d4 d5 d6 d7 d8 d9 da f0 f1
    go_wp2
    go_ret
    exact ⟨rfl, bw8.alloc bw8.size _⟩

set_option maxRecDepth 100000 in
theorem optimKeeps_lifted (os : Os) (started : os.Started) (H : Type) (enc : TypeId × Value → H) :
    ReturnsInHanded {} Try.checked os 4 .any (Rows.optimKeepsSpec.pre6 enc Try.prog Try.f4 Rows.optimKeepsRow.domain false) (Rows.optimKeepsSpec.post enc Try.prog Try.f4 false true false false) := by
  refine lift_law (fn := Try.f4) started (by kernel_rfl) Try.func4
    (ChangeSpec.witness6 (enc := enc) (C := Try.checked) false ⟨#[], #[.agg #[.int .i64 0, .int .i64 0, .int .i64 0, .int .u64 0, .int .i64 0, .int .i64 0, .int .i64 0, .int .i64 0, .int .i64 0, .int .i64 0, .int .i64 0], .agg #[.slice none 0 0, .slice none 0 0], .slice none 0 0, .int .i64 0, .int .i64 0], []⟩ 8 (by kernel_rfl) (by kernel_rfl) (by kernel_rfl) (by kernel_rfl)) (by kernel_rfl) rfl Try.underlying4 rfl ?_ ?_
  · intro ds h
    rw [Try.params4] at h
    match ds, h with
    | [d0, d1, d2, d3, d4], _ => rfl
  · intro W args ds ps hA hlt hval hsz
    rw [Try.params4] at hA hval hsz
    obtain ⟨v0, vs0, d0, ds0, p0, q0, hargs, rfl, rfl, H0, T0⟩ := trodAll_cons hA
    obtain ⟨v1, vs1, d1, ds1, p1, q1, rfl, rfl, rfl, H1, T1⟩ := trodAll_cons T0
    obtain ⟨v2, vs2, d2, ds2, p2, q2, rfl, rfl, rfl, H2, T2⟩ := trodAll_cons T1
    obtain ⟨v3, vs3, d3, ds3, p3, q3, rfl, rfl, rfl, H3, T3⟩ := trodAll_cons T2
    obtain ⟨v4, vs4, d4, ds4, p4, q4, rfl, rfl, rfl, H4, T4⟩ := trodAll_cons T3
    obtain ⟨rfl, rfl, rfl⟩ := trodAll_nil T4
    obtain rfl : args = #[v0, v1, v2, v3, v4] := by cases args; simp_all
    obtain ⟨b0, hv0⟩ := hval 0 24 v0 rfl rfl
    obtain ⟨b1, hv1⟩ := hval 1 27 v1 rfl rfl
    obtain ⟨b2, hv2⟩ := hval 2 25 v2 rfl rfl
    obtain ⟨b3, hv3⟩ := hval 3 3 v3 rfl rfl
    obtain ⟨b4, hv4⟩ := hval 4 3 v4 rfl rfl
    obtain ⟨⟨ci, ch, co, se, ba, st, ra, de, hw, ke, cl⟩, rfl, _⟩ := arg_cfg hv0 H0
    obtain ⟨A1, nw, c1, wt, A2, nm, c2, mv, rfl, ⟨i1, l1, l2, _⟩, ⟨i2, l3, l4, _⟩⟩ := arg_state (fun _ => rfl) hv1 H1
    obtain ⟨A3, ng, c3, g, rfl, hx, l9, l10, _⟩ := arg_ints (fun _ => rfl) hv2 H2
    obtain ⟨most, rfl, _⟩ := arg_int hv3 H3
    obtain ⟨step, rfl, y1⟩ := arg_int hv4 H4
    have hmx : maxLen = 9223372036854775807 := rfl
    exact optimKeeps_walk ci ch co se ba st ra de hw ke cl A1 A2 A3 nw nm ng c1 c2 c3 wt mv g most step W i1 i2 hx (by omega) (by omega) (wf_i64 y1)
theorem OptimKeeps_holds : Rows.OptimKeepsSaid :=
  OpenClaim.holds_of_wide 4 Try.f4 rfl rfl rfl rfl rfl rfl rfl ⟨rfl, rfl, rfl, rfl, rfl⟩ rfl rfl rfl rfl rfl (by kernel_rfl) Try.func4 (by kernel_rfl)
    (of_decide_eq_true (by kernel_rfl)) (by unfold Func.isWrapper; first | (rw [if_pos (by decide +kernel)]; kernel_rfl) | (rw [if_neg (by decide +kernel)]; exact ⟨rfl, rfl⟩))
    (fun os started H enc _ => optimKeeps_lifted os started H enc)

end Go.Proofs.Ytejkkbjepgghlaa
