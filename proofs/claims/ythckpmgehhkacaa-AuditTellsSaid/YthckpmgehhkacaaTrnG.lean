/- The law TrainGoes holds of the given program for every input. No condition. -/
import Derived.Test.YthckpmgehhkacaaCrsR
import Derived.Test.YthckpmgehhkacaaTaught
import Derived.Test.YthckpmgehhkacaaGrown
import Derived.Test.YthckpmgehhkacaaGoP
namespace Go.Proofs.Ythckpmgehhkacaa
open Go.ChangeShapes Go.WideShapes Go.ChangeAt Go.RowKit Pl

/-- A state in its box. -/
def StAt (w : World) (m N : Nat) (s : List Int × List Int) : Prop := ∃ A1 k1 A2 k2, Blk w m 35 #[.slice A1 N k1, .slice A2 N k2] ∧ Ints .i64 w A1 N s.1 ∧ Ints .i64 w A2 N s.2 ∧ N ≤ k1
theorem stat_laid {u : World} {b N : Nat} {s : List Int × List Int} {A1 A2 : Option Addr} {k1 k2 : Nat} (l1 : s.1.length = N) (l2 : s.2.length = N) (o1 : u.ownsRow b 3 1 (.slice A1 N k1) N (s.1.map (.int .i64))) (o2 : u.ownsRow b 3 1 (.slice A2 N k2) N (s.2.map (.int .i64))) :
    StAt (u.alloc (.cells #[.slice A1 N k1, .slice A2 N k2] 35)) u.heap.size N s :=
  ⟨A1, k1, A2, k2, Blk.made _ _ _, (Ints.of_own o1 l1).alloc _, (Ints.of_own o2 l2).alloc _, own_capT o1⟩
theorem stat_stored {u : World} {b g N : Nat} {s : List Int × List Int} {A1 A2 : Option Addr} {k1 k2 : Nat} {x y : Value} (hz : Blk u g 35 #[x, y]) (hgb : g < b) (l1 : s.1.length = N) (l2 : s.2.length = N) (o1 : u.ownsRow b 3 1 (.slice A1 N k1) N (s.1.map (.int .i64))) (o2 : u.ownsRow b 3 1 (.slice A2 N k2) N (s.2.map (.int .i64))) :
    StAt ((u.setCell ⟨g, 0, none⟩ (.slice A1 N k1)).setCell ⟨g, 1, none⟩ (.slice A2 N k2)) g N s ∧ But g u ((u.setCell ⟨g, 0, none⟩ (.slice A1 N k1)).setCell ⟨g, 1, none⟩ (.slice A2 N k2)) := by
  have hb := ((But.refl g u).put 0 (.slice A1 N k1)).put 1 (.slice A2 N k2)
  exact ⟨⟨A1, k1, A2, k2, (hz.put 0 _).put 1 _, Ints.of_own (own_but o1 hb hgb) l1, Ints.of_own (own_but o2 hb hgb) l2, own_capT o1⟩, hb⟩

theorem rest_of (x M : Int) (h1 : 1 ≤ M) (h2 : M ≤ 1000) (W : World) : Calls Try.prog 30 #[.int .i64 x, .int .i64 M] W fun e w' => ∃ r : Nat, (r : Int) < M ∧ e = .returned (.int .i64 r) ∧ W = w' := by
  obtain ⟨m, rfl⟩ : ∃ m : Nat, M = (m : Int) := ⟨M.toNat, by omega⟩
  refine (ref_Rest x m W (by omega) (by omega)).mono ?_
  rintro e w' ⟨r, h, rfl, rfl⟩
  exact ⟨r, by omega, rfl, rfl⟩

theorem StHeld.at' {m : Option Nat} {B : Nat} {f : Nat → List Int × List Int} {k g c N : Nat} {w : World} (h : StHeld m B f k (.slice (some ⟨g, 0, none⟩) k c) w) {j : Nat} (hj : j < k) (h1 : (f j).1.length = N) (h2 : (f j).2.length = N) :
    ∃ A1 c1 A2 c2, w.cell? ⟨g, j * 2, none⟩ = some (.slice A1 N c1) ∧ w.cell? ⟨g, j * 2 + 1, none⟩ = some (.slice A2 N c2) ∧ Ints .i64 w A1 N (f j).1 ∧ Ints .i64 w A2 N (f j).2 ∧ N ≤ c1 ∧ g < w.heap.size := by
  obtain ⟨A1, c1, A2, c2, e1, e2, i1, i2, l1, _, hg⟩ := StHeld.duos h hj
  rw [h1] at e1 i1 l1
  rw [h2] at e2 i2
  exact ⟨A1, c1, A2, c2, e1, e2, i1, i2, l1, hg⟩

set_option maxRecDepth 100000 in
set_option maxHeartbeats 4000000 in
theorem trainGoes_walk (c : Cfg) (s0 : 0 ≤ c.seed) (s1 : c.seed < 18446744073709551616) (D : Option Addr) (n dc : Nat) (ds : Data) (w : World) (hd : Duos w D n ds) (hn : n ≤ 9223372036854775806) (m0 n0 : Int) :
    Calls Try.prog 6 #[.agg #[.int .i64 c.ci, .int .i64 c.ch, .int .i64 c.co, .int .u64 c.seed, .int .i64 c.batch, .int .i64 c.steps, .int .i64 c.rate, .int .i64 c.decay, .int .i64 c.how, .int .i64 c.keep, .int .i64 c.clip], .slice D n dc, .int .i64 m0, .int .i64 n0] w fun e w' => e = .returned (.bool true) ∧ Below w.heap.size w w' := by
  have HD := Lib.hid (fun W (h : Below w.heap.size w W) => hd.below h)
  have HCO := Lib.hid (fun W (h : Below w.heap.size w W) => ref_Course c D n dc ds W (hd.below h) hn)
  have HB0 := Blk.made w 54 #[.int .i64 c.ci, .int .i64 c.ch, .int .i64 c.co, .int .u64 c.seed, .int .i64 c.batch, .int .i64 c.steps, .int .i64 c.rate, .int .i64 c.decay, .int .i64 c.how, .int .i64 c.keep, .int .i64 c.clip]
  have b0 : Below w.heap.size w (w.alloc (.cells #[.int .i64 c.ci, .int .i64 c.ch, .int .i64 c.co, .int .u64 c.seed, .int .i64 c.batch, .int .i64 c.steps, .int .i64 c.rate, .int .i64 c.decay, .int .i64 c.how, .int .i64 c.keep, .int .i64 c.clip] 54)) := (Below.refl _ _).alloc (Nat.le_refl _) _
  go_enter Try.func6, Try.ntmps6
  go_wp2_with fail
  refine (keep_taught _).mono ?_
  rintro e w1 ⟨rfl, hb1⟩
  replace HB0 := HB0.below hb1 HB0.lt
  have hw1 := b0.trans (hb1.mono b0.size)
  clear hb1 b0
  obtain ⟨d0, d1, d2, d3, d4, d5, d6, d7, d8, d9, da⟩ := HB0.cfg
  go_wp2_with fail
  refine (HCO.out _ hw1).mono ?_
  rintro e w2 ⟨rfl, hb2⟩
  have hw2 := hw1.trans (hb2.mono hw1.size)
  replace HB0 := HB0.below hb2 HB0.lt
  clear d0 d1 d2 d3 d4 d5 d6 d7 d8 d9 da hb2 hw1
  obtain ⟨d0, d1, d2, d3, d4, d5, d6, d7, d8, d9, da⟩ := HB0.cfg
  by_cases hC : crs c ds = 0
  · have HRN := Lib.hid (fun W (h : Below w.heap.size w W) (N : Nat) (hN : (N : Int) ≤ c.steps) => trn_Run_ok c ds hC s0 s1 D n dc W (HD.out W h) N hN)
    have HNX := Lib.hid (fun W (h : Below w.heap.size w W) (k : Nat) (hk : (k : Int) < c.steps) A1 A2 k1 k2 i1 i2 hk1 => trn_Next_ok c ds hC s0 s1 D n dc W (HD.out W h) (states c ds k) (fits_states c ds k) A1 A2 k1 k2 i1 i2 hk1 k hk)
    have hst := (fine hC).ok.st
    have n40 := (fine hC).ok.n40
    have HR := Lib.hid (fun (x M : Int) h1 h2 W => rest_of x M h1 h2 W)
    have HL1 := Lib.hid (states_len1 c ds)
    have HL2 := Lib.hid (states_len2 c ds)
    have HSU := Lib.hid (states_succ c ds)
    rw [hC]
    clear hC HCO
    obtain ⟨st, hst'⟩ : ∃ st, st = states c ds := ⟨_, rfl⟩
    rw [← hst'] at HRN HNX HL1 HL2 HSU
    clear hst'
    obtain ⟨nx, hnx⟩ : ∃ nx, nx = fun k => nextS c ds (st k) k := ⟨_, rfl⟩
    have HNE := Lib.hid (fun k => show nextS c ds (st k) k = nx k from by rw [hnx])
    clear hnx
    have HSK := Lib.hid (fun k => show st (k + 1) = nx k from (HSU.out k).trans (HNE.out k))
    go_upto_region 6 with fail
    go_cut [3] (fun v wx => ∃ r : Nat, (r : Int) ≤ c.steps ∧ r ≤ 6 ∧ v = .int .i64 r ∧ wx = w2)
    case first =>
      go_wp2_with fail
      all_goals
        refine (HR.out _ _ (by omega) (by omega) _).mono ?_
        rintro e w' ⟨r, hr, rfl, rfl⟩
        go_wp2
        go_meet
        case rel => exact ⟨r, by omega, by omega, rfl, rfl⟩
    case rest =>
      obtain ⟨N, hN, hN6, rfl, rfl⟩ := hcut
      have e1 : IntKind.i64.wrap ((N : Int) + 1) = (N : Int) + 1 := wrap_small _ (by omega) (by omega)
      go_wp2_with fail
      refine (HR.out m0 ((N : Int) + 1) (by omega) (by omega) _).mono ?_
      rintro e w' ⟨m, hm, rfl, rfl⟩
      have hmN : (m : Int) ≤ c.steps := by omega
      go_wp2_with fail
      refine (HRN.out _ hw2 m hmN).mono ?_
      rintro e w3 ⟨g, k, rfl, hA, hb3⟩
      have hw3 := hw2.trans (hb3.mono hw2.size)
      replace HB0 := HB0.below hb3 HB0.lt
      clear d0 d1 d2 d3 d4 d5 d6 d7 d8 d9 da
      obtain ⟨d0, d1, d2, d3, d4, d5, d6, d7, d8, d9, da⟩ := HB0.cfg
      go_wp2_with fail
      refine (HRN.out _ hw3 N hN).mono ?_
      rintro e w4 ⟨g2, k2, rfl, hB, hb4⟩
      have hw4 := hw3.trans (hb4.mono hw3.size)
      have hA4 := hA.below (keeps_st none) hb4
      replace HB0 := HB0.below hb4 HB0.lt
      clear d0 d1 d2 d3 d4 d5 d6 d7 d8 d9 da hA hb3 hb4 hw2 hw3
      have e2 : IntKind.i64.wrap ((m : Int) + 1) = (m : Int) + 1 := wrap_small _ (by omega) (by omega)
      have HBC := Lib.hid HB0
      have HW4 := Lib.hid hw4
      go_wp2
      go_loopw [15, 86] (fun _ j wr => ∃ q : Nat, q ≤ m + 1 ∧ j = .int .i64 q ∧ Below w4.heap.size w4 wr) (fun _ j _ => m + 1 - (intOf j).toNat)
      case atStart => exact ⟨0, by omega, rfl, Below.refl _ _⟩
      case round =>
        obtain ⟨q, hq, rfl, hb⟩ := hrel
        have hAr := hA4.below (keeps_st none) hb
        have hBr := hB.below (keeps_st none) hb
        by_cases hlt : q < m + 1
        · obtain ⟨A1, c1, A2, c2, a0, a1, i1, i2, _, la⟩ := StHeld.at' hAr (j := q) hlt (HL1.out q) (HL2.out q)
          obtain ⟨B1, f1, B2, f2, b0, b1, j1, j2, _, lb⟩ := StHeld.at' hBr (j := q) (by omega) (HL1.out q) (HL2.out q)
          have HSS := Lib.hid (fun W (h : Below wr.heap.size wr W) => ref_SameState_yes A1 A2 B1 B2 c.N c.N c1 c2 f1 f2 (st q).1 (st q).2 W (i1.below h) (i2.below h) (j1.below h) (j2.below h) (by omega) (by omega))
          have k0 : (0 : Int) ≤ (q : Int) := by omega
          have k1 : (q : Int) < (m : Int) + 1 := by omega
          have k2 : (q : Int) < (N : Int) + 1 := by omega
          clear hAr hBr i1 i2 j1 j2
          go_wp2
          go_region_held3 (fun W => W.cell? ⟨g, q * 2, none⟩ = some (.slice A1 c.N c1) ∧ W.cell? ⟨g, q * 2 + 1, none⟩ = some (.slice A2 c.N c2) ∧ W.cell? ⟨g2, q * 2, none⟩ = some (.slice B1 c.N f1) ∧ W.cell? ⟨g2, q * 2 + 1, none⟩ = some (.slice B2 c.N f2)) (first | (with_reducible exact ⟨a0, a1, b0, b1⟩) | (with_reducible exact ⟨y0, y1, y2, y3⟩) | go_keep) (first
            | (go_at_call 36; (with_reducible refine (HSS.out _ ((Below.refl _ _).drew)).mono ?_); rintro e u ⟨rfl, hbu⟩; have hu : Below wr.heap.size wr u := bel_trans ((Below.refl _ _).drew) hbu; have y0 := (hu.cell (p := ⟨g, q * 2, none⟩) la).trans a0; have y1 := (hu.cell (p := ⟨g, q * 2 + 1, none⟩) la).trans a1; have y2 := (hu.cell (p := ⟨g2, q * 2, none⟩) lb).trans b0; have y3 := (hu.cell (p := ⟨g2, q * 2 + 1, none⟩) lb).trans b1)
            | fail)
          all_goals
            go_wp2
            go_roundw
            case rel => exact ⟨q + 1, by omega, by go_num, bel_trans hb hu⟩
            case measure => simp [intOf]; omega
        · obtain rfl : q = m + 1 := by omega
          rw [show ((m + 1 : Nat) : Int) = (m : Int) + 1 by omega]
          have hw5 := HW4.out.trans (hb.mono HW4.out.size)
          have HB5 := HBC.out.below hb HBC.out.lt
          obtain ⟨w5, hw5e⟩ : ∃ w5 : World, w5 = wr := ⟨_, rfl⟩
          rw [← hw5e] at hBr hw5 HB5
          have H5 := Lib.hid hw5e
          clear hw5e hAr hA4 hB hb
          go_wp2
          rw [← H5.out]
          go_loopw [16, 17, 18, 19, 20, 101] (fun _ _ _ _ _ j ws => ∃ q : Nat, q ≤ N ∧ j = .int .i64 q ∧ Below w5.heap.size w5 ws) (fun _ _ _ _ _ j _ => N - (intOf j).toNat)
          case atStart => exact ⟨0, by omega, rfl, Below.refl _ _⟩
          case round =>
            obtain ⟨q, hq', rfl, hb⟩ := hrel
            have hBr' := hBr.below (keeps_st none) hb
            have hw6 := hw5.trans (hb.mono hw5.size)
            by_cases hlt' : q < N
            · obtain ⟨B1, f1, B2, f2, b0, b1, j1, j2, l1, lb⟩ := StHeld.at' hBr' (j := q) (by omega) (HL1.out q) (HL2.out q)
              have HB6 := HB5.below hb HB5.lt
              have lc := HB6.lt
              obtain ⟨d0, d1, d2, d3, d4, d5, d6, d7, d8, d9, da⟩ := HB6.cfg
              have HN := Lib.hid (fun W (h : Below wr.heap.size wr W) => HNX.out W (hw6.trans (h.mono hw6.size)) q (by omega) B1 B2 f1 f2 (j1.below h) (j2.below h) l1)
              have k0 : (0 : Int) ≤ (q : Int) := by omega
              have k1 : (q : Int) < (N : Int) + 1 := by omega
              have k3 : (q : Int) < (N : Int) := by omega
              have hbs := hb.size
              go_upto_region 21 with fail
              obtain ⟨wa, rfl⟩ : ∃ wa : World, wa = wr := ⟨_, rfl⟩
              go_cut [17, 18, 19, 20] (fun o _ _ e wx => ∃ p, o = .pointer (some ⟨p, 0, none⟩) ∧ e = .int .i64 0 ∧ StAt wx p c.N (st (q + 1)) ∧ Below wa.heap.size wa wx)
              case first =>
                go_region_law (first
                  | (go_simp; go_at_call 37; (refine (HN.out _ (by first | exact (Below.refl _ _).drew | exact ((Below.refl _ _).drew).alloc (Nat.le_refl _) _ | exact ((Below.refl _ _).alloc (Nat.le_refl _) _).drew)).mono ?_); rintro e u1 ⟨G1, p1, G2, p2, G3, p3, rfl, P1, P2, P3, hbG⟩; rw [HNE.out, ← HSK.out q] at P1 P2; first | (have hz4 : Blk u1 wa.heap.size 35 #[.slice none 0 0, .slice none 0 0] := (Blk.made (wa.drew) 35 #[.slice none 0 0, .slice none 0 0]).below hbG (by simp); obtain ⟨⟨z0, z1⟩, z2, z3⟩ := hz4.two) | skip)
                  | fail)
                all_goals
                  go_wp2
                  go_meet
                  case rel => first
                    | (have hL := stat_laid (HL1.out (q + 1)) (HL2.out (q + 1)) P1 P2; have hbL := (bel_trans ((Below.refl wa.heap.size wa).drew) hbG).alloc (bel_trans ((Below.refl wa.heap.size wa).drew) hbG).size (.cells #[.slice G1 c.N p1, .slice G2 c.N p2] 35); with_reducible exact ⟨_, rfl, rfl, hL, hbL⟩)
                    | (have hS := stat_stored hz4 (by simp) (HL1.out (q + 1)) (HL2.out (q + 1)) P1 P2; have hbS := but_to (Below.trans (B := wa.heap.size) (((Below.refl wa.heap.size wa).drew).alloc (Nat.le_refl _) (.cells #[.slice none 0 0, .slice none 0 0] 35)) (hbG.mono (by simp))) hS.2 (Nat.le_refl _) (by have := hz4.lt; omega); with_reducible exact ⟨_, rfl, rfl, hS.1, hbS⟩)
                    | trace_state
              case rest =>
                obtain ⟨p, rfl, rfl, ⟨G1, p1, G2, p2, BG, J1, J2, _⟩, hbc⟩ := hcut
                obtain ⟨y, rfl⟩ : ∃ y : World, y = wc := ⟨_, rfl⟩
                have hB7 := hBr'.below (keeps_st none) hbc
                obtain ⟨B1', f1', B2', f2', b0', b1', j1', j2', _, lb'⟩ := StHeld.at' hB7 (j := q + 1) (by omega) (HL1.out (q + 1)) (HL2.out (q + 1))
                obtain ⟨⟨t0, t1⟩, _⟩ := BG.two
                have lG := BG.lt
                have HSS := Lib.hid (fun W (h : Below y.heap.size y W) => ref_SameState_yes G1 G2 B1' B2' c.N c.N p1 p2 f1' f2' (st (q + 1)).1 (st (q + 1)).2 W (J1.below h) (J2.below h) (j1'.below h) (j2'.below h) (by omega) (by omega))
                have e3 : IntKind.i64.wrap ((q : Int) + 1) = (q : Int) + 1 := wrap_small _ (by omega) (by omega)
                have k4 : (q : Int) + 1 < (N : Int) + 1 := by omega
                have k5 : (0 : Int) ≤ (q : Int) + 1 := by omega
                clear hB7 hBr' j1 j2 J1 J2 j1' j2' BG b0 b1 d0 d1 d2 d3 d4 d5 d6 d7 d8 d9 da
                go_wp2
                go_region_held3 (fun W => W.cell? ⟨p, 0, none⟩ = some (.slice G1 c.N p1) ∧ W.cell? ⟨p, 1, none⟩ = some (.slice G2 c.N p2) ∧ W.cell? ⟨g2, (q + 1) * 2, none⟩ = some (.slice B1' c.N f1') ∧ W.cell? ⟨g2, (q + 1) * 2 + 1, none⟩ = some (.slice B2' c.N f2')) (first | (with_reducible exact ⟨t0, t1, b0', b1'⟩) | (with_reducible exact ⟨y0, y1, y2, y3⟩) | go_keep) (first
                  | (go_at_call 36; (with_reducible refine (HSS.out _ ((Below.refl _ _).drew)).mono ?_); rintro e u ⟨rfl, hbu⟩; have hu : Below y.heap.size y u := bel_trans ((Below.refl _ _).drew) hbu; have y0 := (hu.cell (p := ⟨p, 0, none⟩) lG).trans t0; have y1 := (hu.cell (p := ⟨p, 1, none⟩) lG).trans t1; have y2 := (hu.cell (p := ⟨g2, (q + 1) * 2, none⟩) lb').trans b0'; have y3 := (hu.cell (p := ⟨g2, (q + 1) * 2 + 1, none⟩) lb').trans b1')
                  | fail)
                all_goals
                  go_wp2
                  go_roundw
                  case rel => exact ⟨q + 1, by omega, by go_num, bel_trans (bel_trans hb hbc) hu⟩
                  case measure => simp [intOf]; omega
            · obtain rfl : q = N := by omega
              go_wp2
              go_ret
              exact ⟨rfl, hw6⟩
  · have t : (crs c ds != 0) = true := by rw [bne_iff_ne]; exact hC
    have HRN := Lib.hid (trn_Run_crs c ds D n dc w2 (HD.out _ hw2) hn 0 hC)
    obtain ⟨x, hx⟩ : ∃ x, x = crs c ds := ⟨_, rfl⟩
    rw [← hx] at HRN t ⊢
    clear hC hx HCO
    go_wp2_with fail
    refine HRN.out.mono ?_
    rintro e w3 ⟨rfl, hb3⟩
    go_wp2
    go_ret
    exact ⟨by simp, hw2.trans (hb3.mono hw2.size)⟩

set_option maxRecDepth 100000 in
theorem trainGoes_lifted (os : Os) (started : os.Started) (H : Type) (enc : TypeId × Value → H) :
    ReturnsInHanded {} Try.checked os 6 .any (Rows.trainGoesSpec.pre6 enc Try.prog Try.f6 Rows.trainGoesRow.domain false) (Rows.trainGoesSpec.post enc Try.prog Try.f6 false true false false) := by
  refine lift_law (fn := Try.f6) started (by kernel_rfl) Try.func6
    (ChangeSpec.witness6 (enc := enc) (C := Try.checked) false ⟨#[], #[.agg #[.int .i64 0, .int .i64 0, .int .i64 0, .int .u64 0, .int .i64 0, .int .i64 0, .int .i64 0, .int .i64 0, .int .i64 0, .int .i64 0, .int .i64 0], .slice none 0 0, .int .i64 0, .int .i64 0], []⟩ 8 (by kernel_rfl) (by kernel_rfl) (by kernel_rfl) (by kernel_rfl)) (by kernel_rfl) rfl Try.underlying4 rfl ?_ ?_
  · intro ds h
    rw [Try.params6] at h
    match ds, h with
    | [d0, d1, d2, d3], _ => rfl
  · intro W args ds ps hA hlt hval hsz
    rw [Try.params6] at hA hval hsz
    obtain ⟨v0, vs0, d0, ds0, p0, q0, hargs, rfl, rfl, H0, T0⟩ := trodAll_cons hA
    obtain ⟨v1, vs1, d1, ds1, p1, q1, rfl, rfl, rfl, H1, T1⟩ := trodAll_cons T0
    obtain ⟨v2, vs2, d2, ds2, p2, q2, rfl, rfl, rfl, H2, T2⟩ := trodAll_cons T1
    obtain ⟨v3, vs3, d3, ds3, p3, q3, rfl, rfl, rfl, H3, T3⟩ := trodAll_cons T2
    obtain ⟨rfl, rfl, rfl⟩ := trodAll_nil T3
    obtain rfl : args = #[v0, v1, v2, v3] := by cases args; simp_all
    obtain ⟨b0, hv0⟩ := hval 0 54 v0 rfl rfl
    obtain ⟨b1, hv1⟩ := hval 1 55 v1 rfl rfl
    obtain ⟨b2, hv2⟩ := hval 2 3 v2 rfl rfl
    obtain ⟨b3, hv3⟩ := hval 3 3 v3 rfl rfl
    obtain ⟨c, rfl, cw⟩ := arg_cfg hv0 H0
    obtain ⟨D, n, dc, ds, rfl, hd, hn⟩ := arg_data (j := 1) (fun _ => rfl) hv1 H1 hsz rfl rfl
    obtain ⟨m0, rfl, _⟩ := arg_int hv2 H2
    obtain ⟨n0, rfl, _⟩ := arg_int hv3 H3
    have hs := wf_u64 cw.2.2.2.1
    exact trainGoes_walk c hs.1 (by omega) D n dc ds W hd hn m0 n0
theorem TrainGoes_holds : Rows.TrainGoesSaid :=
  OpenClaim.holds_of_wide 6 Try.f6 rfl rfl rfl rfl rfl rfl rfl ⟨rfl, rfl, rfl, rfl, rfl⟩ rfl rfl rfl rfl rfl (by kernel_rfl) Try.func6 (by kernel_rfl)
    (of_decide_eq_true (by kernel_rfl)) (by unfold Func.isWrapper; first | (rw [if_pos (by decide +kernel)]; kernel_rfl) | (rw [if_neg (by decide +kernel)]; exact ⟨rfl, rfl⟩))
    (fun os started H enc _ => trainGoes_lifted os started H enc)

end Go.Proofs.Ythckpmgehhkacaa
