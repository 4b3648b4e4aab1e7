/- The law SpotHonest holds of the given program for every input. No condition. -/
import Derived.Test.YthckpmgehhkacaaHonP
import Derived.Test.YthckpmgehhkacaaSpotH
import Derived.Test.YthckpmgehhkacaaJrnG
namespace Go.Proofs.Ythckpmgehhkacaa
open Go.ChangeShapes Go.WideShapes Go.ChangeAt Go.RowKit Pl

theorem rootS_mod (s : List Int × List Int) : rootS s % 2305843009213693951 = rootS s := by
  unfold rootS rootO
  split
  · unfold rootI pairI
    exact Int.emod_eq_of_lt (ofI_lo _ _) (ofI_hi _ _)
  · rfl
theorem holds_rec (c : Cfg) (ds : Data) (k : Nat) : holdsB c ds (states c ds k) k (rootS (states c ds k)) (recB c ds k) = true := by
  unfold holdsB
  rw [rootS_mod]
  have h1 : (recB c ds k).step = (k : Int) := rfl
  have h2 : (recB c ds k).batch = (batI c ds k).map fun (n : Nat) => (n : Int) := rfl
  have h3 : (recB c ds k).rate = ratI c k := rfl
  have h4 : (recB c ds k).root = rootS (nextS c ds (states c ds k) k) := by rw [← states_succ]; rfl
  rw [h1, h2, h3, h4]
  simp
theorem holds_fine (c : Cfg) (ds : Data) (hC : crs c ds = 0) (s0 : 0 ≤ c.seed) (s1 : c.seed < 18446744073709551616) (D : Option Addr) (n dc : Nat) (w : World) (hd : Duos w D n ds) (A1 A2 : Option Addr) (k1 k2 : Nat) (k : Nat) (hj : (k : Int) < c.steps)
    (i1 : Ints .i64 w A1 c.N (states c ds k).1) (i2 : Ints .i64 w A2 c.N (states c ds k).2) (hk1 : c.N ≤ k1) (L : Option Addr) (kk : Nat) (chn : Int) (hI : Ints .i64 w L c.batch.toNat ((batI c ds k).map fun (n : Nat) => (n : Int))) :
    Calls Try.prog 56 #[.agg #[.int .i64 c.ci, .int .i64 c.ch, .int .i64 c.co, .int .u64 c.seed, .int .i64 c.batch, .int .i64 c.steps, .int .i64 c.rate, .int .i64 c.decay, .int .i64 c.how, .int .i64 c.keep, .int .i64 c.clip], .slice D n dc, .int .i64 k, .int .u64 (rootS (states c ds k)), .agg #[.slice A1 c.N k1, .slice A2 c.N k2], .agg #[.int .i64 k, .slice L c.batch.toNat kk, .int .i64 (ratI c k), .int .u64 (rootS (states c ds (k + 1))), .int .u64 chn]] w fun e w' => e = .returned (.tuple #[.bool true, .int .i64 0]) ∧ Below w.heap.size w w' := by
  have hb := rootO_u64 ((states c ds k).1 ++ (states c ds k).2)
  have h := spot_Holds_ok c ds hC s0 s1 D n dc w hd (states c ds k) (fits_states c ds k) A1 A2 k1 k2 i1 i2 hk1 k hj (rootS (states c ds k)) hb.1 L c.batch.toNat kk { recB c ds k with chain := chn } hI
  rw [show holdsB c ds (states c ds k) k (rootS (states c ds k)) { recB c ds k with chain := chn } = holdsB c ds (states c ds k) k (rootS (states c ds k)) (recB c ds k) from rfl, holds_rec] at h
  exact h
theorem pathO_u64 (xs : List Int) (k : Int) : U64 (pathO xs k) := by
  unfold pathO
  split
  · intro j
    rcases Nat.lt_or_ge j (wayI (leavesI xs) k.toNat).length with h | h
    · have e1 : at0 (wayI (leavesI xs) k.toNat) j ∈ wayI (leavesI xs) k.toNat := by rw [at0_getElem _ _ h]; exact List.getElem_mem h
      exact wayI_u64 (leavesI_u64 xs) e1
    · unfold at0
      rw [List.getElem?_eq_none h]
      exact ⟨Int.le_refl _, by show (0 : Int) < _; omega⟩
  · exact U64.nil

set_option maxRecDepth 100000 in
set_option maxHeartbeats 4000000 in
theorem spotHonest_walk (c : Cfg) (s0 : 0 ≤ c.seed) (s1 : c.seed < 18446744073709551616) (D : Option Addr) (n dc : Nat) (ds : Data) (w : World) (hd : Duos w D n ds) (hn : n ≤ 9223372036854775806) (step i : Int) :
    Calls Try.prog 11 #[.agg #[.int .i64 c.ci, .int .i64 c.ch, .int .i64 c.co, .int .u64 c.seed, .int .i64 c.batch, .int .i64 c.steps, .int .i64 c.rate, .int .i64 c.decay, .int .i64 c.how, .int .i64 c.keep, .int .i64 c.clip], .slice D n dc, .int .i64 step, .int .i64 i] w fun e w' => e = .returned (.bool true) ∧ Below w.heap.size w w' := by
  have HD := Lib.hid (fun W (h : Below w.heap.size w W) => hd.below h)
  have HCO := Lib.hid (fun W (h : Below w.heap.size w W) => ref_Course c D n dc ds W (hd.below h) hn)
  have HB0 := Blk.made w 54 #[.int .i64 c.ci, .int .i64 c.ch, .int .i64 c.co, .int .u64 c.seed, .int .i64 c.batch, .int .i64 c.steps, .int .i64 c.rate, .int .i64 c.decay, .int .i64 c.how, .int .i64 c.keep, .int .i64 c.clip]
  have b0 : Below w.heap.size w (w.alloc (.cells #[.int .i64 c.ci, .int .i64 c.ch, .int .i64 c.co, .int .u64 c.seed, .int .i64 c.batch, .int .i64 c.steps, .int .i64 c.rate, .int .i64 c.decay, .int .i64 c.how, .int .i64 c.keep, .int .i64 c.clip] 54)) := (Below.refl _ _).alloc (Nat.le_refl _) _
  go_enter Try.func11, Try.ntmps11
  go_wp2_with fail
  refine (keep_taught _).mono ?_
  rintro e w1 ⟨rfl, hb1⟩
  replace HB0 := HB0.below hb1 HB0.lt
  have hw1 := b0.trans (hb1.mono b0.size)
  clear hb1 b0
  obtain ⟨d0, d1, d2, d3, d4, d5, d6, d7, d8, d9, da⟩ := HB0.cfg
  go_wp2_with fail
  refine (HCO.out _ hw1).mono ?_
  rintro e w2 ⟨rfl, hb2⟩
  have hw2 := hw1.trans (hb2.mono hw1.size)
  replace HB0 := HB0.below hb2 HB0.lt
  clear d0 d1 d2 d3 d4 d5 d6 d7 d8 d9 da hb2 hw1
  obtain ⟨d0, d1, d2, d3, d4, d5, d6, d7, d8, d9, da⟩ := HB0.cfg
  by_cases hC : crs c ds = 0
  · have hf := fine hC
    have HPR := Lib.hid (fun W (h : Below w.heap.size w W) (k : Nat) (hk : (k : Int) < c.steps) => spot_Prove c ds hC s0 s1 D n dc W (HD.out W h) k hk)
    have HMK := Lib.hid (fun W (h : Below w.heap.size w W) (N : Nat) (hN : (N : Int) ≤ c.steps) => jrn_Make_ok c ds hC s0 s1 D n dc W (HD.out W h) N hN)
    have HRT := Lib.hid (fun (k : Nat) A1 A2 k1 k2 W => root_fine c hf.ok (states c ds k) A1 A2 k1 k2 W)
    have HHO := Lib.hid (fun W (h : Below w.heap.size w W) (k : Nat) (hk : (k : Int) < c.steps) A1 A2 k1 k2 i1 i2 hk1 L kk chn hI => holds_fine c ds hC s0 s1 D n dc W (HD.out W h) A1 A2 k1 k2 k hk i1 i2 hk1 L kk chn hI)
    have hst := hf.ok.st
    have hba := hf.ok.ba
    have n40 := hf.ok.n40
    have n1 := hf.ok.n1
    have HR := Lib.hid (fun (x M : Int) h1 h2 W => rest_of x M h1 h2 W)
    have HL1 := Lib.hid (states_len1 c ds)
    have HL2 := Lib.hid (states_len2 c ds)
    have HAT := Lib.hid (fun (w : World) (A : Option Addr) (N : Nat) (h : RecsK w A N (upto (recC c ds) N)) (q : Nat) (hq : q < N) => recs_at c ds h hq)
    have HU := Lib.hid (fun k => rootO_u64 ((states c ds k).1 ++ (states c ds k).2))
    have HRO := Lib.hid (fun k => show rootS (states c ds k) = rootO ((states c ds k).1 ++ (states c ds k).2) from rfl)
    rw [hC]
    clear hC HCO hf
    obtain ⟨st, hst'⟩ : ∃ st, st = states c ds := ⟨_, rfl⟩
    rw [← hst'] at HPR HL1 HL2 HRT HAT HHO HU HRO
    clear hst'
    obtain ⟨bt, hbt⟩ : ∃ bt, bt = fun k => (batI c ds k).map fun (n : Nat) => (n : Int) := ⟨_, rfl⟩
    have HBE := Lib.hid (fun k => show ((batI c ds k).map fun (n : Nat) => (n : Int)) = bt k from by rw [hbt])
    clear hbt
    obtain ⟨rc, hrc⟩ : ∃ rc, rc = recC c ds := ⟨_, rfl⟩
    rw [← hrc] at HMK HAT
    clear hrc
    go_upto_region 5 with fail
    go_cut [2] (fun v wx => ∃ r : Nat, (r : Int) < c.steps ∧ r < 5 ∧ v = .int .i64 r ∧ wx = w2)
    case first =>
      go_wp2_with fail
      all_goals
        refine (HR.out _ _ (by omega) (by omega) _).mono ?_
        rintro e w' ⟨r, hr, rfl, rfl⟩
        go_wp2
        go_meet
        case rel => exact ⟨r, by omega, by omega, rfl, rfl⟩
    case rest =>
      obtain ⟨k, hk, hk5, rfl, rfl⟩ := hcut
      have e1 : IntKind.i64.wrap ((k : Int) + 1) = ((k + 1 : Nat) : Int) := by rw [wrap_small _ (by omega) (by omega)]; omega
      go_wp2_with fail
      refine (HPR.out _ hw2 k hk).mono ?_
      rintro e w3 ⟨A1, k1, A2, k2, rfl, i1, i2, l1, hb3⟩
      have hw3 := hw2.trans (hb3.mono hw2.size)
      replace HB0 := HB0.below hb3 HB0.lt
      clear d0 d1 d2 d3 d4 d5 d6 d7 d8 d9 da
      have bA : Below w3.heap.size w3 (w3.alloc (.cells #[.slice A1 c.N k1, .slice A2 c.N k2] 35)) := (Below.refl _ _).alloc (Nat.le_refl _) _
      have BS := Blk.made w3 35 #[.slice A1 c.N k1, .slice A2 c.N k2]
      have hc3 := HB0.lt
      have hwA := hw3.trans (bA.mono hw3.size)
      obtain ⟨d0, d1, d2, d3, d4, d5, d6, d7, d8, d9, da⟩ := HB0.cfg
      go_wp2_with fail
      refine (HMK.out _ hwA (k + 1) (by omega)).mono ?_
      rintro e w4 ⟨B, bc, rfl, hB, hb4⟩
      have h34 := bA.trans (hb4.mono bA.size)
      have hw4 := hw3.trans (h34.mono hw3.size)
      have BS4 := BS.below hb4 BS.lt
      have HB4 := HB0.below h34 hc3
      obtain ⟨⟨t0, t1⟩, _⟩ := BS4.two
      have I1 := i1.below h34
      have I2 := i2.below h34
      clear d0 d1 d2 d3 d4 d5 d6 d7 d8 d9 da hb4 hb3 BS HB0 bA
      have HRTk := Lib.hid (HRT.out k A1 A2 k1 k2 w4 I1 I2)
      obtain ⟨ro, hroe⟩ : ∃ ro, ro = rootS (st k) := ⟨_, rfl⟩
      rw [← hroe] at HRTk
      go_wp2_with fail
      refine HRTk.out.mono ?_
      rintro e w5 ⟨rfl, hb5⟩
      have hw5 := hw4.trans (hb5.mono hw4.size)
      have HB5 := HB4.below hb5 HB4.lt
      have BS5 := BS4.below hb5 BS4.lt
      have J1 := I1.below hb5
      have J2 := I2.below hb5
      have hR5 := (RecHeld.recs hB).below hb5
      obtain ⟨b, off, L, kk, hBe, hbl, ⟨g0, g1, g2, g3, g4⟩, hI, hkk⟩ := HAT.out w5 B (k + 1) hR5 k (by omega)
      have HP := Lib.hid (fun q (hq : k = q + 1) => HAT.out w5 B (k + 1) hR5 q (by omega))
      subst hBe
      have HHk := Lib.hid (fun W (h : Below w5.heap.size w5 W) chn => HHO.out W (hw5.trans (h.mono hw5.size)) k hk A1 A2 k1 k2 (J1.below h) (J2.below h) l1 L kk chn (hI.below h))
      have hro := HU.out k
      have HROk := Lib.hid (HRO.out k)
      clear t0 t1 hb5 I1 I2 HB4 BS4 hB
      have HSL1 := Lib.hid (HL1.out k)
      have HSL2 := Lib.hid (HL2.out k)
      have HRE := Lib.hid hroe
      rw [show rootO ((st k).1 ++ (st k).2) = ro from (HRO.out k).symm.trans hroe.symm] at hro
      rw [← hroe] at HROk HHk
      clear hroe
      obtain ⟨rn, hrn⟩ : ∃ rn, rn = rootS (st (k + 1)) := ⟨_, rfl⟩
      rw [← hrn] at g3 HHk
      obtain ⟨chn, hchn⟩ : ∃ chn, chn = chainC c ds (k + 1) := ⟨_, rfl⟩
      rw [← hchn] at g4
      clear hrn hchn
      go_upto_region 9 with fail
      go_cut [75] (fun v wx => v = .bool false ∧ wx = w5)
      case first =>
        by_cases hk0 : k = 0
        · have q0 : ¬ (0 : Int) < (k : Int) := by omega
          clear hk0
          go_wp2
          go_meet
          case rel => exact ⟨by simp, rfl⟩
        · obtain ⟨q, hq⟩ : ∃ q, k = q + 1 := ⟨k - 1, by omega⟩
          obtain ⟨b', off', L', kk', hB', _, ⟨_, _, _, y3, _⟩, _, _⟩ := HP.out q hq
          obtain ⟨rfl, rfl⟩ : b = b' ∧ off = off' := by cases hB'; exact ⟨rfl, rfl⟩
          rw [← hq, ← HRE.out] at y3
          have q0 : (0 : Int) < (k : Int) := by omega
          have q1 : IntKind.i64.wrap ((k : Int) - 1) = (q : Int) := by rw [wrap_small _ (by omega) (by omega)]; omega
          have q2 : (0 : Int) ≤ (q : Int) := by omega
          have q3 : (q : Int) < (k : Int) + 1 := by omega
          clear hk0 hq hB'
          go_wp2
          go_meet
          case rel => exact ⟨by simp, rfl⟩
      case rest =>
        obtain ⟨rfl, rfl⟩ := hcut
        obtain ⟨y, rfl⟩ : ∃ y : World, y = wc := ⟨_, rfl⟩
        have HSS := Lib.hid (fun W (h : Below y.heap.size y W) => (⟨(BS5.below h BS5.lt).cell 0, (BS5.below h BS5.lt).cell 1, (h.cell (p := ⟨b, off + k * 5, none⟩) hbl).trans g0, (h.cell (p := ⟨b, off + k * 5 + 1, none⟩) hbl).trans g1, (h.cell (p := ⟨b, off + k * 5 + 2, none⟩) hbl).trans g2, (h.cell (p := ⟨b, off + k * 5 + 3, none⟩) hbl).trans g3, (h.cell (p := ⟨b, off + k * 5 + 4, none⟩) hbl).trans g4, (HB5.below h HB5.lt).cfg⟩ :
          W.cell? ⟨w3.heap.size, 0, none⟩ = some (.slice A1 c.N k1) ∧ W.cell? ⟨w3.heap.size, 1, none⟩ = some (.slice A2 c.N k2) ∧ W.cell? ⟨b, off + k * 5, none⟩ = some (.int .i64 k) ∧ W.cell? ⟨b, off + k * 5 + 1, none⟩ = some (.slice L c.batch.toNat kk) ∧ W.cell? ⟨b, off + k * 5 + 2, none⟩ = some (.int .i64 (ratI c k)) ∧ W.cell? ⟨b, off + k * 5 + 3, none⟩ = some (.int .u64 rn) ∧ W.cell? ⟨b, off + k * 5 + 4, none⟩ = some (.int .u64 chn) ∧ W.cell? ⟨w.heap.size, 0, none⟩ = some (.int .i64 c.ci) ∧ W.cell? ⟨w.heap.size, 1, none⟩ = some (.int .i64 c.ch) ∧ W.cell? ⟨w.heap.size, 2, none⟩ = some (.int .i64 c.co) ∧ W.cell? ⟨w.heap.size, 3, none⟩ = some (.int .u64 c.seed) ∧ W.cell? ⟨w.heap.size, 4, none⟩ = some (.int .i64 c.batch) ∧ W.cell? ⟨w.heap.size, 5, none⟩ = some (.int .i64 c.steps) ∧ W.cell? ⟨w.heap.size, 6, none⟩ = some (.int .i64 c.rate) ∧ W.cell? ⟨w.heap.size, 7, none⟩ = some (.int .i64 c.decay) ∧ W.cell? ⟨w.heap.size, 8, none⟩ = some (.int .i64 c.how) ∧ W.cell? ⟨w.heap.size, 9, none⟩ = some (.int .i64 c.keep) ∧ W.cell? ⟨w.heap.size, 10, none⟩ = some (.int .i64 c.clip)))
        have q2 : (0 : Int) ≤ (k : Int) := by omega
        have q3 : (k : Int) < (k : Int) + 1 := by omega
        clear g0 g1 g2 g3 g4 HP
        go_wp2
        go_region_held3 (fun W => W.cell? ⟨w3.heap.size, 0, none⟩ = some (.slice A1 c.N k1) ∧ W.cell? ⟨w3.heap.size, 1, none⟩ = some (.slice A2 c.N k2) ∧ W.cell? ⟨b, off + k * 5, none⟩ = some (.int .i64 k) ∧ W.cell? ⟨b, off + k * 5 + 1, none⟩ = some (.slice L c.batch.toNat kk) ∧ W.cell? ⟨b, off + k * 5 + 2, none⟩ = some (.int .i64 (ratI c k)) ∧ W.cell? ⟨b, off + k * 5 + 3, none⟩ = some (.int .u64 rn) ∧ W.cell? ⟨b, off + k * 5 + 4, none⟩ = some (.int .u64 chn) ∧ W.cell? ⟨w.heap.size, 0, none⟩ = some (.int .i64 c.ci) ∧ W.cell? ⟨w.heap.size, 1, none⟩ = some (.int .i64 c.ch) ∧ W.cell? ⟨w.heap.size, 2, none⟩ = some (.int .i64 c.co) ∧ W.cell? ⟨w.heap.size, 3, none⟩ = some (.int .u64 c.seed) ∧ W.cell? ⟨w.heap.size, 4, none⟩ = some (.int .i64 c.batch) ∧ W.cell? ⟨w.heap.size, 5, none⟩ = some (.int .i64 c.steps) ∧ W.cell? ⟨w.heap.size, 6, none⟩ = some (.int .i64 c.rate) ∧ W.cell? ⟨w.heap.size, 7, none⟩ = some (.int .i64 c.decay) ∧ W.cell? ⟨w.heap.size, 8, none⟩ = some (.int .i64 c.how) ∧ W.cell? ⟨w.heap.size, 9, none⟩ = some (.int .i64 c.keep) ∧ W.cell? ⟨w.heap.size, 10, none⟩ = some (.int .i64 c.clip)) (first | (with_reducible exact HSS.out _ ((Below.refl _ _).drew)) | (with_reducible exact HSS.out _ hu) | go_keep) (first
          | (go_at_call 56; (with_reducible refine (HHk.out _ ((Below.refl _ _).drew) chn).mono ?_); rintro e u ⟨rfl, hbu⟩; have hu : Below y.heap.size y u := bel_trans ((Below.refl _ _).drew) hbu)
          | fail)
        all_goals
          have hwu := hw5.trans (hu.mono hw5.size)
          obtain ⟨⟨t0, t1⟩, _⟩ := (BS5.below hu BS5.lt).two
          obtain ⟨M, hM⟩ : ∃ M, M = c.N + c.N := ⟨_, rfl⟩
          obtain ⟨Q, hQ⟩ : ∃ Q, Q = (M + 3) / 4 := ⟨_, rfl⟩
          have eM : IntKind.i64.wrap ((c.N : Int) + (c.N : Int)) = (M : Int) := by rw [wrap_small _ (by omega) (by omega)]; omega
          have eQ : ((M : Int) + 3).tdiv 4 = (Q : Int) := by rw [Int.tdiv_eq_ediv_of_nonneg (by omega)]; omega
          have eM3 : IntKind.i64.wrap ((M : Int) + 3) = (M : Int) + 3 := wrap_small _ (by omega) (by omega)
          have Q1 : 1 ≤ Q ∧ Q ≤ 50 := by omega
          have M2 : 1 ≤ M ∧ M ≤ 80 := by omega
          have HMN := Lib.hid hM
          have HQN := Lib.hid hQ
          clear hM hQ
          go_wp2_with fail
          refine (HR.out i (Q : Int) (by omega) (by omega) _).mono ?_
          rintro e w' ⟨p, hp, rfl, rfl⟩
          have hxl : ((st k).1 ++ (st k).2).length = M := by rw [List.length_append, HSL1.out, HSL2.out, HMN.out]
          obtain ⟨o1, o2, o3⟩ := opens_honest ((st k).1 ++ (st k).2) M hxl M2.1 (by omega) p (by rw [← HQN.out]; omega)
          have HCK := Lib.hid (spot_ChunkCap (p : Int) A1 A2 c.N k1 c.N k2 (st k).1 (st k).2 u (J1.below hu) (J2.below hu) (by omega))
          rw [show pathE (c.N + c.N) (p : Int) = 0 by rw [← HMN.out]; exact o1] at HCK
          rw [← HROk.out] at o3
          have hpu := pathO_u64 ((st k).1 ++ (st k).2) (p : Int)
          obtain ⟨ch, hch⟩ : ∃ ch, ch = chunkO ((st k).1 ++ (st k).2) (p : Int) := ⟨_, rfl⟩
          obtain ⟨pa, hpa⟩ : ∃ pa, pa = pathO ((st k).1 ++ (st k).2) (p : Int) := ⟨_, rfl⟩
          rw [← hch, ← hpa] at HCK o2 o3
          rw [← hpa] at hpu
          clear hch hpa hxl o1
          go_wp2_with fail
          refine HCK.out.mono ?_
          rintro e u2 ⟨S, sc, T, tc, rfl, IS, IT, hbc, hcap⟩
          have HOP0 := spot_Opens ro (p : Int) (M : Int) S T ch.length pa.length sc tc ch pa u2 IS IT hpu hcap hro.1 hro.2
          simp only [o2, o3] at HOP0
          have HOP := Lib.hid HOP0
          clear HOP0
          clear o2 o3
          go_wp2_with fail
          refine HOP.out.mono ?_
          rintro e u3 ⟨rfl, hb9⟩
          go_wp2
          go_ret
          exact ⟨rfl, (hwu.trans (hbc.mono hwu.size)).trans (hb9.mono (hwu.trans (hbc.mono hwu.size)).size)⟩
  · have t : (crs c ds != 0) = true := by rw [bne_iff_ne]; exact hC
    obtain ⟨x, hx⟩ : ∃ x, x = crs c ds := ⟨_, rfl⟩
    rw [← hx] at t ⊢
    clear hC hx HCO
    go_wp2
    go_ret
    exact ⟨rfl, hw2⟩

set_option maxRecDepth 100000 in
theorem spotHonest_lifted (os : Os) (started : os.Started) (H : Type) (enc : TypeId × Value → H) :
    ReturnsInHanded {} Try.checked os 11 .any (Rows.spotHonestSpec.pre6 enc Try.prog Try.f11 Rows.spotHonestRow.domain false) (Rows.spotHonestSpec.post enc Try.prog Try.f11 false true false false) := by
  refine lift_law (fn := Try.f11) started (by kernel_rfl) Try.func11
    (ChangeSpec.witness6 (enc := enc) (C := Try.checked) false ⟨#[], #[.agg #[.int .i64 0, .int .i64 0, .int .i64 0, .int .u64 0, .int .i64 0, .int .i64 0, .int .i64 0, .int .i64 0, .int .i64 0, .int .i64 0, .int .i64 0], .slice none 0 0, .int .i64 0, .int .i64 0], []⟩ 8 (by kernel_rfl) (by kernel_rfl) (by kernel_rfl) (by kernel_rfl)) (by kernel_rfl) rfl Try.underlying4 rfl ?_ ?_
  · intro ds h
    rw [Try.params11] at h
    match ds, h with
    | [d0, d1, d2, d3], _ => rfl
  · intro W args ds ps hA hlt hval hsz
    rw [Try.params11] at hA hval hsz
    obtain ⟨v0, vs0, d0, ds0, p0, q0, hargs, rfl, rfl, H0, T0⟩ := trodAll_cons hA
    obtain ⟨v1, vs1, d1, ds1, p1, q1, rfl, rfl, rfl, H1, T1⟩ := trodAll_cons T0
    obtain ⟨v2, vs2, d2, ds2, p2, q2, rfl, rfl, rfl, H2, T2⟩ := trodAll_cons T1
    obtain ⟨v3, vs3, d3, ds3, p3, q3, rfl, rfl, rfl, H3, T3⟩ := trodAll_cons T2
    obtain ⟨rfl, rfl, rfl⟩ := trodAll_nil T3
    obtain rfl : args = #[v0, v1, v2, v3] := by cases args; simp_all
    obtain ⟨b0, hv0⟩ := hval 0 54 v0 rfl rfl
    obtain ⟨b1, hv1⟩ := hval 1 55 v1 rfl rfl
    obtain ⟨b2, hv2⟩ := hval 2 3 v2 rfl rfl
    obtain ⟨b3, hv3⟩ := hval 3 3 v3 rfl rfl
    obtain ⟨c, rfl, cw⟩ := arg_cfg hv0 H0
    obtain ⟨D, n, dc, ds, rfl, hd, hn⟩ := arg_data (j := 1) (fun _ => rfl) hv1 H1 hsz rfl rfl
    obtain ⟨m0, rfl, _⟩ := arg_int hv2 H2
    obtain ⟨n0, rfl, _⟩ := arg_int hv3 H3
    have hs := wf_u64 cw.2.2.2.1
    exact spotHonest_walk c hs.1 (by omega) D n dc ds W hd hn m0 n0
theorem SpotHonest_holds : Rows.SpotHonestSaid :=
  OpenClaim.holds_of_wide 11 Try.f11 rfl rfl rfl rfl rfl rfl rfl ⟨rfl, rfl, rfl, rfl, rfl⟩ rfl rfl rfl rfl rfl (by kernel_rfl) Try.func11 (by kernel_rfl)
    (of_decide_eq_true (by kernel_rfl)) (by unfold Func.isWrapper; first | (rw [if_pos (by decide +kernel)]; kernel_rfl) | (rw [if_neg (by decide +kernel)]; exact ⟨rfl, rfl⟩))
    (fun os started H enc _ => spotHonest_lifted os started H enc)

end Go.Proofs.Ythckpmgehhkacaa
