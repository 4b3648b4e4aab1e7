/- AuditTells: the walk, given what audit.Whole answers. -/
import Derived.Test.YthckpmgehhkacaaBent
namespace Go.Proofs.Ythckpmgehhkacaa
open Go.ChangeShapes Go.WideShapes Go.ChangeAt Go.RowKit Pl

/-- The first record that is not as it should be. -/
def FirstOff (n : Nat) (f g : Nat → Rec) (k : Nat) : Prop := k ≤ n ∧ (∀ j, j < k → sameR (f j) (g j) = true) ∧ (k < n → sameR (f k) (g k) = false)
theorem first_self {N k : Nat} {f : Nat → Rec} (h : FirstOff N f f k) : k = N := by
  obtain ⟨h1, _, h3⟩ := h
  rcases Nat.lt_or_ge k N with hk | hk
  · rw [sameR_self] at h3; exact absurd (h3 hk) (by simp)
  · omega
theorem first_bent {N k K : Nat} {f : Nat → Rec} {x : Rec} (hK : K < N) (h : FirstOff N (bentF f K x) f k) : (sameR x (f K) = true → k = N) ∧ (sameR x (f K) = false → k = K) := by
  obtain ⟨h1, h2, h3⟩ := h
  refine ⟨fun hs => ?_, fun hs => ?_⟩
  · have e := sameR_eq hs
    rcases Nat.lt_or_ge k N with hk | hk
    · have := h3 hk
      unfold bentF at this
      by_cases hkK : k = K
      · subst hkK; rw [if_pos rfl, hs] at this; cases this
      · rw [if_neg hkK, sameR_self] at this; cases this
    · omega
  · rcases Nat.lt_trichotomy k K with hk | hk | hk
    · have := h3 (by omega)
      unfold bentF at this
      rw [if_neg (by omega), sameR_self] at this
      cases this
    · exact hk
    · have := h2 K hk
      unfold bentF at this
      rw [if_pos rfl, hs] at this
      cases this
theorem sameB_one (x r : Rec) : sameB 1 1 [x] [r] = sameR x r := by
  unfold sameB
  simp [List.range_succ, recAt]
theorem recs_one {w : World} {g o k : Nat} {A : Option Addr} {x : Rec} (hg : g < w.heap.size) (h : RecAt w g o A k x) (hI : Ints .i64 w A x.batch.length x.batch) (h1 : x.batch.length ≤ k) (h2 : k ≤ maxLen) : RecsR w (some ⟨g, o, none⟩) 1 [x] :=
  ⟨rfl, fun _ => ⟨g, o, rfl, hg, fun j hj => by
    obtain rfl : j = 0 := by omega
    exact ⟨A, k, by show RecAt w g (o + 0 * 5) A k x; simpa using h, hI, h1, h2⟩⟩⟩

set_option maxRecDepth 100000 in
set_option maxHeartbeats 6000000 in
theorem auditTells_walk (c : Cfg) (s0 : 0 ≤ c.seed) (s1 : c.seed < 18446744073709551616) (D : Option Addr) (n dc : Nat) (ds : Data) (w : World) (hd : Duos w D n ds) (hn : n ≤ 9223372036854775806) (N0 K0 : Int) (x : Rec) (A : Option Addr) (k : Nat) (hI : Ints .i64 w A x.batch.length x.batch) (l1 : x.batch.length ≤ k) (l2 : k ≤ maxLen)
    (HWW : crs c ds = 0 → ∀ W, Below w.heap.size w W → ∀ (A : Option Addr) (N ac : Nat) (f : Nat → Rec), RecsR W A N (upto f N) → (N : Int) ≤ c.steps → Calls Try.prog 44 #[.agg #[.int .i64 c.ci, .int .i64 c.ch, .int .i64 c.co, .int .u64 c.seed, .int .i64 c.batch, .int .i64 c.steps, .int .i64 c.rate, .int .i64 c.decay, .int .i64 c.how, .int .i64 c.keep, .int .i64 c.clip], .slice D n dc, .slice A N ac] W fun e w' => ∃ k : Nat, FirstOff N f (recC c ds) k ∧ e = .returned (.tuple #[.int .i64 k, .int .i64 0]) ∧ Below W.heap.size W w') :
    Calls Try.prog 9 #[.agg #[.int .i64 c.ci, .int .i64 c.ch, .int .i64 c.co, .int .u64 c.seed, .int .i64 c.batch, .int .i64 c.steps, .int .i64 c.rate, .int .i64 c.decay, .int .i64 c.how, .int .i64 c.keep, .int .i64 c.clip], .slice D n dc, .int .i64 N0, .int .i64 K0, .agg #[.int .i64 x.step, .slice A x.batch.length k, .int .i64 x.rate, .int .u64 x.root, .int .u64 x.chain]] w fun e w' => e = .returned (.bool true) ∧ Below w.heap.size w w' := by
  have HD := Lib.hid (fun W (h : Below w.heap.size w W) => hd.below h)
  have HCO := Lib.hid (fun W (h : Below w.heap.size w W) => ref_Course c D n dc ds W (hd.below h) hn)
  have HB0 := (Blk.made w 54 #[.int .i64 c.ci, .int .i64 c.ch, .int .i64 c.co, .int .u64 c.seed, .int .i64 c.batch, .int .i64 c.steps, .int .i64 c.rate, .int .i64 c.decay, .int .i64 c.how, .int .i64 c.keep, .int .i64 c.clip]).alloc (.cells #[.int .i64 x.step, .slice A x.batch.length k, .int .i64 x.rate, .int .u64 x.root, .int .u64 x.chain] 69)
  have HBR := Blk.made' (w.alloc (.cells #[.int .i64 c.ci, .int .i64 c.ch, .int .i64 c.co, .int .u64 c.seed, .int .i64 c.batch, .int .i64 c.steps, .int .i64 c.rate, .int .i64 c.decay, .int .i64 c.how, .int .i64 c.keep, .int .i64 c.clip] 54)) 69 #[.int .i64 x.step, .slice A x.batch.length k, .int .i64 x.rate, .int .u64 x.root, .int .u64 x.chain] (g := w.heap.size + 1) (by simp)
  have b0 : Below w.heap.size w ((w.alloc (.cells #[.int .i64 c.ci, .int .i64 c.ch, .int .i64 c.co, .int .u64 c.seed, .int .i64 c.batch, .int .i64 c.steps, .int .i64 c.rate, .int .i64 c.decay, .int .i64 c.how, .int .i64 c.keep, .int .i64 c.clip] 54)).alloc (.cells #[.int .i64 x.step, .slice A x.batch.length k, .int .i64 x.rate, .int .u64 x.root, .int .u64 x.chain] 69)) := (by repeat (first | exact Below.refl _ _ | assumption | refine bel_drewN ?_ _ | refine Below.drew ?_ | (refine Below.alloc ?_ (by simp <;> omega) _) | (refine Below.setCell ?_ (by simp <;> omega) _)))
  go_enter Try.func9, Try.ntmps9
  go_wp2_with fail
  refine (keep_taught _).mono ?_
  rintro e w1 ⟨rfl, hb1⟩
  replace HB0 := HB0.below hb1 HB0.lt
  replace HBR := HBR.below hb1 HBR.lt
  have hw1 := b0.trans (hb1.mono b0.size)
  clear hb1 b0
  obtain ⟨d0, d1, d2, d3, d4, d5, d6, d7, d8, d9, da⟩ := HB0.cfg
  go_wp2_with fail
  refine (HCO.out _ hw1).mono ?_
  rintro e w2 ⟨rfl, hb2⟩
  have hw2 := hw1.trans (hb2.mono hw1.size)
  replace HB0 := HB0.below hb2 HB0.lt
  replace HBR := HBR.below hb2 HBR.lt
  clear d0 d1 d2 d3 d4 d5 d6 d7 d8 d9 da hb2 hw1
  obtain ⟨d0, d1, d2, d3, d4, d5, d6, d7, d8, d9, da⟩ := HB0.cfg
  by_cases hC : crs c ds = 0
  · have hf := fine hC
    have HMK := Lib.hid (fun W (h : Below w.heap.size w W) (N : Nat) (hN : (N : Int) ≤ c.steps) => jrn_Make_ok c ds hC s0 s1 D n dc W (HD.out W h) N hN)
    have HWH := Lib.hid (HWW hC)
    clear HWW
    have hst := hf.ok.st
    have hba := hf.ok.ba
    have HR := Lib.hid (fun (x M : Int) h1 h2 W => rest_of x M h1 h2 W)
    have HSH := Lib.hid (fun K => show (recC c ds K).batch.length ≤ 9223372036854775806 from by
      show ((batI c ds K).map _).length ≤ _
      rw [List.length_map, batI_length]
      omega)
    rw [hC]
    clear hC HCO hf
    obtain ⟨rc, hrc⟩ : ∃ rc, rc = recC c ds := ⟨_, rfl⟩
    rw [← hrc] at HMK HWH HSH
    clear hrc
    have hs23 : w.heap.size + 2 ≤ w2.heap.size := by have := HBR.lt; omega
    go_upto_region 5 with fail
    go_cut [2] (fun v wx => ∃ r : Nat, (r : Int) ≤ c.steps ∧ r ≤ 5 ∧ v = .int .i64 r ∧ wx = w2)
    case first =>
      go_wp2_with fail
      all_goals
        refine (HR.out _ _ (by omega) (by omega) _).mono ?_
        rintro e w' ⟨r, hr, rfl, rfl⟩
        go_wp2
        go_meet
        case rel => exact ⟨r, by omega, by omega, rfl, rfl⟩
    case rest =>
      obtain ⟨N, hN, hN5, rfl, rfl⟩ := hcut
      go_wp2_with fail
      refine (HMK.out _ hw2 N hN).mono ?_
      rintro e w3 ⟨A', k', rfl, hL, hb3⟩
      have hw3 := hw2.trans (hb3.mono hw2.size)
      replace HB0 := HB0.below hb3 HB0.lt
      replace HBR := HBR.below hb3 HBR.lt
      clear d0 d1 d2 d3 d4 d5 d6 d7 d8 d9 da
      obtain ⟨d0, d1, d2, d3, d4, d5, d6, d7, d8, d9, da⟩ := HB0.cfg
      go_wp2_with fail
      refine (HWH.out _ hw3 A' N k' rc (RecHeld.recs hL).weak hN).mono ?_
      rintro e w4 ⟨q, hq, rfl, hb4⟩
      obtain rfl : N = q := (first_self hq).symm
      have hw4 := hw3.trans (hb4.mono hw3.size)
      have hL4 := hL.below (keeps_rec none) hb4
      replace HB0 := HB0.below hb4 HB0.lt
      replace HBR := HBR.below hb4 HBR.lt
      clear d0 d1 d2 d3 d4 d5 d6 d7 d8 d9 da hq hb4 hb3 hw2 hw3 hL
      by_cases hN0 : N = 0
      · subst hN0
        go_wp2
        go_ret
        exact ⟨rfl, hw4⟩
      · have t0 : ((N : Int) == 0) = false := by rw [beq_eq_false_iff_ne]; omega
        have N1 : 1 ≤ N := by omega
        clear hN0
        obtain ⟨g, c', hv, hg1, hg2, hc1, hc2⟩ := hL4.form (by omega)
        obtain ⟨rfl, rfl⟩ : A' = some ⟨g, 0, none⟩ ∧ k' = c' := by injection hv with a _ b; exact ⟨a, b⟩
        clear hv
        go_wp2_with fail
        refine (HR.out K0 (N : Int) (by omega) (by omega) _).mono ?_
        rintro e w' ⟨K, hK, rfl, rfl⟩
        have hBK := hL4.at (j := K) (by omega)
        obtain ⟨cs, ⟨vb, rfl, LK, kk, rfl, IK, lk1, lk2, _⟩, m0, _, _⟩ := hBK
        have hgw : w.heap.size + 1 < g := by omega
        have kc0 : (0 : Int) ≤ (K : Int) := by omega
        have kc1 : (K : Int) ≤ (K : Int) + 1 := by omega
        have kc2 : (K : Int) + 1 ≤ (k' : Int) := by omega
        have kc3 : ¬ k' = K := by omega
        have kc4 : (K : Int) < (N : Int) := by omega
        have eK : IntKind.i64.wrap ((K : Int) + 1) = (K : Int) + 1 := wrap_small _ (by omega) (by omega)
        have bZ : Below w4.heap.size w4 ((w4.drew).alloc (.cells #[.int .i64 x.step, .slice A x.batch.length k, .int .i64 x.rate, .int .u64 x.root, .int .u64 x.chain] 69)) := ((Below.refl _ _).drew).alloc (Nat.le_refl _) _
        have BZ := Blk.made (w4.drew) 69 #[.int .i64 x.step, .slice A x.batch.length k, .int .i64 x.rate, .int .u64 x.root, .int .u64 x.chain]
        have hyL : RecsR ((w4.drew).alloc (.cells #[.int .i64 x.step, .slice A x.batch.length k, .int .i64 x.rate, .int .u64 x.root, .int .u64 x.chain] 69)) (some ⟨g, K * 5, none⟩) 1 [rc K] :=
          recs_one (A := LK) (k := kk) (Nat.lt_of_lt_of_le hg2 bZ.size) ⟨(bZ.cell (p := ⟨g, K * 5, none⟩) hg2).trans (m0 0 (by omega)), (bZ.cell (p := ⟨g, K * 5 + 1, none⟩) hg2).trans (m0 1 (by omega)), (bZ.cell (p := ⟨g, K * 5 + 2, none⟩) hg2).trans (m0 2 (by omega)), (bZ.cell (p := ⟨g, K * 5 + 3, none⟩) hg2).trans (m0 3 (by omega)), (bZ.cell (p := ⟨g, K * 5 + 4, none⟩) hg2).trans (m0 4 (by omega))⟩ (IK.below bZ) lk1 lk2
        have hxL : RecsR ((w4.drew).alloc (.cells #[.int .i64 x.step, .slice A x.batch.length k, .int .i64 x.rate, .int .u64 x.root, .int .u64 x.chain] 69)) (some ⟨w4.heap.size, 0, none⟩) 1 [x] :=
          recs_one (A := A) (k := k) BZ.lt ⟨BZ.cell 0, BZ.cell 1, BZ.cell 2, BZ.cell 3, BZ.cell 4⟩ ((hI.below hw4).below bZ) l1 l2
        have HSR := Lib.hid (fun d d' => ref_SameRecords (some ⟨w4.heap.size, 0, none⟩) (some ⟨g, K * 5, none⟩) 1 1 d d' [x] [rc K] _ hxL hyL (by omega) (fun j hj => .inr (by have h0 : j = 0 := Nat.lt_one_iff.1 hj; subst h0; exact HSH.out K)))
        rw [sameB_one] at HSR
        obtain ⟨⟨r0, r1, r2, r3, r4⟩, _⟩ := HBR.rec5
        obtain ⟨sb, hsb⟩ : ∃ sb, sb = sameR x (rc K) := ⟨_, rfl⟩
        rw [← hsb] at HSR
        have HSB := Lib.hid hsb
        clear hsb hyL hxL BZ m0 IK lk1 lk2
        go_upto_region 13 with fail
        go_cut [15] (fun v wx => v = .bool sb ∧ Below w4.heap.size w4 wx)
        case first =>
          go_region_held3 (fun W => W.cell? ⟨w.heap.size + 1, 0, none⟩ = some (.int .i64 x.step) ∧ W.cell? ⟨w.heap.size + 1, 1, none⟩ = some (.slice A x.batch.length k) ∧ W.cell? ⟨w.heap.size + 1, 2, none⟩ = some (.int .i64 x.rate) ∧ W.cell? ⟨w.heap.size + 1, 3, none⟩ = some (.int .u64 x.root) ∧ W.cell? ⟨w.heap.size + 1, 4, none⟩ = some (.int .u64 x.chain)) (first | (with_reducible exact ⟨r0, r1, r2, r3, r4⟩) | (with_reducible exact (HBR.below hu HBR.lt).rec5.1) | go_keep) (first
            | (go_at_call 39; (refine (HSR.out _ _).mono ?_); rintro e u ⟨rfl, hbu⟩; have hu : Below w4.heap.size w4 u := bZ.trans (hbu.mono bZ.size); obtain ⟨y0, y1, y2, y3, y4⟩ := (HBR.below hu HBR.lt).rec5.1)
            | fail)
          all_goals
            go_wp2
            go_meet
            case rel => exact ⟨rfl, hu⟩
        case rest =>
          obtain ⟨rfl, hbc⟩ := hcut
          obtain ⟨y, rfl⟩ : ∃ y : World, y = wc := ⟨_, rfl⟩
          have hLy := hL4.below (keeps_rec none) hbc
          have hwy := hw4.trans (hbc.mono hw4.size)
          have HBy := HB0.below hbc HB0.lt
          have hgy : g < y.heap.size := Nat.lt_of_lt_of_le hg2 hbc.size
          obtain ⟨hRB, hBt⟩ := bent_recs (K := K) (x := x) (k := k) hLy (by omega) (hI.below hwy) (fun b off e hn => by
            obtain ⟨b', off', e', hb, _⟩ := hI.cells hn
            have : b = b' := by rw [e'] at e; cases e; rfl
            omega) l1 l2
          obtain ⟨⟨r0', r1', r2', r3', r4'⟩, _⟩ := (HBR.below hbc HBR.lt).rec5
          obtain ⟨cs', ⟨vb', rfl, _⟩, m0', _, _⟩ := hLy.at (j := K) (by omega)
          have c0 : y.cell? ⟨g, K * 5, none⟩ = some (.int .i64 (rc K).step) := m0' 0 (by omega)
          have c1 : y.cell? ⟨g, K * 5 + 1, none⟩ = some vb' := m0' 1 (by omega)
          have c2 : y.cell? ⟨g, K * 5 + 2, none⟩ = some (.int .i64 (rc K).rate) := m0' 2 (by omega)
          have c3 : y.cell? ⟨g, K * 5 + 3, none⟩ = some (.int .u64 (rc K).root) := m0' 3 (by omega)
          have c4 : y.cell? ⟨g, K * 5 + 4, none⟩ = some (.int .u64 (rc K).chain) := m0' 4 (by omega)
          obtain ⟨vs, hoy, _⟩ := hLy
          have z0 := hoy.frozenAt (K * 5)
          have z1 := hoy.frozenAt (K * 5 + 1)
          have z2 := hoy.frozenAt (K * 5 + 2)
          have z3 := hoy.frozenAt (K * 5 + 3)
          have z4 := hoy.frozenAt (K * 5 + 4)
          have hb2 : Below w.heap.size w (((((y.setCell ⟨g, K * 5, none⟩ (.int .i64 x.step)).setCell ⟨g, K * 5 + 1, none⟩ (.slice A x.batch.length k)).setCell ⟨g, K * 5 + 2, none⟩ (.int .i64 x.rate)).setCell ⟨g, K * 5 + 3, none⟩ (.int .u64 x.root)).setCell ⟨g, K * 5 + 4, none⟩ (.int .u64 x.chain)) := but_to hwy hBt (by omega) hwy.size
          have HWL := Lib.hid (HWH.out _ hb2 (some ⟨g, 0, none⟩) N k' (bentF rc K x) hRB hN)
          obtain ⟨d0, d1, d2, d3, d4, d5, d6, d7, d8, d9, da⟩ := HBy.cfg
          have hlc := HBy.lt
          have hne1 : w.heap.size ≠ g := by omega
          have hne2 : g ≠ w.heap.size := by omega
          clear hRB hBt hoy
          go_wp2_with fail
          refine HWL.out.mono ?_
          rintro e u ⟨q, hq, rfl, hbu⟩
          obtain ⟨q1, q2⟩ := first_bent (by omega) hq
          rw [← HSB.out] at q1 q2
          have hfin := hb2.trans (hbu.mono hb2.size)
          clear hq hb2 hbu d0 d1 d2 d3 d4 d5 d6 d7 d8 d9 da
          cases sb
          · obtain rfl : q = K := q2 rfl
            go_wp2
            go_ret
            exact ⟨by simp, hfin⟩
          · obtain rfl : q = N := q1 rfl
            go_wp2
            go_ret
            exact ⟨by simp, hfin⟩
  · have t : (crs c ds != 0) = true := by rw [bne_iff_ne]; exact hC
    obtain ⟨z, hz⟩ : ∃ z, z = crs c ds := ⟨_, rfl⟩
    rw [← hz] at t ⊢
    clear hC hz HCO HWW
    go_wp2
    go_ret
    exact ⟨rfl, hw2⟩
end Go.Proofs.Ythckpmgehhkacaa
