/- The law TreeBinds holds of the given program for every input. No condition. -/
import Derived.Test.YthckpmgehhkacaaBindW
import Derived.Test.YthckpmgehhkacaaGrown
import Derived.Test.YthckpmgehhkacaaSpot
import Derived.Test.YthckpmgehhkacaaArgs
namespace Go.Proofs.Ythckpmgehhkacaa
open Go.ChangeShapes Go.WideShapes Go.ChangeAt Go.RowKit Pl

set_option maxRecDepth 100000 in
set_option maxHeartbeats 2000000 in
theorem keep_made (A : Option Addr) (n c : Nat) (xs : List Int) (w : World) (hx : Ints .u64 w A n xs) (hu : U64 xs) (h2 : 2 ≤ n) (hn : n ≤ 200) (hc : n ≤ c) :
    Calls Try.prog 19 #[.slice A n c] w fun e w' => e = .returned (.int .u64 (madeI xs)) ∧ Below w.heap.size w w' := by
  have hl := hx.len
  obtain ⟨b, off, rfl, hbl, hcl⟩ := hx.cells (by omega)
  have g0 := hcl 0 (by omega)
  rw [Nat.add_zero] at g0
  have hx1 : Ints .u64 w (some ⟨b, off + 1, none⟩) (n - 1) (xs.drop 1) := by
    have h := hx.cut (i := 1) (m := n - 1) (by omega) (A' := some ⟨b, off + 1, none⟩) (fun _ b' off' e => by cases e; rfl)
    rwa [List.take_of_length_le (by rw [List.length_drop]; omega)] at h
  have HOF := Lib.hid (fun W (q : Ints .u64 W (some ⟨b, off + 1, none⟩) (n - 1) (xs.drop 1)) => show Calls Try.prog 69 #[.int .u64 (at0 xs 0), .slice (some ⟨b, off + 1, none⟩) (n - 1) (c - 1)] W fun e w' => e = .returned (.tuple #[.int .u64 (madeI xs), .int .i64 0]) ∧ Below W.heap.size W w' from by
    have h := dig_Of (at0 xs 0) (some ⟨b, off + 1, none⟩) (n - 1) (c - 1) (xs.drop 1) W (hu 0).1 (hu 0).2 q (hu.drop 1)
    have e1 : ofE (xs.drop 1) = 0 := if_neg (by rw [List.length_drop]; omega)
    have e2 : ofO (at0 xs 0) (xs.drop 1) = madeI xs := if_neg (by rw [List.length_drop]; omega)
    rw [e1, e2] at h
    exact h)
  obtain ⟨h0, hh0⟩ : ∃ h0, h0 = at0 xs 0 := ⟨_, rfl⟩
  rw [← hh0] at g0 HOF
  clear hh0 hcl hx hl
  have hc1 : ¬ c = 1 := by omega
  have hk1 : (1 : Int) ≤ (n : Int) := by omega
  have hk2 : (n : Int) ≤ (c : Int) := by omega
  have hk3 : (0 : Int) < (n : Int) := by omega
  have hk4 : 0 < n := by omega
  have hk5 : ¬ n = 0 := by omega
  have hk6 : 1 ≤ n := by omega
  go_enter Try.func19, Try.ntmps19
  go_wp2_with fail
  go_region_held3 (fun W => W.cell? ⟨b, off, none⟩ = some (.int .u64 h0)) (first | exact g0 | exact y0 | go_keep) (first
    | (go_at_call 69; (with_reducible refine (HOF.out _ (hx1.drew)).mono ?_); rintro e u1 ⟨rfl, hb1⟩; have y0 := (hb1.cell (p := ⟨b, off, none⟩) hbl).trans g0)
    | fail)
  all_goals
    go_wp2
    go_ret
    exact ⟨rfl, bel_trans ((Below.refl _ _).drew) hb1⟩

theorem Heaps.at {B : Nat} {row : Nat → List Int} {k g c : Nat} {w : World} (h : Heaps B row k (.slice (some ⟨g, 0, none⟩) k c) w) {j : Nat} (hj : j < k) :
    ∃ b s, w.cell? ⟨g, j, none⟩ = some (.slice (some ⟨b, 0, none⟩) (row j).length s) ∧ Ints .u64 w (some ⟨b, 0, none⟩) (row j).length (row j) ∧ (row j).length ≤ s ∧ g < w.heap.size := by
  obtain ⟨vs, hl, ho, hp⟩ := h.len
  obtain ⟨b, s, hv, hi, hs, _⟩ := hp j hj
  refine ⟨b, s, ?_, hi, hs, (ho.lt g rfl).2⟩
  rw [ho.cellAt j (by omega), List.getElem?_eq_getElem (by omega), ← hv, List.getElem?_eq_getElem (by omega)]
  rfl
theorem opens_nat {i n : Int} {L m : Nat} (hE : opensE i n L m = 0) : 0 ≤ i ∧ 1 ≤ n := by
  have hc : climbE i n L = 0 := by
    unfold opensE at hE
    by_cases h : climbE i n L = 0
    · exact h
    · rw [if_pos h] at hE; exact hE
  obtain ⟨⟨⟨n1, n2⟩, i1, i2⟩, _⟩ := climbE_ok hc
  exact ⟨i1, n1⟩
/-- Two lists of u64s are held against each other: what the call answers, told ahead. -/
theorem equalU_told {A B : Option Addr} {n m c d : Nat} {xs ys : List Int} {r : Bool} (hr : decide (xs = ys) = r) {w : World} (hx : Ints .u64 w A n xs) (hy : Ints .u64 w B m ys) (hn : n ≤ 9223372036854775806) :
    Calls Try.prog 18 #[.slice A n c, .slice B m d] w fun e w' => e = .returned (.bool r) ∧ Quiet w w' := by
  rw [← hr]
  exact equalU_any A B n c d m xs ys w hx hy hn
theorem opens_up {root : Int} {k N : Nat} {a p : List Int} (hE : opensE k N p.length a.length = 0) (hO : opensO root k N a p = true) :
    (waysP k ((N + 3) / 4)).length = p.length ∧ (1 ≤ N ∧ N ≤ 200) ∧ k < (N + 3) / 4 ∧ (1 ≤ a.length ∧ a.length ≤ 4) ∧ p.length = deepP k ((N + 3) / 4) ∧ pairI N (climbI (waysP k ((N + 3) / 4)) p (leafR a) (waysP k ((N + 3) / 4)).length) = root % 2305843009213693951 := by
  have hc : climbE k N p.length = 0 := by
    unfold opensE at hE
    by_cases h : climbE (k : Int) (N : Int) p.length = 0
    · exact h
    · rw [if_pos h] at hE; exact hE
  have hm : (a.length : Int) = min 4 ((N : Int) - 4 * (k : Int)) := by
    unfold opensE at hE
    rw [if_neg (by simp [hc])] at hE
    by_cases h : (a.length : Int) = min 4 ((N : Int) - 4 * (k : Int))
    · exact h
    · rw [if_pos h] at hE; omega
  obtain ⟨⟨⟨n1, n2⟩, i1, i2⟩, hd⟩ := climbE_ok hc
  simp only [Int.toNat_natCast] at hd
  have hl : (waysP k ((N + 3) / 4)).length = p.length := hd.symm
  have ha : 1 ≤ a.length ∧ a.length ≤ 4 := by omega
  refine ⟨hl, by omega, by omega, ha, hd, ?_⟩
  have hle : at0 (leavesI a) 0 = leafR a := by
    unfold leavesI
    rw [at0_upto _ (by omega)]
    unfold leafI leafR
    rw [Nat.mul_zero, List.drop_zero, List.take_of_length_le ha.2]
  unfold opensO climbO at hO
  rw [hE, hc, hle] at hO
  simp only [decide_true, Bool.true_and, if_true, Int.toNat_natCast] at hO
  rw [climbI_up _ _ _ hl]
  exact beq_iff_eq.1 hO

set_option maxRecDepth 100000 in
set_option maxHeartbeats 8000000 in
theorem treeBinds_walk (root n i : Int) (A B P Q : Option Addr) (ma ca mb cb Lp cp Lq cq : Nat) (a b p q : List Int) (w : World) (ia : Ints .i64 w A ma a) (ib : Ints .i64 w B mb b) (ip : Ints .u64 w P Lp p) (iq : Ints .u64 w Q Lq q)
    (hup : U64 p) (huq : U64 q) (la : ma ≤ ca) (lb : mb ≤ cb) (r0 : 0 ≤ root) (r1 : root < 18446744073709551616) :
    Calls Try.prog 3 #[.int .u64 root, .int .i64 n, .int .i64 i, .slice A ma ca, .slice B mb cb, .slice P Lp cp, .slice Q Lq cq] w fun e w' => e = .returned (.bool true) ∧ Below w.heap.size w w' := by
  have HA := Lib.hid (fun W (h : Below w.heap.size w W) => (⟨ia.below h, ib.below h, ip.below h, iq.below h⟩ : Ints .i64 W A ma a ∧ Ints .i64 W B mb b ∧ Ints .u64 W P Lp p ∧ Ints .u64 W Q Lq q))
  have HOA := Lib.hid (fun W (h : Below w.heap.size w W) => spot_Opens root i n A P ma Lp ca cp a p W (HA.out W h).1 (HA.out W h).2.2.1 hup la r0 r1)
  have HOB := Lib.hid (fun W (h : Below w.heap.size w W) => spot_Opens root i n B Q mb Lq cb cq b q W (HA.out W h).2.1 (HA.out W h).2.2.2 huq lb r0 r1)
  have LA := Lib.hid ia.len
  have LB := Lib.hid ib.len
  have LP := Lib.hid ip.len
  have LQ := Lib.hid iq.len
  clear ia ib ip iq
  obtain ⟨e1, he1⟩ : ∃ e1, e1 = opensE i n Lp ma := ⟨_, rfl⟩
  obtain ⟨e2, he2⟩ : ∃ e2, e2 = opensE i n Lq mb := ⟨_, rfl⟩
  obtain ⟨x1, hx1⟩ : ∃ x1, x1 = opensO root i n a p := ⟨_, rfl⟩
  obtain ⟨x2, hx2⟩ : ∃ x2, x2 = opensO root i n b q := ⟨_, rfl⟩
  rw [← he1, ← hx1] at HOA
  rw [← he2, ← hx2] at HOB
  have E1 := Lib.hid he1
  have E2 := Lib.hid he2
  have X1 := Lib.hid hx1
  have X2 := Lib.hid hx2
  clear he1 he2 hx1 hx2
  go_enter Try.func3, Try.ntmps3
  go_wp2_with fail
  refine (keep_grown _).mono ?_
  rintro e w1 ⟨rfl, hb1⟩
  go_wp2_with fail
  refine (HOA.out _ hb1).mono ?_
  rintro e w2 ⟨rfl, hb2⟩
  have hb12 := bel_trans hb1 hb2
  go_wp2_with fail
  refine (HOB.out _ hb12).mono ?_
  rintro e w3 ⟨rfl, hb3⟩
  have hb13 := bel_trans hb12 hb3
  clear hb1 hb2 hb3 hb12 HOA HOB
  by_cases g1 : e1 = 0
  · subst g1
    by_cases g2 : e2 = 0
    · subst g2
      cases x1
      · go_wp2
        go_ret
        exact ⟨rfl, hb13⟩
      · cases x2
        · go_wp2
          go_ret
          exact ⟨rfl, hb13⟩
        · have hE1 : opensE i n p.length a.length = 0 := by rw [LP.out, LA.out]; exact E1.out.symm
          have hE2 : opensE i n q.length b.length = 0 := by rw [LQ.out, LB.out]; exact E2.out.symm
          obtain ⟨q1, q2⟩ := opens_nat hE1
          obtain ⟨k, rfl⟩ : ∃ k : Nat, i = (k : Int) := ⟨i.toNat, by omega⟩
          obtain ⟨N, rfl⟩ : ∃ N : Nat, n = (N : Int) := ⟨n.toNat, by omega⟩
          obtain ⟨hl, hN, hk, hma, hd, hr⟩ := opens_up hE1 X1.out.symm
          obtain ⟨_, _, _, hmb, hd', hr'⟩ := opens_up hE2 X2.out.symm
          rw [LP.out] at hd hl
          rw [LQ.out] at hd'
          rw [LA.out] at hma
          rw [LB.out] at hmb
          obtain rfl : Lq = Lp := by omega
          have HB := Lib.hid (fun h0 hall => binds (n := N) (a := a) (b := b) hup huq h0 (hr.trans hr'.symm) hall)
          rw [hl] at HB
          have HPA := Lib.hid (fun W (h : Below w.heap.size w W) => keep_pairs k N A P ma Lq ca cp a p W (HA.out W h).1 (HA.out W h).2.2.1 hup hma.1 hma.2 hN.1 hN.2 hk hd)
          have HPB := Lib.hid (fun W (h : Below w.heap.size w W) => keep_pairs k N B Q mb Lq cb cq b q W (HA.out W h).2.1 (HA.out W h).2.2.2 huq hmb.1 hmb.2 hN.1 hN.2 hk hd)
          have HRL := Lib.hid (fun j => rowR_len (waysP k ((N + 3) / 4)) N a p (by rw [LA.out]; exact hma.1) (by rw [LA.out]; exact hma.2) j)
          have HRL2 := Lib.hid (fun j => rowR_len (waysP k ((N + 3) / 4)) N b q (by rw [LB.out]; exact hmb.1) (by rw [LB.out]; exact hmb.2) j)
          have HRU := Lib.hid (fun j => rowR_u64 (waysP k ((N + 3) / 4)) (n := N) a (path := p) (by omega) j)
          have HRU2 := Lib.hid (fun j => rowR_u64 (waysP k ((N + 3) / 4)) (n := N) b (path := q) (by omega) j)
          have bd : Lq ≤ 60 := by rw [hd]; have := deepP_le ((N + 3) / 4) k (by omega); omega
          obtain ⟨ra, hra⟩ : ∃ ra, ra = rowR (waysP k ((N + 3) / 4)) (N : Int) a p := ⟨_, rfl⟩
          obtain ⟨rb, hrb⟩ : ∃ rb, rb = rowR (waysP k ((N + 3) / 4)) (N : Int) b q := ⟨_, rfl⟩
          rw [← hra] at HB HPA HRL HRU
          rw [← hrb] at HB HPB HRL2 HRU2
          obtain ⟨M, hM⟩ : ∃ M, M = Lq + 2 := ⟨_, rfl⟩
          rw [← hM] at HB HPA HPB
          have M1 : (0 : Int) < (M : Int) := by omega
          have M2 : 0 < M := by omega
          have M3 : ¬ M = 0 := by omega
          have M4 : M ≤ 62 := by omega
          clear hra hrb hl hN hk hd hr hr' hd' hma hmb hE1 hE2 q1 q2 hM
          go_wp2_with fail
          refine (HPA.out _ hb13).mono ?_
          rintro e w4 ⟨ga, sa, rfl, hQA, hb4⟩
          have hb14 := bel_trans hb13 hb4
          go_wp2_with fail
          refine (HPB.out _ hb14).mono ?_
          rintro e w5 ⟨gb, sb, rfl, hQB, hb5⟩
          have hQ5 := hQA.below hb5
          have hb15 := bel_trans hb14 hb5
          clear hQA hb4 hb5 hb14 hb13 HPA HPB HA
          obtain ⟨a0, s0, c0, I0, l0, lt0⟩ := hQ5.at (j := 0) (by omega)
          obtain ⟨a1, s1, c1, I1, l1, lt1⟩ := hQB.at (j := 0) (by omega)
          have z0 := (HRL.out 0).2
          have z1 := (HRL2.out 0).2
          by_cases h0 : ra 0 = rb 0
          · have HEQ := Lib.hid (fun W (h1 : Ints .u64 W (some ⟨a0, 0, none⟩) (ra 0).length (ra 0)) (h2 : Ints .u64 W (some ⟨a1, 0, none⟩) (rb 0).length (rb 0)) => equalU_told (c := s0) (d := s1) (decide_eq_true h0) h1 h2 (by omega))
            have H0 := Lib.hid h0
            clear h0
            go_wp2_with fail
            go_quiet ((go_at_call 18; exact Calls.quiet_of (HEQ.out _ (I0.drewN _) (I1.drewN _))))
            all_goals
              go_wp2
              go_ret
              exact ⟨by simp, bel_trans hb15 (drewN_below _)⟩
          · have HEQ := Lib.hid (fun W (h1 : Ints .u64 W (some ⟨a0, 0, none⟩) (ra 0).length (ra 0)) (h2 : Ints .u64 W (some ⟨a1, 0, none⟩) (rb 0).length (rb 0)) => equalU_told (c := s0) (d := s1) (decide_eq_false h0) h1 h2 (by omega))
            have H0 := Lib.hid h0
            clear h0
            go_wp2_with fail
            go_quiet ((go_at_call 18; exact Calls.quiet_of (HEQ.out _ (I0.drewN _) (I1.drewN _))))
            obtain ⟨u1, hu1⟩ : ∃ u1, u1 = w5.drewN nq := ⟨_, rfl⟩
            have hq5 : Below w5.heap.size w5 u1 := by rw [hu1]; exact drewN_below _
            rw [← hu1]
            clear hu1
            have hb16 := bel_trans hb15 hq5
            have hQ6 := hQ5.below hq5
            have hP6 := hQB.below hq5
            clear I0 I1 c0 c1 hQ5 hQB hb15 HEQ z0 z1
            go_wp2
            go_loopw [21, 87] (fun _ j wr => ∃ r : Nat, r ≤ M ∧ j = .int .i64 r ∧ (∀ i, i < r → ra i ≠ rb i → madeI (ra i) ≠ madeI (rb i)) ∧ Below u1.heap.size u1 wr) (fun _ j _ => M - (intOf j).toNat)
            case atStart => exact ⟨0, by omega, rfl, fun i hi => absurd hi (by omega), Below.refl _ _⟩
            case round =>
              obtain ⟨r, hrM, rfl, hall, hbr⟩ := hrel
              have HALL := Lib.hid hall
              clear hall
              by_cases hlt : r < M
              · obtain ⟨a0, s0, c0, I0, l0, lt0⟩ := (hQ6.below hbr).at (j := r) hlt
                obtain ⟨a1, s1, c1, I1, l1, lt1⟩ := (hP6.below hbr).at (j := r) hlt
                have z0 := HRL.out r
                have z1 := HRL2.out r
                have k0 : (0 : Int) ≤ (r : Int) := by omega
                have k1 : (r : Int) < (M : Int) := by omega
                by_cases h1 : ra r = rb r
                · have HEQ := Lib.hid (fun W (h1' : Ints .u64 W (some ⟨a0, 0, none⟩) (ra r).length (ra r)) (h2 : Ints .u64 W (some ⟨a1, 0, none⟩) (rb r).length (rb r)) => equalU_told (c := s0) (d := s1) (decide_eq_true h1) h1' h2 (by omega))
                  have H1 := Lib.hid h1
                  clear h1
                  go_wp2_with fail
                  go_quiet ((go_at_call 18; exact Calls.quiet_of (HEQ.out _ (I0.drewN _) (I1.drewN _))))
                  go_wp2
                  go_roundw
                  case rel =>
                    refine ⟨r + 1, by omega, by go_num, fun i hi hn => ?_, bel_trans hbr (drewN_below _)⟩
                    by_cases hir : i = r
                    · subst hir; exact absurd H1.out hn
                    · exact HALL.out i (by omega) hn
                  case measure => simp [intOf]; omega
                · have HEQ := Lib.hid (fun W (h1' : Ints .u64 W (some ⟨a0, 0, none⟩) (ra r).length (ra r)) (h2 : Ints .u64 W (some ⟨a1, 0, none⟩) (rb r).length (rb r)) => equalU_told (c := s0) (d := s1) (decide_eq_false h1) h1' h2 (by omega))
                  have HMA := Lib.hid (fun W (q' : Ints .u64 W (some ⟨a0, 0, none⟩) (ra r).length (ra r)) => keep_made _ _ s0 (ra r) W q' (HRU.out r) (HRL.out r).1 (by omega) l0)
                  have HMB := Lib.hid (fun W (q' : Ints .u64 W (some ⟨a1, 0, none⟩) (rb r).length (rb r)) => keep_made _ _ s1 (rb r) W q' (HRU2.out r) (HRL2.out r).1 (by omega) l1)
                  clear h1
                  obtain ⟨mx, hmx⟩ : ∃ mx, mx = madeI (ra r) := ⟨_, rfl⟩
                  obtain ⟨my, hmy⟩ : ∃ my, my = madeI (rb r) := ⟨_, rfl⟩
                  rw [← hmx] at HMA
                  rw [← hmy] at HMB
                  have MX := Lib.hid hmx
                  have MY := Lib.hid hmy
                  clear hmx hmy
                  go_wp2_with fail
                  go_region_held3 (fun W => W.cell? ⟨ga, r, none⟩ = some (.slice (some ⟨a0, 0, none⟩) (ra r).length s0) ∧ W.cell? ⟨gb, r, none⟩ = some (.slice (some ⟨a1, 0, none⟩) (rb r).length s1)) (first | (with_reducible exact ⟨c0, c1⟩) | (with_reducible exact ⟨y0, y1⟩) | (with_reducible exact ⟨y2, y3⟩) | (with_reducible exact ⟨y4, y5⟩) | go_keep) (first
                    | (go_at_call 18; (with_reducible refine (HEQ.out _ (I0.drew) (I1.drew)).mono ?_); rintro e u2 ⟨rfl, hq1⟩; have y0 := (hq1.cell ⟨ga, r, none⟩).trans c0; have y1 := (hq1.cell ⟨gb, r, none⟩).trans c1; have hq6 : Below wr.heap.size wr u2 := Quiet.after ((Below.refl _ _).drew) hq1)
                    | (go_at_call 19; (with_reducible refine (HMA.out _ (I0.below hq6)).mono ?_); rintro e u3 ⟨rfl, hb7⟩; have hq7 := bel_trans hq6 hb7; have y2 := (hq7.cell (p := ⟨ga, r, none⟩) lt0).trans c0; have y3 := (hq7.cell (p := ⟨gb, r, none⟩) lt1).trans c1)
                    | (go_at_call 19; (with_reducible refine (HMB.out _ (I1.below hq7)).mono ?_); rintro e u4 ⟨rfl, hb8⟩; have hq8 := bel_trans hq7 hb8; have y4 := (hq8.cell (p := ⟨ga, r, none⟩) lt0).trans c0; have y5 := (hq8.cell (p := ⟨gb, r, none⟩) lt1).trans c1)
                    | fail)
                  have hb15' := bel_trans hb16 (bel_trans hbr hq8)
                  by_cases hm : mx = my
                  · have tm : (mx == my) = true := beq_iff_eq.2 hm
                    go_wp2
                    go_ret
                    exact ⟨rfl, hb15'⟩
                  · have tm : (mx == my) = false := beq_eq_false_iff_ne.2 hm
                    have HM := Lib.hid hm
                    clear hm
                    go_wp2
                    go_roundw
                    case rel =>
                      refine ⟨r + 1, by omega, by go_num, fun i hi hn => ?_, bel_trans hbr hq8⟩
                      by_cases hir : i = r
                      · subst hir; rw [← MX.out, ← MY.out]; exact HM.out
                      · exact HALL.out i (by omega) hn
                    case measure => simp [intOf]; omega
              · obtain rfl : M = r := by omega
                exact (HB.out H0.out HALL.out).elim
    · have t2 : (e2 != 0) = true := bne_iff_ne.2 g2
      go_wp2
      go_ret
      exact ⟨rfl, hb13⟩
  · have t1 : (e1 != 0) = true := bne_iff_ne.2 g1
    go_wp2
    go_ret
    exact ⟨rfl, hb13⟩

set_option maxRecDepth 100000 in
theorem treeBinds_lifted (os : Os) (started : os.Started) (H : Type) (enc : TypeId × Value → H) :
    ReturnsInHanded {} Try.checked os 3 .any (Rows.treeBindsSpec.pre6 enc Try.prog Try.f3 Rows.treeBindsRow.domain false) (Rows.treeBindsSpec.post enc Try.prog Try.f3 false true false false) := by
  refine lift_law (fn := Try.f3) started (by kernel_rfl) Try.func3
    (ChangeSpec.witness6 (enc := enc) (C := Try.checked) false ⟨#[], #[.int .u64 0, .int .i64 0, .int .i64 0, .slice none 0 0, .slice none 0 0, .slice none 0 0, .slice none 0 0], []⟩ 8 (by kernel_rfl) (by kernel_rfl) (by kernel_rfl) (by kernel_rfl)) (by kernel_rfl) rfl Try.underlying4 rfl ?_ ?_
  · intro ds h
    rw [Try.params3] at h
    match ds, h with
    | [d0, d1, d2, d3, d4, d5, d6], _ => rfl
  · intro W args ds ps hA hlt hval hsz
    rw [Try.params3] at hA hval hsz
    obtain ⟨v0, vs0, d0, ds0, p0, q0, hargs, rfl, rfl, H0, T0⟩ := trodAll_cons hA
    obtain ⟨v1, vs1, d1, ds1, p1, q1, rfl, rfl, rfl, H1, T1⟩ := trodAll_cons T0
    obtain ⟨v2, vs2, d2, ds2, p2, q2, rfl, rfl, rfl, H2, T2⟩ := trodAll_cons T1
    obtain ⟨v3, vs3, d3, ds3, p3, q3, rfl, rfl, rfl, H3, T3⟩ := trodAll_cons T2
    obtain ⟨v4, vs4, d4, ds4, p4, q4, rfl, rfl, rfl, H4, T4⟩ := trodAll_cons T3
    obtain ⟨v5, vs5, d5, ds5, p5, q5, rfl, rfl, rfl, H5, T5⟩ := trodAll_cons T4
    obtain ⟨v6, vs6, d6, ds6, p6, q6, rfl, rfl, rfl, H6, T6⟩ := trodAll_cons T5
    obtain ⟨rfl, rfl, rfl⟩ := trodAll_nil T6
    obtain rfl : args = #[v0, v1, v2, v3, v4, v5, v6] := by cases args; simp_all
    obtain ⟨b0, hv0⟩ := hval 0 22 v0 rfl rfl
    obtain ⟨b1, hv1⟩ := hval 1 3 v1 rfl rfl
    obtain ⟨b2, hv2⟩ := hval 2 3 v2 rfl rfl
    obtain ⟨b3, hv3⟩ := hval 3 23 v3 rfl rfl
    obtain ⟨b4, hv4⟩ := hval 4 23 v4 rfl rfl
    obtain ⟨b5, hv5⟩ := hval 5 24 v5 rfl rfl
    obtain ⟨b6, hv6⟩ := hval 6 24 v6 rfl rfl
    obtain ⟨root, rfl, y0⟩ := arg_u64 hv0 H0
    obtain ⟨n, rfl, _⟩ := arg_int hv1 H1
    obtain ⟨i, rfl, _⟩ := arg_int hv2 H2
    obtain ⟨A, ma, ca, a, rfl, ia, la, _, _⟩ := arg_ints (fun _ => rfl) hv3 H3
    obtain ⟨B, mb, cb, b, rfl, ib, lb, _, _⟩ := arg_ints (fun _ => rfl) hv4 H4
    obtain ⟨P, Lp, cp, p, rfl, ip, _, _, wp⟩ := arg_u64s (fun _ => rfl) hv5 H5
    obtain ⟨Q, Lq, cq, q, rfl, iq, _, _, wq⟩ := arg_u64s (fun _ => rfl) hv6 H6
    have z0 := wf_u64 y0
    exact treeBinds_walk root n i A B P Q ma ca mb cb Lp cp Lq cq a b p q W ia ib ip iq (.of_wf wp) (.of_wf wq) la lb (by omega) (by omega)
theorem TreeBinds_holds : Rows.TreeBindsSaid :=
  OpenClaim.holds_of_wide 3 Try.f3 rfl rfl rfl rfl rfl rfl rfl ⟨rfl, rfl, rfl, rfl, rfl⟩ rfl rfl rfl rfl rfl (by kernel_rfl) Try.func3 (by kernel_rfl)
    (of_decide_eq_true (by kernel_rfl)) (by unfold Func.isWrapper; first | (rw [if_pos (by decide +kernel)]; kernel_rfl) | (rw [if_neg (by decide +kernel)]; exact ⟨rfl, rfl⟩))
    (fun os started H enc _ => treeBinds_lifted os started H enc)

end Go.Proofs.Ythckpmgehhkacaa
