/- The law JournalGoes holds of the given program for every input. No condition. -/
import Derived.Test.YthckpmgehhkacaaRecS
import Derived.Test.YthckpmgehhkacaaTrnG
namespace Go.Proofs.Ythckpmgehhkacaa
open Go.ChangeShapes Go.WideShapes Go.ChangeAt Go.RowKit Pl

set_option maxHeartbeats 1000000 in
theorem jg_one (x : Int) (q : Nat) (D : Option Addr) (n dc : Nat) (w : World) (hq : w.cell? ⟨q, 0, none⟩ = some (.slice D n dc)) (h0 : 0 ≤ x) (h1 : x < (n : Int)) :
    Calls Try.prog 42 #[.int .i64 x, .pointer (some ⟨q, 0, none⟩)] w fun e w' => e = .returned (.bool false) ∧ Quiet w w' := by
  have t1 : ¬ x < 0 := by omega
  have t2 : ¬ (n : Int) ≤ x := by omega
  go_enter Try.func42, Try.ntmps42
  go_wp2
  go_ret
  exact ⟨rfl, Quiet.refl _⟩
set_option maxHeartbeats 2000000 in
theorem jg_index (A : Option Addr) (m c : Nat) (xs : List Int) (q : Nat) (D : Option Addr) (n dc : Nat) (w : World) (hx : Ints .i64 w A m xs) (hm : m ≤ 100) (hq : w.cell? ⟨q, 0, none⟩ = some (.slice D n dc)) (hb : ∀ j, j < m → 0 ≤ at0 xs j ∧ at0 xs j < (n : Int)) :
    Calls Try.prog 93 #[.slice A m c, .func (.func 42) #[] #[.pointer (some ⟨q, 0, none⟩)]] w fun e w' => e = .returned (.int .i64 (-1)) ∧ Quiet w w' := by
  have HB := Lib.hid hb
  have HC := Lib.hid (fun x W (h : Quiet w W) h0 h1 => jg_one x q D n dc W ((h.cell _).trans hq) h0 h1)
  clear hb hq
  go_enter Try.func93, Try.ntmps93
  go_wp2
  go_loopw [5, 8] (fun _ i wr => ∃ k : Nat, k ≤ m ∧ i = .int .i64 k ∧ Quiet w wr) (fun _ i _ => m - (intOf i).toNat)
  case atStart => exact ⟨0, Nat.zero_le _, rfl, Quiet.refl _⟩
  case round =>
    obtain ⟨k, hk, rfl, hqq⟩ := hrel
    by_cases hlt : k < m
    · obtain ⟨b, off, rfl, hbl, hc⟩ := (hx.quiet hqq).cells (by omega)
      have g1 := hc k hlt
      obtain ⟨y0, y1⟩ := HB.out k hlt
      obtain ⟨y, hy⟩ : ∃ y, y = at0 xs k := ⟨_, rfl⟩
      rw [← hy] at g1 y0 y1
      clear hc hy
      go_wp2_with (go_at_call 42; refine (HC.out y _ hqq y0 y1).mono ?_; rintro e w1 ⟨rfl, hq1⟩)
      go_roundw
      case rel => exact ⟨k + 1, by omega, by go_num, hqq.trans hq1⟩
      case measure => simp [intOf]; omega
    · obtain rfl : k = m := by omega
      go_wp2
      go_ret
      exact ⟨rfl, hqq⟩
set_option maxHeartbeats 1000000 in
theorem jg_any (A : Option Addr) (m c : Nat) (xs : List Int) (q : Nat) (D : Option Addr) (n dc : Nat) (w : World) (hx : Ints .i64 w A m xs) (hm : m ≤ 100) (hq : w.cell? ⟨q, 0, none⟩ = some (.slice D n dc)) (hb : ∀ j, j < m → 0 ≤ at0 xs j ∧ at0 xs j < (n : Int)) :
    Calls Try.prog 41 #[.slice A m c, .func (.func 42) #[] #[.pointer (some ⟨q, 0, none⟩)]] w fun e w' => e = .returned (.bool false) ∧ Quiet w w' := by
  have H := Lib.hid (jg_index A m c xs q D n dc w hx hm hq hb)
  clear hx hq hb
  go_enter Try.func41, Try.ntmps41
  go_wp2_with (go_at_call 93; refine H.out.mono ?_; rintro e w1 ⟨rfl, hq1⟩)
  go_ret
  exact ⟨by simp, hq1⟩
theorem RecHeld.pre {m : Option Nat} {B : Nat} {f : Nat → Rec} {k : Nat} {A : Option Addr} {c : Nat} {w : World} (h : RecHeld m B f k (.slice A k c) w) {j : Nat} (hj : j ≤ k) {A' : Option Addr} (hA : 0 < j → A' = A) : RecsK w A' j (upto f j) := by
  refine ⟨upto_length _ _, fun hj0 => ?_⟩
  obtain ⟨b, off, e, hb, hc⟩ := (RecHeld.recs h).cells (by omega)
  refine ⟨b, off, (hA hj0).trans e, hb, fun i hi => ?_⟩
  obtain ⟨cs, h1, h2⟩ := hc i (by omega)
  rw [recAt_upto f (by omega)] at h1
  rw [recAt_upto f hi]
  exact ⟨cs, h1, h2⟩
theorem sameB_self (n : Nat) (rs : List Rec) : sameB n n rs rs = true := sameB_true rfl fun _ _ => sameR_self _
theorem recs_at (c : Cfg) (ds : Data) {w : World} {A : Option Addr} {N : Nat} (h : RecsK w A N (upto (recC c ds) N)) {q : Nat} (hq : q < N) : ∃ b off L k, A = some ⟨b, off, none⟩ ∧ b < w.heap.size ∧
    (w.cell? ⟨b, off + q * 5, none⟩ = some (.int .i64 q) ∧ w.cell? ⟨b, off + q * 5 + 1, none⟩ = some (.slice L c.batch.toNat k) ∧ w.cell? ⟨b, off + q * 5 + 2, none⟩ = some (.int .i64 (ratI c q)) ∧ w.cell? ⟨b, off + q * 5 + 3, none⟩ = some (.int .u64 (rootS (states c ds (q + 1)))) ∧ w.cell? ⟨b, off + q * 5 + 4, none⟩ = some (.int .u64 (chainC c ds (q + 1)))) ∧
    Ints .i64 w L c.batch.toNat ((batI c ds q).map fun (n : Nat) => (n : Int)) ∧ c.batch.toNat ≤ k := by
  obtain ⟨b, off, L, k, e, hb, ⟨h0, h1, h2, h3, h4⟩, hI, hk, _⟩ := h.at hq
  rw [recAt_upto _ hq] at h0 h1 h2 h3 h4 hI hk
  have hl : (recC c ds q).batch.length = c.batch.toNat := by
    show ((batI c ds q).map _).length = _
    rw [List.length_map, batI_length]
  rw [hl] at h1 hI hk
  exact ⟨b, off, L, k, e, hb, ⟨h0, h1, h2, h3, h4⟩, hI, hk⟩
theorem recC_short (c : Cfg) (ds : Data) (hb : c.batch ≤ 8) {n j : Nat} (hj : j < n) : (recAt (upto (recC c ds) n) j).batch.length ≤ 9223372036854775806 := by
  rw [recAt_upto _ hj]
  show ((batI c ds j).map _).length ≤ _
  rw [List.length_map, batI_length]
  omega

set_option maxRecDepth 100000 in
set_option maxHeartbeats 4000000 in
theorem journalGoes_walk (c : Cfg) (s0 : 0 ≤ c.seed) (s1 : c.seed < 18446744073709551616) (D : Option Addr) (n dc : Nat) (ds : Data) (w : World) (hd : Duos w D n ds) (hn : n ≤ 9223372036854775806) (m0 n0 : Int) :
    Calls Try.prog 7 #[.agg #[.int .i64 c.ci, .int .i64 c.ch, .int .i64 c.co, .int .u64 c.seed, .int .i64 c.batch, .int .i64 c.steps, .int .i64 c.rate, .int .i64 c.decay, .int .i64 c.how, .int .i64 c.keep, .int .i64 c.clip], .slice D n dc, .int .i64 m0, .int .i64 n0] w fun e w' => e = .returned (.bool true) ∧ Below w.heap.size w w' := by
  have HD := Lib.hid (fun W (h : Below w.heap.size w W) => hd.below h)
  have HDL := Lib.hid hd.len
  have HCO := Lib.hid (fun W (h : Below w.heap.size w W) => ref_Course c D n dc ds W (hd.below h) hn)
  have HB0 := (Blk.made w 54 #[.int .i64 c.ci, .int .i64 c.ch, .int .i64 c.co, .int .u64 c.seed, .int .i64 c.batch, .int .i64 c.steps, .int .i64 c.rate, .int .i64 c.decay, .int .i64 c.how, .int .i64 c.keep, .int .i64 c.clip]).alloc (.cells #[.slice D n dc] 55)
  have HBD := Blk.made' (w.alloc (.cells #[.int .i64 c.ci, .int .i64 c.ch, .int .i64 c.co, .int .u64 c.seed, .int .i64 c.batch, .int .i64 c.steps, .int .i64 c.rate, .int .i64 c.decay, .int .i64 c.how, .int .i64 c.keep, .int .i64 c.clip] 54)) 55 #[.slice D n dc] (g := w.heap.size + 1) (by simp)
  have b0 : Below w.heap.size w ((w.alloc (.cells #[.int .i64 c.ci, .int .i64 c.ch, .int .i64 c.co, .int .u64 c.seed, .int .i64 c.batch, .int .i64 c.steps, .int .i64 c.rate, .int .i64 c.decay, .int .i64 c.how, .int .i64 c.keep, .int .i64 c.clip] 54)).alloc (.cells #[.slice D n dc] 55)) := (by repeat (first | exact Below.refl _ _ | assumption | refine bel_drewN ?_ _ | refine Below.drew ?_ | (refine Below.alloc ?_ (by simp <;> omega) _) | (refine Below.setCell ?_ (by simp <;> omega) _)))
  go_enter Try.func7, Try.ntmps7
  go_wp2_with fail
  refine (keep_taught _).mono ?_
  rintro e w1 ⟨rfl, hb1⟩
  replace HB0 := HB0.below hb1 HB0.lt
  replace HBD := HBD.below hb1 HBD.lt
  have hw1 := b0.trans (hb1.mono b0.size)
  clear hb1 b0
  obtain ⟨d0, d1, d2, d3, d4, d5, d6, d7, d8, d9, da⟩ := HB0.cfg
  have dd : w1.cell? ⟨w.heap.size + 1, 0, none⟩ = some (.slice D n dc) := HBD.cell 0
  go_wp2_with fail
  refine (HCO.out _ hw1).mono ?_
  rintro e w2 ⟨rfl, hb2⟩
  have hw2 := hw1.trans (hb2.mono hw1.size)
  replace HB0 := HB0.below hb2 HB0.lt
  replace HBD := HBD.below hb2 HBD.lt
  clear d0 d1 d2 d3 d4 d5 d6 d7 d8 d9 da dd hb2 hw1
  obtain ⟨d0, d1, d2, d3, d4, d5, d6, d7, d8, d9, da⟩ := HB0.cfg
  have dd : w2.cell? ⟨w.heap.size + 1, 0, none⟩ = some (.slice D n dc) := HBD.cell 0
  by_cases hC : crs c ds = 0
  · have hf := fine hC
    have HRN := Lib.hid (fun W (h : Below w.heap.size w W) (N : Nat) (hN : (N : Int) ≤ c.steps) => trn_Run_ok c ds hC s0 s1 D n dc W (HD.out W h) N hN)
    have HMK := Lib.hid (fun W (h : Below w.heap.size w W) (N : Nat) (hN : (N : Int) ≤ c.steps) => jrn_Make_ok c ds hC s0 s1 D n dc W (HD.out W h) N hN)
    have HRT := Lib.hid (fun (k : Nat) A1 A2 k1 k2 W => root_fine c hf.ok (states c ds (k + 1)) A1 A2 k1 k2 W)
    have HBT := Lib.hid (fun (k : Nat) (j : Nat) (hj : j < c.batch.toNat) => show 0 ≤ at0 ((batI c ds k).map fun (n : Nat) => (n : Int)) j ∧ at0 ((batI c ds k).map fun (n : Nat) => (n : Int)) j < (n : Int) from by
      have hl := batI_length c ds k
      rw [natL_at _ (by omega)]
      have := batI_lt c ds hf.d1 k _ (atN_mem (batI c ds k) (k := j) (by omega))
      have := HDL.out
      omega)
    have hst := hf.ok.st
    have hba := hf.ok.ba
    have n40 := hf.ok.n40
    have HR := Lib.hid (fun (x M : Int) h1 h2 W => rest_of x M h1 h2 W)
    have HL1 := Lib.hid (states_len1 c ds)
    have HL2 := Lib.hid (states_len2 c ds)
    have HAT := Lib.hid (fun (w : World) (A : Option Addr) (N : Nat) (h : RecsK w A N (upto (recC c ds) N)) (q : Nat) (hq : q < N) => recs_at c ds h hq)
    have HSM := Lib.hid (fun (A B : Option Addr) (m cc d : Nat) (W : World) (hm : m ≤ 100) (hx : RecsK W A m (upto (recC c ds) m)) (hy : RecsK W B m (upto (recC c ds) m)) => show Calls Try.prog 39 #[.slice A m cc, .slice B m d] W fun e w' => e = .returned (.bool true) ∧ Below W.heap.size W w' from by
      have h := ref_SameRecords A B m m cc d _ _ W hx.weak hy.weak (by omega) (fun j hj => .inl (recC_short c ds hba.2 hj))
      rw [sameB_self] at h
      exact h)
    rw [hC]
    clear hC HCO hf
    obtain ⟨st, hst'⟩ : ∃ st, st = states c ds := ⟨_, rfl⟩
    rw [← hst'] at HRN HL1 HL2 HRT HAT
    clear hst'
    obtain ⟨bt, hbt⟩ : ∃ bt, bt = fun k => (batI c ds k).map fun (n : Nat) => (n : Int) := ⟨_, rfl⟩
    have HBE := Lib.hid (fun k => show ((batI c ds k).map fun (n : Nat) => (n : Int)) = bt k from by rw [hbt])
    clear hbt
    obtain ⟨rc, hrc⟩ : ∃ rc, rc = recC c ds := ⟨_, rfl⟩
    rw [← hrc] at HMK HAT HSM
    clear hrc
    go_upto_region 5 with fail
    go_cut [3] (fun v wx => ∃ r : Nat, (r : Int) ≤ c.steps ∧ r ≤ 5 ∧ v = .int .i64 r ∧ wx = w2)
    case first =>
      go_wp2_with fail
      all_goals
        refine (HR.out _ _ (by omega) (by omega) _).mono ?_
        rintro e w' ⟨r, hr, rfl, rfl⟩
        go_wp2
        go_meet
        case rel => exact ⟨r, by omega, by omega, rfl, rfl⟩
    case rest =>
      obtain ⟨N, hN, hN6, rfl, rfl⟩ := hcut
      have e1 : IntKind.i64.wrap ((N : Int) + 1) = (N : Int) + 1 := wrap_small _ (by omega) (by omega)
      go_wp2_with fail
      refine (HR.out m0 ((N : Int) + 1) (by omega) (by omega) _).mono ?_
      rintro e w' ⟨m, hm, rfl, rfl⟩
      have hmN : (m : Int) ≤ c.steps := by omega
      go_wp2_with fail
      refine (HMK.out _ hw2 m hmN).mono ?_
      rintro e w3 ⟨A, k, rfl, hA, hb3⟩
      have hw3 := hw2.trans (hb3.mono hw2.size)
      replace HB0 := HB0.below hb3 HB0.lt
      replace HBD := HBD.below hb3 HBD.lt
      clear d0 d1 d2 d3 d4 d5 d6 d7 d8 d9 da dd
      obtain ⟨d0, d1, d2, d3, d4, d5, d6, d7, d8, d9, da⟩ := HB0.cfg
      have dd : w3.cell? ⟨w.heap.size + 1, 0, none⟩ = some (.slice D n dc) := HBD.cell 0
      go_wp2_with fail
      refine (HMK.out _ hw3 N hN).mono ?_
      rintro e w4 ⟨B, k2, rfl, hB, hb4⟩
      have hw4 := hw3.trans (hb4.mono hw3.size)
      have hA4 := hA.below (keeps_rec none) hb4
      replace HB0 := HB0.below hb4 HB0.lt
      replace HBD := HBD.below hb4 HBD.lt
      clear d0 d1 d2 d3 d4 d5 d6 d7 d8 d9 da dd hA hb3 hb4 hw2 hw3
      obtain ⟨d0, d1, d2, d3, d4, d5, d6, d7, d8, d9, da⟩ := HB0.cfg
      have dd : w4.cell? ⟨w.heap.size + 1, 0, none⟩ = some (.slice D n dc) := HBD.cell 0
      go_wp2_with fail
      refine (HRN.out _ hw4 N hN).mono ?_
      rintro e w5 ⟨g, k3, rfl, hL, hb5⟩
      have hw5 := hw4.trans (hb5.mono hw4.size)
      have hA5 := hA4.below (keeps_rec none) hb5
      have hB5 := hB.below (keeps_rec none) hb5
      replace HB0 := HB0.below hb5 HB0.lt
      replace HBD := HBD.below hb5 HBD.lt
      clear d0 d1 d2 d3 d4 d5 d6 d7 d8 d9 da dd hA4 hB hb5 hw4
      obtain ⟨_, _, hBf, hBc, _⟩ := hB5.slice
      obtain ⟨rfl⟩ : k2 = _ := by injection hBf with _ _ c
      have k0 : (0 : Int) ≤ (m : Int) := by omega
      have k1 : (m : Int) ≤ (k2 : Int) := by omega
      go_wp2_with fail
      refine (HSM.out A B m k k2 w5 (by omega) (RecHeld.recs hA5) (RecHeld.pre hB5 (by omega) (fun _ => rfl))).mono ?_
      rintro e w6 ⟨rfl, hb6⟩
      have hw6 := hw5.trans (hb6.mono hw5.size)
      have hB6 := (RecHeld.recs hB5).below hb6
      have hL6 := hL.below (keeps_st none) hb6
      replace HB0 := HB0.below hb6 HB0.lt
      replace HBD := HBD.below hb6 HBD.lt
      have tb : (((c.batch.toNat : Nat) : Int) != c.batch) = false := by rw [bne_eq_false_iff_eq]; omega
      clear hA5 hB5 hL hb6 hw5 k0 k1 hBc
      go_wp2
      go_loopw [15, 16, 17, 18, 82] (fun _ _ _ _ j wr => ∃ q : Nat, q ≤ N ∧ j = .int .i64 q ∧ Below w6.heap.size w6 wr) (fun _ _ _ _ j _ => N - (intOf j).toNat)
      case atStart => exact ⟨0, by omega, rfl, Below.refl _ _⟩
      case round =>
        obtain ⟨q, hq, rfl, hb⟩ := hrel
        by_cases hlt : q < N
        · obtain ⟨b, off, L, kk, hBe, hbl, ⟨g0, g1, g2, g3, g4⟩, hI, hkk⟩ := HAT.out wr B N (hB6.below hb) q hlt
          subst hBe
          obtain ⟨A1, c1, A2, c2, a0, a1, i1, i2, _, la⟩ := StHeld.at' (hL6.below (keeps_st none) hb) (j := q + 1) (by omega) (HL1.out (q + 1)) (HL2.out (q + 1))
          have HBq := HB0.below hb HB0.lt
          have HDq := HBD.below hb HBD.lt
          have lc := HBq.lt
          have ld := HDq.lt
          rw [HBE.out] at hI
          have k0 : (0 : Int) ≤ (q : Int) := by omega
          have k1 : (q : Int) < (N : Int) := by omega
          have k4 : (q : Int) + 1 < (N : Int) + 1 := by omega
          have k5 : (0 : Int) ≤ (q : Int) + 1 := by omega
          have e3 : IntKind.i64.wrap ((q : Int) + 1) = (q : Int) + 1 := wrap_small _ (by omega) (by omega)
          have HRq := Lib.hid (fun W (h : Below wr.heap.size wr W) => HRT.out q A1 A2 c1 c2 W (i1.below h) (i2.below h))
          obtain ⟨ro, hro⟩ : ∃ ro, ro = rootS (st (q + 1)) := ⟨_, rfl⟩
          rw [← hro] at g3 HRq
          obtain ⟨chn, hchn⟩ : ∃ chn, chn = chainC c ds (q + 1) := ⟨_, rfl⟩
          rw [← hchn] at g4
          have BR := Blk.made wr 69 #[.int .i64 q, .slice L c.batch.toNat kk, .int .i64 (ratI c q), .int .u64 ro, .int .u64 chn]
          have b1 : Below wr.heap.size wr (wr.alloc (.cells #[.int .i64 q, .slice L c.batch.toNat kk, .int .i64 (ratI c q), .int .u64 ro, .int .u64 chn] 69)) := (Below.refl _ _).alloc (Nat.le_refl _) _
          clear hro hchn i1 i2
          go_wp2_with fail
          refine (HRq.out _ b1).mono ?_
          rintro e u1 ⟨rfl, hb1⟩
          have hbu := b1.trans (hb1.mono b1.size)
          obtain ⟨⟨r0, r1, r2, r3, r4⟩, _⟩ := (BR.below hb1 BR.lt).rec5
          have d4 : u1.cell? ⟨w.heap.size, 4, none⟩ = some (.int .i64 c.batch) := (HBq.below hbu lc).cell 4
          have dd : u1.cell? ⟨w.heap.size + 1, 0, none⟩ = some (.slice D n dc) := (HDq.below hbu ld).cell 0
          have HJG := Lib.hid (jg_any L c.batch.toNat kk (bt q) (w.heap.size + 1) D n dc u1 (hI.below hbu) (by omega) dd (by rw [← HBE.out]; exact HBT.out q))
          clear a0 a1 g0 g1 g2 g3 g4 hI b1 hb1
          go_wp2_with fail
          refine HJG.out.mono ?_
          rintro e u2 ⟨rfl, hq2⟩
          go_wp2
          go_roundw
          case rel => exact ⟨q + 1, by omega, by go_num, Quiet.after (hb.trans (hbu.mono hb.size)) hq2⟩
          case measure => simp [intOf]; omega
        · obtain rfl : q = N := by omega
          go_wp2
          go_ret
          exact ⟨rfl, hw6.trans (hb.mono hw6.size)⟩
  · have t : (crs c ds != 0) = true := by rw [bne_iff_ne]; exact hC
    obtain ⟨x, hx⟩ : ∃ x, x = crs c ds := ⟨_, rfl⟩
    rw [← hx] at t ⊢
    clear hC hx HCO
    go_wp2
    go_ret
    exact ⟨rfl, hw2⟩

set_option maxRecDepth 100000 in
theorem journalGoes_lifted (os : Os) (started : os.Started) (H : Type) (enc : TypeId × Value → H) :
    ReturnsInHanded {} Try.checked os 7 .any (Rows.journalGoesSpec.pre6 enc Try.prog Try.f7 Rows.journalGoesRow.domain false) (Rows.journalGoesSpec.post enc Try.prog Try.f7 false true false false) := by
  refine lift_law (fn := Try.f7) started (by kernel_rfl) Try.func7
    (ChangeSpec.witness6 (enc := enc) (C := Try.checked) false ⟨#[], #[.agg #[.int .i64 0, .int .i64 0, .int .i64 0, .int .u64 0, .int .i64 0, .int .i64 0, .int .i64 0, .int .i64 0, .int .i64 0, .int .i64 0, .int .i64 0], .slice none 0 0, .int .i64 0, .int .i64 0], []⟩ 8 (by kernel_rfl) (by kernel_rfl) (by kernel_rfl) (by kernel_rfl)) (by kernel_rfl) rfl Try.underlying4 rfl ?_ ?_
  · intro ds h
    rw [Try.params7] at h
    match ds, h with
    | [d0, d1, d2, d3], _ => rfl
  · intro W args ds ps hA hlt hval hsz
    rw [Try.params7] at hA hval hsz
    obtain ⟨v0, vs0, d0, ds0, p0, q0, hargs, rfl, rfl, H0, T0⟩ := trodAll_cons hA
    obtain ⟨v1, vs1, d1, ds1, p1, q1, rfl, rfl, rfl, H1, T1⟩ := trodAll_cons T0
    obtain ⟨v2, vs2, d2, ds2, p2, q2, rfl, rfl, rfl, H2, T2⟩ := trodAll_cons T1
    obtain ⟨v3, vs3, d3, ds3, p3, q3, rfl, rfl, rfl, H3, T3⟩ := trodAll_cons T2
    obtain ⟨rfl, rfl, rfl⟩ := trodAll_nil T3
    obtain rfl : args = #[v0, v1, v2, v3] := by cases args; simp_all
    obtain ⟨b0, hv0⟩ := hval 0 54 v0 rfl rfl
    obtain ⟨b1, hv1⟩ := hval 1 55 v1 rfl rfl
    obtain ⟨b2, hv2⟩ := hval 2 3 v2 rfl rfl
    obtain ⟨b3, hv3⟩ := hval 3 3 v3 rfl rfl
    obtain ⟨c, rfl, cw⟩ := arg_cfg hv0 H0
    obtain ⟨D, n, dc, ds, rfl, hd, hn⟩ := arg_data (j := 1) (fun _ => rfl) hv1 H1 hsz rfl rfl
    obtain ⟨m0, rfl, _⟩ := arg_int hv2 H2
    obtain ⟨n0, rfl, _⟩ := arg_int hv3 H3
    have hs := wf_u64 cw.2.2.2.1
    exact journalGoes_walk c hs.1 (by omega) D n dc ds W hd hn m0 n0
theorem JournalGoes_holds : Rows.JournalGoesSaid :=
  OpenClaim.holds_of_wide 7 Try.f7 rfl rfl rfl rfl rfl rfl rfl ⟨rfl, rfl, rfl, rfl, rfl⟩ rfl rfl rfl rfl rfl (by kernel_rfl) Try.func7 (by kernel_rfl)
    (of_decide_eq_true (by kernel_rfl)) (by unfold Func.isWrapper; first | (rw [if_pos (by decide +kernel)]; kernel_rfl) | (rw [if_neg (by decide +kernel)]; exact ⟨rfl, rfl⟩))
    (fun os started H enc _ => journalGoes_lifted os started H enc)

end Go.Proofs.Ythckpmgehhkacaa
