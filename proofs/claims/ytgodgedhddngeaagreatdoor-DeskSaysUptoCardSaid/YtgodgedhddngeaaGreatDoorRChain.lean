/- The document's own head of a journal: a walk. -/
import Derived.Test.YtgodgedhddngeaaGreatDoorRFin
set_option maxRecDepth 100000
set_option maxHeartbeats 16000000
namespace Go.Proofs.YtgodgedhddngeaaGreatDoor
open Go.RowKit Pl
theorem u64_of_wf {c : Cfg} (h : c.Ok) : IntKind.u64.wrap c.ci = c.ci ∧ IntKind.u64.wrap c.ch = c.ch ∧ IntKind.u64.wrap c.co = c.co ∧ IntKind.u64.wrap c.batch = c.batch ∧ IntKind.u64.wrap c.steps = c.steps ∧ IntKind.u64.wrap c.rate = c.rate ∧ IntKind.u64.wrap c.decay = c.decay ∧ IntKind.u64.wrap c.how = c.how ∧ IntKind.u64.wrap c.keep = c.keep ∧ IntKind.u64.wrap c.clip = c.clip := by
 obtain ⟨a1, a2, a3, a4, a5, a6, a7, a8, a9, a10, _⟩ := h
 exact ⟨wrap_u64_in (by omega) (by omega), wrap_u64_in (by omega) (by omega), wrap_u64_in (by omega) (by omega), wrap_u64_in (by omega) (by omega), wrap_u64_in (by omega) (by omega), wrap_u64_in (by omega) (by omega), wrap_u64_in (by omega) (by omega), wrap_u64_in (by omega) (by omega), wrap_u64_in (by omega) (by omega), wrap_u64_in (by omega) (by omega)⟩
theorem ref_Head (c : Cfg) (ds : Data) (hf : Fine c ds) (s0 : 0 ≤ c.seed) (s1 : c.seed < 18446744073709551616) (D : Option Addr) (n dc : Nat) (w : World) (hd : Duos w D n ds) :
  Calls Tryz.prog 98 #[.agg #[.int .i64 c.ci, .int .i64 c.ch, .int .i64 c.co, .int .u64 c.seed, .int .i64 c.batch, .int .i64 c.steps, .int .i64 c.rate, .int .i64 c.decay, .int .i64 c.how, .int .i64 c.keep, .int .i64 c.clip], .slice D n dc] w fun e w' => e = .returned (.int .u64 (headI c ds)) ∧ Below w.heap.size w w' := by
 obtain ⟨i0, hi0, hz0, hz1, hz2⟩ := info_parts int_info
 obtain ⟨j0, hj0, hy0, hy1, hy2⟩ := info_parts u64_info
 have h16 := hf.d16
 have hdl := hd.len
 have hn16 : n ≤ 16 := by omega
 have HSR := Lib.hid (fun W => ref_Start c W hf.e s0 s1)
 have HRT := Lib.hid (fun A1 A2 k1 k2 W => rroot_fine c hf.ok (start c) A1 A2 k1 k2 W)
 have HEX := Lib.hid (fun i (hi : i < n) => exB_ok (hf.ex i (by omega)))
 have HW := Lib.hid (show cfgW c ++ upto (fun i => exRoot (duoAt ds i)) n ++ [rootS (start c)] = headW c ds by rw [upto_duo _ _ hdl]; rfl)
 have HHI := Lib.hid (show ofI 5 (headW c ds) = headI c ds from rfl)
 have hU := headW_u64 (ds := ds) hf.ok s0 s1
 have HOF := Lib.hid (fun A k W (q : Ints .u64 W A (12 + n) (headW c ds)) => ref_Of 5 A (12 + n) k (headW c ds) W (by omega) (by omega) q hU (by omega))
 have HHL := Lib.hid (show (headW c ds).length = 12 + n by rw [headW_length, hdl])
 have HRB := Lib.hid (fun i => rootO_u64 ((duoAt ds i).1 ++ (duoAt ds i).2))
 have HI4 := Lib.hid hf.ok.ci
 have HO4 := Lib.hid hf.ok.co
 have HSL := Lib.hid (fits_iff.1 (fits_start c))
 have HB0 := Blk.made w 29 #[.int .i64 c.ci, .int .i64 c.ch, .int .i64 c.co, .int .u64 c.seed, .int .i64 c.batch, .int .i64 c.steps, .int .i64 c.rate, .int .i64 c.decay, .int .i64 c.how, .int .i64 c.keep, .int .i64 c.clip]
 obtain ⟨w1, w2, w3, w4, w5, w6, w7, w8, w9, wa⟩ := u64_of_wf hf.ok
 have b0 : Below w.heap.size w (w.alloc (.cells #[.int .i64 c.ci, .int .i64 c.ch, .int .i64 c.co, .int .u64 c.seed, .int .i64 c.batch, .int .i64 c.steps, .int .i64 c.rate, .int .i64 c.decay, .int .i64 c.how, .int .i64 c.keep, .int .i64 c.clip] 29)) := (Below.refl _ _).alloc (Nat.le_refl _) _
 obtain ⟨x, hX⟩ : ∃ x, x = w.alloc (.cells #[.int .i64 c.ci, .int .i64 c.ch, .int .i64 c.co, .int .u64 c.seed, .int .i64 c.batch, .int .i64 c.steps, .int .i64 c.rate, .int .i64 c.decay, .int .i64 c.how, .int .i64 c.keep, .int .i64 c.clip] 29) := ⟨_, rfl⟩
 rw [← hX] at HB0 b0
 have HX := Lib.hid hX
 have lx := HB0.lt
 obtain ⟨d0, d1, d2, d3, d4, d5, d6, d7, d8, d9, da⟩ := HB0.cfg
 have O0 : (x.alloc (.cells #[.int .u64 c.ci, .int .u64 c.ch, .int .u64 c.co, .int .u64 c.seed, .int .u64 c.batch, .int .u64 c.steps, .int .u64 c.rate, .int .u64 c.decay, .int .u64 c.how, .int .u64 c.keep, .int .u64 c.clip] 27)).ownsRow (w.heap.size + 1) 27 1 (.slice (some ⟨x.heap.size, 0, none⟩) 11 11) 11 ((cfgW c).map (.int .u64)) := World.ownsRow_lit x #[.int .u64 c.ci, .int .u64 c.ch, .int .u64 c.co, .int .u64 c.seed, .int .u64 c.batch, .int .u64 c.steps, .int .u64 c.rate, .int .u64 c.decay, .int .u64 c.how, .int .u64 c.keep, .int .u64 c.clip] 11 lx (by decide) rfl
 have hb0 : Below (w.heap.size + 1) x (x.alloc (.cells #[.int .u64 c.ci, .int .u64 c.ch, .int .u64 c.co, .int .u64 c.seed, .int .u64 c.batch, .int .u64 c.steps, .int .u64 c.rate, .int .u64 c.decay, .int .u64 c.how, .int .u64 c.keep, .int .u64 c.clip] 27)) := (Below.refl _ _).alloc lx _
 obtain ⟨W0, hW0⟩ : ∃ W0, W0 = (x.alloc (.cells #[.int .u64 c.ci, .int .u64 c.ch, .int .u64 c.co, .int .u64 c.seed, .int .u64 c.batch, .int .u64 c.steps, .int .u64 c.rate, .int .u64 c.decay, .int .u64 c.how, .int .u64 c.keep, .int .u64 c.clip] 27)) := ⟨_, rfl⟩
 rw [← hW0] at O0 hb0
 have HW0 := Lib.hid hW0
 clear hX hW0 hf hU hdl h16
 go_enter Tryz.func98, Tryz.ntmps98
 go_upto_region 1 with fail
 rw [← HX.out]
 go_wp2
 rw [← HW0.out]
 clear d0 d1 d2 d3 d4 d5 d6 d7 d8 d9 da w1 w2 w3 w4 w5 w6 w7 w8 w9 wa
 go_loopw [5, 6] (fun l j wr => ∃ q : Nat, q ≤ n ∧ j = .int .i64 q ∧ wr.ownsRow (w.heap.size + 1) 27 1 l (11 + q) ((cfgW c ++ upto (fun i => exRoot (duoAt ds i)) q).map (.int .u64)) ∧ Below (w.heap.size + 1) x wr) (fun _ j _ => n - (intOf j).toNat)
 case atStart => exact ⟨0, by omega, rfl, by rw [upto_zero, List.append_nil]; exact O0, hb0⟩
 case round =>
  clear O0 hb0
  obtain ⟨q, hq, rfl, hown, hb⟩ := hrel
  have hbs := hb.size
  have hbx := b0.trans (hb.mono (by omega))
  by_cases hlt : q < n
  ·obtain ⟨db, dO, hDe, hdb, hdc⟩ := (hd.below hbx).cells (by omega)
   subst hDe
   obtain ⟨X, ni, xc, T, no, tc, g1, g2, ix, it, z1, z2, z3, z4⟩ := hdc q hlt
   obtain ⟨xl, tl, _, _⟩ := HEX.out q hlt
   have hi4 := HI4.out
   have ho4 := HO4.out
   have ixl := ix.len
   have itl := it.len
   have hni : ni ≤ 4 := by omega
   have hno : no ≤ 4 := by omega
   have hn1 : 1 ≤ ni + no := by omega
   have G := Lib.hid (upto_succ (fun i => exRoot (duoAt ds i)) q)
   have RB := HRB.out q
   obtain ⟨p, hp⟩ : ∃ p, p = duoAt ds q := ⟨_, rfl⟩
   rw [← hp] at G ix it RB
   have HPL := Lib.hid (show (p.1 ++ p.2).length = ni + no by rw [List.length_append, ix.len, it.len])
   have HSW := Lib.hid (show (p.1.map (Value.int .i64)) ++ p.2.map (Value.int .i64) = (p.1 ++ p.2).map (.int .i64) by rw [List.map_append])
   obtain ⟨y, hy⟩ : ∃ y, y = exRoot p := ⟨_, rfl⟩
   have HRR := Lib.hid (fun A c W (q : Ints .i64 W A (ni + no) (p.1 ++ p.2)) (hc : ni + no ≤ c) => show Calls Tryz.prog 145 #[.slice A (ni + no) c] W fun e w' => e = .returned (.int .u64 y) ∧ Below W.heap.size W w' from by
    have h := ref_Root A (ni + no) c (p.1 ++ p.2) W q hn1 (by omega) hc
    rw [hy]
    unfold exRoot rootO
    rw [if_pos (by rw [HPL.out]; unfold lvE; rw [if_neg (by omega), if_neg (by omega)])]
    exact h)
   rw [show rootO (p.1 ++ p.2) = y from hy.symm] at RB
   rw [← hy] at G
   obtain ⟨y0, y1⟩ := RB
   have k0 : (0 : Int) ≤ (q : Int) := by omega
   have k1 : (q : Int) < (n : Int) := by omega
   obtain ⟨wa, rfl⟩ : ∃ wa : World, wa = wr := ⟨_, rfl⟩
   clear hdc hp hy xl tl hi4 ho4 ixl itl
   go_wp2
   go_region_law (first
    | (refine step_append_ints (by rfl) _ _ _ (by rfl) wa.heap.size 3 i0 (.int .i64 0) 8 Tryz.underlying56 hi0 hz0 hz1 hz2 rfl .i64 (.slice none 0 0) 0 [] (by rfl) (World.ownsRow_nil _ _ _ _) X ni xc p.1 (by rfl) (ix.drew) (by unfold maxLen; omega) (by omega) (by exact Nat.le_refl _) ?_; intro Z zc w3 hownZ hgrow; rw [Nat.zero_add, List.nil_append] at hownZ; have b3 : Below wa.heap.size wa w3 := Below.grown ((Below.refl wa.heap.size wa).drew) hgrow (by exact Nat.le_refl _) (fun y hy => by cases hy); have y0 := (b3.cell (p := ⟨db, dO + q * 2, none⟩) hdb).trans g1; have y1 := (b3.cell (p := ⟨db, dO + q * 2 + 1, none⟩) hdb).trans g2; have r2 := it.below b3; have s3 := b3.size)
    | (refine step_append_ints (by rfl) _ _ _ (by rfl) wa.heap.size 3 i0 (.int .i64 0) 8 Tryz.underlying56 hi0 hz0 hz1 hz2 rfl .i64 (.slice Z ni zc) ni _ (by rfl) hownZ T no tc p.2 (by rfl) r2 (by unfold maxLen; omega) (by omega) s3 ?_; intro S sc w4 hown4 hgrow4; have b4 : Below wa.heap.size wa w4 := Below.grown b3 hgrow4 s3 (fun y hy => (hownZ.lt y hy).1); have I4 : Ints .i64 w4 S (ni + no) (p.1 ++ p.2) ∧ ni + no ≤ sc := (by rw [HSW.out] at hown4; exact ⟨Ints.of_own hown4 HPL.out, own_capT hown4⟩))
    | (go_simp; go_at_call 145; (refine (HRR.out _ _ _ I4.1 I4.2).mono ?_); rintro e w5 ⟨rfl, hb5⟩; have b5 : Below wa.heap.size wa w5 := bel_trans b4 hb5; have OW := own_below hown b5; have s5 := b5.size)
    | (refine step_append_lies _ (by rfl) _ _ _ (by rfl) (w.heap.size + 1) 27 j0 _ 1 8 Tryz.underlying146 hj0 hy0 hy1 hy2 rfl (by omega) u5 (11 + q) _ (by rfl) (by exact OW.alloc _) ⟨w5.heap.size, 0, none⟩ 1 1 [.int .u64 y] (by rfl) (by rfl) (World.news_of_block (cs := #[.int .u64 y]) (t := 27) (fr := (0, 0)) (heap_alloc_new _ _)) (by simp [Value.oneCell']) (by omega) (by unfold maxLen; omega) (by omega) (by simp; omega) (w5.heap.size + 1) (by simp) ?_; intro gg cp w6 hown6 hgrow6 hat hlt6)
    | fail)
   all_goals
    have hb6 : Below (w.heap.size + 1) x w6 := Below.grown ((hb.trans (b5.mono (by omega))).alloc (by omega) (.cells #[.int .u64 y] 27)) hgrow6 (by simp; omega) (fun x hx => (hown.lt x hx).1)
    rw [show (cfgW c ++ upto (fun i => exRoot (duoAt ds i)) q).map (Value.int .u64) ++ [.int .u64 y] = (cfgW c ++ upto (fun i => exRoot (duoAt ds i)) (q + 1)).map (Value.int .u64) by rw [G.out]; simp] at hown6
    clear hgrow6 hgrow4 hgrow hat
    go_wp2
    go_roundw
    case rel => exact ⟨q + 1, by omega, by go_num, hown6, hb6⟩
    case measure => simp [intOf]; omega
  ·obtain rfl : q = n := by omega
   obtain ⟨d0, d1, d2, d3, d4, d5, d6, d7, d8, d9, da⟩ := (HB0.below hb (by omega)).cfg
   go_wp2_with fail
   refine (HSR.out _).mono ?_
   rintro e y1 ⟨A1, k1, A2, k2, rfl, O1, O2, hb1⟩
   go_wp2_with fail
   refine (HRT.out A1 A2 k1 k2 y1 (Ints.of_own O1 HSL.out.1) (Ints.of_own O2 HSL.out.2.1)).mono ?_
   rintro e y2 ⟨rfl, hb2⟩
   have b12 := bel_trans hb1 hb2
   have OW := own_below hown b12
   have s2 := b12.size
   have hbx2 := hbx.trans (b12.mono hbx.size)
   go_wp2_with (at_builtin; refine wpList_append_own _ rfl _ _ 146 rfl (w.heap.size + 1) 27 j0 (.int .u64 0) 1 8 Tryz.underlying146 hj0 hy0 hy1 hy2 rfl (by decide) u5 (11 + q) _ rfl (OW.alloc _) ⟨y2.heap.size, 0, none⟩ 1 1 [.int .u64 (rootS (start c))] rfl rfl (cell_one_new _ _ _) (by simp [Value.oneCell']) (by unfold maxLen; omega) (by omega) (by simp; omega) ?_; intro v1 v2 hown1 hgrow _)
   have hbv : Below w.heap.size w v2 := Below.grown (hbx2.alloc hbx2.size _) hgrow (by have := hbx2.size; simp; omega) (fun x hx => by have := (hown.lt x hx).1; omega)
   rw [show (cfgW c ++ upto (fun i => exRoot (duoAt ds i)) q).map (Value.int .u64) ++ [.int .u64 (rootS (start c))] = (headW c ds).map (Value.int .u64) by rw [← HW.out]; simp, show 11 + q + 1 = 12 + q by omega] at hown1
   obtain ⟨S, sc, hv, hI⟩ := own_ints hown1
   subst hv
   clear hgrow
   go_wp2_with fail
   refine (HOF.out S sc v2 hI).mono ?_
   rintro e y5 ⟨rfl, hb5⟩
   go_wp2
   go_ret
   rw [HHI.out]
   exact ⟨rfl, hbv.trans (hb5.mono hbv.size)⟩
theorem ref_Chain (before : Int) (r : Rec) (A : Option Addr) (n k : Nat) (w : World) (hx : Ints .i64 w A n r.batch) (hE : chE r = 0) (b0 : 0 ≤ before) (b1 : before < 18446744073709551616) (s1 : r.step < 9223372036854775808) (r1 : r.rate < 9223372036854775808)
  (t0 : 0 ≤ r.root) (t1 : r.root < 18446744073709551616) (z1 : ∀ z ∈ r.batch, z < 9223372036854775808) :
  Calls Tryz.prog 100 #[.int .u64 before, .agg #[.int .i64 r.step, .slice A n k, .int .i64 r.rate, .int .u64 r.root, .int .u64 r.chain]] w fun e w' => e = .returned (.int .u64 (ofI 6 (chW before r))) ∧ Below w.heap.size w w' := by
 obtain ⟨i0, hi0, hz0, hz1, hz2⟩ := info_parts u64_info
 obtain ⟨e1, e2, e3, e4⟩ := chE_ok hE
 have hl := hx.len
 have hn8 : n ≤ 8 := by omega
 have HU := Lib.hid (chW_u64 (x := before) hE b0 b1 (by omega) (by omega) t0 t1 (fun z hz => by have := z1 z hz; omega))
 have HNN := Lib.hid (fun j (hj : j < n) => show 0 ≤ at0 r.batch j ∧ at0 r.batch j < 9223372036854775808 from by
  have hm : at0 r.batch j ∈ r.batch := by rw [at0_getElem _ _ (by omega)]; exact List.getElem_mem _
  exact ⟨by rw [List.all_eq_true] at e4; simpa using e4 _ hm, z1 _ hm⟩)
 have HW := Lib.hid (show [before, r.step, r.rate, r.root, (n : Int)] ++ upto (at0 r.batch) n = chW before r by rw [← hl, upto_at0]; rfl)
 have HOF := Lib.hid (fun A c W (q : Ints .u64 W A (5 + n) (chW before r)) => ref_Of 6 A (5 + n) c (chW before r) W (by omega) (by omega) q HU.out (by omega))
 have w1 : IntKind.u64.wrap r.step = r.step := wrap_u64_in (by omega) (by omega)
 have w2 : IntKind.u64.wrap r.rate = r.rate := wrap_u64_in (by omega) (by omega)
 have w3 : IntKind.u64.wrap (n : Int) = (n : Int) := wrap_u64_in (by omega) (by omega)
 have HB := Blk.made w 90 #[.int .i64 r.step, .slice A n k, .int .i64 r.rate, .int .u64 r.root, .int .u64 r.chain]
 have hbw : Below w.heap.size w (w.alloc (.cells #[.int .i64 r.step, .slice A n k, .int .i64 r.rate, .int .u64 r.root, .int .u64 r.chain] 90)) := (Below.refl _ _).alloc (Nat.le_refl _) _
 obtain ⟨x1, hX⟩ : ∃ x, x = w.alloc (.cells #[.int .i64 r.step, .slice A n k, .int .i64 r.rate, .int .u64 r.root, .int .u64 r.chain] 90) := ⟨_, rfl⟩
 rw [← hX] at HB hbw
 have HX := Lib.hid hX
 have hlx := HB.lt
 have O0 : (x1.alloc (.cells #[.int .u64 before, .int .u64 r.step, .int .u64 r.rate, .int .u64 r.root, .int .u64 n] 27)).ownsRow (w.heap.size + 1) 27 1 (.slice (some ⟨x1.heap.size, 0, none⟩) 5 5) 5 ([before, r.step, r.rate, r.root, (n : Int)].map (.int .u64)) := World.ownsRow_lit x1 #[.int .u64 before, .int .u64 r.step, .int .u64 r.rate, .int .u64 r.root, .int .u64 n] 5 hlx (by decide) rfl
 have hb0 : Below (w.heap.size + 1) x1 (x1.alloc (.cells #[.int .u64 before, .int .u64 r.step, .int .u64 r.rate, .int .u64 r.root, .int .u64 n] 27)) := (Below.refl _ _).alloc hlx _
 obtain ⟨⟨g0, g1, g2, g3, g4⟩, _⟩ := HB.rec5
 clear hE e1 e2 e3 e4 hl z1 hX
 obtain ⟨W0, hW0⟩ : ∃ W0, W0 = (x1.alloc (.cells #[.int .u64 before, .int .u64 r.step, .int .u64 r.rate, .int .u64 r.root, .int .u64 n] 27)) := ⟨_, rfl⟩
 rw [← hW0] at O0 hb0
 have HW0 := Lib.hid hW0
 clear hW0
 go_enter Tryz.func100, Tryz.ntmps100
 go_upto_region 1 with fail
 rw [← HX.out]
 go_wp2
 rw [← HW0.out]
 go_loopw [5, 6] (fun l j wr => ∃ q : Nat, q ≤ n ∧ j = .int .i64 q ∧ wr.ownsRow (w.heap.size + 1) 27 1 l (5 + q) (([before, r.step, r.rate, r.root, (n : Int)] ++ upto (at0 r.batch) q).map (.int .u64)) ∧ Below (w.heap.size + 1) x1 wr) (fun _ j _ => n - (intOf j).toNat)
 case atStart => exact ⟨0, by omega, rfl, O0, hb0⟩
 case round =>
  clear O0 hb0 g0 g1 g2 g3 g4
  obtain ⟨q, hq, rfl, hown, hb⟩ := hrel
  have hbs := hb.size
  have hbx := hbw.trans (hb.mono (by omega))
  have g1 : wr.cell? ⟨w.heap.size, 1, none⟩ = some (.slice A n k) := (HB.below hb (by omega)).cell 1
  by_cases hlt : q < n
  ·obtain ⟨b, off, hA, hbl, hc⟩ := (hx.below hbx).cells (by omega)
   subst hA
   have g2 := hc q hlt
   obtain ⟨y0, y1⟩ := HNN.out q hlt
   have G := Lib.hid (upto_succ (at0 r.batch) q)
   obtain ⟨y, hy⟩ : ∃ y, y = at0 r.batch q := ⟨_, rfl⟩
   rw [← hy] at g2 y0 y1 G
   have wy : IntKind.u64.wrap y = y := wrap_u64_in (by omega) (by omega)
   have q1 : (q : Int) < (n : Int) := by omega
   clear hc hy
   go_wp2_with (at_builtin; refine wpList_append_own _ rfl _ _ 146 rfl (w.heap.size + 1) 27 i0 (.int .u64 0) 1 8 Tryz.underlying146 hi0 hz0 hz1 hz2 rfl (by decide) u5 (5 + q) _ rfl (hown.alloc _) ⟨wr.heap.size, 0, none⟩ 1 1 [.int .u64 y] rfl rfl (cell_one_new _ _ _) (by simp [Value.oneCell']) (by unfold maxLen; omega) (by omega) (by simp; omega) ?_; intro v1 v2 hown1 hgrow _)
   have hb2 : Below (w.heap.size + 1) x1 v2 := Below.grown (hb.alloc (by omega) _) hgrow (by simp; omega) (fun x hx => (hown.lt x hx).1)
   rw [show ([before, r.step, r.rate, r.root, (n : Int)] ++ upto (at0 r.batch) q).map (Value.int .u64) ++ [.int .u64 y] = ([before, r.step, r.rate, r.root, (n : Int)] ++ upto (at0 r.batch) (q + 1)).map (Value.int .u64) by rw [G.out]; simp] at hown1
   clear hgrow
   go_roundw
   case rel => exact ⟨q + 1, by omega, by go_num, hown1, hb2⟩
   case measure => simp [intOf]; omega
  ·obtain rfl : q = n := by omega
   rw [HW.out] at hown
   obtain ⟨S, sc, hv, hI⟩ := own_ints hown
   subst hv
   go_wp2_with fail
   refine (HOF.out S sc wr hI).mono ?_
   rintro e w5 ⟨rfl, hb5⟩
   go_wp2
   go_ret
   exact ⟨rfl, hbx.trans (hb5.mono hbx.size)⟩
end Go.Proofs.YtgodgedhddngeaaGreatDoor
