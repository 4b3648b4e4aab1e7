/- Package train: a step, of a course that is right: a walk. -/
import Derived.Test.YthckpmgehhkacaaTrnN
namespace Go.Proofs.Ythckpmgehhkacaa
open Go.RowKit Pl

theorem batch_fine (c : Cfg) (h : c.Ok) (ds : Data) (n : Nat) (hn : ds.length = n) (n1 : 1 ≤ n) (n16 : n ≤ 16) (s0 : 0 ≤ c.seed) (s1 : c.seed < 18446744073709551616) (step : Nat) (hst : (step : Int) < c.steps) (w : World) :
    Calls Try.prog 32 #[.int .u64 c.seed, .int .i64 c.batch, .int .i64 n, .int .i64 step] w (fun e w' => ∃ A k, e = .returned (.tuple #[.slice A c.batch.toNat k, .int .i64 0]) ∧
      w'.ownsRow w.heap.size 3 1 (.slice A c.batch.toNat k) c.batch.toNat (((batI c ds step).map fun (n : Nat) => (n : Int)).map (.int .i64)) ∧ Below w.heap.size w w') := by
  have hb := h.ba
  have hs := h.st
  have e : c.batch = (c.batch.toNat : Int) := by omega
  have H := draw_Batch_ok c.seed c.batch.toNat n step w s0 s1 (by omega) (by omega) n1 n16 (by omega)
  rw [← e] at H
  refine H.mono ?_
  rintro e w' ⟨A, k, rfl, hO, hb⟩
  refine ⟨A, k, rfl, ?_, hb⟩
  have e2 : batI c ds step = batchP c.seed.toNat c.batch.toNat n step := by unfold batI nextB; rw [hn]
  rw [e2, List.map_map]
  exact hO
theorem mean_fine (c : Cfg) (ds : Data) (hf : Fine c ds) (D : Option Addr) (n dc : Nat) (s : List Int × List Int) (hs : fits c s = true) (A : Option Addr) (ka : Nat) (hka : c.N ≤ ka) (B : Option Addr) (bc step : Nat) (w : World) (hd : Duos w D n ds) (hA : Ints .i64 w A c.N s.1)
    (hB : Ints .i64 w B c.batch.toNat ((batI c ds step).map fun (n : Nat) => (n : Int))) :
    Calls Try.prog 136 #[.agg #[.int .i64 c.ci, .int .i64 c.ch, .int .i64 c.co, .int .u64 c.seed, .int .i64 c.batch, .int .i64 c.steps, .int .i64 c.rate, .int .i64 c.decay, .int .i64 c.how, .int .i64 c.keep, .int .i64 c.clip], .slice D n dc, .slice A c.N ka, .slice B c.batch.toNat bc] w (fun e w' => ∃ S k, e = .returned (.slice S c.N k) ∧ Ints .i64 w' S c.N (meanL c.ch.toNat c.ci.toNat c.co.toNat c.N (c.batch.toNat : Int) s.1 ds (batI c ds step)) ∧ Below w.heap.size w w') := by
  obtain ⟨f1, f2, f3, f4⟩ := fits_iff.1 hs
  have hb := hf.ok.ba
  have e : (c.batch.toNat : Int) = c.batch := by omega
  have H := trn_mean c ds hf D n dc w hd A ka s.1 hA hka f3 B c.batch.toNat bc (batI c ds step) hB (batI_lt c ds hf.d1 step) (by omega)
  rw [e]
  refine H.mono ?_
  rintro e w' ⟨S, k, rfl, hO, hb⟩
  have hI := Ints.of_own hO rfl
  rw [meanL_length] at hI ⊢
  exact ⟨S, k, rfl, hI, hb⟩
theorem clip_fine (c : Cfg) (h : c.Ok) (g : List Int) (A : Option Addr) (k : Nat) (w : World) (hA : Ints .i64 w A c.N g) :
    Calls Try.prog 53 #[.slice A c.N k, .int .i64 c.clip] w (fun e w' => ∃ S s, e = .returned (.tuple #[.slice S c.N s, .int .i64 0]) ∧ Ints .i64 w' S c.N (clipL g c.clip) ∧ Below w.heap.size w w') := by
  have h40 := h.n40
  have hcl := h.cl
  have e : clipE c.N c.clip = 0 := by unfold clipE; rw [if_neg (by omega), inB_iff.2 hcl]; rfl
  have e2 : clipO g c.clip = clipL g c.clip := if_pos (by rw [hA.len]; exact e)
  have H := opt_Clip_any A c.N k g c.clip w hA
  rw [e, e2] at H
  refine H.mono ?_
  rintro e w' ⟨S, s, rfl, hI, hb⟩
  rw [clipL_length, hA.len] at hI ⊢
  exact ⟨S, s, rfl, hI, hb⟩
theorem rate_fine (c : Cfg) (hE : c.E = 0) (step : Nat) (hst : (step : Int) < c.steps) (w : World) :
    Calls Try.prog 137 #[.agg #[.int .i64 c.ci, .int .i64 c.ch, .int .i64 c.co, .int .u64 c.seed, .int .i64 c.batch, .int .i64 c.steps, .int .i64 c.rate, .int .i64 c.decay, .int .i64 c.how, .int .i64 c.keep, .int .i64 c.clip], .int .i64 step] w fun e w' => e = .returned (.tuple #[.int .i64 (ratI c step), .int .i64 0]) ∧ Below w.heap.size w w' := by
  have hs := (Cfg.ok hE).st
  have H := opt_Rate c.ci c.ch c.co c.seed c.batch c.steps c.rate c.decay c.how c.keep c.clip step w (by omega)
  rw [show cfgE c.ci c.ch c.co c.batch c.steps c.rate c.decay c.how c.keep c.clip = 0 from hE] at H
  have e := rateE_2 (x := 0) (st := c.steps) (step := step) rfl (inB_iff.2 (by omega))
  rw [e, show rateO 0 c.steps c.rate c.decay step = ratI c step from if_pos e] at H
  exact H
theorem ratI_bd (c : Cfg) (h : c.Ok) (step : Nat) (hst : (step : Int) < c.steps) : 0 ≤ ratI c step ∧ ratI c step ≤ 2147483647 := by
  have hr := rateP_le (decay := c.decay) h.ra.1 h.ra.2 h.st.1 h.st.2 (step := step) (by omega) (by omega)
  have h2 := h.ra.2
  unfold ratI
  omega
theorem step_fine (c : Cfg) (hE : c.E = 0) (s : List Int × List Int) (hs : fits c s = true) (g : List Int) (step : Nat) (hst : (step : Int) < c.steps) (A1 A2 A3 : Option Addr) (c1 c2 c3 : Nat) (w : World) (i1 : Ints .i64 w A1 c.N s.1) (i2 : Ints .i64 w A2 c.N s.2) (i3 : Ints .i64 w A3 c.N g) :
    Calls Try.prog 138 #[.agg #[.int .i64 c.ci, .int .i64 c.ch, .int .i64 c.co, .int .u64 c.seed, .int .i64 c.batch, .int .i64 c.steps, .int .i64 c.rate, .int .i64 c.decay, .int .i64 c.how, .int .i64 c.keep, .int .i64 c.clip], .agg #[.slice A1 c.N c1, .slice A2 c.N c2], .slice A3 c.N c3, .int .i64 (ratI c step)] w (fun e w' => ∃ B1 k1 B2 k2, e = .returned (.tuple #[.agg #[.slice B1 c.N k1, .slice B2 c.N k2], .int .i64 0]) ∧
      w'.ownsRow w.heap.size 3 1 (.slice B1 c.N k1) c.N ((weightsL c.how c.keep (ratI c step) s.1 s.2 g).map (.int .i64)) ∧ w'.ownsRow w.heap.size 3 1 (.slice B2 c.N k2) c.N ((movesL c.how c.keep s.2 g).map (.int .i64)) ∧ Below w.heap.size w w') := by
  obtain ⟨f1, f2, f3, f4⟩ := fits_iff.1 hs
  have h := Cfg.ok hE
  have h40 := h.n40
  have hr := ratI_bd c h step hst
  have H := opt_Step_any c.ci c.ch c.co c.seed c.batch c.steps c.rate c.decay c.how c.keep c.clip A1 A2 A3 c.N c.N c.N c1 c2 c3 s.1 s.2 g (ratI c step) w i1 i2 i3 (by omega) (by omega)
  rw [show cfgE c.ci c.ch c.co c.batch c.steps c.rate c.decay c.how c.keep c.clip = 0 from hE] at H
  have e : stepE 0 (sizeP c.ci c.ch c.co) c.N c.N c.N s.1 s.2 (ratI c step) = 0 := by
    unfold stepE
    rw [if_neg (by simp), if_neg (by rw [f3, f4, h.n]; simp), inB_iff.2 hr]
    rfl
  rw [e, show stepW 0 (sizeP c.ci c.ch c.co) c.N c.N c.N c.how c.keep (ratI c step) s.1 s.2 g = _ from if_pos e, show stepM 0 (sizeP c.ci c.ch c.co) c.N c.N c.N c.how c.keep (ratI c step) s.1 s.2 g = _ from if_pos e] at H
  refine H.mono ?_
  rintro e w' ⟨B1, k1, B2, k2, rfl, o1, o2, hb⟩
  rw [weightsL_length, i3.len] at o1 ⊢
  rw [movesL_length (by rw [f2, i3.len]), i3.len] at o2 ⊢
  exact ⟨B1, k1, B2, k2, rfl, o1, o2, hb⟩

/-- What a step hands back: the state, the batch, the rate; all lists the call's own. -/
def NextOwn (w : World) (c : Cfg) (ds : Data) (s : List Int × List Int) (step : Nat) (f : Value → Value → Value → Value) (e : Ending) (w' : World) : Prop :=
  ∃ B1 k1 B2 k2 E ec, e = .returned (f (.agg #[.slice B1 c.N k1, .slice B2 c.N k2]) (.slice E c.batch.toNat ec) (.int .i64 (ratI c step))) ∧ w'.ownsRow w.heap.size 3 1 (.slice B1 c.N k1) c.N ((nextS c ds s step).1.map (.int .i64)) ∧
    w'.ownsRow w.heap.size 3 1 (.slice B2 c.N k2) c.N ((nextS c ds s step).2.map (.int .i64)) ∧
    w'.ownsRow w.heap.size 3 1 (.slice E c.batch.toNat ec) c.batch.toNat (((batI c ds step).map fun (n : Nat) => (n : Int)).map (.int .i64)) ∧ Below w.heap.size w w'

theorem own_fin {u : World} {b b' m : Nat} {e : TypeId} {sz n : Nat} {v : Value} {xs : List Value} (h : u.ownsRow b e sz v n xs) (hm : m < b) (hb : b' ≤ b) (x y : Value) (o : Obj) : (((u.setCell ⟨m, 0, none⟩ x).setCell ⟨m, 1, none⟩ y).alloc o).ownsRow b' e sz v n xs :=
  own_base ((own_far (own_far h (p := ⟨m, 0, none⟩) hm x) (p := ⟨m, 1, none⟩) hm y).alloc o) hb
theorem bel_fin {w u : World} {m : Nat} (h : Below w.heap.size w u) (hm : w.heap.size ≤ m) (x y : Value) (o : Obj) : Below w.heap.size w (((u.setCell ⟨m, 0, none⟩ x).setCell ⟨m, 1, none⟩ y).alloc o) :=
  ((h.setCell (p := ⟨m, 0, none⟩) hm x).setCell (p := ⟨m, 1, none⟩) hm y).alloc (by simpa using h.size) o

theorem res_fin {u : World} {m : Nat} {t : TypeId} {a b : Value} (hr : Blk u m t #[a, b]) (x y : Value) (o : Obj) : (((u.setCell ⟨m, 0, none⟩ x).setCell ⟨m, 1, none⟩ y).alloc o).cell? ⟨m, 0, none⟩ = some x ∧ (((u.setCell ⟨m, 0, none⟩ x).setCell ⟨m, 1, none⟩ y).alloc o).cell? ⟨m, 1, none⟩ = some y := by
  have h := ((hr.put 0 x).put 1 y).alloc o
  exact ⟨h.cell 0, h.cell 1⟩

set_option maxRecDepth 100000 in
set_option maxHeartbeats 4000000 in
theorem trn_next (c : Cfg) (ds : Data) (hf : Fine c ds) (s0 : 0 ≤ c.seed) (s1 : c.seed < 18446744073709551616) (D : Option Addr) (n dc : Nat) (w : World) (hd : Duos w D n ds) (s : List Int × List Int) (hs : fits c s = true) (A1 A2 : Option Addr) (k1 k2 : Nat)
    (i1 : Ints .i64 w A1 c.N s.1) (i2 : Ints .i64 w A2 c.N s.2) (hk1 : c.N ≤ k1) (step : Nat) (hst : (step : Int) < c.steps) :
    Calls Try.prog 87 #[.agg #[.int .i64 c.ci, .int .i64 c.ch, .int .i64 c.co, .int .u64 c.seed, .int .i64 c.batch, .int .i64 c.steps, .int .i64 c.rate, .int .i64 c.decay, .int .i64 c.how, .int .i64 c.keep, .int .i64 c.clip], .slice D n dc, .agg #[.slice A1 c.N k1, .slice A2 c.N k2], .int .i64 step] w (NextOwn w c ds s step fun a b r => .tuple #[a, b, r]) := by
  have hdl := hd.len
  have HB0 := ((Blk.made w 54 #[.int .i64 c.ci, .int .i64 c.ch, .int .i64 c.co, .int .u64 c.seed, .int .i64 c.batch, .int .i64 c.steps, .int .i64 c.rate, .int .i64 c.decay, .int .i64 c.how, .int .i64 c.keep, .int .i64 c.clip]).alloc (.cells #[.slice A1 c.N k1, .slice A2 c.N k2] 35)).alloc (.cells #[.slice none 0 0, .slice none 0 0] 35)
  have HB1 := (Blk.made' (w.alloc (.cells #[.int .i64 c.ci, .int .i64 c.ch, .int .i64 c.co, .int .u64 c.seed, .int .i64 c.batch, .int .i64 c.steps, .int .i64 c.rate, .int .i64 c.decay, .int .i64 c.how, .int .i64 c.keep, .int .i64 c.clip] 54)) 35 #[.slice A1 c.N k1, .slice A2 c.N k2] (g := w.heap.size + 1) (by simp)).alloc (.cells #[.slice none 0 0, .slice none 0 0] 35)
  have HB2 := Blk.made' ((w.alloc (.cells #[.int .i64 c.ci, .int .i64 c.ch, .int .i64 c.co, .int .u64 c.seed, .int .i64 c.batch, .int .i64 c.steps, .int .i64 c.rate, .int .i64 c.decay, .int .i64 c.how, .int .i64 c.keep, .int .i64 c.clip] 54)).alloc (.cells #[.slice A1 c.N k1, .slice A2 c.N k2] 35)) 35 #[.slice none 0 0, .slice none 0 0] (g := w.heap.size + 1 + 1) (by simp)
  have HBT := Lib.hid (fun W => batch_fine c hf.ok ds n hdl (by rw [← hdl]; exact hf.d1) (by rw [← hdl]; exact hf.d16) s0 s1 step hst W)
  have HMN := Lib.hid (fun B bc W => mean_fine c ds hf D n dc s hs A1 k1 hk1 B bc step W)
  have HCL := Lib.hid (fun g A k W => clip_fine c hf.ok g A k W)
  have HRT := Lib.hid (fun W => rate_fine c hf.e step hst W)
  have HST := Lib.hid (fun A3 c3 W => step_fine c hf.e s hs (gradC c ds s.1 step) step hst A1 A2 A3 k1 k2 c3 W)
  have HGC := Lib.hid (show gradC c ds s.1 step = clipL (meanL c.ch.toNat c.ci.toNat c.co.toNat c.N (c.batch.toNat : Int) s.1 ds (batI c ds step)) c.clip from rfl)
  have HI := Lib.hid (fun W (h : Below w.heap.size w W) => (⟨hd.below h, i1.below h, i2.below h⟩ : Duos W D n ds ∧ Ints .i64 W A1 c.N s.1 ∧ Ints .i64 W A2 c.N s.2))
  have HBL := Lib.hid (show ((batI c ds step).map fun (n : Nat) => (n : Int)).length = c.batch.toNat by rw [List.length_map, batI_length])
  clear hd i1 i2 hdl hs
  go_enter Try.func87, Try.ntmps87
  go_wp2_with fail
  refine (HBT.out _).mono ?_
  rintro e x1 ⟨E, ec, rfl, OE, hb1⟩
  replace HB0 := HB0.below hb1 (by simp <;> omega)
  replace HB1 := HB1.below hb1 (by simp <;> omega)
  replace HB2 := HB2.below hb1 (by simp <;> omega)
  have hbw : Below w.heap.size w x1 := Below.trans (B := w.heap.size) (by repeat (first | exact Below.refl _ _ | assumption | refine bel_drewN ?_ _ | refine Below.drew ?_ | (refine Below.alloc ?_ (by simp <;> omega) _) | (refine Below.setCell ?_ (by simp <;> omega) _))) (hb1.mono (by simp <;> omega))
  have hl2 := HB2.lt
  have OE' := own_base OE (base' := w.heap.size + 1 + 1 + 1) (by simp)
  have IE := Ints.of_own OE HBL.out
  have HSS := Lib.hid (fun W (h : Below x1.heap.size x1 W) => (⟨(HB1.below h (by omega)).cell 0, (HB0.below h (by omega)).cfg⟩ : W.cell? ⟨w.heap.size + 1, 0, none⟩ = some (.slice A1 c.N k1) ∧ W.cell? ⟨w.heap.size, 0, none⟩ = some (.int .i64 c.ci) ∧ W.cell? ⟨w.heap.size, 1, none⟩ = some (.int .i64 c.ch) ∧ W.cell? ⟨w.heap.size, 2, none⟩ = some (.int .i64 c.co) ∧ W.cell? ⟨w.heap.size, 3, none⟩ = some (.int .u64 c.seed) ∧ W.cell? ⟨w.heap.size, 4, none⟩ = some (.int .i64 c.batch) ∧ W.cell? ⟨w.heap.size, 5, none⟩ = some (.int .i64 c.steps) ∧ W.cell? ⟨w.heap.size, 6, none⟩ = some (.int .i64 c.rate) ∧ W.cell? ⟨w.heap.size, 7, none⟩ = some (.int .i64 c.decay) ∧ W.cell? ⟨w.heap.size, 8, none⟩ = some (.int .i64 c.how) ∧ W.cell? ⟨w.heap.size, 9, none⟩ = some (.int .i64 c.keep) ∧ W.cell? ⟨w.heap.size, 10, none⟩ = some (.int .i64 c.clip)))
  clear hb1 OE
  obtain ⟨e0, d0, d1, d2, d3, d4, d5, d6, d7, d8, d9, da⟩ := HSS.out x1 (Below.refl _ _)
  go_wp2_with fail
  go_region_held3 (fun W => W.cell? ⟨w.heap.size + 1, 0, none⟩ = some (.slice A1 c.N k1) ∧ W.cell? ⟨w.heap.size, 0, none⟩ = some (.int .i64 c.ci) ∧ W.cell? ⟨w.heap.size, 1, none⟩ = some (.int .i64 c.ch) ∧ W.cell? ⟨w.heap.size, 2, none⟩ = some (.int .i64 c.co) ∧ W.cell? ⟨w.heap.size, 3, none⟩ = some (.int .u64 c.seed) ∧ W.cell? ⟨w.heap.size, 4, none⟩ = some (.int .i64 c.batch) ∧ W.cell? ⟨w.heap.size, 5, none⟩ = some (.int .i64 c.steps) ∧ W.cell? ⟨w.heap.size, 6, none⟩ = some (.int .i64 c.rate) ∧ W.cell? ⟨w.heap.size, 7, none⟩ = some (.int .i64 c.decay) ∧ W.cell? ⟨w.heap.size, 8, none⟩ = some (.int .i64 c.how) ∧ W.cell? ⟨w.heap.size, 9, none⟩ = some (.int .i64 c.keep) ∧ W.cell? ⟨w.heap.size, 10, none⟩ = some (.int .i64 c.clip)) (first | (with_reducible exact HSS.out _ ((Below.refl _ _).drew)) | (with_reducible exact HSS.out _ hB1) | (with_reducible exact HSS.out _ hB2) | go_keep) (first
    | (go_at_call 136; (with_reducible refine (HMN.out E ec _ (HI.out _ hbw.drew).1 (HI.out _ hbw.drew).2.1 IE.drew).mono ?_); rintro e u1 ⟨M, mc, rfl, IM, hbM⟩; have hB1 : Below x1.heap.size x1 u1 := bel_trans ((Below.refl _ _).drew) hbM)
    | (go_at_call 53; (with_reducible refine (HCL.out _ _ _ _ IM).mono ?_); rintro e u2 ⟨S, sc, rfl, IS, hbC⟩; have hB2 : Below x1.heap.size x1 u2 := bel_trans hB1 hbC)
    | fail)
  all_goals
    rw [← HGC.out] at IS
    have OE2 := own_below OE' hB2
    have hbw2 := hbw.trans (hB2.mono hbw.size)
    have hs2 := hB2.size
    clear hbM hbC IM IE d0 d1 d2 d3 d4 d5 d6 d7 d8 d9 da e0 hB1
    obtain ⟨e0, d0, d1, d2, d3, d4, d5, d6, d7, d8, d9, da⟩ := HSS.out u2 hB2
    go_wp2_with fail
    refine (HRT.out _).mono ?_
    rintro e u3 ⟨rfl, hb3⟩
    have hB3 := bel_trans hB2 hb3
    have hbw3 := hbw.trans (hB3.mono hbw.size)
    have OE3 := own_below OE2 hb3
    clear e0 d0 d1 d2 d3 d4 d5 d6 d7 d8 d9 da hB2 hbw2
    obtain ⟨e0, d0, d1, d2, d3, d4, d5, d6, d7, d8, d9, da⟩ := HSS.out u3 hB3
    have e1 : u3.cell? ⟨w.heap.size + 1, 1, none⟩ = some (.slice A2 c.N k2) := (HB1.below hB3 (by omega)).cell 1
    go_wp2_with fail
    refine (HST.out S sc _ (HI.out _ hbw3).2.1 (HI.out _ hbw3).2.2 (IS.below hb3)).mono ?_
    rintro e u4 ⟨B1, q1, B2, q2, rfl, O1, O2, hb4⟩
    have hB4 := bel_trans hB3 hb4
    have hbw4 := hbw.trans (hB4.mono hbw.size)
    have OE4 := own_below OE3 hb4
    have hr := HB2.below hB4 hl2
    have r0 : u4.cell? ⟨w.heap.size + 1 + 1, 0, none⟩ = some (.slice none 0 0) := hr.cell 0
    have r1 : u4.cell? ⟨w.heap.size + 1 + 1, 1, none⟩ = some (.slice none 0 0) := hr.cell 1
    have r2 := hr.frozen 0
    have r3 := hr.frozen 1
    have hlr := hr.lt
    have hs3 := hB3.size
    clear e0 e1 d0 d1 d2 d3 d4 d5 d6 d7 d8 d9 da hB3 hbw3 HI HRT HST HCL HMN HBT
    go_wp2
    obtain ⟨z0, z1⟩ := res_fin hr (.slice B1 c.N q1) (.slice B2 c.N q2) (.cells #[.slice B1 c.N q1, .slice B2 c.N q2] 35)
    refine bodyPost_ret (v := .tuple #[.agg #[.slice B1 c.N q1, .slice B2 c.N q2], .slice E c.batch.toNat ec, .int .i64 (ratI c step)]) (by simp [results, Try.results87, go_sem, z0, z1]) rfl ?_
    exact ⟨B1, q1, B2, q2, E, ec, rfl, own_fin O1 (by omega) (by omega) _ _ _, own_fin O2 (by omega) (by omega) _ _ _, own_fin OE4 (by omega) (by omega) _ _ _, bel_fin hbw4 (by omega) _ _ _⟩
end Go.Proofs.Ythckpmgehhkacaa
