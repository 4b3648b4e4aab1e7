/- Package audit: Whole, of a course that is right: a walk. -/
import Derived.Test.YtgodgedhddngeaaGreatDoorRunO
import Derived.Test.YtgodgedhddngeaaGreatDoorRJrn
import Derived.Lib.QuietBelow
set_option maxRecDepth 100000
set_option maxHeartbeats 16000000
namespace Go.Proofs.YtgodgedhddngeaaGreatDoor
open Go.RowKit Go.Sort Pl
def FirstBad (n : Nat) (f g : Nat → Rec) (k : Nat) : Prop := k ≤ n ∧ (∀ j, j < k → sameR (f j) (g j) = true) ∧ (k < n → sameR (f k) (g k) = false)
theorem aud_Whole (c : Cfg) (ds : Data) (hC : crs c ds = 0) (s0 : 0 ≤ c.seed) (s1 : c.seed < 18446744073709551616) (D : Option Addr) (n dc : Nat) (w : World) (hd : Duos w D n ds) (A : Option Addr) (N ac : Nat) (f : Nat → Rec) (hx : RecsR w A N (upto f N)) (hN : (N : Int) ≤ c.steps) :
  Calls Tryz.prog 28 #[.agg #[.int .i64 c.ci, .int .i64 c.ch, .int .i64 c.co, .int .u64 c.seed, .int .i64 c.batch, .int .i64 c.steps, .int .i64 c.rate, .int .i64 c.decay, .int .i64 c.how, .int .i64 c.keep, .int .i64 c.clip], .slice D n dc, .slice A N ac] w fun e w' => ∃ k : Nat, FirstBad N f (recC c ds) k ∧ e = .returned (.tuple #[.int .i64 k, .int .i64 0]) ∧ Below w.heap.size w w' := by
 have hf := fine hC
 have hst := hf.ok.st
 have hba := hf.ok.ba
 have hn : n ≤ 9223372036854775806 := by have := hf.d16; have := hd.len; omega
 have HCK := Lib.hid (fun W (h : Below w.heap.size w W) => trn_Check c D n dc ds W (hd.below h) hn)
 have HMK := Lib.hid (fun W (h : Below w.heap.size w W) => jrn_Make_ok2 c ds hC s0 s1 D n dc W (hd.below h) N hN)
 have HBL := Lib.hid (fun k => show (recC c ds k).batch.length = c.batch.toNat from by
  show ((batI c ds k).map _).length = _
  rw [List.length_map, batI_length])
 have HB0 := Blk.made w 29 #[.int .i64 c.ci, .int .i64 c.ch, .int .i64 c.co, .int .u64 c.seed, .int .i64 c.batch, .int .i64 c.steps, .int .i64 c.rate, .int .i64 c.decay, .int .i64 c.how, .int .i64 c.keep, .int .i64 c.clip]
 have C0 := Lib.hid hC
 have hN1 : ¬ c.steps < (N : Int) := by omega
 clear hC hf hd hn
 obtain ⟨rc, hrc⟩ : ∃ rc, rc = recC c ds := ⟨_, rfl⟩
 rw [← hrc] at HMK HBL ⊢
 clear hrc
 go_enter Tryz.func28, Tryz.ntmps28
 go_wp2_with fail
 refine (HCK.out _ ((Below.refl _ _).alloc (Nat.le_refl _) _)).mono ?_
 rintro e x1 ⟨rfl, hb1⟩
 rw [C0.out]
 have hbw : Below w.heap.size w x1 := Below.trans (B := w.heap.size) (by repeat (first | exact Below.refl _ _ | assumption | refine bel_drewN ?_ _ | refine Below.drew ?_ | (refine Below.alloc ?_ (by simp <;> omega) _) | (refine Below.setCell ?_ (by simp <;> omega) _))) (hb1.mono (by simp))
 replace HB0 := HB0.below hb1 (by simp)
 clear hb1 HCK
 obtain ⟨d0, d1, d2, d3, d4, d5, d6, d7, d8, d9, da⟩ := HB0.cfg
 go_wp2_with fail
 refine (HMK.out _ hbw).mono ?_
 rintro e x2 ⟨B, bc, rfl, hR, hb2⟩
 have hbw2 := hbw.trans (hb2.mono hbw.size)
 have hR2 := (RecHeld.recs hR).weak
 have hx2 := hx.below hbw2
 clear d0 d1 d2 d3 d4 d5 d6 d7 d8 d9 da hb2 HB0 hbw hx hR HMK
 go_wp2
 go_loopw [11, 12, 34] (fun _ _ j wr => ∃ k : Nat, k ≤ N ∧ j = .int .i64 k ∧ (∀ i, i < k → sameR (f i) (rc i) = true) ∧ Below x2.heap.size x2 wr) (fun _ _ j _ => N - (intOf j).toNat)
 case atStart => exact ⟨0, by omega, rfl, fun i hi => absurd hi (by omega), Below.refl _ _⟩
 case round =>
  obtain ⟨k, hk, rfl, hall, hb⟩ := hrel
  have HALL := Lib.hid hall
  clear hall
  by_cases hlt : k < N
  ·obtain ⟨xb, xo, XL, xk, rfl, xlt, ⟨x0, x1, x2', x3, x4⟩, XI, _⟩ := (hx2.below hb).at hlt
   obtain ⟨yb, yo, YL, yk, rfl, ylt, ⟨y0, y1, y2, y3, y4⟩, YI, _⟩ := (hR2.below hb).at hlt
   rw [recAt_upto f hlt] at x0 x1 x2' x3 x4 XI
   rw [recAt_upto rc hlt] at y0 y1 y2 y3 y4 YI
   have hsh : (rc k).batch.length ≤ 9223372036854775806 := by rw [HBL.out]; omega
   obtain ⟨ra, hra⟩ : ∃ ra, ra = f k := ⟨_, rfl⟩
   obtain ⟨rb, hrb⟩ : ∃ rb, rb = rc k := ⟨_, rfl⟩
   have RA := Lib.hid hra
   have RB := Lib.hid hrb
   rw [← hra] at x0 x1 x2' x3 x4 XI
   rw [← hrb] at y0 y1 y2 y3 y4 YI hsh
   have b1 : Below wr.heap.size wr (wr.alloc (.cells #[.int .i64 ra.step, .slice XL ra.batch.length xk, .int .i64 ra.rate, .int .u64 ra.root, .int .u64 ra.chain] 90)) := (Below.refl _ _).alloc (Nat.le_refl _) _
   obtain ⟨⟨_, _, _, _, _⟩, _⟩ := (Blk.made wr 90 #[.int .i64 ra.step, .slice XL ra.batch.length xk, .int .i64 ra.rate, .int .u64 ra.root, .int .u64 ra.chain]).rec5
   have hlk := Lib.hid (fun W (h : Below wr.heap.size wr W) => aud_like ra rb XL YL _ xk _ yk W (XI.below h) (YI.below h) (.inr hsh))
   have k0 : (0 : Int) ≤ (k : Int) := by omega
   have k1 : (k : Int) < (N : Int) := by omega
   have hbs := hb.size
   clear hra hrb XI YI hsh
   have BX := Blk.made wr 90 #[.int .i64 ra.step, .slice XL ra.batch.length xk, .int .i64 ra.rate, .int .u64 ra.root, .int .u64 ra.chain]
   obtain ⟨z, hz⟩ : ∃ z, z = wr.alloc (.cells #[.int .i64 ra.step, .slice XL ra.batch.length xk, .int .i64 ra.rate, .int .u64 ra.root, .int .u64 ra.chain] 90) := ⟨_, rfl⟩
   rw [← hz] at BX b1
   have ylz : yb < z.heap.size := Nat.lt_of_lt_of_le ylt b1.size
   have hSS := Lib.hid (fun W (h : Below z.heap.size z W) => (⟨(BX.below h BX.lt).rec5.1, ((h.cell (p := ⟨yb, yo + k * 5, none⟩) ylz).trans ((b1.cell (p := ⟨yb, yo + k * 5, none⟩) ylt).trans y0)), ((h.cell (p := ⟨yb, yo + k * 5 + 1, none⟩) ylz).trans ((b1.cell (p := ⟨yb, yo + k * 5 + 1, none⟩) ylt).trans y1)), ((h.cell (p := ⟨yb, yo + k * 5 + 2, none⟩) ylz).trans ((b1.cell (p := ⟨yb, yo + k * 5 + 2, none⟩) ylt).trans y2)), ((h.cell (p := ⟨yb, yo + k * 5 + 3, none⟩) ylz).trans ((b1.cell (p := ⟨yb, yo + k * 5 + 3, none⟩) ylt).trans y3)), ((h.cell (p := ⟨yb, yo + k * 5 + 4, none⟩) ylz).trans ((b1.cell (p := ⟨yb, yo + k * 5 + 4, none⟩) ylt).trans y4))⟩ : (W.cell? ⟨wr.heap.size, 0, none⟩ = some (.int .i64 ra.step) ∧ W.cell? ⟨wr.heap.size, 1, none⟩ = some (.slice XL ra.batch.length xk) ∧ W.cell? ⟨wr.heap.size, 2, none⟩ = some (.int .i64 ra.rate) ∧ W.cell? ⟨wr.heap.size, 3, none⟩ = some (.int .u64 ra.root) ∧ W.cell? ⟨wr.heap.size, 4, none⟩ = some (.int .u64 ra.chain)) ∧ W.cell? ⟨yb, yo + k * 5, none⟩ = some (.int .i64 rb.step) ∧ W.cell? ⟨yb, yo + k * 5 + 1, none⟩ = some (.slice YL rb.batch.length yk) ∧ W.cell? ⟨yb, yo + k * 5 + 2, none⟩ = some (.int .i64 rb.rate) ∧ W.cell? ⟨yb, yo + k * 5 + 3, none⟩ = some (.int .u64 rb.root) ∧ W.cell? ⟨yb, yo + k * 5 + 4, none⟩ = some (.int .u64 rb.chain)))
   have HZ := Lib.hid hz
   clear hz
   have hbz := hbw2.trans ((hb.trans (b1.mono hb.size)).mono hbw2.size)
   obtain ⟨⟨r0, r1, r2, r3, r4⟩, v0, v1, v2, v3, v4⟩ := hSS.out z (Below.refl _ _)
   have K0 := cell_regrown r0
   have K1 := cell_regrown r1
   have K2 := cell_regrown r2
   have K3 := cell_regrown r3
   have K4 := cell_regrown r4
   have M0 := cell_regrown v0
   have M1 := cell_regrown v1
   have M2 := cell_regrown v2
   have M3 := cell_regrown v3
   have M4 := cell_regrown v4
   cases hl : likeR ra rb
   ·rw [hl] at hlk
    have F := Lib.hid (show sameR ra rb = false by unfold sameR; rw [hl]; rfl)
    clear hl
    have cL := Lib.hid (show ∀ d os, Calls Tryz.prog 52 #[.agg #[.int .i64 ra.step, .slice XL ra.batch.length xk, .int .i64 ra.rate, .int .u64 ra.root, .int .u64 ra.chain], .agg #[.int .i64 rb.step, .slice YL rb.batch.length yk, .int .i64 rb.rate, .int .u64 rb.root, .int .u64 rb.chain]] (grow (redrawn z d) os) fun e w'' => e = .returned (.bool false) ∧ ∃ p : Regrown, w'' = grow (redrawn z p.d) p.os from fun d os => Calls.regrown_of (hlk.out _ (bel_trans b1 (below_regrown z d os))))
    go_wp2
    rw [← HZ.out]
    clear r0 r1 r2 r3 r4 v0 v1 v2 v3 v4 x0 x1 x2' x3 x4 y0 y1 y2 y3 y4
    refine wp_region_quiet_below (by kernel_rfl) (by kernel_rfl) ?_
    iterate 5 (go_big_quiet_step (fail))
    refine wpQuiet_step (fun K hK => ?_)
    go_simp
    refine ⟨.bool false, fun p => cL.out p.d p.os, hK _ ?_⟩
    clear hK K
    iterate 11 (go_big_quiet_step (fail))
    refine wpQuiet_nil ?_
    intro _ hw'
    obtain ⟨⟨dq, osq⟩, hw''⟩ := hw'
    have hu : Below z.heap.size z (grow (redrawn z dq) osq) := below_regrown z dq osq
    subst hw''
    go_wp2
    go_ret2
    exact ⟨k, ⟨by omega, HALL.out, fun _ => by rw [← RA.out, ← RB.out]; exact F.out⟩, rfl, hbz.trans (hu.mono hbz.size)⟩
   ·cases hc : (ra.chain == rb.chain)
    ·rw [hl] at hlk
     have F := Lib.hid (show sameR ra rb = false by unfold sameR; rw [hl, hc]; rfl)
     have tc : (ra.chain != rb.chain) = true := by rw [bne, hc]; rfl
     clear hl hc
     have cL := Lib.hid (show ∀ d os, Calls Tryz.prog 52 #[.agg #[.int .i64 ra.step, .slice XL ra.batch.length xk, .int .i64 ra.rate, .int .u64 ra.root, .int .u64 ra.chain], .agg #[.int .i64 rb.step, .slice YL rb.batch.length yk, .int .i64 rb.rate, .int .u64 rb.root, .int .u64 rb.chain]] (grow (redrawn z d) os) fun e w'' => e = .returned (.bool true) ∧ ∃ p : Regrown, w'' = grow (redrawn z p.d) p.os from fun d os => Calls.regrown_of (hlk.out _ (bel_trans b1 (below_regrown z d os))))
     go_wp2
     rw [← HZ.out]
     clear r0 r1 r2 r3 r4 v0 v1 v2 v3 v4 x0 x1 x2' x3 x4 y0 y1 y2 y3 y4
     refine wp_region_quiet_below (by kernel_rfl) (by kernel_rfl) ?_
     iterate 5 (go_big_quiet_step (fail))
     refine wpQuiet_step (fun K hK => ?_)
     go_simp
     refine ⟨.bool true, fun p => cL.out p.d p.os, hK _ ?_⟩
     clear hK K
     iterate 11 (go_big_quiet_step (fail))
     refine wpQuiet_nil ?_
     intro _ hw'
     obtain ⟨⟨dq, osq⟩, hw''⟩ := hw'
     have hu : Below z.heap.size z (grow (redrawn z dq) osq) := below_regrown z dq osq
     subst hw''
     go_wp2
     go_ret2
     exact ⟨k, ⟨by omega, HALL.out, fun _ => by rw [← RA.out, ← RB.out]; exact F.out⟩, rfl, hbz.trans (hu.mono hbz.size)⟩
    ·rw [hl] at hlk
     have F := Lib.hid (show sameR ra rb = true by unfold sameR; rw [hl, hc]; rfl)
     have tc : (ra.chain != rb.chain) = false := by rw [bne, hc]; rfl
     clear hl hc
     have cL := Lib.hid (show ∀ d os, Calls Tryz.prog 52 #[.agg #[.int .i64 ra.step, .slice XL ra.batch.length xk, .int .i64 ra.rate, .int .u64 ra.root, .int .u64 ra.chain], .agg #[.int .i64 rb.step, .slice YL rb.batch.length yk, .int .i64 rb.rate, .int .u64 rb.root, .int .u64 rb.chain]] (grow (redrawn z d) os) fun e w'' => e = .returned (.bool true) ∧ ∃ p : Regrown, w'' = grow (redrawn z p.d) p.os from fun d os => Calls.regrown_of (hlk.out _ (bel_trans b1 (below_regrown z d os))))
     go_wp2
     rw [← HZ.out]
     clear r0 r1 r2 r3 r4 v0 v1 v2 v3 v4 x0 x1 x2' x3 x4 y0 y1 y2 y3 y4
     refine wp_region_quiet_below (by kernel_rfl) (by kernel_rfl) ?_
     iterate 5 (go_big_quiet_step (fail))
     refine wpQuiet_step (fun K hK => ?_)
     go_simp
     refine ⟨.bool true, fun p => cL.out p.d p.os, hK _ ?_⟩
     clear hK K
     iterate 11 (go_big_quiet_step (fail))
     refine wpQuiet_nil ?_
     intro _ hw'
     obtain ⟨⟨dq, osq⟩, hw''⟩ := hw'
     have hu : Below z.heap.size z (grow (redrawn z dq) osq) := below_regrown z dq osq
     subst hw''
     go_wp2
     go_roundw
     case rel =>
      refine ⟨k + 1, by omega, by go_num, fun i hi => ?_, (hb.trans (b1.mono hb.size)).trans (hu.mono (hb.trans (b1.mono hb.size)).size)⟩
      by_cases hik : i = k
      ·subst hik; rw [← RA.out, ← RB.out]; exact F.out
      ·exact HALL.out i (by omega)
     case measure => simp [intOf]; omega
  ·obtain rfl : k = N := by omega
   go_wp2
   go_ret2
   exact ⟨k, ⟨Nat.le_refl _, HALL.out, fun h => absurd h (by omega)⟩, rfl, hbw2.trans (hb.mono hbw2.size)⟩
end Go.Proofs.YtgodgedhddngeaaGreatDoor
namespace Go.Proofs.YtgodgedhddngeaaGreatDoor
open Go.ChangeShapes Go.WideShapes Go.ChangeAt Go.RowKit Go.Sort Pl
theorem ref_Audit (c : Cfg) (ds : Data) (hf : Fine c ds) (s0 : 0 ≤ c.seed) (s1 : c.seed < 18446744073709551616) (D : Option Addr) (n dc : Nat) (w : World) (hd : Duos w D n ds) (A : Option Addr) (N ac : Nat) (f : Nat → Rec) (hx : RecsR w A N (upto f N)) (hN : (N : Int) ≤ c.steps) :
  Calls Tryz.prog 63 #[.agg #[.int .i64 c.ci, .int .i64 c.ch, .int .i64 c.co, .int .u64 c.seed, .int .i64 c.batch, .int .i64 c.steps, .int .i64 c.rate, .int .i64 c.decay, .int .i64 c.how, .int .i64 c.keep, .int .i64 c.clip], .slice D n dc, .slice A N ac] w fun e w' => ∃ k : Nat, FirstBad N f (recC c ds) k ∧ e = .returned (.int .i64 k) ∧ Below w.heap.size w w' := by
 have hst := hf.ok.st
 have hba := hf.ok.ba
 have HMK := Lib.hid (fun W (h : Below w.heap.size w W) => ref_Journal c ds hf s0 s1 D n dc W (hd.below h) N hN)
 have HBL := Lib.hid (fun k => show (recC c ds k).batch.length = c.batch.toNat from by
  show ((batI c ds k).map _).length = _
  rw [List.length_map, batI_length])
 have hw0 : Below w.heap.size w (w.alloc (.cells #[.int .i64 c.ci, .int .i64 c.ch, .int .i64 c.co, .int .u64 c.seed, .int .i64 c.batch, .int .i64 c.steps, .int .i64 c.rate, .int .i64 c.decay, .int .i64 c.how, .int .i64 c.keep, .int .i64 c.clip] 29)) := (Below.refl _ _).alloc (Nat.le_refl _) _
 clear hf hd
 obtain ⟨rc, hrc⟩ : ∃ rc, rc = recC c ds := ⟨_, rfl⟩
 rw [← hrc] at HMK HBL ⊢
 clear hrc
 go_enter Tryz.func63, Tryz.ntmps63
 go_wp2_with fail
 refine (HMK.out _ hw0).mono ?_
 rintro e x2 ⟨B, bc, rfl, hR, hb2⟩
 have hbw2 := hw0.trans (hb2.mono hw0.size)
 have hR2 := (RecHeld.recs hR).weak
 have hx2 := hx.below hbw2
 clear hb2 hx hR HMK
 go_wp2
 go_loopw [8] (fun j wr => ∃ k : Nat, k ≤ N ∧ j = .int .i64 k ∧ (∀ i, i < k → sameR (f i) (rc i) = true) ∧ Below x2.heap.size x2 wr) (fun j _ => N - (intOf j).toNat)
 case atStart => exact ⟨0, by omega, rfl, fun i hi => absurd hi (by omega), Below.refl _ _⟩
 case round =>
  obtain ⟨k, hk, rfl, hall, hb⟩ := hrel
  have HALL := Lib.hid hall
  clear hall
  by_cases hlt : k < N
  ·obtain ⟨xb, xo, XL, xk, rfl, xlt, ⟨x0, x1, x2', x3, x4⟩, XI, _⟩ := (hx2.below hb).at hlt
   obtain ⟨yb, yo, YL, yk, rfl, ylt, ⟨y0, y1, y2, y3, y4⟩, YI, _⟩ := (hR2.below hb).at hlt
   rw [recAt_upto f hlt] at x0 x1 x2' x3 x4 XI
   rw [recAt_upto rc hlt] at y0 y1 y2 y3 y4 YI
   have hsh : (rc k).batch.length ≤ 9223372036854775806 := by rw [HBL.out]; omega
   obtain ⟨ra, hra⟩ : ∃ ra, ra = f k := ⟨_, rfl⟩
   obtain ⟨rb, hrb⟩ : ∃ rb, rb = rc k := ⟨_, rfl⟩
   have RA := Lib.hid hra
   have RB := Lib.hid hrb
   rw [← hra] at x0 x1 x2' x3 x4 XI
   rw [← hrb] at y0 y1 y2 y3 y4 YI hsh
   have hlk := Lib.hid (fun W (h : Below wr.heap.size wr W) => ref_Like ra rb XL YL _ xk _ yk W (XI.below h) (YI.below h) (.inr hsh))
   have k0 : (0 : Int) ≤ (k : Int) := by omega
   have k1 : (k : Int) < (N : Int) := by omega
   obtain ⟨z, rfl⟩ : ∃ z : World, z = wr := ⟨_, rfl⟩
   have hbz := hbw2.trans (hb.mono hbw2.size)
   have K0 := cell_regrown x0
   have K1 := cell_regrown x1
   have K2 := cell_regrown x2'
   have K3 := cell_regrown x3
   have K4 := cell_regrown x4
   have M0 := cell_regrown y0
   have M1 := cell_regrown y1
   have M2 := cell_regrown y2
   have M3 := cell_regrown y3
   have M4 := cell_regrown y4
   clear hra hrb XI YI hsh
   cases hl : likeR ra rb
   ·rw [hl] at hlk
    have F := Lib.hid (show sameR ra rb = false by unfold sameR; rw [hl]; rfl)
    clear hl
    have cL := Lib.hid (show ∀ d os, Calls Tryz.prog 101 #[.agg #[.int .i64 ra.step, .slice XL ra.batch.length xk, .int .i64 ra.rate, .int .u64 ra.root, .int .u64 ra.chain], .agg #[.int .i64 rb.step, .slice YL rb.batch.length yk, .int .i64 rb.rate, .int .u64 rb.root, .int .u64 rb.chain]] (grow (redrawn z d) os) fun e w'' => e = .returned (.bool false) ∧ ∃ p : Regrown, w'' = grow (redrawn z p.d) p.os from fun d os => Calls.regrown_of (hlk.out _ (below_regrown z d os)))
    go_wp2
    clear x0 x1 x2' x3 x4 y0 y1 y2 y3 y4
    refine wp_region_quiet_below (by kernel_rfl) (by kernel_rfl) ?_
    iterate 8 (quiet_step (fail))
    refine wpQuiet_step (fun K hK => ?_)
    go_simp
    refine ⟨.bool false, fun p => cL.out p.d p.os, hK _ ?_⟩
    clear hK K
    iterate 14 (go_big_quiet_step (fail))
    refine wpQuiet_nil ?_
    intro _ hw'
    obtain ⟨⟨dq, osq⟩, hw''⟩ := hw'
    have hu : Below z.heap.size z (grow (redrawn z dq) osq) := below_regrown z dq osq
    subst hw''
    go_wp2
    go_ret
    exact ⟨k, ⟨by omega, HALL.out, fun _ => by rw [← RA.out, ← RB.out]; exact F.out⟩, rfl, hbz.trans (hu.mono hbz.size)⟩
   ·cases hc : (ra.chain == rb.chain)
    ·rw [hl] at hlk
     have F := Lib.hid (show sameR ra rb = false by unfold sameR; rw [hl, hc]; rfl)
     have tc : (ra.chain != rb.chain) = true := by rw [bne, hc]; rfl
     clear hl hc
     have cL := Lib.hid (show ∀ d os, Calls Tryz.prog 101 #[.agg #[.int .i64 ra.step, .slice XL ra.batch.length xk, .int .i64 ra.rate, .int .u64 ra.root, .int .u64 ra.chain], .agg #[.int .i64 rb.step, .slice YL rb.batch.length yk, .int .i64 rb.rate, .int .u64 rb.root, .int .u64 rb.chain]] (grow (redrawn z d) os) fun e w'' => e = .returned (.bool true) ∧ ∃ p : Regrown, w'' = grow (redrawn z p.d) p.os from fun d os => Calls.regrown_of (hlk.out _ (below_regrown z d os)))
     go_wp2
     clear x0 x1 x2' x3 x4 y0 y1 y2 y3 y4
     refine wp_region_quiet_below (by kernel_rfl) (by kernel_rfl) ?_
     iterate 8 (quiet_step (fail))
     refine wpQuiet_step (fun K hK => ?_)
     go_simp
     refine ⟨.bool true, fun p => cL.out p.d p.os, hK _ ?_⟩
     clear hK K
     iterate 14 (quiet_step (fail))
     refine wpQuiet_nil ?_
     intro _ hw'
     obtain ⟨⟨dq, osq⟩, hw''⟩ := hw'
     have hu : Below z.heap.size z (grow (redrawn z dq) osq) := below_regrown z dq osq
     subst hw''
     go_wp2
     go_ret
     exact ⟨k, ⟨by omega, HALL.out, fun _ => by rw [← RA.out, ← RB.out]; exact F.out⟩, rfl, hbz.trans (hu.mono hbz.size)⟩
    ·rw [hl] at hlk
     have F := Lib.hid (show sameR ra rb = true by unfold sameR; rw [hl, hc]; rfl)
     have tc : (ra.chain != rb.chain) = false := by rw [bne, hc]; rfl
     clear hl hc
     have cL := Lib.hid (show ∀ d os, Calls Tryz.prog 101 #[.agg #[.int .i64 ra.step, .slice XL ra.batch.length xk, .int .i64 ra.rate, .int .u64 ra.root, .int .u64 ra.chain], .agg #[.int .i64 rb.step, .slice YL rb.batch.length yk, .int .i64 rb.rate, .int .u64 rb.root, .int .u64 rb.chain]] (grow (redrawn z d) os) fun e w'' => e = .returned (.bool true) ∧ ∃ p : Regrown, w'' = grow (redrawn z p.d) p.os from fun d os => Calls.regrown_of (hlk.out _ (below_regrown z d os)))
     go_wp2
     clear x0 x1 x2' x3 x4 y0 y1 y2 y3 y4
     refine wp_region_quiet_below (by kernel_rfl) (by kernel_rfl) ?_
     iterate 8 (quiet_step (fail))
     refine wpQuiet_step (fun K hK => ?_)
     go_simp
     refine ⟨.bool true, fun p => cL.out p.d p.os, hK _ ?_⟩
     clear hK K
     iterate 14 (quiet_step (fail))
     refine wpQuiet_nil ?_
     intro _ hw'
     obtain ⟨⟨dq, osq⟩, hw''⟩ := hw'
     have hu : Below z.heap.size z (grow (redrawn z dq) osq) := below_regrown z dq osq
     subst hw''
     go_wp2
     go_roundw
     case rel =>
      refine ⟨k + 1, by omega, by go_num, fun i hi => ?_, hb.trans (hu.mono hb.size)⟩
      by_cases hik : i = k
      ·subst hik; rw [← RA.out, ← RB.out]; exact F.out
      ·exact HALL.out i (by omega)
     case measure => simp [intOf]; omega
  ·obtain rfl : k = N := by omega
   go_wp2
   go_ret
   exact ⟨k, ⟨Nat.le_refl _, HALL.out, fun h => absurd h (by omega)⟩, rfl, hbw2.trans (hb.mono hbw2.size)⟩
end Go.Proofs.YtgodgedhddngeaaGreatDoor
namespace Go.Proofs.YtgodgedhddngeaaGreatDoor
open Go.ChangeShapes Go.WideShapes Go.ChangeAt Go.RowKit Pl
def wholeE (c : Cfg) (ds : Data) (N : Nat) : Int := if crs c ds ≠ 0 then crs c ds else if (N : Int) ≤ c.steps then 0 else 2
theorem aud_Whole_no (c : Cfg) (ds : Data) (D : Option Addr) (n dc : Nat) (w : World) (hd : Duos w D n ds) (hn : n ≤ 9223372036854775806) (A : Option Addr) (N ac : Nat) (h : wholeE c ds N ≠ 0) :
  Calls Tryz.prog 28 #[.agg #[.int .i64 c.ci, .int .i64 c.ch, .int .i64 c.co, .int .u64 c.seed, .int .i64 c.batch, .int .i64 c.steps, .int .i64 c.rate, .int .i64 c.decay, .int .i64 c.how, .int .i64 c.keep, .int .i64 c.clip], .slice D n dc, .slice A N ac] w fun e w' => e = .returned (.tuple #[.int .i64 0, .int .i64 (wholeE c ds N)]) ∧ Below w.heap.size w w' := by
 have HCK := Lib.hid (fun W (h : Below w.heap.size w W) => trn_Check c D n dc ds W (hd.below h) hn)
 have HB0 := Blk.made w 29 #[.int .i64 c.ci, .int .i64 c.ch, .int .i64 c.co, .int .u64 c.seed, .int .i64 c.batch, .int .i64 c.steps, .int .i64 c.rate, .int .i64 c.decay, .int .i64 c.how, .int .i64 c.keep, .int .i64 c.clip]
 have b0 : Below w.heap.size w (w.alloc (.cells #[.int .i64 c.ci, .int .i64 c.ch, .int .i64 c.co, .int .u64 c.seed, .int .i64 c.batch, .int .i64 c.steps, .int .i64 c.rate, .int .i64 c.decay, .int .i64 c.how, .int .i64 c.keep, .int .i64 c.clip] 29)) := (Below.refl _ _).alloc (Nat.le_refl _) _
 by_cases hC : crs c ds = 0
 ·have hst : ¬ (N : Int) ≤ c.steps := fun hh => h (by unfold wholeE; rw [if_neg (by simp [hC]), if_pos hh])
  have F := Lib.hid (show wholeE c ds N = 2 by unfold wholeE; rw [if_neg (by simp [hC]), if_neg hst])
  have C0 := Lib.hid hC
  have h5 : c.steps < (N : Int) := by omega
  clear hC h hst
  go_enter Tryz.func28, Tryz.ntmps28
  go_wp2_with fail
  refine (HCK.out _ b0).mono ?_
  rintro e x1 ⟨rfl, hb1⟩
  rw [C0.out]
  have hbw := b0.trans (hb1.mono b0.size)
  have d5 : x1.cell? ⟨w.heap.size, 5, none⟩ = some (.int .i64 c.steps) := (HB0.below hb1 HB0.lt).cell 5
  go_wp2
  go_ret2
  rw [F.out]
  exact ⟨rfl, hbw⟩
 ·have F := Lib.hid (show wholeE c ds N = crs c ds from if_pos hC)
  have t : (crs c ds != 0) = true := by rw [bne_iff_ne]; exact hC
  obtain ⟨z, hz⟩ : ∃ z, z = crs c ds := ⟨_, rfl⟩
  rw [← hz] at F t HCK
  clear hz hC h
  go_enter Tryz.func28, Tryz.ntmps28
  go_wp2_with fail
  refine (HCK.out _ b0).mono ?_
  rintro e x1 ⟨rfl, hb1⟩
  have hbw := b0.trans (hb1.mono b0.size)
  go_wp2
  go_ret2
  rw [F.out]
  exact ⟨rfl, hbw⟩
end Go.Proofs.YtgodgedhddngeaaGreatDoor
