/- The law AuditSays holds of the given program for every input. No condition. -/
import Derived.Test.YtaicdhjdedijoaaGreatRJrn
import Derived.Test.YtaicdhjdedijoaaGreatWhole
import Derived.Test.YtaicdhjdedijoaaGreatArgR
namespace Go.Proofs.YtaicdhjdedijoaaGreat
open Go.ChangeShapes Go.WideShapes Go.ChangeAt Go.RowKit Go.Sort Pl

theorem first_one {n : Nat} {f g : Nat → Rec} {k k' : Nat} (h : FirstBad n f g k) (h' : FirstBad n f g k') : k = k' := by
  obtain ⟨a1, a2, a3⟩ := h
  obtain ⟨b1, b2, b3⟩ := h'
  rcases Nat.lt_trichotomy k k' with hh | hh | hh
  · have := b2 k hh; rw [a3 (by omega)] at this; cases this
  · exact hh
  · have := a2 k' hh; rw [b3 (by omega)] at this; cases this
theorem upto_recAt {rs : List Rec} {n : Nat} (h : rs.length = n) : upto (recAt rs) n = rs := by
  subst h
  apply List.ext_getElem (by rw [upto_length])
  intro j h1 h2
  simp [upto, recAt, List.getElem?_eq_getElem h2]

set_option maxRecDepth 100000 in
set_option maxHeartbeats 16000000 in
theorem ref_Audit (c : Cfg) (ds : Data) (hf : Fine c ds) (s0 : 0 ≤ c.seed) (s1 : c.seed < 18446744073709551616) (D : Option Addr) (n dc : Nat) (w : World) (hd : Duos w D n ds) (A : Option Addr) (N ac : Nat) (f : Nat → Rec) (hx : RecsR w A N (upto f N)) (hN : (N : Int) ≤ c.steps) :
    Calls Tryz.prog 32 #[.agg #[.int .i64 c.ci, .int .i64 c.ch, .int .i64 c.co, .int .u64 c.seed, .int .i64 c.batch, .int .i64 c.steps, .int .i64 c.rate, .int .i64 c.decay, .int .i64 c.how, .int .i64 c.keep, .int .i64 c.clip], .slice D n dc, .slice A N ac] w fun e w' => ∃ k : Nat, FirstBad N f (recC c ds) k ∧ e = .returned (.int .i64 k) ∧ Below w.heap.size w w' := by
  have hst := hf.ok.st
  have hba := hf.ok.ba
  have HMK := Lib.hid (fun W (h : Below w.heap.size w W) => ref_Journal c ds hf s0 s1 D n dc W (hd.below h) N hN)
  have HBL := Lib.hid (fun k => show (recC c ds k).batch.length = c.batch.toNat from by
    show ((batI c ds k).map _).length = _
    rw [List.length_map, batI_length])
  have hw0 : Below w.heap.size w (w.alloc (.cells #[.int .i64 c.ci, .int .i64 c.ch, .int .i64 c.co, .int .u64 c.seed, .int .i64 c.batch, .int .i64 c.steps, .int .i64 c.rate, .int .i64 c.decay, .int .i64 c.how, .int .i64 c.keep, .int .i64 c.clip] 24)) := (Below.refl _ _).alloc (Nat.le_refl _) _
  clear hf hd
  obtain ⟨rc, hrc⟩ : ∃ rc, rc = recC c ds := ⟨_, rfl⟩
  rw [← hrc] at HMK HBL ⊢
  clear hrc
  go_enter Tryz.func32, Tryz.ntmps32
  go_wp2_with fail
  refine (HMK.out _ hw0).mono ?_
  rintro e x2 ⟨B, bc, rfl, hR, hb2⟩
  have hbw2 := hw0.trans (hb2.mono hw0.size)
  have hR2 := (RecHeld.recs hR).weak
  have hx2 := hx.below hbw2
  clear hb2 hx hR HMK
  go_wp2
  go_loopw [8] (fun j wr => ∃ k : Nat, k ≤ N ∧ j = .int .i64 k ∧ (∀ i, i < k → sameR (f i) (rc i) = true) ∧ Below x2.heap.size x2 wr) (fun j _ => N - (intOf j).toNat)
  case atStart => exact ⟨0, by omega, rfl, fun i hi => absurd hi (by omega), Below.refl _ _⟩
  case round =>
    obtain ⟨k, hk, rfl, hall, hb⟩ := hrel
    have HALL := Lib.hid hall
    clear hall
    by_cases hlt : k < N
    · obtain ⟨xb, xo, XL, xk, rfl, xlt, ⟨x0, x1, x2', x3, x4⟩, XI, _⟩ := (hx2.below hb).at hlt
      obtain ⟨yb, yo, YL, yk, rfl, ylt, ⟨y0, y1, y2, y3, y4⟩, YI, _⟩ := (hR2.below hb).at hlt
      rw [recAt_upto f hlt] at x0 x1 x2' x3 x4 XI
      rw [recAt_upto rc hlt] at y0 y1 y2 y3 y4 YI
      have hsh : (rc k).batch.length ≤ 9223372036854775806 := by rw [HBL.out]; omega
      obtain ⟨ra, hra⟩ : ∃ ra, ra = f k := ⟨_, rfl⟩
      obtain ⟨rb, hrb⟩ : ∃ rb, rb = rc k := ⟨_, rfl⟩
      have RA := Lib.hid hra
      have RB := Lib.hid hrb
      rw [← hra] at x0 x1 x2' x3 x4 XI
      rw [← hrb] at y0 y1 y2 y3 y4 YI hsh
      have hlk := Lib.hid (fun W (h : Below wr.heap.size wr W) => ref_Like ra rb XL YL _ xk _ yk W (XI.below h) (YI.below h) (.inr hsh))
      have k0 : (0 : Int) ≤ (k : Int) := by omega
      have k1 : (k : Int) < (N : Int) := by omega
      obtain ⟨z, rfl⟩ : ∃ z : World, z = wr := ⟨_, rfl⟩
      have hbz := hbw2.trans (hb.mono hbw2.size)
      have K0 := cell_regrown x0
      have K1 := cell_regrown x1
      have K2 := cell_regrown x2'
      have K3 := cell_regrown x3
      have K4 := cell_regrown x4
      have M0 := cell_regrown y0
      have M1 := cell_regrown y1
      have M2 := cell_regrown y2
      have M3 := cell_regrown y3
      have M4 := cell_regrown y4
      clear hra hrb XI YI hsh
      cases hl : likeR ra rb
      · rw [hl] at hlk
        have F := Lib.hid (show sameR ra rb = false by unfold sameR; rw [hl]; rfl)
        clear hl
        have cL := Lib.hid (show ∀ d os, Calls Tryz.prog 35 #[.agg #[.int .i64 ra.step, .slice XL ra.batch.length xk, .int .i64 ra.rate, .int .u64 ra.root, .int .u64 ra.chain], .agg #[.int .i64 rb.step, .slice YL rb.batch.length yk, .int .i64 rb.rate, .int .u64 rb.root, .int .u64 rb.chain]] (grow (redrawn z d) os) fun e w'' => e = .returned (.bool false) ∧ ∃ p : Regrown, w'' = grow (redrawn z p.d) p.os from fun d os => Calls.regrown_of (hlk.out _ (below_regrown z d os)))
        go_wp2
        clear x0 x1 x2' x3 x4 y0 y1 y2 y3 y4
        refine wp_region_quiet_below (by kernel_rfl) (by kernel_rfl) ?_
        iterate 8 (quiet_step (fail))
        refine wpQuiet_step (fun K hK => ?_)
        go_simp
        refine ⟨.bool false, fun p => cL.out p.d p.os, hK _ ?_⟩
        clear hK K
        iterate 14 (go_big_quiet_step (fail))
        refine wpQuiet_nil ?_
        intro _ hw'
        obtain ⟨⟨dq, osq⟩, hw''⟩ := hw'
        have hu : Below z.heap.size z (grow (redrawn z dq) osq) := below_regrown z dq osq
        subst hw''
        go_wp2
        go_ret
        exact ⟨k, ⟨by omega, HALL.out, fun _ => by rw [← RA.out, ← RB.out]; exact F.out⟩, rfl, hbz.trans (hu.mono hbz.size)⟩
      · cases hc : (ra.chain == rb.chain)
        · rw [hl] at hlk
          have F := Lib.hid (show sameR ra rb = false by unfold sameR; rw [hl, hc]; rfl)
          have tc : (ra.chain != rb.chain) = true := by rw [bne, hc]; rfl
          clear hl hc
          have cL := Lib.hid (show ∀ d os, Calls Tryz.prog 35 #[.agg #[.int .i64 ra.step, .slice XL ra.batch.length xk, .int .i64 ra.rate, .int .u64 ra.root, .int .u64 ra.chain], .agg #[.int .i64 rb.step, .slice YL rb.batch.length yk, .int .i64 rb.rate, .int .u64 rb.root, .int .u64 rb.chain]] (grow (redrawn z d) os) fun e w'' => e = .returned (.bool true) ∧ ∃ p : Regrown, w'' = grow (redrawn z p.d) p.os from fun d os => Calls.regrown_of (hlk.out _ (below_regrown z d os)))
          go_wp2
          clear x0 x1 x2' x3 x4 y0 y1 y2 y3 y4
          refine wp_region_quiet_below (by kernel_rfl) (by kernel_rfl) ?_
          iterate 8 (quiet_step (fail))
          refine wpQuiet_step (fun K hK => ?_)
          go_simp
          refine ⟨.bool true, fun p => cL.out p.d p.os, hK _ ?_⟩
          clear hK K
          iterate 14 (quiet_step (fail))
          refine wpQuiet_nil ?_
          intro _ hw'
          obtain ⟨⟨dq, osq⟩, hw''⟩ := hw'
          have hu : Below z.heap.size z (grow (redrawn z dq) osq) := below_regrown z dq osq
          subst hw''
          go_wp2
          go_ret
          exact ⟨k, ⟨by omega, HALL.out, fun _ => by rw [← RA.out, ← RB.out]; exact F.out⟩, rfl, hbz.trans (hu.mono hbz.size)⟩
        · rw [hl] at hlk
          have F := Lib.hid (show sameR ra rb = true by unfold sameR; rw [hl, hc]; rfl)
          have tc : (ra.chain != rb.chain) = false := by rw [bne, hc]; rfl
          clear hl hc
          have cL := Lib.hid (show ∀ d os, Calls Tryz.prog 35 #[.agg #[.int .i64 ra.step, .slice XL ra.batch.length xk, .int .i64 ra.rate, .int .u64 ra.root, .int .u64 ra.chain], .agg #[.int .i64 rb.step, .slice YL rb.batch.length yk, .int .i64 rb.rate, .int .u64 rb.root, .int .u64 rb.chain]] (grow (redrawn z d) os) fun e w'' => e = .returned (.bool true) ∧ ∃ p : Regrown, w'' = grow (redrawn z p.d) p.os from fun d os => Calls.regrown_of (hlk.out _ (below_regrown z d os)))
          go_wp2
          clear x0 x1 x2' x3 x4 y0 y1 y2 y3 y4
          refine wp_region_quiet_below (by kernel_rfl) (by kernel_rfl) ?_
          iterate 8 (quiet_step (fail))
          refine wpQuiet_step (fun K hK => ?_)
          go_simp
          refine ⟨.bool true, fun p => cL.out p.d p.os, hK _ ?_⟩
          clear hK K
          iterate 14 (quiet_step (fail))
          refine wpQuiet_nil ?_
          intro _ hw'
          obtain ⟨⟨dq, osq⟩, hw''⟩ := hw'
          have hu : Below z.heap.size z (grow (redrawn z dq) osq) := below_regrown z dq osq
          subst hw''
          go_wp2
          go_roundw
          case rel =>
            refine ⟨k + 1, by omega, by go_num, fun i hi => ?_, hb.trans (hu.mono hb.size)⟩
            by_cases hik : i = k
            · subst hik; rw [← RA.out, ← RB.out]; exact F.out
            · exact HALL.out i (by omega)
          case measure => simp [intOf]; omega
    · obtain rfl : k = N := by omega
      go_wp2
      go_ret
      exact ⟨k, ⟨Nat.le_refl _, HALL.out, fun h => absurd h (by omega)⟩, rfl, hbw2.trans (hb.mono hbw2.size)⟩
end Go.Proofs.YtaicdhjdedijoaaGreat
