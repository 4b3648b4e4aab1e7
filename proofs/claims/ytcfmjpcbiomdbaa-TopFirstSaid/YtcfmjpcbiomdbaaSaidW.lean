/- coachtop.said: a walk. -/
import Derived.Test.YtcfmjpcbiomdbaaSaid
import Derived.Test.YtcfmjpcbiomdbaaAudT
import Derived.Test.YtcfmjpcbiomdbaaWhole
namespace Go.Proofs.Ytcfmjpcbiomdbaa
open Go.RowKit Pl

theorem same_rate (r : Rec) : sameR { r with rate := r.rate + 1 } r = false := by
  unfold sameR likeR
  have : (r.rate + 1 == r.rate) = false := by rw [beq_eq_false_iff_ne]; omega
  simp [this]

set_option maxRecDepth 100000 in
set_option maxHeartbeats 4000000 in
theorem top_said (w : World) : Calls Try.prog 8 #[] w fun e w' => e = .returned (.bool true) ∧ Below w.heap.size w w' := by
  have HMK := Lib.hid (fun D W (h : Duos W D 1 smallD) => jrn_Make_ok smallC smallD small_fine (by decide) (by decide) D 1 1 W h 3 (by decide))
  have HWH := Lib.hid (fun D W (h : Duos W D 1 smallD) A ac f hx => aud_Whole smallC smallD small_fine (by decide) (by decide) D 1 1 W h A 3 ac f hx (by decide))
  have HRB := Lib.hid (show 0 ≤ (recC smallC smallD 1).rate ∧ (recC smallC smallD 1).rate ≤ 2147483647 from ratI_bd smallC (fine small_fine).ok 1 (by decide))
  have hd := small_duos w
  have hbw : Below w.heap.size w ((((w.alloc (.cells #[.int .i64 1, .int .i64 1, .int .i64 1, .int .u64 1, .int .i64 1, .int .i64 3, .int .i64 6554, .int .i64 0, .int .i64 0, .int .i64 0, .int .i64 0] 24)).alloc (.cells #[.int .i64 65536] 3)).alloc (.cells #[.int .i64 131072] 3)).alloc (.cells #[.slice (some ⟨w.heap.size + 1, 0, none⟩) 1 1, .slice (some ⟨w.heap.size + 1 + 1, 0, none⟩) 1 1] 69)) := (by repeat (first | exact Below.refl _ _ | assumption | refine bel_drewN ?_ _ | refine Below.drew ?_ | (refine Below.alloc ?_ (by simp <;> omega) _) | (refine Below.setCell ?_ (by simp <;> omega) _)))
  have HB0 := (((Blk.made w 24 #[.int .i64 1, .int .i64 1, .int .i64 1, .int .u64 1, .int .i64 1, .int .i64 3, .int .i64 6554, .int .i64 0, .int .i64 0, .int .i64 0, .int .i64 0]).alloc (.cells #[.int .i64 65536] 3)).alloc (.cells #[.int .i64 131072] 3)).alloc (.cells #[.slice (some ⟨w.heap.size + 1, 0, none⟩) 1 1, .slice (some ⟨w.heap.size + 1 + 1, 0, none⟩) 1 1] 69)
  obtain ⟨rc, hrc⟩ : ∃ rc, rc = recC smallC smallD := ⟨_, rfl⟩
  rw [← hrc] at HMK HWH HRB
  clear hrc
  go_enter Try.func8, Try.ntmps8
  go_wp2_with fail
  refine (HMK.out _ _ hd).mono ?_
  rintro e w3 ⟨A, k, rfl, hL, hb3⟩
  have hd3 := hd.below hb3
  have hw3 := hbw.trans (hb3.mono hbw.size)
  have HB3 := HB0.below hb3 HB0.lt
  obtain ⟨d0, d1, d2, d3, d4, d5, d6, d7, d8, d9, da⟩ := HB3.cfg
  have hlw := hbw.size
  go_wp2_with fail
  refine (HWH.out _ _ hd3 A k rc (RecHeld.recs hL).weak).mono ?_
  rintro e w4 ⟨q, hq, rfl, hb4⟩
  obtain rfl : q = 3 := first_self hq
  have hd4 := hd3.below hb4
  have hw4 := hw3.trans (hb4.mono hw3.size)
  have HB4 := HB3.below hb4 HB3.lt
  have hL4 := hL.below (keeps_rec none) hb4
  obtain ⟨g, c', hv, hg1, hg2, _, _⟩ := hL4.form (by omega)
  obtain ⟨rfl, rfl⟩ : A = some ⟨g, 0, none⟩ ∧ k = c' := by injection hv with a _ b; exact ⟨a, b⟩
  obtain ⟨cs, ⟨vb, rfl, _⟩, m0, _, _⟩ := hL4.at (j := 1) (by omega)
  obtain ⟨rt, hrt⟩ : ∃ rt, rt = (rc 1).rate := ⟨_, rfl⟩
  have HRT := Lib.hid hrt
  have c2 : w4.cell? ⟨g, 7, none⟩ = some (.int .i64 rt) := by rw [hrt]; exact m0 2 (by omega)
  have hrb := HRB.out
  rw [← hrt] at hrb
  have er : IntKind.i64.wrap (rt + 1) = rt + 1 := wrap_small _ (by omega) (by omega)
  obtain ⟨hRB, hBt⟩ : RecsR (w4.setCell ⟨g, 7, none⟩ (.int .i64 (rt + 1))) (some ⟨g, 0, none⟩) 3 (upto (bentF rc 1 { rc 1 with rate := rt + 1 }) 3) ∧ But g w4 (w4.setCell ⟨g, 7, none⟩ (.int .i64 (rt + 1))) := bent_rate (K := 1) hL4 (by omega) (rt + 1)
  have z7 : w4.frozen? ⟨g, 7, none⟩ = false := by
    obtain ⟨vs, ho, _⟩ := hL4
    exact ho.frozenAt 7
  have hsz4 : w.heap.size + 4 ≤ g := by
    have : ((((w.alloc (.cells #[.int .i64 1, .int .i64 1, .int .i64 1, .int .u64 1, .int .i64 1, .int .i64 3, .int .i64 6554, .int .i64 0, .int .i64 0, .int .i64 0, .int .i64 0] 24)).alloc (.cells #[.int .i64 65536] 3)).alloc (.cells #[.int .i64 131072] 3)).alloc (.cells #[.slice (some ⟨w.heap.size + 1, 0, none⟩) 1 1, .slice (some ⟨w.heap.size + 1 + 1, 0, none⟩) 1 1] 69)).heap.size = w.heap.size + 4 := by simp
    omega
  have hd5 : Duos (w4.setCell ⟨g, 7, none⟩ (.int .i64 (rt + 1))) (some ⟨w.heap.size + 1 + 1 + 1, 0, none⟩) 1 smallD := by
    have hdd := (hd.below (hb3.trans (hb4.mono hb3.size)))
    exact (hd.below (((hb3.trans (hb4.mono hb3.size)).setCell (p := ⟨g, 7, none⟩) hg1 (.int .i64 (rt + 1)))))
  have hb5 : Below w.heap.size w (w4.setCell ⟨g, 7, none⟩ (.int .i64 (rt + 1))) := hw4.setCell (p := ⟨g, 7, none⟩) (by simp; omega) _
  have hne1 : w.heap.size ≠ g := by omega
  have hne2 : g ≠ w.heap.size := by omega
  have HW2 := Lib.hid (HWH.out _ _ hd5 (some ⟨g, 0, none⟩) k (bentF rc 1 { rc 1 with rate := rt + 1 }) hRB)
  clear d0 d1 d2 d3 d4 d5 d6 d7 d8 d9 da
  obtain ⟨d0, d1, d2, d3, d4, d5, d6, d7, d8, d9, da⟩ := HB4.cfg
  have hlc := HB4.lt
  clear hv m0 hrt hq hL hL4 hRB hBt
  go_wp2_with fail
  refine HW2.out.mono ?_
  rintro e u ⟨q, hq, rfl, hbu⟩
  obtain rfl : q = 1 := (first_bent (by omega) hq).2 (by rw [HRT.out]; exact same_rate _)
  go_wp2
  go_ret
  exact ⟨by simp, hb5.trans (hbu.mono hb5.size)⟩
end Go.Proofs.Ytcfmjpcbiomdbaa
