/- A rate of a run of records is turned: what is read then. -/
import Derived.Test.YtaeeonnjkplohaaGreatDoorGoes
import Derived.Test.YtaeeonnjkplohaaGreatDoorWhole
namespace Go.Proofs.YtaeeonnjkplohaaGreatDoor
open Go.RowKit Pl

theorem bent_rate {y : World} {B g N c K : Nat} {f : Nat → Rec} (h : RecHeld none B f N (.slice (some ⟨g, 0, none⟩) N c) y) (hK : K < N) (v : Int) :
    RecsR (y.setCell ⟨g, K * 5 + 2, none⟩ (.int .i64 v)) (some ⟨g, 0, none⟩) N (upto (bentF f K { f K with rate := v }) N) ∧ But g y (y.setCell ⟨g, K * 5 + 2, none⟩ (.int .i64 v)) := by
  have hBt := (But.refl g y).put (K * 5 + 2) (.int .i64 v)
  obtain ⟨vs, ho, hp⟩ := h
  have hg := ho.lt g rfl
  obtain ⟨cur, hcur, hsz, htk⟩ : ∃ cur : Array Value, Blk y g 40 cur ∧ N * 5 ≤ cur.size ∧ cur.toList.take (N * 5) = vs := by
    rcases ho.2 with ⟨hv, h0⟩ | ⟨g', cap, cur, hv, _, hgg, hn, _, hs, ht⟩
    · omega
    · have : g = g' := by injection hv with a _ _; injection a with a; injection a
      subst this
      exact ⟨cur, hgg, by rw [hs]; exact Nat.mul_le_mul_right _ hn, ht⟩
  have hB5 := hcur.put (K * 5 + 2) (.int .i64 v)
  refine ⟨⟨upto_length _ _, fun _ => ⟨g, 0, rfl, hB5.lt, fun j hj => ?_⟩⟩, hBt⟩
  rw [recAt_upto _ hj, Nat.zero_add]
  obtain ⟨u, hcs, L, kk, rfl, hI', l1, l2, hne⟩ := hp j hj
  have hbd : j * 5 + 5 ≤ N * 5 := by omega
  have cellE : ∀ i, i < 5 → K * 5 + 2 ≠ j * 5 + i → (y.setCell ⟨g, K * 5 + 2, none⟩ (.int .i64 v)).cell? ⟨g, j * 5 + i, none⟩ = [Value.int .i64 (f j).step, .slice L (f j).batch.length kk, .int .i64 (f j).rate, .int .u64 (f j).root, .int .u64 (f j).chain][i]? := fun i hi d => by
    rw [hB5.cell, ← hcs, List.getElem?_take, if_pos hi, List.getElem?_drop, ← htk, List.getElem?_take, if_pos (by omega), Array.getElem?_toList, Array.getElem?_setIfInBounds_ne d]
  have hI2 : Ints .i64 (y.setCell ⟨g, K * 5 + 2, none⟩ (.int .i64 v)) L (f j).batch.length (f j).batch := ⟨hI'.len, fun hn => by
    obtain ⟨b, off, e, hb, hc⟩ := hI'.cells hn
    have hng : b ≠ g := fun h => (hne b off none e).2.1 (by rw [h]; rfl)
    exact ⟨b, off, e, Nat.lt_of_lt_of_le hb hBt.size, fun i hi => (World.cell?_of_block (a := ⟨b, off + i, none⟩) (hBt.block b hb hng)).trans (hc i hi)⟩⟩
  by_cases hjK : j = K
  · subst hjK
    have e : bentF f j { f j with rate := v } j = { f j with rate := v } := if_pos rfl
    rw [e]
    refine ⟨L, kk, ⟨cellE 0 (by omega) (by omega), cellE 1 (by omega) (by omega), ?_, cellE 3 (by omega) (by omega), cellE 4 (by omega) (by omega)⟩, hI2, l1, l2⟩
    rw [hB5.cell]
    simp [Array.getElem?_setIfInBounds]
    omega
  · have e : bentF f K { f K with rate := v } j = f j := if_neg hjK
    rw [e]
    exact ⟨L, kk, ⟨cellE 0 (by omega) (by omega), cellE 1 (by omega) (by omega), cellE 2 (by omega) (by omega), cellE 3 (by omega) (by omega), cellE 4 (by omega) (by omega)⟩, hI2, l1, l2⟩
end Go.Proofs.YtaeeonnjkplohaaGreatDoor

/- coachtop.said: a walk. -/
namespace Go.Proofs.YtaeeonnjkplohaaGreatDoor
open Go.RowKit Pl

theorem same_rate (r : Rec) : sameR { r with rate := r.rate + 1 } r = false := by
  unfold sameR likeR
  have : (r.rate + 1 == r.rate) = false := by rw [beq_eq_false_iff_ne]; omega
  simp [this]

set_option maxRecDepth 100000 in
set_option maxHeartbeats 4000000 in
theorem top_said (w : World) : Calls Tryz.prog 7 #[] w fun e w' => e = .returned (.bool true) ∧ Below w.heap.size w w' := by
  have HMK := Lib.hid (fun D W (h : Duos W D 1 smallD) => jrn_Make_ok smallC smallD small_fine (by decide) (by decide) D 1 1 W h 3 (by decide))
  have HWH := Lib.hid (fun D W (h : Duos W D 1 smallD) A ac f hx => aud_Whole smallC smallD small_fine (by decide) (by decide) D 1 1 W h A 3 ac f hx (by decide))
  have HRB := Lib.hid (show 0 ≤ (recC smallC smallD 1).rate ∧ (recC smallC smallD 1).rate ≤ 2147483647 from ratI_bd smallC (fine small_fine).ok 1 (by decide))
  have hd := small_duos w
  have hbw : Below w.heap.size w ((((w.alloc (.cells #[.int .i64 1, .int .i64 1, .int .i64 1, .int .u64 1, .int .i64 1, .int .i64 3, .int .i64 6554, .int .i64 0, .int .i64 0, .int .i64 0, .int .i64 0] 24)).alloc (.cells #[.int .i64 65536] 3)).alloc (.cells #[.int .i64 131072] 3)).alloc (.cells #[.slice (some ⟨w.heap.size + 1, 0, none⟩) 1 1, .slice (some ⟨w.heap.size + 1 + 1, 0, none⟩) 1 1] 53)) := (by repeat (first | exact Below.refl _ _ | assumption | refine bel_drewN ?_ _ | refine Below.drew ?_ | (refine Below.alloc ?_ (by simp <;> omega) _) | (refine Below.setCell ?_ (by simp <;> omega) _)))
  have HB0 := (((Blk.made w 24 #[.int .i64 1, .int .i64 1, .int .i64 1, .int .u64 1, .int .i64 1, .int .i64 3, .int .i64 6554, .int .i64 0, .int .i64 0, .int .i64 0, .int .i64 0]).alloc (.cells #[.int .i64 65536] 3)).alloc (.cells #[.int .i64 131072] 3)).alloc (.cells #[.slice (some ⟨w.heap.size + 1, 0, none⟩) 1 1, .slice (some ⟨w.heap.size + 1 + 1, 0, none⟩) 1 1] 53)
  obtain ⟨rc, hrc⟩ : ∃ rc, rc = recC smallC smallD := ⟨_, rfl⟩
  rw [← hrc] at HMK HWH HRB
  clear hrc
  go_enter Tryz.func7, Tryz.ntmps7
  go_wp2_with fail
  refine (HMK.out _ _ hd).mono ?_
  rintro e w3 ⟨A, k, rfl, hL, hb3⟩
  have hd3 := hd.below hb3
  have hw3 := hbw.trans (hb3.mono hbw.size)
  have HB3 := HB0.below hb3 HB0.lt
  obtain ⟨d0, d1, d2, d3, d4, d5, d6, d7, d8, d9, da⟩ := HB3.cfg
  have hlw := hbw.size
  go_wp2_with fail
  refine (HWH.out _ _ hd3 A k rc (RecHeld.recs hL).weak).mono ?_
  rintro e w4 ⟨q, hq, rfl, hb4⟩
  obtain rfl : q = 3 := first_self hq
  have hd4 := hd3.below hb4
  have hw4 := hw3.trans (hb4.mono hw3.size)
  have HB4 := HB3.below hb4 HB3.lt
  have hL4 := hL.below (keeps_rec none) hb4
  obtain ⟨g, c', hv, hg1, hg2, _, _⟩ := hL4.form (by omega)
  obtain ⟨rfl, rfl⟩ : A = some ⟨g, 0, none⟩ ∧ k = c' := by injection hv with a _ b; exact ⟨a, b⟩
  obtain ⟨cs, ⟨vb, rfl, _⟩, m0, _, _⟩ := hL4.at (j := 1) (by omega)
  obtain ⟨rt, hrt⟩ : ∃ rt, rt = (rc 1).rate := ⟨_, rfl⟩
  have HRT := Lib.hid hrt
  have c2 : w4.cell? ⟨g, 7, none⟩ = some (.int .i64 rt) := by rw [hrt]; exact m0 2 (by omega)
  have hrb := HRB.out
  rw [← hrt] at hrb
  have er : IntKind.i64.wrap (rt + 1) = rt + 1 := wrap_small _ (by omega) (by omega)
  obtain ⟨hRB, hBt⟩ : RecsR (w4.setCell ⟨g, 7, none⟩ (.int .i64 (rt + 1))) (some ⟨g, 0, none⟩) 3 (upto (bentF rc 1 { rc 1 with rate := rt + 1 }) 3) ∧ But g w4 (w4.setCell ⟨g, 7, none⟩ (.int .i64 (rt + 1))) := bent_rate (K := 1) hL4 (by omega) (rt + 1)
  have z7 : w4.frozen? ⟨g, 7, none⟩ = false := by
    obtain ⟨vs, ho, _⟩ := hL4
    exact ho.frozenAt 7
  have hsz4 : w.heap.size + 4 ≤ g := by
    have : ((((w.alloc (.cells #[.int .i64 1, .int .i64 1, .int .i64 1, .int .u64 1, .int .i64 1, .int .i64 3, .int .i64 6554, .int .i64 0, .int .i64 0, .int .i64 0, .int .i64 0] 24)).alloc (.cells #[.int .i64 65536] 3)).alloc (.cells #[.int .i64 131072] 3)).alloc (.cells #[.slice (some ⟨w.heap.size + 1, 0, none⟩) 1 1, .slice (some ⟨w.heap.size + 1 + 1, 0, none⟩) 1 1] 53)).heap.size = w.heap.size + 4 := by simp
    omega
  have hd5 : Duos (w4.setCell ⟨g, 7, none⟩ (.int .i64 (rt + 1))) (some ⟨w.heap.size + 1 + 1 + 1, 0, none⟩) 1 smallD := by
    have hdd := (hd.below (hb3.trans (hb4.mono hb3.size)))
    exact (hd.below (((hb3.trans (hb4.mono hb3.size)).setCell (p := ⟨g, 7, none⟩) hg1 (.int .i64 (rt + 1)))))
  have hb5 : Below w.heap.size w (w4.setCell ⟨g, 7, none⟩ (.int .i64 (rt + 1))) := hw4.setCell (p := ⟨g, 7, none⟩) (by simp; omega) _
  have hne1 : w.heap.size ≠ g := by omega
  have hne2 : g ≠ w.heap.size := by omega
  have HW2 := Lib.hid (HWH.out _ _ hd5 (some ⟨g, 0, none⟩) k (bentF rc 1 { rc 1 with rate := rt + 1 }) hRB)
  clear d0 d1 d2 d3 d4 d5 d6 d7 d8 d9 da
  obtain ⟨d0, d1, d2, d3, d4, d5, d6, d7, d8, d9, da⟩ := HB4.cfg
  have hlc := HB4.lt
  clear hv m0 hrt hq hL hL4 hRB hBt
  go_wp2_with fail
  refine HW2.out.mono ?_
  rintro e u ⟨q, hq, rfl, hbu⟩
  obtain rfl : q = 1 := (first_bent (by omega) hq).2 (by rw [HRT.out]; exact same_rate _)
  go_wp2
  go_ret
  exact ⟨by simp, hb5.trans (hbu.mono hb5.size)⟩
end Go.Proofs.YtaeeonnjkplohaaGreatDoor
