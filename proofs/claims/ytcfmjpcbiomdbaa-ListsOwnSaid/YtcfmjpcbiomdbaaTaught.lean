/- A small course is kept: coachkeep.small, coachkeep.taught: walks. -/
import Derived.Test.YtcfmjpcbiomdbaaJrnA
namespace Go.Proofs.Ytcfmjpcbiomdbaa
open Go.RowKit Pl

def smallC : Cfg := ⟨1, 1, 1, 1, 1, 3, 6554, 0, 0, 0, 0⟩
def smallD : Data := [([65536], [131072])]
theorem small_fine : crs smallC smallD = 0 := by decide +kernel
theorem small_N : smallC.N = 4 := by decide +kernel
theorem small_bat : batI smallC smallD 0 = [0] := by decide +kernel
set_option maxRecDepth 100000 in
theorem small_chain : chainC smallC smallD 1 ≠ chainC smallC smallD 2 := by decide +kernel
theorem small_duos (w : World) : Duos ((((w.alloc (.cells #[.int .i64 1, .int .i64 1, .int .i64 1, .int .u64 1, .int .i64 1, .int .i64 3, .int .i64 6554, .int .i64 0, .int .i64 0, .int .i64 0, .int .i64 0] 24)).alloc (.cells #[.int .i64 65536] 3)).alloc (.cells #[.int .i64 131072] 3)).alloc (.cells #[.slice (some ⟨w.heap.size + 1, 0, none⟩) 1 1, .slice (some ⟨w.heap.size + 1 + 1, 0, none⟩) 1 1] 69)) (some ⟨w.heap.size + 1 + 1 + 1, 0, none⟩) 1 smallD := by
  have L1 := ((Ints.made (w.alloc (.cells #[.int .i64 1, .int .i64 1, .int .i64 1, .int .u64 1, .int .i64 1, .int .i64 3, .int .i64 6554, .int .i64 0, .int .i64 0, .int .i64 0, .int .i64 0] 24)) [65536] 1 rfl #[.int .i64 65536] rfl (g := w.heap.size + 1) (by simp) 3).alloc (.cells #[.int .i64 131072] 3)).alloc (.cells #[.slice (some ⟨w.heap.size + 1, 0, none⟩) 1 1, .slice (some ⟨w.heap.size + 1 + 1, 0, none⟩) 1 1] 69)
  have L2 := (Ints.made ((w.alloc (.cells #[.int .i64 1, .int .i64 1, .int .i64 1, .int .u64 1, .int .i64 1, .int .i64 3, .int .i64 6554, .int .i64 0, .int .i64 0, .int .i64 0, .int .i64 0] 24)).alloc (.cells #[.int .i64 65536] 3)) [131072] 1 rfl #[.int .i64 131072] rfl (g := w.heap.size + 1 + 1) (by simp) 3).alloc (.cells #[.slice (some ⟨w.heap.size + 1, 0, none⟩) 1 1, .slice (some ⟨w.heap.size + 1 + 1, 0, none⟩) 1 1] 69)
  have B : Blk ((((w.alloc (.cells #[.int .i64 1, .int .i64 1, .int .i64 1, .int .u64 1, .int .i64 1, .int .i64 3, .int .i64 6554, .int .i64 0, .int .i64 0, .int .i64 0, .int .i64 0] 24)).alloc (.cells #[.int .i64 65536] 3)).alloc (.cells #[.int .i64 131072] 3)).alloc (.cells #[.slice (some ⟨w.heap.size + 1, 0, none⟩) 1 1, .slice (some ⟨w.heap.size + 1 + 1, 0, none⟩) 1 1] 69)) (w.heap.size + 1 + 1 + 1) 69 #[.slice (some ⟨w.heap.size + 1, 0, none⟩) 1 1, .slice (some ⟨w.heap.size + 1 + 1, 0, none⟩) 1 1] := Blk.made' _ _ _ (by simp)
  refine ⟨rfl, fun _ => ⟨w.heap.size + 1 + 1 + 1, 0, rfl, B.lt, fun j hj => ?_⟩⟩
  obtain rfl : j = 0 := by omega
  exact ⟨_, 1, 1, _, 1, 1, B.cell 0, B.cell 1, L1, L2, Nat.le_refl _, by decide, Nat.le_refl _, by decide⟩

set_option maxRecDepth 100000 in
set_option maxHeartbeats 2000000 in
theorem keep_small (w : World) : Calls Try.prog 62 #[] w fun e w' => ∃ D, e = .returned (.tuple #[.agg #[.int .i64 1, .int .i64 1, .int .i64 1, .int .u64 1, .int .i64 1, .int .i64 3, .int .i64 6554, .int .i64 0, .int .i64 0, .int .i64 0, .int .i64 0], .slice D 1 1]) ∧ Duos w' D 1 smallD ∧ Below w.heap.size w w' := by
  have hD := small_duos w
  have hB : Below w.heap.size w ((((w.alloc (.cells #[.int .i64 1, .int .i64 1, .int .i64 1, .int .u64 1, .int .i64 1, .int .i64 3, .int .i64 6554, .int .i64 0, .int .i64 0, .int .i64 0, .int .i64 0] 24)).alloc (.cells #[.int .i64 65536] 3)).alloc (.cells #[.int .i64 131072] 3)).alloc (.cells #[.slice (some ⟨w.heap.size + 1, 0, none⟩) 1 1, .slice (some ⟨w.heap.size + 1 + 1, 0, none⟩) 1 1] 69)) := (by repeat (first | exact Below.refl _ _ | assumption | refine bel_drewN ?_ _ | refine Below.drew ?_ | (refine Below.alloc ?_ (by simp <;> omega) _) | (refine Below.setCell ?_ (by simp <;> omega) _)))
  obtain ⟨d0, d1, d2, d3, d4, d5, d6, d7, d8, d9, da⟩ := ((((Blk.made w 24 #[.int .i64 1, .int .i64 1, .int .i64 1, .int .u64 1, .int .i64 1, .int .i64 3, .int .i64 6554, .int .i64 0, .int .i64 0, .int .i64 0, .int .i64 0]).alloc (.cells #[.int .i64 65536] 3)).alloc (.cells #[.int .i64 131072] 3)).alloc (.cells #[.slice (some ⟨w.heap.size + 1, 0, none⟩) 1 1, .slice (some ⟨w.heap.size + 1 + 1, 0, none⟩) 1 1] 69)).cfg
  go_enter Try.func62, Try.ntmps62
  go_wp2
  refine bodyPost_ret (v := .tuple #[.agg #[.int .i64 1, .int .i64 1, .int .i64 1, .int .u64 1, .int .i64 1, .int .i64 3, .int .i64 6554, .int .i64 0, .int .i64 0, .int .i64 0, .int .i64 0], .slice (some ⟨w.heap.size + 1 + 1 + 1, 0, none⟩) 1 1]) (by simp [results, Try.results62, go_sem, d0, d1, d2, d3, d4, d5, d6, d7, d8, d9, da]) rfl ?_
  exact ⟨_, rfl, hD, hB⟩

set_option maxRecDepth 100000 in
set_option maxHeartbeats 4000000 in
theorem keep_taught (w : World) : Calls Try.prog 28 #[] w fun e w' => e = .returned (.bool true) ∧ Below w.heap.size w w' := by
  have HRN := Lib.hid (fun D W (h : Duos W D 1 smallD) => trn_Run_ok smallC smallD small_fine (by decide) (by decide) D 1 1 W h 2 (by decide))
  have HMK := Lib.hid (fun D W (h : Duos W D 1 smallD) => jrn_Make_ok smallC smallD small_fine (by decide) (by decide) D 1 1 W h 2 (by decide))
  have HL := Lib.hid (show (states smallC smallD 0).1.length = 4 from (states_len1 smallC smallD 0).trans small_N)
  have HB := Lib.hid (show (recC smallC smallD 0).batch = [0] by show (batI smallC smallD 0).map _ = _; rw [small_bat]; rfl)
  have HS := Lib.hid (show (recC smallC smallD 1).step = 1 from rfl)
  have HC0 := Lib.hid (show (recC smallC smallD 0).chain = chainC smallC smallD 1 from rfl)
  have HC1 := Lib.hid (show (recC smallC smallD 1).chain = chainC smallC smallD 2 from rfl)
  have HCN := Lib.hid small_chain
  obtain ⟨st, hst⟩ : ∃ st, st = states smallC smallD := ⟨_, rfl⟩
  obtain ⟨rc, hrc⟩ : ∃ rc, rc = recC smallC smallD := ⟨_, rfl⟩
  obtain ⟨ch, hch⟩ : ∃ ch, ch = chainC smallC smallD := ⟨_, rfl⟩
  rw [← hst] at HRN HL
  rw [← hrc] at HMK HB HS HC0 HC1
  rw [← hch] at HC0 HC1 HCN
  clear hst hrc hch
  go_enter Try.func28, Try.ntmps28
  go_wp2_with fail
  refine (keep_small _).mono ?_
  rintro e w1 ⟨D, rfl, hd, hb1⟩
  have hd1 := hd.alloc (.cells #[.int .i64 1, .int .i64 1, .int .i64 1, .int .u64 1, .int .i64 1, .int .i64 3, .int .i64 6554, .int .i64 0, .int .i64 0, .int .i64 0, .int .i64 0] 24)
  have hb1' := hb1.alloc hb1.size (.cells #[.int .i64 1, .int .i64 1, .int .i64 1, .int .u64 1, .int .i64 1, .int .i64 3, .int .i64 6554, .int .i64 0, .int .i64 0, .int .i64 0, .int .i64 0] 24)
  have hBC := Blk.made w1 24 #[.int .i64 1, .int .i64 1, .int .i64 1, .int .u64 1, .int .i64 1, .int .i64 3, .int .i64 6554, .int .i64 0, .int .i64 0, .int .i64 0, .int .i64 0]
  go_wp2_with fail
  refine (HRN.out D _ hd1).mono ?_
  rintro e w2 ⟨g, k, rfl, hR, hb2⟩
  have hd2 := hd1.below hb2
  have hBC2 := hBC.below hb2 hBC.lt
  have hb12 : Below w.heap.size w w2 := hb1'.trans (hb2.mono hb1'.size)
  clear hd hd1 hb1 hb1' hBC
  obtain ⟨d0, d1, d2, d3, d4, d5, d6, d7, d8, d9, da⟩ := hBC2.cfg
  go_wp2_with fail
  refine (HMK.out D _ hd2).mono ?_
  rintro e w3 ⟨A, k', rfl, hM, hb3⟩
  have hR3 := hR.below (keeps_st none) hb3
  have hb13 := hb12.trans (hb3.mono hb12.size)
  obtain ⟨g2, k2, hv, _, _, _⟩ := hM.form (by omega)
  obtain ⟨rfl, rfl⟩ : A = some ⟨g2, 0, none⟩ ∧ k' = k2 := by injection hv with a _ c; exact ⟨a, c⟩
  obtain ⟨A1, c1, A2, c2, e0, _, I1, _, _, _, lg⟩ := StHeld.duos hR3 (j := 0) (by omega)
  obtain ⟨cs0, ⟨b0, rfl, B0⟩, m0, lg2, _⟩ := hM.at (j := 0) (by omega)
  obtain ⟨cs1, ⟨b1, rfl, _⟩, m1, _, _⟩ := hM.at (j := 1) (by omega)
  have r1 : w3.cell? ⟨g2, 5, none⟩ = some (.int .i64 1) := by rw [← HS.out]; exact m1 0 (by omega)
  have r2 : w3.cell? ⟨g2, 1, none⟩ = some b0 := m0 1 (by omega)
  have r3 : w3.cell? ⟨g2, 4, none⟩ = some (.int .u64 (ch 1)) := by rw [← HC0.out]; exact m0 4 (by omega)
  have r4 : w3.cell? ⟨g2, 9, none⟩ = some (.int .u64 (ch 2)) := by rw [← HC1.out]; exact m1 4 (by omega)
  obtain ⟨BA, bc, rfl, BI, _⟩ := B0
  rw [HB.out] at BI r2
  have e0' : w3.cell? ⟨g, 0, none⟩ = some (.slice A1 4 c1) := by rw [← HL.out]; exact e0
  have tn : (ch 1 != ch 2) = true := by rw [bne_iff_ne]; exact HCN.out
  obtain ⟨x, hx⟩ : ∃ x, x = ch 1 := ⟨_, rfl⟩
  obtain ⟨y, hy⟩ : ∃ y, y = ch 2 := ⟨_, rfl⟩
  rw [← hx] at r3 tn
  rw [← hy] at r4 tn
  have L1 := Ints.made w3 [0] 1 rfl #[.int .i64 0] rfl rfl 3
  have HEQ := Lib.hid (fun W (h1 : Ints .i64 W BA 1 [0]) (B : Option Addr) (d : Nat) (h2 : Ints .i64 W B 1 [0]) => equalI_told (A := BA) (B := B) (n := 1) (m := 1) (c := bc) (d := d) (xs := [0]) (ys := [0]) (r := true) (by decide) h1 h2 (by omega))
  clear m0 m1 e0 hR hR3 hM hv hd2 hBC2 d0 d1 d2 d3 d4 d5 d6 d7 d8 d9 da hx hy
  have L2 := Ints.made w3.drew [0] 1 rfl #[.int .i64 0] rfl (g := w3.heap.size) rfl 3
  go_wp2
  go_region_held3 (fun W => W.cell? ⟨g, 0, none⟩ = some (.slice A1 4 c1) ∧ W.cell? ⟨g2, 5, none⟩ = some (.int .i64 1) ∧ W.cell? ⟨g2, 1, none⟩ = some (.slice BA 1 bc) ∧ W.cell? ⟨g2, 4, none⟩ = some (.int .u64 x) ∧ W.cell? ⟨g2, 9, none⟩ = some (.int .u64 y)) (first | (with_reducible exact ⟨e0', r1, r2, r3, r4⟩) | go_keep) (first
    | (go_at_call 43; (refine (HEQ.out _ (by first | exact BI.drew.alloc _ | exact (BI.alloc _).drew) _ _ (by first | exact L2 | exact L1.drew)).mono ?_); rintro e u ⟨rfl, q, rfl⟩)
    | fail)
  all_goals
    go_wp2
    go_ret
    exact ⟨rfl, bel_drewN (hb13.alloc hb13.size _) _⟩
end Go.Proofs.Ytcfmjpcbiomdbaa
