/- A step that is not taken, and what is wrong; which states fit; which are the same: walks. -/
import Derived.Test.YtblkpibbcapdeaaOptS
namespace Go.Proofs.Ytblkpibbcapdeaa
open Go.RowKit Pl

set_option maxRecDepth 100000 in
set_option maxHeartbeats 1000000 in
theorem opt_Step_cfg (ci ch co se ba st ra de hw ke cl : Int) (A1 A2 A3 : Option Addr) (nw nm ng c1 c2 c3 : Nat) (rate : Int) (w : World)  (hE : cfgE ci ch co ba st ra de hw ke cl ≠ 0) :
    Calls Try.prog 43 #[.agg #[.int .i64 ci, .int .i64 ch, .int .i64 co, .int .u64 se, .int .i64 ba, .int .i64 st, .int .i64 ra, .int .i64 de, .int .i64 hw, .int .i64 ke, .int .i64 cl], .agg #[.slice A1 nw c1, .slice A2 nm c2], .slice A3 ng c3, .int .i64 rate] w (StateOwn w [] [] (cfgE ci ch co ba st ra de hw ke cl)) := by
  have HB0 := ((Blk.made w 24 #[.int .i64 ci, .int .i64 ch, .int .i64 co, .int .u64 se, .int .i64 ba, .int .i64 st, .int .i64 ra, .int .i64 de, .int .i64 hw, .int .i64 ke, .int .i64 cl]).alloc (.cells #[.slice A1 nw c1, .slice A2 nm c2] 28)).alloc (.cells #[.slice none 0 0, .slice none 0 0] 28)
  have HB1 := (Blk.made' (w.alloc (.cells #[.int .i64 ci, .int .i64 ch, .int .i64 co, .int .u64 se, .int .i64 ba, .int .i64 st, .int .i64 ra, .int .i64 de, .int .i64 hw, .int .i64 ke, .int .i64 cl] 24)) 28 #[.slice A1 nw c1, .slice A2 nm c2] (g := w.heap.size + 1) (by simp)).alloc (.cells #[.slice none 0 0, .slice none 0 0] 28)
  have HB2 := Blk.made' ((w.alloc (.cells #[.int .i64 ci, .int .i64 ch, .int .i64 co, .int .u64 se, .int .i64 ba, .int .i64 st, .int .i64 ra, .int .i64 de, .int .i64 hw, .int .i64 ke, .int .i64 cl] 24)).alloc (.cells #[.slice A1 nw c1, .slice A2 nm c2] 28)) 28 #[.slice none 0 0, .slice none 0 0] (g := w.heap.size + 1 + 1) (by simp)
  have t : (cfgE ci ch co ba st ra de hw ke cl != 0) = true := by rw [bne_iff_ne]; exact hE
  clear hE
  go_enter Try.func43, Try.ntmps43
  go_wp2_with fail
  refine (opt_Check ci ch co se ba st ra de hw ke cl _).mono ?_
  rintro e x1 ⟨rfl, hb1⟩
  replace HB0 := HB0.below hb1 (by simp <;> omega)
  replace HB1 := HB1.below hb1 (by simp <;> omega)
  replace HB2 := HB2.below hb1 (by simp <;> omega)
  have hbw : Below w.heap.size w x1 := Below.trans (B := w.heap.size) (by repeat (first | exact Below.refl _ _ | assumption | refine bel_drewN ?_ _ | refine Below.drew ?_ | (refine Below.alloc ?_ (by simp <;> omega) _) | (refine Below.setCell ?_ (by simp <;> omega) _))) (hb1.mono (by simp <;> omega))
  have r0 : x1.cell? ⟨w.heap.size + 1 + 1, 0, none⟩ = some (.slice none 0 0) := HB2.cell 0
  have r1 : x1.cell? ⟨w.heap.size + 1 + 1, 1, none⟩ = some (.slice none 0 0) := HB2.cell 1
  have r2 := HB2.frozen 0
  have r3 := HB2.frozen 1
  clear hb1
  go_wp2
  refine bodyPost_ret (v := .tuple #[.agg #[.slice none 0 0, .slice none 0 0], .int .i64 (cfgE ci ch co ba st ra de hw ke cl)]) (by simp [results, Try.results43, go_sem, r0, r1]) rfl ?_
  exact .none rfl (by first | exact (hbw.setCell (by simp <;> omega) _).setCell (by simp <;> omega) _ | exact ((bel_drewN hbw _).setCell (by simp <;> omega) _).setCell (by simp <;> omega) _ | exact bel_drewN ((hbw.setCell (by simp <;> omega) _).setCell (by simp <;> omega) _) _)

set_option maxRecDepth 100000 in
set_option maxHeartbeats 1000000 in
theorem opt_Step_nw (ci ch co se ba st ra de hw ke cl : Int) (A1 A2 A3 : Option Addr) (nw nm ng c1 c2 c3 : Nat) (rate : Int) (w : World)  (hE : cfgE ci ch co ba st ra de hw ke cl = 0) (h_nw : ¬ (nw : Int) = sizeP ci ch co) :
    Calls Try.prog 43 #[.agg #[.int .i64 ci, .int .i64 ch, .int .i64 co, .int .u64 se, .int .i64 ba, .int .i64 st, .int .i64 ra, .int .i64 de, .int .i64 hw, .int .i64 ke, .int .i64 cl], .agg #[.slice A1 nw c1, .slice A2 nm c2], .slice A3 ng c3, .int .i64 rate] w (StateOwn w [] [] (5)) := by
  have HB0 := ((Blk.made w 24 #[.int .i64 ci, .int .i64 ch, .int .i64 co, .int .u64 se, .int .i64 ba, .int .i64 st, .int .i64 ra, .int .i64 de, .int .i64 hw, .int .i64 ke, .int .i64 cl]).alloc (.cells #[.slice A1 nw c1, .slice A2 nm c2] 28)).alloc (.cells #[.slice none 0 0, .slice none 0 0] 28)
  have HB1 := (Blk.made' (w.alloc (.cells #[.int .i64 ci, .int .i64 ch, .int .i64 co, .int .u64 se, .int .i64 ba, .int .i64 st, .int .i64 ra, .int .i64 de, .int .i64 hw, .int .i64 ke, .int .i64 cl] 24)) 28 #[.slice A1 nw c1, .slice A2 nm c2] (g := w.heap.size + 1) (by simp)).alloc (.cells #[.slice none 0 0, .slice none 0 0] 28)
  have HB2 := Blk.made' ((w.alloc (.cells #[.int .i64 ci, .int .i64 ch, .int .i64 co, .int .u64 se, .int .i64 ba, .int .i64 st, .int .i64 ra, .int .i64 de, .int .i64 hw, .int .i64 ke, .int .i64 cl] 24)).alloc (.cells #[.slice A1 nw c1, .slice A2 nm c2] 28)) 28 #[.slice none 0 0, .slice none 0 0] (g := w.heap.size + 1 + 1) (by simp)
  obtain ⟨s1, s2, s3, _⟩ := cfgE_ok hE
  have HS := Lib.hid (fun W => pup_Size ci ch co W s1 s2 s3)
  have HE := Lib.hid hE
  have t_nw : ((nw : Int) != sizeP ci ch co) = true := by rw [bne_iff_ne]; exact h_nw
  clear hE h_nw
  go_enter Try.func43, Try.ntmps43
  go_wp2_with fail
  refine (opt_Check ci ch co se ba st ra de hw ke cl _).mono ?_
  rintro e x1 ⟨rfl, hb1⟩
  rw [HE.out]
  replace HB0 := HB0.below hb1 (by simp <;> omega)
  replace HB1 := HB1.below hb1 (by simp <;> omega)
  replace HB2 := HB2.below hb1 (by simp <;> omega)
  have hbw : Below w.heap.size w x1 := Below.trans (B := w.heap.size) (by repeat (first | exact Below.refl _ _ | assumption | refine bel_drewN ?_ _ | refine Below.drew ?_ | (refine Below.alloc ?_ (by simp <;> omega) _) | (refine Below.setCell ?_ (by simp <;> omega) _))) (hb1.mono (by simp <;> omega))
  have r0 : x1.cell? ⟨w.heap.size + 1 + 1, 0, none⟩ = some (.slice none 0 0) := HB2.cell 0
  have r1 : x1.cell? ⟨w.heap.size + 1 + 1, 1, none⟩ = some (.slice none 0 0) := HB2.cell 1
  have r2 := HB2.frozen 0
  have r3 := HB2.frozen 1
  clear hb1
  obtain ⟨d0, d1, d2, d3, d4, d5, d6, d7, d8, d9, da⟩ := HB0.cfg
  obtain ⟨⟨f0, f1⟩, _⟩ := HB1.two
  go_wp2_with (go_at_call 34; refine (HS.out _).mono ?_; rintro e w' ⟨rfl, rfl⟩)
  refine bodyPost_ret (v := .tuple #[.agg #[.slice none 0 0, .slice none 0 0], .int .i64 (5)]) (by simp [results, Try.results43, go_sem, r0, r1]) rfl ?_
  exact .none rfl (by first | exact (hbw.setCell (by simp <;> omega) _).setCell (by simp <;> omega) _ | exact ((bel_drewN hbw _).setCell (by simp <;> omega) _).setCell (by simp <;> omega) _ | exact bel_drewN ((hbw.setCell (by simp <;> omega) _).setCell (by simp <;> omega) _) _)

set_option maxRecDepth 100000 in
set_option maxHeartbeats 1000000 in
theorem opt_Step_nm (ci ch co se ba st ra de hw ke cl : Int) (A1 A2 A3 : Option Addr) (nw nm ng c1 c2 c3 : Nat) (rate : Int) (w : World)  (hE : cfgE ci ch co ba st ra de hw ke cl = 0) (h_nw : (nw : Int) = sizeP ci ch co) (h_nm : ¬ (nm : Int) = sizeP ci ch co) :
    Calls Try.prog 43 #[.agg #[.int .i64 ci, .int .i64 ch, .int .i64 co, .int .u64 se, .int .i64 ba, .int .i64 st, .int .i64 ra, .int .i64 de, .int .i64 hw, .int .i64 ke, .int .i64 cl], .agg #[.slice A1 nw c1, .slice A2 nm c2], .slice A3 ng c3, .int .i64 rate] w (StateOwn w [] [] (5)) := by
  have HB0 := ((Blk.made w 24 #[.int .i64 ci, .int .i64 ch, .int .i64 co, .int .u64 se, .int .i64 ba, .int .i64 st, .int .i64 ra, .int .i64 de, .int .i64 hw, .int .i64 ke, .int .i64 cl]).alloc (.cells #[.slice A1 nw c1, .slice A2 nm c2] 28)).alloc (.cells #[.slice none 0 0, .slice none 0 0] 28)
  have HB1 := (Blk.made' (w.alloc (.cells #[.int .i64 ci, .int .i64 ch, .int .i64 co, .int .u64 se, .int .i64 ba, .int .i64 st, .int .i64 ra, .int .i64 de, .int .i64 hw, .int .i64 ke, .int .i64 cl] 24)) 28 #[.slice A1 nw c1, .slice A2 nm c2] (g := w.heap.size + 1) (by simp)).alloc (.cells #[.slice none 0 0, .slice none 0 0] 28)
  have HB2 := Blk.made' ((w.alloc (.cells #[.int .i64 ci, .int .i64 ch, .int .i64 co, .int .u64 se, .int .i64 ba, .int .i64 st, .int .i64 ra, .int .i64 de, .int .i64 hw, .int .i64 ke, .int .i64 cl] 24)).alloc (.cells #[.slice A1 nw c1, .slice A2 nm c2] 28)) 28 #[.slice none 0 0, .slice none 0 0] (g := w.heap.size + 1 + 1) (by simp)
  obtain ⟨s1, s2, s3, _⟩ := cfgE_ok hE
  have HS := Lib.hid (fun W => pup_Size ci ch co W s1 s2 s3)
  have HE := Lib.hid hE
  have t_nw : ((nw : Int) != sizeP ci ch co) = false := by rw [bne_eq_false_iff_eq]; exact h_nw
  have t_nm : ((nm : Int) != sizeP ci ch co) = true := by rw [bne_iff_ne]; exact h_nm
  clear hE h_nw h_nm
  go_enter Try.func43, Try.ntmps43
  go_wp2_with fail
  refine (opt_Check ci ch co se ba st ra de hw ke cl _).mono ?_
  rintro e x1 ⟨rfl, hb1⟩
  rw [HE.out]
  replace HB0 := HB0.below hb1 (by simp <;> omega)
  replace HB1 := HB1.below hb1 (by simp <;> omega)
  replace HB2 := HB2.below hb1 (by simp <;> omega)
  have hbw : Below w.heap.size w x1 := Below.trans (B := w.heap.size) (by repeat (first | exact Below.refl _ _ | assumption | refine bel_drewN ?_ _ | refine Below.drew ?_ | (refine Below.alloc ?_ (by simp <;> omega) _) | (refine Below.setCell ?_ (by simp <;> omega) _))) (hb1.mono (by simp <;> omega))
  have r0 : x1.cell? ⟨w.heap.size + 1 + 1, 0, none⟩ = some (.slice none 0 0) := HB2.cell 0
  have r1 : x1.cell? ⟨w.heap.size + 1 + 1, 1, none⟩ = some (.slice none 0 0) := HB2.cell 1
  have r2 := HB2.frozen 0
  have r3 := HB2.frozen 1
  clear hb1
  obtain ⟨d0, d1, d2, d3, d4, d5, d6, d7, d8, d9, da⟩ := HB0.cfg
  obtain ⟨⟨f0, f1⟩, _⟩ := HB1.two
  go_wp2_with (go_at_call 34; refine (HS.out _).mono ?_; rintro e w' ⟨rfl, rfl⟩)
  refine bodyPost_ret (v := .tuple #[.agg #[.slice none 0 0, .slice none 0 0], .int .i64 (5)]) (by simp [results, Try.results43, go_sem, r0, r1]) rfl ?_
  exact .none rfl (by first | exact (hbw.setCell (by simp <;> omega) _).setCell (by simp <;> omega) _ | exact ((bel_drewN hbw _).setCell (by simp <;> omega) _).setCell (by simp <;> omega) _ | exact bel_drewN ((hbw.setCell (by simp <;> omega) _).setCell (by simp <;> omega) _) _)

set_option maxRecDepth 100000 in
set_option maxHeartbeats 1000000 in
theorem opt_Step_ng (ci ch co se ba st ra de hw ke cl : Int) (A1 A2 A3 : Option Addr) (nw nm ng c1 c2 c3 : Nat) (rate : Int) (w : World)  (hE : cfgE ci ch co ba st ra de hw ke cl = 0) (h_nw : (nw : Int) = sizeP ci ch co) (h_nm : (nm : Int) = sizeP ci ch co) (h_ng : ¬ (ng : Int) = sizeP ci ch co) :
    Calls Try.prog 43 #[.agg #[.int .i64 ci, .int .i64 ch, .int .i64 co, .int .u64 se, .int .i64 ba, .int .i64 st, .int .i64 ra, .int .i64 de, .int .i64 hw, .int .i64 ke, .int .i64 cl], .agg #[.slice A1 nw c1, .slice A2 nm c2], .slice A3 ng c3, .int .i64 rate] w (StateOwn w [] [] (5)) := by
  have HB0 := ((Blk.made w 24 #[.int .i64 ci, .int .i64 ch, .int .i64 co, .int .u64 se, .int .i64 ba, .int .i64 st, .int .i64 ra, .int .i64 de, .int .i64 hw, .int .i64 ke, .int .i64 cl]).alloc (.cells #[.slice A1 nw c1, .slice A2 nm c2] 28)).alloc (.cells #[.slice none 0 0, .slice none 0 0] 28)
  have HB1 := (Blk.made' (w.alloc (.cells #[.int .i64 ci, .int .i64 ch, .int .i64 co, .int .u64 se, .int .i64 ba, .int .i64 st, .int .i64 ra, .int .i64 de, .int .i64 hw, .int .i64 ke, .int .i64 cl] 24)) 28 #[.slice A1 nw c1, .slice A2 nm c2] (g := w.heap.size + 1) (by simp)).alloc (.cells #[.slice none 0 0, .slice none 0 0] 28)
  have HB2 := Blk.made' ((w.alloc (.cells #[.int .i64 ci, .int .i64 ch, .int .i64 co, .int .u64 se, .int .i64 ba, .int .i64 st, .int .i64 ra, .int .i64 de, .int .i64 hw, .int .i64 ke, .int .i64 cl] 24)).alloc (.cells #[.slice A1 nw c1, .slice A2 nm c2] 28)) 28 #[.slice none 0 0, .slice none 0 0] (g := w.heap.size + 1 + 1) (by simp)
  obtain ⟨s1, s2, s3, _⟩ := cfgE_ok hE
  have HS := Lib.hid (fun W => pup_Size ci ch co W s1 s2 s3)
  have HE := Lib.hid hE
  have t_nw : ((nw : Int) != sizeP ci ch co) = false := by rw [bne_eq_false_iff_eq]; exact h_nw
  have t_nm : ((nm : Int) != sizeP ci ch co) = false := by rw [bne_eq_false_iff_eq]; exact h_nm
  have t_ng : ((ng : Int) != sizeP ci ch co) = true := by rw [bne_iff_ne]; exact h_ng
  clear hE h_nw h_nm h_ng
  go_enter Try.func43, Try.ntmps43
  go_wp2_with fail
  refine (opt_Check ci ch co se ba st ra de hw ke cl _).mono ?_
  rintro e x1 ⟨rfl, hb1⟩
  rw [HE.out]
  replace HB0 := HB0.below hb1 (by simp <;> omega)
  replace HB1 := HB1.below hb1 (by simp <;> omega)
  replace HB2 := HB2.below hb1 (by simp <;> omega)
  have hbw : Below w.heap.size w x1 := Below.trans (B := w.heap.size) (by repeat (first | exact Below.refl _ _ | assumption | refine bel_drewN ?_ _ | refine Below.drew ?_ | (refine Below.alloc ?_ (by simp <;> omega) _) | (refine Below.setCell ?_ (by simp <;> omega) _))) (hb1.mono (by simp <;> omega))
  have r0 : x1.cell? ⟨w.heap.size + 1 + 1, 0, none⟩ = some (.slice none 0 0) := HB2.cell 0
  have r1 : x1.cell? ⟨w.heap.size + 1 + 1, 1, none⟩ = some (.slice none 0 0) := HB2.cell 1
  have r2 := HB2.frozen 0
  have r3 := HB2.frozen 1
  clear hb1
  obtain ⟨d0, d1, d2, d3, d4, d5, d6, d7, d8, d9, da⟩ := HB0.cfg
  obtain ⟨⟨f0, f1⟩, _⟩ := HB1.two
  go_wp2_with (go_at_call 34; refine (HS.out _).mono ?_; rintro e w' ⟨rfl, rfl⟩)
  refine bodyPost_ret (v := .tuple #[.agg #[.slice none 0 0, .slice none 0 0], .int .i64 (5)]) (by simp [results, Try.results43, go_sem, r0, r1]) rfl ?_
  exact .none rfl (by first | exact (hbw.setCell (by simp <;> omega) _).setCell (by simp <;> omega) _ | exact ((bel_drewN hbw _).setCell (by simp <;> omega) _).setCell (by simp <;> omega) _ | exact bel_drewN ((hbw.setCell (by simp <;> omega) _).setCell (by simp <;> omega) _) _)

set_option maxRecDepth 100000 in
set_option maxHeartbeats 1000000 in
theorem opt_Step_ow (ci ch co se ba st ra de hw ke cl : Int) (A1 A2 A3 : Option Addr) (nw nm ng c1 c2 c3 : Nat) (wt : List Int) (rate : Int) (w : World) (i1 : Ints .i64 w A1 nw wt) (z1 : nw ≤ 9223372036854775807)  (hE : cfgE ci ch co ba st ra de hw ke cl = 0) (h_nw : (nw : Int) = sizeP ci ch co) (h_nm : (nm : Int) = sizeP ci ch co) (h_ng : (ng : Int) = sizeP ci ch co) (h_ow : okL wt = false) :
    Calls Try.prog 43 #[.agg #[.int .i64 ci, .int .i64 ch, .int .i64 co, .int .u64 se, .int .i64 ba, .int .i64 st, .int .i64 ra, .int .i64 de, .int .i64 hw, .int .i64 ke, .int .i64 cl], .agg #[.slice A1 nw c1, .slice A2 nm c2], .slice A3 ng c3, .int .i64 rate] w (StateOwn w [] [] (5)) := by
  have HB0 := ((Blk.made w 24 #[.int .i64 ci, .int .i64 ch, .int .i64 co, .int .u64 se, .int .i64 ba, .int .i64 st, .int .i64 ra, .int .i64 de, .int .i64 hw, .int .i64 ke, .int .i64 cl]).alloc (.cells #[.slice A1 nw c1, .slice A2 nm c2] 28)).alloc (.cells #[.slice none 0 0, .slice none 0 0] 28)
  have HB1 := (Blk.made' (w.alloc (.cells #[.int .i64 ci, .int .i64 ch, .int .i64 co, .int .u64 se, .int .i64 ba, .int .i64 st, .int .i64 ra, .int .i64 de, .int .i64 hw, .int .i64 ke, .int .i64 cl] 24)) 28 #[.slice A1 nw c1, .slice A2 nm c2] (g := w.heap.size + 1) (by simp)).alloc (.cells #[.slice none 0 0, .slice none 0 0] 28)
  have HB2 := Blk.made' ((w.alloc (.cells #[.int .i64 ci, .int .i64 ch, .int .i64 co, .int .u64 se, .int .i64 ba, .int .i64 st, .int .i64 ra, .int .i64 de, .int .i64 hw, .int .i64 ke, .int .i64 cl] 24)).alloc (.cells #[.slice A1 nw c1, .slice A2 nm c2] 28)) 28 #[.slice none 0 0, .slice none 0 0] (g := w.heap.size + 1 + 1) (by simp)
  obtain ⟨s1, s2, s3, _⟩ := cfgE_ok hE
  have HS := Lib.hid (fun W => pup_Size ci ch co W s1 s2 s3)
  have HE := Lib.hid hE
  have t_nw : ((nw : Int) != sizeP ci ch co) = false := by rw [bne_eq_false_iff_eq]; exact h_nw
  have t_nm : ((nm : Int) != sizeP ci ch co) = false := by rw [bne_eq_false_iff_eq]; exact h_nm
  have t_ng : ((ng : Int) != sizeP ci ch co) = false := by rw [bne_eq_false_iff_eq]; exact h_ng
  have HC1 := Lib.hid (fun W (q : Ints .i64 W A1 nw wt) => opt_clamped A1 nw c1 wt W q z1)
  rw [h_ow] at HC1
  clear hE h_nw h_nm h_ng h_ow
  go_enter Try.func43, Try.ntmps43
  go_wp2_with fail
  refine (opt_Check ci ch co se ba st ra de hw ke cl _).mono ?_
  rintro e x1 ⟨rfl, hb1⟩
  rw [HE.out]
  replace HB0 := HB0.below hb1 (by simp <;> omega)
  replace HB1 := HB1.below hb1 (by simp <;> omega)
  replace HB2 := HB2.below hb1 (by simp <;> omega)
  have hbw : Below w.heap.size w x1 := Below.trans (B := w.heap.size) (by repeat (first | exact Below.refl _ _ | assumption | refine bel_drewN ?_ _ | refine Below.drew ?_ | (refine Below.alloc ?_ (by simp <;> omega) _) | (refine Below.setCell ?_ (by simp <;> omega) _))) (hb1.mono (by simp <;> omega))
  have r0 : x1.cell? ⟨w.heap.size + 1 + 1, 0, none⟩ = some (.slice none 0 0) := HB2.cell 0
  have r1 : x1.cell? ⟨w.heap.size + 1 + 1, 1, none⟩ = some (.slice none 0 0) := HB2.cell 1
  have r2 := HB2.frozen 0
  have r3 := HB2.frozen 1
  clear hb1
  obtain ⟨d0, d1, d2, d3, d4, d5, d6, d7, d8, d9, da⟩ := HB0.cfg
  obtain ⟨⟨f0, f1⟩, _⟩ := HB1.two
  have j1 := i1.below hbw
  go_wp2_with (go_at_call 34; refine (HS.out _).mono ?_; rintro e w' ⟨rfl, rfl⟩)
  refine (HC1.out _ j1).mono ?_
  rintro e w' ⟨rfl, q1, rfl⟩
  go_wp2
  refine bodyPost_ret (v := .tuple #[.agg #[.slice none 0 0, .slice none 0 0], .int .i64 (5)]) (by simp [results, Try.results43, go_sem, r0, r1]) rfl ?_
  exact .none rfl (by first | exact (hbw.setCell (by simp <;> omega) _).setCell (by simp <;> omega) _ | exact ((bel_drewN hbw _).setCell (by simp <;> omega) _).setCell (by simp <;> omega) _ | exact bel_drewN ((hbw.setCell (by simp <;> omega) _).setCell (by simp <;> omega) _) _)

set_option maxRecDepth 100000 in
set_option maxHeartbeats 1000000 in
theorem opt_Step_om (ci ch co se ba st ra de hw ke cl : Int) (A1 A2 A3 : Option Addr) (nw nm ng c1 c2 c3 : Nat) (wt mv : List Int) (rate : Int) (w : World) (i1 : Ints .i64 w A1 nw wt) (z1 : nw ≤ 9223372036854775807) (i2 : Ints .i64 w A2 nm mv) (z2 : nm ≤ 9223372036854775807)  (hE : cfgE ci ch co ba st ra de hw ke cl = 0) (h_nw : (nw : Int) = sizeP ci ch co) (h_nm : (nm : Int) = sizeP ci ch co) (h_ng : (ng : Int) = sizeP ci ch co) (h_ow : okL wt = true) (h_om : okL mv = false) :
    Calls Try.prog 43 #[.agg #[.int .i64 ci, .int .i64 ch, .int .i64 co, .int .u64 se, .int .i64 ba, .int .i64 st, .int .i64 ra, .int .i64 de, .int .i64 hw, .int .i64 ke, .int .i64 cl], .agg #[.slice A1 nw c1, .slice A2 nm c2], .slice A3 ng c3, .int .i64 rate] w (StateOwn w [] [] (5)) := by
  have HB0 := ((Blk.made w 24 #[.int .i64 ci, .int .i64 ch, .int .i64 co, .int .u64 se, .int .i64 ba, .int .i64 st, .int .i64 ra, .int .i64 de, .int .i64 hw, .int .i64 ke, .int .i64 cl]).alloc (.cells #[.slice A1 nw c1, .slice A2 nm c2] 28)).alloc (.cells #[.slice none 0 0, .slice none 0 0] 28)
  have HB1 := (Blk.made' (w.alloc (.cells #[.int .i64 ci, .int .i64 ch, .int .i64 co, .int .u64 se, .int .i64 ba, .int .i64 st, .int .i64 ra, .int .i64 de, .int .i64 hw, .int .i64 ke, .int .i64 cl] 24)) 28 #[.slice A1 nw c1, .slice A2 nm c2] (g := w.heap.size + 1) (by simp)).alloc (.cells #[.slice none 0 0, .slice none 0 0] 28)
  have HB2 := Blk.made' ((w.alloc (.cells #[.int .i64 ci, .int .i64 ch, .int .i64 co, .int .u64 se, .int .i64 ba, .int .i64 st, .int .i64 ra, .int .i64 de, .int .i64 hw, .int .i64 ke, .int .i64 cl] 24)).alloc (.cells #[.slice A1 nw c1, .slice A2 nm c2] 28)) 28 #[.slice none 0 0, .slice none 0 0] (g := w.heap.size + 1 + 1) (by simp)
  obtain ⟨s1, s2, s3, _⟩ := cfgE_ok hE
  have HS := Lib.hid (fun W => pup_Size ci ch co W s1 s2 s3)
  have HE := Lib.hid hE
  have t_nw : ((nw : Int) != sizeP ci ch co) = false := by rw [bne_eq_false_iff_eq]; exact h_nw
  have t_nm : ((nm : Int) != sizeP ci ch co) = false := by rw [bne_eq_false_iff_eq]; exact h_nm
  have t_ng : ((ng : Int) != sizeP ci ch co) = false := by rw [bne_eq_false_iff_eq]; exact h_ng
  have HC1 := Lib.hid (fun W (q : Ints .i64 W A1 nw wt) => opt_clamped A1 nw c1 wt W q z1)
  rw [h_ow] at HC1
  have HC2 := Lib.hid (fun W (q : Ints .i64 W A2 nm mv) => opt_clamped A2 nm c2 mv W q z2)
  rw [h_om] at HC2
  clear hE h_nw h_nm h_ng h_ow h_om
  go_enter Try.func43, Try.ntmps43
  go_wp2_with fail
  refine (opt_Check ci ch co se ba st ra de hw ke cl _).mono ?_
  rintro e x1 ⟨rfl, hb1⟩
  rw [HE.out]
  replace HB0 := HB0.below hb1 (by simp <;> omega)
  replace HB1 := HB1.below hb1 (by simp <;> omega)
  replace HB2 := HB2.below hb1 (by simp <;> omega)
  have hbw : Below w.heap.size w x1 := Below.trans (B := w.heap.size) (by repeat (first | exact Below.refl _ _ | assumption | refine bel_drewN ?_ _ | refine Below.drew ?_ | (refine Below.alloc ?_ (by simp <;> omega) _) | (refine Below.setCell ?_ (by simp <;> omega) _))) (hb1.mono (by simp <;> omega))
  have r0 : x1.cell? ⟨w.heap.size + 1 + 1, 0, none⟩ = some (.slice none 0 0) := HB2.cell 0
  have r1 : x1.cell? ⟨w.heap.size + 1 + 1, 1, none⟩ = some (.slice none 0 0) := HB2.cell 1
  have r2 := HB2.frozen 0
  have r3 := HB2.frozen 1
  clear hb1
  obtain ⟨d0, d1, d2, d3, d4, d5, d6, d7, d8, d9, da⟩ := HB0.cfg
  obtain ⟨⟨f0, f1⟩, _⟩ := HB1.two
  have j1 := i1.below hbw
  have j2 := i2.below hbw
  go_wp2_with (go_at_call 34; refine (HS.out _).mono ?_; rintro e w' ⟨rfl, rfl⟩)
  refine (HC1.out _ j1).mono ?_
  rintro e w' ⟨rfl, q1, rfl⟩
  go_wp2_with fail
  refine (HC2.out _ (j2.drewN _)).mono ?_
  rintro e w' ⟨rfl, q2, rfl⟩
  go_wp2
  refine bodyPost_ret (v := .tuple #[.agg #[.slice none 0 0, .slice none 0 0], .int .i64 (5)]) (by simp [results, Try.results43, go_sem, r0, r1]) rfl ?_
  exact .none rfl (by first | exact (hbw.setCell (by simp <;> omega) _).setCell (by simp <;> omega) _ | exact ((bel_drewN hbw _).setCell (by simp <;> omega) _).setCell (by simp <;> omega) _ | exact bel_drewN ((hbw.setCell (by simp <;> omega) _).setCell (by simp <;> omega) _) _)

set_option maxRecDepth 100000 in
set_option maxHeartbeats 1000000 in
theorem opt_Step_rate (ci ch co se ba st ra de hw ke cl : Int) (A1 A2 A3 : Option Addr) (nw nm ng c1 c2 c3 : Nat) (wt mv : List Int) (rate : Int) (w : World) (i1 : Ints .i64 w A1 nw wt) (z1 : nw ≤ 9223372036854775807) (i2 : Ints .i64 w A2 nm mv) (z2 : nm ≤ 9223372036854775807)  (hE : cfgE ci ch co ba st ra de hw ke cl = 0) (h_nw : (nw : Int) = sizeP ci ch co) (h_nm : (nm : Int) = sizeP ci ch co) (h_ng : (ng : Int) = sizeP ci ch co) (h_ow : okL wt = true) (h_om : okL mv = true) (h_rate : inB rate 0 2147483647 = false) :
    Calls Try.prog 43 #[.agg #[.int .i64 ci, .int .i64 ch, .int .i64 co, .int .u64 se, .int .i64 ba, .int .i64 st, .int .i64 ra, .int .i64 de, .int .i64 hw, .int .i64 ke, .int .i64 cl], .agg #[.slice A1 nw c1, .slice A2 nm c2], .slice A3 ng c3, .int .i64 rate] w (StateOwn w [] [] (1)) := by
  have HB0 := ((Blk.made w 24 #[.int .i64 ci, .int .i64 ch, .int .i64 co, .int .u64 se, .int .i64 ba, .int .i64 st, .int .i64 ra, .int .i64 de, .int .i64 hw, .int .i64 ke, .int .i64 cl]).alloc (.cells #[.slice A1 nw c1, .slice A2 nm c2] 28)).alloc (.cells #[.slice none 0 0, .slice none 0 0] 28)
  have HB1 := (Blk.made' (w.alloc (.cells #[.int .i64 ci, .int .i64 ch, .int .i64 co, .int .u64 se, .int .i64 ba, .int .i64 st, .int .i64 ra, .int .i64 de, .int .i64 hw, .int .i64 ke, .int .i64 cl] 24)) 28 #[.slice A1 nw c1, .slice A2 nm c2] (g := w.heap.size + 1) (by simp)).alloc (.cells #[.slice none 0 0, .slice none 0 0] 28)
  have HB2 := Blk.made' ((w.alloc (.cells #[.int .i64 ci, .int .i64 ch, .int .i64 co, .int .u64 se, .int .i64 ba, .int .i64 st, .int .i64 ra, .int .i64 de, .int .i64 hw, .int .i64 ke, .int .i64 cl] 24)).alloc (.cells #[.slice A1 nw c1, .slice A2 nm c2] 28)) 28 #[.slice none 0 0, .slice none 0 0] (g := w.heap.size + 1 + 1) (by simp)
  obtain ⟨s1, s2, s3, _⟩ := cfgE_ok hE
  have HS := Lib.hid (fun W => pup_Size ci ch co W s1 s2 s3)
  have HE := Lib.hid hE
  have t_nw : ((nw : Int) != sizeP ci ch co) = false := by rw [bne_eq_false_iff_eq]; exact h_nw
  have t_nm : ((nm : Int) != sizeP ci ch co) = false := by rw [bne_eq_false_iff_eq]; exact h_nm
  have t_ng : ((ng : Int) != sizeP ci ch co) = false := by rw [bne_eq_false_iff_eq]; exact h_ng
  have HC1 := Lib.hid (fun W (q : Ints .i64 W A1 nw wt) => opt_clamped A1 nw c1 wt W q z1)
  rw [h_ow] at HC1
  have HC2 := Lib.hid (fun W (q : Ints .i64 W A2 nm mv) => opt_clamped A2 nm c2 mv W q z2)
  rw [h_om] at HC2
  clear hE h_nw h_nm h_ng h_ow h_om
  go_enter Try.func43, Try.ntmps43
  go_wp2_with fail
  refine (opt_Check ci ch co se ba st ra de hw ke cl _).mono ?_
  rintro e x1 ⟨rfl, hb1⟩
  rw [HE.out]
  replace HB0 := HB0.below hb1 (by simp <;> omega)
  replace HB1 := HB1.below hb1 (by simp <;> omega)
  replace HB2 := HB2.below hb1 (by simp <;> omega)
  have hbw : Below w.heap.size w x1 := Below.trans (B := w.heap.size) (by repeat (first | exact Below.refl _ _ | assumption | refine bel_drewN ?_ _ | refine Below.drew ?_ | (refine Below.alloc ?_ (by simp <;> omega) _) | (refine Below.setCell ?_ (by simp <;> omega) _))) (hb1.mono (by simp <;> omega))
  have r0 : x1.cell? ⟨w.heap.size + 1 + 1, 0, none⟩ = some (.slice none 0 0) := HB2.cell 0
  have r1 : x1.cell? ⟨w.heap.size + 1 + 1, 1, none⟩ = some (.slice none 0 0) := HB2.cell 1
  have r2 := HB2.frozen 0
  have r3 := HB2.frozen 1
  clear hb1
  obtain ⟨d0, d1, d2, d3, d4, d5, d6, d7, d8, d9, da⟩ := HB0.cfg
  obtain ⟨⟨f0, f1⟩, _⟩ := HB1.two
  have j1 := i1.below hbw
  have j2 := i2.below hbw
  go_wp2_with (go_at_call 34; refine (HS.out _).mono ?_; rintro e w' ⟨rfl, rfl⟩)
  refine (HC1.out _ j1).mono ?_
  rintro e w' ⟨rfl, q1, rfl⟩
  go_wp2_with fail
  refine (HC2.out _ (j2.drewN _)).mono ?_
  rintro e w' ⟨rfl, q2, rfl⟩
  go_wp2_with (go_at_call 52; refine (opt_within _ _ _ _).mono ?_; rintro e w' ⟨rfl, rfl⟩)
  refine bodyPost_ret (v := .tuple #[.agg #[.slice none 0 0, .slice none 0 0], .int .i64 (1)]) (by simp [results, Try.results43, go_sem, r0, r1]) rfl ?_
  exact .none rfl (by first | exact (hbw.setCell (by simp <;> omega) _).setCell (by simp <;> omega) _ | exact ((bel_drewN hbw _).setCell (by simp <;> omega) _).setCell (by simp <;> omega) _ | exact bel_drewN ((hbw.setCell (by simp <;> omega) _).setCell (by simp <;> omega) _) _)


/-- What Step answers: the lists; none where something is wrong. -/
def stepW (x N nw nm ng hw ke rate : Int) (wt mv g : List Int) : List Int := if stepE x N nw nm ng wt mv rate = 0 then weightsL hw ke rate wt mv g else []
def stepM (x N nw nm ng hw ke rate : Int) (wt mv g : List Int) : List Int := if stepE x N nw nm ng wt mv rate = 0 then movesL hw ke mv g else []
theorem sizeP_bd {ci ch co : Int} (h1 : 1 ≤ ci ∧ ci ≤ 4) (h2 : 1 ≤ ch ∧ ch ≤ 4) (h3 : 1 ≤ co ∧ co ≤ 4) : 1 ≤ sizeP ci ch co ∧ sizeP ci ch co ≤ 40 := by
  have a := side_mul h2 h1
  have b := side_mul h3 h2
  unfold sizeP
  omega
theorem opt_Step_any (ci ch co se ba st ra de hw ke cl : Int) (A1 A2 A3 : Option Addr) (nw nm ng c1 c2 c3 : Nat) (wt mv g : List Int) (rate : Int) (w : World) (i1 : Ints .i64 w A1 nw wt) (i2 : Ints .i64 w A2 nm mv) (i3 : Ints .i64 w A3 ng g)
    (z1 : nw ≤ 9223372036854775807) (z2 : nm ≤ 9223372036854775807) :
    Calls Try.prog 43 #[.agg #[.int .i64 ci, .int .i64 ch, .int .i64 co, .int .u64 se, .int .i64 ba, .int .i64 st, .int .i64 ra, .int .i64 de, .int .i64 hw, .int .i64 ke, .int .i64 cl], .agg #[.slice A1 nw c1, .slice A2 nm c2], .slice A3 ng c3, .int .i64 rate] w
      (StateOwn w (stepW (cfgE ci ch co ba st ra de hw ke cl) (sizeP ci ch co) nw nm ng hw ke rate wt mv g) (stepM (cfgE ci ch co ba st ra de hw ke cl) (sizeP ci ch co) nw nm ng hw ke rate wt mv g) (stepE (cfgE ci ch co ba st ra de hw ke cl) (sizeP ci ch co) nw nm ng wt mv rate)) := by
  have no : ∀ x : Int, x ≠ 0 → stepE (cfgE ci ch co ba st ra de hw ke cl) (sizeP ci ch co) nw nm ng wt mv rate = x → stepW (cfgE ci ch co ba st ra de hw ke cl) (sizeP ci ch co) nw nm ng hw ke rate wt mv g = [] ∧ stepM (cfgE ci ch co ba st ra de hw ke cl) (sizeP ci ch co) nw nm ng hw ke rate wt mv g = [] := fun x hx he =>
    ⟨if_neg (by rw [he]; exact hx), if_neg (by rw [he]; exact hx)⟩
  by_cases hE : cfgE ci ch co ba st ra de hw ke cl = 0
  · have hform : ∀ (h : (nw : Int) ≠ sizeP ci ch co ∨ (nm : Int) ≠ sizeP ci ch co ∨ (ng : Int) ≠ sizeP ci ch co ∨ okL wt = false ∨ okL mv = false), stepE (cfgE ci ch co ba st ra de hw ke cl) (sizeP ci ch co) nw nm ng wt mv rate = 5 := fun h => by
      unfold stepE; rw [if_neg (by simp [hE]), if_pos h]
    by_cases h1 : (nw : Int) = sizeP ci ch co
    · by_cases h2 : (nm : Int) = sizeP ci ch co
      · by_cases h3 : (ng : Int) = sizeP ci ch co
        · cases h4 : okL wt
          · have e := hform (.inr (.inr (.inr (.inl h4))))
            rw [e, (no 5 (by decide) e).1, (no 5 (by decide) e).2]
            exact opt_Step_ow ci ch co se ba st ra de hw ke cl A1 A2 A3 nw nm ng c1 c2 c3 wt rate w i1 z1 hE h1 h2 h3 h4
          · cases h5 : okL mv
            · have e := hform (.inr (.inr (.inr (.inr h5))))
              rw [e, (no 5 (by decide) e).1, (no 5 (by decide) e).2]
              exact opt_Step_om ci ch co se ba st ra de hw ke cl A1 A2 A3 nw nm ng c1 c2 c3 wt mv rate w i1 z1 i2 z2 hE h1 h2 h3 h4 h5
            · have hs : ¬ ((nw : Int) ≠ sizeP ci ch co ∨ (nm : Int) ≠ sizeP ci ch co ∨ (ng : Int) ≠ sizeP ci ch co ∨ okL wt = false ∨ okL mv = false) := by simp [h1, h2, h3, h4, h5]
              cases h6 : inB rate 0 2147483647
              · have e : stepE (cfgE ci ch co ba st ra de hw ke cl) (sizeP ci ch co) nw nm ng wt mv rate = 1 := by unfold stepE; rw [if_neg (by simp [hE]), if_neg hs, h6]; rfl
                rw [e, (no 1 (by decide) e).1, (no 1 (by decide) e).2]
                exact opt_Step_rate ci ch co se ba st ra de hw ke cl A1 A2 A3 nw nm ng c1 c2 c3 wt mv rate w i1 z1 i2 z2 hE h1 h2 h3 h4 h5 h6
              · have e : stepE (cfgE ci ch co ba st ra de hw ke cl) (sizeP ci ch co) nw nm ng wt mv rate = 0 := by unfold stepE; rw [if_neg (by simp [hE]), if_neg hs, h6]; rfl
                rw [show stepW (cfgE ci ch co ba st ra de hw ke cl) (sizeP ci ch co) nw nm ng hw ke rate wt mv g = weightsL hw ke rate wt mv g from if_pos e, show stepM (cfgE ci ch co ba st ra de hw ke cl) (sizeP ci ch co) nw nm ng hw ke rate wt mv g = movesL hw ke mv g from if_pos e, e]
                obtain ⟨s1, s2, s3, _⟩ := cfgE_ok hE
                have hb := sizeP_bd s1 s2 s3
                obtain rfl : nm = nw := by omega
                obtain rfl : ng = nm := by omega
                exact opt_Step_ok ci ch co se ba st ra de hw ke cl A1 A2 A3 ng c1 c2 c3 wt mv g rate w i1 i2 i3 hE h1 h4 h5 (inB_iff.1 h6) (by omega) (by omega)
        · have e := hform (.inr (.inr (.inl h3)))
          rw [e, (no 5 (by decide) e).1, (no 5 (by decide) e).2]
          exact opt_Step_ng ci ch co se ba st ra de hw ke cl A1 A2 A3 nw nm ng c1 c2 c3 rate w  hE h1 h2 h3
      · have e := hform (.inr (.inl h2))
        rw [e, (no 5 (by decide) e).1, (no 5 (by decide) e).2]
        exact opt_Step_nm ci ch co se ba st ra de hw ke cl A1 A2 A3 nw nm ng c1 c2 c3 rate w  hE h1 h2
    · have e := hform (.inl h1)
      rw [e, (no 5 (by decide) e).1, (no 5 (by decide) e).2]
      exact opt_Step_nw ci ch co se ba st ra de hw ke cl A1 A2 A3 nw nm ng c1 c2 c3 rate w  hE h1
  · have e : stepE (cfgE ci ch co ba st ra de hw ke cl) (sizeP ci ch co) nw nm ng wt mv rate = cfgE ci ch co ba st ra de hw ke cl := if_pos hE
    rw [e, (no _ hE e).1, (no _ hE e).2]
    exact opt_Step_cfg ci ch co se ba st ra de hw ke cl A1 A2 A3 nw nm ng c1 c2 c3 rate w  hE
end Go.Proofs.Ytblkpibbcapdeaa

/- Which states fit a config, and which are the same: the document's own text: walks. -/
namespace Go.Proofs.Ytblkpibbcapdeaa
open Go.RowKit Pl

def fitsB (N nw nm : Int) (wt mv : List Int) : Bool := (nw == N) && (nm == N) && okL wt && okL mv
set_option maxRecDepth 100000 in
set_option maxHeartbeats 2000000 in
theorem ref_SameState_yes (A1 A2 B1 B2 : Option Addr) (n1 n2 c1 c2 d1 d2 : Nat) (xs ys : List Int) (w : World) (i1 : Ints .i64 w A1 n1 xs) (i2 : Ints .i64 w A2 n2 ys) (j1 : Ints .i64 w B1 n1 xs) (j2 : Ints .i64 w B2 n2 ys) (h1 : n1 ≤ 9223372036854775806) (h2 : n2 ≤ 9223372036854775806) :
    Calls Try.prog 13 #[.agg #[.slice A1 n1 c1, .slice A2 n2 c2], .agg #[.slice B1 n1 d1, .slice B2 n2 d2]] w fun e w' => e = .returned (.bool true) ∧ Below w.heap.size w w' := by
  go_enter Try.func13, Try.ntmps13
  go_wp2_with fail
  refine (equalI_any A1 B1 n1 c1 d1 n1 xs xs _ (by exact (i1.alloc _).alloc _) (by exact (j1.alloc _).alloc _) h1).mono ?_
  rintro e x3 ⟨rfl, k3, rfl⟩
  rw [decide_eq_true rfl]
  go_wp2_with fail
  refine (equalI_any A2 B2 n2 c2 d2 n2 ys ys _ (by exact ((i2.alloc _).alloc _).drewN _) (by exact ((j2.alloc _).alloc _).drewN _) h2).mono ?_
  rintro e x4 ⟨rfl, k4, rfl⟩
  rw [decide_eq_true rfl]
  go_wp2
  go_ret
  exact ⟨rfl, (by repeat (first | exact Below.refl _ _ | assumption | refine bel_drewN ?_ _ | refine Below.drew ?_ | (refine Below.alloc ?_ (by simp <;> omega) _) | (refine Below.setCell ?_ (by simp <;> omega) _)))⟩
end Go.Proofs.Ytblkpibbcapdeaa
