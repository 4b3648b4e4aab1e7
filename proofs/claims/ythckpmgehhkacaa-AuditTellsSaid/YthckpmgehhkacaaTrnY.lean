/- Package train: Next, right or wrong: a walk. -/
import Derived.Test.YthckpmgehhkacaaTrnX
namespace Go.Proofs.Ythckpmgehhkacaa
open Go.RowKit Pl

theorem size_fine (c : Cfg) (h : c.Ok) (W : World) : Calls Try.prog 88 #[.int .i64 c.ci, .int .i64 c.ch, .int .i64 c.co] W fun e w' => e = .returned (.int .i64 (c.N : Int)) ∧ W = w' := by
  rw [h.n]; exact pup_Size c.ci c.ch c.co W h.ci h.ch h.co
/-- What a step that is not taken hands back. -/
def NextNo (w : World) (x : Int) (e : Ending) (w' : World) : Prop := e = .returned (.tuple #[.agg #[.slice none 0 0, .slice none 0 0], .slice none 0 0, .int .i64 0, .int .i64 x]) ∧ Below w.heap.size w w'
theorem bel_no {w u : World} {m : Nat} (h : Below w.heap.size w u) (hm : w.heap.size ≤ m) (x y : Value) : Below w.heap.size w ((u.setCell ⟨m, 0, none⟩ x).setCell ⟨m, 1, none⟩ y) :=
  (h.setCell (p := ⟨m, 0, none⟩) hm x).setCell (p := ⟨m, 1, none⟩) hm y

set_option maxRecDepth 100000 in
set_option maxHeartbeats 2000000 in
theorem trn_Next_crs (c : Cfg) (ds : Data) (D : Option Addr) (n dc : Nat) (w : World) (hd : Duos w D n ds) (hn : n ≤ 9223372036854775806) (s : List Int × List Int) (A1 A2 : Option Addr) (n1 n2 k1 k2 : Nat) (i1 : Ints .i64 w A1 n1 s.1) (i2 : Ints .i64 w A2 n2 s.2) (z1 : n1 ≤ 9223372036854775807) (z2 : n2 ≤ 9223372036854775807) (step : Int) (hC : crs c ds ≠ 0) :
    Calls Try.prog 37 #[.agg #[.int .i64 c.ci, .int .i64 c.ch, .int .i64 c.co, .int .u64 c.seed, .int .i64 c.batch, .int .i64 c.steps, .int .i64 c.rate, .int .i64 c.decay, .int .i64 c.how, .int .i64 c.keep, .int .i64 c.clip], .slice D n dc, .agg #[.slice A1 n1 k1, .slice A2 n2 k2], .int .i64 step] w (NextNo w (crs c ds)) := by
  have HB0 := ((Blk.made w 54 #[.int .i64 c.ci, .int .i64 c.ch, .int .i64 c.co, .int .u64 c.seed, .int .i64 c.batch, .int .i64 c.steps, .int .i64 c.rate, .int .i64 c.decay, .int .i64 c.how, .int .i64 c.keep, .int .i64 c.clip]).alloc (.cells #[.slice A1 n1 k1, .slice A2 n2 k2] 35)).alloc (.cells #[.slice none 0 0, .slice none 0 0] 35)
  have HB1 := (Blk.made' (w.alloc (.cells #[.int .i64 c.ci, .int .i64 c.ch, .int .i64 c.co, .int .u64 c.seed, .int .i64 c.batch, .int .i64 c.steps, .int .i64 c.rate, .int .i64 c.decay, .int .i64 c.how, .int .i64 c.keep, .int .i64 c.clip] 54)) 35 #[.slice A1 n1 k1, .slice A2 n2 k2] (g := w.heap.size + 1) (by simp)).alloc (.cells #[.slice none 0 0, .slice none 0 0] 35)
  have HB2 := Blk.made' ((w.alloc (.cells #[.int .i64 c.ci, .int .i64 c.ch, .int .i64 c.co, .int .u64 c.seed, .int .i64 c.batch, .int .i64 c.steps, .int .i64 c.rate, .int .i64 c.decay, .int .i64 c.how, .int .i64 c.keep, .int .i64 c.clip] 54)).alloc (.cells #[.slice A1 n1 k1, .slice A2 n2 k2] 35)) 35 #[.slice none 0 0, .slice none 0 0] (g := w.heap.size + 1 + 1) (by simp)
  have HCK := Lib.hid (fun W (h : Below w.heap.size w W) => trn_Check c D n dc ds W (hd.below h) hn)
  have zz := And.intro z1 z2
  clear zz
  have b0 : Below w.heap.size w (((w.alloc (.cells #[.int .i64 c.ci, .int .i64 c.ch, .int .i64 c.co, .int .u64 c.seed, .int .i64 c.batch, .int .i64 c.steps, .int .i64 c.rate, .int .i64 c.decay, .int .i64 c.how, .int .i64 c.keep, .int .i64 c.clip] 54)).alloc (.cells #[.slice A1 n1 k1, .slice A2 n2 k2] 35)).alloc (.cells #[.slice none 0 0, .slice none 0 0] 35)) := (by repeat (first | exact Below.refl _ _ | assumption | refine bel_drewN ?_ _ | refine Below.drew ?_ | (refine Below.alloc ?_ (by simp <;> omega) _) | (refine Below.setCell ?_ (by simp <;> omega) _)))
  have t : (crs c ds != 0) = true := by rw [bne_iff_ne]; exact hC
  clear hC
  go_enter Try.func37, Try.ntmps37
  go_wp2_with fail
  refine (HCK.out _ b0).mono ?_
  rintro e x1 ⟨rfl, hb1⟩
  clear HCK
  replace HB0 := HB0.below hb1 (by simp <;> omega)
  replace HB1 := HB1.below hb1 (by simp <;> omega)
  replace HB2 := HB2.below hb1 (by simp <;> omega)
  have hbw : Below w.heap.size w x1 := b0.trans (hb1.mono b0.size)
  have hl2 := HB2.lt
  have j1 := i1.below hbw
  have j2 := i2.below hbw
  clear hb1 b0
  have r0 : x1.cell? ⟨w.heap.size + 1 + 1, 0, none⟩ = some (.slice none 0 0) := HB2.cell 0
  have r1 : x1.cell? ⟨w.heap.size + 1 + 1, 1, none⟩ = some (.slice none 0 0) := HB2.cell 1
  have r2 := HB2.frozen 0
  have r3 := HB2.frozen 1
  go_wp2
  refine bodyPost_ret (v := .tuple #[.agg #[.slice none 0 0, .slice none 0 0], .slice none 0 0, .int .i64 0, .int .i64 (crs c ds)]) (by simp [results, Try.results37, go_sem, r0, r1]) rfl ?_
  exact ⟨rfl, by first | exact bel_no hbw (by omega) _ _ | exact bel_no (bel_drewN hbw _) (by omega) _ _ | exact bel_drewN (bel_no hbw (by omega) _ _) _⟩

set_option maxRecDepth 100000 in
set_option maxHeartbeats 2000000 in
theorem trn_Next_n1 (c : Cfg) (ds : Data) (D : Option Addr) (n dc : Nat) (w : World) (hd : Duos w D n ds) (hn : n ≤ 9223372036854775806) (s : List Int × List Int) (A1 A2 : Option Addr) (n1 n2 k1 k2 : Nat) (i1 : Ints .i64 w A1 n1 s.1) (i2 : Ints .i64 w A2 n2 s.2) (z1 : n1 ≤ 9223372036854775807) (z2 : n2 ≤ 9223372036854775807) (step : Int) (hC : crs c ds = 0) (e1 : n1 ≠ c.N) :
    Calls Try.prog 37 #[.agg #[.int .i64 c.ci, .int .i64 c.ch, .int .i64 c.co, .int .u64 c.seed, .int .i64 c.batch, .int .i64 c.steps, .int .i64 c.rate, .int .i64 c.decay, .int .i64 c.how, .int .i64 c.keep, .int .i64 c.clip], .slice D n dc, .agg #[.slice A1 n1 k1, .slice A2 n2 k2], .int .i64 step] w (NextNo w 5) := by
  have HB0 := ((Blk.made w 54 #[.int .i64 c.ci, .int .i64 c.ch, .int .i64 c.co, .int .u64 c.seed, .int .i64 c.batch, .int .i64 c.steps, .int .i64 c.rate, .int .i64 c.decay, .int .i64 c.how, .int .i64 c.keep, .int .i64 c.clip]).alloc (.cells #[.slice A1 n1 k1, .slice A2 n2 k2] 35)).alloc (.cells #[.slice none 0 0, .slice none 0 0] 35)
  have HB1 := (Blk.made' (w.alloc (.cells #[.int .i64 c.ci, .int .i64 c.ch, .int .i64 c.co, .int .u64 c.seed, .int .i64 c.batch, .int .i64 c.steps, .int .i64 c.rate, .int .i64 c.decay, .int .i64 c.how, .int .i64 c.keep, .int .i64 c.clip] 54)) 35 #[.slice A1 n1 k1, .slice A2 n2 k2] (g := w.heap.size + 1) (by simp)).alloc (.cells #[.slice none 0 0, .slice none 0 0] 35)
  have HB2 := Blk.made' ((w.alloc (.cells #[.int .i64 c.ci, .int .i64 c.ch, .int .i64 c.co, .int .u64 c.seed, .int .i64 c.batch, .int .i64 c.steps, .int .i64 c.rate, .int .i64 c.decay, .int .i64 c.how, .int .i64 c.keep, .int .i64 c.clip] 54)).alloc (.cells #[.slice A1 n1 k1, .slice A2 n2 k2] 35)) 35 #[.slice none 0 0, .slice none 0 0] (g := w.heap.size + 1 + 1) (by simp)
  have HCK := Lib.hid (fun W (h : Below w.heap.size w W) => trn_Check c D n dc ds W (hd.below h) hn)
  have zz := And.intro z1 z2
  clear zz
  have b0 : Below w.heap.size w (((w.alloc (.cells #[.int .i64 c.ci, .int .i64 c.ch, .int .i64 c.co, .int .u64 c.seed, .int .i64 c.batch, .int .i64 c.steps, .int .i64 c.rate, .int .i64 c.decay, .int .i64 c.how, .int .i64 c.keep, .int .i64 c.clip] 54)).alloc (.cells #[.slice A1 n1 k1, .slice A2 n2 k2] 35)).alloc (.cells #[.slice none 0 0, .slice none 0 0] 35)) := (by repeat (first | exact Below.refl _ _ | assumption | refine bel_drewN ?_ _ | refine Below.drew ?_ | (refine Below.alloc ?_ (by simp <;> omega) _) | (refine Below.setCell ?_ (by simp <;> omega) _)))
  have C0 := Lib.hid hC
  have HS := Lib.hid (size_fine c (fine hC).ok)
  have t1 : ((n1 : Int) != (c.N : Int)) = true := by rw [bne_iff_ne]; omega
  clear hC e1
  go_enter Try.func37, Try.ntmps37
  go_wp2_with fail
  refine (HCK.out _ b0).mono ?_
  rintro e x1 ⟨rfl, hb1⟩
  rw [C0.out]
  replace HB0 := HB0.below hb1 (by simp <;> omega)
  replace HB1 := HB1.below hb1 (by simp <;> omega)
  replace HB2 := HB2.below hb1 (by simp <;> omega)
  have hbw : Below w.heap.size w x1 := b0.trans (hb1.mono b0.size)
  have hl2 := HB2.lt
  have j1 := i1.below hbw
  have j2 := i2.below hbw
  clear hb1 b0
  have r0 : x1.cell? ⟨w.heap.size + 1 + 1, 0, none⟩ = some (.slice none 0 0) := HB2.cell 0
  have r1 : x1.cell? ⟨w.heap.size + 1 + 1, 1, none⟩ = some (.slice none 0 0) := HB2.cell 1
  have r2 := HB2.frozen 0
  have r3 := HB2.frozen 1
  obtain ⟨d0, d1, d2, d3, d4, d5, d6, d7, d8, d9, da⟩ := HB0.cfg
  obtain ⟨⟨f0, f1⟩, _⟩ := HB1.two
  go_wp2_with (go_at_call 88; refine (HS.out _).mono ?_; rintro e w' ⟨rfl, rfl⟩)
  refine bodyPost_ret (v := .tuple #[.agg #[.slice none 0 0, .slice none 0 0], .slice none 0 0, .int .i64 0, .int .i64 5]) (by simp [results, Try.results37, go_sem, r0, r1]) rfl ?_
  exact ⟨rfl, by first | exact bel_no hbw (by omega) _ _ | exact bel_no (bel_drewN hbw _) (by omega) _ _ | exact bel_drewN (bel_no hbw (by omega) _ _) _⟩

set_option maxRecDepth 100000 in
set_option maxHeartbeats 2000000 in
theorem trn_Next_n2 (c : Cfg) (ds : Data) (D : Option Addr) (n dc : Nat) (w : World) (hd : Duos w D n ds) (hn : n ≤ 9223372036854775806) (s : List Int × List Int) (A1 A2 : Option Addr) (n1 n2 k1 k2 : Nat) (i1 : Ints .i64 w A1 n1 s.1) (i2 : Ints .i64 w A2 n2 s.2) (z1 : n1 ≤ 9223372036854775807) (z2 : n2 ≤ 9223372036854775807) (step : Int) (hC : crs c ds = 0) (e1 : n1 = c.N) (e2 : n2 ≠ c.N) :
    Calls Try.prog 37 #[.agg #[.int .i64 c.ci, .int .i64 c.ch, .int .i64 c.co, .int .u64 c.seed, .int .i64 c.batch, .int .i64 c.steps, .int .i64 c.rate, .int .i64 c.decay, .int .i64 c.how, .int .i64 c.keep, .int .i64 c.clip], .slice D n dc, .agg #[.slice A1 n1 k1, .slice A2 n2 k2], .int .i64 step] w (NextNo w 5) := by
  have HB0 := ((Blk.made w 54 #[.int .i64 c.ci, .int .i64 c.ch, .int .i64 c.co, .int .u64 c.seed, .int .i64 c.batch, .int .i64 c.steps, .int .i64 c.rate, .int .i64 c.decay, .int .i64 c.how, .int .i64 c.keep, .int .i64 c.clip]).alloc (.cells #[.slice A1 n1 k1, .slice A2 n2 k2] 35)).alloc (.cells #[.slice none 0 0, .slice none 0 0] 35)
  have HB1 := (Blk.made' (w.alloc (.cells #[.int .i64 c.ci, .int .i64 c.ch, .int .i64 c.co, .int .u64 c.seed, .int .i64 c.batch, .int .i64 c.steps, .int .i64 c.rate, .int .i64 c.decay, .int .i64 c.how, .int .i64 c.keep, .int .i64 c.clip] 54)) 35 #[.slice A1 n1 k1, .slice A2 n2 k2] (g := w.heap.size + 1) (by simp)).alloc (.cells #[.slice none 0 0, .slice none 0 0] 35)
  have HB2 := Blk.made' ((w.alloc (.cells #[.int .i64 c.ci, .int .i64 c.ch, .int .i64 c.co, .int .u64 c.seed, .int .i64 c.batch, .int .i64 c.steps, .int .i64 c.rate, .int .i64 c.decay, .int .i64 c.how, .int .i64 c.keep, .int .i64 c.clip] 54)).alloc (.cells #[.slice A1 n1 k1, .slice A2 n2 k2] 35)) 35 #[.slice none 0 0, .slice none 0 0] (g := w.heap.size + 1 + 1) (by simp)
  have HCK := Lib.hid (fun W (h : Below w.heap.size w W) => trn_Check c D n dc ds W (hd.below h) hn)
  have zz := And.intro z1 z2
  clear zz
  have b0 : Below w.heap.size w (((w.alloc (.cells #[.int .i64 c.ci, .int .i64 c.ch, .int .i64 c.co, .int .u64 c.seed, .int .i64 c.batch, .int .i64 c.steps, .int .i64 c.rate, .int .i64 c.decay, .int .i64 c.how, .int .i64 c.keep, .int .i64 c.clip] 54)).alloc (.cells #[.slice A1 n1 k1, .slice A2 n2 k2] 35)).alloc (.cells #[.slice none 0 0, .slice none 0 0] 35)) := (by repeat (first | exact Below.refl _ _ | assumption | refine bel_drewN ?_ _ | refine Below.drew ?_ | (refine Below.alloc ?_ (by simp <;> omega) _) | (refine Below.setCell ?_ (by simp <;> omega) _)))
  have C0 := Lib.hid hC
  have HS := Lib.hid (size_fine c (fine hC).ok)
  have t1 : ((n1 : Int) != (c.N : Int)) = false := by rw [bne_eq_false_iff_eq]; omega
  have t2 : ((n2 : Int) != (c.N : Int)) = true := by rw [bne_iff_ne]; omega
  clear hC e1 e2
  go_enter Try.func37, Try.ntmps37
  go_wp2_with fail
  refine (HCK.out _ b0).mono ?_
  rintro e x1 ⟨rfl, hb1⟩
  rw [C0.out]
  replace HB0 := HB0.below hb1 (by simp <;> omega)
  replace HB1 := HB1.below hb1 (by simp <;> omega)
  replace HB2 := HB2.below hb1 (by simp <;> omega)
  have hbw : Below w.heap.size w x1 := b0.trans (hb1.mono b0.size)
  have hl2 := HB2.lt
  have j1 := i1.below hbw
  have j2 := i2.below hbw
  clear hb1 b0
  have r0 : x1.cell? ⟨w.heap.size + 1 + 1, 0, none⟩ = some (.slice none 0 0) := HB2.cell 0
  have r1 : x1.cell? ⟨w.heap.size + 1 + 1, 1, none⟩ = some (.slice none 0 0) := HB2.cell 1
  have r2 := HB2.frozen 0
  have r3 := HB2.frozen 1
  obtain ⟨d0, d1, d2, d3, d4, d5, d6, d7, d8, d9, da⟩ := HB0.cfg
  obtain ⟨⟨f0, f1⟩, _⟩ := HB1.two
  go_wp2_with (go_at_call 88; refine (HS.out _).mono ?_; rintro e w' ⟨rfl, rfl⟩)
  refine bodyPost_ret (v := .tuple #[.agg #[.slice none 0 0, .slice none 0 0], .slice none 0 0, .int .i64 0, .int .i64 5]) (by simp [results, Try.results37, go_sem, r0, r1]) rfl ?_
  exact ⟨rfl, by first | exact bel_no hbw (by omega) _ _ | exact bel_no (bel_drewN hbw _) (by omega) _ _ | exact bel_drewN (bel_no hbw (by omega) _ _) _⟩

set_option maxRecDepth 100000 in
set_option maxHeartbeats 2000000 in
theorem trn_Next_o1 (c : Cfg) (ds : Data) (D : Option Addr) (n dc : Nat) (w : World) (hd : Duos w D n ds) (hn : n ≤ 9223372036854775806) (s : List Int × List Int) (A1 A2 : Option Addr) (n1 n2 k1 k2 : Nat) (i1 : Ints .i64 w A1 n1 s.1) (i2 : Ints .i64 w A2 n2 s.2) (z1 : n1 ≤ 9223372036854775807) (z2 : n2 ≤ 9223372036854775807) (step : Int) (hC : crs c ds = 0) (e1 : n1 = c.N) (e2 : n2 = c.N) (o1 : okL s.1 = false) :
    Calls Try.prog 37 #[.agg #[.int .i64 c.ci, .int .i64 c.ch, .int .i64 c.co, .int .u64 c.seed, .int .i64 c.batch, .int .i64 c.steps, .int .i64 c.rate, .int .i64 c.decay, .int .i64 c.how, .int .i64 c.keep, .int .i64 c.clip], .slice D n dc, .agg #[.slice A1 n1 k1, .slice A2 n2 k2], .int .i64 step] w (NextNo w 5) := by
  have HB0 := ((Blk.made w 54 #[.int .i64 c.ci, .int .i64 c.ch, .int .i64 c.co, .int .u64 c.seed, .int .i64 c.batch, .int .i64 c.steps, .int .i64 c.rate, .int .i64 c.decay, .int .i64 c.how, .int .i64 c.keep, .int .i64 c.clip]).alloc (.cells #[.slice A1 n1 k1, .slice A2 n2 k2] 35)).alloc (.cells #[.slice none 0 0, .slice none 0 0] 35)
  have HB1 := (Blk.made' (w.alloc (.cells #[.int .i64 c.ci, .int .i64 c.ch, .int .i64 c.co, .int .u64 c.seed, .int .i64 c.batch, .int .i64 c.steps, .int .i64 c.rate, .int .i64 c.decay, .int .i64 c.how, .int .i64 c.keep, .int .i64 c.clip] 54)) 35 #[.slice A1 n1 k1, .slice A2 n2 k2] (g := w.heap.size + 1) (by simp)).alloc (.cells #[.slice none 0 0, .slice none 0 0] 35)
  have HB2 := Blk.made' ((w.alloc (.cells #[.int .i64 c.ci, .int .i64 c.ch, .int .i64 c.co, .int .u64 c.seed, .int .i64 c.batch, .int .i64 c.steps, .int .i64 c.rate, .int .i64 c.decay, .int .i64 c.how, .int .i64 c.keep, .int .i64 c.clip] 54)).alloc (.cells #[.slice A1 n1 k1, .slice A2 n2 k2] 35)) 35 #[.slice none 0 0, .slice none 0 0] (g := w.heap.size + 1 + 1) (by simp)
  have HCK := Lib.hid (fun W (h : Below w.heap.size w W) => trn_Check c D n dc ds W (hd.below h) hn)
  have zz := And.intro z1 z2
  clear zz
  have b0 : Below w.heap.size w (((w.alloc (.cells #[.int .i64 c.ci, .int .i64 c.ch, .int .i64 c.co, .int .u64 c.seed, .int .i64 c.batch, .int .i64 c.steps, .int .i64 c.rate, .int .i64 c.decay, .int .i64 c.how, .int .i64 c.keep, .int .i64 c.clip] 54)).alloc (.cells #[.slice A1 n1 k1, .slice A2 n2 k2] 35)).alloc (.cells #[.slice none 0 0, .slice none 0 0] 35)) := (by repeat (first | exact Below.refl _ _ | assumption | refine bel_drewN ?_ _ | refine Below.drew ?_ | (refine Below.alloc ?_ (by simp <;> omega) _) | (refine Below.setCell ?_ (by simp <;> omega) _)))
  have C0 := Lib.hid hC
  have HS := Lib.hid (size_fine c (fine hC).ok)
  have t1 : ((n1 : Int) != (c.N : Int)) = false := by rw [bne_eq_false_iff_eq]; omega
  have t2 : ((n2 : Int) != (c.N : Int)) = false := by rw [bne_eq_false_iff_eq]; omega
  have H1 := Lib.hid (fun W (q : Ints .i64 W A1 n1 s.1) => trn_clamped_told (c := k1) (b := false) o1 q z1)
  clear hC e1 e2 o1
  go_enter Try.func37, Try.ntmps37
  go_wp2_with fail
  refine (HCK.out _ b0).mono ?_
  rintro e x1 ⟨rfl, hb1⟩
  rw [C0.out]
  replace HB0 := HB0.below hb1 (by simp <;> omega)
  replace HB1 := HB1.below hb1 (by simp <;> omega)
  replace HB2 := HB2.below hb1 (by simp <;> omega)
  have hbw : Below w.heap.size w x1 := b0.trans (hb1.mono b0.size)
  have hl2 := HB2.lt
  have j1 := i1.below hbw
  have j2 := i2.below hbw
  clear hb1 b0
  have r0 : x1.cell? ⟨w.heap.size + 1 + 1, 0, none⟩ = some (.slice none 0 0) := HB2.cell 0
  have r1 : x1.cell? ⟨w.heap.size + 1 + 1, 1, none⟩ = some (.slice none 0 0) := HB2.cell 1
  have r2 := HB2.frozen 0
  have r3 := HB2.frozen 1
  obtain ⟨d0, d1, d2, d3, d4, d5, d6, d7, d8, d9, da⟩ := HB0.cfg
  obtain ⟨⟨f0, f1⟩, _⟩ := HB1.two
  go_wp2_with (go_at_call 88; refine (HS.out _).mono ?_; rintro e w' ⟨rfl, rfl⟩)
  refine (H1.out _ j1).mono ?_
  rintro e w' ⟨rfl, q1, rfl⟩
  go_wp2
  refine bodyPost_ret (v := .tuple #[.agg #[.slice none 0 0, .slice none 0 0], .slice none 0 0, .int .i64 0, .int .i64 5]) (by simp [results, Try.results37, go_sem, r0, r1]) rfl ?_
  exact ⟨rfl, by first | exact bel_no hbw (by omega) _ _ | exact bel_no (bel_drewN hbw _) (by omega) _ _ | exact bel_drewN (bel_no hbw (by omega) _ _) _⟩

set_option maxRecDepth 100000 in
set_option maxHeartbeats 2000000 in
theorem trn_Next_o2 (c : Cfg) (ds : Data) (D : Option Addr) (n dc : Nat) (w : World) (hd : Duos w D n ds) (hn : n ≤ 9223372036854775806) (s : List Int × List Int) (A1 A2 : Option Addr) (n1 n2 k1 k2 : Nat) (i1 : Ints .i64 w A1 n1 s.1) (i2 : Ints .i64 w A2 n2 s.2) (z1 : n1 ≤ 9223372036854775807) (z2 : n2 ≤ 9223372036854775807) (step : Int) (hC : crs c ds = 0) (e1 : n1 = c.N) (e2 : n2 = c.N) (o1 : okL s.1 = true) (o2 : okL s.2 = false) :
    Calls Try.prog 37 #[.agg #[.int .i64 c.ci, .int .i64 c.ch, .int .i64 c.co, .int .u64 c.seed, .int .i64 c.batch, .int .i64 c.steps, .int .i64 c.rate, .int .i64 c.decay, .int .i64 c.how, .int .i64 c.keep, .int .i64 c.clip], .slice D n dc, .agg #[.slice A1 n1 k1, .slice A2 n2 k2], .int .i64 step] w (NextNo w 5) := by
  have HB0 := ((Blk.made w 54 #[.int .i64 c.ci, .int .i64 c.ch, .int .i64 c.co, .int .u64 c.seed, .int .i64 c.batch, .int .i64 c.steps, .int .i64 c.rate, .int .i64 c.decay, .int .i64 c.how, .int .i64 c.keep, .int .i64 c.clip]).alloc (.cells #[.slice A1 n1 k1, .slice A2 n2 k2] 35)).alloc (.cells #[.slice none 0 0, .slice none 0 0] 35)
  have HB1 := (Blk.made' (w.alloc (.cells #[.int .i64 c.ci, .int .i64 c.ch, .int .i64 c.co, .int .u64 c.seed, .int .i64 c.batch, .int .i64 c.steps, .int .i64 c.rate, .int .i64 c.decay, .int .i64 c.how, .int .i64 c.keep, .int .i64 c.clip] 54)) 35 #[.slice A1 n1 k1, .slice A2 n2 k2] (g := w.heap.size + 1) (by simp)).alloc (.cells #[.slice none 0 0, .slice none 0 0] 35)
  have HB2 := Blk.made' ((w.alloc (.cells #[.int .i64 c.ci, .int .i64 c.ch, .int .i64 c.co, .int .u64 c.seed, .int .i64 c.batch, .int .i64 c.steps, .int .i64 c.rate, .int .i64 c.decay, .int .i64 c.how, .int .i64 c.keep, .int .i64 c.clip] 54)).alloc (.cells #[.slice A1 n1 k1, .slice A2 n2 k2] 35)) 35 #[.slice none 0 0, .slice none 0 0] (g := w.heap.size + 1 + 1) (by simp)
  have HCK := Lib.hid (fun W (h : Below w.heap.size w W) => trn_Check c D n dc ds W (hd.below h) hn)
  have zz := And.intro z1 z2
  clear zz
  have b0 : Below w.heap.size w (((w.alloc (.cells #[.int .i64 c.ci, .int .i64 c.ch, .int .i64 c.co, .int .u64 c.seed, .int .i64 c.batch, .int .i64 c.steps, .int .i64 c.rate, .int .i64 c.decay, .int .i64 c.how, .int .i64 c.keep, .int .i64 c.clip] 54)).alloc (.cells #[.slice A1 n1 k1, .slice A2 n2 k2] 35)).alloc (.cells #[.slice none 0 0, .slice none 0 0] 35)) := (by repeat (first | exact Below.refl _ _ | assumption | refine bel_drewN ?_ _ | refine Below.drew ?_ | (refine Below.alloc ?_ (by simp <;> omega) _) | (refine Below.setCell ?_ (by simp <;> omega) _)))
  have C0 := Lib.hid hC
  have HS := Lib.hid (size_fine c (fine hC).ok)
  have t1 : ((n1 : Int) != (c.N : Int)) = false := by rw [bne_eq_false_iff_eq]; omega
  have t2 : ((n2 : Int) != (c.N : Int)) = false := by rw [bne_eq_false_iff_eq]; omega
  have H1 := Lib.hid (fun W (q : Ints .i64 W A1 n1 s.1) => trn_clamped_told (c := k1) (b := true) o1 q z1)
  have H2 := Lib.hid (fun W (q : Ints .i64 W A2 n2 s.2) => trn_clamped_told (c := k2) (b := false) o2 q z2)
  clear hC e1 e2 o1 o2
  go_enter Try.func37, Try.ntmps37
  go_wp2_with fail
  refine (HCK.out _ b0).mono ?_
  rintro e x1 ⟨rfl, hb1⟩
  rw [C0.out]
  replace HB0 := HB0.below hb1 (by simp <;> omega)
  replace HB1 := HB1.below hb1 (by simp <;> omega)
  replace HB2 := HB2.below hb1 (by simp <;> omega)
  have hbw : Below w.heap.size w x1 := b0.trans (hb1.mono b0.size)
  have hl2 := HB2.lt
  have j1 := i1.below hbw
  have j2 := i2.below hbw
  clear hb1 b0
  have r0 : x1.cell? ⟨w.heap.size + 1 + 1, 0, none⟩ = some (.slice none 0 0) := HB2.cell 0
  have r1 : x1.cell? ⟨w.heap.size + 1 + 1, 1, none⟩ = some (.slice none 0 0) := HB2.cell 1
  have r2 := HB2.frozen 0
  have r3 := HB2.frozen 1
  obtain ⟨d0, d1, d2, d3, d4, d5, d6, d7, d8, d9, da⟩ := HB0.cfg
  obtain ⟨⟨f0, f1⟩, _⟩ := HB1.two
  go_wp2_with (go_at_call 88; refine (HS.out _).mono ?_; rintro e w' ⟨rfl, rfl⟩)
  refine (H1.out _ j1).mono ?_
  rintro e w' ⟨rfl, q1, rfl⟩
  go_wp2_with fail
  refine (H2.out _ (j2.drewN _)).mono ?_
  rintro e w' ⟨rfl, q2, rfl⟩
  go_wp2
  refine bodyPost_ret (v := .tuple #[.agg #[.slice none 0 0, .slice none 0 0], .slice none 0 0, .int .i64 0, .int .i64 5]) (by simp [results, Try.results37, go_sem, r0, r1]) rfl ?_
  exact ⟨rfl, by first | exact bel_no hbw (by omega) _ _ | exact bel_no (bel_drewN hbw _) (by omega) _ _ | exact bel_drewN (bel_no hbw (by omega) _ _) _⟩

set_option maxRecDepth 100000 in
set_option maxHeartbeats 2000000 in
theorem trn_Next_neg (c : Cfg) (ds : Data) (D : Option Addr) (n dc : Nat) (w : World) (hd : Duos w D n ds) (hn : n ≤ 9223372036854775806) (s : List Int × List Int) (A1 A2 : Option Addr) (n1 n2 k1 k2 : Nat) (i1 : Ints .i64 w A1 n1 s.1) (i2 : Ints .i64 w A2 n2 s.2) (z1 : n1 ≤ 9223372036854775807) (z2 : n2 ≤ 9223372036854775807) (step : Int) (hC : crs c ds = 0) (e1 : n1 = c.N) (e2 : n2 = c.N) (o1 : okL s.1 = true) (o2 : okL s.2 = true) (hs : step < 0) :
    Calls Try.prog 37 #[.agg #[.int .i64 c.ci, .int .i64 c.ch, .int .i64 c.co, .int .u64 c.seed, .int .i64 c.batch, .int .i64 c.steps, .int .i64 c.rate, .int .i64 c.decay, .int .i64 c.how, .int .i64 c.keep, .int .i64 c.clip], .slice D n dc, .agg #[.slice A1 n1 k1, .slice A2 n2 k2], .int .i64 step] w (NextNo w 1) := by
  have HB0 := ((Blk.made w 54 #[.int .i64 c.ci, .int .i64 c.ch, .int .i64 c.co, .int .u64 c.seed, .int .i64 c.batch, .int .i64 c.steps, .int .i64 c.rate, .int .i64 c.decay, .int .i64 c.how, .int .i64 c.keep, .int .i64 c.clip]).alloc (.cells #[.slice A1 n1 k1, .slice A2 n2 k2] 35)).alloc (.cells #[.slice none 0 0, .slice none 0 0] 35)
  have HB1 := (Blk.made' (w.alloc (.cells #[.int .i64 c.ci, .int .i64 c.ch, .int .i64 c.co, .int .u64 c.seed, .int .i64 c.batch, .int .i64 c.steps, .int .i64 c.rate, .int .i64 c.decay, .int .i64 c.how, .int .i64 c.keep, .int .i64 c.clip] 54)) 35 #[.slice A1 n1 k1, .slice A2 n2 k2] (g := w.heap.size + 1) (by simp)).alloc (.cells #[.slice none 0 0, .slice none 0 0] 35)
  have HB2 := Blk.made' ((w.alloc (.cells #[.int .i64 c.ci, .int .i64 c.ch, .int .i64 c.co, .int .u64 c.seed, .int .i64 c.batch, .int .i64 c.steps, .int .i64 c.rate, .int .i64 c.decay, .int .i64 c.how, .int .i64 c.keep, .int .i64 c.clip] 54)).alloc (.cells #[.slice A1 n1 k1, .slice A2 n2 k2] 35)) 35 #[.slice none 0 0, .slice none 0 0] (g := w.heap.size + 1 + 1) (by simp)
  have HCK := Lib.hid (fun W (h : Below w.heap.size w W) => trn_Check c D n dc ds W (hd.below h) hn)
  have zz := And.intro z1 z2
  clear zz
  have b0 : Below w.heap.size w (((w.alloc (.cells #[.int .i64 c.ci, .int .i64 c.ch, .int .i64 c.co, .int .u64 c.seed, .int .i64 c.batch, .int .i64 c.steps, .int .i64 c.rate, .int .i64 c.decay, .int .i64 c.how, .int .i64 c.keep, .int .i64 c.clip] 54)).alloc (.cells #[.slice A1 n1 k1, .slice A2 n2 k2] 35)).alloc (.cells #[.slice none 0 0, .slice none 0 0] 35)) := (by repeat (first | exact Below.refl _ _ | assumption | refine bel_drewN ?_ _ | refine Below.drew ?_ | (refine Below.alloc ?_ (by simp <;> omega) _) | (refine Below.setCell ?_ (by simp <;> omega) _)))
  have C0 := Lib.hid hC
  have HS := Lib.hid (size_fine c (fine hC).ok)
  have t1 : ((n1 : Int) != (c.N : Int)) = false := by rw [bne_eq_false_iff_eq]; omega
  have t2 : ((n2 : Int) != (c.N : Int)) = false := by rw [bne_eq_false_iff_eq]; omega
  have H1 := Lib.hid (fun W (q : Ints .i64 W A1 n1 s.1) => trn_clamped_told (c := k1) (b := true) o1 q z1)
  have H2 := Lib.hid (fun W (q : Ints .i64 W A2 n2 s.2) => trn_clamped_told (c := k2) (b := true) o2 q z2)
  clear hC e1 e2 o1 o2
  go_enter Try.func37, Try.ntmps37
  go_wp2_with fail
  refine (HCK.out _ b0).mono ?_
  rintro e x1 ⟨rfl, hb1⟩
  rw [C0.out]
  replace HB0 := HB0.below hb1 (by simp <;> omega)
  replace HB1 := HB1.below hb1 (by simp <;> omega)
  replace HB2 := HB2.below hb1 (by simp <;> omega)
  have hbw : Below w.heap.size w x1 := b0.trans (hb1.mono b0.size)
  have hl2 := HB2.lt
  have j1 := i1.below hbw
  have j2 := i2.below hbw
  clear hb1 b0
  have r0 : x1.cell? ⟨w.heap.size + 1 + 1, 0, none⟩ = some (.slice none 0 0) := HB2.cell 0
  have r1 : x1.cell? ⟨w.heap.size + 1 + 1, 1, none⟩ = some (.slice none 0 0) := HB2.cell 1
  have r2 := HB2.frozen 0
  have r3 := HB2.frozen 1
  obtain ⟨d0, d1, d2, d3, d4, d5, d6, d7, d8, d9, da⟩ := HB0.cfg
  obtain ⟨⟨f0, f1⟩, _⟩ := HB1.two
  go_wp2_with (go_at_call 88; refine (HS.out _).mono ?_; rintro e w' ⟨rfl, rfl⟩)
  refine (H1.out _ j1).mono ?_
  rintro e w' ⟨rfl, q1, rfl⟩
  go_wp2_with fail
  refine (H2.out _ (j2.drewN _)).mono ?_
  rintro e w' ⟨rfl, q2, rfl⟩
  go_wp2
  refine bodyPost_ret (v := .tuple #[.agg #[.slice none 0 0, .slice none 0 0], .slice none 0 0, .int .i64 0, .int .i64 1]) (by simp [results, Try.results37, go_sem, r0, r1]) rfl ?_
  exact ⟨rfl, by first | exact bel_no hbw (by omega) _ _ | exact bel_no (bel_drewN hbw _) (by omega) _ _ | exact bel_drewN (bel_no hbw (by omega) _ _) _⟩

set_option maxRecDepth 100000 in
set_option maxHeartbeats 2000000 in
theorem trn_Next_far (c : Cfg) (ds : Data) (D : Option Addr) (n dc : Nat) (w : World) (hd : Duos w D n ds) (hn : n ≤ 9223372036854775806) (s : List Int × List Int) (A1 A2 : Option Addr) (n1 n2 k1 k2 : Nat) (i1 : Ints .i64 w A1 n1 s.1) (i2 : Ints .i64 w A2 n2 s.2) (z1 : n1 ≤ 9223372036854775807) (z2 : n2 ≤ 9223372036854775807) (step : Int) (hC : crs c ds = 0) (e1 : n1 = c.N) (e2 : n2 = c.N) (o1 : okL s.1 = true) (o2 : okL s.2 = true) (hs : 0 ≤ step) (hs2 : c.steps ≤ step) :
    Calls Try.prog 37 #[.agg #[.int .i64 c.ci, .int .i64 c.ch, .int .i64 c.co, .int .u64 c.seed, .int .i64 c.batch, .int .i64 c.steps, .int .i64 c.rate, .int .i64 c.decay, .int .i64 c.how, .int .i64 c.keep, .int .i64 c.clip], .slice D n dc, .agg #[.slice A1 n1 k1, .slice A2 n2 k2], .int .i64 step] w (NextNo w 1) := by
  have HB0 := ((Blk.made w 54 #[.int .i64 c.ci, .int .i64 c.ch, .int .i64 c.co, .int .u64 c.seed, .int .i64 c.batch, .int .i64 c.steps, .int .i64 c.rate, .int .i64 c.decay, .int .i64 c.how, .int .i64 c.keep, .int .i64 c.clip]).alloc (.cells #[.slice A1 n1 k1, .slice A2 n2 k2] 35)).alloc (.cells #[.slice none 0 0, .slice none 0 0] 35)
  have HB1 := (Blk.made' (w.alloc (.cells #[.int .i64 c.ci, .int .i64 c.ch, .int .i64 c.co, .int .u64 c.seed, .int .i64 c.batch, .int .i64 c.steps, .int .i64 c.rate, .int .i64 c.decay, .int .i64 c.how, .int .i64 c.keep, .int .i64 c.clip] 54)) 35 #[.slice A1 n1 k1, .slice A2 n2 k2] (g := w.heap.size + 1) (by simp)).alloc (.cells #[.slice none 0 0, .slice none 0 0] 35)
  have HB2 := Blk.made' ((w.alloc (.cells #[.int .i64 c.ci, .int .i64 c.ch, .int .i64 c.co, .int .u64 c.seed, .int .i64 c.batch, .int .i64 c.steps, .int .i64 c.rate, .int .i64 c.decay, .int .i64 c.how, .int .i64 c.keep, .int .i64 c.clip] 54)).alloc (.cells #[.slice A1 n1 k1, .slice A2 n2 k2] 35)) 35 #[.slice none 0 0, .slice none 0 0] (g := w.heap.size + 1 + 1) (by simp)
  have HCK := Lib.hid (fun W (h : Below w.heap.size w W) => trn_Check c D n dc ds W (hd.below h) hn)
  have zz := And.intro z1 z2
  clear zz
  have b0 : Below w.heap.size w (((w.alloc (.cells #[.int .i64 c.ci, .int .i64 c.ch, .int .i64 c.co, .int .u64 c.seed, .int .i64 c.batch, .int .i64 c.steps, .int .i64 c.rate, .int .i64 c.decay, .int .i64 c.how, .int .i64 c.keep, .int .i64 c.clip] 54)).alloc (.cells #[.slice A1 n1 k1, .slice A2 n2 k2] 35)).alloc (.cells #[.slice none 0 0, .slice none 0 0] 35)) := (by repeat (first | exact Below.refl _ _ | assumption | refine bel_drewN ?_ _ | refine Below.drew ?_ | (refine Below.alloc ?_ (by simp <;> omega) _) | (refine Below.setCell ?_ (by simp <;> omega) _)))
  have C0 := Lib.hid hC
  have HS := Lib.hid (size_fine c (fine hC).ok)
  have t1 : ((n1 : Int) != (c.N : Int)) = false := by rw [bne_eq_false_iff_eq]; omega
  have t2 : ((n2 : Int) != (c.N : Int)) = false := by rw [bne_eq_false_iff_eq]; omega
  have H1 := Lib.hid (fun W (q : Ints .i64 W A1 n1 s.1) => trn_clamped_told (c := k1) (b := true) o1 q z1)
  have H2 := Lib.hid (fun W (q : Ints .i64 W A2 n2 s.2) => trn_clamped_told (c := k2) (b := true) o2 q z2)
  have hs3 : ¬ step < 0 := by omega
  clear hC e1 e2 o1 o2
  go_enter Try.func37, Try.ntmps37
  go_wp2_with fail
  refine (HCK.out _ b0).mono ?_
  rintro e x1 ⟨rfl, hb1⟩
  rw [C0.out]
  replace HB0 := HB0.below hb1 (by simp <;> omega)
  replace HB1 := HB1.below hb1 (by simp <;> omega)
  replace HB2 := HB2.below hb1 (by simp <;> omega)
  have hbw : Below w.heap.size w x1 := b0.trans (hb1.mono b0.size)
  have hl2 := HB2.lt
  have j1 := i1.below hbw
  have j2 := i2.below hbw
  clear hb1 b0
  have r0 : x1.cell? ⟨w.heap.size + 1 + 1, 0, none⟩ = some (.slice none 0 0) := HB2.cell 0
  have r1 : x1.cell? ⟨w.heap.size + 1 + 1, 1, none⟩ = some (.slice none 0 0) := HB2.cell 1
  have r2 := HB2.frozen 0
  have r3 := HB2.frozen 1
  obtain ⟨d0, d1, d2, d3, d4, d5, d6, d7, d8, d9, da⟩ := HB0.cfg
  obtain ⟨⟨f0, f1⟩, _⟩ := HB1.two
  go_wp2_with (go_at_call 88; refine (HS.out _).mono ?_; rintro e w' ⟨rfl, rfl⟩)
  refine (H1.out _ j1).mono ?_
  rintro e w' ⟨rfl, q1, rfl⟩
  go_wp2_with fail
  refine (H2.out _ (j2.drewN _)).mono ?_
  rintro e w' ⟨rfl, q2, rfl⟩
  go_wp2
  refine bodyPost_ret (v := .tuple #[.agg #[.slice none 0 0, .slice none 0 0], .slice none 0 0, .int .i64 0, .int .i64 1]) (by simp [results, Try.results37, go_sem, r0, r1]) rfl ?_
  exact ⟨rfl, by first | exact bel_no hbw (by omega) _ _ | exact bel_no (bel_drewN hbw _) (by omega) _ _ | exact bel_drewN (bel_no hbw (by omega) _ _) _⟩

set_option maxRecDepth 100000 in
set_option maxHeartbeats 4000000 in
theorem trn_Next_ok (c : Cfg) (ds : Data) (hC : crs c ds = 0) (s0 : 0 ≤ c.seed) (s1 : c.seed < 18446744073709551616) (D : Option Addr) (n dc : Nat) (w : World) (hd : Duos w D n ds) (s : List Int × List Int) (hs : fits c s = true) (A1 A2 : Option Addr) (k1 k2 : Nat)
    (i1 : Ints .i64 w A1 c.N s.1) (i2 : Ints .i64 w A2 c.N s.2) (hk1 : c.N ≤ k1) (step : Nat) (hst : (step : Int) < c.steps) :
    Calls Try.prog 37 #[.agg #[.int .i64 c.ci, .int .i64 c.ch, .int .i64 c.co, .int .u64 c.seed, .int .i64 c.batch, .int .i64 c.steps, .int .i64 c.rate, .int .i64 c.decay, .int .i64 c.how, .int .i64 c.keep, .int .i64 c.clip], .slice D n dc, .agg #[.slice A1 c.N k1, .slice A2 c.N k2], .int .i64 step] w (NextOwn w c ds s step fun a b r => .tuple #[a, b, r, .int .i64 0]) := by
  have HB0 := ((Blk.made w 54 #[.int .i64 c.ci, .int .i64 c.ch, .int .i64 c.co, .int .u64 c.seed, .int .i64 c.batch, .int .i64 c.steps, .int .i64 c.rate, .int .i64 c.decay, .int .i64 c.how, .int .i64 c.keep, .int .i64 c.clip]).alloc (.cells #[.slice A1 c.N k1, .slice A2 c.N k2] 35)).alloc (.cells #[.slice none 0 0, .slice none 0 0] 35)
  have HB1 := (Blk.made' (w.alloc (.cells #[.int .i64 c.ci, .int .i64 c.ch, .int .i64 c.co, .int .u64 c.seed, .int .i64 c.batch, .int .i64 c.steps, .int .i64 c.rate, .int .i64 c.decay, .int .i64 c.how, .int .i64 c.keep, .int .i64 c.clip] 54)) 35 #[.slice A1 c.N k1, .slice A2 c.N k2] (g := w.heap.size + 1) (by simp)).alloc (.cells #[.slice none 0 0, .slice none 0 0] 35)
  have HB2 := Blk.made' ((w.alloc (.cells #[.int .i64 c.ci, .int .i64 c.ch, .int .i64 c.co, .int .u64 c.seed, .int .i64 c.batch, .int .i64 c.steps, .int .i64 c.rate, .int .i64 c.decay, .int .i64 c.how, .int .i64 c.keep, .int .i64 c.clip] 54)).alloc (.cells #[.slice A1 c.N k1, .slice A2 c.N k2] 35)) 35 #[.slice none 0 0, .slice none 0 0] (g := w.heap.size + 1 + 1) (by simp)
  have hf := fine hC
  have n40 := hf.ok.n40
  have hn : n ≤ 9223372036854775806 := by have := hf.d16; have := hd.len; omega
  obtain ⟨_, _, o1, o2⟩ := fits_iff.1 hs
  have HCK := Lib.hid (fun W (h : Below w.heap.size w W) => trn_Check c D n dc ds W (hd.below h) hn)
  have HNX := Lib.hid (fun W (h : Below w.heap.size w W) => trn_next c ds hf s0 s1 D n dc W (hd.below h) s hs A1 A2 k1 k2 (i1.below h) (i2.below h) hk1 step hst)
  have H1 := Lib.hid (fun W (q : Ints .i64 W A1 c.N s.1) => trn_clamped_told (c := k1) (b := true) o1 q (by omega))
  have H2 := Lib.hid (fun W (q : Ints .i64 W A2 c.N s.2) => trn_clamped_told (c := k2) (b := true) o2 q (by omega))
  have b0 : Below w.heap.size w (((w.alloc (.cells #[.int .i64 c.ci, .int .i64 c.ch, .int .i64 c.co, .int .u64 c.seed, .int .i64 c.batch, .int .i64 c.steps, .int .i64 c.rate, .int .i64 c.decay, .int .i64 c.how, .int .i64 c.keep, .int .i64 c.clip] 54)).alloc (.cells #[.slice A1 c.N k1, .slice A2 c.N k2] 35)).alloc (.cells #[.slice none 0 0, .slice none 0 0] 35)) := (by repeat (first | exact Below.refl _ _ | assumption | refine bel_drewN ?_ _ | refine Below.drew ?_ | (refine Below.alloc ?_ (by simp <;> omega) _) | (refine Below.setCell ?_ (by simp <;> omega) _)))
  have HS := Lib.hid (size_fine c hf.ok)
  have C0 := Lib.hid hC
  have hst0 : ¬ (step : Int) < 0 := by omega
  have hst1 : ¬ c.steps ≤ (step : Int) := by omega
  clear hC hf o1 o2 hs n40
  go_enter Try.func37, Try.ntmps37
  go_wp2_with fail
  refine (HCK.out _ b0).mono ?_
  rintro e x1 ⟨rfl, hb1⟩
  rw [C0.out]
  replace HB0 := HB0.below hb1 (by simp <;> omega)
  replace HB1 := HB1.below hb1 (by simp <;> omega)
  replace HB2 := HB2.below hb1 (by simp <;> omega)
  have hbw : Below w.heap.size w x1 := b0.trans (hb1.mono b0.size)
  have j1 := i1.below hbw
  have j2 := i2.below hbw
  clear hb1 b0 i1 i2
  obtain ⟨d0, d1, d2, d3, d4, d5, d6, d7, d8, d9, da⟩ := HB0.cfg
  obtain ⟨⟨f0, f1⟩, _⟩ := HB1.two
  go_wp2_with (go_at_call 88; refine (HS.out _).mono ?_; rintro e w' ⟨rfl, rfl⟩)
  refine (H1.out _ j1).mono ?_
  rintro e w' ⟨rfl, q1, rfl⟩
  go_wp2_with fail
  refine (H2.out _ (j2.drewN _)).mono ?_
  rintro e w' ⟨rfl, q2, rfl⟩
  have hbq := bel_drewN hbw (q1 + q2)
  have HR := HB2.drewN (q1 + q2)
  go_wp2_with fail
  refine (HNX.out _ (by first | exact hbq | exact bel_drewN (bel_drewN hbw _) _)).mono ?_
  rintro e u4 ⟨B1, p1, B2, p2, E, ec, rfl, O1, O2, O3, hb4⟩
  have hbw4 : Below w.heap.size w u4 := hbq.trans (hb4.mono hbq.size)
  have hr := HR.below hb4 HR.lt
  have r0 : u4.cell? ⟨w.heap.size + 1 + 1, 0, none⟩ = some (.slice none 0 0) := hr.cell 0
  have r1 : u4.cell? ⟨w.heap.size + 1 + 1, 1, none⟩ = some (.slice none 0 0) := hr.cell 1
  have r2 := hr.frozen 0
  have r3 := hr.frozen 1
  have hlr := hr.lt
  have hl3 := HB2.lt
  have hsz : (x1.drewN (q1 + q2)).heap.size = x1.heap.size := rfl
  rw [hsz] at O1 O2 O3
  clear d0 d1 d2 d3 d4 d5 d6 d7 d8 d9 da f0 f1 hb4 HR HCK HNX hsz
  go_wp2
  obtain ⟨z0, z1⟩ := res_fin hr (.slice B1 c.N p1) (.slice B2 c.N p2) (.cells #[.slice B1 c.N p1, .slice B2 c.N p2] 35)
  refine bodyPost_ret (v := .tuple #[.agg #[.slice B1 c.N p1, .slice B2 c.N p2], .slice E c.batch.toNat ec, .int .i64 (ratI c step), .int .i64 0]) (by simp [results, Try.results37, go_sem, z0, z1]) rfl ?_
  exact ⟨B1, p1, B2, p2, E, ec, rfl, own_fin O1 (by omega) (by omega) _ _ _, own_fin O2 (by omega) (by omega) _ _ _, own_fin O3 (by omega) (by omega) _ _ _, bel_fin hbw4 (by omega) _ _ _⟩

theorem trn_Next_no (c : Cfg) (ds : Data) (D : Option Addr) (n dc : Nat) (w : World) (hd : Duos w D n ds) (hn : n ≤ 9223372036854775806) (s : List Int × List Int) (A1 A2 : Option Addr) (n1 n2 k1 k2 : Nat) (i1 : Ints .i64 w A1 n1 s.1) (i2 : Ints .i64 w A2 n2 s.2) (z1 : n1 ≤ 9223372036854775807) (z2 : n2 ≤ 9223372036854775807) (step : Int) (he : nextE c ds s step ≠ 0) :
    Calls Try.prog 37 #[.agg #[.int .i64 c.ci, .int .i64 c.ch, .int .i64 c.co, .int .u64 c.seed, .int .i64 c.batch, .int .i64 c.steps, .int .i64 c.rate, .int .i64 c.decay, .int .i64 c.how, .int .i64 c.keep, .int .i64 c.clip], .slice D n dc, .agg #[.slice A1 n1 k1, .slice A2 n2 k2], .int .i64 step] w (NextNo w (nextE c ds s step)) := by
  by_cases hC : crs c ds = 0
  · cases hF : fits c s
    · rw [nextE_fit hC hF]
      by_cases e1 : n1 = c.N
      · by_cases e2 : n2 = c.N
        · cases o1 : okL s.1
          · exact trn_Next_o1 c ds D n dc w hd hn s A1 A2 n1 n2 k1 k2 i1 i2 z1 z2 step hC e1 e2 o1
          · cases o2 : okL s.2
            · exact trn_Next_o2 c ds D n dc w hd hn s A1 A2 n1 n2 k1 k2 i1 i2 z1 z2 step hC e1 e2 o1 o2
            · have := (fits_iff (c := c) (s := s)).2 ⟨i1.len.trans e1, i2.len.trans e2, o1, o2⟩
              rw [hF] at this; cases this
        · exact trn_Next_n2 c ds D n dc w hd hn s A1 A2 n1 n2 k1 k2 i1 i2 z1 z2 step hC e1 e2
      · exact trn_Next_n1 c ds D n dc w hd hn s A1 A2 n1 n2 k1 k2 i1 i2 z1 z2 step hC e1
    · obtain ⟨f1, f2, o1, o2⟩ := fits_iff.1 hF
      have e1 : n1 = c.N := i1.len.symm.trans f1
      have e2 : n2 = c.N := i2.len.symm.trans f2
      by_cases h3 : 0 ≤ step ∧ step < c.steps
      · exact absurd (nextE_ok hC hF h3) he
      · rw [nextE_arg hC hF h3]
        by_cases h4 : step < 0
        · exact trn_Next_neg c ds D n dc w hd hn s A1 A2 n1 n2 k1 k2 i1 i2 z1 z2 step hC e1 e2 o1 o2 h4
        · exact trn_Next_far c ds D n dc w hd hn s A1 A2 n1 n2 k1 k2 i1 i2 z1 z2 step hC e1 e2 o1 o2 (by omega) (by omega)
  · rw [nextE_crs hC]
    exact trn_Next_crs c ds D n dc w hd hn s A1 A2 n1 n2 k1 k2 i1 i2 z1 z2 step hC
end Go.Proofs.Ythckpmgehhkacaa
