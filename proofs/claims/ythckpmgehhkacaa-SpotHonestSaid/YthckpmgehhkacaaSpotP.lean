/- Package spot: Prove, of a course that is right: a walk. -/
import Derived.Test.YthckpmgehhkacaaTrnG
namespace Go.Proofs.Ythckpmgehhkacaa
open Go.RowKit Pl

/-- A state told beside an error. -/
def StTold (w : World) (N : Nat) (s : List Int × List Int) (e : Ending) (w' : World) : Prop :=
  ∃ A1 k1 A2 k2, e = .returned (.tuple #[.agg #[.slice A1 N k1, .slice A2 N k2], .int .i64 0]) ∧ Ints .i64 w' A1 N s.1 ∧ Ints .i64 w' A2 N s.2 ∧ N ≤ k1 ∧ Below w.heap.size w w'

/-- A list of numbers doesn't lie in a block that holds two slices. -/
theorem ints_off {k : IntKind} {w : World} {A : Option Addr} {n : Nat} {xs : List Int} {g : Nat} {t : TypeId} {a1 a2 : Option Addr} {n1 c1 n2 c2 : Nat} (h : Ints k w A n xs) (hb : Blk w g t #[.slice a1 n1 c1, .slice a2 n2 c2]) (i : Nat) (v : Value) : Ints k (w.setCell ⟨g, i, none⟩ v) A n xs := by
  refine ⟨h.len, fun hn => ?_⟩
  obtain ⟨b, off, e, hl, hc⟩ := h.cells hn
  have hne : b ≠ g := by
    intro hbg
    subst hbg
    have h0 := hc 0 hn
    rw [hb.cell (off + 0)] at h0
    match off, h0 with
    | 0, h0 => cases h0
    | 1, h0 => cases h0
    | m + 2, h0 => simp at h0
  refine ⟨b, off, e, by simpa using hl, fun j hj => ?_⟩
  exact (World.cell?_of_block (a := ⟨b, off + j, none⟩) (heap_setCell_other w ⟨g, i, none⟩ b v (fun e => hne e))).trans (hc j hj)

set_option maxRecDepth 100000 in
set_option maxHeartbeats 4000000 in
theorem spot_Prove (c : Cfg) (ds : Data) (hC : crs c ds = 0) (s0 : 0 ≤ c.seed) (s1 : c.seed < 18446744073709551616) (D : Option Addr) (n dc : Nat) (w : World) (hd : Duos w D n ds) (k : Nat) (hk : (k : Int) < c.steps) :
    Calls Try.prog 55 #[.agg #[.int .i64 c.ci, .int .i64 c.ch, .int .i64 c.co, .int .u64 c.seed, .int .i64 c.batch, .int .i64 c.steps, .int .i64 c.rate, .int .i64 c.decay, .int .i64 c.how, .int .i64 c.keep, .int .i64 c.clip], .slice D n dc, .int .i64 k] w (StTold w c.N (states c ds k)) := by
  have hf := fine hC
  have hst := hf.ok.st
  have hn : n ≤ 9223372036854775806 := by have := hf.d16; have := hd.len; omega
  have HCK := Lib.hid (fun W (h : Below w.heap.size w W) => trn_Check c D n dc ds W (hd.below h) hn)
  have HRN := Lib.hid (fun W (h : Below w.heap.size w W) => trn_Run_ok c ds hC s0 s1 D n dc W (hd.below h) k (by omega))
  have HL1 := Lib.hid (states_len1 c ds)
  have HL2 := Lib.hid (states_len2 c ds)
  have HB0 := (Blk.made w 54 #[.int .i64 c.ci, .int .i64 c.ch, .int .i64 c.co, .int .u64 c.seed, .int .i64 c.batch, .int .i64 c.steps, .int .i64 c.rate, .int .i64 c.decay, .int .i64 c.how, .int .i64 c.keep, .int .i64 c.clip]).alloc (.cells #[.slice none 0 0, .slice none 0 0] 35)
  have HB1 := Blk.made' (w.alloc (.cells #[.int .i64 c.ci, .int .i64 c.ch, .int .i64 c.co, .int .u64 c.seed, .int .i64 c.batch, .int .i64 c.steps, .int .i64 c.rate, .int .i64 c.decay, .int .i64 c.how, .int .i64 c.keep, .int .i64 c.clip] 54)) 35 #[.slice none 0 0, .slice none 0 0] (g := w.heap.size + 1) (by simp)
  have b0 : Below w.heap.size w ((w.alloc (.cells #[.int .i64 c.ci, .int .i64 c.ch, .int .i64 c.co, .int .u64 c.seed, .int .i64 c.batch, .int .i64 c.steps, .int .i64 c.rate, .int .i64 c.decay, .int .i64 c.how, .int .i64 c.keep, .int .i64 c.clip] 54)).alloc (.cells #[.slice none 0 0, .slice none 0 0] 35)) := (by repeat (first | exact Below.refl _ _ | assumption | refine bel_drewN ?_ _ | refine Below.drew ?_ | (refine Below.alloc ?_ (by simp <;> omega) _) | (refine Below.setCell ?_ (by simp <;> omega) _)))
  have C0 := Lib.hid hC
  have h1 : ¬ (k : Int) < 0 := by omega
  have h2 : ¬ c.steps ≤ (k : Int) := by omega
  clear hC hf hd hn
  obtain ⟨st, hst'⟩ : ∃ st, st = states c ds := ⟨_, rfl⟩
  rw [← hst'] at HRN HL1 HL2 ⊢
  clear hst'
  go_enter Try.func55, Try.ntmps55
  go_wp2_with fail
  refine (HCK.out _ b0).mono ?_
  rintro e x1 ⟨rfl, hb1⟩
  rw [C0.out]
  replace HB0 := HB0.below hb1 HB0.lt
  replace HB1 := HB1.below hb1 HB1.lt
  have hbw := b0.trans (hb1.mono b0.size)
  clear hb1 b0 HCK
  obtain ⟨d0, d1, d2, d3, d4, d5, d6, d7, d8, d9, da⟩ := HB0.cfg
  go_wp2_with fail
  refine (HRN.out _ hbw).mono ?_
  rintro e x2 ⟨g, gc, rfl, hR, hb2⟩
  have hbw2 := hbw.trans (hb2.mono hbw.size)
  have hr := HB1.below hb2 HB1.lt
  obtain ⟨A1, c1, A2, c2, a0, a1, i1, i2, l1, la⟩ := StHeld.at' hR (j := k) (by omega) (HL1.out k) (HL2.out k)
  have hgb := (hR.lt g rfl).1
  have r0 : x2.cell? ⟨w.heap.size + 1, 0, none⟩ = some (.slice none 0 0) := hr.cell 0
  have r1 : x2.cell? ⟨w.heap.size + 1, 1, none⟩ = some (.slice none 0 0) := hr.cell 1
  have r2 := hr.frozen 0
  have r3 := hr.frozen 1
  have hlr := hr.lt
  have k0 : (0 : Int) ≤ (k : Int) := by omega
  have k1 : (k : Int) < (k : Int) + 1 := by omega
  have J1 := ints_off (ints_off i1 hr 0 (.slice A1 c.N c1)) (hr.put 0 (.slice A1 c.N c1)) 1 (.slice A2 c.N c2)
  have J2 := ints_off (ints_off i2 hr 0 (.slice A1 c.N c1)) (hr.put 0 (.slice A1 c.N c1)) 1 (.slice A2 c.N c2)
  obtain ⟨z0, z1⟩ : ((x2.setCell ⟨w.heap.size + 1, 0, none⟩ (.slice A1 c.N c1)).setCell ⟨w.heap.size + 1, 1, none⟩ (.slice A2 c.N c2)).cell? ⟨w.heap.size + 1, 0, none⟩ = some (.slice A1 c.N c1) ∧ ((x2.setCell ⟨w.heap.size + 1, 0, none⟩ (.slice A1 c.N c1)).setCell ⟨w.heap.size + 1, 1, none⟩ (.slice A2 c.N c2)).cell? ⟨w.heap.size + 1, 1, none⟩ = some (.slice A2 c.N c2) := by
    have h := (hr.put 0 (.slice A1 c.N c1)).put 1 (.slice A2 c.N c2)
    exact ⟨h.cell 0, h.cell 1⟩
  have hbf := (hbw2.setCell (p := ⟨w.heap.size + 1, 0, none⟩) (by simp) (.slice A1 c.N c1)).setCell (p := ⟨w.heap.size + 1, 1, none⟩) (by simp) (.slice A2 c.N c2)
  clear hR i1 i2 hb2
  go_wp2
  refine bodyPost_ret (v := .tuple #[.agg #[.slice A1 c.N c1, .slice A2 c.N c2], .int .i64 0]) (by simp [results, Try.results55, go_sem, z0, z1]) rfl ?_
  exact ⟨A1, c1, A2, c2, rfl, J1, J2, l1, hbf⟩
end Go.Proofs.Ythckpmgehhkacaa
