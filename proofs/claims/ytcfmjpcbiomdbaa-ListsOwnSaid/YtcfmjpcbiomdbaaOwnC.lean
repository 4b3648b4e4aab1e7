/- The law CoursesOwn holds of the given program for every input. No condition. -/
import Derived.Test.YtcfmjpcbiomdbaaRunO
import Derived.Test.YtcfmjpcbiomdbaaSameS
import Derived.Test.YtcfmjpcbiomdbaaTopF0
import Derived.BigQuiet
namespace Go.Proofs.Ytcfmjpcbiomdbaa
open Go.ChangeShapes Go.WideShapes Go.ChangeAt Go.RowKit Go.Sort Pl

/-- All blocks but some are as they were. -/
structure FrS (S : Nat → Prop) (w w' : World) : Prop where
  os : w'.os = w.os
  tape : w'.tape = w.tape
  output : w'.output = w.output
  size : w.heap.size ≤ w'.heap.size
  block : ∀ k, k < w.heap.size → ¬ S k → w'.heap[k]? = w.heap[k]?
section
variable {S S' : Nat → Prop} {w w' w'' : World}
theorem FrS.refl (S : Nat → Prop) (w : World) : FrS S w w := ⟨rfl, rfl, rfl, Nat.le_refl _, fun _ _ _ => rfl⟩
theorem FrS.mono (h : FrS S w w') (hs : ∀ b, S b → S' b) : FrS S' w w' := ⟨h.os, h.tape, h.output, h.size, fun k hk hn => h.block k hk (fun x => hn (hs k x))⟩
theorem FrS.below (h : FrS S w w') (hb : Below w'.heap.size w' w'') : FrS S w w'' :=
  ⟨hb.os.trans h.os, hb.tape.trans h.tape, hb.output.trans h.output, Nat.le_trans h.size hb.size, fun k hk hn => (hb.block k (Nat.lt_of_lt_of_le hk h.size)).trans (h.block k hk hn)⟩
theorem FrS.but {g : Nat} (h : FrS S w w') (hb : But g w' w'') (hg : S g) : FrS S w w'' :=
  ⟨hb.os.trans h.os, hb.tape.trans h.tape, hb.output.trans h.output, Nat.le_trans h.size hb.size, fun k hk hn => (hb.block k (Nat.lt_of_lt_of_le hk h.size) (fun e => hn (e ▸ hg))).trans (h.block k hk hn)⟩
theorem FrS.toBelow {B : Nat} {a : World} (h : FrS S w w') (ha : Below B a w) (hB : B ≤ w.heap.size) (hs : ∀ b, S b → B ≤ b) : Below B a w' :=
  ⟨h.os.trans ha.os, h.tape.trans ha.tape, h.output.trans ha.output, Nat.le_trans ha.size h.size, fun k hk => (h.block k (by omega) (fun x => by have := hs k x; omega)).trans (ha.block k hk)⟩
theorem FrS.cell (h : FrS S w w') {p : Addr} (hp : p.block < w.heap.size) (hn : ¬ S p.block) : w'.cell? p = w.cell? p := World.cell?_of_block (h.block p.block hp hn)
theorem Blk.frs {g : Nat} {t : TypeId} {cs : Array Value} (hb : Blk w g t cs) (h : FrS S w w') (hn : ¬ S g) : Blk w' g t cs := (h.block g hb.lt hn).trans hb
theorem Ints.frs {k : IntKind} {A : Option Addr} {n : Nat} {xs : List Int} (hi : Ints k w A n xs) (h : FrS S w w') (hn : ∀ b off, A = some ⟨b, off, none⟩ → ¬ S b) : Ints k w' A n xs :=
  ⟨hi.len, fun h0 => by
    obtain ⟨b, off, e, hb, hc⟩ := hi.cells h0
    exact ⟨b, off, e, Nat.lt_of_lt_of_le hb h.size, fun j hj => (h.cell (p := ⟨b, off + j, none⟩) hb (hn b off e)).trans (hc j hj)⟩⟩
end

set_option maxRecDepth 100000 in
set_option maxHeartbeats 2000000 in
theorem kp_spoil (g n cp : Nat) (x : Int) (cur : Array Value) (w : World) (hB : Blk w g 3 cur) (hs : cur.size = cp) (hn : n ≤ cp) (hm : cp ≤ maxLen) :
    Calls Try.prog 29 #[.slice (some ⟨g, 0, none⟩) n cp, .int .i64 x] w fun e w' => e = .returned (.tuple #[]) ∧ (∃ cur', Blk w' g 3 cur' ∧ cur'.size = cp) ∧ But g w w' := by
  have hm' : cp ≤ 9223372036854775807 := by unfold maxLen at hm; omega
  have q1 : (n : Int) ≤ (cp : Int) := by omega
  clear hm
  go_enter Try.func29, Try.ntmps29
  go_wp2
  go_loopw [4, 11] (fun _ i wr => ∃ k : Nat, k ≤ cp ∧ i = .int .i64 k ∧ (∃ cur', Blk wr g 3 cur' ∧ cur'.size = cp) ∧ But g w wr) (fun _ i _ => cp - (intOf i).toNat)
  case atStart => exact ⟨0, by omega, rfl, ⟨cur, hB, hs⟩, But.refl _ _⟩
  case round =>
    clear hB hs
    obtain ⟨k, hk, rfl, ⟨cu, hB, hs⟩, hb⟩ := hrel
    by_cases hlt : k < cp
    · have y0 : wr.cell? ⟨g, k, none⟩ = some (cu[k]'(by omega)) := by rw [hB.cell]; exact Array.getElem?_eq_getElem _
      have z0 := hB.frozen k
      have k0 : (0 : Int) ≤ (k : Int) := by omega
      have k1 : (k : Int) < (cp : Int) := by omega
      have hlg := hB.lt
      have hB2 := hB.put k (.int .i64 x)
      have hb2 := hb.put k (.int .i64 x)
      go_wp2
      go_roundw
      case rel => exact ⟨k + 1, by omega, by go_num, ⟨_, hB2, by simpa using hs⟩, hb2⟩
      case measure => simp [intOf]; omega
    · obtain rfl : k = cp := by omega
      go_wp2
      exact bodyPost_end (v := .tuple #[]) (by simp [results, Try.results29, go_sem]) rfl ⟨rfl, ⟨cu, hB, hs⟩, hb⟩

theorem StHeldO.get {B : Nat} {st : Nat → List Int × List Int} {bd : Nat → Nat × Nat} {k g c M : Nat} {w : World} (h : StHeldO none B (fun j => (st j, bd j)) k (.slice (some ⟨g, 0, none⟩) k c) w) {j : Nat} (hj : j < k) (l1 : (st j).1.length = M) (l2 : (st j).2.length = M) :
    ∃ b1 c1 cur1 b2 c2 cur2, (w.cell? ⟨g, j * 2, none⟩ = some (.slice (some ⟨b1, 0, none⟩) M c1) ∧ w.cell? ⟨g, j * 2 + 1, none⟩ = some (.slice (some ⟨b2, 0, none⟩) M c2)) ∧ (Blk w b1 3 cur1 ∧ cur1.size = c1 ∧ M ≤ c1 ∧ c1 ≤ maxLen ∧ Ints .i64 w (some ⟨b1, 0, none⟩) M (st j).1) ∧
      (Blk w b2 3 cur2 ∧ cur2.size = c2 ∧ M ≤ c2 ∧ c2 ≤ maxLen ∧ Ints .i64 w (some ⟨b2, 0, none⟩) M (st j).2) ∧ b1 ≠ g ∧ b2 ≠ g ∧ ((bd j).1 ≤ b1 ∧ b1 < (bd j).2) ∧ ((bd j).1 ≤ b2 ∧ b2 < (bd j).2) ∧ g < w.heap.size := by
  obtain ⟨cs, ⟨a, b, rfl, ⟨b1, c1, cur1, rfl, B1, z1, p1, q1, i1, _, o1⟩, ⟨b2, c2, cur2, rfl, B2, z2, p2, q2, i2, _, o2⟩, n1, n2⟩, hc, hg, _⟩ := h.at hj
  dsimp only at *
  have e0 := hc 0 (by omega)
  have e1 := hc 1 (by omega)
  rw [l1] at e0 p1 i1
  rw [l2] at e1 p2 i2
  exact ⟨b1, c1, cur1, b2, c2, cur2, ⟨by simpa using e0, by simpa [l2] using e1⟩, ⟨B1, z1, p1, q1, i1⟩, ⟨B2, z2, p2, q2, i2⟩, fun e => o1 (by rw [e]), fun e => o2 (by rw [e]), n1 b1 rfl, n2 b2 rfl, hg⟩
theorem RecHeldO.get {B0 B : Nat} {f : Nat → Rec} {k g c : Nat} {w : World} (h : RecHeldO B0 none B f k (.slice (some ⟨g, 0, none⟩) k c) w) {j : Nat} (hj : j < k) :
    ∃ b1 c1 cur1, RecAt w g (j * 5) (some ⟨b1, 0, none⟩) c1 (f j) ∧ Blk w b1 3 cur1 ∧ cur1.size = c1 ∧ (f j).batch.length ≤ c1 ∧ c1 ≤ maxLen ∧ b1 ≠ g ∧ B0 ≤ b1 ∧ g < w.heap.size ∧ B ≤ g := by
  obtain ⟨cs, ⟨b, rfl, ⟨b1, c1, cur1, rfl, B1, z1, p1, q1, i1, _, o1⟩, n1⟩, hc, hg, hB⟩ := h.at hj
  have e0 := hc 0 (by omega)
  have e1 := hc 1 (by omega)
  have e2 := hc 2 (by omega)
  have e3 := hc 3 (by omega)
  have e4 := hc 4 (by omega)
  exact ⟨b1, c1, cur1, ⟨by simpa using e0, by simpa using e1, by simpa using e2, by simpa using e3, by simpa using e4⟩, B1, z1, p1, q1, fun e => o1 (by rw [e]), n1 b1 rfl, hg, hB⟩
/-- The blocks that are spoiled, state by state. -/
def SpS (bd : Nat → Nat × Nat) (g k b : Nat) : Prop := ∃ i, i < k ∧ (bd i).1 ≤ b ∧ b < (bd i).2 ∧ b ≠ g
theorem SpS.self (bd : Nat → Nat × Nat) (g k : Nat) : ¬ SpS bd g k g := fun ⟨_, _, _, _, h⟩ => h rfl
theorem SpS.later {B0 H L : Nat} {bd : Nat → Nat × Nat} (hM : Marks B0 bd L H) {g k j b : Nat} (hk : k ≤ j) (hj : j < L) (hb : (bd j).1 ≤ b) : ¬ SpS bd g k b := fun ⟨i, h1, _, h3, _⟩ => by
  have := hM.1 i j (by omega) hj
  omega
theorem SpS.above {B0 H L : Nat} {bd : Nat → Nat × Nat} (hM : Marks B0 bd L H) {g k b : Nat} (hk : k ≤ L) (hb : H ≤ b) : ¬ SpS bd g k b := fun ⟨i, h1, _, h3, _⟩ => by
  have := (hM.2 i (by omega)).2
  omega
theorem SpS.low {B0 H L : Nat} {bd : Nat → Nat × Nat} (hM : Marks B0 bd L H) {g k b : Nat} (hk : k ≤ L) (h : SpS bd g k b) : B0 ≤ b := by
  obtain ⟨i, h1, h2, _⟩ := h
  have := (hM.2 i (by omega)).1
  omega
theorem SpS.up {bd : Nat → Nat × Nat} {g k b : Nat} (h : SpS bd g k b) : SpS bd g (k + 1) b := by
  obtain ⟨i, h1, h2⟩ := h
  exact ⟨i, by omega, h2⟩
theorem blk_again {w w' : World} {b1 b2 c1 c2 : Nat} {cur1 cur2 cu : Array Value} (B1 : Blk w b1 3 cur1) (z1 : cur1.size = c1) (B2 : Blk w b2 3 cur2) (z2 : cur2.size = c2) (C1 : Blk w' b1 3 cu) (y1 : cu.size = c1) (hb : But b1 w w') : ∃ cu2, Blk w' b2 3 cu2 ∧ cu2.size = c2 := by
  by_cases e : b2 = b1
  · subst e
    have h := B1.symm.trans B2
    injection h with h
    injection h with h
    subst h
    exact ⟨cu, C1, by omega⟩
  · exact ⟨cur2, B2.butB hb e, z2⟩
theorem roots_apart {s t : List Int × List Int} (h : rootS s ≠ rootS t) : sameS s t = false := by
  cases e : sameS s t
  · rfl
  · unfold sameS at e
    rw [Bool.and_eq_true] at e
    have h1 := of_decide_eq_true e.1
    have h2 := of_decide_eq_true e.2
    exact absurd (by rw [show s = t from Prod.ext h1 h2]) h

/-- Each record's batch stands whole in a block of its own. -/
def BatP (R : Option Addr) (N B0 : Nat) (f : Nat → Rec) (W : World) : Prop := ∀ i, i < N → ∃ gr L1 c1 cu, R = some ⟨gr, 0, none⟩ ∧ RecAt W gr (i * 5) (some ⟨L1, 0, none⟩) c1 (f i) ∧ Blk W L1 3 cu ∧ cu.size = c1 ∧ (f i).batch.length ≤ c1 ∧ c1 ≤ maxLen ∧ L1 ≠ gr ∧ B0 ≤ L1 ∧ gr < W.heap.size ∧ B0 ≤ gr
theorem BatP.of {B : Nat} {R : Option Addr} {N k : Nat} {f : Nat → Rec} {W : World} (h : RecHeldO B none B f N (.slice R N k) W) : BatP R N B f W := by
  intro i hi
  obtain ⟨g, c', hv, _⟩ := h.form (by omega)
  injection hv with a1 a2 a3
  subst a1
  obtain ⟨b1, c1, cur1, h1, h2, h3, h4, h5, h6, h7, h8, h9⟩ := RecHeldO.get h hi
  exact ⟨g, b1, c1, cur1, rfl, h1, h2, h3, h4, h5, h6, h7, h8, h9⟩
theorem BatP.frs {R : Option Addr} {N B0 : Nat} {f : Nat → Rec} {W W' : World} {S : Nat → Prop} (h : BatP R N B0 f W) (hf : FrS S W W') (hs : ∀ b, B0 ≤ b → ¬ S b) : BatP R N B0 f W' := by
  intro i hi
  obtain ⟨gr, L1, c1, cu, h1, ⟨r0, r1, r2, r3, r4⟩, h3, h4, h5, h6, h7, h8, h9, ha⟩ := h i hi
  exact ⟨gr, L1, c1, cu, h1, ⟨(hf.cell h9 (hs gr ha)).trans r0, (hf.cell h9 (hs gr ha)).trans r1, (hf.cell h9 (hs gr ha)).trans r2, (hf.cell h9 (hs gr ha)).trans r3, (hf.cell h9 (hs gr ha)).trans r4⟩, h3.frs hf (hs L1 h8), h4, h5, h6, h7, h8, Nat.lt_of_lt_of_le h9 hf.size, ha⟩
theorem BatP.below {R : Option Addr} {N B0 : Nat} {f : Nat → Rec} {W W' : World} (h : BatP R N B0 f W) (hb : Below W.heap.size W W') : BatP R N B0 f W' := by
  intro i hi
  obtain ⟨gr, L1, c1, cu, h1, h2, h3, h4, h5, h6, h7, h8, h9, ha⟩ := h i hi
  exact ⟨gr, L1, c1, cu, h1, h2.below hb h9, h3.below hb h3.lt, h4, h5, h6, h7, h8, Nat.lt_of_lt_of_le h9 hb.size, ha⟩
theorem BatP.spoilt {R : Option Addr} {N B0 gr L c : Nat} {f : Nat → Rec} {W W' : World} {cu cu' : Array Value} (h : BatP R N B0 f W) (hR : R = some ⟨gr, 0, none⟩) (hne : L ≠ gr) (hB : Blk W L 3 cu) (hz : cu.size = c) (hB' : Blk W' L 3 cu') (hz' : cu'.size = c) (hb : But L W W') : BatP R N B0 f W' := by
  intro i hi
  obtain ⟨gr', L1, c1, cu1, h1, ⟨r0, r1, r2, r3, r4⟩, h3, h4, h5, h6, h7, h8, h9, ha⟩ := h i hi
  rw [hR] at h1
  cases h1
  obtain ⟨cu2, k1, k2⟩ := blk_again hB hz h3 h4 hB' hz' hb
  have cl : ∀ j, W'.cell? ⟨gr, j, none⟩ = W.cell? ⟨gr, j, none⟩ := fun j => World.cell?_of_block (a := ⟨gr, j, none⟩) (hb.block gr h9 (Ne.symm hne))
  exact ⟨gr, L1, c1, cu2, hR, ⟨(cl _).trans r0, (cl _).trans r1, (cl _).trans r2, (cl _).trans r3, (cl _).trans r4⟩, k1, k2, h5, h6, h7, h8, Nat.lt_of_lt_of_le h9 hb.size, ha⟩

set_option maxRecDepth 100000 in
set_option maxHeartbeats 8000000 in
theorem coursesOwn_walk (c : Cfg) (s0 : 0 ≤ c.seed) (s1 : c.seed < 18446744073709551616) (D : Option Addr) (n dc : Nat) (ds : Data) (w : World) (hd : Duos w D n ds) (hn : n ≤ 9223372036854775806) (N0 : Int) :
    Calls Try.prog 6 #[.agg #[.int .i64 c.ci, .int .i64 c.ch, .int .i64 c.co, .int .u64 c.seed, .int .i64 c.batch, .int .i64 c.steps, .int .i64 c.rate, .int .i64 c.decay, .int .i64 c.how, .int .i64 c.keep, .int .i64 c.clip], .slice D n dc, .int .i64 N0] w fun e w' => e = .returned (.bool true) ∧ Below w.heap.size w w' := by
  have HD := Lib.hid (fun W (h : Below w.heap.size w W) => hd.below h)
  have HCO := Lib.hid (fun W (h : Below w.heap.size w W) => ref_Course c D n dc ds W (hd.below h) hn)
  have HB0 := Blk.made w 24 #[.int .i64 c.ci, .int .i64 c.ch, .int .i64 c.co, .int .u64 c.seed, .int .i64 c.batch, .int .i64 c.steps, .int .i64 c.rate, .int .i64 c.decay, .int .i64 c.how, .int .i64 c.keep, .int .i64 c.clip]
  have b0 : Below w.heap.size w (w.alloc (.cells #[.int .i64 c.ci, .int .i64 c.ch, .int .i64 c.co, .int .u64 c.seed, .int .i64 c.batch, .int .i64 c.steps, .int .i64 c.rate, .int .i64 c.decay, .int .i64 c.how, .int .i64 c.keep, .int .i64 c.clip] 24)) := (by repeat (first | exact Below.refl _ _ | assumption | refine bel_drewN ?_ _ | refine Below.drew ?_ | (refine Below.alloc ?_ (by simp <;> omega) _) | (refine Below.setCell ?_ (by simp <;> omega) _)))
  go_enter Try.func6, Try.ntmps6
  go_wp2_with fail
  refine (keep_taught _).mono ?_
  rintro e w1 ⟨rfl, hb1⟩
  replace HB0 := HB0.below hb1 HB0.lt
  have hw1 := b0.trans (hb1.mono b0.size)
  clear hb1 b0
  obtain ⟨d0, d1, d2, d3, d4, d5, d6, d7, d8, d9, da⟩ := HB0.cfg
  go_wp2_with fail
  refine (HCO.out _ hw1).mono ?_
  rintro e w2 ⟨rfl, hb2⟩
  have hw2 := hw1.trans (hb2.mono hw1.size)
  replace HB0 := HB0.below hb2 HB0.lt
  clear d0 d1 d2 d3 d4 d5 d6 d7 d8 d9 da hb2 hw1
  obtain ⟨d0, d1, d2, d3, d4, d5, d6, d7, d8, d9, da⟩ := HB0.cfg
  by_cases hC : crs c ds = 0
  · have hf := fine hC
    have HRN := Lib.hid (fun W (h : Below w.heap.size w W) (N : Nat) (hN : (N : Int) ≤ c.steps) => trn_Run_own c ds hC s0 s1 D n dc W (HD.out W h) N hN)
    have HMK := Lib.hid (fun W (h : Below w.heap.size w W) (N : Nat) (hN : (N : Int) ≤ c.steps) => jrn_Make_own c ds hC s0 s1 D n dc W (HD.out W h) N hN)
    have HMO := Lib.hid (fun W (h : Below w.heap.size w W) (N : Nat) (hN : (N : Int) ≤ c.steps) => jrn_Make_ok c ds hC s0 s1 D n dc W (HD.out W h) N hN)
    have HRO := Lib.hid (fun W (h : Below w.heap.size w W) (N : Nat) (hN : (N : Int) ≤ c.steps) => trn_Run_ok c ds hC s0 s1 D n dc W (HD.out W h) N hN)
    have HWH := Lib.hid (fun W (h : Below w.heap.size w W) (A : Option Addr) (N ac : Nat) (f : Nat → Rec) (hx : RecsR W A N (upto f N)) (hN : (N : Int) ≤ c.steps) => aud_Whole c ds hC s0 s1 D n dc W (HD.out W h) A N ac f hx hN)
    have HRT := Lib.hid (fun (k : Nat) A1 A2 k1 k2 W => root_fine c hf.ok (states c ds k) A1 A2 k1 k2 W)
    have HL1 := Lib.hid (states_len1 c ds)
    have HL2 := Lib.hid (states_len2 c ds)
    have HRR := Lib.hid (fun k => show (recC c ds k).root = rootS (states c ds (k + 1)) from rfl)
    have HRA := Lib.hid (fun (s t : Nat) (h : rootS (states c ds s) ≠ rootS (states c ds t)) => roots_apart h)
    have hst := hf.ok.st
    have n40 := hf.ok.n40
    have HR := Lib.hid (fun (x M : Int) h1 h2 W => rest_of x M h1 h2 W)
    have HSP := Lib.hid (fun (g n cp : Nat) (x : Int) (cur : Array Value) (w : World) hB hs hn hm => kp_spoil g n cp x cur w hB hs hn hm)
    rw [hC]
    clear hC HCO hf
    obtain ⟨st, hst'⟩ : ∃ st, st = states c ds := ⟨_, rfl⟩
    rw [← hst'] at HRN HRO HRT HL1 HL2 HRR HRA
    clear hst'
    obtain ⟨rc, hrc⟩ : ∃ rc, rc = recC c ds := ⟨_, rfl⟩
    rw [← hrc] at HMK HMO HWH HRR
    clear hrc
    go_upto_region 5 with fail
    go_cut [2] (fun v wx => ∃ r : Nat, (r : Int) ≤ c.steps ∧ r ≤ 4 ∧ v = .int .i64 r ∧ wx = w2)
    case first =>
      go_wp2_with fail
      all_goals
        refine (HR.out _ _ (by omega) (by omega) _).mono ?_
        rintro e w' ⟨r, hr, rfl, rfl⟩
        go_wp2
        go_meet
        case rel => exact ⟨r, by omega, by omega, rfl, rfl⟩
    case rest =>
      obtain ⟨N, hN, hN5, rfl, rfl⟩ := hcut
      go_wp2_with fail
      refine (HRN.out _ hw2 N hN).mono ?_
      rintro e w3 ⟨g, k', rfl, ⟨bd, hA, hMk⟩, hb3⟩
      have hw3 := hw2.trans (hb3.mono hw2.size)
      have h2c := HB0.lt
      replace HB0 := HB0.below hb3 HB0.lt
      have h3c := HB0.lt
      have hcap : N + 1 ≤ k' := by
        obtain ⟨A2, c2, e2, h1, _⟩ := Held.slice hA
        cases e2
        exact h1
      clear d0 d1 d2 d3 d4 d5 d6 d7 d8 d9 da hb3
      obtain ⟨d0, d1, d2, d3, d4, d5, d6, d7, d8, d9, da⟩ := HB0.cfg
      go_wp2_with fail
      refine (HMK.out _ hw3 N hN).mono ?_
      rintro e w4 ⟨R, rk, rfl, hR, hb4⟩
      have hw4 := hw3.trans (hb4.mono hw3.size)
      have HB4 := HB0.below hb4 HB0.lt
      have hA4 := hA.below (keepsO_st none) hb4
      have h2w := hw2.size
      have HRF := Lib.hid (fun (h : 0 < N) => show ∃ gr, R = some ⟨gr, 0, none⟩ from by
        obtain ⟨gr, c', hv, _⟩ := hR.form h
        injection hv with a _ _
        exact ⟨gr, a⟩)
      clear d0 d1 d2 d3 d4 d5 d6 d7 d8 d9 da hA HB0
      go_wp2
      go_loopw [11, 13, 14, 15, 56] (fun _ _ _ _ i wr => ∃ k : Nat, k ≤ N + 1 ∧ i = .int .i64 k ∧ FrS (SpS bd g k) w4 wr) (fun _ _ _ _ i _ => N + 1 - (intOf i).toNat)
      case atStart => exact ⟨0, by omega, rfl, FrS.refl _ _⟩
      case round =>
        obtain ⟨k, hk, rfl, hfr⟩ := hrel
        by_cases hlt : k < N + 1
        · obtain ⟨b1, c1, cur1, b2, c2, cur2, ⟨e1, e2⟩, ⟨B1, z1, m1, x1, _⟩, ⟨B2, z2, m2, x2, _⟩, n1, n2, u1, u2, hg⟩ := StHeldO.get (st := st) (bd := bd) hA4 hlt (HL1.out k) (HL2.out k)
          replace e1 := (hfr.cell (p := ⟨g, k * 2, none⟩) hg (SpS.self bd g k)).trans e1
          replace e2 := (hfr.cell (p := ⟨g, k * 2 + 1, none⟩) hg (SpS.self bd g k)).trans e2
          replace B1 := B1.frs hfr (SpS.later hMk (Nat.le_refl k) hlt u1.1)
          replace B2 := B2.frs hfr (SpS.later hMk (Nat.le_refl k) hlt u2.1)
          have k0 : (0 : Int) ≤ (k : Int) := by omega
          have k1 : (k : Int) < (N : Int) + 1 := by omega
          have hgr := Nat.lt_of_lt_of_le hg hfr.size
          go_wp2_with fail
          refine (HSP.out b1 c.N c1 3 cur1 _ B1 z1 m1 x1).mono ?_
          rintro e y1 ⟨rfl, ⟨cu1, C1, v1⟩, hbt1⟩
          obtain ⟨cu2, C2, v2⟩ := blk_again B1 z1 B2 z2 C1 v1 hbt1
          replace e1 := (World.cell?_of_block (a := ⟨g, k * 2, none⟩) (hbt1.block g hgr (Ne.symm n1))).trans e1
          replace e2 := (World.cell?_of_block (a := ⟨g, k * 2 + 1, none⟩) (hbt1.block g hgr (Ne.symm n1))).trans e2
          go_wp2_with fail
          refine (HSP.out b2 c.N c2 3 cu2 _ C2 v2 m2 x2).mono ?_
          rintro e y2 ⟨rfl, _, hbt2⟩
          have hfr2 : FrS (SpS bd g (k + 1)) w4 y2 := ((hfr.mono (fun b h => h.up)).but hbt1 ⟨k, by omega, u1.1, u1.2, n1⟩).but hbt2 ⟨k, by omega, u2.1, u2.2, n2⟩
          clear B1 B2 C1 C2 hbt1 hbt2 e1 e2 v1 v2 z1 z2 hfr
          have eK : IntKind.i64.wrap ((k : Int) + 1) = (k : Int) + 1 := wrap_small _ (by omega) (by omega)
          have kc0 : (0 : Int) ≤ (k : Int) + 1 := by omega
          have kc1 : (k : Int) + 1 ≤ (N : Int) + 1 := by omega
          have kc2 : (N : Int) + 1 ≤ (k' : Int) := by omega
          have kc3 : k + 1 ≤ N + 1 := by omega
          obtain ⟨z, rfl⟩ : ∃ z : World, z = y2 := ⟨_, rfl⟩
          go_upto_region 15 with fail
          go_cut [74, 75, 76] (fun v l j wx => (k < N → v = .slice (some ⟨g, (k + 1) * 2, none⟩) (N - k) (k' - (k + 1))) ∧ l = .int .i64 ((N - k : Nat) : Int) ∧ j = .int .i64 0 ∧ wx = z)
          case first =>
            by_cases hkN : k < N
            · have kc4 : ¬ k' = k + 1 := by omega
              go_wp2
              go_meet
              case rel => exact ⟨fun _ => by simp, by simp, rfl, rfl⟩
            · by_cases hk' : k' = k + 1
              · go_wp2
                go_meet
                case rel => exact ⟨fun h => absurd h hkN, by simp, rfl, rfl⟩
              · go_wp2
                go_meet
                case rel => exact ⟨fun h => absurd h hkN, by simp, rfl, rfl⟩
          case rest =>
            obtain ⟨hv, rfl, rfl, rfl⟩ := hcut
            obtain ⟨z2, rfl⟩ : ∃ z2 : World, z2 = wc := ⟨_, rfl⟩
            go_wp2
            go_loopw [13, 14, 15, 76] (fun _ _ _ j wr => ∃ p : Nat, p ≤ N - k ∧ j = .int .i64 p ∧ Below z2.heap.size z2 wr) (fun _ _ _ j _ => N - k - (intOf j).toNat)
            case atStart => exact ⟨0, by omega, rfl, Below.refl _ _⟩
            case round =>
              obtain ⟨p, hp, rfl, hbr⟩ := hrel
              by_cases hlp : p < N - k
              · have hkN : k < N := by omega
                obtain rfl := hv hkN
                obtain ⟨gr, rfl⟩ := HRF.out (by omega)
                obtain ⟨M, hM⟩ : ∃ M, M + 1 = N := ⟨N - 1, by omega⟩
                obtain ⟨q, hq⟩ : ∃ q, q = k + 1 + p := ⟨_, rfl⟩
                have hqN : q < N + 1 := by omega
                have hNN : N < N + 1 := by omega
                have ead : (k + 1) * 2 + p * 2 = q * 2 := by omega
                obtain ⟨b1, c1, cur1, b2, c2, cur2, ⟨e1, e2⟩, ⟨_, _, m1, _, i1⟩, ⟨_, _, m2, _, i2⟩, n1, n2, u1, u2, hg'⟩ := StHeldO.get (st := st) (bd := bd) hA4 hqN (HL1.out q) (HL2.out q)
                obtain ⟨b3, c3, cur3, b4, c4, cur4, ⟨f0, f1⟩, ⟨_, _, m3, _, i3⟩, ⟨_, _, m4, _, i4⟩, n3, n4, u3, u4, _⟩ := StHeldO.get (st := st) (bd := bd) hA4 hNN (HL1.out N) (HL2.out N)
                obtain ⟨br, cr, curr, ⟨_, _, _, r3, _⟩, _, _, _, _, _, _, hgr4, hgrB⟩ := RecHeldO.get hR (j := M) (by omega)
                have hfz := hfr2.below hbr
                have hgS := SpS.self bd g (k + 1)
                replace e1 := (hfz.cell (p := ⟨g, q * 2, none⟩) hg hgS).trans e1
                replace e2 := (hfz.cell (p := ⟨g, q * 2 + 1, none⟩) hg hgS).trans e2
                replace f0 := (hfz.cell (p := ⟨g, N * 2, none⟩) hg hgS).trans f0
                replace f1 := (hfz.cell (p := ⟨g, N * 2 + 1, none⟩) hg hgS).trans f1
                replace r3 := (hfz.cell (p := ⟨gr, M * 5 + 3, none⟩) hgr4 (SpS.above hMk (by omega) hgrB)).trans r3
                rw [HRR.out, hM] at r3
                replace i1 := i1.frs hfz (fun b off e => by cases e; exact SpS.later hMk (j := q) (by omega) hqN u1.1)
                replace i2 := i2.frs hfz (fun b off e => by cases e; exact SpS.later hMk (j := q) (by omega) hqN u2.1)
                replace i3 := i3.frs hfz (fun b off e => by cases e; exact SpS.later hMk (j := N) (by omega) hNN u3.1)
                replace i4 := i4.frs hfz (fun b off e => by cases e; exact SpS.later hMk (j := N) (by omega) hNN u4.1)
                rw [← ead] at e1 e2
                clear ead hq
                have hsz := hfz.size
                have bX : Below wr.heap.size wr (wr.alloc (.cells #[.slice (some ⟨b1, 0, none⟩) c.N c1, .slice (some ⟨b2, 0, none⟩) c.N c2] 28)) := (Below.refl _ _).alloc (Nat.le_refl _) _
                have BS := Blk.made wr 28 #[.slice (some ⟨b1, 0, none⟩) c.N c1, .slice (some ⟨b2, 0, none⟩) c.N c2]
                obtain ⟨W1, hW1⟩ : ∃ W1, W1 = wr.alloc (.cells #[.slice (some ⟨b1, 0, none⟩) c.N c1, .slice (some ⟨b2, 0, none⟩) c.N c2] 28) := ⟨_, rfl⟩
                rw [← hW1] at bX BS
                have HW1 := Lib.hid hW1
                clear hW1
                have g0 : (0 : Int) ≤ (p : Int) := by omega
                have g1 : (p : Int) < ((N - k : Nat) : Int) := by omega
                have g2 : p < N - k := hlp
                have eN : IntKind.i64.wrap ((N : Int) - 1) = (M : Int) := by rw [wrap_small _ (by omega) (by omega)]; omega
                have eA : IntKind.i64.wrap ((N : Int) + 1 - 1) = (N : Int) := by rw [wrap_small _ (by omega) (by omega)]; omega
                have eB : IntKind.i64.wrap (N : Int) = (N : Int) := wrap_small _ (by omega) (by omega)
                have g3 : (0 : Int) ≤ (M : Int) := by omega
                have g4 : (M : Int) < (N : Int) := by omega
                have g5 : (0 : Int) ≤ (N : Int) := by omega
                have g6 : (N : Int) < (N : Int) + 1 := by omega
                have HRTq := Lib.hid (HRT.out q (some ⟨b1, 0, none⟩) (some ⟨b2, 0, none⟩) c1 c2 W1 (i1.below bX) (i2.below bX))
                have HSS := Lib.hid (fun W (h : Below W1.heap.size W1 W) (hne : rootS (st q) ≠ rootS (st N)) => by
                  have h0 := ref_SameState (st q) (st N) (some ⟨b1, 0, none⟩) (some ⟨b2, 0, none⟩) (some ⟨b3, 0, none⟩) (some ⟨b4, 0, none⟩) c.N c.N c.N c.N c1 c2 c3 c4 W ((i1.below bX).below h) ((i2.below bX).below h) ((i3.below bX).below h) ((i4.below bX).below h) (.inl (by omega)) (.inl (by omega))
                  rw [HRA.out q N hne] at h0
                  exact h0)
                obtain ⟨rq, hrq⟩ : ∃ rq, rq = rootS (st q) := ⟨_, rfl⟩
                obtain ⟨rn, hrn⟩ : ∃ rn, rn = rootS (st N) := ⟨_, rfl⟩
                rw [← hrq] at HRTq HSS
                rw [← hrn] at r3 HSS
                clear hrq hrn i1 i2 i3 i4 hM
                go_wp2_with fail
                rw [← HW1.out]
                refine HRTq.out.mono ?_
                rintro e u ⟨rfl, hbu⟩
                have hbWu := bX.trans (hbu.mono bX.size)
                have hbu2 := hbr.trans (hbWu.mono hbr.size)
                obtain ⟨⟨t0, t1⟩, _⟩ := (BS.below hbu BS.lt).two
                replace f0 := (hbWu.cell (p := ⟨g, N * 2, none⟩) (show g < wr.heap.size by omega)).trans f0
                replace f1 := (hbWu.cell (p := ⟨g, N * 2 + 1, none⟩) (show g < wr.heap.size by omega)).trans f1
                replace r3 := (hbWu.cell (p := ⟨gr, M * 5 + 3, none⟩) (show gr < wr.heap.size by omega)).trans r3
                have cS := Lib.hid (fun hne d os => Calls.regrown_of (HSS.out (grow (redrawn u d) os) (hbu.trans ((below_regrown u d os).mono hbu.size)) hne))
                clear e1 e2
                have K_f0 := cell_regrown f0
                have K_f1 := cell_regrown f1
                have K_t0 := cell_regrown t0
                have K_t1 := cell_regrown t1
                have K_r3 := cell_regrown r3
                clear f0 f1 t0 t1 r3
                by_cases hx : rq = rn
                · have t : (rq != rn) = false := by rw [hx]; simp
                  clear hx
                  go_upto_region 19 with fail
                  refine wp_region_quiet_below (by kernel_rfl) (by kernel_rfl) ?_
                  iterate 23 (go_big_quiet_step (fail))
                  refine wpQuiet_nil ?_
                  intro _ hw'
                  obtain ⟨⟨dq, osq⟩, hw''⟩ := hw'
                  have hu : Below u.heap.size u (grow (redrawn u dq) osq) := below_regrown u dq osq
                  subst hw''
                  go_wp2
                  go_roundw
                  case rel => exact ⟨p + 1, by omega, by go_num, hbu2.trans (hu.mono hbu2.size)⟩
                  case measure => simp [intOf]; omega
                · have t : (rq != rn) = true := by rw [bne_iff_ne]; exact hx
                  have cS2 := Lib.hid (fun d os => cS.out hx d os)
                  clear hx
                  go_upto_region 19 with fail
                  refine wp_region_quiet_below (by kernel_rfl) (by kernel_rfl) ?_
                  iterate 23 (go_big_quiet_step (with_reducible exact cS2.out _ _))
                  refine wpQuiet_nil ?_
                  intro _ hw'
                  obtain ⟨⟨dq, osq⟩, hw''⟩ := hw'
                  have hu : Below u.heap.size u (grow (redrawn u dq) osq) := below_regrown u dq osq
                  subst hw''
                  go_wp2
                  go_roundw
                  case rel => exact ⟨p + 1, by omega, by go_num, hbu2.trans (hu.mono hbu2.size)⟩
                  case measure => simp [intOf]; omega
              · obtain rfl : p = N - k := by omega
                have hfz := hfr2.below hbr
                go_wp2
                go_roundw
                case rel => exact ⟨k + 1, by omega, by go_num, hfz⟩
                case measure => simp [intOf]; omega
        · have hBP := (BatP.of hR).frs hfr (fun b h => SpS.above hMk hk h)
          have hwr := hfr.toBelow hw4 hw4.size (fun b h => Nat.le_trans h2w (SpS.low hMk hk h))
          have kf : ¬ (k : Int) < (N : Int) + 1 := by omega
          have hHB := HB4.frs hfr (fun h => by have := SpS.low hMk hk h; omega)
          clear hlt hk
          have h3w := hw3.size
          clear hR hA4 hMk hfr HRF
          obtain ⟨z, rfl⟩ : ∃ z : World, z = wr := ⟨_, rfl⟩
          obtain ⟨B3, hB3⟩ : ∃ B3, B3 = w3.heap.size := ⟨_, rfl⟩
          rw [← hB3] at hBP h3w h3c
          clear hB3
          go_wp2
          go_loopw [17, 112] (fun _ j wr => ∃ q : Nat, q ≤ N ∧ j = .int .i64 q ∧ BatP R N B3 rc wr ∧ Below B3 z wr) (fun _ j _ => N - (intOf j).toNat)
          case atStart => exact ⟨0, by omega, rfl, hBP, Below.refl _ _⟩
          case round =>
            clear hBP
            obtain ⟨q, hq, rfl, hBP, hbr⟩ := hrel
            by_cases hlq : q < N
            · obtain ⟨gr, L1, c1, cu, rfl, ⟨r0, r1, r2, r3, r4⟩, C1, v1, m1, x1, nL, hL, hgr, hgB⟩ := hBP q hlq
              have g0 : (0 : Int) ≤ (q : Int) := by omega
              have g1 : (q : Int) < (N : Int) := by omega
              have bX : Below wr.heap.size wr (wr.alloc (.cells #[.int .i64 (rc q).step, .slice (some ⟨L1, 0, none⟩) (rc q).batch.length c1, .int .i64 (rc q).rate, .int .u64 (rc q).root, .int .u64 (rc q).chain] 30)) := (Below.refl _ _).alloc (Nat.le_refl _) _
              obtain ⟨W1, hW1⟩ : ∃ W1, W1 = wr.alloc (.cells #[.int .i64 (rc q).step, .slice (some ⟨L1, 0, none⟩) (rc q).batch.length c1, .int .i64 (rc q).rate, .int .u64 (rc q).root, .int .u64 (rc q).chain] 30) := ⟨_, rfl⟩
              rw [← hW1] at bX
              have HW1 := Lib.hid hW1
              clear hW1
              have C2 := C1.below bX C1.lt
              have hBP1 := hBP.below bX
              go_wp2_with fail
              rw [← HW1.out]
              refine (HSP.out L1 (rc q).batch.length c1 99 cu W1 C2 v1 m1 x1).mono ?_
              rintro e u ⟨rfl, ⟨cu', C3, v3⟩, hbt⟩
              have hBP2 := hBP1.spoilt rfl nL C2 v1 C3 v3 hbt
              have hbu : Below B3 z u := but_to (hbr.trans (bX.mono (by have := C1.lt; omega))) hbt hL (by have := C2.lt; omega)
              go_wp2
              go_roundw
              case rel => exact ⟨q + 1, by omega, by go_num, hBP2, hbu⟩
              case measure => simp [intOf]; omega
            · obtain rfl : q = N := by omega
              have hwz := hwr.trans (hbr.mono h3w)
              have HB5 := hHB.below hbr h3c
              obtain ⟨d0, d1, d2, d3, d4, d5, d6, d7, d8, d9, da⟩ := HB5.cfg
              have eN : IntKind.i64.wrap ((q : Int) + 1) = (q : Int) + 1 := wrap_small _ (by omega) (by omega)
              clear hBP hbr hwr hHB h3w h3c h2c h2w hw4 HB4
              go_wp2_with fail
              refine (HRO.out _ hwz q hN).mono ?_
              rintro e x5 ⟨g5, k5, rfl, _, hb5⟩
              have hw5 := hwz.trans (hb5.mono hwz.size)
              have HB6 := HB5.below hb5 HB5.lt
              clear d0 d1 d2 d3 d4 d5 d6 d7 d8 d9 da HB5 hb5 hwz
              obtain ⟨d0, d1, d2, d3, d4, d5, d6, d7, d8, d9, da⟩ := HB6.cfg
              go_wp2_with fail
              refine (HMO.out _ hw5 q hN).mono ?_
              rintro e x6 ⟨A6, k6, rfl, hL6, hb6⟩
              have hw6 := hw5.trans (hb6.mono hw5.size)
              have HB7 := HB6.below hb6 HB6.lt
              clear d0 d1 d2 d3 d4 d5 d6 d7 d8 d9 da HB6 hb6 hw5
              obtain ⟨d0, d1, d2, d3, d4, d5, d6, d7, d8, d9, da⟩ := HB7.cfg
              go_wp2_with fail
              refine (HWH.out _ hw6 A6 q k6 rc (RecHeld.recs hL6).weak hN).mono ?_
              rintro e x7 ⟨Q, hQ, rfl, hb7⟩
              obtain rfl : q = Q := (first_self hQ).symm
              go_wp2
              go_ret
              exact ⟨by simp, hw6.trans (hb7.mono hw6.size)⟩
  · have t : (crs c ds != 0) = true := by rw [bne_iff_ne]; exact hC
    obtain ⟨x, hx⟩ : ∃ x, x = crs c ds := ⟨_, rfl⟩
    rw [← hx] at t ⊢
    clear hC hx HCO
    go_wp2
    go_ret
    exact ⟨rfl, hw2⟩

set_option maxRecDepth 100000 in
theorem coursesOwn_lifted (os : Os) (started : os.Started) (H : Type) (enc : TypeId × Value → H) :
    ReturnsInHanded {} Try.checked os 6 .any (Rows.coursesOwnSpec.pre6 enc Try.prog Try.f6 Rows.coursesOwnRow.domain false) (Rows.coursesOwnSpec.post enc Try.prog Try.f6 false true false false) := by
  refine lift_law (fn := Try.f6) started (by kernel_rfl) Try.func6
    (ChangeSpec.witness6 (enc := enc) (C := Try.checked) false ⟨#[], #[.agg #[.int .i64 0, .int .i64 0, .int .i64 0, .int .u64 0, .int .i64 0, .int .i64 0, .int .i64 0, .int .i64 0, .int .i64 0, .int .i64 0, .int .i64 0], .slice none 0 0, .int .i64 0], []⟩ 8 (by kernel_rfl) (by kernel_rfl) (by kernel_rfl) (by kernel_rfl)) (by kernel_rfl) rfl Try.underlying4 rfl ?_ ?_
  · intro ds h
    rw [Try.params6] at h
    match ds, h with
    | [d0, d1, d2], _ => rfl
  · intro W args ds ps hA hlt hval hsz
    rw [Try.params6] at hA hval hsz
    obtain ⟨v0, vs0, d0, ds0, p0, q0, hargs, rfl, rfl, H0, T0⟩ := trodAll_cons hA
    obtain ⟨v1, vs1, d1, ds1, p1, q1, rfl, rfl, rfl, H1, T1⟩ := trodAll_cons T0
    obtain ⟨v2, vs2, d2, ds2, p2, q2, rfl, rfl, rfl, H2, T2⟩ := trodAll_cons T1
    obtain ⟨rfl, rfl, rfl⟩ := trodAll_nil T2
    obtain rfl : args = #[v0, v1, v2] := by cases args; simp_all
    obtain ⟨b0, hv0⟩ := hval 0 24 v0 rfl rfl
    obtain ⟨b1, hv1⟩ := hval 1 25 v1 rfl rfl
    obtain ⟨b2, hv2⟩ := hval 2 3 v2 rfl rfl
    obtain ⟨c, rfl, cw⟩ := arg_cfg hv0 H0
    obtain ⟨D, n, dc, ds, rfl, hd, hn⟩ := arg_data (j := 1) (fun _ => rfl) hv1 H1 hsz rfl rfl
    obtain ⟨m0, rfl, _⟩ := arg_int hv2 H2
    have hs := wf_u64 cw.2.2.2.1
    exact coursesOwn_walk c hs.1 (by omega) D n dc ds W hd hn m0
theorem CoursesOwn_holds : Rows.CoursesOwnSaid :=
  OpenClaim.holds_of_wide 6 Try.f6 rfl rfl rfl rfl rfl rfl rfl ⟨rfl, rfl, rfl, rfl, rfl⟩ rfl rfl rfl rfl rfl (by kernel_rfl) Try.func6 (by kernel_rfl)
    (of_decide_eq_true (by kernel_rfl)) (by unfold Func.isWrapper; first | (rw [if_pos (by decide +kernel)]; kernel_rfl) | (rw [if_neg (by decide +kernel)]; exact ⟨rfl, rfl⟩))
    (fun os started H enc _ => coursesOwn_lifted os started H enc)

end Go.Proofs.Ytcfmjpcbiomdbaa
