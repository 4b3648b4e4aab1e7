/- Package spot: Prove, of a course that is right: a walk. -/
import Derived.Test.YtblkpibbcapdeaaJrnA
import Derived.Test.YtblkpibbcapdeaaRecW
namespace Go.Proofs.Ytblkpibbcapdeaa
open Go.RowKit Pl

/-- A state told beside an error. -/
def StTold (w : World) (N : Nat) (s : List Int × List Int) (e : Ending) (w' : World) : Prop :=
  ∃ A1 k1 A2 k2, e = .returned (.tuple #[.agg #[.slice A1 N k1, .slice A2 N k2], .int .i64 0]) ∧ Ints .i64 w' A1 N s.1 ∧ Ints .i64 w' A2 N s.2 ∧ N ≤ k1 ∧ Below w.heap.size w w'

/-- A list of numbers doesn't lie in a block that holds two slices. -/
theorem ints_off {k : IntKind} {w : World} {A : Option Addr} {n : Nat} {xs : List Int} {g : Nat} {t : TypeId} {a1 a2 : Option Addr} {n1 c1 n2 c2 : Nat} (h : Ints k w A n xs) (hb : Blk w g t #[.slice a1 n1 c1, .slice a2 n2 c2]) (i : Nat) (v : Value) : Ints k (w.setCell ⟨g, i, none⟩ v) A n xs := by
  refine ⟨h.len, fun hn => ?_⟩
  obtain ⟨b, off, e, hl, hc⟩ := h.cells hn
  have hne : b ≠ g := by
    intro hbg
    subst hbg
    have h0 := hc 0 hn
    rw [hb.cell (off + 0)] at h0
    match off, h0 with
    | 0, h0 => cases h0
    | 1, h0 => cases h0
    | m + 2, h0 => simp at h0
  refine ⟨b, off, e, by simpa using hl, fun j hj => ?_⟩
  exact (World.cell?_of_block (a := ⟨b, off + j, none⟩) (heap_setCell_other w ⟨g, i, none⟩ b v (fun e => hne e))).trans (hc j hj)

end Go.Proofs.Ytblkpibbcapdeaa

/- Package spot: Holds, right or wrong: a walk. -/
namespace Go.Proofs.Ytblkpibbcapdeaa
open Go.RowKit Pl

def holdsB (c : Cfg) (ds : Data) (s : List Int × List Int) (k : Nat) (root : Int) (r : Rec) : Bool :=
  (rootS s == root % 2305843009213693951) && (r.step == (k : Int)) && decide (r.batch = (batI c ds k).map fun (n : Nat) => (n : Int)) && (r.rate == ratI c k) && (r.root == rootS (nextS c ds s k))

set_option maxRecDepth 100000 in
set_option maxHeartbeats 2000000 in
theorem spot_Holds_no (c : Cfg) (ds : Data) (D : Option Addr) (n dc : Nat) (w : World) (hd : Duos w D n ds) (hn : n ≤ 9223372036854775806) (s : List Int × List Int) (A1 A2 : Option Addr) (n1 n2 k1 k2 : Nat) (i1 : Ints .i64 w A1 n1 s.1) (i2 : Ints .i64 w A2 n2 s.2) (z1 : n1 ≤ 9223372036854775807) (z2 : n2 ≤ 9223372036854775807) (step root : Int) (A : Option Addr) (m k : Nat) (r : Rec) (he : nextE c ds s step ≠ 0) :
    Calls Try.prog 11 #[.agg #[.int .i64 c.ci, .int .i64 c.ch, .int .i64 c.co, .int .u64 c.seed, .int .i64 c.batch, .int .i64 c.steps, .int .i64 c.rate, .int .i64 c.decay, .int .i64 c.how, .int .i64 c.keep, .int .i64 c.clip], .slice D n dc, .int .i64 step, .int .u64 root, .agg #[.slice A1 n1 k1, .slice A2 n2 k2], .agg #[.int .i64 r.step, .slice A m k, .int .i64 r.rate, .int .u64 r.root, .int .u64 r.chain]] w fun e w' => e = .returned (.tuple #[.bool false, .int .i64 (nextE c ds s step)]) ∧ Below w.heap.size w w' := by
  have HNX := Lib.hid (fun W (h : Below w.heap.size w W) => trn_Next_no c ds D n dc W (hd.below h) hn s A1 A2 n1 n2 k1 k2 (i1.below h) (i2.below h) z1 z2 step he)
  have b0 : Below w.heap.size w (((w.alloc (.cells #[.int .i64 c.ci, .int .i64 c.ch, .int .i64 c.co, .int .u64 c.seed, .int .i64 c.batch, .int .i64 c.steps, .int .i64 c.rate, .int .i64 c.decay, .int .i64 c.how, .int .i64 c.keep, .int .i64 c.clip] 24)).alloc (.cells #[.slice A1 n1 k1, .slice A2 n2 k2] 28)).alloc (.cells #[.int .i64 r.step, .slice A m k, .int .i64 r.rate, .int .u64 r.root, .int .u64 r.chain] 30)) := (by repeat (first | exact Below.refl _ _ | assumption | refine bel_drewN ?_ _ | refine Below.drew ?_ | (refine Below.alloc ?_ (by simp <;> omega) _) | (refine Below.setCell ?_ (by simp <;> omega) _)))
  have t : (nextE c ds s step != 0) = true := by rw [bne_iff_ne]; exact he
  obtain ⟨x, hx⟩ : ∃ x, x = nextE c ds s step := ⟨_, rfl⟩
  rw [← hx] at HNX t ⊢
  clear hx he hd i1 i2
  go_enter Try.func11, Try.ntmps11
  go_wp2_with fail
  refine (HNX.out _ b0).mono ?_
  rintro e x1 ⟨rfl, hb1⟩
  have hbw := b0.trans (hb1.mono b0.size)
  go_wp2
  go_ret2
  exact ⟨rfl, hbw.alloc hbw.size _⟩

set_option maxRecDepth 100000 in
set_option maxHeartbeats 4000000 in
theorem spot_Holds_ok (c : Cfg) (ds : Data) (hC : crs c ds = 0) (s0 : 0 ≤ c.seed) (s1 : c.seed < 18446744073709551616) (D : Option Addr) (n dc : Nat) (w : World) (hd : Duos w D n ds) (s : List Int × List Int) (hs : fits c s = true) (A1 A2 : Option Addr) (k1 k2 : Nat)
    (i1 : Ints .i64 w A1 c.N s.1) (i2 : Ints .i64 w A2 c.N s.2) (hk1 : c.N ≤ k1) (j : Nat) (hj : (j : Int) < c.steps) (root : Int) (hr0 : 0 ≤ root) (A : Option Addr) (m k : Nat) (r : Rec) (hI : Ints .i64 w A m r.batch) :
    Calls Try.prog 11 #[.agg #[.int .i64 c.ci, .int .i64 c.ch, .int .i64 c.co, .int .u64 c.seed, .int .i64 c.batch, .int .i64 c.steps, .int .i64 c.rate, .int .i64 c.decay, .int .i64 c.how, .int .i64 c.keep, .int .i64 c.clip], .slice D n dc, .int .i64 j, .int .u64 root, .agg #[.slice A1 c.N k1, .slice A2 c.N k2], .agg #[.int .i64 r.step, .slice A m k, .int .i64 r.rate, .int .u64 r.root, .int .u64 r.chain]] w fun e w' => e = .returned (.tuple #[.bool (holdsB c ds s j root r), .int .i64 0]) ∧ Below w.heap.size w w' := by
  have hok := (fine hC).ok
  have hba := hok.ba
  obtain ⟨f1, f2, _, _⟩ := fits_iff.1 (fits_next ds hs j)
  have HNX := Lib.hid (fun W (h : Below w.heap.size w W) => trn_Next_ok c ds hC s0 s1 D n dc W (hd.below h) s hs A1 A2 k1 k2 (i1.below h) (i2.below h) hk1 j hj)
  have HR1 := Lib.hid (fun W (h : Below w.heap.size w W) => root_fine c hok s A1 A2 k1 k2 W (i1.below h) (i2.below h))
  have HR2 := Lib.hid (fun A1 A2 k1 k2 W => root_fine c hok (nextS c ds s j) A1 A2 k1 k2 W)
  have HF1 := Lib.hid f1
  have HF2 := Lib.hid f2
  have HBL := Lib.hid (show ((batI c ds j).map fun (n : Nat) => (n : Int)).length = c.batch.toNat by rw [List.length_map, batI_length])
  have HHB := Lib.hid (show holdsB c ds s j root r = ((rootS s == root % 2305843009213693951) && (r.step == (j : Int)) && decide (r.batch = (batI c ds j).map fun (n : Nat) => (n : Int)) && (r.rate == ratI c j) && (r.root == rootS (nextS c ds s j))) from rfl)
  have HB1 := (Blk.made' (w.alloc (.cells #[.int .i64 c.ci, .int .i64 c.ch, .int .i64 c.co, .int .u64 c.seed, .int .i64 c.batch, .int .i64 c.steps, .int .i64 c.rate, .int .i64 c.decay, .int .i64 c.how, .int .i64 c.keep, .int .i64 c.clip] 24)) 28 #[.slice A1 c.N k1, .slice A2 c.N k2] (g := w.heap.size + 1) (by simp)).alloc (.cells #[.int .i64 r.step, .slice A m k, .int .i64 r.rate, .int .u64 r.root, .int .u64 r.chain] 30)
  have HB2 := Blk.made' ((w.alloc (.cells #[.int .i64 c.ci, .int .i64 c.ch, .int .i64 c.co, .int .u64 c.seed, .int .i64 c.batch, .int .i64 c.steps, .int .i64 c.rate, .int .i64 c.decay, .int .i64 c.how, .int .i64 c.keep, .int .i64 c.clip] 24)).alloc (.cells #[.slice A1 c.N k1, .slice A2 c.N k2] 28)) 30 #[.int .i64 r.step, .slice A m k, .int .i64 r.rate, .int .u64 r.root, .int .u64 r.chain] (g := w.heap.size + 1 + 1) (by simp)
  have b0 : Below w.heap.size w (((w.alloc (.cells #[.int .i64 c.ci, .int .i64 c.ch, .int .i64 c.co, .int .u64 c.seed, .int .i64 c.batch, .int .i64 c.steps, .int .i64 c.rate, .int .i64 c.decay, .int .i64 c.how, .int .i64 c.keep, .int .i64 c.clip] 24)).alloc (.cells #[.slice A1 c.N k1, .slice A2 c.N k2] 28)).alloc (.cells #[.int .i64 r.step, .slice A m k, .int .i64 r.rate, .int .u64 r.root, .int .u64 r.chain] 30)) := (by repeat (first | exact Below.refl _ _ | assumption | refine bel_drewN ?_ _ | refine Below.drew ?_ | (refine Below.alloc ?_ (by simp <;> omega) _) | (refine Below.setCell ?_ (by simp <;> omega) _)))
  have HEQ := Lib.hid (fun W (h : Below w.heap.size w W) (B : Option Addr) (d : Nat) (hB : Ints .i64 W B c.batch.toNat ((batI c ds j).map fun (n : Nat) => (n : Int))) (b : Bool) (hb : decide (r.batch = (batI c ds j).map fun (n : Nat) => (n : Int)) = b) => eq_any2 (c := k) (d := d) hb (hI.below h) hB (.inr (by omega)))
  obtain ⟨xm, hxm⟩ : ∃ xm, root % 2305843009213693951 = xm := ⟨_, rfl⟩
  have hxt : root.tmod 2305843009213693951 = xm := by rw [Int.tmod_eq_emod_of_nonneg hr0]; exact hxm
  have xb : 0 ≤ xm ∧ xm < 2305843009213693951 := by omega
  rw [hxm] at HHB
  obtain ⟨bt, hbt⟩ : ∃ bt, bt = (batI c ds j).map fun (n : Nat) => (n : Int) := ⟨_, rfl⟩
  have HBT := Lib.hid hbt
  obtain ⟨nx, hnx⟩ : ∃ nx, nx = nextS c ds s j := ⟨_, rfl⟩
  have HNE := Lib.hid hnx
  rw [← hbt] at HBL HHB HEQ
  rw [← hnx] at HR2 HF1 HF2 HHB
  clear hbt hnx hC hok f1 f2 hd i1 i2 hs hI hxm
  go_enter Try.func11, Try.ntmps11
  go_wp2_with fail
  refine (HNX.out _ b0).mono ?_
  rintro e x1 ⟨B1, q1, B2, q2, E, ec, rfl, O1, O2, O3, hb1⟩
  rw [← HNE.out] at O1 O2
  rw [← HBT.out] at O3
  have hbw := b0.trans (hb1.mono b0.size)
  replace HB1 := HB1.below hb1 HB1.lt
  replace HB2 := HB2.below hb1 HB2.lt
  have I1 := Ints.of_own O1 HF1.out
  have I2 := Ints.of_own O2 HF2.out
  have I3 := Ints.of_own O3 HBL.out
  have bA : Below x1.heap.size x1 (x1.alloc (.cells #[.slice B1 c.N q1, .slice B2 c.N q2] 28)) := (Below.refl _ _).alloc (Nat.le_refl _) _
  have BT := Blk.made x1 28 #[.slice B1 c.N q1, .slice B2 c.N q2]
  obtain ⟨⟨p0, p1⟩, _⟩ := HB1.two
  have hl1 := HB1.lt
  clear O1 O2 O3 hb1 b0
  go_wp2_with fail
  refine (HR1.out _ (hbw.trans (bA.mono hbw.size))).mono ?_
  rintro e x2 ⟨rfl, hb2⟩
  have h12 := bA.trans (hb2.mono bA.size)
  obtain ⟨⟨t0, t1⟩, _⟩ := (BT.below hb2 BT.lt).two
  clear p0 p1 hb2
  go_wp2_with fail
  refine (HR2.out B1 B2 q1 q2 _ (I1.below h12) (I2.below h12)).mono ?_
  rintro e x3 ⟨rfl, hb3⟩
  have h13 := bel_trans h12 hb3
  have hbw3 := hbw.trans (h13.mono hbw.size)
  obtain ⟨⟨r0, r1, r2, r3, r4⟩, _⟩ := (HB2.below h13 HB2.lt).rec5
  have I33 := I3.below h13
  have HQ := Lib.hid (fun b hb => HEQ.out x3 hbw3 E ec I33 b hb)
  clear t0 t1 hb3 h12 BT bA I1 I2 I3 I33 HB1 HB2
  obtain ⟨ra, hra⟩ : ∃ ra, ra = rootS s := ⟨_, rfl⟩
  obtain ⟨rb, hrb⟩ : ∃ rb, rb = rootS nx := ⟨_, rfl⟩
  rw [← hra, ← hrb] at HHB
  rw [← hra, ← hrb]
  clear hra hrb
  cases e1 : (ra == xm)
  · have F := Lib.hid (show holdsB c ds s j root r = false by rw [HHB.out, e1]; rfl)
    go_wp2
    go_ret2
    rw [F.out]
    exact ⟨rfl, hbw3⟩
  · cases e2 : (r.step == (j : Int))
    · have F := Lib.hid (show holdsB c ds s j root r = false by rw [HHB.out, e2]; simp)
      go_wp2
      go_ret2
      rw [F.out]
      exact ⟨rfl, hbw3⟩
    · cases e3 : decide (r.batch = bt)
      · have F := Lib.hid (show holdsB c ds s j root r = false by rw [HHB.out, e3]; simp)
        have HC := Lib.hid (HQ.out false e3)
        clear e3
        go_wp2_with fail
        refine HC.out.mono ?_
        rintro e x4 ⟨rfl, q4, rfl⟩
        go_wp2
        go_ret2
        rw [F.out]
        exact ⟨rfl, bel_drewN hbw3 _⟩
      · have HC := Lib.hid (HQ.out true e3)
        cases e4 : (r.rate == ratI c j)
        · have F := Lib.hid (show holdsB c ds s j root r = false by rw [HHB.out, e4]; simp)
          clear e3
          go_wp2_with fail
          refine HC.out.mono ?_
          rintro e x4 ⟨rfl, q4, rfl⟩
          go_wp2
          go_ret2
          rw [F.out]
          exact ⟨rfl, bel_drewN hbw3 _⟩
        · cases e5 : (r.root == rb)
          · have F := Lib.hid (show holdsB c ds s j root r = false by rw [HHB.out, e5]; simp)
            clear e3
            go_wp2_with fail
            refine HC.out.mono ?_
            rintro e x4 ⟨rfl, q4, rfl⟩
            go_wp2
            go_ret2
            rw [F.out]
            exact ⟨rfl, bel_drewN hbw3 _⟩
          · have F := Lib.hid (show holdsB c ds s j root r = true by rw [HHB.out, e1, e2, e3, e4, e5]; rfl)
            clear e3
            go_wp2_with fail
            refine HC.out.mono ?_
            rintro e x4 ⟨rfl, q4, rfl⟩
            go_wp2
            go_ret2
            rw [F.out]
            exact ⟨rfl, bel_drewN hbw3 _⟩
end Go.Proofs.Ytblkpibbcapdeaa

/- Package audit: Judge, right or wrong: walks. -/
namespace Go.Proofs.Ytblkpibbcapdeaa
open Go.RowKit Pl

/-- A step's record, its chain but. -/
def recN (c : Cfg) (ds : Data) (s : List Int × List Int) (k : Nat) : Rec := ⟨k, (batI c ds k).map fun (n : Nat) => (n : Int), ratI c k, rootS (nextS c ds s k), 0⟩
def judgeN (a b x : Rec) : Int := (if likeR a x then 1 else 0) + (if likeR b x then 2 else 0)

end Go.Proofs.Ytblkpibbcapdeaa

/- What is wrong with a step, as the laws say it: a walk. -/
namespace Go.Proofs.Ytblkpibbcapdeaa
open Go.RowKit Pl

theorem fits_B {c : Cfg} (h : c.Ok) {s : List Int × List Int} {n1 n2 : Nat} (l1 : s.1.length = n1) (l2 : s.2.length = n2) : fitsB (sizeP c.ci c.ch c.co) n1 n2 s.1 s.2 = fits c s := by
  unfold fitsB fits
  rw [← h.n, ← l1, ← l2]
  have e : ∀ a b : Nat, ((a : Int) == (b : Int)) = (a == b) := fun a b => by
    rw [Bool.eq_iff_iff, beq_iff_eq, beq_iff_eq]; omega
  rw [e, e]
end Go.Proofs.Ytblkpibbcapdeaa
