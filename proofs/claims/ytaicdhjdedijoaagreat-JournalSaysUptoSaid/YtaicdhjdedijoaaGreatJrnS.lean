/- The law JournalSays, where what comes in is not too long: the walk. -/
import Derived.Test.YtaicdhjdedijoaaGreatRJrn
import Derived.Test.YtaicdhjdedijoaaGreatRecS
import Derived.Test.YtaicdhjdedijoaaGreatArgR
import Derived.Test.YtaicdhjdedijoaaGreatUpto
import Derived.Deep.DeepCutAuto
import Derived.Deep.CutBlock
import Derived.Outline
namespace Go.Proofs.YtaicdhjdedijoaaGreat
open Go.ChangeShapes Go.WideShapes Go.ChangeAt Go.RowKit Pl

def mkE (c : Cfg) (ds : Data) (N0 : Int) : Int := if crs c ds ≠ 0 then crs c ds else if 0 ≤ N0 ∧ N0 ≤ c.steps then 0 else 1
def mkN (c : Cfg) (ds : Data) (N0 : Int) : Nat := if mkE c ds N0 = 0 then N0.toNat else 0
def headO (c : Cfg) (ds : Data) : Int := if crs c ds = 0 then headI c ds else 0
theorem mk_crs {c : Cfg} {ds : Data} {N0 : Int} (h : crs c ds ≠ 0) : mkE c ds N0 = crs c ds ∧ mkN c ds N0 = 0 ∧ headO c ds = 0 := by
  have e : mkE c ds N0 = crs c ds := if_pos h
  exact ⟨e, if_neg (by rw [e]; exact h), if_neg h⟩
theorem mk_arg {c : Cfg} {ds : Data} {N0 : Int} (h : crs c ds = 0) (h2 : ¬ (0 ≤ N0 ∧ N0 ≤ c.steps)) : mkE c ds N0 = 1 ∧ mkN c ds N0 = 0 ∧ headO c ds = headI c ds := by
  have e : mkE c ds N0 = 1 := by unfold mkE; rw [if_neg (by simp [h]), if_neg h2]
  exact ⟨e, if_neg (by rw [e]; decide), if_pos h⟩
theorem mk_ok {c : Cfg} {ds : Data} {N : Nat} (h : crs c ds = 0) (h2 : (N : Int) ≤ c.steps) : mkE c ds N = 0 ∧ mkN c ds N = N ∧ headO c ds = headI c ds := by
  have e : mkE c ds N = 0 := by unfold mkE; rw [if_neg (by simp [h]), if_pos (by omega)]
  exact ⟨e, by unfold mkN; rw [if_pos e]; simp, if_pos h⟩
theorem mkN_bd (c : Cfg) (ds : Data) (N0 : Int) : mkN c ds N0 ≤ 9223372036854775806 ∧ ∀ j, j < mkN c ds N0 → (recAt (upto (recC c ds) (mkN c ds N0)) j).batch.length ≤ 9223372036854775806 := by
  by_cases hC : crs c ds = 0
  · have hf := fine hC
    have hba := hf.ok.ba
    have hst := hf.ok.st
    refine ⟨?_, fun j hj => recC_short c ds hba.2 hj⟩
    by_cases hN : 0 ≤ N0 ∧ N0 ≤ c.steps
    · obtain ⟨N, rfl⟩ : ∃ N : Nat, N0 = (N : Int) := ⟨N0.toNat, by omega⟩
      rw [(mk_ok (ds := ds) hC hN.2).2.1]; omega
    · rw [(mk_arg hC hN).2.1]; omega
  · rw [(mk_crs (N0 := N0) hC).2.1]
    exact ⟨by omega, fun j hj => absurd hj (by omega)⟩
theorem recs_none {w : World} (rs : Nat → Rec) : RecsR w none 0 (upto rs 0) := ⟨rfl, fun h => absurd h (by omega)⟩

set_option maxRecDepth 100000 in
set_option maxHeartbeats 2000000 in
theorem jrn_Make_arg (c : Cfg) (ds : Data) (hC : crs c ds = 0) (s0 : 0 ≤ c.seed) (s1 : c.seed < 18446744073709551616) (D : Option Addr) (n dc : Nat) (w : World) (hd : Duos w D n ds) (N0 : Int) (hN : ¬ (0 ≤ N0 ∧ N0 ≤ c.steps)) :
    Calls Tryz.prog 30 #[.agg #[.int .i64 c.ci, .int .i64 c.ch, .int .i64 c.co, .int .u64 c.seed, .int .i64 c.batch, .int .i64 c.steps, .int .i64 c.rate, .int .i64 c.decay, .int .i64 c.how, .int .i64 c.keep, .int .i64 c.clip], .slice D n dc, .int .i64 N0] w fun e w' => e = .returned (.tuple #[.slice none 0 0, .int .i64 1]) ∧ Below w.heap.size w w' := by
  have HCK := Lib.hid (fun W (h : Below w.heap.size w W) => jrn_Head_ok c ds hC s0 s1 D n dc W (hd.below h))
  have HB0 := Blk.made w 24 #[.int .i64 c.ci, .int .i64 c.ch, .int .i64 c.co, .int .u64 c.seed, .int .i64 c.batch, .int .i64 c.steps, .int .i64 c.rate, .int .i64 c.decay, .int .i64 c.how, .int .i64 c.keep, .int .i64 c.clip]
  have b0 : Below w.heap.size w (w.alloc (.cells #[.int .i64 c.ci, .int .i64 c.ch, .int .i64 c.co, .int .u64 c.seed, .int .i64 c.batch, .int .i64 c.steps, .int .i64 c.rate, .int .i64 c.decay, .int .i64 c.how, .int .i64 c.keep, .int .i64 c.clip] 24)) := (Below.refl _ _).alloc (Nat.le_refl _) _
  have h4 : ¬ N0 < 0 → c.steps < N0 := by omega
  clear hC hN hd
  by_cases h1 : N0 < 0
  all_goals
    first
      | (have h5 : c.steps < N0 := h4 h1)
      | skip
    clear h4
    go_enter Tryz.func30, Tryz.ntmps30
    go_wp2_with fail
    refine (HCK.out _ b0).mono ?_
    rintro e x1 ⟨rfl, hb1⟩
    have d5 : x1.cell? ⟨w.heap.size, 5, none⟩ = some (.int .i64 c.steps) := (HB0.below hb1 HB0.lt).cell 5
    go_wp2
    go_ret2
    exact ⟨rfl, b0.trans (hb1.mono b0.size)⟩
theorem jrn_Make_any (c : Cfg) (ds : Data) (s0 : 0 ≤ c.seed) (s1 : c.seed < 18446744073709551616) (D : Option Addr) (n dc : Nat) (w : World) (hd : Duos w D n ds) (hn : n ≤ 9223372036854775806) (N0 : Int) :
    Calls Tryz.prog 30 #[.agg #[.int .i64 c.ci, .int .i64 c.ch, .int .i64 c.co, .int .u64 c.seed, .int .i64 c.batch, .int .i64 c.steps, .int .i64 c.rate, .int .i64 c.decay, .int .i64 c.how, .int .i64 c.keep, .int .i64 c.clip], .slice D n dc, .int .i64 N0] w fun e w' => ∃ A k, e = .returned (.tuple #[.slice A (mkN c ds N0) k, .int .i64 (mkE c ds N0)]) ∧ RecsR w' A (mkN c ds N0) (upto (recC c ds) (mkN c ds N0)) ∧ Below w.heap.size w w' := by
  by_cases hC : crs c ds = 0
  · by_cases hN : 0 ≤ N0 ∧ N0 ≤ c.steps
    · obtain ⟨N, rfl⟩ : ∃ N : Nat, N0 = (N : Int) := ⟨N0.toNat, by omega⟩
      obtain ⟨e1, e2, _⟩ := mk_ok (ds := ds) hC hN.2
      rw [e1, e2]
      refine (jrn_Make_ok c ds hC s0 s1 D n dc w hd N hN.2).mono ?_
      rintro e w' ⟨A, k, rfl, hR, hb⟩
      exact ⟨A, k, rfl, (RecHeld.recs hR).weak, hb⟩
    · obtain ⟨e1, e2, _⟩ := mk_arg hC hN
      rw [e1, e2]
      refine (jrn_Make_arg c ds hC s0 s1 D n dc w hd N0 hN).mono ?_
      rintro e w' ⟨rfl, hb⟩
      exact ⟨none, 0, rfl, recs_none _, hb⟩
  · obtain ⟨e1, e2, _⟩ := mk_crs (N0 := N0) hC
    rw [e1, e2]
    refine (jrn_Make_crs c ds D n dc w hd hn N0 hC).mono ?_
    rintro e w' ⟨rfl, hb⟩
    exact ⟨none, 0, rfl, recs_none _, hb⟩
theorem jrn_Head_any (c : Cfg) (ds : Data) (s0 : 0 ≤ c.seed) (s1 : c.seed < 18446744073709551616) (D : Option Addr) (n dc : Nat) (w : World) (hd : Duos w D n ds) (hn : n ≤ 9223372036854775806) :
    Calls Tryz.prog 28 #[.agg #[.int .i64 c.ci, .int .i64 c.ch, .int .i64 c.co, .int .u64 c.seed, .int .i64 c.batch, .int .i64 c.steps, .int .i64 c.rate, .int .i64 c.decay, .int .i64 c.how, .int .i64 c.keep, .int .i64 c.clip], .slice D n dc] w fun e w' => e = .returned (.tuple #[.int .u64 (headO c ds), .int .i64 (crs c ds)]) ∧ Below w.heap.size w w' := by
  by_cases hC : crs c ds = 0
  · rw [show headO c ds = headI c ds from if_pos hC, hC]
    exact jrn_Head_ok c ds hC s0 s1 D n dc w hd
  · rw [show headO c ds = 0 from if_neg hC]
    exact jrn_Head_no c ds D n dc w hd hn hC
/-- Numbers that a record may have. -/
structure RecW (r : Rec) : Prop where
  st : r.step < 9223372036854775808
  ra : r.rate < 9223372036854775808
  t0 : 0 ≤ r.root
  t1 : r.root < 18446744073709551616
  b : ∀ z ∈ r.batch, z < 9223372036854775808
theorem jrn_Chain_any (before : Int) (r : Rec) (hw : RecW r) (A : Option Addr) (n k : Nat) (w : World) (hx : Ints .i64 w A n r.batch) (hn : n ≤ 9223372036854775807) (b0 : 0 ≤ before) (b1 : before < 18446744073709551616) :
    Calls Tryz.prog 29 #[.int .u64 before, .agg #[.int .i64 r.step, .slice A n k, .int .i64 r.rate, .int .u64 r.root, .int .u64 r.chain]] w fun e w' => e = .returned (.tuple #[.int .u64 (chO before r), .int .i64 (chE r)]) ∧ Below w.heap.size w w' := by
  rcases chE_01 r with h | h
  · rw [show chO before r = ofI 6 (chW before r) from if_pos h, h]
    exact jrn_Chain_ok before r A n k w hx h b0 b1 hw.st hw.ra hw.t0 hw.t1 hw.b
  · rw [show chO before r = 0 from if_neg (by rw [h]; decide), h]
    exact jrn_Chain_no before r A n k w hx hn (by rw [h]; decide)

set_option maxRecDepth 100000 in
set_option maxHeartbeats 2000000 in
theorem ref_Chained2 (r : Rec) (A : Option Addr) (n k : Nat) (w : World) (hx : Ints .i64 w A n r.batch) (hn : n ≤ 9223372036854775807) :
    Calls Tryz.prog 25 #[.agg #[.int .i64 r.step, .slice A n k, .int .i64 r.rate, .int .u64 r.root, .int .u64 r.chain]] w fun e w' => e = .returned (.bool (chB r)) ∧ Below w.heap.size w w' := by
  have HB := Blk.made w 33 #[.int .i64 r.step, .slice A n k, .int .i64 r.rate, .int .u64 r.root, .int .u64 r.chain]
  have hbw : Below w.heap.size w (w.alloc (.cells #[.int .i64 r.step, .slice A n k, .int .i64 r.rate, .int .u64 r.root, .int .u64 r.chain] 33)) := (Below.refl _ _).alloc (Nat.le_refl _) _
  have hxx := hx.below hbw
  obtain ⟨x, hX⟩ : ∃ x, x = w.alloc (.cells #[.int .i64 r.step, .slice A n k, .int .i64 r.rate, .int .u64 r.root, .int .u64 r.chain] 33) := ⟨_, rfl⟩
  rw [← hX] at HB hbw hxx
  have HX := Lib.hid hX
  have HC := Lib.hid (show chB r = (chB0 r && posL (r.batch.take n)) by unfold chB; rw [List.take_of_length_le (by rw [hx.len]; omega)])
  have hl := hx.len
  have H0 := Lib.hid (show chB0 r = (decide (0 ≤ r.step) && decide (0 ≤ r.rate) && decide (n ≤ 8)) by unfold chB0; rw [hl])
  have HL := Lib.hid hl
  obtain ⟨⟨g0, g1, g2, g3, g4⟩, _⟩ := HB.rec5
  have hlt := HB.lt
  clear hX hx hl
  go_enter Tryz.func25, Tryz.ntmps25
  go_upto_region 1 with fail
  rw [← HX.out]
  go_cut [3] (fun v wx => v = .bool (chB0 r) ∧ wx = x)
  case first =>
    by_cases h1 : 0 ≤ r.step
    · by_cases h2 : 0 ≤ r.rate
      · by_cases h3 : n ≤ 8
        · have F := Lib.hid (show chB0 r = true by rw [H0.out, decide_eq_true h1, decide_eq_true h2, decide_eq_true h3]; rfl)
          have h3' : (n : Int) ≤ 8 := by omega
          go_wp2
          go_meet
          case rel => exact ⟨by rw [F.out], rfl⟩
        · have F := Lib.hid (show chB0 r = false by rw [H0.out, decide_eq_false h3]; simp)
          have h3' : ¬ (n : Int) ≤ 8 := by omega
          go_wp2
          go_meet
          case rel => exact ⟨by rw [F.out], rfl⟩
      · have F := Lib.hid (show chB0 r = false by rw [H0.out, decide_eq_false h2]; simp)
        go_wp2
        go_meet
        case rel => exact ⟨by rw [F.out], rfl⟩
    · have F := Lib.hid (show chB0 r = false by rw [H0.out, decide_eq_false h1]; simp)
      go_wp2
      go_meet
      case rel => exact ⟨by rw [F.out], rfl⟩
  case rest =>
    obtain ⟨rfl, rfl⟩ := hcut
    obtain ⟨b0, hb0⟩ : ∃ b0, b0 = chB0 r := ⟨_, rfl⟩
    rw [← hb0] at HC ⊢
    clear hb0 H0
    go_wp2
    go_loop [3, 4] (fun o i => ∃ q : Nat, q ≤ n ∧ i = .int .i64 q ∧ o = .bool (b0 && posL (r.batch.take q))) (fun _ i => n - (intOf i).toNat)
    case atStart => exact ⟨0, Nat.zero_le _, rfl, by simp [posL]⟩
    case round =>
      obtain ⟨q, hq, rfl, rfl⟩ := hrel
      by_cases hlt2 : q < n
      · obtain ⟨b, off, hA, hb, hc⟩ := hxx.cells (by omega)
        subst hA
        have c1 := hc q hlt2
        have F := Lib.hid (posL_take_succ (xs := r.batch) (k := q) (by rw [HL.out]; exact hlt2))
        obtain ⟨y, hy⟩ : ∃ y, y = at0 r.batch q := ⟨_, rfl⟩
        rw [← hy] at c1 F
        have q1 : (q : Int) < (n : Int) := by omega
        clear hc hy
        cases ho : (b0 && posL (r.batch.take q))
        · have HO := Lib.hid ho
          clear ho
          go_wp2
          go_round
          case rel => exact ⟨q + 1, by omega, by go_num, by rw [F.out, ← Bool.and_assoc, HO.out]; rfl⟩
          case measure => simp [intOf]; omega
        · have HO := Lib.hid ho
          clear ho
          go_wp2
          go_round
          case rel => exact ⟨q + 1, by omega, by go_num, by rw [F.out, ← Bool.and_assoc, HO.out]; rfl⟩
          case measure => simp [intOf]; omega
      · obtain rfl : q = n := by omega
        go_wp2
        go_ret
        rw [HC.out]
        exact ⟨rfl, hbw⟩
/-- Behind the law's first if; behind its switch; behind its last if. -/
def JsA (x : World) (c : Cfg) (ds : Data) (N0 : Int) (f h l : Value) (wx : World) : Prop :=
  f = .int .i64 (mkE c ds N0) ∧ h = .int .u64 (headO c ds) ∧ (∃ A k, l = .slice A (mkN c ds N0) k ∧ RecsR wx A (mkN c ds N0) (upto (recC c ds) (mkN c ds N0))) ∧ Below x.heap.size x wx
def JsB (x : World) (g0 ro : Int) (g v : Value) (wx : World) : Prop := g = .int .i64 g0 ∧ v = .int .u64 ro ∧ Below x.heap.size x wx
def JsC (x : World) (ch e : Int) (v h : Value) (wx : World) : Prop := v = .int .u64 ch ∧ h = .int .i64 e ∧ Below x.heap.size x wx

set_option maxRecDepth 100000 in
set_option maxHeartbeats 8000000 in
theorem journalSays_walk (c : Cfg) (s0 : 0 ≤ c.seed) (s1 : c.seed < 18446744073709551616) (D : Option Addr) (n dc : Nat) (ds : Data) (w : World) (hd : Duos w D n ds) (hn : n ≤ 9223372036854775806) (s : List Int × List Int) (A1 A2 : Option Addr) (n1 n2 k1 k2 : Nat) (i1 : Ints .i64 w A1 n1 s.1) (i2 : Ints .i64 w A2 n2 s.2) (hs : (n1 + n2) * 8 ≤ 140737488351232)
    (before : Int) (b0' : 0 ≤ before) (b1' : before < 18446744073709551616) (r : Rec) (hw : RecW r) (A : Option Addr) (m k : Nat) (hI : Ints .i64 w A m r.batch) (hm : m ≤ 9223372036854775807) (N0 : Int) :
    Calls Tryz.prog 4 #[.agg #[.int .i64 c.ci, .int .i64 c.ch, .int .i64 c.co, .int .u64 c.seed, .int .i64 c.batch, .int .i64 c.steps, .int .i64 c.rate, .int .i64 c.decay, .int .i64 c.how, .int .i64 c.keep, .int .i64 c.clip], .slice D n dc, .agg #[.slice A1 n1 k1, .slice A2 n2 k2], .int .u64 before, .agg #[.int .i64 r.step, .slice A m k, .int .i64 r.rate, .int .u64 r.root, .int .u64 r.chain], .int .i64 N0] w fun e w' => e = .returned (.bool true) ∧ Below w.heap.size w w' := by
  have HB0 := ((Blk.made w 24 #[.int .i64 c.ci, .int .i64 c.ch, .int .i64 c.co, .int .u64 c.seed, .int .i64 c.batch, .int .i64 c.steps, .int .i64 c.rate, .int .i64 c.decay, .int .i64 c.how, .int .i64 c.keep, .int .i64 c.clip]).alloc (.cells #[.slice A1 n1 k1, .slice A2 n2 k2] 28)).alloc (.cells #[.int .i64 r.step, .slice A m k, .int .i64 r.rate, .int .u64 r.root, .int .u64 r.chain] 33)
  have HB1 := (Blk.made' (w.alloc (.cells #[.int .i64 c.ci, .int .i64 c.ch, .int .i64 c.co, .int .u64 c.seed, .int .i64 c.batch, .int .i64 c.steps, .int .i64 c.rate, .int .i64 c.decay, .int .i64 c.how, .int .i64 c.keep, .int .i64 c.clip] 24)) 28 #[.slice A1 n1 k1, .slice A2 n2 k2] (g := w.heap.size + 1) (by simp)).alloc (.cells #[.int .i64 r.step, .slice A m k, .int .i64 r.rate, .int .u64 r.root, .int .u64 r.chain] 33)
  have HB2 := Blk.made' ((w.alloc (.cells #[.int .i64 c.ci, .int .i64 c.ch, .int .i64 c.co, .int .u64 c.seed, .int .i64 c.batch, .int .i64 c.steps, .int .i64 c.rate, .int .i64 c.decay, .int .i64 c.how, .int .i64 c.keep, .int .i64 c.clip] 24)).alloc (.cells #[.slice A1 n1 k1, .slice A2 n2 k2] 28)) 33 #[.int .i64 r.step, .slice A m k, .int .i64 r.rate, .int .u64 r.root, .int .u64 r.chain] (g := w.heap.size + 1 + 1) (by simp)
  have b0 : Below w.heap.size w (((w.alloc (.cells #[.int .i64 c.ci, .int .i64 c.ch, .int .i64 c.co, .int .u64 c.seed, .int .i64 c.batch, .int .i64 c.steps, .int .i64 c.rate, .int .i64 c.decay, .int .i64 c.how, .int .i64 c.keep, .int .i64 c.clip] 24)).alloc (.cells #[.slice A1 n1 k1, .slice A2 n2 k2] 28)).alloc (.cells #[.int .i64 r.step, .slice A m k, .int .i64 r.rate, .int .u64 r.root, .int .u64 r.chain] 33)) := (by repeat (first | exact Below.refl _ _ | assumption | refine bel_drewN ?_ _ | refine Below.drew ?_ | (refine Below.alloc ?_ (by simp <;> omega) _) | (refine Below.setCell ?_ (by simp <;> omega) _)))
  obtain ⟨x, hX⟩ : ∃ x, x = (((w.alloc (.cells #[.int .i64 c.ci, .int .i64 c.ch, .int .i64 c.co, .int .u64 c.seed, .int .i64 c.batch, .int .i64 c.steps, .int .i64 c.rate, .int .i64 c.decay, .int .i64 c.how, .int .i64 c.keep, .int .i64 c.clip] 24)).alloc (.cells #[.slice A1 n1 k1, .slice A2 n2 k2] 28)).alloc (.cells #[.int .i64 r.step, .slice A m k, .int .i64 r.rate, .int .u64 r.root, .int .u64 r.chain] 33)) := ⟨_, rfl⟩
  rw [← hX] at HB0 HB1 HB2 b0
  have HX := Lib.hid hX
  have lx := HB2.lt
  clear hX
  have HCO := Lib.hid (fun W (h : Below x.heap.size x W) => ref_Course c D n dc ds W (hd.below (b0.trans (h.mono b0.size))) hn)
  have HHA := Lib.hid (fun W (h : Below x.heap.size x W) => jrn_Head_any c ds s0 s1 D n dc W (hd.below (b0.trans (h.mono b0.size))) hn)
  have HMA := Lib.hid (fun W (h : Below x.heap.size x W) => jrn_Make_any c ds s0 s1 D n dc W (hd.below (b0.trans (h.mono b0.size))) hn N0)
  have HRA := Lib.hid (fun W (h : Below x.heap.size x W) => jrn_Root A1 A2 n1 k1 n2 k2 s.1 s.2 W (i1.below (b0.trans (h.mono b0.size))) (i2.below (b0.trans (h.mono b0.size))) hs)
  have HCA := Lib.hid (fun W (h : Below x.heap.size x W) => jrn_Chain_any before r hw A m k W (hI.below (b0.trans (h.mono b0.size))) (by omega) b0' b1')
  have HBX := Lib.hid (fun W (h : Below x.heap.size x W) => (⟨(HB0.below h (by omega)).cfg, (HB1.below h (by omega)).two.1, (HB2.below h (by omega)).rec5.1⟩ :
      (W.cell? ⟨w.heap.size, 0, none⟩ = some (.int .i64 c.ci) ∧ W.cell? ⟨w.heap.size, 1, none⟩ = some (.int .i64 c.ch) ∧ W.cell? ⟨w.heap.size, 2, none⟩ = some (.int .i64 c.co) ∧ W.cell? ⟨w.heap.size, 3, none⟩ = some (.int .u64 c.seed) ∧ W.cell? ⟨w.heap.size, 4, none⟩ = some (.int .i64 c.batch) ∧ W.cell? ⟨w.heap.size, 5, none⟩ = some (.int .i64 c.steps) ∧ W.cell? ⟨w.heap.size, 6, none⟩ = some (.int .i64 c.rate) ∧ W.cell? ⟨w.heap.size, 7, none⟩ = some (.int .i64 c.decay) ∧ W.cell? ⟨w.heap.size, 8, none⟩ = some (.int .i64 c.how) ∧ W.cell? ⟨w.heap.size, 9, none⟩ = some (.int .i64 c.keep) ∧ W.cell? ⟨w.heap.size, 10, none⟩ = some (.int .i64 c.clip)) ∧ (W.cell? ⟨w.heap.size + 1, 0, none⟩ = some (.slice A1 n1 k1) ∧ W.cell? ⟨w.heap.size + 1, 1, none⟩ = some (.slice A2 n2 k2)) ∧
      (W.cell? ⟨w.heap.size + 1 + 1, 0, none⟩ = some (.int .i64 r.step) ∧ W.cell? ⟨w.heap.size + 1 + 1, 1, none⟩ = some (.slice A m k) ∧ W.cell? ⟨w.heap.size + 1 + 1, 2, none⟩ = some (.int .i64 r.rate) ∧ W.cell? ⟨w.heap.size + 1 + 1, 3, none⟩ = some (.int .u64 r.root) ∧ W.cell? ⟨w.heap.size + 1 + 1, 4, none⟩ = some (.int .u64 r.chain))))
  have hnn : n1 + n2 ≤ 17592186044000 := by omega
  go_enter Tryz.func4, Tryz.ntmps4
  go_upto_region 1 with fail
  rw [← HX.out]
  obtain ⟨⟨d0, d1, d2, d3, d4, d5, d6, d7, d8, d9, da⟩, ⟨e0, e1⟩, ⟨a0, a1, a2, a3, a4⟩⟩ := HBX.out x (Below.refl _ _)
  go_upto_if 35 with (go_at_call 9; refine (HCO.out x (Below.refl _ _)).mono ?_; rintro e x1 ⟨rfl, hb1⟩)
  clear d0 d1 d2 d3 d4 d5 d6 d7 d8 d9 da e0 e1 a0 a1 a2 a3 a4
  obtain ⟨⟨d0, d1, d2, d3, d4, d5, d6, d7, d8, d9, da⟩, ⟨e0, e1⟩, ⟨a0, a1, a2, a3, a4⟩⟩ := HBX.out x1 hb1
  go_cut [14, 15, 18] (fun f h l wx => JsA x c ds N0 f h l wx)
  case first =>
    by_cases hC : crs c ds = 0
    · have hf := fine hC
      have hst := hf.ok.st
      have HHD := Lib.hid (fun W (h : Below x.heap.size x W) => ref_Head c ds hf s0 s1 D n dc W (hd.below (b0.trans (h.mono b0.size))))
      by_cases hN : 0 ≤ N0 ∧ N0 ≤ c.steps
      · obtain ⟨N, rfl⟩ : ∃ N : Nat, N0 = (N : Int) := ⟨N0.toNat, by omega⟩
        have HM := Lib.hid (mk_ok (ds := ds) hC hN.2)
        have HJR := Lib.hid (fun W (h : Below x.heap.size x W) => ref_Journal c ds hf s0 s1 D n dc W (hd.below (b0.trans (h.mono b0.size))) N hN.2)
        have HI := Lib.hid (fun W => ref_In N 0 c.steps W)
        rw [show inB (N : Int) 0 c.steps = true from inB_iff.2 hN] at HI
        have t : (crs c ds == 0) = true := by rw [beq_iff_eq]; exact hC
        clear hC hf hst hN hd
        go_wp2_with fail
        refine (HHD.out x1 hb1).mono ?_
        rintro e x2 ⟨rfl, hb2⟩
        have hx2 : Below x.heap.size x x2 := bel_trans hb1 hb2
        clear d0 d1 d2 d3 d4 d5 d6 d7 d8 d9 da e0 e1 a0 a1 a2 a3 a4
        obtain ⟨⟨d0, d1, d2, d3, d4, d5, d6, d7, d8, d9, da⟩, ⟨e0, e1⟩, ⟨a0, a1, a2, a3, a4⟩⟩ := HBX.out x2 hx2
        go_wp2_with fail
        refine (HI.out _).mono ?_
        rintro e w' ⟨rfl, rfl⟩
        go_wp2_with fail
        refine (HJR.out x2 hx2).mono ?_
        rintro e x3 ⟨J, jk, rfl, hR, hb3⟩
        go_wp2
        go_meet
        case rel => exact ⟨by rw [HM.out.1], by rw [HM.out.2.2], ⟨J, jk, by rw [HM.out.2.1], by rw [HM.out.2.1]; exact (RecHeld.recs hR).weak⟩, bel_trans hx2 hb3⟩
      · have HM := Lib.hid (mk_arg (ds := ds) hC hN)
        have HI := Lib.hid (fun W => ref_In N0 0 c.steps W)
        have ti : inB N0 0 c.steps = false := by
          cases hh : inB N0 0 c.steps
          · rfl
          · exact absurd (inB_iff.1 hh) hN
        rw [ti] at HI
        have t : (crs c ds == 0) = true := by rw [beq_iff_eq]; exact hC
        clear hC hf hst hN hd ti
        go_wp2_with fail
        refine (HHD.out x1 hb1).mono ?_
        rintro e x2 ⟨rfl, hb2⟩
        have hx2 : Below x.heap.size x x2 := bel_trans hb1 hb2
        clear d0 d1 d2 d3 d4 d5 d6 d7 d8 d9 da e0 e1 a0 a1 a2 a3 a4
        obtain ⟨⟨d0, d1, d2, d3, d4, d5, d6, d7, d8, d9, da⟩, ⟨e0, e1⟩, ⟨a0, a1, a2, a3, a4⟩⟩ := HBX.out x2 hx2
        go_wp2_with fail
        refine (HI.out _).mono ?_
        rintro e w' ⟨rfl, rfl⟩
        go_wp2
        go_meet
        case rel => exact ⟨by rw [HM.out.1], by rw [HM.out.2.2], ⟨none, 0, by rw [HM.out.2.1], by rw [HM.out.2.1]; exact recs_none _⟩, hx2⟩
    · have HM := Lib.hid (mk_crs (N0 := N0) hC)
      have t : (crs c ds == 0) = false := beq_eq_false_iff_ne.2 hC
      clear hC hd
      go_wp2
      go_meet
      case rel => exact ⟨by rw [HM.out.1], by rw [HM.out.2.2], ⟨none, 0, by rw [HM.out.2.1], by rw [HM.out.2.1]; exact recs_none _⟩, hb1⟩
  case rest =>
    obtain ⟨rfl, rfl, ⟨LA, lk, rfl, hL⟩, hbc⟩ := hcut
    obtain ⟨y, rfl⟩ : ∃ y : World, y = wc := ⟨_, rfl⟩
    clear d0 d1 d2 d3 d4 d5 d6 d7 d8 d9 da e0 e1 a0 a1 a2 a3 a4 hb1
    obtain ⟨⟨d0, d1, d2, d3, d4, d5, d6, d7, d8, d9, da⟩, ⟨e0, e1⟩, ⟨a0, a1, a2, a3, a4⟩⟩ := HBX.out y hbc
    have hnw : IntKind.i64.wrap ((n1 : Int) + (n2 : Int)) = (n1 : Int) + (n2 : Int) := wrap_small _ (by omega) (by omega)
    go_upto_block 0 with fail
    go_cut [16, 19] (fun v g wx => JsB y (lvE (n1 + n2)) (rootO (s.1 ++ s.2)) g v wx)
    case first =>
      have hll : (s.1 ++ s.2).length = n1 + n2 := by rw [List.length_append, i1.len, i2.len]
      by_cases h0 : n1 + n2 = 0
      · have G := Lib.hid (show lvE (n1 + n2) = 1 by unfold lvE; rw [if_pos h0])
        have R := Lib.hid (show rootO (s.1 ++ s.2) = 0 by unfold rootO; rw [if_neg (by rw [hll, G.out]; decide)])
        have t : ((n1 : Int) + (n2 : Int) == 0) = true := by rw [beq_iff_eq]; omega
        clear h0 hll
        go_wp2
        go_meet
        case rel => exact ⟨by rw [G.out], by rw [R.out], Below.refl _ _⟩
      · have t : ((n1 : Int) + (n2 : Int) == 0) = false := by rw [beq_eq_false_iff_ne]; omega
        by_cases h2 : 200 < n1 + n2
        · have G := Lib.hid (show lvE (n1 + n2) = 2 by unfold lvE; rw [if_neg h0, if_pos h2])
          have R := Lib.hid (show rootO (s.1 ++ s.2) = 0 by unfold rootO; rw [if_neg (by rw [hll, G.out]; decide)])
          have h2' : (200 : Int) < (n1 : Int) + (n2 : Int) := by omega
          clear h0 hll h2
          go_wp2
          go_meet
          case rel => exact ⟨by rw [G.out], by rw [R.out], Below.refl _ _⟩
        · have G := Lib.hid (show lvE (n1 + n2) = 0 by unfold lvE; rw [if_neg h0, if_neg h2])
          have HSR := Lib.hid (fun W (h : Below x.heap.size x W) => ref_StateRoot A1 A2 n1 k1 n2 k2 s.1 s.2 W (i1.below (b0.trans (h.mono b0.size))) (i2.below (b0.trans (h.mono b0.size))) (by omega) (by omega))
          have h2' : ¬ (200 : Int) < (n1 : Int) + (n2 : Int) := by omega
          clear h0 hll h2
          go_wp2_with fail
          refine (HSR.out y hbc).mono ?_
          rintro e y2 ⟨rfl, hb2⟩
          go_wp2
          go_meet
          case rel => exact ⟨by rw [G.out], rfl, hb2⟩
    case rest =>
      obtain ⟨rfl, rfl, hbd⟩ := hcut
      obtain ⟨y2, rfl⟩ : ∃ y2 : World, y2 = wc := ⟨_, rfl⟩
      have hb2 : Below x.heap.size x y2 := bel_trans hbc hbd
      clear d0 d1 d2 d3 d4 d5 d6 d7 d8 d9 da e0 e1 a0 a1 a2 a3 a4 hnw
      obtain ⟨⟨d0, d1, d2, d3, d4, d5, d6, d7, d8, d9, da⟩, ⟨e0, e1⟩, ⟨a0, a1, a2, a3, a4⟩⟩ := HBX.out y2 hb2
      have HCD := Lib.hid (fun W (h : Below x.heap.size x W) => ref_Chained2 r A m k W (hI.below (b0.trans (h.mono b0.size))) hm)
      go_upto_if 63 with (go_at_call 25; refine (HCD.out y2 hb2).mono ?_; rintro e y3 ⟨rfl, hb3'⟩)
      have hb3 : Below x.heap.size x y3 := bel_trans hb2 hb3'
      clear d0 d1 d2 d3 d4 d5 d6 d7 d8 d9 da e0 e1 a0 a1 a2 a3 a4
      obtain ⟨⟨d0, d1, d2, d3, d4, d5, d6, d7, d8, d9, da⟩, ⟨e0, e1⟩, ⟨a0, a1, a2, a3, a4⟩⟩ := HBX.out y3 hb3
      go_cut [17, 21] (fun v h wx => JsC y3 (chO before r) (chE r) v h wx)
      case first =>
        cases hc : chB r
        · have E := Lib.hid (show chE r = 5 by rw [chE_chB, hc]; rfl)
          have O := Lib.hid (show chO before r = 0 from if_neg (by rw [E.out]; decide))
          clear hc
          go_wp2
          go_meet
          case rel => exact ⟨by rw [O.out], by rw [E.out], Below.refl _ _⟩
        · have E := Lib.hid (show chE r = 0 by rw [chE_chB, hc]; rfl)
          have O := Lib.hid (show ofI 6 (chW before r) = chO before r from (if_pos E.out).symm)
          have HRC := Lib.hid (fun W (h : Below x.heap.size x W) => ref_Chain before r A m k W (hI.below (b0.trans (h.mono b0.size))) E.out b0' b1' hw.st hw.ra hw.t0 hw.t1 hw.b)
          rw [O.out] at HRC
          clear hc
          go_wp2_with fail
          refine (HRC.out y3 hb3).mono ?_
          rintro e y4 ⟨rfl, hb4⟩
          go_wp2
          go_meet
          case rel => exact ⟨rfl, by rw [E.out], hb4⟩
      case rest =>
        obtain ⟨rfl, rfl, hb4'⟩ := hcut
        obtain ⟨y4, rfl⟩ : ∃ y4 : World, y4 = wc := ⟨_, rfl⟩
        have hb4 : Below x.heap.size x y4 := bel_trans hb3 hb4'
        clear d0 d1 d2 d3 d4 d5 d6 d7 d8 d9 da e0 e1 a0 a1 a2 a3 a4
        obtain ⟨⟨d0, d1, d2, d3, d4, d5, d6, d7, d8, d9, da⟩, ⟨e0, e1⟩, ⟨a0, a1, a2, a3, a4⟩⟩ := HBX.out y4 hb4
        go_wp2_with fail
        refine (HRA.out y4 hb4).mono ?_
        rintro e y5 ⟨rfl, hc5⟩
        have hb5 : Below x.heap.size x y5 := bel_trans hb4 hc5
        clear d0 d1 d2 d3 d4 d5 d6 d7 d8 d9 da e0 e1 a0 a1 a2 a3 a4
        obtain ⟨⟨d0, d1, d2, d3, d4, d5, d6, d7, d8, d9, da⟩, ⟨e0, e1⟩, ⟨a0, a1, a2, a3, a4⟩⟩ := HBX.out y5 hb5
        go_wp2_with fail
        refine (HHA.out y5 hb5).mono ?_
        rintro e y6 ⟨rfl, hc6⟩
        have hb6 : Below x.heap.size x y6 := bel_trans hb5 hc6
        clear d0 d1 d2 d3 d4 d5 d6 d7 d8 d9 da e0 e1 a0 a1 a2 a3 a4
        obtain ⟨⟨d0, d1, d2, d3, d4, d5, d6, d7, d8, d9, da⟩, ⟨e0, e1⟩, ⟨a0, a1, a2, a3, a4⟩⟩ := HBX.out y6 hb6
        go_wp2_with fail
        refine (HCA.out y6 hb6).mono ?_
        rintro e y7 ⟨rfl, hc7⟩
        have hb7 : Below x.heap.size x y7 := bel_trans hb6 hc7
        clear d0 d1 d2 d3 d4 d5 d6 d7 d8 d9 da e0 e1 a0 a1 a2 a3 a4
        obtain ⟨⟨d0, d1, d2, d3, d4, d5, d6, d7, d8, d9, da⟩, ⟨e0, e1⟩, ⟨a0, a1, a2, a3, a4⟩⟩ := HBX.out y7 hb7
        go_wp2_with fail
        refine (HMA.out y7 hb7).mono ?_
        rintro e y8 ⟨MA, mk, rfl, hM, hc8⟩
        have hb8 : Below x.heap.size x y8 := bel_trans hb7 hc8
        have hL8 := hL.below (bel_trans hbd (bel_trans hb3' (bel_trans hb4' (bel_trans hc5 (bel_trans hc6 (bel_trans hc7 hc8))))))
        have HRQ := Lib.hid (fun d d' => ref_SameRecords MA LA (mkN c ds N0) (mkN c ds N0) d d' _ _ y8 hM hL8 (mkN_bd c ds N0).1 (fun j hj => .inl ((mkN_bd c ds N0).2 j hj)))
        rw [sameB_self] at HRQ
        clear d0 d1 d2 d3 d4 d5 d6 d7 d8 d9 da e0 e1 a0 a1 a2 a3 a4 hM hL8 hL
        obtain ⟨z1, hz1⟩ : ∃ z, z = mkN c ds N0 := ⟨_, rfl⟩
        rw [← hz1] at HRQ
        obtain ⟨z2, hz2⟩ : ∃ z, z = mkE c ds N0 := ⟨_, rfl⟩
        obtain ⟨z3, hz3⟩ : ∃ z, z = headO c ds := ⟨_, rfl⟩
        obtain ⟨z4, hz4⟩ : ∃ z, z = chO before r := ⟨_, rfl⟩
        obtain ⟨z5, hz5⟩ : ∃ z, z = rootO (s.1 ++ s.2) := ⟨_, rfl⟩
        obtain ⟨z6, hz6⟩ : ∃ z, z = lvE (n1 + n2) := ⟨_, rfl⟩
        obtain ⟨z7, hz7⟩ : ∃ z, z = chE r := ⟨_, rfl⟩
        obtain ⟨z8, hz8⟩ : ∃ z, z = crs c ds := ⟨_, rfl⟩
        rw [← hz1, ← hz2, ← hz3, ← hz4, ← hz5, ← hz6, ← hz7, ← hz8]
        clear hz1 hz2 hz3 hz4 hz5 hz6 hz7 hz8
        go_wp2_with fail
        refine (HRQ.out _ _).mono ?_
        rintro e y9 ⟨rfl, hc9⟩
        have hb9 := b0.trans ((bel_trans hb8 hc9).mono b0.size)
        go_wp2
        go_ret
        exact ⟨by simp, hb9⟩

set_option maxRecDepth 100000 in
theorem journalSays_lifted (os : Os) (started : os.Started) (H : Type) (enc : TypeId × Value → H) (F : Stop.Interp) :
    ReturnsInHanded {} Tryz.checked os 4 .any ((Rows.OpenSpec.upto Rows.journalSaysSpec).pre6 enc Tryz.prog Tryz.f4 Rows.journalSaysUptoRow.domain false) (((Rows.OpenSpec.upto Rows.journalSaysSpec).at F).post enc Tryz.prog Tryz.f4 false true false false) := by
  refine lift_upto (fn := Tryz.f4) (s := Rows.OpenSpec.upto Rows.journalSaysSpec) (k := Rows.uptoSmall) started rfl (by kernel_rfl) Tryz.func4
    (OpenSpec.witness (enc := enc) (C := Tryz.checked) (s := Rows.OpenSpec.upto Rows.journalSaysSpec) (k := Rows.uptoSmall) rfl false ⟨#[], #[.agg #[.int .i64 0, .int .i64 0, .int .i64 0, .int .u64 0, .int .i64 0, .int .i64 0, .int .i64 0, .int .i64 0, .int .i64 0, .int .i64 0, .int .i64 0], .slice none 0 0, .agg #[.slice none 0 0, .slice none 0 0], .int .u64 0, .agg #[.int .i64 0, .slice none 0 0, .int .i64 0, .int .u64 0, .int .u64 0], .int .i64 0], []⟩ 8 (by kernel_rfl) (by kernel_rfl) (by kernel_rfl)
      (x := ([.agg [.lit (.int .i64 0), .lit (.int .i64 0), .lit (.int .i64 0), .lit (.int .u64 0), .lit (.int .i64 0), .lit (.int .i64 0), .lit (.int .i64 0), .lit (.int .i64 0), .lit (.int .i64 0), .lit (.int .i64 0), .lit (.int .i64 0)], .nil, .agg [.nil, .nil], .lit (.int .u64 0), .agg [.lit (.int .i64 0), .nil, .lit (.int .i64 0), .lit (.int .u64 0), .lit (.int .u64 0)], .lit (.int .i64 0)], [], [])) (by kernel_rfl) rfl (by kernel_rfl)) (by kernel_rfl) rfl Tryz.underlying4 rfl ?_ ?_
  · intro ds h
    rw [Tryz.params4] at h
    match ds, h with
    | [d0, d1, d2, d3, d4, d5], _ => rfl
  · intro W args ds ps hA hlt hval hsz hk
    rw [Tryz.params4] at hA hval hsz
    obtain ⟨v0, vs0, d0, ds0, p0, q0, hargs, rfl, rfl, H0, T0⟩ := trodAll_cons hA
    obtain ⟨v1, vs1, d1, ds1, p1, q1, rfl, rfl, rfl, H1, T1⟩ := trodAll_cons T0
    obtain ⟨v2, vs2, d2, ds2, p2, q2, rfl, rfl, rfl, H2, T2⟩ := trodAll_cons T1
    obtain ⟨v3, vs3, d3, ds3, p3, q3, rfl, rfl, rfl, H3, T3⟩ := trodAll_cons T2
    obtain ⟨v4, vs4, d4, ds4, p4, q4, rfl, rfl, rfl, H4, T4⟩ := trodAll_cons T3
    obtain ⟨v5, vs5, d5, ds5, p5, q5, rfl, rfl, rfl, H5, T5⟩ := trodAll_cons T4
    obtain ⟨rfl, rfl, rfl⟩ := trodAll_nil T5
    obtain rfl : args = #[v0, v1, v2, v3, v4, v5] := by cases args; simp_all
    obtain ⟨b0, hv0⟩ := hval 0 24 v0 rfl rfl
    obtain ⟨b1, hv1⟩ := hval 1 25 v1 rfl rfl
    obtain ⟨b2, hv2⟩ := hval 2 28 v2 rfl rfl
    obtain ⟨b3, hv3⟩ := hval 3 22 v3 rfl rfl
    obtain ⟨b4, hv4⟩ := hval 4 33 v4 rfl rfl
    obtain ⟨b5, hv5⟩ := hval 5 3 v5 rfl rfl
    obtain ⟨c, rfl, cw⟩ := arg_cfg hv0 H0
    obtain ⟨D, n, dc, ds, rfl, hd, hn⟩ := arg_data (j := 1) (fun _ => rfl) hv1 H1 hsz rfl rfl
    obtain ⟨A1, n1, k1, wt, A2, n2, k2, mv, rfl, ⟨i1, _⟩, ⟨i2, _⟩, hbk⟩ := arg_state_upto (fun _ => rfl) hv2 H2
    obtain ⟨before, rfl, wb⟩ := arg_u64 hv3 H3
    obtain ⟨x, A, m, k, rfl, hI, hmk, hkm, w1, w2, w3, _, w5⟩ := arg_rec2 (fun _ => rfl) hv4 H4
    obtain ⟨N0, rfl, _⟩ := arg_int hv5 H5
    have hs := wf_u64 cw.2.2.2.1
    have hb := wf_u64 wb
    have hro := wf_u64 w3
    have hbd := bulk_bound hk
    simp only [Rows.uptoBulkAll] at hbd
    have hst := wf_i64 w1
    have hrt := wf_i64 w2
    exact journalSays_walk c hs.1 (by omega) D n dc ds W hd hn (wt, mv) A1 A2 n1 n2 k1 k2 i1 i2 (by omega) before hb.1 (by omega) x ⟨by omega, by omega, hro.1, by omega, fun z hz => by have := wf_i64 (w5 z hz); omega⟩ A m k hI (by unfold maxLen at hkm; omega) N0
theorem JournalSays_holds : Rows.JournalSaysUptoSaid :=
  OpenClaim.holds_of_cond 4 Tryz.f4 rfl rfl rfl rfl rfl rfl rfl ⟨rfl, rfl, rfl, rfl, rfl⟩ rfl rfl rfl rfl rfl (by kernel_rfl) Tryz.func4 (by kernel_rfl)
    (of_decide_eq_true (by kernel_rfl)) (by unfold Func.isWrapper; first | (rw [if_pos (by decide +kernel)]; kernel_rfl) | (rw [if_neg (by decide +kernel)]; exact ⟨rfl, rfl⟩))
    (fun os started H enc _ F => journalSays_lifted os started H enc F)

end Go.Proofs.YtaicdhjdedijoaaGreat
