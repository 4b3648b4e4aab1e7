/- The document's own chain of a record: walks. -/
import Derived.Test.YtaicdhjdedijoaaGreatRFin
namespace Go.Proofs.YtaicdhjdedijoaaGreat
open Go.RowKit Pl

def posL (xs : List Int) : Bool := xs.all fun n => decide (0 ≤ n)
theorem posL_take_succ {xs : List Int} {k : Nat} (hk : k < xs.length) : posL (xs.take (k + 1)) = (posL (xs.take k) && decide (0 ≤ at0 xs k)) := by
  unfold posL
  rw [List.take_succ_eq_append_getElem hk, List.all_append, at0_getElem _ _ hk]
  simp
def chB0 (r : Rec) : Bool := decide (0 ≤ r.step) && decide (0 ≤ r.rate) && decide (r.batch.length ≤ 8)
def chB (r : Rec) : Bool := chB0 r && posL r.batch
theorem chE_chB (r : Rec) : chE r = if chB r = true then 0 else 5 := by
  unfold chE chB chB0 posL
  simp only [Bool.and_eq_true, decide_eq_true_eq, and_assoc]

set_option maxRecDepth 100000 in
set_option maxHeartbeats 2000000 in
theorem ref_Chained (r : Rec) (A : Option Addr) (n k : Nat) (w : World) (hx : Ints .i64 w A n r.batch) (hn : n ≤ 9223372036854775806) :
    Calls Tryz.prog 25 #[.agg #[.int .i64 r.step, .slice A n k, .int .i64 r.rate, .int .u64 r.root, .int .u64 r.chain]] w fun e w' => e = .returned (.bool (chB r)) ∧ Below w.heap.size w w' := by
  have HB := Blk.made w 33 #[.int .i64 r.step, .slice A n k, .int .i64 r.rate, .int .u64 r.root, .int .u64 r.chain]
  have hbw : Below w.heap.size w (w.alloc (.cells #[.int .i64 r.step, .slice A n k, .int .i64 r.rate, .int .u64 r.root, .int .u64 r.chain] 33)) := (Below.refl _ _).alloc (Nat.le_refl _) _
  have hxx := hx.below hbw
  obtain ⟨x, hX⟩ : ∃ x, x = w.alloc (.cells #[.int .i64 r.step, .slice A n k, .int .i64 r.rate, .int .u64 r.root, .int .u64 r.chain] 33) := ⟨_, rfl⟩
  rw [← hX] at HB hbw hxx
  have HX := Lib.hid hX
  have HC := Lib.hid (show chB r = (chB0 r && posL (r.batch.take n)) by unfold chB; rw [List.take_of_length_le (by rw [hx.len]; omega)])
  have hl := hx.len
  have H0 := Lib.hid (show chB0 r = (decide (0 ≤ r.step) && decide (0 ≤ r.rate) && decide (n ≤ 8)) by unfold chB0; rw [hl])
  have HL := Lib.hid hl
  obtain ⟨⟨g0, g1, g2, g3, g4⟩, _⟩ := HB.rec5
  have hlt := HB.lt
  clear hX hx hl
  go_enter Tryz.func25, Tryz.ntmps25
  go_upto_region 1 with fail
  rw [← HX.out]
  go_cut [3] (fun v wx => v = .bool (chB0 r) ∧ wx = x)
  case first =>
    by_cases h1 : 0 ≤ r.step
    · by_cases h2 : 0 ≤ r.rate
      · by_cases h3 : n ≤ 8
        · have F := Lib.hid (show chB0 r = true by rw [H0.out, decide_eq_true h1, decide_eq_true h2, decide_eq_true h3]; rfl)
          have h3' : (n : Int) ≤ 8 := by omega
          go_wp2
          go_meet
          case rel => exact ⟨by rw [F.out], rfl⟩
        · have F := Lib.hid (show chB0 r = false by rw [H0.out, decide_eq_false h3]; simp)
          have h3' : ¬ (n : Int) ≤ 8 := by omega
          go_wp2
          go_meet
          case rel => exact ⟨by rw [F.out], rfl⟩
      · have F := Lib.hid (show chB0 r = false by rw [H0.out, decide_eq_false h2]; simp)
        go_wp2
        go_meet
        case rel => exact ⟨by rw [F.out], rfl⟩
    · have F := Lib.hid (show chB0 r = false by rw [H0.out, decide_eq_false h1]; simp)
      go_wp2
      go_meet
      case rel => exact ⟨by rw [F.out], rfl⟩
  case rest =>
    obtain ⟨rfl, rfl⟩ := hcut
    obtain ⟨b0, hb0⟩ : ∃ b0, b0 = chB0 r := ⟨_, rfl⟩
    rw [← hb0] at HC ⊢
    clear hb0 H0
    go_wp2
    go_loop [3, 4] (fun o i => ∃ q : Nat, q ≤ n ∧ i = .int .i64 q ∧ o = .bool (b0 && posL (r.batch.take q))) (fun _ i => n - (intOf i).toNat)
    case atStart => exact ⟨0, Nat.zero_le _, rfl, by simp [posL]⟩
    case round =>
      obtain ⟨q, hq, rfl, rfl⟩ := hrel
      by_cases hlt2 : q < n
      · obtain ⟨b, off, hA, hb, hc⟩ := hxx.cells (by omega)
        subst hA
        have c1 := hc q hlt2
        have F := Lib.hid (posL_take_succ (xs := r.batch) (k := q) (by rw [HL.out]; exact hlt2))
        obtain ⟨y, hy⟩ : ∃ y, y = at0 r.batch q := ⟨_, rfl⟩
        rw [← hy] at c1 F
        have q1 : (q : Int) < (n : Int) := by omega
        clear hc hy
        cases ho : (b0 && posL (r.batch.take q))
        · have HO := Lib.hid ho
          clear ho
          go_wp2
          go_round
          case rel => exact ⟨q + 1, by omega, by go_num, by rw [F.out, ← Bool.and_assoc, HO.out]; rfl⟩
          case measure => simp [intOf]; omega
        · have HO := Lib.hid ho
          clear ho
          go_wp2
          go_round
          case rel => exact ⟨q + 1, by omega, by go_num, by rw [F.out, ← Bool.and_assoc, HO.out]; rfl⟩
          case measure => simp [intOf]; omega
      · obtain rfl : q = n := by omega
        go_wp2
        go_ret
        rw [HC.out]
        exact ⟨rfl, hbw⟩

set_option maxRecDepth 100000 in
set_option maxHeartbeats 4000000 in
theorem ref_Chain (before : Int) (r : Rec) (A : Option Addr) (n k : Nat) (w : World) (hx : Ints .i64 w A n r.batch) (hE : chE r = 0) (b0 : 0 ≤ before) (b1 : before < 18446744073709551616) (s1 : r.step < 9223372036854775808) (r1 : r.rate < 9223372036854775808)
    (t0 : 0 ≤ r.root) (t1 : r.root < 18446744073709551616) (z1 : ∀ z ∈ r.batch, z < 9223372036854775808) :
    Calls Tryz.prog 26 #[.int .u64 before, .agg #[.int .i64 r.step, .slice A n k, .int .i64 r.rate, .int .u64 r.root, .int .u64 r.chain]] w fun e w' => e = .returned (.int .u64 (ofI 6 (chW before r))) ∧ Below w.heap.size w w' := by
  obtain ⟨i0, hi0, hz0, hz1, hz2⟩ := info_parts u64_info
  obtain ⟨e1, e2, e3, e4⟩ := chE_ok hE
  have hl := hx.len
  have hn8 : n ≤ 8 := by omega
  have HU := Lib.hid (chW_u64 (x := before) hE b0 b1 (by omega) (by omega) t0 t1 (fun z hz => by have := z1 z hz; omega))
  have HNN := Lib.hid (fun j (hj : j < n) => show 0 ≤ at0 r.batch j ∧ at0 r.batch j < 9223372036854775808 from by
    have hm : at0 r.batch j ∈ r.batch := by rw [at0_getElem _ _ (by omega)]; exact List.getElem_mem _
    exact ⟨by rw [List.all_eq_true] at e4; simpa using e4 _ hm, z1 _ hm⟩)
  have HW := Lib.hid (show [before, r.step, r.rate, r.root, (n : Int)] ++ upto (at0 r.batch) n = chW before r by rw [← hl, upto_at0]; rfl)
  have HOF := Lib.hid (fun A c W (q : Ints .u64 W A (5 + n) (chW before r)) => ref_Of 6 A (5 + n) c (chW before r) W (by omega) (by omega) q HU.out (by omega))
  have w1 : IntKind.u64.wrap r.step = r.step := wrap_u64_in (by omega) (by omega)
  have w2 : IntKind.u64.wrap r.rate = r.rate := wrap_u64_in (by omega) (by omega)
  have w3 : IntKind.u64.wrap (n : Int) = (n : Int) := wrap_u64_in (by omega) (by omega)
  have HB := Blk.made w 33 #[.int .i64 r.step, .slice A n k, .int .i64 r.rate, .int .u64 r.root, .int .u64 r.chain]
  have hbw : Below w.heap.size w (w.alloc (.cells #[.int .i64 r.step, .slice A n k, .int .i64 r.rate, .int .u64 r.root, .int .u64 r.chain] 33)) := (Below.refl _ _).alloc (Nat.le_refl _) _
  obtain ⟨x1, hX⟩ : ∃ x, x = w.alloc (.cells #[.int .i64 r.step, .slice A n k, .int .i64 r.rate, .int .u64 r.root, .int .u64 r.chain] 33) := ⟨_, rfl⟩
  rw [← hX] at HB hbw
  have HX := Lib.hid hX
  have hlx := HB.lt
  have O0 : (x1.alloc (.cells #[.int .u64 before, .int .u64 r.step, .int .u64 r.rate, .int .u64 r.root, .int .u64 n] 22)).ownsRow (w.heap.size + 1) 22 1 (.slice (some ⟨x1.heap.size, 0, none⟩) 5 5) 5 ([before, r.step, r.rate, r.root, (n : Int)].map (.int .u64)) := World.ownsRow_lit x1 #[.int .u64 before, .int .u64 r.step, .int .u64 r.rate, .int .u64 r.root, .int .u64 n] 5 hlx (by decide) rfl
  have hb0 : Below (w.heap.size + 1) x1 (x1.alloc (.cells #[.int .u64 before, .int .u64 r.step, .int .u64 r.rate, .int .u64 r.root, .int .u64 n] 22)) := (Below.refl _ _).alloc hlx _
  obtain ⟨⟨g0, g1, g2, g3, g4⟩, _⟩ := HB.rec5
  clear hE e1 e2 e3 e4 hl z1 hX
  obtain ⟨W0, hW0⟩ : ∃ W0, W0 = (x1.alloc (.cells #[.int .u64 before, .int .u64 r.step, .int .u64 r.rate, .int .u64 r.root, .int .u64 n] 22)) := ⟨_, rfl⟩
  rw [← hW0] at O0 hb0
  have HW0 := Lib.hid hW0
  clear hW0
  go_enter Tryz.func26, Tryz.ntmps26
  go_upto_region 1 with fail
  rw [← HX.out]
  go_wp2
  rw [← HW0.out]
  go_loopw [5, 6] (fun l j wr => ∃ q : Nat, q ≤ n ∧ j = .int .i64 q ∧ wr.ownsRow (w.heap.size + 1) 22 1 l (5 + q) (([before, r.step, r.rate, r.root, (n : Int)] ++ upto (at0 r.batch) q).map (.int .u64)) ∧ Below (w.heap.size + 1) x1 wr) (fun _ j _ => n - (intOf j).toNat)
  case atStart => exact ⟨0, by omega, rfl, O0, hb0⟩
  case round =>
    clear O0 hb0 g0 g1 g2 g3 g4
    obtain ⟨q, hq, rfl, hown, hb⟩ := hrel
    have hbs := hb.size
    have hbx := hbw.trans (hb.mono (by omega))
    have g1 : wr.cell? ⟨w.heap.size, 1, none⟩ = some (.slice A n k) := (HB.below hb (by omega)).cell 1
    by_cases hlt : q < n
    · obtain ⟨b, off, hA, hbl, hc⟩ := (hx.below hbx).cells (by omega)
      subst hA
      have g2 := hc q hlt
      obtain ⟨y0, y1⟩ := HNN.out q hlt
      have G := Lib.hid (upto_succ (at0 r.batch) q)
      obtain ⟨y, hy⟩ : ∃ y, y = at0 r.batch q := ⟨_, rfl⟩
      rw [← hy] at g2 y0 y1 G
      have wy : IntKind.u64.wrap y = y := wrap_u64_in (by omega) (by omega)
      have q1 : (q : Int) < (n : Int) := by omega
      clear hc hy
      go_wp2_with (at_builtin; refine wpList_append_own _ rfl _ _ 96 rfl (w.heap.size + 1) 22 i0 (.int .u64 0) 1 8 Tryz.underlying96 hi0 hz0 hz1 hz2 rfl (by decide) u5 (5 + q) _ rfl (hown.alloc _) ⟨wr.heap.size, 0, none⟩ 1 1 [.int .u64 y] rfl rfl (cell_one_new _ _ _) (by simp [Value.oneCell']) (by unfold maxLen; omega) (by omega) (by simp; omega) ?_; intro v1 v2 hown1 hgrow _)
      have hb2 : Below (w.heap.size + 1) x1 v2 := Below.grown (hb.alloc (by omega) _) hgrow (by simp; omega) (fun x hx => (hown.lt x hx).1)
      rw [show ([before, r.step, r.rate, r.root, (n : Int)] ++ upto (at0 r.batch) q).map (Value.int .u64) ++ [.int .u64 y] = ([before, r.step, r.rate, r.root, (n : Int)] ++ upto (at0 r.batch) (q + 1)).map (Value.int .u64) by rw [G.out]; simp] at hown1
      clear hgrow
      go_roundw
      case rel => exact ⟨q + 1, by omega, by go_num, hown1, hb2⟩
      case measure => simp [intOf]; omega
    · obtain rfl : q = n := by omega
      rw [HW.out] at hown
      obtain ⟨S, sc, hv, hI⟩ := own_ints hown
      subst hv
      go_wp2_with fail
      refine (HOF.out S sc wr hI).mono ?_
      rintro e w5 ⟨rfl, hb5⟩
      go_wp2
      go_ret
      exact ⟨rfl, hbx.trans (hb5.mono hbx.size)⟩
end Go.Proofs.YtaicdhjdedijoaaGreat
