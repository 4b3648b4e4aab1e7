/- Package journal: Chain: a walk. -/
import Derived.Test.YthckpmgehhkacaaJrnR
namespace Go.Proofs.Ythckpmgehhkacaa
open Go.RowKit Pl

theorem of_fine (kind : Int) (xs : List Int) (n : Nat) (hl : xs.length = n) (hn : n ≤ 200) (k0 : 0 ≤ kind) (k1 : kind < 18446744073709551616) (hu : U64 xs) (A : Option Addr) (c : Nat) (W : World) (hx : Ints .u64 W A n xs) :
    Calls Try.prog 69 #[.int .u64 kind, .slice A n c] W fun e w' => e = .returned (.tuple #[.int .u64 (ofI kind xs), .int .i64 0]) ∧ Below W.heap.size W w' := by
  have h := dig_Of kind A n c xs W k0 k1 hx hu
  have e1 : ofE xs = 0 := if_neg (by omega)
  have e2 : ofO kind xs = ofI kind xs := if_neg (by omega)
  rw [e1, e2] at h
  exact h
theorem chE_ok {r : Rec} (h : chE r = 0) : 0 ≤ r.step ∧ 0 ≤ r.rate ∧ r.batch.length ≤ 8 ∧ r.batch.all (fun n => decide (0 ≤ n)) = true := by
  unfold chE at h
  split at h
  · assumption
  · omega
theorem chE_01 (r : Rec) : chE r = 0 ∨ chE r = 5 := by unfold chE; split <;> simp

set_option maxRecDepth 100000 in
set_option maxHeartbeats 2000000 in
theorem jrn_Chain_no (before : Int) (r : Rec) (A : Option Addr) (n k : Nat) (w : World) (hx : Ints .i64 w A n r.batch) (hn : n ≤ 9223372036854775807) (hE : chE r ≠ 0) :
    Calls Try.prog 90 #[.int .u64 before, .agg #[.int .i64 r.step, .slice A n k, .int .i64 r.rate, .int .u64 r.root, .int .u64 r.chain]] w fun e w' => e = .returned (.tuple #[.int .u64 0, .int .i64 5]) ∧ Below w.heap.size w w' := by
  have hl := hx.len
  by_cases h1 : r.step < 0
  · clear hE hx hl
    go_enter Try.func90, Try.ntmps90
    go_wp2
    go_ret2
    exact ⟨rfl, (Below.refl _ _).alloc (Nat.le_refl _) _⟩
  · by_cases h2 : r.rate < 0
    · clear hE hx hl
      go_enter Try.func90, Try.ntmps90
      go_wp2
      go_ret2
      exact ⟨rfl, (Below.refl _ _).alloc (Nat.le_refl _) _⟩
    · by_cases h3 : 8 < n
      · have h3' : (8 : Int) < (n : Int) := by omega
        clear hE hx hl
        go_enter Try.func90, Try.ntmps90
        go_wp2
        go_ret2
        exact ⟨rfl, (Below.refl _ _).alloc (Nat.le_refl _) _⟩
      · have h4 : r.batch.all (fun n => decide (0 ≤ n)) = !true := by
          cases h : r.batch.all (fun n => decide (0 ≤ n))
          · rfl
          · exact absurd (if_pos ⟨by omega, by omega, by omega, h⟩) hE
        have h3' : ¬ (8 : Int) < (n : Int) := by omega
        have HN := Lib.hid (fun W (q : Ints .i64 W A n r.batch) => neg_any (c := k) h4 q hn)
        clear hE hl h4
        go_enter Try.func90, Try.ntmps90
        go_wp2_with fail
        refine (HN.out _ (hx.alloc _)).mono ?_
        rintro e w1 ⟨rfl, q1, rfl⟩
        go_wp2
        go_ret2
        exact ⟨rfl, bel_drewN ((Below.refl _ _).alloc (Nat.le_refl _) _) _⟩

set_option maxRecDepth 100000 in
set_option maxHeartbeats 4000000 in
theorem jrn_Chain_ok (before : Int) (r : Rec) (A : Option Addr) (n k : Nat) (w : World) (hx : Ints .i64 w A n r.batch) (hE : chE r = 0) (b0 : 0 ≤ before) (b1 : before < 18446744073709551616) (s1 : r.step < 9223372036854775808) (r1 : r.rate < 9223372036854775808)
    (t0 : 0 ≤ r.root) (t1 : r.root < 18446744073709551616) (z1 : ∀ z ∈ r.batch, z < 9223372036854775808) :
    Calls Try.prog 90 #[.int .u64 before, .agg #[.int .i64 r.step, .slice A n k, .int .i64 r.rate, .int .u64 r.root, .int .u64 r.chain]] w fun e w' => e = .returned (.tuple #[.int .u64 (ofI 6 (chW before r)), .int .i64 0]) ∧ Below w.heap.size w w' := by
  obtain ⟨i0, hi0, hz0, hz1, hz2⟩ := info_parts u64_info
  obtain ⟨e1, e2, e3, e4⟩ := chE_ok hE
  have hl := hx.len
  have hn8 : n ≤ 8 := by omega
  have HU := Lib.hid (chW_u64 (x := before) hE b0 b1 (by omega) (by omega) t0 t1 (fun z hz => by have := z1 z hz; omega))
  have HNN := Lib.hid (fun j (hj : j < n) => show 0 ≤ at0 r.batch j ∧ at0 r.batch j < 9223372036854775808 from by
    have hm : at0 r.batch j ∈ r.batch := by rw [at0_getElem _ _ (by omega)]; exact List.getElem_mem _
    exact ⟨by rw [List.all_eq_true] at e4; simpa using e4 _ hm, z1 _ hm⟩)
  have HW := Lib.hid (show [before, r.step, r.rate, r.root, (n : Int)] ++ upto (at0 r.batch) n = chW before r by rw [← hl, upto_at0]; rfl)
  have HOF := Lib.hid (fun A c W (q : Ints .u64 W A (5 + n) (chW before r)) => of_fine 6 (chW before r) (5 + n) (by rw [chW_len, hl]) (by omega) (by omega) (by omega) HU.out A c W q)
  have HN := Lib.hid (fun W (q : Ints .i64 W A n r.batch) => neg_any (c := k) (b := false) e4 q (by omega))
  have HLW := Lib.hid (show (chW before r).length = 5 + n by rw [chW_len, hl])
  have w1 : IntKind.u64.wrap r.step = r.step := wrap_u64_in (by omega) (by omega)
  have w2 : IntKind.u64.wrap r.rate = r.rate := wrap_u64_in (by omega) (by omega)
  have w3 : IntKind.u64.wrap (n : Int) = (n : Int) := wrap_u64_in (by omega) (by omega)
  have c1 : ¬ r.step < 0 := by omega
  have c2 : ¬ r.rate < 0 := by omega
  have c3 : ¬ (8 : Int) < (n : Int) := by omega
  have HB := Blk.made w 69 #[.int .i64 r.step, .slice A n k, .int .i64 r.rate, .int .u64 r.root, .int .u64 r.chain]
  clear hE e1 e2 e3 e4 hl z1
  go_enter Try.func90, Try.ntmps90
  go_wp2_with fail
  refine (HN.out _ (hx.alloc _)).mono ?_
  rintro e x1 ⟨rfl, hq⟩
  have hB1 := HB.quiet hq
  have g0 : x1.cell? ⟨w.heap.size, 0, none⟩ = some (.int .i64 r.step) := hB1.cell 0
  have g1 : x1.cell? ⟨w.heap.size, 1, none⟩ = some (.slice A n k) := hB1.cell 1
  have g2 : x1.cell? ⟨w.heap.size, 2, none⟩ = some (.int .i64 r.rate) := hB1.cell 2
  have g3 : x1.cell? ⟨w.heap.size, 3, none⟩ = some (.int .u64 r.root) := hB1.cell 3
  have hbw : Below w.heap.size w x1 := Quiet.after (((Below.refl _ _).alloc (Nat.le_refl _) _) : Below w.heap.size w (w.alloc (.cells #[.int .i64 r.step, .slice A n k, .int .i64 r.rate, .int .u64 r.root, .int .u64 r.chain] 69))) hq
  have hlx := hB1.lt
  have O0 : (x1.alloc (.cells #[.int .u64 before, .int .u64 r.step, .int .u64 r.rate, .int .u64 r.root, .int .u64 n] 22)).ownsRow w.heap.size 22 1 (.slice (some ⟨x1.heap.size, 0, none⟩) 5 5) 5 ([before, r.step, r.rate, r.root, (n : Int)].map (.int .u64)) := World.ownsRow_lit x1 #[.int .u64 before, .int .u64 r.step, .int .u64 r.rate, .int .u64 r.root, .int .u64 n] 5 hbw.size (by decide) rfl
  have hb0 : Below w.heap.size w (x1.alloc (.cells #[.int .u64 before, .int .u64 r.step, .int .u64 r.rate, .int .u64 r.root, .int .u64 n] 22)) := hbw.alloc hbw.size _
  have hBc := hB1.alloc (.cells #[.int .u64 before, .int .u64 r.step, .int .u64 r.rate, .int .u64 r.root, .int .u64 n] 22)
  clear hq HB hB1 HN
  obtain ⟨W0, hW0⟩ : ∃ W0, W0 = (x1.alloc (.cells #[.int .u64 before, .int .u64 r.step, .int .u64 r.rate, .int .u64 r.root, .int .u64 n] 22)) := ⟨_, rfl⟩
  rw [← hW0] at O0 hb0 hBc
  have HW0 := Lib.hid hW0
  clear hW0 hBc
  go_wp2
  rw [← HW0.out]
  go_loopw [6, 8, 45] (fun l _ j wr => ∃ q : Nat, q ≤ n ∧ j = .int .i64 q ∧ wr.ownsRow w.heap.size 22 1 l (5 + q) (([before, r.step, r.rate, r.root, (n : Int)] ++ upto (at0 r.batch) q).map (.int .u64)) ∧ Below w.heap.size w wr) (fun _ _ j _ => n - (intOf j).toNat)
  case atStart => exact ⟨0, by omega, rfl, O0, hb0⟩
  case round =>
    clear O0 hb0
    obtain ⟨q, hq, rfl, hown, hb⟩ := hrel
    have hbs := hb.size
    by_cases hlt : q < n
    · obtain ⟨b, off, hA, hbl, hc⟩ := (hx.below hb).cells (by omega)
      subst hA
      have g1 := hc q hlt
      obtain ⟨y0, y1⟩ := HNN.out q hlt
      have G := Lib.hid (upto_succ (at0 r.batch) q)
      obtain ⟨y, hy⟩ : ∃ y, y = at0 r.batch q := ⟨_, rfl⟩
      rw [← hy] at g1 y0 y1 G
      have wy : IntKind.u64.wrap y = y := wrap_u64_in (by omega) (by omega)
      clear hc hy
      go_wp2_with (at_builtin; refine wpList_append_own _ rfl _ _ 24 rfl w.heap.size 22 i0 (.int .u64 0) 1 8 Try.underlying24 hi0 hz0 hz1 hz2 rfl (by decide) u6 (5 + q) _ rfl (hown.alloc _) ⟨wr.heap.size, 0, none⟩ 1 1 [.int .u64 y] rfl rfl (cell_one_new _ _ _) (by simp [Value.oneCell']) (by unfold maxLen; omega) (by omega) (by simp; omega) ?_; intro v1 v2 hown1 hgrow _)
      have hb2 : Below w.heap.size w v2 := Below.grown (hb.alloc hbs _) hgrow (by simp; omega) (fun x hx => (hown.lt x hx).1)
      rw [show ([before, r.step, r.rate, r.root, (n : Int)] ++ upto (at0 r.batch) q).map (Value.int .u64) ++ [.int .u64 y] = ([before, r.step, r.rate, r.root, (n : Int)] ++ upto (at0 r.batch) (q + 1)).map (Value.int .u64) by rw [G.out]; simp] at hown1
      clear hgrow
      go_roundw
      case rel => exact ⟨q + 1, by omega, by go_num, hown1, hb2⟩
      case measure => simp [intOf]; omega
    · obtain rfl : q = n := by omega
      rw [HW.out] at hown
      obtain ⟨S, sc, hv, hI⟩ := own_ints hown
      subst hv
      go_wp2_with fail
      refine (HOF.out S sc wr hI).mono ?_
      rintro e w5 ⟨rfl, hb5⟩
      go_wp2
      go_ret2
      exact ⟨rfl, hb.trans (hb5.mono hb.size)⟩
end Go.Proofs.Ythckpmgehhkacaa
