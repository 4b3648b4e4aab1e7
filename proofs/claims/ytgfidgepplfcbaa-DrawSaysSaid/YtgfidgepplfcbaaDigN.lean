/- What the document's own text says of digests: Of, Pair, Word: walks, each function once. -/
import Derived.Test.YtgfidgepplfcbaaDigX
namespace Go.Proofs.Ytgfidgepplfcbaa
open Go.RowKit Pl

theorem ref_mixed_lit (x y z : Int) (s : Nat × Nat × Nat) (hx : x = s.1) (hy : y = s.2.1) (hz : z = s.2.2) (w : World) (hs : st64 s) :
    Calls Try.prog 96 #[.agg #[.int .u64 x, .int .u64 y, .int .u64 z]] w fun e w' => e = .returned (.agg #[.int .u64 (mixP s).1, .int .u64 (mixP s).2.1, .int .u64 (mixP s).2.2]) ∧ Below w.heap.size w w' := by
  subst hx; subst hy; subst hz
  exact ref_mixed s w hs

set_option maxRecDepth 100000 in
set_option maxHeartbeats 1000000 in
theorem ref_Of (kind : Int) (A : Option Addr) (n c : Nat) (xs : List Int) (w : World) (h0 : 0 ≤ kind) (h1 : kind < 18446744073709551616) (hx : Ints .u64 w A n xs) (hu : U64 xs) (hn : n ≤ 9223372036854775807) :
    Calls Try.prog 37 #[.int .u64 kind, .slice A n c] w fun e w' => e = .returned (.int .u64 (ofI kind xs)) ∧ Below w.heap.size w w' := by
  have hcv : IntKind.u64.wrap (n : Int) = (n : Int) := wrap_u64_in (by omega) (by omega)
  have HE := Lib.hid (show ((stK kind xs n).2.1 : Int) = ofI kind xs by rw [← hx.len]; exact stK_end kind xs)
  have HP : P61 = 2305843009213693951 := rfl
  have hs0 : st64 (st0 kind xs) := ⟨by
    show kind.toNat % P61 < _
    have := Nat.mod_lt kind.toNat P61_pos
    omega, by
    show (nats xs).length < _
    rw [nats_length, hx.len]; omega, by show 1 < _; omega⟩
  have e1 : kind % 2305843009213693951 = ((st0 kind xs).1 : Int) := by
    show _ = ((kind.toNat % P61 : Nat) : Int)
    rw [HP]; omega
  have e2 : (n : Int) = ((st0 kind xs).2.1 : Int) := by
    show _ = (((nats xs).length : Nat) : Int)
    rw [nats_length, hx.len]
  have E1 := Lib.hid e1
  have E2 := Lib.hid e2
  clear e1 e2 HP
  go_enter Try.func37, Try.ntmps37
  go_wp2_with fail
  refine (ref_mixed_lit _ _ _ (st0 kind xs) E1.out E2.out rfl _ hs0).mono ?_
  rintro e w1 ⟨rfl, hb1⟩
  have hG1 : ∀ a b c : Int, a = (mixP (st0 kind xs)).1 → b = (mixP (st0 kind xs)).2.1 → c = (mixP (st0 kind xs)).2.2 → Blk (w1.alloc (.cells #[.int .u64 a, .int .u64 b, .int .u64 c] 118)) w1.heap.size 118 (stC (stK kind xs 0)) := by
    rintro a b c rfl rfl rfl
    exact Blk.made w1 _ _
  have hbw : ∀ o, Below w.heap.size w (w1.alloc o) := fun o => hb1.alloc hb1.size _
  obtain ⟨g, hg⟩ : ∃ g, g = w1.heap.size := ⟨_, rfl⟩
  have hgl : w.heap.size ≤ g := by rw [hg]; exact hb1.size
  have HG := Lib.hid hg
  clear hb1
  go_wp2
  rw [← HG.out]
  rw [← hg] at hG1
  clear hg
  go_loopw [6] (fun i wr => ∃ k : Nat, k ≤ n ∧ i = .int .i64 k ∧ Below w.heap.size w wr ∧ Blk wr g 118 (stC (stK kind xs k))) (fun i _ => n - (intOf i).toNat)
  case atStart => exact ⟨0, by omega, rfl, hbw _, hG1 _ _ _ rfl rfl rfl⟩
  case round =>
    clear hbw hG1
    obtain ⟨k, hk, rfl, hb, hG⟩ := hrel
    by_cases hlt : k < n
    · obtain ⟨b, off, rfl, hbl, hc⟩ := hx.cells (by omega)
      have g1 := (hb.cell (p := ⟨b, off + k, none⟩) hbl).trans (hc k hlt)
      obtain ⟨l1, l2, l3⟩ := stK_lt kind xs k
      obtain ⟨u1, u2⟩ := hu k
      have l1' := l1
      have hP : P61 = 2305843009213693951 := rfl
      rw [hP] at l1'
      clear hP
      have F := Lib.hid (stK_succ kind xs k)
      have L := Lib.hid (And.intro l1 (And.intro l2 l3))
      obtain ⟨s, hs⟩ : ∃ s, s = stK kind xs k := ⟨_, rfl⟩
      rw [← hs] at hG F l1' L
      clear hs l1 l2 l3 hc
      obtain ⟨v, hv⟩ : ∃ v, v = at0 xs k := ⟨_, rfl⟩
      rw [← hv] at g1 u1 u2 F
      clear hv
      have c0 : wr.cell? ⟨g, 0, none⟩ = some (.int .u64 s.1) := hG.cell 0
      have c1 : wr.cell? ⟨g, 1, none⟩ = some (.int .u64 s.2.1) := hG.cell 1
      have c2 : wr.cell? ⟨g, 2, none⟩ = some (.int .u64 s.2.2) := hG.cell 2
      have z0 := hG.frozen 0
      have HA := Lib.hid (fun W => (ref_plus s.1 v (by omega) (by omega) u1 u2 W).mono (R' := fun e w' => e = .returned (.int .u64 (addI s.1 v)) ∧ w' = W) fun _ _ ⟨h, e⟩ => ⟨h, e.symm⟩)
      have j0 : (0 : Int) ≤ (k : Int) := by omega
      have j1 : (k : Int) < (n : Int) := by omega
      clear l1'
      go_wp2
      refine wp_region_still_tail 8 (by kernel_rfl) (by kernel_rfl) ?_
      simp only [List.take_succ_cons, List.take_zero, List.drop_succ_cons, List.drop_zero]
      repeat still_step
      still_call (HA.out _)
      repeat still_step
      refine wpStill_nil ?_
      change wpList _ _ _ _ _ wr.drew
      go_wp2_with fail
      have hG2 : Blk ((wr.setCell ⟨g, 0, none⟩ (.int .u64 (addI s.1 v))).drew) g 118 (stC (addP s.1 v.toNat, s.2)) := (hG.put 0 (.int .u64 (addI s.1 v))).drewN 1
      have hs2 : st64 (addP s.1 v.toNat, s.2) := st64_lt ⟨addP_lt _ _, L.out.2.1, L.out.2.2⟩
      refine (ref_mixed_lit _ _ _ (addP s.1 v.toNat, s.2) rfl rfl rfl _ hs2).mono ?_
      rintro e w2 ⟨rfl, hb2⟩
      have hb3 : Below w.heap.size w w2 := (bel_drewN (hb.setCell (p := ⟨g, 0, none⟩) hgl _) 1).trans (hb2.mono (by have := hb.size; simp [World.setCell]; exact this))
      have hG3 := hG2.below hb2 hG2.lt
      have d0 : w2.cell? ⟨g, 0, none⟩ = some (.int .u64 (addP s.1 v.toNat)) := hG3.cell 0
      have d1 : w2.cell? ⟨g, 1, none⟩ = some (.int .u64 s.2.1) := hG3.cell 1
      have d2 : w2.cell? ⟨g, 2, none⟩ = some (.int .u64 s.2.2) := hG3.cell 2
      have y0 := hG3.frozen 0
      have y1 := hG3.frozen 1
      have y2 := hG3.frozen 2
      obtain ⟨t, ht⟩ : ∃ t, t = mixP (addP s.1 v.toNat, s.2) := ⟨_, rfl⟩
      rw [← ht] at F ⊢
      clear hG2 hb2 c0 c1 c2 z0 hG g1 ht
      go_wp2
      go_roundw
      case rel => exact ⟨k + 1, by omega, by go_num, ((hb3.setCell hgl _).setCell hgl _).setCell hgl _, by
        rw [F.out]
        have h := ((hG3.put 0 (.int .u64 t.1)).put 1 (.int .u64 t.2.1)).put 2 (.int .u64 t.2.2)
        exact h⟩
      case measure => simp [intOf]; omega
    · obtain rfl : n = k := by omega
      have c1 : wr.cell? ⟨g, 1, none⟩ = some (.int .u64 (stK kind xs n).2.1) := hG.cell 1
      go_wp2
      go_ret
      exact ⟨ret_int HE.out, hb⟩

set_option maxHeartbeats 1000000 in
theorem ref_PairD (a b : Int) (w : World) (h0 : 0 ≤ a) (h1 : a < 18446744073709551616) (h2 : 0 ≤ b) (h3 : b < 18446744073709551616) :
    Calls Try.prog 43 #[.int .u64 a, .int .u64 b] w fun e w' => e = .returned (.int .u64 (pairI a b)) ∧ Below w.heap.size w w' := by
  have hI := Ints.made_u64 w [a, b] 2 rfl #[.int .u64 a, .int .u64 b] rfl rfl 42
  have H := Lib.hid (ref_Of 3 _ 2 2 [a, b] _ (by omega) (by omega) hI (.cons h0 h1 (.cons h2 h3 .nil)) (by omega))
  clear h0 h1 h2 h3
  go_enter Try.func43, Try.ntmps43
  go_wp2_with (go_at_call 37; refine H.out.mono ?_; rintro e w1 ⟨rfl, hb⟩)
  go_ret
  exact ⟨rfl, Below.trans (B := w.heap.size) (by repeat (first | exact Below.refl _ _ | assumption | refine bel_drewN ?_ _ | refine Below.drew ?_ | (refine Below.alloc ?_ (by simp <;> omega) _) | (refine Below.setCell ?_ (by simp <;> omega) _))) (hb.mono (by simp))⟩
set_option maxHeartbeats 1000000 in
theorem ref_WordD (a b : Int) (w : World) (h0 : 0 ≤ a) (h1 : a < 18446744073709551616) (h2 : 0 ≤ b) (h3 : b < 18446744073709551616) :
    Calls Try.prog 45 #[.int .u64 a, .int .u64 b] w fun e w' => e = .returned (.int .u64 (wordI a b)) ∧ Below w.heap.size w w' := by
  have hI := Ints.made_u64 w [a, b] 2 rfl #[.int .u64 a, .int .u64 b] rfl rfl 42
  have H := Lib.hid (ref_Of 2 _ 2 2 [a, b] _ (by omega) (by omega) hI (.cons h0 h1 (.cons h2 h3 .nil)) (by omega))
  clear h0 h1 h2 h3
  go_enter Try.func45, Try.ntmps45
  go_wp2_with (go_at_call 37; refine H.out.mono ?_; rintro e w1 ⟨rfl, hb⟩)
  go_ret
  exact ⟨rfl, Below.trans (B := w.heap.size) (by repeat (first | exact Below.refl _ _ | assumption | refine bel_drewN ?_ _ | refine Below.drew ?_ | (refine Below.alloc ?_ (by simp <;> omega) _) | (refine Below.setCell ?_ (by simp <;> omega) _))) (hb.mono (by simp))⟩
end Go.Proofs.Ytgfidgepplfcbaa
