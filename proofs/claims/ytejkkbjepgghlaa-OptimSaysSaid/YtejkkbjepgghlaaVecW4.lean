/- What vec.Back and vec.Outer compute, and what vec.Mul and vec.Back say is wrong: walks, each function once. -/
import Derived.Test.YtejkkbjepgghlaaVecW2
import Derived.Test.YtejkkbjepgghlaaRefTimes
namespace Go.Proofs.Ytejkkbjepgghlaa
open Go.RowKit Pl

/-- What is wrong ahead of a product with a matrix: too long; the matrix; not as many. -/
def prodE (r c : Int) (xs : List Int) (m k : Int) : Int := if 200 < m then 2 else if matE r c xs ≠ 0 then matE r c xs else if m ≠ k then 5 else 0
theorem prodE_1 {r c : Int} {xs : List Int} {m k : Int} (h : 200 < m) : prodE r c xs m k = 2 := if_pos h
theorem prodE_2 {r c : Int} {xs : List Int} {m k : Int} (h : ¬ 200 < m) (h' : matE r c xs ≠ 0) : prodE r c xs m k = matE r c xs := by unfold prodE; rw [if_neg h, if_pos h']
theorem prodE_3 {r c : Int} {xs : List Int} {m k : Int} (h : ¬ 200 < m) (h' : matE r c xs = 0) (h3 : m ≠ k) : prodE r c xs m k = 5 := by unfold prodE; rw [if_neg h, if_neg (by simp [h']), if_pos h3]

set_option maxHeartbeats 1000000 in
theorem vec_Back_no (r c : Int) (A B : Option Addr) (n cap m d : Nat) (xs : List Int) (w : World) (hx : Ints .i64 w A n xs) (hn : n ≤ 9223372036854775807) (he : prodE r c xs m r ≠ 0) :
    Calls Try.prog 93 #[(.agg #[.int .i64 r, .int .i64 c, .slice A n cap]), .slice B m d] w fun e w' => e = .returned (.tuple #[.slice none 0 0, .int .i64 (prodE r c xs m r)]) ∧ Below w.heap.size w w' := by
  have hM := MatBox.new w r c A n cap
  have hx' := hx.alloc (.cells #[.int .i64 r, .int .i64 c, .slice A n cap] 47)
  have HV : Vals ((w.alloc (.cells #[.int .i64 r, .int .i64 c, .slice A n cap] 47)).alloc (.cells #[.slice B m d] 25)) (some ⟨w.heap.size + 1, 0, none⟩) 1 [.slice B m d] := by
    have h := Vals.made (w.alloc (.cells #[.int .i64 r, .int .i64 c, .slice A n cap] 47)) #[.slice B m d] 25 1 [.slice B m d] rfl rfl
    simpa using h
  by_cases h1 : 200 < m
  · have HA := Lib.hid ((large1 B m d).trans (decide_eq_true h1))
    have F := Lib.hid (prodE_1 (r := r) (c := c) (xs := xs) (k := r) (show (200 : Int) < m by omega))
    clear h1 he
    go_enter Try.func93, Try.ntmps93
    go_wp2_with (go_at_call 131; refine (vec_large _ 1 1 [.slice B m d] _ (by exact HV) (by omega) (by simp)).mono ?_; rintro e w1 ⟨rfl, k, rfl⟩; rw [HA.out])
    go_ret2
    rw [F.out]
    exact ⟨rfl, (by repeat (first | exact Below.refl _ _ | assumption | refine bel_drewN ?_ _ | refine Below.drew ?_ | (refine Below.alloc ?_ (by simp <;> omega) _) | (refine Below.setCell ?_ (by simp <;> omega) _)))⟩
  have HA := Lib.hid ((large1 B m d).trans (decide_eq_false h1))
  by_cases h2 : matE r c xs = 0
  · have h3 : m ≠ r := fun h => he (by unfold prodE; rw [if_neg (by omega), if_neg (by simp [h2]), if_neg (by simp [h])])
    have t3 : ((m : Int) != r) = true := by rw [bne_iff_ne]; exact h3
    have F := Lib.hid (prodE_3 (r := r) (c := c) (xs := xs) (k := r) (show ¬ (200 : Int) < m by omega) h2 h3)
    have H2 := Lib.hid h2
    clear h1 he h2 h3
    go_enter Try.func93, Try.ntmps93
    go_wp2_with (first | (go_at_call 131; refine (vec_large _ 1 1 [.slice B m d] _ (by exact HV) (by omega) (by simp)).mono ?_; rintro e w1 ⟨rfl, k, rfl⟩; rw [HA.out]) | (go_at_call 125; refine (vec_Check r c A n cap xs _ (by exact (hx'.alloc _).drewN _) (by omega)).mono ?_; rintro e w2 ⟨rfl, hb2⟩; have hbw := Below.trans (B := w.heap.size) (show Below w.heap.size w _ from (by repeat (first | exact Below.refl _ _ | assumption | refine bel_drewN ?_ _ | refine Below.drew ?_ | (refine Below.alloc ?_ (by simp <;> omega) _) | (refine Below.setCell ?_ (by simp <;> omega) _)))) (hb2.mono (by simp <;> omega)); obtain ⟨q0, q1, q2⟩ := (hM.below (D := w.heap.size + 1) (show Below (w.heap.size + 1) _ _ from (bel_drewN (Below.alloc (Below.refl _ _) (by simp) _) _)) (by omega)).below hb2 (by simp <;> omega); rw [H2.out]))
    go_ret2
    rw [F.out]
    exact ⟨rfl, hbw⟩
  · have t2 : (matE r c xs != 0) = true := by rw [bne_iff_ne]; exact h2
    have F := Lib.hid (prodE_2 (r := r) (c := c) (xs := xs) (k := r) (show ¬ (200 : Int) < m by omega) h2)
    clear h1 he h2
    go_enter Try.func93, Try.ntmps93
    go_wp2_with (first | (go_at_call 131; refine (vec_large _ 1 1 [.slice B m d] _ (by exact HV) (by omega) (by simp)).mono ?_; rintro e w1 ⟨rfl, k, rfl⟩; rw [HA.out]) | (go_at_call 125; refine (vec_Check r c A n cap xs _ (by exact (hx'.alloc _).drewN _) (by omega)).mono ?_; rintro e w2 ⟨rfl, hb2⟩; have hbw := Below.trans (B := w.heap.size) (show Below w.heap.size w _ from (by repeat (first | exact Below.refl _ _ | assumption | refine bel_drewN ?_ _ | refine Below.drew ?_ | (refine Below.alloc ?_ (by simp <;> omega) _) | (refine Below.setCell ?_ (by simp <;> omega) _)))) (hb2.mono (by simp <;> omega)); obtain ⟨q0, q1, q2⟩ := (hM.below (D := w.heap.size + 1) (show Below (w.heap.size + 1) _ _ from (bel_drewN (Below.alloc (Below.refl _ _) (by simp) _) _)) (by omega)).below hb2 (by simp <;> omega)))
    go_ret2
    rw [F.out]
    exact ⟨rfl, hbw⟩

set_option maxRecDepth 100000 in
set_option maxHeartbeats 2000000 in
theorem vec_Back_ok (r c : Nat) (A B : Option Addr) (n cap d : Nat) (xs ys : List Int) (w : World) (hx : Ints .i64 w A n xs) (hy : Ints .i64 w B r ys) (hr : 1 ≤ r ∧ r ≤ 4) (hc : 1 ≤ c ∧ c ≤ 4) (hn : n = r * c) (ho : okL xs = true) :
    Calls Try.prog 93 #[(.agg #[.int .i64 r, .int .i64 c, .slice A n cap]), .slice B r d] w (OwnRes w (backL xs r c ys) 0) := by
  obtain ⟨i0, hi0, hz0, hz1, hz2⟩ := info_parts int_info
  have hn16 : n ≤ 16 := by rw [hn]; exact Nat.mul_le_mul hr.2 hc.2
  have hE : matE r c xs = 0 := matE_5 (sideB_iff.2 (by omega)) (sideB_iff.2 (by omega)) (by rw [hx.len, hn, Int.natCast_mul]) ho
  have H2 := Lib.hid hE
  have HN := Lib.hid hn
  have HA := Lib.hid ((large1 B r d).trans (decide_eq_false (show ¬ 200 < r by omega)))
  have hM := MatBox.new w r c A n cap
  have hx' := hx.alloc (.cells #[.int .i64 r, .int .i64 c, .slice A n cap] 47)
  have HV : Vals ((w.alloc (.cells #[.int .i64 r, .int .i64 c, .slice A n cap] 47)).alloc (.cells #[.slice B r d] 25)) (some ⟨w.heap.size + 1, 0, none⟩) 1 [.slice B r d] := by
    have h := Vals.made (w.alloc (.cells #[.int .i64 r, .int .i64 c, .slice A n cap] 47)) #[.slice B r d] 25 1 [.slice B r d] rfl rfl
    simpa using h
  clear hn hE
  go_enter Try.func93, Try.ntmps93
  go_wp2_with (first | (go_at_call 131; refine (vec_large _ 1 1 [.slice B r d] _ (by exact HV) (by omega) (by simp)).mono ?_; rintro e w1 ⟨rfl, k, rfl⟩; rw [HA.out]) | (go_at_call 125; refine (vec_Check r c A n cap xs _ (by exact (hx'.alloc _).drewN _) (by omega)).mono ?_; rintro e w2 ⟨rfl, hb2⟩; have hbw := Below.trans (B := w.heap.size) (show Below w.heap.size w _ from (by repeat (first | exact Below.refl _ _ | assumption | refine bel_drewN ?_ _ | refine Below.drew ?_ | (refine Below.alloc ?_ (by simp <;> omega) _) | (refine Below.setCell ?_ (by simp <;> omega) _)))) (hb2.mono (by simp <;> omega)); obtain ⟨q0, q1, q2⟩ := (hM.below (D := w.heap.size + 1) (show Below (w.heap.size + 1) _ _ from (bel_drewN (Below.alloc (Below.refl _ _) (by simp) _) _)) (by omega)).below hb2 (by simp <;> omega); rw [H2.out]; have hM2 : MatBox w2 w.heap.size r c A n cap := ⟨q0, q1, q2⟩; have hsz : w.heap.size < w2.heap.size := by (have := hb2.size; simp at this; omega)))
  have hx2 := hx.below hbw
  have hy2 := hy.below hbw
  clear q0 q1 q2 hb2 hx' hM HV
  go_loopw [7, 26] (fun o i wr => ∃ k : Nat, k ≤ c ∧ i = .int .i64 k ∧ wr.ownsRow w2.heap.size 3 1 o k ((upto (fun k => dotN (colL xs c r k) ys r) k).map (.int .i64)) ∧ Below w2.heap.size w2 wr) (fun _ i _ => c - (intOf i).toNat)
  case atStart => exact ⟨0, Nat.zero_le _, rfl, World.ownsRow_nil _ _ _ _, Below.refl _ _⟩
  case round =>
    obtain ⟨k, hk, rfl, hown, hb⟩ := hrel
    by_cases hlt : k < c
    · obtain ⟨q0, q1, q2⟩ := hM2.below hb hsz
      go_wp2
      clear q0 q1 q2
      obtain ⟨wo, rfl⟩ : ∃ wo : World, wo = wr := ⟨_, rfl⟩
      have hMr := hM2.below hb hsz
      have hso : w2.heap.size ≤ wo.heap.size := hb.size
      have hxr := hx2.below hb
      have hyr := hy2.below hb
      go_loopw [9, 31] (fun o j ws => ∃ j' : Nat, j' ≤ r ∧ j = .int .i64 j' ∧ ws.ownsRow wo.heap.size 3 1 o j' ((upto (fun r' => at0 xs (r' * c + k)) j').map (.int .i64)) ∧ Below wo.heap.size wo ws) (fun _ j _ => r - (intOf j).toNat)
      case atStart => exact ⟨0, Nat.zero_le _, rfl, World.ownsRow_nil _ _ _ _, Below.refl _ _⟩
      case round =>
        obtain ⟨j, hj, rfl, hown2, hb2⟩ := hrel
        by_cases hl2 : j < r
        · obtain ⟨q0, q1, q2⟩ := hMr.below hb2 (by omega)
          have hij : j * c + k < n := by
            rw [HN.out]
            exact Nat.lt_of_lt_of_le (show j * c + k < (j + 1) * c by rw [Nat.succ_mul]; omega) (Nat.mul_le_mul_right _ hl2)
          obtain ⟨bb, off, rfl, hbl, hcc⟩ := hxr.cells (by omega)
          have g1 := (hb2.cell (p := ⟨bb, off + (j * c + k), none⟩) hbl).trans (hcc _ hij)
          have z0 : (0 : Int) ≤ (j : Int) * (c : Int) := Int.mul_nonneg (by omega) (by omega)
          have z1 : (j : Int) * (c : Int) ≤ 16 := by
            have : j * c ≤ 4 * 4 := Nat.mul_le_mul (by omega) (by omega)
            have e : (j : Int) * (c : Int) = ((j * c : Nat) : Int) := (Int.natCast_mul j c).symm
            omega
          have hbs := hb2.size
          clear hcc
          go_wp2_with (at_builtin; refine wpList_append_own _ rfl _ _ 25 rfl wo.heap.size 3 i0 (.int .i64 0) 1 8 Try.underlying25 hi0 hz0 hz1 hz2 rfl (by decide) u9 j _ rfl (hown2.alloc _) ⟨wr.heap.size, 0, none⟩ 1 1 [.int .i64 (at0 xs (j * c + k))] rfl rfl (cell_one_new _ _ _) (by simp [Value.oneCell']) (by unfold maxLen; omega) (by omega) (by simp; omega) ?_; intro v1 w1 hown1 hgrow _)
          have hb3 := Below.grown (B := wo.heap.size) (hb2.alloc (by omega) _) hgrow (by simp; omega) (fun x hx => (hown2.lt x hx).1)
          rw [← List.map_singleton, ← List.map_append, ← upto_succ (fun r' => at0 xs (r' * c + k))] at hown1
          clear hgrow g1 q0 q1 q2
          go_roundw
          case rel => exact ⟨j + 1, by omega, by go_num, hown1, hb3⟩
          case measure => simp [intOf]; omega
        · obtain rfl : r = j := by omega
          have hown3 := own_below hown hb2
          have hyw := hyr.below hb2
          have hbt := hb.trans (hb2.mono hso)
          have hbs := hb2.size
          obtain ⟨cA, cc, rfl, hcI⟩ := own_ints hown2
          clear hown2
          go_wp2_with fail
          refine (vec_dot cA B r cc d r (colL xs c r k) ys _ hcI hyw (Nat.le_refl _) (by omega)).mono ?_
          rintro e w3 ⟨rfl, hq3⟩
          have hown4 := own_quiet hown3 hq3
          have hbq := Quiet.after hbt hq3
          have hbz : wr.heap.size ≤ w3.heap.size := by rw [Quiet.size hq3]; exact Nat.le_refl _
          go_wp2_with (at_builtin; refine wpList_append_own _ rfl _ _ 25 rfl w2.heap.size 3 i0 (.int .i64 0) 1 8 Try.underlying25 hi0 hz0 hz1 hz2 rfl (by decide) u7 k _ rfl (hown4.alloc _) ⟨w3.heap.size, 0, none⟩ 1 1 [.int .i64 (dotN (colL xs c r k) ys r)] rfl rfl (cell_one_new _ _ _) (by simp [Value.oneCell']) (by unfold maxLen; omega) (by omega) (by simp; omega) ?_; intro v1 w1 hown5 hgrow _)
          have hb3 := Below.grown (B := w2.heap.size) (hbq.alloc (by omega) _) hgrow (by simp; omega) (fun x hx => (hown4.lt x hx).1)
          rw [← List.map_singleton, ← List.map_append, ← upto_succ (fun k => dotN (colL xs c r k) ys r)] at hown5
          clear hgrow
          go_roundw
          case rel => exact ⟨k + 1, by omega, by go_num, hown5, hb3⟩
          case measure => simp [intOf]; omega
    · have hkc : k = c := by omega
      go_wp2
      go_ret2
      rw [hkc] at hown
      exact own_res (upto_length _ _) (own_base hown (by omega)) (hbw.trans (hb.mono (by omega)))

end Go.Proofs.Ytejkkbjepgghlaa
