/- What the calls of package vec compute: walks, each function once. -/
import Derived.Test.YtejkkbjepgghlaaFixW
import Derived.Test.YtejkkbjepgghlaaSlW
import Derived.OwnWalk
import Derived.LoopTactic
import Derived.Deep.RegionHeld3
import Derived.Deep.AppendLies
namespace Go.Proofs.Ytejkkbjepgghlaa
open Go.RowKit Pl

set_option maxHeartbeats 1000000 in
theorem vec_dot (A B : Option Addr) (n c d m : Nat) (xs ys : List Int) (w : World) (hx : Ints .i64 w A n xs) (hy : Ints .i64 w B m ys) (hnm : n ≤ m) (hn : n ≤ 9223372036854775807) :
    Calls Try.prog 130 #[.slice A n c, .slice B m d] w fun e w' => e = .returned (.int .i64 (dotN xs ys n)) ∧ ∃ k, w' = w.drewN k := by
  go_enter Try.func130, Try.ntmps130
  go_wp2
  go_loopw [5, 6, 9] (fun o _ i wr => ∃ k : Nat, k ≤ n ∧ i = .int .i64 k ∧ o = .int .i64 (dotN xs ys k) ∧ Quiet w wr) (fun _ _ i _ => n - (intOf i).toNat)
  case atStart => exact ⟨0, Nat.zero_le _, rfl, rfl, Quiet.refl _⟩
  case round =>
    obtain ⟨k, hk, rfl, rfl, hq⟩ := hrel
    by_cases hlt : k < n
    · obtain ⟨b, off, rfl, hb, hc⟩ := (hx.quiet hq).cells (by omega)
      obtain ⟨b', off', rfl, hb', hc'⟩ := (hy.quiet hq).cells (by omega)
      have g1 := hc k hlt
      have g2 := hc' k (by omega)
      have hkm : k < m := by omega
      clear hc hc'
      go_wp2
      go_quiet ((first | (go_at_call 80; exact Calls.quiet_of (fix_Mul _ _ _)) | (go_at_call 83; exact Calls.quiet_of ((fix_Add _ _ _).mono fun _ _ ⟨he, hw⟩ => ⟨he, 0, hw.symm⟩))))
      go_wp2
      go_roundw
      case rel => exact ⟨k + 1, by omega, by go_num, rfl, hq.step _⟩
      case measure => simp [intOf]; omega
    · have : k = n := by omega
      subst this
      go_wp2
      go_ret
      exact ⟨rfl, hq⟩

/-- How long a slice is. -/
def lenV : Value → Int
  | .slice _ n _ => n
  | _ => 0

set_option maxHeartbeats 400000 in
theorem vec_large1 (A : Option Addr) (n c : Nat) (w : World) :
    Calls Try.prog 157 #[.slice A n c] w fun e w' => e = .returned (.bool (decide (200 < lenV (.slice A n c)))) ∧ Quiet w w' := by
  go_enter Try.func157, Try.ntmps157
  go_wp2
  go_ret
  exact ⟨rfl, Quiet.refl _⟩

set_option maxHeartbeats 400000 in
theorem vec_large (A : Option Addr) (n c : Nat) (vs : List Value) (w : World) (hv : Vals w A n vs) (hn : n ≤ 9223372036854775807) (hs : ∀ v ∈ vs, ∃ A n c, v = .slice A n c) :
    Calls Try.prog 131 #[.slice A n c] w fun e w' => e = .returned (.bool (vs.any fun v => decide (200 < lenV v))) ∧ Quiet w w' := by
  have H := Lib.hid (large_any A n c vs (fun v => decide (200 < lenV v)) w hv hn (fun v W hm _ => by
    obtain ⟨A, n, c, rfl⟩ := hs v hm
    exact vec_large1 A n c W))
  go_enter Try.func131, Try.ntmps131
  go_wp2_with (go_at_call 156; refine H.out.mono ?_; rintro e w1 ⟨rfl, hq1⟩)
  go_ret
  exact ⟨rfl, hq1⟩

set_option maxHeartbeats 400000 in
theorem vec_side (n : Int) (w : World) : Calls Try.prog 132 #[.int .i64 n] w fun e w' => e = .returned (.bool (sideB n)) ∧ w = w' := by
  by_cases h : 1 ≤ n
  · have h1 : decide (1 ≤ n) = true := decide_eq_true h
    go_enter Try.func132, Try.ntmps132
    go_wp2
    go_ret
    exact ⟨ret_bool (by simp [sideB, h]), rfl⟩
  · have h1 : decide (1 ≤ n) = false := decide_eq_false h
    go_enter Try.func132, Try.ntmps132
    go_wp2
    go_ret
    exact ⟨ret_bool (sideB_no (by omega)).symm, rfl⟩

/-- Is a number one that may not be? -/
def badV : Value → Bool
  | .int _ n => n != clamp n
  | _ => false
theorem badV_any (k : IntKind) (xs : List Int) : ((xs.map (Value.int k)).any badV) = !okL xs := by
  rw [List.any_map]
  exact okL_any xs

set_option maxHeartbeats 1000000 in
theorem vec_Check1 (n : Int) (w : World) : Calls Try.prog 154 #[.int .i64 n] w fun e w' => e = .returned (.bool (badV (.int .i64 n))) ∧ Quiet w w' := by
  go_enter Try.func154, Try.ntmps154
  go_wp2_with (go_at_call 26; refine (fix_Clamp _ _).mono ?_; rintro e w' ⟨rfl, rfl⟩)
  go_ret
  exact ⟨rfl, Quiet.refl _⟩
theorem vec_check (A : Option Addr) (n c : Nat) (xs : List Int) (w : World) (hx : Ints .i64 w A n xs) (hn : n ≤ 9223372036854775807) :
    Calls Try.prog 43 #[.slice A n c, .func (.func 154) #[] #[]] w fun e w' => e = .returned (.bool (!okL xs)) ∧ Quiet w w' := by
  rw [← badV_any .i64]
  exact check_any A n c _ badV w hx.vals hn fun v W hv _ => by
    obtain ⟨x, _, rfl⟩ := List.mem_map.1 hv
    exact vec_Check1 x W

set_option maxHeartbeats 1000000 in
theorem vec_Check (r c : Int) (A : Option Addr) (n cap : Nat) (xs : List Int) (w : World) (hx : Ints .i64 w A n xs) (hn : n ≤ 9223372036854775807) :
    Calls Try.prog 125 #[.agg #[.int .i64 r, .int .i64 c, .slice A n cap]] w fun e w' => e = .returned (.int .i64 (matE r c xs)) ∧ Below w.heap.size w w' := by
  cases hr : sideB r
  · have F := Lib.hid (matE_1 (c := c) (A := xs) hr)
    go_enter Try.func125, Try.ntmps125
    go_wp2_with (first | (go_at_call 132; refine (vec_side _ _).mono ?_; rintro e w' ⟨rfl, rfl⟩) | (go_at_call 43; refine (vec_check A n cap xs _ (hx.alloc _) hn).mono ?_; rintro e w' ⟨rfl, k, rfl⟩))
    go_ret
    exact ⟨ret_int F.out.symm, (by repeat (first | exact Below.refl _ _ | assumption | refine bel_drewN ?_ _ | refine Below.drew ?_ | (refine Below.alloc ?_ (by simp <;> omega) _) | (refine Below.setCell ?_ (by simp <;> omega) _)))⟩
  cases hc : sideB c
  · have F := Lib.hid (matE_2 (A := xs) hr hc)
    go_enter Try.func125, Try.ntmps125
    go_wp2_with (first | (go_at_call 132; refine (vec_side _ _).mono ?_; rintro e w' ⟨rfl, rfl⟩) | (go_at_call 43; refine (vec_check A n cap xs _ (hx.alloc _) hn).mono ?_; rintro e w' ⟨rfl, k, rfl⟩))
    go_ret
    exact ⟨ret_int F.out.symm, (by repeat (first | exact Below.refl _ _ | assumption | refine bel_drewN ?_ _ | refine Below.drew ?_ | (refine Below.alloc ?_ (by simp <;> omega) _) | (refine Below.setCell ?_ (by simp <;> omega) _)))⟩
  obtain ⟨m1, m2⟩ := side_mul (sideB_iff.1 hr) (sideB_iff.1 hc)
  by_cases hl : (n : Int) = r * c
  · have hl1 : ((n : Int) != r * c) = false := by rw [bne_eq_false_iff_eq]; exact hl
    have hl2 := Lib.hid hl
    clear hl
    cases ho : okL xs
    · have F := Lib.hid (matE_4 hr hc ho)
      go_enter Try.func125, Try.ntmps125
      go_wp2_with (first | (go_at_call 132; refine (vec_side _ _).mono ?_; rintro e w' ⟨rfl, rfl⟩) | (go_at_call 43; refine (vec_check A n cap xs _ (hx.alloc _) hn).mono ?_; rintro e w' ⟨rfl, k, rfl⟩))
      go_ret
      exact ⟨ret_int F.out.symm, (by repeat (first | exact Below.refl _ _ | assumption | refine bel_drewN ?_ _ | refine Below.drew ?_ | (refine Below.alloc ?_ (by simp <;> omega) _) | (refine Below.setCell ?_ (by simp <;> omega) _)))⟩
    · have F := Lib.hid (matE_5 hr hc (by rw [hx.len]; exact hl2.out) ho)
      go_enter Try.func125, Try.ntmps125
      go_wp2_with (first | (go_at_call 132; refine (vec_side _ _).mono ?_; rintro e w' ⟨rfl, rfl⟩) | (go_at_call 43; refine (vec_check A n cap xs _ (hx.alloc _) hn).mono ?_; rintro e w' ⟨rfl, k, rfl⟩))
      go_ret
      exact ⟨ret_int F.out.symm, (by repeat (first | exact Below.refl _ _ | assumption | refine bel_drewN ?_ _ | refine Below.drew ?_ | (refine Below.alloc ?_ (by simp <;> omega) _) | (refine Below.setCell ?_ (by simp <;> omega) _)))⟩
  · have hl1 : ((n : Int) != r * c) = true := by rw [bne_iff_ne]; exact hl
    have F := Lib.hid (matE_3 hr hc (A := xs) (by rw [hx.len]; exact hl))
    go_enter Try.func125, Try.ntmps125
    go_wp2_with (first | (go_at_call 132; refine (vec_side _ _).mono ?_; rintro e w' ⟨rfl, rfl⟩) | (go_at_call 43; refine (vec_check A n cap xs _ (hx.alloc _) hn).mono ?_; rintro e w' ⟨rfl, k, rfl⟩))
    go_ret
    exact ⟨ret_int F.out.symm, (by repeat (first | exact Below.refl _ _ | assumption | refine bel_drewN ?_ _ | refine Below.drew ?_ | (refine Below.alloc ?_ (by simp <;> omega) _) | (refine Below.setCell ?_ (by simp <;> omega) _)))⟩

theorem pairE_no {a b : List Int} (h : 200 < a.length ∨ 200 < b.length) : pairE a b = 2 := if_pos h
theorem pairE_form {a b : List Int} (h : ¬ (200 < a.length ∨ 200 < b.length)) (h' : a.length ≠ b.length) : pairE a b = 5 := by unfold pairE; rw [if_neg h, if_pos h']
theorem pairE_ok {a b : List Int} (h : ¬ (200 < a.length ∨ 200 < b.length)) (h' : a.length = b.length) : pairE a b = 0 := by unfold pairE; rw [if_neg h, if_neg (by simp [h'])]


theorem large2 (A B : Option Addr) (n c m d : Nat) : ([Value.slice A n c, Value.slice B m d].any fun v => decide (200 < lenV v)) = decide (200 < n ∨ 200 < m) := by
  rw [Bool.eq_iff_iff, decide_eq_true_eq]
  simp only [List.any_cons, List.any_nil, Bool.or_false, Bool.or_eq_true, decide_eq_true_eq]
  show 200 < (n : Int) ∨ 200 < (m : Int) ↔ _
  omega
theorem large1 (A : Option Addr) (n c : Nat) : ([Value.slice A n c].any fun v => decide (200 < lenV v)) = decide (200 < n) := by
  rw [Bool.eq_iff_iff, decide_eq_true_eq]
  simp only [List.any_cons, List.any_nil, Bool.or_false, decide_eq_true_eq]
  show 200 < (n : Int) ↔ _
  omega

set_option maxHeartbeats 1000000 in
theorem vec_pair (A B : Option Addr) (n c m d : Nat) (xs ys : List Int) (w : World) (hx : xs.length = n) (hy : ys.length = m) :
    Calls Try.prog 129 #[.slice A n c, .slice B m d] w fun e w' => e = .returned (.int .i64 (pairE xs ys)) ∧ Below w.heap.size w w' := by
  have HX := Lib.hid hx
  have HY := Lib.hid hy
  clear hx hy
  by_cases h : 200 < n ∨ 200 < m
  · have F := Lib.hid (pairE_no (a := xs) (b := ys) (by rw [HX.out, HY.out]; exact h))
    have HA := Lib.hid ((large2 A B n c m d).trans (decide_eq_true h))
    clear h
    go_enter Try.func129, Try.ntmps129
    go_wp2_with (go_at_call 131; refine (vec_large _ 2 2 [.slice A n c, .slice B m d] _ (Vals.made _ _ _ _ _ rfl rfl) (by omega) (by simp)).mono ?_; rintro e w1 ⟨rfl, k, rfl⟩; rw [HA.out])
    go_ret
    exact ⟨ret_int F.out.symm, (by repeat (first | exact Below.refl _ _ | assumption | refine bel_drewN ?_ _ | refine Below.drew ?_ | (refine Below.alloc ?_ (by simp <;> omega) _) | (refine Below.setCell ?_ (by simp <;> omega) _)))⟩
  · have HA := Lib.hid ((large2 A B n c m d).trans (decide_eq_false h))
    by_cases hl : n = m
    · have F := Lib.hid (pairE_ok (a := xs) (b := ys) (by rw [HX.out, HY.out]; exact h) (by rw [HX.out, HY.out]; exact hl))
      subst hl
      clear h
      go_enter Try.func129, Try.ntmps129
      go_wp2_with (go_at_call 131; refine (vec_large _ 2 2 [.slice A n c, .slice B n d] _ (Vals.made _ _ _ _ _ rfl rfl) (by omega) (by simp)).mono ?_; rintro e w1 ⟨rfl, k, rfl⟩; rw [HA.out])
      go_ret
      exact ⟨ret_int F.out.symm, (by repeat (first | exact Below.refl _ _ | assumption | refine bel_drewN ?_ _ | refine Below.drew ?_ | (refine Below.alloc ?_ (by simp <;> omega) _) | (refine Below.setCell ?_ (by simp <;> omega) _)))⟩
    · have F := Lib.hid (pairE_form (a := xs) (b := ys) (by rw [HX.out, HY.out]; exact h) (by rw [HX.out, HY.out]; exact hl))
      have hl1 : ((n : Int) != (m : Int)) = true := by rw [bne_iff_ne]; omega
      clear h
      go_enter Try.func129, Try.ntmps129
      go_wp2_with (go_at_call 131; refine (vec_large _ 2 2 [.slice A n c, .slice B m d] _ (Vals.made _ _ _ _ _ rfl rfl) (by omega) (by simp)).mono ?_; rintro e w1 ⟨rfl, k, rfl⟩; rw [HA.out])
      go_ret
      exact ⟨ret_int F.out.symm, (by repeat (first | exact Below.refl _ _ | assumption | refine bel_drewN ?_ _ | refine Below.drew ?_ | (refine Below.alloc ?_ (by simp <;> omega) _) | (refine Below.setCell ?_ (by simp <;> omega) _)))⟩

set_option maxHeartbeats 1000000 in
theorem vec_Dot_no (A B : Option Addr) (n c m d : Nat) (xs ys : List Int) (w : World) (hx : xs.length = n) (hy : ys.length = m) (he : pairE xs ys ≠ 0) :
    Calls Try.prog 92 #[.slice A n c, .slice B m d] w fun e w' => e = .returned (.tuple #[.int .i64 0, .int .i64 (pairE xs ys)]) ∧ Below w.heap.size w w' := by
  have he1 : (pairE xs ys != 0) = true := by rw [bne_iff_ne]; exact he
  have H := Lib.hid (vec_pair A B n c m d xs ys w hx hy)
  clear hx hy he
  go_enter Try.func92, Try.ntmps92
  go_wp2_with (go_at_call 129; refine H.out.mono ?_; rintro e w1 ⟨rfl, hb1⟩)
  go_ret2
  exact ⟨rfl, hb1⟩

set_option maxHeartbeats 1000000 in
theorem vec_Dot_ok (A B : Option Addr) (n c d : Nat) (xs ys : List Int) (w : World) (hx : Ints .i64 w A n xs) (hy : Ints .i64 w B n ys) (hn : n ≤ 200) :
    Calls Try.prog 92 #[.slice A n c, .slice B n d] w fun e w' => e = .returned (.tuple #[.int .i64 (dotN xs ys n), .int .i64 0]) ∧ Below w.heap.size w w' := by
  have e0 : pairE xs ys = 0 := pairE_ok (by rw [hx.len, hy.len]; omega) (by rw [hx.len, hy.len])
  have H := Lib.hid (vec_pair A B n c n d xs ys w hx.len hy.len)
  rw [e0] at H
  clear e0
  go_enter Try.func92, Try.ntmps92
  go_wp2_with (first | (go_at_call 129; refine H.out.mono ?_; rintro e w1 ⟨rfl, hb1⟩) | (go_at_call 130; refine (vec_dot A B n c d n xs ys _ (hx.below hb1) (hy.below hb1) (by omega) (by omega)).mono ?_; rintro e w2 ⟨rfl, k, rfl⟩))
  go_ret2
  exact ⟨rfl, (by repeat (first | exact Below.refl _ _ | assumption | refine bel_drewN ?_ _ | refine Below.drew ?_ | (refine Below.alloc ?_ (by simp <;> omega) _) | (refine Below.setCell ?_ (by simp <;> omega) _)))⟩

theorem int_info : (Try.prog.info? 3).map (fun i => (i.zero, i.size, i.bytes)) = some (some (.int .i64 0), 1, 8) := by kernel_rfl

set_option maxHeartbeats 1000000 in
theorem vec_Sum_no (A B : Option Addr) (n c m d : Nat) (xs ys : List Int) (w : World) (hx : xs.length = n) (hy : ys.length = m) (he : pairE xs ys ≠ 0) :
    Calls Try.prog 128 #[.slice A n c, .slice B m d] w fun e w' => e = .returned (.tuple #[.slice none 0 0, .int .i64 (pairE xs ys)]) ∧ Below w.heap.size w w' := by
  have he1 : (pairE xs ys != 0) = true := by rw [bne_iff_ne]; exact he
  have H := Lib.hid (vec_pair A B n c m d xs ys w hx hy)
  clear hx hy he
  go_enter Try.func128, Try.ntmps128
  go_wp2_with (go_at_call 129; refine H.out.mono ?_; rintro e w1 ⟨rfl, hb1⟩)
  go_ret2
  exact ⟨rfl, hb1⟩

/-- A slice of the call's own with numbers, told beside an error. -/
def OwnRes (w : World) (xs : List Int) (r : Int) (e : Ending) (w' : World) : Prop :=
  ∃ A c, e = .returned (.tuple #[.slice A xs.length c, .int .i64 r]) ∧ w'.ownsRow w.heap.size 3 1 (.slice A xs.length c) xs.length (xs.map (.int .i64)) ∧ Below w.heap.size w w'

theorem own_res {w w' : World} {xs : List Int} {v : Value} {n : Nat} {r : Int} (hl : xs.length = n) (h : w'.ownsRow w.heap.size 3 1 v n (xs.map (.int .i64))) (hb : Below w.heap.size w w') :
    OwnRes w xs r (.returned (.tuple #[v, .int .i64 r])) w' := by
  subst hl
  obtain ⟨A, c, rfl, _⟩ := own_ints h
  exact ⟨A, c, rfl, h, hb⟩

set_option maxRecDepth 100000 in
set_option maxHeartbeats 2000000 in
theorem vec_Sum_ok (A B : Option Addr) (n c d : Nat) (xs ys : List Int) (w : World) (hx : Ints .i64 w A n xs) (hy : Ints .i64 w B n ys) (hn : n ≤ 200) :
    Calls Try.prog 128 #[.slice A n c, .slice B n d] w (OwnRes w (sumL xs ys) 0) := by
  have e0 : pairE xs ys = 0 := pairE_ok (by rw [hx.len, hy.len]; omega) (by rw [hx.len, hy.len])
  have H := Lib.hid (vec_pair A B n c n d xs ys w hx.len hy.len)
  rw [e0] at H
  clear e0
  obtain ⟨i0, hi0, hz0, hz1, hz2⟩ := info_parts int_info
  go_enter Try.func128, Try.ntmps128
  go_wp2_with (go_at_call 129; refine H.out.mono ?_; rintro e w1 ⟨rfl, hb1⟩)
  go_loopw [7, 8, 17] (fun o _ i wr => ∃ k : Nat, k ≤ n ∧ i = .int .i64 k ∧ wr.ownsRow w.heap.size 3 1 o k ((upto (fun k => addF (at0 xs k) (at0 ys k)) k).map (.int .i64)) ∧ Below w.heap.size w wr) (fun _ _ i _ => n - (intOf i).toNat)
  case atStart => exact ⟨0, Nat.zero_le _, rfl, World.ownsRow_nil _ _ _ _, hb1⟩
  case round =>
    obtain ⟨k, hk, rfl, hown, hb⟩ := hrel
    by_cases hlt : k < n
    · obtain ⟨b, off, rfl, hbl, hc⟩ := hx.cells (by omega)
      obtain ⟨b', off', rfl, hbl', hc'⟩ := hy.cells (by omega)
      have g1 := (hb.cell (p := ⟨b, off + k, none⟩) hbl).trans (hc k hlt)
      have g2 := (hb.cell (p := ⟨b', off' + k, none⟩) hbl').trans (hc' k hlt)
      have z1 : (0 : Int) ≤ (k : Int) := Int.natCast_nonneg _
      have z2 : (k : Int) < (n : Int) := by omega
      have ne1 : u7.ownBlock ≠ some b := fun h => by have := (hown.lt b h).1; omega
      have ne2 : u7.ownBlock ≠ some b' := fun h => by have := (hown.lt b' h).1; omega
      have hbs := hb.size
      clear hc hc'
      go_wp2
      go_region_held3 (fun w' => w'.cell? ⟨b, off + k, none⟩ = some (.int .i64 (at0 xs k)) ∧ w'.cell? ⟨b', off' + k, none⟩ = some (.int .i64 (at0 ys k)))
        (first
          | go_keep
          | (go_split_ands
             refine ⟨?_, ?_⟩
             · (rw [hgrow.cell_far _ (by simp; omega) (Ne.symm ne1)]; assumption)
             · (rw [hgrow.cell_far _ (by simp; omega) (Ne.symm ne2)]; assumption)))
        (first
          | (go_at_call 83; refine (fix_Add _ _ _).mono ?_; rintro e w' ⟨rfl, rfl⟩)
          | (refine step_append_lies _ (by rfl) _ _ _ (by rfl) w.heap.size 3 i0 _ 1 8 Try.underlying25 hi0 hz0 hz1 hz2 rfl (by omega) u7 k _ (by rfl) (by exact (hown.alloc _).drew)
              ⟨wr.heap.size, 0, none⟩ 1 1 [.int .i64 (addF (at0 xs k) (at0 ys k))] (by rfl) (by rfl) (World.news_of_block (cs := #[.int .i64 (addF (at0 xs k) (at0 ys k))]) (t := 3) (fr := (0, 0)) (heap_alloc_new wr _)) (by simp [Value.oneCell'])
              (by omega) (by unfold maxLen; omega) (by omega) (by simp; omega) (wr.heap.size + 1) (by simp) ?_; intro gg cap w1 hown1 hgrow hat hlt1))
      have hb2 : Below w.heap.size w w1 := Below.grown (hb.alloc hbs _).drew hgrow (by simp; omega) (fun x hx => (hown.lt x hx).1)
      rw [← List.map_singleton, ← List.map_append, ← upto_succ (fun k => addF (at0 xs k) (at0 ys k))] at hown1
      clear hgrow hat hlt1 ne1 ne2 g1 g2
      go_wp2
      go_roundw
      case rel => exact ⟨k + 1, by omega, by go_num, hown1, hb2⟩
      case measure => simp [intOf]; omega
    · have : k = n := by omega
      subst this
      go_wp2
      go_ret2
      exact own_res (sumL_length xs ys |>.trans hx.len) (by unfold sumL; rw [hx.len]; exact hown) hb

end Go.Proofs.Ytejkkbjepgghlaa
