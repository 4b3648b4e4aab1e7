/- What the calls of package vec compute: walks, each function once. -/
import Derived.Test.YtgodgedhddngeaaGreatDoorSlW
set_option maxRecDepth 100000
set_option maxHeartbeats 16000000
namespace Go.Proofs.YtgodgedhddngeaaGreatDoor
open Go.RowKit Pl
theorem vec_dot (A B : Option Addr) (n c d m : Nat) (xs ys : List Int) (w : World) (hx : Ints .i64 w A n xs) (hy : Ints .i64 w B m ys) (hnm : n ≤ m) (hn : n ≤ 9223372036854775807) :
  Calls Tryz.prog 137 #[.slice A n c, .slice B m d] w fun e w' => e = .returned (.int .i64 (dotN xs ys n)) ∧ ∃ k, w' = w.drewN k := by
 go_enter Tryz.func137, Tryz.ntmps137
 go_wp2
 go_loopw [5, 6, 9] (fun o _ i wr => ∃ k : Nat, k ≤ n ∧ i = .int .i64 k ∧ o = .int .i64 (dotN xs ys k) ∧ Quiet w wr) (fun _ _ i _ => n - (intOf i).toNat)
 case atStart => exact ⟨0, Nat.zero_le _, rfl, rfl, Quiet.refl _⟩
 case round =>
  obtain ⟨k, hk, rfl, rfl, hq⟩ := hrel
  by_cases hlt : k < n
  ·obtain ⟨b, off, rfl, hb, hc⟩ := (hx.quiet hq).cells (by omega)
   obtain ⟨b', off', rfl, hb', hc'⟩ := (hy.quiet hq).cells (by omega)
   have g1 := hc k hlt
   have g2 := hc' k (by omega)
   have hkm : k < m := by omega
   clear hc hc'
   go_wp2
   go_quiet ((first | (go_at_call 171; exact Calls.quiet_of (fix_Mul _ _ _)) | (go_at_call 175; exact Calls.quiet_of ((fix_Add _ _ _).mono fun _ _ ⟨he, hw⟩ => ⟨he, 0, hw.symm⟩))))
   go_wp2
   go_roundw
   case rel => exact ⟨k + 1, by omega, by go_num, rfl, hq.step _⟩
   case measure => simp [intOf]; omega
  ·have : k = n := by omega
   subst this
   go_wp2
   go_ret
   exact ⟨rfl, hq⟩
def lenV : Value → Int
 | .slice _ n _ => n
 | _ => 0
theorem vec_large1 (A : Option Addr) (n c : Nat) (w : World) :
  Calls Tryz.prog 203 #[.slice A n c] w fun e w' => e = .returned (.bool (decide (200 < lenV (.slice A n c)))) ∧ Quiet w w' := by
 go_enter Tryz.func203, Tryz.ntmps203
 go_wp2
 go_ret
 exact ⟨rfl, Quiet.refl _⟩
theorem vec_large (A : Option Addr) (n c : Nat) (vs : List Value) (w : World) (hv : Vals w A n vs) (hn : n ≤ 9223372036854775807) (hs : ∀ v ∈ vs, ∃ A n c, v = .slice A n c) :
  Calls Tryz.prog 177 #[.slice A n c] w fun e w' => e = .returned (.bool (vs.any fun v => decide (200 < lenV v))) ∧ Quiet w w' := by
 have H := Lib.hid (large_any A n c vs (fun v => decide (200 < lenV v)) w hv hn (fun v W hm _ => by
  obtain ⟨A, n, c, rfl⟩ := hs v hm
  exact vec_large1 A n c W))
 go_enter Tryz.func177, Tryz.ntmps177
 go_wp2_with (go_at_call 202; refine H.out.mono ?_; rintro e w1 ⟨rfl, hq1⟩)
 go_ret
 exact ⟨rfl, hq1⟩
theorem vec_side (n : Int) (w : World) : Calls Tryz.prog 200 #[.int .i64 n] w fun e w' => e = .returned (.bool (sideB n)) ∧ w = w' := by
 by_cases h : 1 ≤ n
 ·have h1 : decide (1 ≤ n) = true := decide_eq_true h
  go_enter Tryz.func200, Tryz.ntmps200
  go_wp2
  go_ret
  exact ⟨ret_bool (by simp [sideB, h]), rfl⟩
 ·have h1 : decide (1 ≤ n) = false := decide_eq_false h
  go_enter Tryz.func200, Tryz.ntmps200
  go_wp2
  go_ret
  exact ⟨ret_bool (sideB_no (by omega)).symm, rfl⟩
def badV : Value → Bool
 | .int _ n => n != clamp n
 | _ => false
theorem badV_any (k : IntKind) (xs : List Int) : ((xs.map (Value.int k)).any badV) = !okL xs := by
 rw [List.any_map]
 exact okL_any xs
theorem vec_Check1 (n : Int) (w : World) : Calls Tryz.prog 201 #[.int .i64 n] w fun e w' => e = .returned (.bool (badV (.int .i64 n))) ∧ Quiet w w' := by
 go_enter Tryz.func201, Tryz.ntmps201
 go_wp2_with (go_at_call 125; refine (fix_Clamp _ _).mono ?_; rintro e w' ⟨rfl, rfl⟩)
 go_ret
 exact ⟨rfl, Quiet.refl _⟩
theorem vec_check (A : Option Addr) (n c : Nat) (xs : List Int) (w : World) (hx : Ints .i64 w A n xs) (hn : n ≤ 9223372036854775807) :
  Calls Tryz.prog 116 #[.slice A n c, .func (.func 201) #[] #[]] w fun e w' => e = .returned (.bool (!okL xs)) ∧ Quiet w w' := by
 rw [← badV_any .i64]
 exact check_any A n c _ badV w hx.vals hn fun v W hv _ => by
  obtain ⟨x, _, rfl⟩ := List.mem_map.1 hv
  exact vec_Check1 x W
theorem vec_Check (r c : Int) (A : Option Addr) (n cap : Nat) (xs : List Int) (w : World) (hx : Ints .i64 w A n xs) (hn : n ≤ 9223372036854775807) :
  Calls Tryz.prog 176 #[.agg #[.int .i64 r, .int .i64 c, .slice A n cap]] w fun e w' => e = .returned (.int .i64 (matE r c xs)) ∧ Below w.heap.size w w' := by
 cases hr : sideB r
 ·have F := Lib.hid (matE_1 (c := c) (A := xs) hr)
  go_enter Tryz.func176, Tryz.ntmps176
  go_wp2_with (first | (go_at_call 200; refine (vec_side _ _).mono ?_; rintro e w' ⟨rfl, rfl⟩) | (go_at_call 116; refine (vec_check A n cap xs _ (hx.alloc _) hn).mono ?_; rintro e w' ⟨rfl, k, rfl⟩))
  go_ret
  exact ⟨ret_int F.out.symm, (by repeat (first | exact Below.refl _ _ | assumption | refine bel_drewN ?_ _ | refine Below.drew ?_ | (refine Below.alloc ?_ (by simp <;> omega) _) | (refine Below.setCell ?_ (by simp <;> omega) _)))⟩
 cases hc : sideB c
 ·have F := Lib.hid (matE_2 (A := xs) hr hc)
  go_enter Tryz.func176, Tryz.ntmps176
  go_wp2_with (first | (go_at_call 200; refine (vec_side _ _).mono ?_; rintro e w' ⟨rfl, rfl⟩) | (go_at_call 116; refine (vec_check A n cap xs _ (hx.alloc _) hn).mono ?_; rintro e w' ⟨rfl, k, rfl⟩))
  go_ret
  exact ⟨ret_int F.out.symm, (by repeat (first | exact Below.refl _ _ | assumption | refine bel_drewN ?_ _ | refine Below.drew ?_ | (refine Below.alloc ?_ (by simp <;> omega) _) | (refine Below.setCell ?_ (by simp <;> omega) _)))⟩
 obtain ⟨m1, m2⟩ := side_mul (sideB_iff.1 hr) (sideB_iff.1 hc)
 by_cases hl : (n : Int) = r * c
 ·have hl1 : ((n : Int) != r * c) = false := by rw [bne_eq_false_iff_eq]; exact hl
  have hl2 := Lib.hid hl
  clear hl
  cases ho : okL xs
  ·have F := Lib.hid (matE_4 hr hc ho)
   go_enter Tryz.func176, Tryz.ntmps176
   go_wp2_with (first | (go_at_call 200; refine (vec_side _ _).mono ?_; rintro e w' ⟨rfl, rfl⟩) | (go_at_call 116; refine (vec_check A n cap xs _ (hx.alloc _) hn).mono ?_; rintro e w' ⟨rfl, k, rfl⟩))
   go_ret
   exact ⟨ret_int F.out.symm, (by repeat (first | exact Below.refl _ _ | assumption | refine bel_drewN ?_ _ | refine Below.drew ?_ | (refine Below.alloc ?_ (by simp <;> omega) _) | (refine Below.setCell ?_ (by simp <;> omega) _)))⟩
  ·have F := Lib.hid (matE_5 hr hc (by rw [hx.len]; exact hl2.out) ho)
   go_enter Tryz.func176, Tryz.ntmps176
   go_wp2_with (first | (go_at_call 200; refine (vec_side _ _).mono ?_; rintro e w' ⟨rfl, rfl⟩) | (go_at_call 116; refine (vec_check A n cap xs _ (hx.alloc _) hn).mono ?_; rintro e w' ⟨rfl, k, rfl⟩))
   go_ret
   exact ⟨ret_int F.out.symm, (by repeat (first | exact Below.refl _ _ | assumption | refine bel_drewN ?_ _ | refine Below.drew ?_ | (refine Below.alloc ?_ (by simp <;> omega) _) | (refine Below.setCell ?_ (by simp <;> omega) _)))⟩
 ·have hl1 : ((n : Int) != r * c) = true := by rw [bne_iff_ne]; exact hl
  have F := Lib.hid (matE_3 hr hc (A := xs) (by rw [hx.len]; exact hl))
  go_enter Tryz.func176, Tryz.ntmps176
  go_wp2_with (first | (go_at_call 200; refine (vec_side _ _).mono ?_; rintro e w' ⟨rfl, rfl⟩) | (go_at_call 116; refine (vec_check A n cap xs _ (hx.alloc _) hn).mono ?_; rintro e w' ⟨rfl, k, rfl⟩))
  go_ret
  exact ⟨ret_int F.out.symm, (by repeat (first | exact Below.refl _ _ | assumption | refine bel_drewN ?_ _ | refine Below.drew ?_ | (refine Below.alloc ?_ (by simp <;> omega) _) | (refine Below.setCell ?_ (by simp <;> omega) _)))⟩
theorem pairE_no {a b : List Int} (h : 200 < a.length ∨ 200 < b.length) : pairE a b = 2 := if_pos h
theorem pairE_form {a b : List Int} (h : ¬ (200 < a.length ∨ 200 < b.length)) (h' : a.length ≠ b.length) : pairE a b = 5 := by unfold pairE; rw [if_neg h, if_pos h']
theorem pairE_ok {a b : List Int} (h : ¬ (200 < a.length ∨ 200 < b.length)) (h' : a.length = b.length) : pairE a b = 0 := by unfold pairE; rw [if_neg h, if_neg (by simp [h'])]
theorem large2 (A B : Option Addr) (n c m d : Nat) : ([Value.slice A n c, Value.slice B m d].any fun v => decide (200 < lenV v)) = decide (200 < n ∨ 200 < m) := by
 rw [Bool.eq_iff_iff, decide_eq_true_eq]
 simp only [List.any_cons, List.any_nil, Bool.or_false, Bool.or_eq_true, decide_eq_true_eq]
 show 200 < (n : Int) ∨ 200 < (m : Int) ↔ _
 omega
theorem large1 (A : Option Addr) (n c : Nat) : ([Value.slice A n c].any fun v => decide (200 < lenV v)) = decide (200 < n) := by
 rw [Bool.eq_iff_iff, decide_eq_true_eq]
 simp only [List.any_cons, List.any_nil, Bool.or_false, decide_eq_true_eq]
 show 200 < (n : Int) ↔ _
 omega
theorem vec_pair (A B : Option Addr) (n c m d : Nat) (xs ys : List Int) (w : World) (hx : xs.length = n) (hy : ys.length = m) :
  Calls Tryz.prog 136 #[.slice A n c, .slice B m d] w fun e w' => e = .returned (.int .i64 (pairE xs ys)) ∧ Below w.heap.size w w' := by
 have HX := Lib.hid hx
 have HY := Lib.hid hy
 clear hx hy
 by_cases h : 200 < n ∨ 200 < m
 ·have F := Lib.hid (pairE_no (a := xs) (b := ys) (by rw [HX.out, HY.out]; exact h))
  have HA := Lib.hid ((large2 A B n c m d).trans (decide_eq_true h))
  clear h
  go_enter Tryz.func136, Tryz.ntmps136
  go_wp2_with (go_at_call 177; refine (vec_large _ 2 2 [.slice A n c, .slice B m d] _ (Vals.made _ _ _ _ _ rfl rfl) (by omega) (by simp)).mono ?_; rintro e w1 ⟨rfl, k, rfl⟩; rw [HA.out])
  go_ret
  exact ⟨ret_int F.out.symm, (by repeat (first | exact Below.refl _ _ | assumption | refine bel_drewN ?_ _ | refine Below.drew ?_ | (refine Below.alloc ?_ (by simp <;> omega) _) | (refine Below.setCell ?_ (by simp <;> omega) _)))⟩
 ·have HA := Lib.hid ((large2 A B n c m d).trans (decide_eq_false h))
  by_cases hl : n = m
  ·have F := Lib.hid (pairE_ok (a := xs) (b := ys) (by rw [HX.out, HY.out]; exact h) (by rw [HX.out, HY.out]; exact hl))
   subst hl
   clear h
   go_enter Tryz.func136, Tryz.ntmps136
   go_wp2_with (go_at_call 177; refine (vec_large _ 2 2 [.slice A n c, .slice B n d] _ (Vals.made _ _ _ _ _ rfl rfl) (by omega) (by simp)).mono ?_; rintro e w1 ⟨rfl, k, rfl⟩; rw [HA.out])
   go_ret
   exact ⟨ret_int F.out.symm, (by repeat (first | exact Below.refl _ _ | assumption | refine bel_drewN ?_ _ | refine Below.drew ?_ | (refine Below.alloc ?_ (by simp <;> omega) _) | (refine Below.setCell ?_ (by simp <;> omega) _)))⟩
  ·have F := Lib.hid (pairE_form (a := xs) (b := ys) (by rw [HX.out, HY.out]; exact h) (by rw [HX.out, HY.out]; exact hl))
   have hl1 : ((n : Int) != (m : Int)) = true := by rw [bne_iff_ne]; omega
   clear h
   go_enter Tryz.func136, Tryz.ntmps136
   go_wp2_with (go_at_call 177; refine (vec_large _ 2 2 [.slice A n c, .slice B m d] _ (Vals.made _ _ _ _ _ rfl rfl) (by omega) (by simp)).mono ?_; rintro e w1 ⟨rfl, k, rfl⟩; rw [HA.out])
   go_ret
   exact ⟨ret_int F.out.symm, (by repeat (first | exact Below.refl _ _ | assumption | refine bel_drewN ?_ _ | refine Below.drew ?_ | (refine Below.alloc ?_ (by simp <;> omega) _) | (refine Below.setCell ?_ (by simp <;> omega) _)))⟩
theorem vec_Dot_ok (A B : Option Addr) (n c d : Nat) (xs ys : List Int) (w : World) (hx : Ints .i64 w A n xs) (hy : Ints .i64 w B n ys) (hn : n ≤ 200) :
  Calls Tryz.prog 92 #[.slice A n c, .slice B n d] w fun e w' => e = .returned (.tuple #[.int .i64 (dotN xs ys n), .int .i64 0]) ∧ Below w.heap.size w w' := by
 have e0 : pairE xs ys = 0 := pairE_ok (by rw [hx.len, hy.len]; omega) (by rw [hx.len, hy.len])
 have H := Lib.hid (vec_pair A B n c n d xs ys w hx.len hy.len)
 rw [e0] at H
 clear e0
 go_enter Tryz.func92, Tryz.ntmps92
 go_wp2_with (first | (go_at_call 136; refine H.out.mono ?_; rintro e w1 ⟨rfl, hb1⟩) | (go_at_call 137; refine (vec_dot A B n c d n xs ys _ (hx.below hb1) (hy.below hb1) (by omega) (by omega)).mono ?_; rintro e w2 ⟨rfl, k, rfl⟩))
 go_ret2
 exact ⟨rfl, (by repeat (first | exact Below.refl _ _ | assumption | refine bel_drewN ?_ _ | refine Below.drew ?_ | (refine Below.alloc ?_ (by simp <;> omega) _) | (refine Below.setCell ?_ (by simp <;> omega) _)))⟩
theorem int_info : (Tryz.prog.info? 3).map (fun i => (i.zero, i.size, i.bytes)) = some (some (.int .i64 0), 1, 8) := by kernel_rfl
def OwnRes (w : World) (xs : List Int) (r : Int) (e : Ending) (w' : World) : Prop :=
 ∃ A c, e = .returned (.tuple #[.slice A xs.length c, .int .i64 r]) ∧ w'.ownsRow w.heap.size 3 1 (.slice A xs.length c) xs.length (xs.map (.int .i64)) ∧ Below w.heap.size w w'
theorem own_res {w w' : World} {xs : List Int} {v : Value} {n : Nat} {r : Int} (hl : xs.length = n) (h : w'.ownsRow w.heap.size 3 1 v n (xs.map (.int .i64))) (hb : Below w.heap.size w w') :
  OwnRes w xs r (.returned (.tuple #[v, .int .i64 r])) w' := by
 subst hl
 obtain ⟨A, c, rfl, _⟩ := own_ints h
 exact ⟨A, c, rfl, h, hb⟩
theorem vec_Sum_ok (A B : Option Addr) (n c d : Nat) (xs ys : List Int) (w : World) (hx : Ints .i64 w A n xs) (hy : Ints .i64 w B n ys) (hn : n ≤ 200) :
  Calls Tryz.prog 134 #[.slice A n c, .slice B n d] w (OwnRes w (sumL xs ys) 0) := by
 have e0 : pairE xs ys = 0 := pairE_ok (by rw [hx.len, hy.len]; omega) (by rw [hx.len, hy.len])
 have H := Lib.hid (vec_pair A B n c n d xs ys w hx.len hy.len)
 rw [e0] at H
 clear e0
 obtain ⟨i0, hi0, hz0, hz1, hz2⟩ := info_parts int_info
 go_enter Tryz.func134, Tryz.ntmps134
 go_wp2_with (go_at_call 136; refine H.out.mono ?_; rintro e w1 ⟨rfl, hb1⟩)
 go_loopw [7, 8, 17] (fun o _ i wr => ∃ k : Nat, k ≤ n ∧ i = .int .i64 k ∧ wr.ownsRow w.heap.size 3 1 o k ((upto (fun k => addF (at0 xs k) (at0 ys k)) k).map (.int .i64)) ∧ Below w.heap.size w wr) (fun _ _ i _ => n - (intOf i).toNat)
 case atStart => exact ⟨0, Nat.zero_le _, rfl, World.ownsRow_nil _ _ _ _, hb1⟩
 case round =>
  obtain ⟨k, hk, rfl, hown, hb⟩ := hrel
  by_cases hlt : k < n
  ·obtain ⟨b, off, rfl, hbl, hc⟩ := hx.cells (by omega)
   obtain ⟨b', off', rfl, hbl', hc'⟩ := hy.cells (by omega)
   have g1 := (hb.cell (p := ⟨b, off + k, none⟩) hbl).trans (hc k hlt)
   have g2 := (hb.cell (p := ⟨b', off' + k, none⟩) hbl').trans (hc' k hlt)
   have z1 : (0 : Int) ≤ (k : Int) := Int.natCast_nonneg _
   have z2 : (k : Int) < (n : Int) := by omega
   have ne1 : u7.ownBlock ≠ some b := fun h => by have := (hown.lt b h).1; omega
   have ne2 : u7.ownBlock ≠ some b' := fun h => by have := (hown.lt b' h).1; omega
   have hbs := hb.size
   clear hc hc'
   go_wp2
   go_region_held3 (fun w' => w'.cell? ⟨b, off + k, none⟩ = some (.int .i64 (at0 xs k)) ∧ w'.cell? ⟨b', off' + k, none⟩ = some (.int .i64 (at0 ys k)))
    (first
     | go_keep
     | (go_split_ands
        refine ⟨?_, ?_⟩
        · (rw [hgrow.cell_far _ (by simp; omega) (Ne.symm ne1)]; assumption)
        · (rw [hgrow.cell_far _ (by simp; omega) (Ne.symm ne2)]; assumption)))
    (first
     | (go_at_call 175; refine (fix_Add _ _ _).mono ?_; rintro e w' ⟨rfl, rfl⟩)
     | (refine step_append_lies _ (by rfl) _ _ _ (by rfl) w.heap.size 3 i0 _ 1 8 Tryz.underlying56 hi0 hz0 hz1 hz2 rfl (by omega) u7 k _ (by rfl) (by exact (hown.alloc _).drew)
         ⟨wr.heap.size, 0, none⟩ 1 1 [.int .i64 (addF (at0 xs k) (at0 ys k))] (by rfl) (by rfl) (World.news_of_block (cs := #[.int .i64 (addF (at0 xs k) (at0 ys k))]) (t := 3) (fr := (0, 0)) (heap_alloc_new wr _)) (by simp [Value.oneCell'])
         (by omega) (by unfold maxLen; omega) (by omega) (by simp; omega) (wr.heap.size + 1) (by simp) ?_; intro gg cap w1 hown1 hgrow hat hlt1))
   have hb2 : Below w.heap.size w w1 := Below.grown (hb.alloc hbs _).drew hgrow (by simp; omega) (fun x hx => (hown.lt x hx).1)
   rw [← List.map_singleton, ← List.map_append, ← upto_succ (fun k => addF (at0 xs k) (at0 ys k))] at hown1
   clear hgrow hat hlt1 ne1 ne2 g1 g2
   go_wp2
   go_roundw
   case rel => exact ⟨k + 1, by omega, by go_num, hown1, hb2⟩
   case measure => simp [intOf]; omega
  ·have : k = n := by omega
   subst this
   go_wp2
   go_ret2
   exact own_res (sumL_length xs ys |>.trans hx.len) (by unfold sumL; rw [hx.len]; exact hown) hb
def inB (n lo hi : Int) : Bool := decide (lo ≤ n ∧ n ≤ hi)
theorem inB_yes {n lo hi : Int} (h : lo ≤ n ∧ n ≤ hi) : inB n lo hi = true := decide_eq_true h
theorem inB_no {n lo hi : Int} (h : ¬ (lo ≤ n ∧ n ≤ hi)) : inB n lo hi = false := decide_eq_false h
theorem ref_In (n lo hi : Int) (w : World) : Calls Tryz.prog 58 #[.int .i64 n, .int .i64 lo, .int .i64 hi] w fun e w' => e = .returned (.bool (inB n lo hi)) ∧ w = w' := by
 by_cases h : lo ≤ n
 ·have h1 : decide (lo ≤ n) = true := decide_eq_true h
  go_enter Tryz.func58, Tryz.ntmps58
  go_wp2
  go_ret
  exact ⟨ret_bool (by simp [inB, h]), rfl⟩
 ·have h1 : decide (lo ≤ n) = false := decide_eq_false h
  go_enter Tryz.func58, Tryz.ntmps58
  go_wp2
  go_ret
  exact ⟨ret_bool (inB_no (by omega)).symm, rfl⟩
theorem okL_take_succ {xs : List Int} {k : Nat} (hk : k < xs.length) : okL (xs.take (k + 1)) = (okL (xs.take k) && (clamp (at0 xs k) == at0 xs k)) := by
 rw [List.take_succ_eq_append_getElem hk, okL_append, at0_getElem _ _ hk]
 unfold okL
 rw [List.all_cons, List.all_nil, Bool.and_true, Bool.beq_comm]
theorem ref_Right (A : Option Addr) (n c : Nat) (xs : List Int) (w : World) (hx : Ints .i64 w A n xs) (hn : n ≤ 9223372036854775807) :
  Calls Tryz.prog 96 #[.slice A n c] w fun e w' => e = .returned (.bool (okL xs)) ∧ Quiet w w' := by
 go_enter Tryz.func96, Tryz.ntmps96
 go_wp2
 go_loopw [3, 4] (fun o i wr => ∃ k : Nat, k ≤ n ∧ i = .int .i64 k ∧ o = .bool (okL (xs.take k)) ∧ Quiet w wr) (fun _ i _ => n - (intOf i).toNat)
 case atStart => exact ⟨0, Nat.zero_le _, rfl, rfl, Quiet.refl _⟩
 case round =>
  obtain ⟨k, hk, rfl, rfl, hq⟩ := hrel
  by_cases hlt : k < n
  ·obtain ⟨b, off, rfl, hb, hc⟩ := (hx.quiet hq).cells (by omega)
   have g1 := hc k hlt
   have F := Lib.hid (okL_take_succ (xs := xs) (k := k) (by rw [hx.len]; exact hlt))
   clear hc
   cases ho : okL (xs.take k)
   ·have HO := Lib.hid ho
    go_wp2
    go_quiet (fail)
    go_wp2
    go_roundw
    case rel => exact ⟨k + 1, by omega, by go_num, by rw [F.out, HO.out]; rfl, hq.step _⟩
    case measure => simp [intOf]; omega
   ·have HO := Lib.hid ho
    go_wp2
    go_quiet ((go_at_call 142; exact Calls.quiet_of ((ref_Clamp _ _).mono fun _ _ ⟨he, hw⟩ => ⟨he, 0, hw.symm⟩)))
    go_wp2
    go_roundw
    case rel => exact ⟨k + 1, by omega, by go_num, by rw [F.out, HO.out]; rfl, hq.step _⟩
    case measure => simp [intOf]; omega
  ·have : k = n := by omega
   subst this
   go_wp2
   go_ret
   exact ⟨ret_bool (by rw [List.take_of_length_le (by rw [hx.len]; omega)]), hq⟩
theorem own_base {w : World} {base base' : Nat} {e : TypeId} {size : Nat} {v : Value} {n : Nat} {xs : List Value} (h : w.ownsRow base e size v n xs) (hb : base' ≤ base) : w.ownsRow base' e size v n xs := by
 refine ⟨h.1, ?_⟩
 rcases h.2 with hn | ⟨g, cap, cur, rfl, hg, rest⟩
 ·exact .inl hn
 ·exact .inr ⟨g, cap, cur, rfl, by omega, rest⟩
def MatBox (w : World) (B : Nat) (r c : Int) (A : Option Addr) (n cap : Nat) : Prop :=
 w.cell? ⟨B, 0, none⟩ = some (.int .i64 r) ∧ w.cell? ⟨B, 1, none⟩ = some (.int .i64 c) ∧ w.cell? ⟨B, 2, none⟩ = some (.slice A n cap)
theorem MatBox.new (w : World) (r c : Int) (A : Option Addr) (n cap : Nat) : MatBox (w.alloc (.cells #[.int .i64 r, .int .i64 c, .slice A n cap] 100)) w.heap.size r c A n cap := by
 refine ⟨?_, ?_, ?_⟩ <;> (rw [World.cell?_alloc_at _ _ _ _ rfl]; rfl)
theorem MatBox.below {w w' : World} {B : Nat} {r c : Int} {A : Option Addr} {n cap : Nat} (h : MatBox w B r c A n cap) {D : Nat} (hb : Below D w w') (hB : B < D) : MatBox w' B r c A n cap :=
 ⟨(hb.cell (p := ⟨B, 0, none⟩) hB).trans h.1, (hb.cell (p := ⟨B, 1, none⟩) hB).trans h.2.1, (hb.cell (p := ⟨B, 2, none⟩) hB).trans h.2.2⟩
theorem ref_line (r c k : Nat) (A : Option Addr) (n cap : Nat) (xs : List Int) (b : Bool) (w : World) (hx : Ints .i64 w A n xs) (hr : 1 ≤ r ∧ r ≤ 4) (hc : 1 ≤ c ∧ c ≤ 4) (hn : n = r * c) (hk : b = true → k < c) (hk' : b = false → k < r) :
  Calls Tryz.prog 156 #[(.agg #[.int .i64 r, .int .i64 c, .slice A n cap]), .int .i64 k, .bool b] w fun e w' => ∃ l cp, e = .returned (.slice l (if b then r else c) cp) ∧
   w'.ownsRow (w.heap.size + 1) 3 1 (.slice l (if b then r else c) cp) (if b then r else c) ((if b then colL xs c r k else rowL xs c k).map (.int .i64)) ∧ Below w.heap.size w w' := by
 obtain ⟨i0, hi0, hz0, hz1, hz2⟩ := info_parts int_info
 have hM := MatBox.new w r c A n cap
 have HN := Lib.hid hn
 have HS := Lib.hid (lineA_start xs c k b)
 clear hn
 cases b
 ·go_enter Tryz.func156, Tryz.ntmps156
  go_wp2
  go_loopw [7, 8] (fun o i wr => ∃ i' : Nat, i' ≤ r ∧ i = .int .i64 i' ∧ wr.ownsRow (w.heap.size + 1) 3 1 o (lineA xs c k false i' 0).length ((lineA xs c k false i' 0).map (.int .i64)) ∧ Below (w.heap.size + 1) (w.alloc (.cells #[.int .i64 r, .int .i64 c, .slice A n cap] 100)) wr) (fun _ i _ => r - (intOf i).toNat)
  case atStart => exact ⟨0, Nat.zero_le _, rfl, by rw [HS.out]; exact World.ownsRow_nil _ _ _ _, Below.refl _ _⟩
  case round =>
   obtain ⟨i, hi, rfl, hown, hb⟩ := hrel
   obtain ⟨q0, q1, q2⟩ := hM.below hb (by omega)
   by_cases hlt : i < r
   ·have HX := Lib.hid (lineA_next xs c k i false (by simp))
    go_wp2
    clear q0 q1 q2
    go_loopw [7, 9] (fun o j ws => ∃ j' : Nat, j' ≤ c ∧ j = .int .i64 j' ∧ ws.ownsRow (w.heap.size + 1) 3 1 o (lineA xs c k false i j').length ((lineA xs c k false i j').map (.int .i64)) ∧ Below (w.heap.size + 1) (w.alloc (.cells #[.int .i64 r, .int .i64 c, .slice A n cap] 100)) ws) (fun _ j _ => c - (intOf j).toNat)
    case atStart => exact ⟨0, Nat.zero_le _, rfl, hown, hb⟩
    case round =>
     clear hown hb
     obtain ⟨ws, rfl⟩ : ∃ ws : World, ws = wr := ⟨_, rfl⟩
     obtain ⟨j, hj, rfl, hown, hb⟩ := hrel
     obtain ⟨q0, q1, q2⟩ := hM.below hb (by omega)
     by_cases hl2 : j < c
     ·by_cases hit : i = k
      ·have t1 : ((i : Int) == (k : Int)) = true := by rw [beq_iff_eq]; omega
       have HH := Lib.hid hit
       have hln := lineA_len xs c k i j false
       have hij : i * c + j < n := by
        rw [HN.out]
        exact Nat.lt_of_lt_of_le (show i * c + j < (i + 1) * c by rw [Nat.succ_mul]; omega) (Nat.mul_le_mul_right _ hlt)
       obtain ⟨bb, off, rfl, hbl, hcc⟩ := hx.cells (by omega)
       have g1 := (hb.cell (p := ⟨bb, off + (i * c + j), none⟩) (by simp; omega)).trans ((World.cell?_alloc_past _ _ _ (by omega)).trans (hcc _ hij))
       have z0 : (0 : Int) ≤ (i : Int) * (c : Int) := Int.mul_nonneg (by omega) (by omega)
       have z1 : (i : Int) * (c : Int) ≤ 16 := by
        have : i * c ≤ 4 * 4 := Nat.mul_le_mul (by omega) (by omega)
        have e : (i : Int) * (c : Int) = ((i * c : Nat) : Int) := (Int.natCast_mul i c).symm
        omega
       have hbs := hb.size
       simp at hbs
       clear hit hcc
       go_wp2_with (at_builtin; refine wpList_append_own _ rfl _ _ 56 rfl (w.heap.size + 1) 3 i0 (.int .i64 0) 1 8 Tryz.underlying56 hi0 hz0 hz1 hz2 rfl (by decide) u7 _ _ rfl (hown.alloc _) ⟨ws.heap.size, 0, none⟩ 1 1 [.int .i64 (at0 xs (i * c + j))] rfl rfl (cell_one_new _ _ _) (by simp [Value.oneCell']) (by unfold maxLen; omega) (by omega) (by simp; omega) ?_; intro v1 w1 hown1 hgrow _)
       have hb2 := Below.grown (B := w.heap.size + 1) (hb.alloc (by omega) _) hgrow (by simp; omega) (fun x hx => (hown.lt x hx).1)
       rw [← List.map_singleton, ← List.map_append] at hown1
       clear hgrow g1
       go_roundw
       case rel => exact ⟨j + 1, by omega, by go_num, by
        have e := HH.out
        subst e
        rw [show lineA xs c i false i (j + 1) = lineA xs c i false i j ++ [at0 xs (i * c + j)] from lineA_row_hit xs c i j]
        rw [List.length_append]
        exact hown1, hb2⟩
       case measure => simp [intOf]; omega
      ·have t1 : ((i : Int) == (k : Int)) = false := by rw [beq_eq_false_iff_ne]; omega
       have HH := Lib.hid (lineA_row_miss xs c k i j hit)
       clear hit
       go_wp2
       go_roundw
       case rel => exact ⟨j + 1, by omega, by go_num, by rw [HH.out]; exact hown, hb⟩
       case measure => simp [intOf]; omega
     ·obtain rfl : c = j := by omega
      go_wp2
      go_roundw
      case rel => exact ⟨i + 1, by omega, by go_num, by rw [← HX.out]; exact hown, hb⟩
      case measure => simp [intOf]; omega
   ·obtain rfl : r = i := by omega
    go_wp2
    go_ret
    have e := lineA_row xs c k r (by simpa using hk')
    rw [e] at hown
    rw [show ((rowL xs c k).length) = c from upto_length _ _] at hown
    obtain ⟨l, cp, rfl, _⟩ := own_ints hown
    exact ⟨l, cp, rfl, hown, ((Below.refl _ _).alloc (Nat.le_refl _) _).trans (hb.mono (by omega))⟩
 ·go_enter Tryz.func156, Tryz.ntmps156
  go_wp2
  go_loopw [7, 8] (fun o i wr => ∃ i' : Nat, i' ≤ r ∧ i = .int .i64 i' ∧ wr.ownsRow (w.heap.size + 1) 3 1 o (lineA xs c k true i' 0).length ((lineA xs c k true i' 0).map (.int .i64)) ∧ Below (w.heap.size + 1) (w.alloc (.cells #[.int .i64 r, .int .i64 c, .slice A n cap] 100)) wr) (fun _ i _ => r - (intOf i).toNat)
  case atStart => exact ⟨0, Nat.zero_le _, rfl, by rw [HS.out]; exact World.ownsRow_nil _ _ _ _, Below.refl _ _⟩
  case round =>
   obtain ⟨i, hi, rfl, hown, hb⟩ := hrel
   obtain ⟨q0, q1, q2⟩ := hM.below hb (by omega)
   by_cases hlt : i < r
   ·have HX := Lib.hid (lineA_next xs c k i true (by simpa using hk))
    go_wp2
    clear q0 q1 q2
    go_loopw [7, 9] (fun o j ws => ∃ j' : Nat, j' ≤ c ∧ j = .int .i64 j' ∧ ws.ownsRow (w.heap.size + 1) 3 1 o (lineA xs c k true i j').length ((lineA xs c k true i j').map (.int .i64)) ∧ Below (w.heap.size + 1) (w.alloc (.cells #[.int .i64 r, .int .i64 c, .slice A n cap] 100)) ws) (fun _ j _ => c - (intOf j).toNat)
    case atStart => exact ⟨0, Nat.zero_le _, rfl, hown, hb⟩
    case round =>
     clear hown hb
     obtain ⟨ws, rfl⟩ : ∃ ws : World, ws = wr := ⟨_, rfl⟩
     obtain ⟨j, hj, rfl, hown, hb⟩ := hrel
     obtain ⟨q0, q1, q2⟩ := hM.below hb (by omega)
     by_cases hl2 : j < c
     ·by_cases hit : j = k
      ·have t1 : ((j : Int) == (k : Int)) = true := by rw [beq_iff_eq]; omega
       have HH := Lib.hid hit
       have hln := lineA_len xs c k i j true
       have hij : i * c + j < n := by
        rw [HN.out]
        exact Nat.lt_of_lt_of_le (show i * c + j < (i + 1) * c by rw [Nat.succ_mul]; omega) (Nat.mul_le_mul_right _ hlt)
       obtain ⟨bb, off, rfl, hbl, hcc⟩ := hx.cells (by omega)
       have g1 := (hb.cell (p := ⟨bb, off + (i * c + j), none⟩) (by simp; omega)).trans ((World.cell?_alloc_past _ _ _ (by omega)).trans (hcc _ hij))
       have z0 : (0 : Int) ≤ (i : Int) * (c : Int) := Int.mul_nonneg (by omega) (by omega)
       have z1 : (i : Int) * (c : Int) ≤ 16 := by
        have : i * c ≤ 4 * 4 := Nat.mul_le_mul (by omega) (by omega)
        have e : (i : Int) * (c : Int) = ((i * c : Nat) : Int) := (Int.natCast_mul i c).symm
        omega
       have hbs := hb.size
       simp at hbs
       clear hit hcc
       go_wp2_with (at_builtin; refine wpList_append_own _ rfl _ _ 56 rfl (w.heap.size + 1) 3 i0 (.int .i64 0) 1 8 Tryz.underlying56 hi0 hz0 hz1 hz2 rfl (by decide) u7 _ _ rfl (hown.alloc _) ⟨ws.heap.size, 0, none⟩ 1 1 [.int .i64 (at0 xs (i * c + j))] rfl rfl (cell_one_new _ _ _) (by simp [Value.oneCell']) (by unfold maxLen; omega) (by omega) (by simp; omega) ?_; intro v1 w1 hown1 hgrow _)
       have hb2 := Below.grown (B := w.heap.size + 1) (hb.alloc (by omega) _) hgrow (by simp; omega) (fun x hx => (hown.lt x hx).1)
       rw [← List.map_singleton, ← List.map_append] at hown1
       clear hgrow g1
       go_roundw
       case rel => exact ⟨j + 1, by omega, by go_num, by
        have e := HH.out
        subst e
        rw [show lineA xs c j true i (j + 1) = lineA xs c j true i j ++ [at0 xs (i * c + j)] from lineA_col_hit xs c j i]
        rw [List.length_append]
        exact hown1, hb2⟩
       case measure => simp [intOf]; omega
      ·have t1 : ((j : Int) == (k : Int)) = false := by rw [beq_eq_false_iff_ne]; omega
       have HH := Lib.hid (lineA_col_miss xs c k i j hit)
       clear hit
       go_wp2
       go_roundw
       case rel => exact ⟨j + 1, by omega, by go_num, by rw [HH.out]; exact hown, hb⟩
       case measure => simp [intOf]; omega
     ·obtain rfl : c = j := by omega
      go_wp2
      go_roundw
      case rel => exact ⟨i + 1, by omega, by go_num, by rw [← HX.out]; exact hown, hb⟩
      case measure => simp [intOf]; omega
   ·obtain rfl : r = i := by omega
    go_wp2
    go_ret
    have e := lineA_col xs c k r
    rw [e] at hown
    rw [show ((colL xs c r k).length) = r from upto_length _ _] at hown
    obtain ⟨l, cp, rfl, _⟩ := own_ints hown
    exact ⟨l, cp, rfl, hown, ((Below.refl _ _).alloc (Nat.le_refl _) _).trans (hb.mono (by omega))⟩
theorem own_below {w w' : World} {base : Nat} {e : TypeId} {size : Nat} {v : Value} {n : Nat} {xs : List Value} (h : w.ownsRow base e size v n xs) (hb : Below w.heap.size w w') : w'.ownsRow base e size v n xs := by
 refine ⟨h.1, ?_⟩
 rcases h.2 with hn | ⟨g, cap, cur, rfl, hg, hc, rest⟩
 ·exact .inl hn
 ·exact .inr ⟨g, cap, cur, rfl, hg, (hb.block g (Array.getElem?_eq_some_iff.1 hc).1).trans hc, rest⟩
def Own1 (w : World) (xs : List Int) (e : Ending) (w' : World) : Prop :=
 ∃ A c, e = .returned (.slice A xs.length c) ∧ w'.ownsRow w.heap.size 3 1 (.slice A xs.length c) xs.length (xs.map (.int .i64)) ∧ Below w.heap.size w w'
theorem own_one {w w' : World} {xs : List Int} {v : Value} {n : Nat} (hl : xs.length = n) (h : w'.ownsRow w.heap.size 3 1 v n (xs.map (.int .i64))) (hb : Below w.heap.size w w') : Own1 w xs (.returned v) w' := by
 subst hl
 obtain ⟨A, c, rfl, _⟩ := own_ints h
 exact ⟨A, c, rfl, h, hb⟩
theorem vec_Back_ok (r c : Nat) (A B : Option Addr) (n cap d : Nat) (xs ys : List Int) (w : World) (hx : Ints .i64 w A n xs) (hy : Ints .i64 w B r ys) (hr : 1 ≤ r ∧ r ≤ 4) (hc : 1 ≤ c ∧ c ≤ 4) (hn : n = r * c) (ho : okL xs = true) :
  Calls Tryz.prog 197 #[(.agg #[.int .i64 r, .int .i64 c, .slice A n cap]), .slice B r d] w (OwnRes w (backL xs r c ys) 0) := by
 obtain ⟨i0, hi0, hz0, hz1, hz2⟩ := info_parts int_info
 have hn16 : n ≤ 16 := by rw [hn]; exact Nat.mul_le_mul hr.2 hc.2
 have hE : matE r c xs = 0 := matE_5 (sideB_iff.2 (by omega)) (sideB_iff.2 (by omega)) (by rw [hx.len, hn, Int.natCast_mul]) ho
 have H2 := Lib.hid hE
 have HN := Lib.hid hn
 have HA := Lib.hid ((large1 B r d).trans (decide_eq_false (show ¬ 200 < r by omega)))
 have hM := MatBox.new w r c A n cap
 have hx' := hx.alloc (.cells #[.int .i64 r, .int .i64 c, .slice A n cap] 100)
 have HV : Vals ((w.alloc (.cells #[.int .i64 r, .int .i64 c, .slice A n cap] 100)).alloc (.cells #[.slice B r d] 56)) (some ⟨w.heap.size + 1, 0, none⟩) 1 [.slice B r d] := by
  have h := Vals.made (w.alloc (.cells #[.int .i64 r, .int .i64 c, .slice A n cap] 100)) #[.slice B r d] 56 1 [.slice B r d] rfl rfl
  simpa using h
 clear hn hE
 go_enter Tryz.func197, Tryz.ntmps197
 go_wp2_with (first | (go_at_call 177; refine (vec_large _ 1 1 [.slice B r d] _ (by exact HV) (by omega) (by simp)).mono ?_; rintro e w1 ⟨rfl, k, rfl⟩; rw [HA.out]) | (go_at_call 176; refine (vec_Check r c A n cap xs _ (by exact (hx'.alloc _).drewN _) (by omega)).mono ?_; rintro e w2 ⟨rfl, hb2⟩; have hbw := Below.trans (B := w.heap.size) (show Below w.heap.size w _ from (by repeat (first | exact Below.refl _ _ | assumption | refine bel_drewN ?_ _ | refine Below.drew ?_ | (refine Below.alloc ?_ (by simp <;> omega) _) | (refine Below.setCell ?_ (by simp <;> omega) _)))) (hb2.mono (by simp <;> omega)); obtain ⟨q0, q1, q2⟩ := (hM.below (D := w.heap.size + 1) (show Below (w.heap.size + 1) _ _ from (bel_drewN (Below.alloc (Below.refl _ _) (by simp) _) _)) (by omega)).below hb2 (by simp <;> omega); rw [H2.out]; have hM2 : MatBox w2 w.heap.size r c A n cap := ⟨q0, q1, q2⟩; have hsz : w.heap.size < w2.heap.size := by (have := hb2.size; simp at this; omega)))
 have hx2 := hx.below hbw
 have hy2 := hy.below hbw
 clear q0 q1 q2 hb2 hx' hM HV
 go_loopw [7, 26] (fun o i wr => ∃ k : Nat, k ≤ c ∧ i = .int .i64 k ∧ wr.ownsRow w2.heap.size 3 1 o k ((upto (fun k => dotN (colL xs c r k) ys r) k).map (.int .i64)) ∧ Below w2.heap.size w2 wr) (fun _ i _ => c - (intOf i).toNat)
 case atStart => exact ⟨0, Nat.zero_le _, rfl, World.ownsRow_nil _ _ _ _, Below.refl _ _⟩
 case round =>
  obtain ⟨k, hk, rfl, hown, hb⟩ := hrel
  by_cases hlt : k < c
  ·obtain ⟨q0, q1, q2⟩ := hM2.below hb hsz
   go_wp2
   clear q0 q1 q2
   obtain ⟨wo, rfl⟩ : ∃ wo : World, wo = wr := ⟨_, rfl⟩
   have hMr := hM2.below hb hsz
   have hso : w2.heap.size ≤ wo.heap.size := hb.size
   have hxr := hx2.below hb
   have hyr := hy2.below hb
   go_loopw [9, 31] (fun o j ws => ∃ j' : Nat, j' ≤ r ∧ j = .int .i64 j' ∧ ws.ownsRow wo.heap.size 3 1 o j' ((upto (fun r' => at0 xs (r' * c + k)) j').map (.int .i64)) ∧ Below wo.heap.size wo ws) (fun _ j _ => r - (intOf j).toNat)
   case atStart => exact ⟨0, Nat.zero_le _, rfl, World.ownsRow_nil _ _ _ _, Below.refl _ _⟩
   case round =>
    obtain ⟨j, hj, rfl, hown2, hb2⟩ := hrel
    by_cases hl2 : j < r
    ·obtain ⟨q0, q1, q2⟩ := hMr.below hb2 (by omega)
     have hij : j * c + k < n := by
      rw [HN.out]
      exact Nat.lt_of_lt_of_le (show j * c + k < (j + 1) * c by rw [Nat.succ_mul]; omega) (Nat.mul_le_mul_right _ hl2)
     obtain ⟨bb, off, rfl, hbl, hcc⟩ := hxr.cells (by omega)
     have g1 := (hb2.cell (p := ⟨bb, off + (j * c + k), none⟩) hbl).trans (hcc _ hij)
     have z0 : (0 : Int) ≤ (j : Int) * (c : Int) := Int.mul_nonneg (by omega) (by omega)
     have z1 : (j : Int) * (c : Int) ≤ 16 := by
      have : j * c ≤ 4 * 4 := Nat.mul_le_mul (by omega) (by omega)
      have e : (j : Int) * (c : Int) = ((j * c : Nat) : Int) := (Int.natCast_mul j c).symm
      omega
     have hbs := hb2.size
     clear hcc
     go_wp2_with (at_builtin; refine wpList_append_own _ rfl _ _ 56 rfl wo.heap.size 3 i0 (.int .i64 0) 1 8 Tryz.underlying56 hi0 hz0 hz1 hz2 rfl (by decide) u9 j _ rfl (hown2.alloc _) ⟨wr.heap.size, 0, none⟩ 1 1 [.int .i64 (at0 xs (j * c + k))] rfl rfl (cell_one_new _ _ _) (by simp [Value.oneCell']) (by unfold maxLen; omega) (by omega) (by simp; omega) ?_; intro v1 w1 hown1 hgrow _)
     have hb3 := Below.grown (B := wo.heap.size) (hb2.alloc (by omega) _) hgrow (by simp; omega) (fun x hx => (hown2.lt x hx).1)
     rw [← List.map_singleton, ← List.map_append, ← upto_succ (fun r' => at0 xs (r' * c + k))] at hown1
     clear hgrow g1 q0 q1 q2
     go_roundw
     case rel => exact ⟨j + 1, by omega, by go_num, hown1, hb3⟩
     case measure => simp [intOf]; omega
    ·obtain rfl : r = j := by omega
     have hown3 := own_below hown hb2
     have hyw := hyr.below hb2
     have hbt := hb.trans (hb2.mono hso)
     have hbs := hb2.size
     obtain ⟨cA, cc, rfl, hcI⟩ := own_ints hown2
     clear hown2
     go_wp2_with fail
     refine (vec_dot cA B r cc d r (colL xs c r k) ys _ hcI hyw (Nat.le_refl _) (by omega)).mono ?_
     rintro e w3 ⟨rfl, hq3⟩
     have hown4 := own_quiet hown3 hq3
     have hbq := Quiet.after hbt hq3
     have hbz : wr.heap.size ≤ w3.heap.size := by rw [Quiet.size hq3]; exact Nat.le_refl _
     go_wp2_with (at_builtin; refine wpList_append_own _ rfl _ _ 56 rfl w2.heap.size 3 i0 (.int .i64 0) 1 8 Tryz.underlying56 hi0 hz0 hz1 hz2 rfl (by decide) u7 k _ rfl (hown4.alloc _) ⟨w3.heap.size, 0, none⟩ 1 1 [.int .i64 (dotN (colL xs c r k) ys r)] rfl rfl (cell_one_new _ _ _) (by simp [Value.oneCell']) (by unfold maxLen; omega) (by omega) (by simp; omega) ?_; intro v1 w1 hown5 hgrow _)
     have hb3 := Below.grown (B := w2.heap.size) (hbq.alloc (by omega) _) hgrow (by simp; omega) (fun x hx => (hown4.lt x hx).1)
     rw [← List.map_singleton, ← List.map_append, ← upto_succ (fun k => dotN (colL xs c r k) ys r)] at hown5
     clear hgrow
     go_roundw
     case rel => exact ⟨k + 1, by omega, by go_num, hown5, hb3⟩
     case measure => simp [intOf]; omega
  ·have hkc : k = c := by omega
   go_wp2
   go_ret2
   rw [hkc] at hown
   exact own_res (upto_length _ _) (own_base hown (by omega)) (hbw.trans (hb.mono (by omega)))
end Go.Proofs.YtgodgedhddngeaaGreatDoor
