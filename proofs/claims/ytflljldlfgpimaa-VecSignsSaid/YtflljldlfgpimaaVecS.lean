/- The law VecSigns holds of the given program for every input. No condition. -/
import Derived.Test.YtflljldlfgpimaaVecAny
import Derived.Test.YtflljldlfgpimaaArgs
import Derived.Deep.RegionHeld3
namespace Go.Proofs.Ytflljldlfgpimaa
open Go.ChangeShapes Go.WideShapes Go.ChangeAt Go.RowKit Pl

/-- Each number of a list, clamped, with the other sign. -/
def minusL (xs : List Int) : List Int := xs.map fun n => -clamp n
theorem minusL_length (xs : List Int) : (minusL xs).length = xs.length := List.length_map _
theorem minusL_upto (xs : List Int) : upto (fun k => -clamp (at0 xs k)) xs.length = minusL xs := by
  unfold minusL
  conv => rhs; rw [← upto_at0 xs]
  simp [upto]
theorem minusL_of (f : Nat → Int) (n : Nat) (h : ∀ k, clamp (f k) = f k) : minusL (upto f n) = upto (fun k => -f k) n := by
  unfold minusL upto
  rw [List.map_map]
  apply List.map_congr_left
  intro k _
  show -clamp (f k) = _
  rw [h]
theorem mulO_minus (r c : Int) (xs ys : List Int) : mulO r c xs (minusL ys) = minusL (mulO r c xs ys) := by
  unfold mulO
  rw [minusL_length]
  split
  · unfold mulL
    rw [minusL_of _ _ (fun k => dotN_clamp _ _ _)]
    congr 1
    funext k
    exact dotN_neg_r _ _ _
  · rfl
theorem backO_minus (r c : Int) (xs ys : List Int) : backO r c xs (minusL ys) = minusL (backO r c xs ys) := by
  unfold backO
  rw [minusL_length]
  split
  · unfold backL
    rw [minusL_of _ _ (fun k => dotN_clamp _ _ _)]
    congr 1
    funext k
    exact dotN_neg_r _ _ _
  · rfl
theorem mulO_small (r c : Int) (xs ys : List Int) : (mulO r c xs ys).length ≤ 4 := by
  unfold mulO
  split
  · rename_i h
    obtain ⟨h3, _, _, _⟩ := matE_ok h.1
    rw [mulL_length]; omega
  · simp
theorem backO_small (r c : Int) (xs ys : List Int) : (backO r c xs ys).length ≤ 4 := by
  unfold backO
  split
  · rename_i h
    obtain ⟨_, h3, _, _⟩ := matE_ok h.1
    rw [backL_length]; omega
  · simp
/-- A product of lists, 0 where something is wrong. -/
def dotO (xs ys : List Int) : Int := if pairE xs ys = 0 then dotN xs ys xs.length else 0
theorem pairE_comm (xs ys : List Int) : pairE xs ys = pairE ys xs := by
  by_cases h : 200 < xs.length ∨ 200 < ys.length
  · rw [pairE_no h, pairE_no h.symm]
  · by_cases h2 : xs.length = ys.length
    · rw [pairE_ok h h2, pairE_ok (fun h' => h h'.symm) h2.symm]
    · rw [pairE_form h h2, pairE_form (fun h' => h h'.symm) (fun h' => h2 h'.symm)]
theorem pairE_len {xs ys : List Int} (h : pairE xs ys = 0) : xs.length = ys.length ∧ xs.length ≤ 200 := by
  unfold pairE at h
  split at h
  · omega
  · split at h <;> omega
theorem dotO_comm (xs ys : List Int) : dotO xs ys = dotO ys xs := by
  unfold dotO
  rw [pairE_comm xs ys]
  split
  · rename_i h
    rw [dotN_comm, (pairE_len h).1]
  · rfl
theorem pairE_minus (xs ys : List Int) : pairE (minusL xs) ys = pairE xs ys := by unfold pairE; rw [minusL_length]
theorem dotO_minus (xs ys : List Int) : dotO (minusL xs) ys = -dotO xs ys := by
  unfold dotO
  rw [pairE_minus, minusL_length]
  split
  · exact dotN_neg _ _ _
  · rfl
theorem dotO_lo (xs ys : List Int) : -2147483647 ≤ dotO xs ys := by
  unfold dotO
  split
  · exact dotN_lo _ _ _
  · omega
theorem dotO_hi (xs ys : List Int) : dotO xs ys ≤ 2147483647 := by
  unfold dotO
  split
  · exact dotN_hi _ _ _
  · omega

theorem vec_Dot_any (A B : Option Addr) (n c m d : Nat) (xs ys : List Int) (w : World) (hx : Ints .i64 w A n xs) (hy : Ints .i64 w B m ys) :
    Calls Try.prog 28 #[.slice A n c, .slice B m d] w fun e w' => e = .returned (.tuple #[.int .i64 (dotO xs ys), .int .i64 (pairE xs ys)]) ∧ Below w.heap.size w w' := by
  by_cases h : pairE xs ys = 0
  · obtain ⟨h1, h2⟩ := pairE_len h
    rw [hx.len, hy.len] at h1
    rw [hx.len] at h2
    subst h1
    have e : dotO xs ys = dotN xs ys n := by unfold dotO; rw [if_pos h, hx.len]
    rw [h, e]
    exact vec_Dot_ok A B n c d xs ys w hx hy h2
  · have e : dotO xs ys = 0 := if_neg h
    rw [e]
    exact vec_Dot_no A B n c m d xs ys w hx.len hy.len h

theorem Ints.made (w : World) (xs : List Int) (n : Nat) (hn : xs.length = n) (cs : Array Value) (hc : cs = (xs.map (Value.int .i64)).toArray) {g : Nat} (hg : w.heap.size = g) (t : TypeId) : Ints .i64 (w.alloc (.cells cs t)) (some ⟨g, 0, none⟩) n xs := by
  subst hc; subst hg
  refine ⟨hn, fun _ => ⟨w.heap.size, 0, rfl, by simp, fun j hj => ?_⟩⟩
  rw [(Blk.made w t _).cell (0 + j), Nat.zero_add, List.getElem?_toArray, List.getElem?_map, List.getElem?_eq_getElem (by omega), Option.map_some, at0_getElem _ _ (by omega)]

set_option maxRecDepth 100000 in
set_option maxHeartbeats 2000000 in
theorem signs_minus (A : Option Addr) (n c : Nat) (xs : List Int) (w : World) (hx : Ints .i64 w A n xs) (hn : n * 8 ≤ 140737488351232) :
    Calls Try.prog 49 #[.slice A n c] w (Own1 w (minusL xs)) := by
  obtain ⟨i0, hi0, hz0, hz1, hz2⟩ := info_parts int_info
  go_enter Try.func49, Try.ntmps49
  go_wp2
  go_loopw [3, 8] (fun o i wr => ∃ j : Nat, j ≤ n ∧ i = .int .i64 j ∧ wr.ownsRow w.heap.size 3 1 o j ((upto (fun j => -clamp (at0 xs j)) j).map (.int .i64)) ∧ Below w.heap.size w wr) (fun _ i _ => n - (intOf i).toNat)
  case atStart => exact ⟨0, Nat.zero_le _, rfl, World.ownsRow_nil _ _ _ _, Below.refl _ _⟩
  case round =>
    obtain ⟨j, hk, rfl, hown, hb⟩ := hrel
    by_cases hlt : j < n
    · obtain ⟨b, off, rfl, hbl, hc⟩ := hx.cells (by omega)
      have g1 := (hb.cell (p := ⟨b, off + j, none⟩) hbl).trans (hc j hlt)
      have hbs := hb.size
      have l1 := clamp_lo (at0 xs j)
      have l2 := clamp_hi (at0 xs j)
      clear hc
      go_wp2_with (first
        | (go_at_call 16; refine (fix_Clamp _ _).mono ?_; rintro e w' ⟨rfl, rfl⟩)
        | (at_builtin; refine wpList_append_own _ rfl _ _ 31 rfl w.heap.size 3 i0 (.int .i64 0) 1 8 Try.underlying31 hi0 hz0 hz1 hz2 rfl (by decide) u3 j _ rfl (hown.alloc _) ⟨wr.heap.size, 0, none⟩ 1 1 [.int .i64 (-clamp (at0 xs j))] rfl rfl (cell_one_new _ _ _) (by simp [Value.oneCell']) (by unfold maxLen; omega) (by omega) (by simp; omega) ?_; intro v1 w1 hown1 hgrow _))
      have hb2 : Below w.heap.size w w1 := Below.grown (hb.alloc hbs _) hgrow (by simp; omega) (fun x hx => (hown.lt x hx).1)
      rw [← List.map_singleton, ← List.map_append, ← upto_succ (fun j => -clamp (at0 xs j))] at hown1
      clear hgrow
      go_roundw
      case rel => exact ⟨j + 1, by omega, by go_num, hown1, hb2⟩
      case measure => simp [intOf]; omega
    · obtain rfl : n = j := by omega
      go_wp2
      go_ret
      exact own_one ((minusL_length xs).trans hx.len) (by rw [← minusL_upto xs, hx.len]; exact hown) hb

set_option maxRecDepth 100000 in
set_option maxHeartbeats 8000000 in
theorem vecSigns_walk (r c : Int) (A B C : Option Addr) (n cap m1 d1 m2 d2 : Nat) (xs ys zs : List Int) (w : World) (hx : Ints .i64 w A n xs) (hy : Ints .i64 w B m1 ys) (hz : Ints .i64 w C m2 zs) (hcap : n ≤ cap) (hn : n ≤ 9223372036854775807) (hm1 : m1 * 8 ≤ 140737488351232) (hm2 : m2 * 8 ≤ 140737488351232) :
    Calls Try.prog 13 #[(.agg #[.int .i64 r, .int .i64 c, .slice A n cap]), .slice B m1 d1, .slice C m2 d2] w fun e w' => e = .returned (.bool true) ∧ Below w.heap.size w w' := by
  have hM := MatBox.new w r c A n cap
  have J1 : Ints .i64 (((w.alloc (.cells #[.int .i64 r, .int .i64 c, .slice A n cap] 48)).alloc (.cells #[.int .i64 65536, .int .i64 131072] 3)).alloc (.cells #[.int .i64 3, .int .i64 4] 3)) (some ⟨w.heap.size + 1, 0, none⟩) 2 [65536, 131072] := (Ints.made (w.alloc (.cells #[.int .i64 r, .int .i64 c, .slice A n cap] 48)) [65536, 131072] 2 rfl _ rfl (by simp) _).alloc _
  have J2 : Ints .i64 (((w.alloc (.cells #[.int .i64 r, .int .i64 c, .slice A n cap] 48)).alloc (.cells #[.int .i64 65536, .int .i64 131072] 3)).alloc (.cells #[.int .i64 3, .int .i64 4] 3)) (some ⟨w.heap.size + 1 + 1, 0, none⟩) 2 [3, 4] := Ints.made ((w.alloc (.cells #[.int .i64 r, .int .i64 c, .slice A n cap] 48)).alloc (.cells #[.int .i64 65536, .int .i64 131072] 3)) [3, 4] 2 rfl _ rfl (by simp) _
  have l1 := dotO_lo ys zs
  have l2 := dotO_hi ys zs
  have E1 := Lib.hid (show pairE [65536, 131072] [3, 4] = 0 from rfl)
  have E2 := Lib.hid (show dotO [65536, 131072] [3, 4] = 11 by decide +kernel)
  go_enter Try.func13, Try.ntmps13
  go_wp2_with fail
  refine (vec_Dot_any _ _ 2 2 2 2 [65536, 131072] [3, 4] _ (by exact J1) (by exact J2)).mono ?_
  rintro e w1 ⟨rfl, hb1⟩
  rw [E1.out, E2.out]
  have hbw1 : Below w.heap.size w w1 := Below.trans (B := w.heap.size) (by repeat (first | exact Below.refl _ _ | assumption | refine bel_drewN ?_ _ | refine Below.drew ?_ | (refine Below.alloc ?_ (by simp <;> omega) _) | (refine Below.setCell ?_ (by simp <;> omega) _))) (hb1.mono (by simp <;> omega))
  have hM1 : MatBox w1 w.heap.size r c A n cap := (hM.below (D := w.heap.size + 1) (show Below (w.heap.size + 1) _ _ from ((Below.alloc (Below.alloc (Below.refl _ _) (by simp) _) (by simp) _))) (by omega)).below hb1 (by simp <;> omega)
  have hs1 : w.heap.size < w1.heap.size := by have := hb1.size; simp at this; omega
  clear hb1
  go_wp2_with fail
  refine (vec_Dot_any B C m1 d1 m2 d2 ys zs _ (hy.below hbw1) (hz.below hbw1)).mono ?_
  rintro e w2 ⟨rfl, hb2⟩
  have hbw2 := hbw1.trans (hb2.mono (Nat.le_of_lt hs1))
  have hM2 := hM1.below hb2 hs1
  have hs2 := Nat.lt_of_lt_of_le hs1 hb2.size
  clear hb2 hM1 hM
  go_wp2_with fail
  refine (vec_Dot_any C B m2 d2 m1 d1 zs ys _ (hz.below hbw2) (hy.below hbw2)).mono ?_
  rintro e w3 ⟨rfl, hb3⟩
  rw [pairE_comm zs ys, dotO_comm zs ys]
  have hbw3 := hbw2.trans (hb3.mono (Nat.le_of_lt hs2))
  have hM3 := hM2.below hb3 hs2
  have hs3 := Nat.lt_of_lt_of_le hs2 hb3.size
  clear hb3 hM2
  go_wp2_with fail
  refine (signs_minus B m1 d1 ys _ (hy.below hbw3) hm1).mono ?_
  rintro e w4 ⟨A4, c4, rfl, ho4, hb4⟩
  have hbw4 := hbw3.trans (hb4.mono (Nat.le_of_lt hs3))
  have hM4 := hM3.below hb4 hs3
  have hs4 := Nat.lt_of_lt_of_le hs3 hb4.size
  clear hb4 hM3
  go_wp2_with fail
  refine (vec_Dot_any A4 C _ c4 m2 d2 (minusL ys) zs _ (Ints.of_own ho4 rfl) (hz.below hbw4)).mono ?_
  rintro e w5 ⟨rfl, hb5⟩
  rw [pairE_minus, dotO_minus]
  have hbw5 := hbw4.trans (hb5.mono (Nat.le_of_lt hs4))
  have hM5 := hM4.below hb5 hs4
  have hs5 := Nat.lt_of_lt_of_le hs4 hb5.size
  clear hb5 hM4 ho4
  obtain ⟨q0, q1, q2⟩ := hM5
  go_wp2_with fail
  refine (vec_Mul_any r c A B n cap m1 d1 xs ys _ (hx.below hbw5) (hy.below hbw5) hcap hn).mono ?_
  rintro e w6 ⟨A6, c6, rfl, hI6, hb6⟩
  have hbw6 := hbw5.trans (hb6.mono (Nat.le_of_lt hs5))
  have hM6 := MatBox.below ⟨q0, q1, q2⟩ hb6 hs5
  have hs6 := Nat.lt_of_lt_of_le hs5 hb6.size
  clear hb6 q0 q1 q2
  obtain ⟨q0, q1, q2⟩ := hM6
  go_wp2_with fail
  go_region_held3 (fun w' => w'.cell? ⟨w.heap.size, 0, none⟩ = some (.int .i64 r) ∧ w'.cell? ⟨w.heap.size, 1, none⟩ = some (.int .i64 c) ∧ w'.cell? ⟨w.heap.size, 2, none⟩ = some (.slice A n cap)) (first | (exact ⟨q0, q1, q2⟩) | (exact ⟨(hb7a.cell (p := ⟨w.heap.size, 0, none⟩) hs6).trans q0, (hb7a.cell (p := ⟨w.heap.size, 1, none⟩) hs6).trans q1, (hb7a.cell (p := ⟨w.heap.size, 2, none⟩) hs6).trans q2⟩) | (exact ⟨((hb7a.trans (hb7b.mono hb7a.size)).cell (p := ⟨w.heap.size, 0, none⟩) hs6).trans q0, ((hb7a.trans (hb7b.mono hb7a.size)).cell (p := ⟨w.heap.size, 1, none⟩) hs6).trans q1, ((hb7a.trans (hb7b.mono hb7a.size)).cell (p := ⟨w.heap.size, 2, none⟩) hs6).trans q2⟩) | go_keep)
    (first
      | (go_at_call 49; refine (signs_minus B m1 d1 ys _ (by exact (hy.below hbw6).drew) hm1).mono ?_; rintro e w7 ⟨A7a, c7a, rfl, ho7, hb7a'⟩; have hb7a : Below w6.heap.size w6 w7 := (Below.refl _ _).drew.trans hb7a')
      | (go_at_call 44; refine (vec_Mul_any r c A A7a n cap _ c7a xs (minusL ys) _ (by exact (hx.below hbw6).below hb7a) (by exact Ints.of_own ho7 rfl) hcap hn).mono ?_; rintro e w8 ⟨A7b, c7b, rfl, hI7, hb7b⟩))
  rw [minusL_length ys, hy.len, mulO_minus]
  rw [mulO_minus] at hI7
  have hb78 : Below w6.heap.size w6 w8 := hb7a.trans (hb7b.mono hb7a.size)
  have hbw8 := hbw6.trans (hb78.mono (Nat.le_of_lt hs6))
  have hM8 := MatBox.below ⟨q0, q1, q2⟩ hb78 hs6
  have hs8 := Nat.lt_of_lt_of_le hs6 hb78.size
  have hI6' := hI6.below hb78
  clear q0 q1 q2 hb7a hb7b hb7a' ho7 hb78 hI6
  obtain ⟨q0, q1, q2⟩ := hM8
  go_wp2_with fail
  refine (vec_Back_any r c A C n cap m2 d2 xs zs _ (hx.below hbw8) (hz.below hbw8) hn).mono ?_
  rintro e w9 ⟨A9, c9, rfl, hI9, hb9⟩
  have hbw9 := hbw8.trans (hb9.mono (Nat.le_of_lt hs8))
  have hM9 := MatBox.below ⟨q0, q1, q2⟩ hb9 hs8
  have hs9 := Nat.lt_of_lt_of_le hs8 hb9.size
  have hI6'' := hI6'.below hb9
  have hI7' := hI7.below hb9
  clear q0 q1 q2 hb9 hI6' hI7
  obtain ⟨q0, q1, q2⟩ := hM9
  go_wp2_with fail
  go_region_held3 (fun w' => w'.cell? ⟨w.heap.size, 0, none⟩ = some (.int .i64 r) ∧ w'.cell? ⟨w.heap.size, 1, none⟩ = some (.int .i64 c) ∧ w'.cell? ⟨w.heap.size, 2, none⟩ = some (.slice A n cap)) (first | (exact ⟨q0, q1, q2⟩) | (exact ⟨(hb10a.cell (p := ⟨w.heap.size, 0, none⟩) hs9).trans q0, (hb10a.cell (p := ⟨w.heap.size, 1, none⟩) hs9).trans q1, (hb10a.cell (p := ⟨w.heap.size, 2, none⟩) hs9).trans q2⟩) | (exact ⟨((hb10a.trans (hb10b.mono hb10a.size)).cell (p := ⟨w.heap.size, 0, none⟩) hs9).trans q0, ((hb10a.trans (hb10b.mono hb10a.size)).cell (p := ⟨w.heap.size, 1, none⟩) hs9).trans q1, ((hb10a.trans (hb10b.mono hb10a.size)).cell (p := ⟨w.heap.size, 2, none⟩) hs9).trans q2⟩) | go_keep)
    (first
      | (go_at_call 49; refine (signs_minus C m2 d2 zs _ (by exact (hz.below hbw9).drew) hm2).mono ?_; rintro e w10 ⟨A10a, c10a, rfl, ho10, hb10a'⟩; have hb10a : Below w9.heap.size w9 w10 := (Below.refl _ _).drew.trans hb10a')
      | (go_at_call 45; refine (vec_Back_any r c A A10a n cap _ c10a xs (minusL zs) _ (by exact (hx.below hbw9).below hb10a) (by exact Ints.of_own ho10 rfl) hn).mono ?_; rintro e w11 ⟨A10b, c10b, rfl, hI10, hb10b⟩))
  rw [minusL_length zs, hz.len, backO_minus]
  rw [backO_minus] at hI10
  have hb11 : Below w9.heap.size w9 w11 := hb10a.trans (hb10b.mono hb10a.size)
  have hbw11 := hbw9.trans (hb11.mono (Nat.le_of_lt hs9))
  have hI6c := hI6''.below hb11
  have hI7c := hI7'.below hb11
  have hI9c := hI9.below hb11
  have hl1 := Lib.hid (mulO_small r c xs ys)
  have hl2 := Lib.hid (backO_small r c xs zs)
  clear q0 q1 q2 hb10a hb10b hb10a' ho10 hI6'' hI7' hI9
  go_wp2_with fail
  refine (signs_minus A6 _ c6 (mulO r c xs ys) _ hI6c (by have := hl1.out; omega)).mono ?_
  rintro e w12 ⟨A12, c12, rfl, ho12, hb12⟩
  have hI12 := Ints.of_own ho12 rfl
  have hI7d := hI7c.below hb12
  have hI9d := hI9c.below hb12
  have hI10d := hI10.below hb12
  have hbw12 := hbw11.trans (hb12.mono hbw11.size)
  clear ho12 hI7c hI9c hI10 hI6c
  go_wp2_with fail
  refine (equalI_any A12 A7b _ _ _ _ (minusL (mulO r c xs ys)) (minusL (mulO r c xs ys)) _ hI12 hI7d (by rw [minusL_length]; have := hl1.out; omega)).mono ?_
  rintro e w13 ⟨rfl, k13, rfl⟩
  rw [decide_eq_true rfl]
  go_wp2_with fail
  refine (signs_minus A9 _ c9 (backO r c xs zs) _ (by exact hI9d.drewN _) (by have := hl2.out; omega)).mono ?_
  rintro e w14 ⟨A14, c14, rfl, ho14, hb14⟩
  have hI14 := Ints.of_own ho14 rfl
  have hI10e := (hI10d.drewN k13).below hb14
  go_wp2_with fail
  refine (equalI_any A14 A10b _ _ _ _ (minusL (backO r c xs zs)) (minusL (backO r c xs zs)) _ hI14 hI10e (by rw [minusL_length]; have := hl2.out; omega)).mono ?_
  rintro e w15 ⟨rfl, k15, rfl⟩
  rw [decide_eq_true rfl]
  go_wp2
  go_ret
  exact ⟨rfl, bel_drewN ((bel_drewN hbw12 _).trans (hb14.mono hbw12.size)) _⟩

set_option maxRecDepth 100000 in
theorem arg_ints_sized {H : Type} {enc : TypeId × Value → H} {w : World} {base : Nat} {sp : Nat → Bool} {held : Bool} {r : Reach} {b : Nat} {v : Value} {d : DataW H} {p : List MemPlace} {ts : List TypeId} {ds : List (DataW H)} {j : Nat} (hsp : ∀ b, sp b = true)
    (hv : Value.okWide Try.prog w r b 31 v) (h : DataW.Trod enc Try.prog w base sp held 31 v d p) (hsz : (DataW.weightsEach Try.prog ts ds).all (· ≤ reachBytes) = true) (ht : ts[j]? = some 31) (hd : ds[j]? = some d) :
    ∃ (A : Option Addr) (n c : Nat) (xs : List Int), v = .slice A n c ∧ Ints .i64 w A n xs ∧ n * 8 ≤ 140737488351232 := by
  obtain ⟨A, n, c, rfl⟩ := okWide_slice Try.underlying31 hv
  obtain ⟨f, h⟩ := h
  obtain ⟨A', n', c', xs, e, hI, h1, h2, h3, h4⟩ := open_Ints (k := .i64) Try.underlying31 Try.underlying3 cells_int hsp h
  have e' : Value.slice A n c = .slice A' n' c' := by simpa [Value.cells] using e
  injection e' with e1 e2 e3
  subst e1; subst e2; subst e3
  refine ⟨A, n, c, xs, rfl, hI, ?_⟩
  rcases h4 with ⟨_, rfl⟩ | ⟨ys, zs, hy, hl, _⟩
  · omega
  · dsimp only at hy
    subst hy
    have h5 := sized_slice hsz ht hd Try.underlying31
    have hb : Try.prog.bytesOf 3 = 8 := by kernel_rfl
    have hr : reachBytes = 140737488351232 := rfl
    rw [hb, hr] at h5
    omega

set_option maxRecDepth 100000 in
theorem vecSigns_lifted (os : Os) (started : os.Started) (H : Type) (enc : TypeId × Value → H) :
    ReturnsInHanded {} Try.checked os 13 .any (Rows.vecSignsSpec.pre6 enc Try.prog Try.f13 Rows.vecSignsRow.domain false) (Rows.vecSignsSpec.post enc Try.prog Try.f13 false true false false) := by
  refine lift_law (fn := Try.f13) started (by kernel_rfl) Try.func13
    (ChangeSpec.witness6 (enc := enc) (C := Try.checked) false ⟨#[], #[.agg #[.int .i64 0, .int .i64 0, .slice none 0 0], .slice none 0 0, .slice none 0 0], []⟩ 8 (by kernel_rfl) (by kernel_rfl) (by kernel_rfl) (by kernel_rfl)) (by kernel_rfl) rfl Try.underlying4 rfl ?_ ?_
  · intro ds h
    rw [Try.params13] at h
    match ds, h with
    | [d0, d1, d2], _ => rfl
  · intro W args ds ps hA hlt hval hsz
    rw [Try.params13] at hA hval hsz
    obtain ⟨v0, vs0, d0, ds0, p0, q0, hargs, rfl, rfl, h0, r0⟩ := trodAll_cons hA
    obtain ⟨v1, vs1, d1, ds1, p1, q1, rfl, rfl, rfl, h1, r1⟩ := trodAll_cons r0
    obtain ⟨v2, vs2, d2, ds2, p2, q2, rfl, rfl, rfl, h2, r2⟩ := trodAll_cons r1
    obtain ⟨rfl, rfl, rfl⟩ := trodAll_nil r2
    obtain rfl : args = #[v0, v1, v2] := by cases args; simp_all
    obtain ⟨b0, hv0⟩ := hval 0 48 v0 rfl rfl
    obtain ⟨b1, hv1⟩ := hval 1 31 v1 rfl rfl
    obtain ⟨b2, hv2⟩ := hval 2 31 v2 rfl rfl
    obtain ⟨r, c, A, n, cap, xs, rfl, _, _, hx, hcap, hm⟩ := arg_mat (fun _ => rfl) hv0 h0
    obtain ⟨B, m1, e1, ys, rfl, hy, l1⟩ := arg_ints_sized (j := 1) (fun _ => rfl) hv1 h1 hsz rfl rfl
    obtain ⟨C, m2, e2, zs, rfl, hz, l2⟩ := arg_ints_sized (j := 2) (fun _ => rfl) hv2 h2 hsz rfl rfl
    exact vecSigns_walk r c A B C n cap m1 e1 m2 e2 xs ys zs W hx hy hz hcap (by
      unfold maxLen at hm
      omega) l1 l2
theorem VecSigns_holds : Rows.VecSignsSaid :=
  OpenClaim.holds_of_wide 13 Try.f13 rfl rfl rfl rfl rfl rfl rfl ⟨rfl, rfl, rfl, rfl, rfl⟩ rfl rfl rfl rfl rfl (by kernel_rfl) Try.func13 (by kernel_rfl)
    (of_decide_eq_true (by kernel_rfl)) (by unfold Func.isWrapper; first | (rw [if_pos (by decide +kernel)]; kernel_rfl) | (rw [if_neg (by decide +kernel)]; exact ⟨rfl, rfl⟩))
    (fun os started H enc _ => vecSigns_lifted os started H enc)

end Go.Proofs.Ytflljldlfgpimaa
