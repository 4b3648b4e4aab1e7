/- Small parts of the laws on trees: a small tree is told; lists that aren't too long; rests: walks. -/
import Derived.Test.YtcfmjpcbiomdbaaTreeC
import Derived.Test.YtcfmjpcbiomdbaaArgs
import Derived.Deep.DeepCutAuto
import Derived.Deep.CutBlock
import Derived.Outline
namespace Go.Proofs.Ytcfmjpcbiomdbaa
open Go.ChangeShapes Go.WideShapes Go.ChangeAt Go.RowKit Pl

theorem downI_u64 (ts : List (Bool × Nat × Nat)) : ∀ {l : List Int} {x : Int}, U64 l → x ∈ downI ts l → 0 ≤ x ∧ x < 18446744073709551616 := by
  have tr : ∀ {l : List Int}, U64 l → 0 ≤ treeI l ∧ treeI l < 18446744073709551616 := fun {l} h => by
    rcases Nat.eq_zero_or_pos l.length with h0 | h0
    · rw [List.eq_nil_of_length_eq_zero h0]; exact ⟨Int.le_refl _, by show (0 : Int) < _; omega⟩
    · exact treeI_u64 h h0
  induction ts with
  | nil => intro l x _ h; simp [downI] at h
  | cons t ts ih =>
    intro l x hu h
    unfold downI at h
    split at h
    · rcases List.mem_cons.1 h with rfl | h
      · exact tr (hu.take _)
      · exact ih (hu.drop _) h
    · rcases List.mem_cons.1 h with rfl | h
      · exact tr (hu.drop _)
      · exact ih (hu.take _) h
theorem wayI_u64 {l : List Int} {k : Nat} {x : Int} (hu : U64 l) (h : x ∈ wayI l k) : 0 ≤ x ∧ x < 18446744073709551616 := by
  unfold wayI at h
  exact downI_u64 _ hu (List.mem_reverse.1 h)
theorem root5 : rootI [5] = pairI 1 (ofI 4 (numL [5])) := by
  unfold rootI
  rw [treeI_one (by rw [leavesI_length]; rfl)]
  rfl
theorem root5_ne : rootI [5] ≠ 0 := by decide +kernel
set_option maxRecDepth 100000 in
set_option maxHeartbeats 1000000 in
theorem keep_grown (w : World) : Calls Try.prog 30 #[] w fun e w' => e = .returned (.bool true) ∧ Below w.heap.size w w' := by
  have hI := Ints.made w [5] 1 rfl #[.int .i64 5] rfl rfl 3
  have HR := Lib.hid (tree_Root_any _ 1 1 [5] _ hI (by omega) (by omega))
  rw [show lvE 1 = 0 from rfl, show rootO [5] = rootI [5] from if_pos rfl] at HR
  have hq : numL [5] = [4294967301] := by decide
  obtain ⟨r, hr⟩ : ∃ r, r = rootI [5] := ⟨_, rfl⟩
  have t1 : (r != 0) = true := by rw [bne_iff_ne, hr]; exact root5_ne
  obtain ⟨x, hx⟩ : ∃ x, x = ofI 4 (numL [5]) := ⟨_, rfl⟩
  have xb : 0 ≤ x ∧ x < 2305843009213693951 := by rw [hx]; exact ⟨ofI_lo _ _, ofI_hi _ _⟩
  have HP := Lib.hid (fun W => dig_Pair 1 x W (by omega) (by omega) xb.1 (by omega))
  rw [show pairI 1 x = r by rw [hr, hx]; exact root5.symm] at HP
  rw [← hr] at HR
  have HX := Lib.hid hx
  clear hq hr hx hI
  go_enter Try.func30, Try.ntmps30
  go_wp2_with fail
  refine HR.out.mono ?_
  rintro e w1 ⟨rfl, hb1⟩
  have hb1w : Below w.heap.size w w1 := Below.trans (B := w.heap.size) (by repeat (first | exact Below.refl _ _ | assumption | refine bel_drewN ?_ _ | refine Below.drew ?_ | (refine Below.alloc ?_ (by simp <;> omega) _) | (refine Below.setCell ?_ (by simp <;> omega) _))) (hb1.mono (by simp))
  have hI2 := Ints.made w1 [5] 1 rfl #[.int .i64 5] rfl rfl 3
  go_wp2_with fail
  refine (dig_Numbers_ok _ 1 1 [5] _ hI2 (by omega)).mono ?_
  rintro e w2 ⟨A2, c2, rfl, hown, hb2⟩
  have hI3 := Ints.of_own hown rfl
  have hb2w : Below w.heap.size w w2 := (hb1w.alloc hb1w.size _).trans (hb2.mono (by have := hb1w.size; simp; omega))
  have HO := Lib.hid (dig_Of 4 A2 (numL [5]).length c2 (numL [5]) w2 (by omega) (by omega) hI3 (numL_u64 _))
  rw [show ofO 4 (numL [5]) = x by rw [HX.out]; exact if_neg (by rw [numL_length]; simp), show ofE (numL [5]) = 0 from if_neg (by rw [numL_length]; simp)] at HO
  clear hown hI3 hI2 hb1 hb2
  go_wp2_with fail
  refine HO.out.mono ?_
  rintro e w3 ⟨rfl, hb3⟩
  go_wp2_with fail
  refine (HP.out _).mono ?_
  rintro e w4 ⟨rfl, hb4⟩
  go_wp2
  go_ret
  exact ⟨rfl, hb2w.trans ((bel_trans hb3 hb4).mono hb2w.size)⟩
/-- A list of some numbers, not too many. -/
def Some60 (w : World) (e : Ending) (w' : World) : Prop := ∃ A n c ys, e = .returned (.slice A n c) ∧ Ints .i64 w' A n ys ∧ 1 ≤ n ∧ n ≤ 60 ∧ n ≤ c ∧ Below w.heap.size w w'
set_option maxRecDepth 100000 in
set_option maxHeartbeats 1000000 in
theorem keep_list (A : Option Addr) (n c : Nat) (xs : List Int) (w : World) (hx : Ints .i64 w A n xs) (hc : n ≤ c) (hm : n ≤ 9223372036854775807) :
    Calls Try.prog 33 #[.slice A n c] w (Some60 w) := by
  rcases Nat.eq_zero_or_pos n with h0 | h0
  · subst h0
    have hI := Ints.made w [7] 1 rfl #[.int .i64 7] rfl rfl 3
    by_cases hc0 : c = 0
    · subst hc0
      go_enter Try.func33, Try.ntmps33
      go_wp2
      go_ret
      exact ⟨_, 1, 1, [7], rfl, hI, by omega, by omega, by omega, (by repeat (first | exact Below.refl _ _ | assumption | refine bel_drewN ?_ _ | refine Below.drew ?_ | (refine Below.alloc ?_ (by simp <;> omega) _) | (refine Below.setCell ?_ (by simp <;> omega) _)))⟩
    · have c0 : ¬ (c : Int) = 0 := by omega
      go_enter Try.func33, Try.ntmps33
      go_wp2
      go_ret
      exact ⟨_, 1, 1, [7], rfl, hI, by omega, by omega, by omega, (by repeat (first | exact Below.refl _ _ | assumption | refine bel_drewN ?_ _ | refine Below.drew ?_ | (refine Below.alloc ?_ (by simp <;> omega) _) | (refine Below.setCell ?_ (by simp <;> omega) _)))⟩
  · obtain ⟨b, off, rfl, _, _⟩ := hx.cells h0
    by_cases h60 : n < 60
    · have i1 : (n : Int) < 60 := by omega
      have t0 : ((n : Int) == 0) = false := by rw [beq_eq_false_iff_ne]; omega
      have k2 : (n : Int) ≤ (c : Int) := by omega
      go_enter Try.func33, Try.ntmps33
      go_wp2
      go_ret
      exact ⟨_, n, c, xs, rfl, hx, h0, by omega, hc, Below.refl _ _⟩
    · have i1 : (60 : Int) ≤ (n : Int) := by omega
      have k2 : (60 : Int) ≤ (c : Int) := by omega
      have hI : Ints .i64 w (some ⟨b, off, none⟩) 60 ((xs.drop 0).take 60) := hx.cut (i := 0) (m := 60) (by omega) (fun _ b' o' e => by rw [e]; rfl)
      go_enter Try.func33, Try.ntmps33
      go_wp2
      go_ret
      exact ⟨_, 60, c, _, rfl, hI, by omega, by omega, by omega, Below.refl _ _⟩
def Rest (m : Nat) (w : World) (e : Ending) (w' : World) : Prop := ∃ r : Nat, r < m ∧ e = .returned (.int .i64 r) ∧ w = w'
set_option maxHeartbeats 1000000 in
theorem ref_Rest (n : Int) (m : Nat) (w : World) (h1 : 1 ≤ m) (h2 : m ≤ 1000000) :
    Calls Try.prog 10 #[.int .i64 n, .int .i64 m] w (Rest m w) := by
  have t0 : ¬ (m : Int) = 0 := by omega
  have t1 : ((m : Int) == 0) = false := by rw [beq_eq_false_iff_ne]; omega
  obtain ⟨r, hr⟩ : ∃ r : Int, r = n.tmod (m : Int) := ⟨_, rfl⟩
  have b1 : -(m : Int) < r := by rw [hr]; have := Int.lt_tmod_of_pos n (show (0 : Int) < (m : Int) by omega); omega
  have b2 : r < (m : Int) := by rw [hr]; exact Int.tmod_lt_of_pos n (by omega)
  by_cases h0 : 0 ≤ n
  · have r0 : 0 ≤ r := by rw [hr]; exact Int.tmod_nonneg _ h0
    have e1 : n % (m : Int) = r := by rw [hr, Int.tmod_eq_emod_of_nonneg h0]
    have e2 : n.tmod (m : Int) = r := hr.symm
    clear hr
    go_enter Try.func10, Try.ntmps10
    go_wp2
    go_ret
    exact ⟨r.toNat, by omega, ret_int (by omega), rfl⟩
  · have e2 : n.tmod (m : Int) = r := hr.symm
    clear hr
    by_cases r0 : r < 0
    · go_enter Try.func10, Try.ntmps10
      go_wp2
      go_ret
      exact ⟨(r + m).toNat, by omega, ret_int (by omega), rfl⟩
    · go_enter Try.func10, Try.ntmps10
      go_wp2
      go_ret
      exact ⟨r.toNat, by omega, ret_int (by omega), rfl⟩
end Go.Proofs.Ytcfmjpcbiomdbaa
