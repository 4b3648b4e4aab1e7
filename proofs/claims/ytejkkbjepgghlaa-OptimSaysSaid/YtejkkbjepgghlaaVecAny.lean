/- What vec.Mul, vec.Back and vec.Outer answer, right or wrong, and how the document's own text compares matrices: walks. -/
import Derived.Test.YtejkkbjepgghlaaVecW4
import Derived.Test.YtejkkbjepgghlaaVecW3
import Derived.Test.YtejkkbjepgghlaaOuter
import Derived.Test.YtejkkbjepgghlaaRefVec
namespace Go.Proofs.Ytejkkbjepgghlaa
open Go.RowKit Pl

set_option maxHeartbeats 1000000 in
theorem vec_Mul_no (r c : Int) (A B : Option Addr) (n cap m d : Nat) (xs : List Int) (w : World) (hx : Ints .i64 w A n xs) (hn : n ≤ 9223372036854775807) (he : prodE r c xs m c ≠ 0) :
    Calls Try.prog 127 #[(.agg #[.int .i64 r, .int .i64 c, .slice A n cap]), .slice B m d] w fun e w' => e = .returned (.tuple #[.slice none 0 0, .int .i64 (prodE r c xs m c)]) ∧ Below w.heap.size w w' := by
  have hM := MatBox.new w r c A n cap
  have hx' := hx.alloc (.cells #[.int .i64 r, .int .i64 c, .slice A n cap] 47)
  have HV : Vals (((w.alloc (.cells #[.int .i64 r, .int .i64 c, .slice A n cap] 47)).alloc (.cells #[.slice B m d] 25)).alloc (.cells #[.slice B m d] 25)) (some ⟨w.heap.size + 1 + 1, 0, none⟩) 1 [.slice B m d] := by
    have h := Vals.made ((w.alloc (.cells #[.int .i64 r, .int .i64 c, .slice A n cap] 47)).alloc (.cells #[.slice B m d] 25)) #[.slice B m d] 25 1 [.slice B m d] rfl rfl
    simpa using h
  by_cases h1 : 200 < m
  · have HA := Lib.hid ((large1 B m d).trans (decide_eq_true h1))
    have F := Lib.hid (prodE_1 (r := r) (c := c) (xs := xs) (k := c) (show (200 : Int) < m by omega))
    clear h1 he
    go_enter Try.func127, Try.ntmps127
    go_wp2_with (go_at_call 131; refine (vec_large _ 1 1 [.slice B m d] _ (by exact HV) (by omega) (by simp)).mono ?_; rintro e w1 ⟨rfl, k, rfl⟩; rw [HA.out])
    go_ret2
    rw [F.out]
    exact ⟨rfl, (by repeat (first | exact Below.refl _ _ | assumption | refine bel_drewN ?_ _ | refine Below.drew ?_ | (refine Below.alloc ?_ (by simp <;> omega) _) | (refine Below.setCell ?_ (by simp <;> omega) _)))⟩
  have HA := Lib.hid ((large1 B m d).trans (decide_eq_false h1))
  by_cases h2 : matE r c xs = 0
  · have h3 : m ≠ c := fun h => he (by unfold prodE; rw [if_neg (by omega), if_neg (by simp [h2]), if_neg (by simp [h])])
    have t3 : ((m : Int) != c) = true := by rw [bne_iff_ne]; exact h3
    have F := Lib.hid (prodE_3 (r := r) (c := c) (xs := xs) (k := c) (show ¬ (200 : Int) < m by omega) h2 h3)
    have H2 := Lib.hid h2
    clear h1 he h2 h3
    go_enter Try.func127, Try.ntmps127
    go_wp2_with (first | (go_at_call 131; refine (vec_large _ 1 1 [.slice B m d] _ (by exact HV) (by omega) (by simp)).mono ?_; rintro e w1 ⟨rfl, k, rfl⟩; rw [HA.out]) | (go_at_call 125; refine (vec_Check r c A n cap xs _ (by exact ((hx'.alloc _).alloc _).drewN _) (by omega)).mono ?_; rintro e w2 ⟨rfl, hb2⟩; have hbw := Below.trans (B := w.heap.size) (show Below w.heap.size w _ from (by repeat (first | exact Below.refl _ _ | assumption | refine bel_drewN ?_ _ | refine Below.drew ?_ | (refine Below.alloc ?_ (by simp <;> omega) _) | (refine Below.setCell ?_ (by simp <;> omega) _)))) (hb2.mono (by simp <;> omega)); obtain ⟨q0, q1, q2⟩ := (hM.below (D := w.heap.size + 1) (show Below (w.heap.size + 1) _ _ from (bel_drewN (Below.alloc (Below.alloc (Below.refl _ _) (by simp) _) (by simp) _) _)) (by omega)).below hb2 (by simp <;> omega); have qv : w2.cell? ⟨w.heap.size + 1, 0, none⟩ = some (.slice B m d) := (hb2.cell (p := ⟨w.heap.size + 1, 0, none⟩) (by simp <;> omega)).trans ((((Blk.made' (w.alloc _) _ _ (by simp)).alloc _).drewN _).cell 0); rw [H2.out]))
    go_ret2
    rw [F.out]
    exact ⟨rfl, hbw⟩
  · have t2 : (matE r c xs != 0) = true := by rw [bne_iff_ne]; exact h2
    have F := Lib.hid (prodE_2 (r := r) (c := c) (xs := xs) (k := c) (show ¬ (200 : Int) < m by omega) h2)
    clear h1 he h2
    go_enter Try.func127, Try.ntmps127
    go_wp2_with (first | (go_at_call 131; refine (vec_large _ 1 1 [.slice B m d] _ (by exact HV) (by omega) (by simp)).mono ?_; rintro e w1 ⟨rfl, k, rfl⟩; rw [HA.out]) | (go_at_call 125; refine (vec_Check r c A n cap xs _ (by exact ((hx'.alloc _).alloc _).drewN _) (by omega)).mono ?_; rintro e w2 ⟨rfl, hb2⟩; have hbw := Below.trans (B := w.heap.size) (show Below w.heap.size w _ from (by repeat (first | exact Below.refl _ _ | assumption | refine bel_drewN ?_ _ | refine Below.drew ?_ | (refine Below.alloc ?_ (by simp <;> omega) _) | (refine Below.setCell ?_ (by simp <;> omega) _)))) (hb2.mono (by simp <;> omega)); obtain ⟨q0, q1, q2⟩ := (hM.below (D := w.heap.size + 1) (show Below (w.heap.size + 1) _ _ from (bel_drewN (Below.alloc (Below.alloc (Below.refl _ _) (by simp) _) (by simp) _) _)) (by omega)).below hb2 (by simp <;> omega)))
    go_ret2
    rw [F.out]
    exact ⟨rfl, hbw⟩

/-- The products, where nothing is wrong; else no list. -/
def mulO (r c : Int) (xs ys : List Int) : List Int := if matE r c xs = 0 ∧ (ys.length : Int) = c then mulL xs r.toNat c.toNat ys else []
def backO (r c : Int) (xs ys : List Int) : List Int := if matE r c xs = 0 ∧ (ys.length : Int) = r then backL xs r.toNat c.toNat ys else []
/-- A list beside an error, what lay untouched. -/
def ListRes (w : World) (xs : List Int) (x : Int) (e : Ending) (w' : World) : Prop :=
  ∃ A c, e = .returned (.tuple #[.slice A xs.length c, .int .i64 x]) ∧ Ints .i64 w' A xs.length xs ∧ Below w.heap.size w w'
theorem ListRes.of_own {w w' : World} {xs : List Int} {x : Int} {e : Ending} (h : OwnRes w xs x e w') : ListRes w xs x e w' := by
  obtain ⟨A, c, he, ho, hb⟩ := h
  exact ⟨A, c, he, Ints.of_own ho rfl, hb⟩
theorem ListRes.of_no {w w' : World} {x : Int} {e : Ending} (he : e = .returned (.tuple #[.slice none 0 0, .int .i64 x])) (hb : Below w.heap.size w w') : ListRes w [] x e w' := ⟨none, 0, he, Ints.nil _ _ _, hb⟩

theorem prodE_zero {r c : Int} {xs : List Int} {m k : Int} (h : prodE r c xs m k = 0) : matE r c xs = 0 ∧ m = k := by
  unfold prodE at h
  split at h
  · omega
  · split at h
    · rename_i h2; exact absurd h h2
    · split at h
      · omega
      · rename_i h2 h3
        exact ⟨by simpa using h2, by simpa using h3⟩

theorem vec_Mul_any (r c : Int) (A B : Option Addr) (n cap m d : Nat) (xs ys : List Int) (w : World) (hx : Ints .i64 w A n xs) (hy : Ints .i64 w B m ys) (hcap : n ≤ cap) (hn : n ≤ 9223372036854775807) :
    Calls Try.prog 127 #[(.agg #[.int .i64 r, .int .i64 c, .slice A n cap]), .slice B m d] w (ListRes w (mulO r c xs ys) (prodE r c xs m c)) := by
  by_cases he : prodE r c xs m c = 0
  · obtain ⟨h1, h2⟩ := prodE_zero he
    obtain ⟨h3, h4, h5, h6⟩ := matE_ok h1
    obtain ⟨r', rfl⟩ := Int.eq_ofNat_of_zero_le (show 0 ≤ r by omega)
    obtain ⟨c', rfl⟩ := Int.eq_ofNat_of_zero_le (show 0 ≤ c by omega)
    obtain rfl : m = c' := by omega
    have e : mulO r' m xs ys = mulL xs r' m ys := by unfold mulO; rw [if_pos ⟨h1, by rw [hy.len]⟩]; rfl
    rw [he, e]
    exact (vec_Mul_ok r' m A B n cap d xs ys w hx hy (by omega) (by omega) (by rw [← Int.natCast_mul, hx.len] at h5; omega) hcap h6).mono fun e w' h => .of_own h
  · have e : mulO r c xs ys = [] := by
      unfold mulO
      rw [if_neg]
      rintro ⟨h1, h2⟩
      rw [hy.len] at h2
      obtain ⟨_, h4, _, _⟩ := matE_ok h1
      exact he (by unfold prodE; rw [if_neg (by omega), if_neg (by simp [h1]), if_neg (by simp [h2])])
    rw [e]
    exact (vec_Mul_no r c A B n cap m d xs w hx hn he).mono fun e w' ⟨h, hb⟩ => .of_no h hb
theorem vec_Back_any (r c : Int) (A B : Option Addr) (n cap m d : Nat) (xs ys : List Int) (w : World) (hx : Ints .i64 w A n xs) (hy : Ints .i64 w B m ys) (hn : n ≤ 9223372036854775807) :
    Calls Try.prog 93 #[(.agg #[.int .i64 r, .int .i64 c, .slice A n cap]), .slice B m d] w (ListRes w (backO r c xs ys) (prodE r c xs m r)) := by
  by_cases he : prodE r c xs m r = 0
  · obtain ⟨h1, h2⟩ := prodE_zero he
    obtain ⟨h3, h4, h5, h6⟩ := matE_ok h1
    obtain ⟨r', rfl⟩ := Int.eq_ofNat_of_zero_le (show 0 ≤ r by omega)
    obtain ⟨c', rfl⟩ := Int.eq_ofNat_of_zero_le (show 0 ≤ c by omega)
    obtain rfl : m = r' := by omega
    have e : backO m c' xs ys = backL xs m c' ys := by unfold backO; rw [if_pos ⟨h1, by rw [hy.len]⟩]; rfl
    rw [he, e]
    exact (vec_Back_ok m c' A B n cap d xs ys w hx hy (by omega) (by omega) (by rw [← Int.natCast_mul, hx.len] at h5; omega) h6).mono fun e w' h => .of_own h
  · have e : backO r c xs ys = [] := by
      unfold backO
      rw [if_neg]
      rintro ⟨h1, h2⟩
      rw [hy.len] at h2
      obtain ⟨h4, _, _, _⟩ := matE_ok h1
      exact he (by unfold prodE; rw [if_neg (by omega), if_neg (by simp [h1]), if_neg (by simp [h2])])
    rw [e]
    exact (vec_Back_no r c A B n cap m d xs w hx hn he).mono fun e w' ⟨h, hb⟩ => .of_no h hb

/-- The outer product as a matrix; the zero matrix where something is wrong. -/
def outO (xs ys : List Int) : Int × Int × List Int := if outE xs.length ys.length = 0 then (xs.length, ys.length, outerL xs ys) else (0, 0, [])
def MatRes (w : World) (x : Int × Int × List Int) (z : Int) (e : Ending) (w' : World) : Prop :=
  ∃ A cp, e = .returned (.tuple #[.agg #[.int .i64 x.1, .int .i64 x.2.1, .slice A x.2.2.length cp], .int .i64 z]) ∧ Ints .i64 w' A x.2.2.length x.2.2 ∧ Below w.heap.size w w'
theorem outE_zero {n m : Nat} (h : outE n m = 0) : (1 ≤ n ∧ n ≤ 4) ∧ (1 ≤ m ∧ m ≤ 4) := by
  unfold outE at h
  split at h
  · omega
  · split at h
    · omega
    · rename_i h2
      simp only [Bool.or_eq_true, Bool.not_eq_true', not_or, Bool.not_eq_false] at h2
      obtain ⟨a, b⟩ := h2
      rw [sideB_iff] at a b
      omega
theorem vec_Outer_any (A B : Option Addr) (n c m d : Nat) (xs ys : List Int) (w : World) (hx : Ints .i64 w A n xs) (hy : Ints .i64 w B m ys) :
    Calls Try.prog 94 #[.slice A n c, .slice B m d] w (MatRes w (outO xs ys) (outE n m)) := by
  by_cases he : outE n m = 0
  · obtain ⟨h1, h2⟩ := outE_zero he
    have e : outO xs ys = ((n : Int), (m : Int), outerL xs ys) := by unfold outO; rw [hx.len, hy.len, if_pos he]
    rw [he, e]
    exact (vec_Outer_ok A B n c m d xs ys w hx hy h1 h2).mono fun e w' ⟨A', cp, h, ho, hb⟩ => ⟨A', cp, h, Ints.of_own ho rfl, hb⟩
  · have e : outO xs ys = (0, 0, []) := by unfold outO; rw [hx.len, hy.len, if_neg he]
    rw [e]
    exact (vec_Outer_no A B n c m d w he).mono fun e w' ⟨h, hb⟩ => ⟨none, 0, h, Ints.nil _ _ _, hb⟩

set_option maxHeartbeats 1000000 in
theorem ref_SameMatrix_yes (r c : Int) (A A' : Option Addr) (n cap n' cap' : Nat) (xs : List Int) (w : World) (hx : Ints .i64 w A n xs) (hy : Ints .i64 w A' n' xs) (hn : n ≤ 9223372036854775806) :
    Calls Try.prog 95 #[(.agg #[.int .i64 r, .int .i64 c, .slice A n cap]), .agg #[.int .i64 r, .int .i64 c, .slice A' n' cap']] w fun e w' => e = .returned (.bool true) ∧ Below w.heap.size w w' := by
  go_enter Try.func95, Try.ntmps95
  go_wp2_with (go_at_call 24; refine (equalI_any A A' n cap cap' n' xs xs _ (by exact (hx.alloc _).alloc _) (by exact (hy.alloc _).alloc _) hn).mono ?_; rintro e w1 ⟨rfl, k, rfl⟩; rw [decide_eq_true rfl])
  go_ret
  exact ⟨rfl, (by repeat (first | exact Below.refl _ _ | assumption | refine bel_drewN ?_ _ | refine Below.drew ?_ | (refine Below.alloc ?_ (by simp <;> omega) _) | (refine Below.setCell ?_ (by simp <;> omega) _)))⟩
end Go.Proofs.Ytejkkbjepgghlaa
