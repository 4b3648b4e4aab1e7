/- Numbers of pupils, comparisons, slices.Clone: walks, each function once. -/
import Derived.Test.YtejkkbjepgghlaaRefTimes
import Derived.Test.YtejkkbjepgghlaaVecAny
import Derived.Test.YtejkkbjepgghlaaPupPl
import Derived.Lib.SliceRun
namespace Go.Proofs.Ytejkkbjepgghlaa
open Go.RowKit Pl

theorem mul_bd {a b : Int} (ha : 1 ≤ a ∧ a ≤ 4) (hb : 1 ≤ b ∧ b ≤ 5) : 1 ≤ a * b ∧ a * b ≤ 20 := by
  obtain ⟨h1, h2⟩ := ha
  have : a = 1 ∨ a = 2 ∨ a = 3 ∨ a = 4 := by omega
  rcases this with rfl | rfl | rfl | rfl <;> omega

set_option maxHeartbeats 1000000 in
theorem pup_Size (i h o : Int) (w : World) (hi : 1 ≤ i ∧ i ≤ 4) (hh : 1 ≤ h ∧ h ≤ 4) (ho : 1 ≤ o ∧ o ≤ 4) :
    Calls Try.prog 81 #[.int .i64 i, .int .i64 h, .int .i64 o] w fun e w' => e = .returned (.int .i64 (sizeP i h o)) ∧ w = w' := by
  obtain ⟨a1, a2⟩ := mul_bd hh (b := i) (by omega)
  obtain ⟨b1, b2⟩ := mul_bd ho (b := h) (by omega)
  go_enter Try.func81, Try.ntmps81
  go_wp2
  go_ret
  exact ⟨rfl, rfl⟩
set_option maxHeartbeats 1000000 in
theorem ref_Size (i h o : Int) (w : World) (hi : 1 ≤ i ∧ i ≤ 4) (hh : 1 ≤ h ∧ h ≤ 4) (ho : 1 ≤ o ∧ o ≤ 4) :
    Calls Try.prog 73 #[.int .i64 i, .int .i64 h, .int .i64 o] w fun e w' => e = .returned (.int .i64 (sizeP i h o)) ∧ w = w' := by
  obtain ⟨a1, a2⟩ := mul_bd hh (b := i + 1) (by omega)
  obtain ⟨b1, b2⟩ := mul_bd ho (b := h + 1) (by omega)
  go_enter Try.func73, Try.ntmps73
  go_wp2
  go_ret
  exact ⟨ret_int (by unfold sizeP; rw [Int.mul_add, Int.mul_add, Int.mul_one, Int.mul_one]; omega), rfl⟩

set_option maxRecDepth 100000 in
set_option maxHeartbeats 1000000 in
/-- slices.Clone over []int. -/
theorem sl_Clone (A : Option Addr) (n c : Nat) (xs : List Int) (w : World) (hx : Ints .i64 w A n xs) (hn : n * 8 ≤ 140737488351232) :
    Calls Try.prog 58 #[.slice A n c] w (Own1 w xs) := by
  have qn : ∀ (w : World) (a : Option Addr) (n c n' c' : Nat), (binOp .eql 25 (.slice a n c) (.slice none n' c')).run Try.prog w = .ok (.bool a.isNone) w := fun w a n c n' c' => Lib.run_eql_slice_nil w _ _ a n c n' c' Try.underlying25
  obtain ⟨i0, hi0, hz0, hz1, hz2⟩ := info_parts int_info
  cases A with
  | none =>
    have h0 : n = 0 := by
      rcases Nat.eq_zero_or_pos n with h | h
      · exact h
      · obtain ⟨_, _, e, _⟩ := hx.cells h
        cases e
    subst h0
    have hl := hx.len
    have hx0 : xs = [] := List.eq_nil_of_length_eq_zero hl
    subst hx0
    clear hl hx
    go_enter Try.func58, Try.ntmps58
    go_wp2
    go_ret
    exact own_one rfl (World.ownsRow_nil _ _ _ _) (Below.refl _ _)
  | some ad =>
    have hnews : ∀ (o : Obj) (j : Nat) (u : Value), (xs.map (Value.int .i64))[j]? = some u → (w.alloc o).cell? (ad.add j) = some u := by
      intro o j u hu
      rw [List.getElem?_map] at hu
      have hj : j < xs.length := by
        rcases Nat.lt_or_ge j xs.length with h | h
        · exact h
        · rw [List.getElem?_eq_none h] at hu; cases hu
      rw [List.getElem?_eq_getElem hj, Option.map_some] at hu
      cases hu
      obtain ⟨b, off, e, hb, hc⟩ := hx.cells (by rw [← hx.len]; omega)
      cases e
      rw [Go.WideShapes.add_plain, World.cell?_alloc_past _ _ _ (by omega), hc j (by rw [← hx.len]; exact hj), at0_getElem _ _ hj]
    have HL := Lib.hid hx.len
    go_enter Try.func58, Try.ntmps58
    go_wp2_with (at_builtin; refine wpList_append_own _ rfl _ _ 25 rfl w.heap.size 3 i0 (.int .i64 0) 1 8 Try.underlying25 hi0 hz0 hz1 hz2 rfl (by decide) (.slice (some ⟨w.heap.size, 0, none⟩) 0 0) 0 [] rfl (World.ownsRow_made w #[] 0 (Nat.le_refl _) (Nat.zero_le _) rfl) ad n c (xs.map (.int .i64)) rfl (by rw [List.length_map, HL.out]; omega) (by exact hnews _) (ints_oneCell _ _) (by unfold maxLen; omega) (by omega) (by simp) ?_; intro v1 w1 hown1 hgrow _)
    go_wp2
    go_ret
    have hb : Below w.heap.size w w1 := Below.grown ((Below.refl _ _).alloc (Nat.le_refl _) _) hgrow (by simp) (fun x hx => by simp [Value.ownBlock] at hx; omega)
    rw [Nat.zero_add, List.nil_append] at hown1
    exact own_one HL.out hown1 hb

set_option maxRecDepth 100000 in
set_option maxHeartbeats 2000000 in
theorem ref_SamePupil_yes (r1 c1 : Int) (A1 : Option Addr) (n1 k1 : Nat) (a1 : List Int) (r2 c2 : Int) (A2 : Option Addr) (n2 k2 : Nat) (a2 : List Int) (B1 : Option Addr) (m1 d1 : Nat) (b1 : List Int) (B2 : Option Addr) (m2 d2 : Nat) (b2 : List Int) (A1' : Option Addr) (k1' : Nat) (A2' : Option Addr) (k2' : Nat) (B1' : Option Addr) (d1' : Nat) (B2' : Option Addr) (d2' : Nat) (w : World) (i1 : Ints .i64 w A1 n1 a1) (i2 : Ints .i64 w A2 n2 a2) (j1 : Ints .i64 w B1 m1 b1) (j2 : Ints .i64 w B2 m2 b2)
    (i1' : Ints .i64 w A1' n1 a1) (i2' : Ints .i64 w A2' n2 a2) (j1' : Ints .i64 w B1' m1 b1) (j2' : Ints .i64 w B2' m2 b2) (h1 : n1 ≤ 9223372036854775806) (h2 : n2 ≤ 9223372036854775806) (h3 : m1 ≤ 9223372036854775806) (h4 : m2 ≤ 9223372036854775806) :
    Calls Try.prog 35 #[(.agg #[.int .i64 r1, .int .i64 c1, .slice A1 n1 k1, .int .i64 r2, .int .i64 c2, .slice A2 n2 k2, .slice B1 m1 d1, .slice B2 m2 d2]), .agg #[.int .i64 r1, .int .i64 c1, .slice A1' n1 k1', .int .i64 r2, .int .i64 c2, .slice A2' n2 k2', .slice B1' m1 d1', .slice B2' m2 d2']] w fun e w' => e = .returned (.bool true) ∧ Below w.heap.size w w' := by
  go_enter Try.func35, Try.ntmps35
  go_wp2_with fail
  refine (ref_SameMatrix_yes r1 c1 A1 A1' n1 k1 n1 k1' a1 _ (by exact (i1.alloc _).alloc _) (by exact (i1'.alloc _).alloc _) h1).mono ?_
  rintro e x1 ⟨rfl, hb1⟩
  have hP : Blk x1 w.heap.size 49 #[.int .i64 r1, .int .i64 c1, .slice A1 n1 k1, .int .i64 r2, .int .i64 c2, .slice A2 n2 k2, .slice B1 m1 d1, .slice B2 m2 d2] := ((Blk.made w _ _).alloc _).below hb1 (by simp <;> omega)
  have hQ : Blk x1 (w.heap.size + 1) 49 #[.int .i64 r1, .int .i64 c1, .slice A1' n1 k1', .int .i64 r2, .int .i64 c2, .slice A2' n2 k2', .slice B1' m1 d1', .slice B2' m2 d2'] := (Blk.made' _ _ _ (by simp)).below hb1 (by simp <;> omega)
  have hbw : Below w.heap.size w x1 := Below.trans (B := w.heap.size) (by repeat (first | exact Below.refl _ _ | assumption | refine bel_drewN ?_ _ | refine Below.drew ?_ | (refine Below.alloc ?_ (by simp <;> omega) _) | (refine Below.setCell ?_ (by simp <;> omega) _))) (hb1.mono (by simp <;> omega))
  have p3 : x1.cell? ⟨w.heap.size, 3, none⟩ = some (.int .i64 r2) := hP.cell 3
  have p4 : x1.cell? ⟨w.heap.size, 4, none⟩ = some (.int .i64 c2) := hP.cell 4
  have p5 : x1.cell? ⟨w.heap.size, 5, none⟩ = some (.slice A2 n2 k2) := hP.cell 5
  have q3 : x1.cell? ⟨w.heap.size + 1, 3, none⟩ = some (.int .i64 r2) := hQ.cell 3
  have q4 : x1.cell? ⟨w.heap.size + 1, 4, none⟩ = some (.int .i64 c2) := hQ.cell 4
  have q5 : x1.cell? ⟨w.heap.size + 1, 5, none⟩ = some (.slice A2' n2 k2') := hQ.cell 5
  go_wp2_with fail
  refine (ref_SameMatrix_yes r2 c2 A2 A2' n2 k2 n2 k2' a2 _ (by exact i2.below hbw) (by exact i2'.below hbw) h2).mono ?_
  rintro e x2 ⟨rfl, hb2⟩
  have hP2 := hP.below hb2 hP.lt
  have hQ2 := hQ.below hb2 hQ.lt
  have hbx := hbw.trans (hb2.mono hbw.size)
  clear p3 p4 p5 q3 q4 q5 hb1 hb2
  have p6 : x2.cell? ⟨w.heap.size, 6, none⟩ = some (.slice B1 m1 d1) := hP2.cell 6
  have p7 : x2.cell? ⟨w.heap.size, 7, none⟩ = some (.slice B2 m2 d2) := hP2.cell 7
  have q6 : x2.cell? ⟨w.heap.size + 1, 6, none⟩ = some (.slice B1' m1 d1') := hQ2.cell 6
  have q7 : x2.cell? ⟨w.heap.size + 1, 7, none⟩ = some (.slice B2' m2 d2') := hQ2.cell 7
  go_wp2_with fail
  refine (equalI_any B1 B1' m1 d1 d1' m1 b1 b1 _ (by exact j1.below hbx) (by exact j1'.below hbx) h3).mono ?_
  rintro e x3 ⟨rfl, k3, rfl⟩
  rw [decide_eq_true rfl]
  go_wp2_with fail
  refine (equalI_any B2 B2' m2 d2 d2' m2 b2 b2 _ (by exact (j2.below hbx).drewN _) (by exact (j2'.below hbx).drewN _) h4).mono ?_
  rintro e x4 ⟨rfl, k4, rfl⟩
  rw [decide_eq_true rfl]
  go_wp2
  go_ret
  exact ⟨rfl, bel_drewN hbx _⟩
end Go.Proofs.Ytejkkbjepgghlaa
