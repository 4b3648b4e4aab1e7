/- What vec.Outer computes: a walk. -/
import Derived.Test.YtaeeonnjkplohaaGreatDoorVecW
import Derived.Test.YtaeeonnjkplohaaGreatDoorMem
import Derived.Deep.RegionLaw
import Derived.Test.YtaeeonnjkplohaaGreatDoorVecW3
import Derived.Test.YtaeeonnjkplohaaGreatDoorSlW
namespace Go.Proofs.YtaeeonnjkplohaaGreatDoor
open Go.RowKit Pl

/-- What is wrong with two lists ahead of their outer product. -/
def outE (n m : Nat) : Int := if 200 < n ∨ 200 < m then 2 else if !sideB n || !sideB m then 5 else 0

set_option maxHeartbeats 1000000 in
theorem vec_Outer_no (A B : Option Addr) (n c m d : Nat) (w : World) (he : outE n m ≠ 0) :
    Calls Tryz.prog 175 #[.slice A n c, .slice B m d] w fun e w' => e = .returned (.tuple #[.agg #[.int .i64 0, .int .i64 0, .slice none 0 0], .int .i64 (outE n m)]) ∧ Below w.heap.size w w' := by
  have HV : Vals ((w.alloc (.cells #[.int .i64 0, .int .i64 0, .slice none 0 0] 153)).alloc (.cells #[.slice A n c, .slice B m d] 26)) (some ⟨w.heap.size + 1, 0, none⟩) 2 [.slice A n c, .slice B m d] := by
    have h := Vals.made (w.alloc (.cells #[.int .i64 0, .int .i64 0, .slice none 0 0] 153)) #[.slice A n c, .slice B m d] 26 2 [.slice A n c, .slice B m d] rfl rfl
    simpa using h
  by_cases h1 : 200 < n ∨ 200 < m
  · have HA := Lib.hid ((large2 A B n c m d).trans (decide_eq_true h1))
    have F := Lib.hid (show outE n m = 2 from if_pos h1)
    clear h1 he
    go_enter Tryz.func175, Tryz.ntmps175
    go_wp2_with (go_at_call 205; refine (vec_large _ 2 2 [.slice A n c, .slice B m d] _ (by exact HV) (by omega) (by simp)).mono ?_; rintro e w1 ⟨rfl, k, rfl⟩; rw [HA.out])
    refine bodyPost_ret (v := .tuple #[.agg #[.int .i64 0, .int .i64 0, .slice none 0 0], .int .i64 2]) (by simp [results, Tryz.results175, go_sem]) rfl ?_
    rw [F.out]
    exact ⟨rfl, (by repeat (first | exact Below.refl _ _ | assumption | refine bel_drewN ?_ _ | refine Below.drew ?_ | (refine Below.alloc ?_ (by simp <;> omega) _) | (refine Below.setCell ?_ (by simp <;> omega) _)))⟩
  have HA := Lib.hid ((large2 A B n c m d).trans (decide_eq_false h1))
  cases h2 : sideB n
  · have F := Lib.hid (show outE n m = 5 by unfold outE; rw [if_neg h1, h2]; rfl)
    have H2 := Lib.hid h2
    clear h1 he h2
    go_enter Tryz.func175, Tryz.ntmps175
    go_wp2_with (first | (go_at_call 205; refine (vec_large _ 2 2 [.slice A n c, .slice B m d] _ (by exact HV) (by omega) (by simp)).mono ?_; rintro e w1 ⟨rfl, k, rfl⟩; rw [HA.out]) | (go_at_call 207; refine (vec_side n _).mono ?_; rintro e w' ⟨rfl, rfl⟩; rw [H2.out]))
    refine bodyPost_ret (v := .tuple #[.agg #[.int .i64 0, .int .i64 0, .slice none 0 0], .int .i64 5]) (by simp [results, Tryz.results175, go_sem]) rfl ?_
    rw [F.out]
    exact ⟨rfl, (by repeat (first | exact Below.refl _ _ | assumption | refine bel_drewN ?_ _ | refine Below.drew ?_ | (refine Below.alloc ?_ (by simp <;> omega) _) | (refine Below.setCell ?_ (by simp <;> omega) _)))⟩
  cases h3 : sideB m
  · have F := Lib.hid (show outE n m = 5 by unfold outE; rw [if_neg h1, h2, h3]; rfl)
    have H2 := Lib.hid h2
    have H3 := Lib.hid h3
    clear h1 he h2 h3
    go_enter Tryz.func175, Tryz.ntmps175
    go_wp2_with (go_at_call 205; refine (vec_large _ 2 2 [.slice A n c, .slice B m d] _ (by exact HV) (by omega) (by simp)).mono ?_; rintro e w1 ⟨rfl, k, rfl⟩; rw [HA.out])
    refine (vec_side n _).mono ?_
    rintro e w' ⟨rfl, rfl⟩
    rw [H2.out]
    go_wp2_with (go_at_call 207; refine (vec_side m _).mono ?_; rintro e w' ⟨rfl, rfl⟩; rw [H3.out])
    refine bodyPost_ret (v := .tuple #[.agg #[.int .i64 0, .int .i64 0, .slice none 0 0], .int .i64 5]) (by simp [results, Tryz.results175, go_sem]) rfl ?_
    rw [F.out]
    exact ⟨rfl, (by repeat (first | exact Below.refl _ _ | assumption | refine bel_drewN ?_ _ | refine Below.drew ?_ | (refine Below.alloc ?_ (by simp <;> omega) _) | (refine Below.setCell ?_ (by simp <;> omega) _)))⟩
  · exact absurd (show outE n m = 0 by unfold outE; rw [if_neg h1, h2, h3]; rfl) he

/-- A matrix of the call's own, told beside an error. -/
def OwnMat (w : World) (r c : Int) (xs : List Int) (x : Int) (e : Ending) (w' : World) : Prop :=
  ∃ A cp, e = .returned (.tuple #[.agg #[.int .i64 r, .int .i64 c, .slice A xs.length cp], .int .i64 x]) ∧ w'.ownsRow w.heap.size 3 1 (.slice A xs.length cp) xs.length (xs.map (.int .i64)) ∧ Below w.heap.size w w'

def outF (xs ys : List Int) (m k : Nat) : Int := mulF (at0 xs (k / m)) (at0 ys (k % m))
theorem outF_at (xs ys : List Int) {m j : Nat} (hj : j < m) (i : Nat) : outF xs ys m (i * m + j) = mulF (at0 xs i) (at0 ys j) := by
  unfold outF
  rw [Nat.mul_comm i m, Nat.mul_add_div (by omega), Nat.div_eq_of_lt hj, Nat.add_zero, Nat.mul_add_mod, Nat.mod_eq_of_lt hj]
/-- What holds of memory while the product is made: the numbers so far are the call's own, the two boxes. -/
def OutI (w : World) (n m : Nat) (L : List Int) (wr : World) : Prop :=
  ∃ v, wr.ownsRow (w.heap.size + 1 + 1 + 1) 3 1 v L.length (L.map (.int .i64)) ∧ Blk wr (w.heap.size + 1 + 1) 153 #[.int .i64 n, .int .i64 m, v] ∧
    Blk wr w.heap.size 153 #[.int .i64 0, .int .i64 0, .slice none 0 0] ∧ Below w.heap.size w wr
theorem OutI.below {w wr : World} {n m : Nat} {L : List Int} (h : OutI w n m L wr) : Below w.heap.size w wr := by
  obtain ⟨_, _, _, _, hb⟩ := h
  exact hb
theorem outI_step {w w1 : World} {n m k gg cp : Nat} {xs ys : List Int} {v : Value} {x : Int} (hf : outF xs ys m k = x)
    (h : w1.ownsRow (w.heap.size + 1 + 1 + 1) 3 1 (.slice (some ⟨gg, 0, none⟩) (k + 1) cp) (k + 1) ((upto (outF xs ys m) k).map (.int .i64) ++ [.int .i64 x]))
    (hB2 : Blk w1 (w.heap.size + 1 + 1) 153 #[.int .i64 n, .int .i64 m, v]) (hB0 : Blk w1 w.heap.size 153 #[.int .i64 0, .int .i64 0, .slice none 0 0]) (hb : Below w.heap.size w w1) :
    OutI w n m (upto (outF xs ys m) (k + 1)) (w1.setCell ⟨w.heap.size + 1 + 1, 2, none⟩ (.slice (some ⟨gg, 0, none⟩) (k + 1) cp)) := by
  refine ⟨_, ?_, hB2.put 2 _, hB0.far (by simp; omega) _, hb.setCell (by simp; omega) _⟩
  rw [upto_length, upto_succ, List.map_append, hf]
  exact own_far h (by simp) _

set_option maxRecDepth 100000 in
set_option maxHeartbeats 2000000 in
theorem vec_Outer_ok (A B : Option Addr) (n c m d : Nat) (xs ys : List Int) (w : World) (hx : Ints .i64 w A n xs) (hy : Ints .i64 w B m ys) (hn : 1 ≤ n ∧ n ≤ 4) (hm : 1 ≤ m ∧ m ≤ 4) :
    Calls Tryz.prog 175 #[.slice A n c, .slice B m d] w (OwnMat w n m (outerL xs ys) 0) := by
  obtain ⟨i0, hi0, hz0, hz1, hz2⟩ := info_parts int_info
  have HV : Vals ((w.alloc (.cells #[.int .i64 0, .int .i64 0, .slice none 0 0] 153)).alloc (.cells #[.slice A n c, .slice B m d] 26)) (some ⟨w.heap.size + 1, 0, none⟩) 2 [.slice A n c, .slice B m d] := by
    have h := Vals.made (w.alloc (.cells #[.int .i64 0, .int .i64 0, .slice none 0 0] 153)) #[.slice A n c, .slice B m d] 26 2 [.slice A n c, .slice B m d] rfl rfl
    simpa using h
  have HA := Lib.hid ((large2 A B n c m d).trans (decide_eq_false (show ¬ (200 < n ∨ 200 < m) by omega)))
  have H2 := Lib.hid (sideB_iff (n := n).2 (by omega))
  have H3 := Lib.hid (sideB_iff (n := m).2 (by omega))
  go_enter Tryz.func175, Tryz.ntmps175
  go_wp2_with (go_at_call 205; refine (vec_large _ 2 2 [.slice A n c, .slice B m d] _ (by exact HV) (by omega) (by simp)).mono ?_; rintro e w1 ⟨rfl, k, rfl⟩; rw [HA.out])
  refine (vec_side n _).mono ?_
  rintro e w' ⟨rfl, rfl⟩
  rw [H2.out]
  go_wp2_with (go_at_call 207; refine (vec_side m _).mono ?_; rintro e w' ⟨rfl, rfl⟩; rw [H3.out])
  go_loopw [34] (fun i wr => ∃ i' : Nat, i' ≤ n ∧ i = .int .i64 i' ∧ OutI w n m (upto (outF xs ys m) (i' * m)) wr) (fun i _ => n - (intOf i).toNat)
  case atStart => exact ⟨0, Nat.zero_le _, rfl, .slice none 0 0, by rw [Nat.zero_mul]; exact World.ownsRow_nil _ _ _ _, Blk.made' _ _ _ (by simp), (((Blk.made w _ _).alloc _).drewN _).alloc _, (by repeat (first | exact Below.refl _ _ | assumption | refine bel_drewN ?_ _ | refine Below.drew ?_ | (refine Below.alloc ?_ (by simp <;> omega) _) | (refine Below.setCell ?_ (by simp <;> omega) _)))⟩
  case round =>
    obtain ⟨i, hi, rfl, hI⟩ := hrel
    by_cases hlt : i < n
    · have hIb := hI.below
      obtain ⟨b, off, rfl, hbl, hc⟩ := hx.cells (by omega)
      have g1 := (hIb.cell (p := ⟨b, off + i, none⟩) hbl).trans (hc i hlt)
      clear hc
      have HI := Lib.hid hI
      clear hI
      go_wp2
      clear g1 hIb
      obtain ⟨wo, rfl⟩ : ∃ wo : World, wo = wr := ⟨_, rfl⟩
      go_loopw [40] (fun j wr => ∃ j' : Nat, j' ≤ m ∧ j = .int .i64 j' ∧ OutI w n m (upto (outF xs ys m) (i * m + j')) wr) (fun j _ => m - (intOf j).toNat)
      case atStart => exact ⟨0, Nat.zero_le _, rfl, HI.out⟩
      case round =>
        obtain ⟨j, hj, rfl, v, hown, hblk, hres, hb⟩ := hrel
        by_cases hl2 : j < m
        · obtain ⟨b', off', rfl, hbl', hc'⟩ := hy.cells (by omega)
          have g2 := (hb.cell (p := ⟨b', off' + j, none⟩) hbl').trans (hc' j hl2)
          have c2 : wr.cell? ⟨w.heap.size + 1 + 1, 2, none⟩ = some v := hblk.cell 2
          have c2' : ∀ k o, ((wr.drewN k).alloc o).cell? ⟨w.heap.size + 1 + 1, 2, none⟩ = some v := fun k o => ((hblk.drewN k).alloc o).cell 2
          have hlt3 := hblk.lt
          have hne : some (w.heap.size + 1 + 1) ≠ v.ownBlock := fun h => by have := (hown.lt _ h.symm).1; omega
          have hne' : some w.heap.size ≠ v.ownBlock := fun h => by have := (hown.lt _ h.symm).1; omega
          have hK : i * m + j ≤ 100 := by
            have : i * m ≤ 4 * 4 := Nat.mul_le_mul (by omega) (by omega)
            omega
          have HF := Lib.hid (outF_at xs ys hl2 i)
          rw [upto_length] at hown
          clear hc'
          go_wp2
          go_region_law (first
            | (go_simp; go_at_call 136; refine (fix_Mul _ _ _).mono ?_; rintro e w' ⟨rfl, kk, rfl⟩)
            | (refine step_append_lies _ (by rfl) _ _ _ (by rfl) (w.heap.size + 1 + 1 + 1) 3 i0 _ 1 8 Tryz.underlying26 hi0 hz0 hz1 hz2 rfl (by omega) v (i * m + j) _ (by rfl) (by exact own_allocD hown (1 + kk) _) ⟨wr.heap.size, 0, none⟩ 1 1 [.int .i64 (mulF (at0 xs i) (at0 ys j))] (by rfl) (by rfl) (World.news_of_block (cs := #[.int .i64 (mulF (at0 xs i) (at0 ys j))]) (t := 3) (fr := (0, 0)) (heap_alloc_new _ _)) (by simp [Value.oneCell']) (by omega) (by unfold maxLen; omega) (by omega) (by simp; omega) (wr.heap.size + 1) (by simp) ?_; intro gg cp w1 hown1 hgrow hat hlt1; have hB2 : Blk w1 (w.heap.size + 1 + 1) 153 #[.int .i64 n, .int .i64 m, v] := hblk.grownD hgrow hne; have hB0 : Blk w1 w.heap.size 153 #[.int .i64 0, .int .i64 0, .slice none 0 0] := hres.grownD hgrow hne'; have hbw := bel_grownD hb (by omega) hgrow (fun x hx => (by have := (hown.lt x hx).1; omega)); have d2 : w1.cell? ⟨w.heap.size + 1 + 1, 2, none⟩ = some v := hB2.cell 2; have e2 : w1.frozen? ⟨w.heap.size + 1 + 1, 2, none⟩ = false := hB2.frozen 2; clear hgrow hat))
          all_goals
            go_wp2
            go_roundw
            case rel => exact ⟨j + 1, by omega, by go_num, outI_step HF.out hown1 hB2 hB0 hbw⟩
            case measure => simp [intOf]; omega
        · obtain rfl : m = j := by omega
          go_wp2
          go_roundw
          case rel => exact ⟨i + 1, by omega, by go_num, by rw [Nat.succ_mul]; exact ⟨v, hown, hblk, hres, hb⟩⟩
          case measure => simp [intOf]; omega
    · obtain rfl : n = i := by omega
      obtain ⟨v, hown, hblk, hres, hb⟩ := hI
      obtain ⟨vA, vc, rfl, _⟩ := own_ints hown
      have c0 : wr.cell? ⟨w.heap.size + 1 + 1, 0, none⟩ = some (.int .i64 n) := hblk.cell 0
      have c1 : wr.cell? ⟨w.heap.size + 1 + 1, 1, none⟩ = some (.int .i64 m) := hblk.cell 1
      have c2 : wr.cell? ⟨w.heap.size + 1 + 1, 2, none⟩ = some (.slice vA _ vc) := hblk.cell 2
      have d0 : wr.cell? ⟨w.heap.size, 0, none⟩ = some (.int .i64 0) := hres.cell 0
      have d1 : wr.cell? ⟨w.heap.size, 1, none⟩ = some (.int .i64 0) := hres.cell 1
      have d2 : wr.cell? ⟨w.heap.size, 2, none⟩ = some (.slice none 0 0) := hres.cell 2
      have e0 : wr.frozen? ⟨w.heap.size, 0, none⟩ = false := hres.frozen 0
      have e1 : wr.frozen? ⟨w.heap.size, 1, none⟩ = false := hres.frozen 1
      have e2 : wr.frozen? ⟨w.heap.size, 2, none⟩ = false := hres.frozen 2
      go_wp2
      have hw : Below w.heap.size w (((wr.setCell ⟨w.heap.size, 0, none⟩ (.int .i64 n)).setCell ⟨w.heap.size, 1, none⟩ (.int .i64 m)).setCell ⟨w.heap.size, 2, none⟩ (.slice vA (upto (outF xs ys m) (n * m)).length vc)) := ((hb.setCell (by simp) _).setCell (by simp) _).setCell (by simp) _
      have ho := own_far (own_far (own_far hown (p := ⟨w.heap.size, 0, none⟩) (by simp <;> omega) (.int .i64 n)) (p := ⟨w.heap.size, 1, none⟩) (by simp <;> omega) (.int .i64 m)) (p := ⟨w.heap.size, 2, none⟩) (by simp <;> omega) (.slice vA (upto (outF xs ys m) (n * m)).length vc)
      refine bodyPost_ret (v := .tuple #[.agg #[.int .i64 n, .int .i64 m, .slice vA (upto (outF xs ys m) (n * m)).length vc], .int .i64 0]) (by simp [results, Tryz.results175, go_sem, d0, d1, d2]) rfl ?_
      have hL : upto (outF xs ys m) (n * m) = outerL xs ys := by unfold outerL outF; rw [hx.len, hy.len]
      rw [hL] at ho hw ⊢
      exact ⟨vA, vc, rfl, own_base ho (by omega), hw⟩
end Go.Proofs.YtaeeonnjkplohaaGreatDoor

/- What vec.Mul, vec.Back and vec.Outer answer, right or wrong, and how the document's own text compares matrices: walks. -/
namespace Go.Proofs.YtaeeonnjkplohaaGreatDoor
open Go.RowKit Pl

set_option maxHeartbeats 1000000 in
theorem vec_Mul_no (r c : Int) (A B : Option Addr) (n cap m d : Nat) (xs : List Int) (w : World) (hx : Ints .i64 w A n xs) (hn : n ≤ 9223372036854775807) (he : prodE r c xs m c ≠ 0) :
    Calls Tryz.prog 187 #[(.agg #[.int .i64 r, .int .i64 c, .slice A n cap]), .slice B m d] w fun e w' => e = .returned (.tuple #[.slice none 0 0, .int .i64 (prodE r c xs m c)]) ∧ Below w.heap.size w w' := by
  have hM := MatBox.new w r c A n cap
  have hx' := hx.alloc (.cells #[.int .i64 r, .int .i64 c, .slice A n cap] 153)
  have HV : Vals (((w.alloc (.cells #[.int .i64 r, .int .i64 c, .slice A n cap] 153)).alloc (.cells #[.slice B m d] 26)).alloc (.cells #[.slice B m d] 26)) (some ⟨w.heap.size + 1 + 1, 0, none⟩) 1 [.slice B m d] := by
    have h := Vals.made ((w.alloc (.cells #[.int .i64 r, .int .i64 c, .slice A n cap] 153)).alloc (.cells #[.slice B m d] 26)) #[.slice B m d] 26 1 [.slice B m d] rfl rfl
    simpa using h
  by_cases h1 : 200 < m
  · have HA := Lib.hid ((large1 B m d).trans (decide_eq_true h1))
    have F := Lib.hid (prodE_1 (r := r) (c := c) (xs := xs) (k := c) (show (200 : Int) < m by omega))
    clear h1 he
    go_enter Tryz.func187, Tryz.ntmps187
    go_wp2_with (go_at_call 205; refine (vec_large _ 1 1 [.slice B m d] _ (by exact HV) (by omega) (by simp)).mono ?_; rintro e w1 ⟨rfl, k, rfl⟩; rw [HA.out])
    go_ret2
    rw [F.out]
    exact ⟨rfl, (by repeat (first | exact Below.refl _ _ | assumption | refine bel_drewN ?_ _ | refine Below.drew ?_ | (refine Below.alloc ?_ (by simp <;> omega) _) | (refine Below.setCell ?_ (by simp <;> omega) _)))⟩
  have HA := Lib.hid ((large1 B m d).trans (decide_eq_false h1))
  by_cases h2 : matE r c xs = 0
  · have h3 : m ≠ c := fun h => he (by unfold prodE; rw [if_neg (by omega), if_neg (by simp [h2]), if_neg (by simp [h])])
    have t3 : ((m : Int) != c) = true := by rw [bne_iff_ne]; exact h3
    have F := Lib.hid (prodE_3 (r := r) (c := c) (xs := xs) (k := c) (show ¬ (200 : Int) < m by omega) h2 h3)
    have H2 := Lib.hid h2
    clear h1 he h2 h3
    go_enter Tryz.func187, Tryz.ntmps187
    go_wp2_with (first | (go_at_call 205; refine (vec_large _ 1 1 [.slice B m d] _ (by exact HV) (by omega) (by simp)).mono ?_; rintro e w1 ⟨rfl, k, rfl⟩; rw [HA.out]) | (go_at_call 206; refine (vec_Check r c A n cap xs _ (by exact ((hx'.alloc _).alloc _).drewN _) (by omega)).mono ?_; rintro e w2 ⟨rfl, hb2⟩; have hbw := Below.trans (B := w.heap.size) (show Below w.heap.size w _ from (by repeat (first | exact Below.refl _ _ | assumption | refine bel_drewN ?_ _ | refine Below.drew ?_ | (refine Below.alloc ?_ (by simp <;> omega) _) | (refine Below.setCell ?_ (by simp <;> omega) _)))) (hb2.mono (by simp <;> omega)); obtain ⟨q0, q1, q2⟩ := (hM.below (D := w.heap.size + 1) (show Below (w.heap.size + 1) _ _ from (bel_drewN (Below.alloc (Below.alloc (Below.refl _ _) (by simp) _) (by simp) _) _)) (by omega)).below hb2 (by simp <;> omega); have qv : w2.cell? ⟨w.heap.size + 1, 0, none⟩ = some (.slice B m d) := (hb2.cell (p := ⟨w.heap.size + 1, 0, none⟩) (by simp <;> omega)).trans ((((Blk.made' (w.alloc _) _ _ (by simp)).alloc _).drewN _).cell 0); rw [H2.out]))
    go_ret2
    rw [F.out]
    exact ⟨rfl, hbw⟩
  · have t2 : (matE r c xs != 0) = true := by rw [bne_iff_ne]; exact h2
    have F := Lib.hid (prodE_2 (r := r) (c := c) (xs := xs) (k := c) (show ¬ (200 : Int) < m by omega) h2)
    clear h1 he h2
    go_enter Tryz.func187, Tryz.ntmps187
    go_wp2_with (first | (go_at_call 205; refine (vec_large _ 1 1 [.slice B m d] _ (by exact HV) (by omega) (by simp)).mono ?_; rintro e w1 ⟨rfl, k, rfl⟩; rw [HA.out]) | (go_at_call 206; refine (vec_Check r c A n cap xs _ (by exact ((hx'.alloc _).alloc _).drewN _) (by omega)).mono ?_; rintro e w2 ⟨rfl, hb2⟩; have hbw := Below.trans (B := w.heap.size) (show Below w.heap.size w _ from (by repeat (first | exact Below.refl _ _ | assumption | refine bel_drewN ?_ _ | refine Below.drew ?_ | (refine Below.alloc ?_ (by simp <;> omega) _) | (refine Below.setCell ?_ (by simp <;> omega) _)))) (hb2.mono (by simp <;> omega)); obtain ⟨q0, q1, q2⟩ := (hM.below (D := w.heap.size + 1) (show Below (w.heap.size + 1) _ _ from (bel_drewN (Below.alloc (Below.alloc (Below.refl _ _) (by simp) _) (by simp) _) _)) (by omega)).below hb2 (by simp <;> omega)))
    go_ret2
    rw [F.out]
    exact ⟨rfl, hbw⟩

/-- The products, where nothing is wrong; else no list. -/
def mulO (r c : Int) (xs ys : List Int) : List Int := if matE r c xs = 0 ∧ (ys.length : Int) = c then mulL xs r.toNat c.toNat ys else []
def backO (r c : Int) (xs ys : List Int) : List Int := if matE r c xs = 0 ∧ (ys.length : Int) = r then backL xs r.toNat c.toNat ys else []
/-- A list beside an error, what lay untouched. -/
def ListRes (w : World) (xs : List Int) (x : Int) (e : Ending) (w' : World) : Prop :=
  ∃ A c, e = .returned (.tuple #[.slice A xs.length c, .int .i64 x]) ∧ Ints .i64 w' A xs.length xs ∧ Below w.heap.size w w'
theorem ListRes.of_own {w w' : World} {xs : List Int} {x : Int} {e : Ending} (h : OwnRes w xs x e w') : ListRes w xs x e w' := by
  obtain ⟨A, c, he, ho, hb⟩ := h
  exact ⟨A, c, he, Ints.of_own ho rfl, hb⟩
theorem ListRes.of_no {w w' : World} {x : Int} {e : Ending} (he : e = .returned (.tuple #[.slice none 0 0, .int .i64 x])) (hb : Below w.heap.size w w') : ListRes w [] x e w' := ⟨none, 0, he, Ints.nil _ _ _, hb⟩

theorem prodE_zero {r c : Int} {xs : List Int} {m k : Int} (h : prodE r c xs m k = 0) : matE r c xs = 0 ∧ m = k := by
  unfold prodE at h
  split at h
  · omega
  · split at h
    · rename_i h2; exact absurd h h2
    · split at h
      · omega
      · rename_i h2 h3
        exact ⟨by simpa using h2, by simpa using h3⟩

theorem vec_Mul_any (r c : Int) (A B : Option Addr) (n cap m d : Nat) (xs ys : List Int) (w : World) (hx : Ints .i64 w A n xs) (hy : Ints .i64 w B m ys) (hcap : n ≤ cap) (hn : n ≤ 9223372036854775807) :
    Calls Tryz.prog 187 #[(.agg #[.int .i64 r, .int .i64 c, .slice A n cap]), .slice B m d] w (ListRes w (mulO r c xs ys) (prodE r c xs m c)) := by
  by_cases he : prodE r c xs m c = 0
  · obtain ⟨h1, h2⟩ := prodE_zero he
    obtain ⟨h3, h4, h5, h6⟩ := matE_ok h1
    obtain ⟨r', rfl⟩ := Int.eq_ofNat_of_zero_le (show 0 ≤ r by omega)
    obtain ⟨c', rfl⟩ := Int.eq_ofNat_of_zero_le (show 0 ≤ c by omega)
    obtain rfl : m = c' := by omega
    have e : mulO r' m xs ys = mulL xs r' m ys := by unfold mulO; rw [if_pos ⟨h1, by rw [hy.len]⟩]; rfl
    rw [he, e]
    exact (vec_Mul_ok r' m A B n cap d xs ys w hx hy (by omega) (by omega) (by rw [← Int.natCast_mul, hx.len] at h5; omega) hcap h6).mono fun e w' h => .of_own h
  · have e : mulO r c xs ys = [] := by
      unfold mulO
      rw [if_neg]
      rintro ⟨h1, h2⟩
      rw [hy.len] at h2
      obtain ⟨_, h4, _, _⟩ := matE_ok h1
      exact he (by unfold prodE; rw [if_neg (by omega), if_neg (by simp [h1]), if_neg (by simp [h2])])
    rw [e]
    exact (vec_Mul_no r c A B n cap m d xs w hx hn he).mono fun e w' ⟨h, hb⟩ => .of_no h hb
theorem vec_Back_any (r c : Int) (A B : Option Addr) (n cap m d : Nat) (xs ys : List Int) (w : World) (hx : Ints .i64 w A n xs) (hy : Ints .i64 w B m ys) (hn : n ≤ 9223372036854775807) :
    Calls Tryz.prog 174 #[(.agg #[.int .i64 r, .int .i64 c, .slice A n cap]), .slice B m d] w (ListRes w (backO r c xs ys) (prodE r c xs m r)) := by
  by_cases he : prodE r c xs m r = 0
  · obtain ⟨h1, h2⟩ := prodE_zero he
    obtain ⟨h3, h4, h5, h6⟩ := matE_ok h1
    obtain ⟨r', rfl⟩ := Int.eq_ofNat_of_zero_le (show 0 ≤ r by omega)
    obtain ⟨c', rfl⟩ := Int.eq_ofNat_of_zero_le (show 0 ≤ c by omega)
    obtain rfl : m = r' := by omega
    have e : backO m c' xs ys = backL xs m c' ys := by unfold backO; rw [if_pos ⟨h1, by rw [hy.len]⟩]; rfl
    rw [he, e]
    exact (vec_Back_ok m c' A B n cap d xs ys w hx hy (by omega) (by omega) (by rw [← Int.natCast_mul, hx.len] at h5; omega) h6).mono fun e w' h => .of_own h
  · have e : backO r c xs ys = [] := by
      unfold backO
      rw [if_neg]
      rintro ⟨h1, h2⟩
      rw [hy.len] at h2
      obtain ⟨h4, _, _, _⟩ := matE_ok h1
      exact he (by unfold prodE; rw [if_neg (by omega), if_neg (by simp [h1]), if_neg (by simp [h2])])
    rw [e]
    exact (vec_Back_no r c A B n cap m d xs w hx hn he).mono fun e w' ⟨h, hb⟩ => .of_no h hb

/-- The outer product as a matrix; the zero matrix where something is wrong. -/
def outO (xs ys : List Int) : Int × Int × List Int := if outE xs.length ys.length = 0 then (xs.length, ys.length, outerL xs ys) else (0, 0, [])
def MatRes (w : World) (x : Int × Int × List Int) (z : Int) (e : Ending) (w' : World) : Prop :=
  ∃ A cp, e = .returned (.tuple #[.agg #[.int .i64 x.1, .int .i64 x.2.1, .slice A x.2.2.length cp], .int .i64 z]) ∧ Ints .i64 w' A x.2.2.length x.2.2 ∧ Below w.heap.size w w'
theorem outE_zero {n m : Nat} (h : outE n m = 0) : (1 ≤ n ∧ n ≤ 4) ∧ (1 ≤ m ∧ m ≤ 4) := by
  unfold outE at h
  split at h
  · omega
  · split at h
    · omega
    · rename_i h2
      simp only [Bool.or_eq_true, Bool.not_eq_true', not_or, Bool.not_eq_false] at h2
      obtain ⟨a, b⟩ := h2
      rw [sideB_iff] at a b
      omega
theorem vec_Outer_any (A B : Option Addr) (n c m d : Nat) (xs ys : List Int) (w : World) (hx : Ints .i64 w A n xs) (hy : Ints .i64 w B m ys) :
    Calls Tryz.prog 175 #[.slice A n c, .slice B m d] w (MatRes w (outO xs ys) (outE n m)) := by
  by_cases he : outE n m = 0
  · obtain ⟨h1, h2⟩ := outE_zero he
    have e : outO xs ys = ((n : Int), (m : Int), outerL xs ys) := by unfold outO; rw [hx.len, hy.len, if_pos he]
    rw [he, e]
    exact (vec_Outer_ok A B n c m d xs ys w hx hy h1 h2).mono fun e w' ⟨A', cp, h, ho, hb⟩ => ⟨A', cp, h, Ints.of_own ho rfl, hb⟩
  · have e : outO xs ys = (0, 0, []) := by unfold outO; rw [hx.len, hy.len, if_neg he]
    rw [e]
    exact (vec_Outer_no A B n c m d w he).mono fun e w' ⟨h, hb⟩ => ⟨none, 0, h, Ints.nil _ _ _, hb⟩

end Go.Proofs.YtaeeonnjkplohaaGreatDoor
