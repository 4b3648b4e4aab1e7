/- What vec.Outer computes: a walk. -/
import Derived.Test.YtgodgedhddngeaaGreatDoorVecW3
import Derived.Deep.RegionLaw
set_option maxRecDepth 100000
set_option maxHeartbeats 16000000
namespace Go.Proofs.YtgodgedhddngeaaGreatDoor
open Go.RowKit Pl
def OwnMat (w : World) (r c : Int) (xs : List Int) (x : Int) (e : Ending) (w' : World) : Prop :=
 ∃ A cp, e = .returned (.tuple #[.agg #[.int .i64 r, .int .i64 c, .slice A xs.length cp], .int .i64 x]) ∧ w'.ownsRow w.heap.size 3 1 (.slice A xs.length cp) xs.length (xs.map (.int .i64)) ∧ Below w.heap.size w w'
def outF (xs ys : List Int) (m k : Nat) : Int := mulF (at0 xs (k / m)) (at0 ys (k % m))
theorem outF_at (xs ys : List Int) {m j : Nat} (hj : j < m) (i : Nat) : outF xs ys m (i * m + j) = mulF (at0 xs i) (at0 ys j) := by
 unfold outF
 rw [Nat.mul_comm i m, Nat.mul_add_div (by omega), Nat.div_eq_of_lt hj, Nat.add_zero, Nat.mul_add_mod, Nat.mod_eq_of_lt hj]
def OutI (w : World) (n m : Nat) (L : List Int) (wr : World) : Prop :=
 ∃ v, wr.ownsRow (w.heap.size + 1 + 1 + 1) 3 1 v L.length (L.map (.int .i64)) ∧ Blk wr (w.heap.size + 1 + 1) 100 #[.int .i64 n, .int .i64 m, v] ∧
  Blk wr w.heap.size 100 #[.int .i64 0, .int .i64 0, .slice none 0 0] ∧ Below w.heap.size w wr
theorem OutI.below {w wr : World} {n m : Nat} {L : List Int} (h : OutI w n m L wr) : Below w.heap.size w wr := by
 obtain ⟨_, _, _, _, hb⟩ := h
 exact hb
theorem outI_step {w w1 : World} {n m k gg cp : Nat} {xs ys : List Int} {v : Value} {x : Int} (hf : outF xs ys m k = x)
  (h : w1.ownsRow (w.heap.size + 1 + 1 + 1) 3 1 (.slice (some ⟨gg, 0, none⟩) (k + 1) cp) (k + 1) ((upto (outF xs ys m) k).map (.int .i64) ++ [.int .i64 x]))
  (hB2 : Blk w1 (w.heap.size + 1 + 1) 100 #[.int .i64 n, .int .i64 m, v]) (hB0 : Blk w1 w.heap.size 100 #[.int .i64 0, .int .i64 0, .slice none 0 0]) (hb : Below w.heap.size w w1) :
  OutI w n m (upto (outF xs ys m) (k + 1)) (w1.setCell ⟨w.heap.size + 1 + 1, 2, none⟩ (.slice (some ⟨gg, 0, none⟩) (k + 1) cp)) := by
 refine ⟨_, ?_, hB2.put 2 _, hB0.far (by simp; omega) _, hb.setCell (by simp; omega) _⟩
 rw [upto_length, upto_succ, List.map_append, hf]
 exact own_far h (by simp) _
theorem vec_Outer_ok (A B : Option Addr) (n c m d : Nat) (xs ys : List Int) (w : World) (hx : Ints .i64 w A n xs) (hy : Ints .i64 w B m ys) (hn : 1 ≤ n ∧ n ≤ 4) (hm : 1 ≤ m ∧ m ≤ 4) :
  Calls Tryz.prog 198 #[.slice A n c, .slice B m d] w (OwnMat w n m (outerL xs ys) 0) := by
 obtain ⟨i0, hi0, hz0, hz1, hz2⟩ := info_parts int_info
 have HV : Vals ((w.alloc (.cells #[.int .i64 0, .int .i64 0, .slice none 0 0] 100)).alloc (.cells #[.slice A n c, .slice B m d] 56)) (some ⟨w.heap.size + 1, 0, none⟩) 2 [.slice A n c, .slice B m d] := by
  have h := Vals.made (w.alloc (.cells #[.int .i64 0, .int .i64 0, .slice none 0 0] 100)) #[.slice A n c, .slice B m d] 56 2 [.slice A n c, .slice B m d] rfl rfl
  simpa using h
 have HA := Lib.hid ((large2 A B n c m d).trans (decide_eq_false (show ¬ (200 < n ∨ 200 < m) by omega)))
 have H2 := Lib.hid (sideB_iff (n := n).2 (by omega))
 have H3 := Lib.hid (sideB_iff (n := m).2 (by omega))
 go_enter Tryz.func198, Tryz.ntmps198
 go_wp2_with (go_at_call 177; refine (vec_large _ 2 2 [.slice A n c, .slice B m d] _ (by exact HV) (by omega) (by simp)).mono ?_; rintro e w1 ⟨rfl, k, rfl⟩; rw [HA.out])
 refine (vec_side n _).mono ?_
 rintro e w' ⟨rfl, rfl⟩
 rw [H2.out]
 go_wp2_with (go_at_call 200; refine (vec_side m _).mono ?_; rintro e w' ⟨rfl, rfl⟩; rw [H3.out])
 go_loopw [34] (fun i wr => ∃ i' : Nat, i' ≤ n ∧ i = .int .i64 i' ∧ OutI w n m (upto (outF xs ys m) (i' * m)) wr) (fun i _ => n - (intOf i).toNat)
 case atStart => exact ⟨0, Nat.zero_le _, rfl, .slice none 0 0, by rw [Nat.zero_mul]; exact World.ownsRow_nil _ _ _ _, Blk.made' _ _ _ (by simp), (((Blk.made w _ _).alloc _).drewN _).alloc _, (by repeat (first | exact Below.refl _ _ | assumption | refine bel_drewN ?_ _ | refine Below.drew ?_ | (refine Below.alloc ?_ (by simp <;> omega) _) | (refine Below.setCell ?_ (by simp <;> omega) _)))⟩
 case round =>
  obtain ⟨i, hi, rfl, hI⟩ := hrel
  by_cases hlt : i < n
  ·have hIb := hI.below
   obtain ⟨b, off, rfl, hbl, hc⟩ := hx.cells (by omega)
   have g1 := (hIb.cell (p := ⟨b, off + i, none⟩) hbl).trans (hc i hlt)
   clear hc
   have HI := Lib.hid hI
   clear hI
   go_wp2
   clear g1 hIb
   obtain ⟨wo, rfl⟩ : ∃ wo : World, wo = wr := ⟨_, rfl⟩
   go_loopw [40] (fun j wr => ∃ j' : Nat, j' ≤ m ∧ j = .int .i64 j' ∧ OutI w n m (upto (outF xs ys m) (i * m + j')) wr) (fun j _ => m - (intOf j).toNat)
   case atStart => exact ⟨0, Nat.zero_le _, rfl, HI.out⟩
   case round =>
    obtain ⟨j, hj, rfl, v, hown, hblk, hres, hb⟩ := hrel
    by_cases hl2 : j < m
    ·obtain ⟨b', off', rfl, hbl', hc'⟩ := hy.cells (by omega)
     have g2 := (hb.cell (p := ⟨b', off' + j, none⟩) hbl').trans (hc' j hl2)
     have c2 : wr.cell? ⟨w.heap.size + 1 + 1, 2, none⟩ = some v := hblk.cell 2
     have c2' : ∀ k o, ((wr.drewN k).alloc o).cell? ⟨w.heap.size + 1 + 1, 2, none⟩ = some v := fun k o => ((hblk.drewN k).alloc o).cell 2
     have hlt3 := hblk.lt
     have hne : some (w.heap.size + 1 + 1) ≠ v.ownBlock := fun h => by have := (hown.lt _ h.symm).1; omega
     have hne' : some w.heap.size ≠ v.ownBlock := fun h => by have := (hown.lt _ h.symm).1; omega
     have hK : i * m + j ≤ 100 := by
      have : i * m ≤ 4 * 4 := Nat.mul_le_mul (by omega) (by omega)
      omega
     have HF := Lib.hid (outF_at xs ys hl2 i)
     rw [upto_length] at hown
     clear hc'
     go_wp2
     go_region_law (first
      | (go_simp; go_at_call 171; refine (fix_Mul _ _ _).mono ?_; rintro e w' ⟨rfl, kk, rfl⟩)
      | (refine step_append_lies _ (by rfl) _ _ _ (by rfl) (w.heap.size + 1 + 1 + 1) 3 i0 _ 1 8 Tryz.underlying56 hi0 hz0 hz1 hz2 rfl (by omega) v (i * m + j) _ (by rfl) (by exact own_allocD hown (1 + kk) _) ⟨wr.heap.size, 0, none⟩ 1 1 [.int .i64 (mulF (at0 xs i) (at0 ys j))] (by rfl) (by rfl) (World.news_of_block (cs := #[.int .i64 (mulF (at0 xs i) (at0 ys j))]) (t := 3) (fr := (0, 0)) (heap_alloc_new _ _)) (by simp [Value.oneCell']) (by omega) (by unfold maxLen; omega) (by omega) (by simp; omega) (wr.heap.size + 1) (by simp) ?_; intro gg cp w1 hown1 hgrow hat hlt1; have hB2 : Blk w1 (w.heap.size + 1 + 1) 100 #[.int .i64 n, .int .i64 m, v] := hblk.grownD hgrow hne; have hB0 : Blk w1 w.heap.size 100 #[.int .i64 0, .int .i64 0, .slice none 0 0] := hres.grownD hgrow hne'; have hbw := bel_grownD hb (by omega) hgrow (fun x hx => (by have := (hown.lt x hx).1; omega)); have d2 : w1.cell? ⟨w.heap.size + 1 + 1, 2, none⟩ = some v := hB2.cell 2; have e2 : w1.frozen? ⟨w.heap.size + 1 + 1, 2, none⟩ = false := hB2.frozen 2; clear hgrow hat))
     all_goals
      go_wp2
      go_roundw
      case rel => exact ⟨j + 1, by omega, by go_num, outI_step HF.out hown1 hB2 hB0 hbw⟩
      case measure => simp [intOf]; omega
    ·obtain rfl : m = j := by omega
     go_wp2
     go_roundw
     case rel => exact ⟨i + 1, by omega, by go_num, by rw [Nat.succ_mul]; exact ⟨v, hown, hblk, hres, hb⟩⟩
     case measure => simp [intOf]; omega
  ·obtain rfl : n = i := by omega
   obtain ⟨v, hown, hblk, hres, hb⟩ := hI
   obtain ⟨vA, vc, rfl, _⟩ := own_ints hown
   have c0 : wr.cell? ⟨w.heap.size + 1 + 1, 0, none⟩ = some (.int .i64 n) := hblk.cell 0
   have c1 : wr.cell? ⟨w.heap.size + 1 + 1, 1, none⟩ = some (.int .i64 m) := hblk.cell 1
   have c2 : wr.cell? ⟨w.heap.size + 1 + 1, 2, none⟩ = some (.slice vA _ vc) := hblk.cell 2
   have d0 : wr.cell? ⟨w.heap.size, 0, none⟩ = some (.int .i64 0) := hres.cell 0
   have d1 : wr.cell? ⟨w.heap.size, 1, none⟩ = some (.int .i64 0) := hres.cell 1
   have d2 : wr.cell? ⟨w.heap.size, 2, none⟩ = some (.slice none 0 0) := hres.cell 2
   have e0 : wr.frozen? ⟨w.heap.size, 0, none⟩ = false := hres.frozen 0
   have e1 : wr.frozen? ⟨w.heap.size, 1, none⟩ = false := hres.frozen 1
   have e2 : wr.frozen? ⟨w.heap.size, 2, none⟩ = false := hres.frozen 2
   go_wp2
   have hw : Below w.heap.size w (((wr.setCell ⟨w.heap.size, 0, none⟩ (.int .i64 n)).setCell ⟨w.heap.size, 1, none⟩ (.int .i64 m)).setCell ⟨w.heap.size, 2, none⟩ (.slice vA (upto (outF xs ys m) (n * m)).length vc)) := ((hb.setCell (by simp) _).setCell (by simp) _).setCell (by simp) _
   have ho := own_far (own_far (own_far hown (p := ⟨w.heap.size, 0, none⟩) (by simp <;> omega) (.int .i64 n)) (p := ⟨w.heap.size, 1, none⟩) (by simp <;> omega) (.int .i64 m)) (p := ⟨w.heap.size, 2, none⟩) (by simp <;> omega) (.slice vA (upto (outF xs ys m) (n * m)).length vc)
   refine bodyPost_ret (v := .tuple #[.agg #[.int .i64 n, .int .i64 m, .slice vA (upto (outF xs ys m) (n * m)).length vc], .int .i64 0]) (by simp [results, Tryz.results198, go_sem, d0, d1, d2]) rfl ?_
   have hL : upto (outF xs ys m) (n * m) = outerL xs ys := by unfold outerL outF; rw [hx.len, hy.len]
   rw [hL] at ho hw ⊢
   exact ⟨vA, vc, rfl, own_base ho (by omega), hw⟩
def ListRes (w : World) (xs : List Int) (x : Int) (e : Ending) (w' : World) : Prop :=
 ∃ A c, e = .returned (.tuple #[.slice A xs.length c, .int .i64 x]) ∧ Ints .i64 w' A xs.length xs ∧ Below w.heap.size w w'
theorem ListRes.of_own {w w' : World} {xs : List Int} {x : Int} {e : Ending} (h : OwnRes w xs x e w') : ListRes w xs x e w' := by
 obtain ⟨A, c, he, ho, hb⟩ := h
 exact ⟨A, c, he, Ints.of_own ho rfl, hb⟩
end Go.Proofs.YtgodgedhddngeaaGreatDoor
