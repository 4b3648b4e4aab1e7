/- What draw.shuffle and the document's own Shuffle compute: walks, each function once. -/
import Derived.Test.YtgodgedhddngeaaGreatDoorDigN
import Derived.Laws.MakeOwn
import Derived.ChangeAlike
set_option maxRecDepth 100000
set_option maxHeartbeats 16000000
namespace Go.Proofs.YtgodgedhddngeaaGreatDoor
open Go.RowKit Pl
def vN (l : List Nat) : List Value := l.map fun (x : Nat) => Value.int .i64 (x : Int)
theorem vN_set (l : List Nat) (i x : Nat) : vN (l.set i x) = (vN l).set i (.int .i64 (x : Int)) := by unfold vN; rw [List.map_set]
theorem vN_at (l : List Nat) {j : Nat} (hj : j < l.length) : (vN l)[j]? = some (.int .i64 (atN l j)) := by
 unfold vN atN
 rw [List.getElem?_map, List.getElem?_eq_getElem hj]; rfl
theorem vN_snoc (l : List Nat) (x : Nat) : vN (l ++ [x]) = vN l ++ [.int .i64 (x : Int)] := by simp [vN]
def OwnN (w : World) (n : Nat) (l : List Nat) (e : Ending) (w' : World) : Prop :=
 ∃ g c, e = .returned (.slice (some ⟨g, 0, none⟩) n c) ∧ w'.ownsRow w.heap.size 3 1 (.slice (some ⟨g, 0, none⟩) n c) n (vN l) ∧ Below w.heap.size w w'
theorem word_nat (seed : Int) (v : Nat) : wordI seed (v : Int) = ((wordP seed.toNat v : Nat) : Int) := rfl
theorem range_fill (k n : Nat) (h : k < n) : (List.range k ++ List.replicate (n - k) 0).set k k = List.range (k + 1) ++ List.replicate (n - (k + 1)) 0 := by
 obtain ⟨m, rfl⟩ : ∃ m, n = k + 1 + m := ⟨n - (k + 1), by omega⟩
 rw [show k + 1 + m - k = m + 1 by omega, show k + 1 + m - (k + 1) = m by omega, List.replicate_succ, List.set_append_right _ _ (by simp)]
 simp [List.range_succ]
def ShufR (w : World) (g n c : Nat) (l : List Nat) (wr : World) : Prop :=
 wr.ownsRow w.heap.size 3 1 (.slice (some ⟨g, 0, none⟩) n c) n (vN l) ∧ Below w.heap.size w wr
theorem ShufR.swap {w wr : World} {g n c i j x y : Nat} {l : List Nat} (h : ShufR w g n c l wr) (hx : x = atN l j) (hy : y = atN l i) (k : Nat) :
  ShufR w g n c (swapN l i j) (((wr.setCell ⟨g, i, none⟩ (.int .i64 x)).setCell ⟨g, j, none⟩ (.int .i64 y)).drewN k) := by
 obtain ⟨ho, hb⟩ := h
 have hg := (ho.lt g rfl).1
 subst hx; subst hy
 have h1 := (ho.stored i (.int .i64 (atN l j))).1
 have h2 := (h1.stored j (.int .i64 (atN l i))).1
 refine ⟨?_, bel_drewN ((hb.setCell (p := ⟨g, i, none⟩) hg _).setCell (p := ⟨g, j, none⟩) hg _) k⟩
 unfold swapN
 rw [vN_set, vN_set]
 exact h2
theorem draw_shuffle (seed : Int) (epoch n : Nat) (w : World) (h0 : 0 ≤ seed) (h1 : seed < 18446744073709551616) (he : epoch ≤ 1000) (hn : 1 ≤ n) (hn' : n ≤ 16) :
  Calls Tryz.prog 169 #[.int .u64 seed, .int .i64 epoch, .int .i64 n] w (OwnN w n (shufP seed.toNat epoch n)) := by
 obtain ⟨i0, hi0, hz0, hz1, hz2⟩ := info_parts int_info
 have hmk : ∀ W : World, (Instr.makeSlice 56 (.int .i64 (n : Int)) (.int .i64 (n : Int))).run Tryz.prog W = .ok (.slice (some ⟨W.heap.size, 0, none⟩) n n) (W.alloc (.cells (madeCells #[.int .i64 0] n) 3)) := fun W => by
  have h := run_make (P := Tryz.prog) W 56 3 i0 (.int .i64 0) Tryz.underlying56 hi0 hz0 .i64 .i64 (n : Int) (n : Int) (by omega) (Int.le_refl _) (by rw [hz2]; omega) (by omega)
  rw [hz1] at h
  simpa [Value.cells] using h
 have hrow : ∀ i, i < n → ((List.range i) ++ List.replicate (n - i) 0).length = n := fun i hi => by simp; omega
 have hS0 : ShufR w w.heap.size n n (List.replicate n 0) (w.alloc (.cells (madeCells #[.int .i64 0] n) 3)) := by
  refine ⟨?_, (Below.refl _ _).alloc (Nat.le_refl _) _⟩
  have h := World.ownsRow_lit (base := w.heap.size) (e := 3) (size := 1) w (madeCells #[.int .i64 0] n) n (Nat.le_refl _) (by unfold maxLen; omega) (by rw [size_madeCells]; omega)
  rw [toList_madeCells_one] at h
  unfold vN
  rw [List.map_replicate]
  exact h
 obtain ⟨g, hg⟩ : ∃ g, g = w.heap.size := ⟨_, rfl⟩
 have HG := Lib.hid hg
 clear hi0 hz0 hz1 hz2
 go_enter Tryz.func169, Tryz.ntmps169
 go_wp2
 rw [← HG.out] at hS0 ⊢
 clear hg
 go_loopw [8, 15] (fun _ i wr => ∃ k : Nat, k ≤ n ∧ i = .int .i64 k ∧ ShufR w g n n (List.range k ++ List.replicate (n - k) 0) wr) (fun _ i _ => n - (intOf i).toNat)
 case atStart => exact ⟨0, by omega, rfl, hS0⟩
 case round =>
  clear hS0
  obtain ⟨k, hk, rfl, ho, hb⟩ := hrel
  have z0 := ho.frozenAt
  by_cases hlt : k < n
  ·have c0 := ho.cellAt k (by omega)
   rw [vN_at _ (by simp; omega)] at c0
   have z := z0 k
   have F := Lib.hid (range_fill k n hlt)
   clear z0
   go_wp2
   have ho1 := (ho.stored k (.int .i64 k)).1
   rw [← vN_set, F.out] at ho1
   have hb1 := hb.setCell (p := ⟨g, k, none⟩) (ho.lt g rfl).1 (.int .i64 k)
   go_roundw
   case rel => exact ⟨k + 1, by omega, by go_num, ho1, hb1⟩
   case measure => simp [intOf]; omega
  ·obtain rfl : n = k := by omega
   go_wp2
   obtain ⟨wa, rfl⟩ : ∃ wa : World, wa = wr := ⟨_, rfl⟩
   have HS0 : ShufR w g n n (shufN seed.toNat epoch n 0) wa := by
    refine ⟨?_, hb⟩
    rw [Nat.sub_self, List.replicate_zero, List.append_nil] at ho
    exact ho
   clear ho hb z0
   go_loopw [9] (fun i wr => ∃ k i' : Nat, i' + k + 1 = n ∧ i = .int .i64 i' ∧ ShufR w g n n (shufN seed.toNat epoch n k) wr) (fun i _ => (intOf i).toNat)
   case atStart => exact ⟨0, n - 1, by omega, by go_num, HS0⟩
   case round =>
    clear HS0
    obtain ⟨k, i, hik, rfl, hS⟩ := hrel
    by_cases hpos : 0 < i
    ·have l1 : i + k + 1 ≤ n := by omega
     have l2 : n ≤ i + k + 1 := by omega
     have HF := Lib.hid (show shufN seed.toNat epoch n (k + 1) = swapN (shufN seed.toNat epoch n k) i (wordP seed.toNat (64 * epoch + i) % (i + 1)) by
      show swapN _ (n - 1 - k) (wordP _ (64 * epoch + (n - 1 - k)) % (n - 1 - k + 1)) = _
      rw [show n - 1 - k = i by omega])
     have hlen : (shufN seed.toNat epoch n k).length = n := shufN_length _ _ _ _
     have HL := Lib.hid hlen
     have HW := Lib.hid (fun W => dig_Word seed (64 * (epoch : Int) + (i : Int)) W h0 h1 (by omega) (by omega))
     have ew : 64 * (epoch : Int) + (i : Int) = ((64 * epoch + i : Nat) : Int) := by omega
     have EW := Lib.hid ew
     clear hik hlen ew
     go_wp2_with fail
     refine (HW.out _).mono ?_
     rintro e w2 ⟨rfl, hb2⟩
     rw [EW.out, word_nat]
     obtain ⟨v, hv⟩ : ∃ v, v = wordP seed.toNat (64 * epoch + i) := ⟨_, rfl⟩
     rw [← hv] at HF ⊢
     have hvl : v < 2305843009213693951 := by
      rw [hv]
      exact ofP_lt _ _
     obtain ⟨j, hj⟩ : ∃ j, j = v % (i + 1) := ⟨_, rfl⟩
     have hji : j ≤ i := by rw [hj]; have := Nat.mod_lt v (show 0 < i + 1 by omega); omega
     have r1 : (v : Int) % ((i : Int) + 1) = (j : Int) := by rw [hj]; norm_cast
     have r2 : (v : Int).tmod ((i : Int) + 1) = (j : Int) := by rw [Int.tmod_eq_emod_of_nonneg (by omega)]; exact r1
     rw [← hj] at HF
     clear hj hv
     have hS2 : ShufR w g n n (shufN seed.toNat epoch n k) w2 := ⟨own_below hS.1 hb2, hS.2.trans (hb2.mono hS.2.size)⟩
     obtain ⟨l, hl⟩ : ∃ l, l = shufN seed.toNat epoch n k := ⟨_, rfl⟩
     rw [← hl] at hS2 HF HL
     clear hl hS hb2
     have c1 := hS2.1.cellAt i (by omega)
     rw [vN_at _ (by rw [HL.out]; omega)] at c1
     have c2 := hS2.1.cellAt j (by omega)
     rw [vN_at _ (by rw [HL.out]; omega)] at c2
     have z1 := hS2.1.frozenAt i
     have z2 := hS2.1.frozenAt j
     have hT := fun q => hS2.swap (i := i) (j := j) rfl rfl q
     rw [← HF.out] at hT
     have HT := Lib.hid hT
     have l3 : (j : Int) < (n : Int) := by omega
     have l4 : (i : Int) < (n : Int) := by omega
     clear hT hS2
     by_cases hij : i = j
     ·subst hij
      clear c2 z2
      go_wp2
      go_region
      all_goals
       go_wp2
       go_roundw
       case rel => exact ⟨k + 1, i - 1, by omega, by go_num, HT.out 1⟩
       case measure => simp [intOf]; omega
     ·go_wp2
      go_region
      all_goals
       go_wp2
       go_roundw
       case rel => exact ⟨k + 1, i - 1, by omega, by go_num, HT.out 1⟩
       case measure => simp [intOf]; omega
    ·obtain rfl : i = 0 := by omega
     obtain rfl : k = n - 1 := by omega
     clear hik
     go_wp2
     go_ret
     exact ⟨g, n, rfl, hS.1, hS.2⟩
theorem ref_Shuffle (seed : Int) (epoch n : Nat) (w : World) (h0 : 0 ≤ seed) (h1 : seed < 18446744073709551616) (he : epoch ≤ 1000) (hn : 1 ≤ n) (hn' : n ≤ 16) :
  Calls Tryz.prog 189 #[.int .u64 seed, .int .i64 epoch, .int .i64 n] w (OwnN w n (shufP seed.toNat epoch n)) := by
 obtain ⟨i0, hi0, hz0, hz1, hz2⟩ := info_parts int_info
 go_enter Tryz.func189, Tryz.ntmps189
 go_wp2
 go_loopw [7, 8] (fun o i wr => ∃ k : Nat, k ≤ n ∧ i = .int .i64 k ∧ wr.ownsRow w.heap.size 3 1 o k (vN (List.range k)) ∧ Below w.heap.size w wr) (fun _ i _ => n - (intOf i).toNat)
 case atStart => exact ⟨0, by omega, rfl, World.ownsRow_nil _ _ _ _, Below.refl _ _⟩
 case round =>
  obtain ⟨k, hk, rfl, hown, hb⟩ := hrel
  have hbs := hb.size
  by_cases hlt : k < n
  ·have F := Lib.hid (show vN (List.range (k + 1)) = vN (List.range k) ++ [.int .i64 (k : Int)] by rw [List.range_succ, vN_snoc])
   go_wp2_with (at_builtin; refine wpList_append_own _ rfl _ _ 56 rfl w.heap.size 3 i0 (.int .i64 0) 1 8 Tryz.underlying56 hi0 hz0 hz1 hz2 rfl (by decide) u7 k _ rfl (hown.alloc _) ⟨wr.heap.size, 0, none⟩ 1 1 [.int .i64 (k : Int)] rfl rfl (cell_one_new _ _ _) (by simp [Value.oneCell']) (by unfold maxLen; omega) (by omega) (by simp; omega) ?_; intro v1 w1 hown1 hgrow _)
   have hb2 : Below w.heap.size w w1 := Below.grown (hb.alloc hbs _) hgrow (by simp; omega) (fun x hx => (hown.lt x hx).1)
   rw [← F.out] at hown1
   clear hgrow
   go_roundw
   case rel => exact ⟨k + 1, by omega, by go_num, hown1, hb2⟩
   case measure => simp [intOf]; omega
  ·obtain rfl : n = k := by omega
   obtain ⟨g, c, rfl, hg1, hg2⟩ := hown.form (by omega)
   have HS0 : ShufR w g n c (shufN seed.toNat epoch n 0) wr := ⟨hown, hb⟩
   clear hown hb hbs hi0 hz0 hz1 hz2
   go_wp2
   obtain ⟨wa, rfl⟩ : ∃ wa : World, wa = wr := ⟨_, rfl⟩
   go_loopw [9] (fun i wr => ∃ k i' : Nat, i' + k + 1 = n ∧ i = .int .i64 i' ∧ ShufR w g n c (shufN seed.toNat epoch n k) wr) (fun i _ => (intOf i).toNat)
   case atStart => exact ⟨0, n - 1, by omega, by go_num, HS0⟩
   case round =>
    clear HS0
    obtain ⟨k, i, hik, rfl, hS⟩ := hrel
    by_cases hpos : 1 ≤ i
    ·have l1 : i + k + 1 ≤ n := by omega
     have l2 : n ≤ i + k + 1 := by omega
     have HF := Lib.hid (show shufN seed.toNat epoch n (k + 1) = swapN (shufN seed.toNat epoch n k) i (wordP seed.toNat (64 * epoch + i) % (i + 1)) by
      show swapN _ (n - 1 - k) (wordP _ (64 * epoch + (n - 1 - k)) % (n - 1 - k + 1)) = _
      rw [show n - 1 - k = i by omega])
     have hlen : (shufN seed.toNat epoch n k).length = n := shufN_length _ _ _ _
     have HL := Lib.hid hlen
     have HW := Lib.hid (fun W => ref_WordD seed ((epoch : Int) * 64 + (i : Int)) W h0 h1 (by omega) (by omega))
     have ew : (epoch : Int) * 64 + (i : Int) = ((64 * epoch + i : Nat) : Int) := by omega
     have EW := Lib.hid ew
     clear hik hlen ew
     go_wp2_with fail
     refine (HW.out _).mono ?_
     rintro e w2 ⟨rfl, hb2⟩
     rw [EW.out, word_nat]
     obtain ⟨v, hv⟩ : ∃ v, v = wordP seed.toNat (64 * epoch + i) := ⟨_, rfl⟩
     rw [← hv] at HF ⊢
     have hvl : v < 2305843009213693951 := by
      rw [hv]
      exact ofP_lt _ _
     obtain ⟨j, hj⟩ : ∃ j, j = v % (i + 1) := ⟨_, rfl⟩
     have hji : j ≤ i := by rw [hj]; have := Nat.mod_lt v (show 0 < i + 1 by omega); omega
     have r1 : (v : Int) % ((i : Int) + 1) = (j : Int) := by rw [hj]; norm_cast
     have r2 : (v : Int).tmod ((i : Int) + 1) = (j : Int) := by rw [Int.tmod_eq_emod_of_nonneg (by omega)]; exact r1
     rw [← hj] at HF
     clear hj hv
     have hS2 : ShufR w g n c (shufN seed.toNat epoch n k) w2 := ⟨own_below hS.1 hb2, hS.2.trans (hb2.mono hS.2.size)⟩
     obtain ⟨l, hl⟩ : ∃ l, l = shufN seed.toNat epoch n k := ⟨_, rfl⟩
     rw [← hl] at hS2 HF HL
     clear hl hS hb2
     have c1 := hS2.1.cellAt i (by omega)
     rw [vN_at _ (by rw [HL.out]; omega)] at c1
     have c2 := hS2.1.cellAt j (by omega)
     rw [vN_at _ (by rw [HL.out]; omega)] at c2
     have z1 := hS2.1.frozenAt i
     have z2 := hS2.1.frozenAt j
     have hT := hS2.swap (i := i) (j := j) rfl rfl 0
     rw [← HF.out] at hT
     have HT := Lib.hid hT
     have l3 : (j : Int) < (n : Int) := by omega
     have l4 : (i : Int) < (n : Int) := by omega
     clear hT hS2
     by_cases hij : i = j
     ·subst hij
      clear c2 z2
      go_wp2
      go_roundw
      case rel => exact ⟨k + 1, i - 1, by omega, by go_num, HT.out⟩
      case measure => simp [intOf]; omega
     ·go_wp2
      go_roundw
      case rel => exact ⟨k + 1, i - 1, by omega, by go_num, HT.out⟩
      case measure => simp [intOf]; omega
    ·obtain rfl : i = 0 := by omega
     obtain rfl : k = n - 1 := by omega
     clear hik
     go_wp2
     go_ret
     exact ⟨g, c, rfl, hS.1, hS.2⟩
def OwnNT (w : World) (n : Nat) (l : List Nat) (x : Int) (e : Ending) (w' : World) : Prop :=
 ∃ A c, e = .returned (.tuple #[.slice A n c, .int .i64 x]) ∧ w'.ownsRow w.heap.size 3 1 (.slice A n c) n (vN l) ∧ Below w.heap.size w w'
def batK (seed size n step k : Nat) : List Nat := (List.range k).map fun k => comesP seed n (step * size + k)
theorem batK_succ (seed size n step k : Nat) : batK seed size n step (k + 1) = batK seed size n step k ++ [comesP seed n (step * size + k)] := by simp [batK, List.range_succ]
theorem own_slice {w : World} {base : Nat} {e : TypeId} {v : Value} {n : Nat} {xs : List Value} (h : w.ownsRow base e 1 v n xs) : ∃ A c, v = .slice A n c := by
 rcases h.2 with ⟨rfl, rfl⟩ | ⟨g, cap, cur, rfl, _⟩
 ·exact ⟨none, 0, rfl⟩
 ·exact ⟨_, cap, rfl⟩
theorem draw_Batch_ok (seed : Int) (size n step : Nat) (w : World) (h0 : 0 ≤ seed) (h1 : seed < 18446744073709551616) (hs : 1 ≤ size) (hs' : size ≤ 8) (hn : 1 ≤ n) (hn' : n ≤ 16) (ht : step ≤ 39) :
  Calls Tryz.prog 126 #[.int .u64 seed, .int .i64 size, .int .i64 n, .int .i64 step] w (OwnNT w size (batchP seed.toNat size n step) 0) := by
 obtain ⟨i0, hi0, hz0, hz1, hz2⟩ := info_parts int_info
 obtain ⟨p, hp⟩ : ∃ p, p = step * size := ⟨_, rfl⟩
 have hp312 : p ≤ 312 := by rw [hp]; exact Nat.mul_le_mul ht hs'
 have e1 : (step : Int) * (size : Int) = (p : Int) := by rw [hp]; simp
 have e2 : ((step : Int) + 1) * (size : Int) = (p : Int) + (size : Int) := by rw [Int.add_mul, e1, Int.one_mul]
 have HP := Lib.hid hp
 clear hp
 go_enter Tryz.func126, Tryz.ntmps126
 go_wp2
 go_loopw [10, 11] (fun o i wr => ∃ k : Nat, k ≤ size ∧ i = .int .i64 ((p : Int) + (k : Int)) ∧ wr.ownsRow w.heap.size 3 1 o k (vN (batK seed.toNat size n step k)) ∧ Below w.heap.size w wr) (fun _ i _ => p + size - (intOf i).toNat)
 case atStart => exact ⟨0, by omega, by go_num, World.ownsRow_nil _ _ _ _, Below.refl _ _⟩
 case round =>
  obtain ⟨k, hk, rfl, hown, hb⟩ := hrel
  have hbs := hb.size
  by_cases hlt : k < size
  ·obtain ⟨t, ht⟩ : ∃ t, t = p + k := ⟨_, rfl⟩
   have et : (p : Int) + (k : Int) = (t : Int) := by rw [ht]; simp
   obtain ⟨a, ha⟩ : ∃ a, a = t / n := ⟨_, rfl⟩
   obtain ⟨b, hb'⟩ : ∃ b, b = t % n := ⟨_, rfl⟩
   have F := Lib.hid (show vN (batK seed.toNat size n step (k + 1)) = vN (batK seed.toNat size n step k) ++ [.int .i64 (atN (shufP seed.toNat a n) b : Nat)] by
    rw [batK_succ, vN_snoc, ← HP.out, ← ht, ha, hb']; rfl)
   have r1 : (t : Int).tdiv (n : Int) = (a : Int) := by rw [ha]; rfl
   have r2 : (t : Int).tmod (n : Int) = (b : Int) := by rw [hb']; rfl
   have r3 : (t : Int) / (n : Int) = (a : Int) := by rw [ha]; rfl
   have r4 : (t : Int) % (n : Int) = (b : Int) := by rw [hb']; rfl
   have hbn : b < n := by rw [hb']; exact Nat.mod_lt _ hn
   have hat : a ≤ t := by rw [ha]; exact Nat.div_le_self _ _
   have ha1000 : a ≤ 1000 := by omega
   have zb : (0 : Int) ≤ (b : Int) := Int.natCast_nonneg _
   have zb' : (b : Int) < (n : Int) := by omega
   have zn : ¬ n = 0 := by omega
   have hw1 := IntWalk.i64_in (a : Int) (by omega)
   have hw2 := IntWalk.i64_in (b : Int) (by omega)
   have HSH := Lib.hid (fun W => draw_shuffle seed a n W h0 h1 ha1000 hn hn')
   have tl : (t : Int) < (p : Int) + (size : Int) := by omega
   have HT := Lib.hid ht
   rw [et]
   clear ha hb' ht
   go_wp2
   go_region_law (first
    | (go_simp; go_at_call 169; refine (HSH.out _).mono ?_; rintro e w2 ⟨g, c, rfl, ho2, hb2⟩; have hc2 := ho2.cellAt b (by omega); rw [vN_at _ (by rw [shufP_length]; exact hbn)] at hc2; have hown2 := own_below (own_drew hown) hb2; have hb3 := hb.drew.trans (hb2.mono (show w.heap.size ≤ wr.drew.heap.size from hbs)); have hs3 := hb3.size)
    | (refine step_append_lies _ (by rfl) _ _ _ (by rfl) w.heap.size 3 i0 _ 1 8 Tryz.underlying56 hi0 hz0 hz1 hz2 rfl (by omega) u10 k _ (by rfl) (by exact hown2.alloc _) ⟨w2.heap.size, 0, none⟩ 1 1 [.int .i64 (atN (shufP seed.toNat a n) b : Nat)] (by rfl) (by rfl) (World.news_of_block (cs := #[.int .i64 (atN (shufP seed.toNat a n) b : Nat)]) (t := 3) (fr := (0, 0)) (heap_alloc_new _ _)) (by simp [Value.oneCell']) (by omega) (by unfold maxLen; omega) (by omega) (by simp; omega) (w2.heap.size + 1) (by simp) ?_; intro gg cp w3 hown3 hgrow hat hlt3))
   all_goals
    have hb4 : Below w.heap.size w w3 := Below.grown (hb3.alloc hs3 _) hgrow (by simp; omega) (fun x hx => (hown.lt x hx).1)
    rw [← F.out] at hown3
    clear hgrow hw1 hw2 hat
    go_wp2
    go_roundw
    case rel => exact ⟨k + 1, by omega, by have := HT.out; go_num, hown3, hb4⟩
    case measure => have := HT.out; simp [intOf]; omega
  ·obtain rfl : size = k := by omega
   obtain ⟨A, c, rfl⟩ := own_slice hown
   go_wp2
   go_ret2
   exact ⟨A, c, rfl, hown, hb⟩
end Go.Proofs.YtgodgedhddngeaaGreatDoor
