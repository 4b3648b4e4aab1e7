/- Trees of leaves: where they are cut, what is made of leaves: walks, each function once. -/
import Derived.Test.YtgodgedhddngeaaGreatDoorTreeL
set_option maxRecDepth 100000
set_option maxHeartbeats 16000000
namespace Go.Proofs.YtgodgedhddngeaaGreatDoor
open Go.RowKit Pl
def IsP2 (p : Nat) : Prop := ∃ j, p = 2 ^ j
theorem IsP2.one : IsP2 1 := ⟨0, rfl⟩
theorem IsP2.dbl {p : Nat} (h : IsP2 p) : IsP2 (p * 2) := by
 obtain ⟨j, rfl⟩ := h
 exact ⟨j + 1, (Nat.pow_succ ..).symm⟩
theorem IsP2.half {p n : Nat} (h : IsP2 p) (h1 : p < n) (h2 : n ≤ 2 * p) : half n = p := by
 obtain ⟨j, rfl⟩ := h
 exact half_eq h1 h2
theorem tree_half (n : Nat) (w : World) (h1 : 2 ≤ n) (h2 : n ≤ 1000000) :
  Calls Tryz.prog 191 #[.int .i64 n] w fun e w' => e = .returned (.int .i64 ((half n : Nat) : Int)) ∧ w = w' := by
 go_enter Tryz.func191, Tryz.ntmps191
 go_wp2
 go_loop [3] (fun k => ∃ p : Nat, 1 ≤ p ∧ p < n ∧ IsP2 p ∧ k = .int .i64 p) (fun k => n - (intOf k).toNat)
 case atStart => exact ⟨1, by omega, by omega, .one, rfl⟩
 case round =>
  obtain ⟨p, hp1, hp2, hp, rfl⟩ := hrel
  by_cases hlt : 2 * p < n
  ·go_wp2
   go_round
   case rel => exact ⟨p * 2, by omega, by omega, hp.dbl, by go_num⟩
   case measure => simp [intOf]; omega
  ·go_wp2
   go_ret
   exact ⟨ret_int (by rw [hp.half hp2 (by omega)]), rfl⟩
theorem ref_cut (n : Nat) (w : World) (h1 : 2 ≤ n) (h2 : n ≤ 1000000) :
  Calls Tryz.prog 207 #[.int .i64 n] w fun e w' => e = .returned (.int .i64 ((half n : Nat) : Int)) ∧ w = w' := by
 go_enter Tryz.func207, Tryz.ntmps207
 go_wp2
 go_loop [3] (fun k => ∃ p : Nat, 1 ≤ p ∧ p < n ∧ IsP2 p ∧ k = .int .i64 p) (fun k => n - (intOf k).toNat)
 case atStart => exact ⟨1, by omega, by omega, .one, rfl⟩
 case round =>
  obtain ⟨p, hp1, hp2, hp, rfl⟩ := hrel
  by_cases hlt : 2 * p < n
  ·go_wp2
   go_round
   case rel => exact ⟨p * 2, by omega, by omega, hp.dbl, by rw [Int.natCast_mul]; congr 1; omega⟩
   case measure => simp [intOf]; omega
  ·go_wp2
   go_ret
   exact ⟨ret_int (by rw [hp.half hp2 (by omega)]), rfl⟩
theorem tree_tree (f : Nat) : ∀ (A : Option Addr) (n c : Nat) (xs : List Int) (w : World), n ≤ f → 1 ≤ n → n ≤ c → n ≤ 1000 → Ints .u64 w A n xs → U64 xs →
  Calls Tryz.prog 163 #[.slice A n c] w fun e w' => e = .returned (.int .u64 (treeI xs)) ∧ Below w.heap.size w w' := by
 induction f with
 | zero => intro A n c xs w h1 h2; omega
 | succ f ih =>
  intro A n c xs w hf h1 hc hn hx hu
  obtain ⟨b, off, rfl, hb, hcl⟩ := hx.cells (by omega)
  have hl := hx.len
  by_cases h2 : n = 1
  ·subst h2
   have g := hcl 0 (by omega)
   have E := Lib.hid (treeI_one hl)
   rw [Nat.add_zero] at g
   clear hcl hl
   go_enter Tryz.func163, Tryz.ntmps163
   go_wp2_with fail
   go_ret
   exact ⟨ret_int E.out.symm, Below.refl _ _⟩
  ·have a1 := half_lt (n := n) (by omega)
   have a2 := half_pos n
   have HH := Lib.hid (fun W => tree_half n W (by omega) (by omega))
   have E := Lib.hid (treeI_more (l := xs) (by omega))
   rw [hl] at E
   obtain ⟨k, hk⟩ : ∃ k, k = half n := ⟨_, rfl⟩
   rw [← hk] at HH E a1 a2
   have k0 : (0 : Int) ≤ (k : Int) := by omega
   have k1 : (k : Int) ≤ (n : Int) := by omega
   have k2 : (k : Int) ≤ (c : Int) := by omega
   have k3 : ¬ c = k := by omega
   have k4 : ¬ (c : Int) = (k : Int) := by omega
   have T1 := Lib.hid (fun W (q : Ints .u64 W (some ⟨b, off, none⟩) n xs) => ih (some ⟨b, off, none⟩) k c (xs.take k) W (by omega) (by omega) (by omega) (by omega) (by
    have := q.cut (i := 0) (m := k) (by omega) (A' := some ⟨b, off, none⟩) (fun _ b' o' e => by injection e with e; injection e with e1 e2; subst e1; subst e2; rfl)
    rwa [List.drop_zero] at this) (hu.take _))
   have T2 := Lib.hid (fun W (q : Ints .u64 W (some ⟨b, off, none⟩) n xs) => ih (some ⟨b, off + k, none⟩) (n - k) (c - k) (xs.drop k) W (by omega) (by omega) (by omega) (by omega) (by
    have := q.cut (i := k) (m := n - k) (by omega) (A' := some ⟨b, off + k, none⟩) (fun _ b' o' e => by injection e with e; injection e with e1 e2; subst e1; subst e2; rfl)
    rwa [List.take_of_length_le (by rw [List.length_drop, q.len]; exact Nat.le_refl _)] at this) (hu.drop _))
   have b1 := treeI_u64 (hu.take k) (by rw [List.length_take]; omega)
   have b2 := treeI_u64 (hu.drop k) (by rw [List.length_drop]; omega)
   obtain ⟨p, hp⟩ : ∃ p, p = treeI (xs.take k) := ⟨_, rfl⟩
   obtain ⟨q, hq⟩ : ∃ q, q = treeI (xs.drop k) := ⟨_, rfl⟩
   rw [← hp] at T1 b1 E
   rw [← hq] at T2 b2 E
   clear hp hq hk hl hcl ih
   go_enter Tryz.func163, Tryz.ntmps163
   go_wp2_with (go_at_call 191; refine (HH.out _).mono ?_; rintro e w' ⟨rfl, rfl⟩)
   go_region_held3 (fun _ => True) (trivial) (first
    | (go_at_call 163; (with_reducible refine (T1.out _ (hx.drew)).mono ?_); rintro e u1 ⟨rfl, hb1⟩)
    | (go_at_call 163; (with_reducible refine (T2.out _ ((hx.drew).below hb1)).mono ?_); rintro e u2 ⟨rfl, hb2⟩)
    | (go_at_call 162; refine (dig_Pair p q _ b1.1 b1.2 b2.1 b2.2).mono ?_; rintro e u3 ⟨rfl, hb3⟩))
   go_wp2
   go_ret
   exact ⟨ret_int E.out.symm, bel_trans (bel_trans (bel_trans ((Below.refl _ _).drew) hb1) hb2) hb3⟩
theorem ref_Tree (f : Nat) : ∀ (A : Option Addr) (n c : Nat) (xs : List Int) (w : World), n ≤ f → 1 ≤ n → n ≤ c → n ≤ 1000 → Ints .u64 w A n xs → U64 xs →
  Calls Tryz.prog 185 #[.slice A n c] w fun e w' => e = .returned (.int .u64 (treeI xs)) ∧ Below w.heap.size w w' := by
 induction f with
 | zero => intro A n c xs w h1 h2; omega
 | succ f ih =>
  intro A n c xs w hf h1 hc hn hx hu
  obtain ⟨b, off, rfl, hb, hcl⟩ := hx.cells (by omega)
  have hl := hx.len
  by_cases h2 : n = 1
  ·subst h2
   have g := hcl 0 (by omega)
   have E := Lib.hid (treeI_one hl)
   rw [Nat.add_zero] at g
   clear hcl hl
   go_enter Tryz.func185, Tryz.ntmps185
   go_wp2_with fail
   go_ret
   exact ⟨ret_int E.out.symm, Below.refl _ _⟩
  ·have a1 := half_lt (n := n) (by omega)
   have a2 := half_pos n
   have HH := Lib.hid (fun W => ref_cut n W (by omega) (by omega))
   have E := Lib.hid (treeI_more (l := xs) (by omega))
   rw [hl] at E
   obtain ⟨k, hk⟩ : ∃ k, k = half n := ⟨_, rfl⟩
   rw [← hk] at HH E a1 a2
   have k0 : (0 : Int) ≤ (k : Int) := by omega
   have k1 : (k : Int) ≤ (n : Int) := by omega
   have k2 : (k : Int) ≤ (c : Int) := by omega
   have k3 : ¬ c = k := by omega
   have k4 : ¬ (c : Int) = (k : Int) := by omega
   have T1 := Lib.hid (fun W (q : Ints .u64 W (some ⟨b, off, none⟩) n xs) => ih (some ⟨b, off, none⟩) k c (xs.take k) W (by omega) (by omega) (by omega) (by omega) (by
    have := q.cut (i := 0) (m := k) (by omega) (A' := some ⟨b, off, none⟩) (fun _ b' o' e => by injection e with e; injection e with e1 e2; subst e1; subst e2; rfl)
    rwa [List.drop_zero] at this) (hu.take _))
   have T2 := Lib.hid (fun W (q : Ints .u64 W (some ⟨b, off, none⟩) n xs) => ih (some ⟨b, off + k, none⟩) (n - k) (c - k) (xs.drop k) W (by omega) (by omega) (by omega) (by omega) (by
    have := q.cut (i := k) (m := n - k) (by omega) (A' := some ⟨b, off + k, none⟩) (fun _ b' o' e => by injection e with e; injection e with e1 e2; subst e1; subst e2; rfl)
    rwa [List.take_of_length_le (by rw [List.length_drop, q.len]; exact Nat.le_refl _)] at this) (hu.drop _))
   have b1 := treeI_u64 (hu.take k) (by rw [List.length_take]; omega)
   have b2 := treeI_u64 (hu.drop k) (by rw [List.length_drop]; omega)
   obtain ⟨p, hp⟩ : ∃ p, p = treeI (xs.take k) := ⟨_, rfl⟩
   obtain ⟨q, hq⟩ : ∃ q, q = treeI (xs.drop k) := ⟨_, rfl⟩
   rw [← hp] at T1 b1 E
   rw [← hq] at T2 b2 E
   clear hp hq hk hl hcl ih
   go_enter Tryz.func185, Tryz.ntmps185
   go_wp2_with (go_at_call 207; refine (HH.out _).mono ?_; rintro e w' ⟨rfl, rfl⟩)
   refine (T1.out _ hx).mono ?_
   rintro e u1 ⟨rfl, hb1⟩
   go_wp2_with (go_at_call 207; refine (HH.out _).mono ?_; rintro e w' ⟨rfl, rfl⟩)
   refine (T2.out _ (hx.below hb1)).mono ?_
   rintro e u2 ⟨rfl, hb2⟩
   go_wp2_with fail
   refine (ref_PairD p q _ b1.1 b1.2 b2.1 b2.2).mono ?_
   rintro e u3 ⟨rfl, hb3⟩
   go_wp2
   go_ret
   exact ⟨ret_int E.out.symm, bel_trans (bel_trans hb1 hb2) hb3⟩
theorem own_capT {w : World} {base : Nat} {e : TypeId} {size : Nat} {A : Option Addr} {n c : Nat} {xs : List Value} (h : w.ownsRow base e size (.slice A n c) n xs) : n ≤ c := by
 rcases h.2 with ⟨e, rfl⟩ | ⟨g, cap, cur, e, _, _, hc, _⟩
 ·exact Nat.zero_le _
 ·injection e with _ _ e3
  omega
theorem ref_Leaves (A : Option Addr) (n c : Nat) (xs : List Int) (w : World) (hx : Ints .i64 w A n xs) (hn : n ≤ 200) (hc : n ≤ c) :
  Calls Tryz.prog 186 #[.slice A n c] w (OwnU1 w (leavesI xs)) := by
 obtain ⟨i0, hi0, hz0, hz1, hz2⟩ := info_parts u64_info
 have HL := Lib.hid hx.len
 go_enter Tryz.func186, Tryz.ntmps186
 go_wp2
 go_loopw [3, 4] (fun o i wr => ∃ k s : Nat, s = 4 * k ∧ s < n + 4 ∧ i = .int .i64 s ∧ wr.ownsRow w.heap.size 27 1 o k ((upto (leafI xs) k).map (.int .u64)) ∧ Below w.heap.size w wr) (fun _ i _ => n - (intOf i).toNat)
 case atStart => exact ⟨0, 0, rfl, by omega, rfl, World.ownsRow_nil _ _ _ _, Below.refl _ _⟩
 case round =>
  obtain ⟨k, s, hs, hk, rfl, hown, hb⟩ := hrel
  have hk' : k ≤ 1000 := by omega
  have HS := Lib.hid hs
  clear hs
  by_cases hlt : s < n
  ·obtain ⟨b, off, rfl, hbl, _⟩ := hx.cells (by omega)
   have hbs := hb.size
   have F := Lib.hid (show upto (leafI xs) (k + 1) = upto (leafI xs) k ++ [leafI xs k] from upto_succ _ _)
   have k0 : (0 : Int) ≤ (s : Int) := by omega
   have k3 : ¬ c = s := by omega
   have k4 : ¬ (c : Int) = (s : Int) := by omega
   have k5 : (n : Int) ≤ (c : Int) := by omega
   have HX := hx.below hb
   by_cases h4 : s + 4 ≤ n
   ·have k6 : (s : Int) + 4 ≤ (n : Int) := by omega
    have hp : Ints .i64 wr (some ⟨b, off + s, none⟩) 4 ((xs.drop s).take 4) := HX.cut (i := s) (m := 4) h4 (fun _ b' o' e => by injection e with e; injection e with e1 e2; subst e1; subst e2; rfl)
    have E := Lib.hid (show leafI xs k = ofI 4 (numL ((xs.drop s).take 4)) by unfold leafI; rw [HS.out])
    obtain ⟨ps, hps⟩ : ∃ ps, ps = (xs.drop s).take 4 := ⟨_, rfl⟩
    rw [← hps] at hp E
    have HN := Lib.hid (ref_Numbers (some ⟨b, off + s, none⟩) 4 (c - s) ps wr hp (by omega))
    have QL := Lib.hid ((numL_length ps).trans hp.len)
    clear hp hps HX
    go_wp2_with fail
    refine HN.out.mono ?_
    rintro e w1 ⟨S, sc, rfl, hn1, hb1⟩
    have hI := Ints.of_own hn1 rfl
    have HO := Lib.hid (ref_Of 4 S _ sc (numL ps) w1 (by omega) (by omega) hI (numL_u64 _) (by rw [QL.out]; omega))
    have hown1 := own_below hown hb1
    clear hn1 hI hown HN
    go_wp2_with fail
    refine HO.out.mono ?_
    rintro e w2 ⟨rfl, hb2⟩
    have hown2 := own_below hown1 hb2
    have hbb := hb.trans ((bel_trans hb1 hb2).mono hbs)
    have hbs2 := hbb.size
    clear hown1 hb1 hb2 HO
    rw [← E.out]
    go_wp2_with (at_builtin; refine wpList_append_own _ rfl _ _ 146 rfl w.heap.size 27 i0 (.int .u64 0) 1 8 Tryz.underlying146 hi0 hz0 hz1 hz2 rfl (by decide) u3 k _ rfl (hown2.alloc _) ⟨w2.heap.size, 0, none⟩ 1 1 [.int .u64 (leafI xs k)] rfl rfl (cell_one_new _ _ _) (by simp [Value.oneCell']) (by unfold maxLen; omega) (by omega) (by simp; omega) ?_; intro v1 w3 hown3 hgrow _)
    have hb3 : Below w.heap.size w w3 := Below.grown (hbb.alloc hbs2 _) hgrow (by simp; omega) (fun x hx => (hown2.lt x hx).1)
    rw [← List.map_singleton, ← List.map_append, ← F.out] at hown3
    clear hgrow
    go_roundw
    case rel => exact ⟨k + 1, s + 4, by rw [HS.out]; omega, by omega, by go_num, hown3, hb3⟩
    case measure => simp [intOf]; omega
   ·have k6 : (n : Int) < (s : Int) + 4 := by omega
    have k7 : (s : Int) ≤ (n : Int) := by omega
    have hp : Ints .i64 wr (some ⟨b, off + s, none⟩) (n - s) ((xs.drop s).take (n - s)) := HX.cut (i := s) (m := n - s) (by omega) (fun _ b' o' e => by injection e with e; injection e with e1 e2; subst e1; subst e2; rfl)
    have E := Lib.hid (show leafI xs k = ofI 4 (numL ((xs.drop s).take (n - s))) by
     unfold leafI
     rw [← HS.out, ← piece_take HL.out, show min 4 (n - s) = n - s by omega])
    obtain ⟨ps, hps⟩ : ∃ ps, ps = (xs.drop s).take (n - s) := ⟨_, rfl⟩
    rw [← hps] at hp E
    have HN := Lib.hid (ref_Numbers (some ⟨b, off + s, none⟩) (n - s) (c - s) ps wr hp (by omega))
    have QL := Lib.hid ((numL_length ps).trans hp.len)
    clear hp hps HX
    go_wp2_with fail
    refine HN.out.mono ?_
    rintro e w1 ⟨S, sc, rfl, hn1, hb1⟩
    have hI := Ints.of_own hn1 rfl
    have HO := Lib.hid (ref_Of 4 S _ sc (numL ps) w1 (by omega) (by omega) hI (numL_u64 _) (by rw [QL.out]; omega))
    have hown1 := own_below hown hb1
    clear hn1 hI hown HN
    go_wp2_with fail
    refine HO.out.mono ?_
    rintro e w2 ⟨rfl, hb2⟩
    have hown2 := own_below hown1 hb2
    have hbb := hb.trans ((bel_trans hb1 hb2).mono hbs)
    have hbs2 := hbb.size
    clear hown1 hb1 hb2 HO
    rw [← E.out]
    go_wp2_with (at_builtin; refine wpList_append_own _ rfl _ _ 146 rfl w.heap.size 27 i0 (.int .u64 0) 1 8 Tryz.underlying146 hi0 hz0 hz1 hz2 rfl (by decide) u3 k _ rfl (hown2.alloc _) ⟨w2.heap.size, 0, none⟩ 1 1 [.int .u64 (leafI xs k)] rfl rfl (cell_one_new _ _ _) (by simp [Value.oneCell']) (by unfold maxLen; omega) (by omega) (by simp; omega) ?_; intro v1 w3 hown3 hgrow _)
    have hb3 : Below w.heap.size w w3 := Below.grown (hbb.alloc hbs2 _) hgrow (by simp; omega) (fun x hx => (hown2.lt x hx).1)
    rw [← List.map_singleton, ← List.map_append, ← F.out] at hown3
    clear hgrow
    go_roundw
    case rel => exact ⟨k + 1, s + 4, by rw [HS.out]; omega, by omega, by go_num, hown3, hb3⟩
    case measure => simp [intOf]; omega
  ·have hk2 : k = (n + 3) / 4 := by have := HS.out; omega
   have E := Lib.hid (show upto (leafI xs) k = leavesI xs by unfold leavesI; rw [HL.out, hk2])
   have E2 := Lib.hid (show (leavesI xs).length = k by rw [leavesI_length, HL.out, hk2])
   clear hk2
   rw [E.out] at hown
   go_wp2
   go_ret
   exact ownU_one E2.out hown hb
theorem ret_fst {k : IntKind} {v : Value} {a b : Int} (h : a = b) : Ending.returned (.tuple #[.int k a, v]) = .returned (.tuple #[.int k b, v]) := by rw [h]
theorem u64_len {n : Nat} (h : n ≤ 9223372036854775807) : IntKind.u64.wrap (n : Int) = (n : Int) := wrap_u64_in (by omega) (by omega)
theorem ref_Root (A : Option Addr) (n c : Nat) (xs : List Int) (w : World) (hx : Ints .i64 w A n xs) (hn1 : 1 ≤ n) (hn : n ≤ 200) (hc : n ≤ c) :
  Calls Tryz.prog 145 #[.slice A n c] w fun e w' => e = .returned (.int .u64 (rootI xs)) ∧ Below w.heap.size w w' := by
 have U := u64_len (n := n) (by omega)
 have HL := Lib.hid (ref_Leaves A n c xs w hx hn hc)
 have HR := Lib.hid (show rootI xs = pairI n (treeI (leavesI xs)) by unfold rootI; rw [hx.len])
 have L1 := Lib.hid (show 1 ≤ (leavesI xs).length ∧ (leavesI xs).length ≤ 1000 by rw [leavesI_length, hx.len]; omega)
 have b1 := treeI_u64 (leavesI_u64 xs) L1.out.1
 go_enter Tryz.func145, Tryz.ntmps145
 go_wp2_with fail
 refine HL.out.mono ?_
 rintro e w1 ⟨S, sc, rfl, hown, hb1⟩
 have hcap : (leavesI xs).length ≤ sc := own_capT hown
 go_wp2_with fail
 refine (ref_Tree _ S (leavesI xs).length sc (leavesI xs) w1 (Nat.le_refl _) L1.out.1 hcap L1.out.2 (Ints.of_own hown rfl) (leavesI_u64 xs)).mono ?_
 rintro e w2 ⟨rfl, hb2⟩
 go_wp2_with fail
 refine (ref_PairD n (treeI (leavesI xs)) _ (by omega) (by omega) b1.1 b1.2).mono ?_
 rintro e w3 ⟨rfl, hb3⟩
 go_wp2
 go_ret
 exact ⟨ret_int HR.out.symm, bel_trans (bel_trans hb1 hb2) hb3⟩
theorem tree_Root_any (A : Option Addr) (n c : Nat) (xs : List Int) (w : World) (hx : Ints .i64 w A n xs) (hc : n ≤ c) (hm : n ≤ 9223372036854775807) :
  Calls Tryz.prog 112 #[.slice A n c] w fun e w' => e = .returned (.tuple #[.int .u64 (rootO xs), .int .i64 (lvE n)]) ∧ Below w.heap.size w w' := by
 have HL := Lib.hid (tree_Leaves_any A n c xs w hx hc hm)
 by_cases h : lvE n = 0
 ·obtain ⟨h1, h2⟩ := lvE_ok h
  rw [h, show lvO xs = leavesI xs from if_pos (by rw [hx.len]; exact h)] at HL
  rw [h, show rootO xs = rootI xs from if_pos (by rw [hx.len]; exact h)]
  have U := u64_len (n := n) (by omega)
  have HR := Lib.hid (show rootI xs = pairI n (treeI (leavesI xs)) by unfold rootI; rw [hx.len])
  have L1 := Lib.hid (show 1 ≤ (leavesI xs).length ∧ (leavesI xs).length ≤ 1000 by rw [leavesI_length, hx.len]; omega)
  have b1 := treeI_u64 (leavesI_u64 xs) L1.out.1
  clear h
  go_enter Tryz.func112, Tryz.ntmps112
  go_wp2_with fail
  refine HL.out.mono ?_
  rintro e w1 ⟨S, sc, rfl, hown, hb1⟩
  have hcap : (leavesI xs).length ≤ sc := own_capT hown
  go_wp2_with fail
  refine (tree_tree _ S (leavesI xs).length sc (leavesI xs) w1 (Nat.le_refl _) L1.out.1 hcap L1.out.2 (Ints.of_own hown rfl) (leavesI_u64 xs)).mono ?_
  rintro e w2 ⟨rfl, hb2⟩
  go_wp2_with fail
  refine (dig_Pair n (treeI (leavesI xs)) _ (by omega) (by omega) b1.1 b1.2).mono ?_
  rintro e w3 ⟨rfl, hb3⟩
  go_wp2
  go_ret2
  exact ⟨ret_fst HR.out.symm, bel_trans (bel_trans hb1 hb2) hb3⟩
 ·rw [show rootO xs = 0 from if_neg (by rw [hx.len]; exact h)]
  rw [show lvO xs = [] from if_neg (by rw [hx.len]; exact h)] at HL
  obtain ⟨x, hxx⟩ : ∃ x, x = lvE n := ⟨_, rfl⟩
  rw [← hxx] at HL h ⊢
  have t : (x != 0) = true := by rw [bne_iff_ne]; exact h
  clear h hxx
  go_enter Tryz.func112, Tryz.ntmps112
  go_wp2_with fail
  refine HL.out.mono ?_
  rintro e w1 ⟨S, sc, rfl, hown, hb1⟩
  go_wp2
  go_ret2
  exact ⟨rfl, hb1⟩
end Go.Proofs.YtgodgedhddngeaaGreatDoor
