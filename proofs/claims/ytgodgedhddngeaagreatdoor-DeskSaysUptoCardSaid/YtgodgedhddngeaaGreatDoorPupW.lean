/- What is wrong with a pupil: package pupil's Check, and the document's own text: walks, each function once. -/
import Derived.Test.YtgodgedhddngeaaGreatDoorVecAny
import Derived.Lib.SliceRun
import Derived.Lib.AppendZerosOnto
import Derived.BigRegion
set_option maxRecDepth 100000
set_option maxHeartbeats 16000000
namespace Go.Proofs.YtgodgedhddngeaaGreatDoor
open Go.RowKit Pl
theorem pup_clamped1 (n : Int) (w : World) : Calls Tryz.prog 131 #[.int .i64 n] w fun e w' => e = .returned (.bool (badV (.int .i64 n))) ∧ Quiet w w' := by
 go_enter Tryz.func131, Tryz.ntmps131
 go_wp2_with (go_at_call 125; refine (fix_Clamp _ _).mono ?_; rintro e w' ⟨rfl, rfl⟩)
 go_ret
 exact ⟨rfl, Quiet.refl _⟩
theorem pup_clamped (A : Option Addr) (n c : Nat) (xs : List Int) (w : World) (hx : Ints .i64 w A n xs) (hn : n ≤ 9223372036854775807) :
  Calls Tryz.prog 86 #[.slice A n c] w fun e w' => e = .returned (.bool (okL xs)) ∧ Quiet w w' := by
 have H := Lib.hid (pclamped_any A n c _ badV w hx.vals hn fun v W hv _ => by
  obtain ⟨x, _, rfl⟩ := List.mem_map.1 hv
  exact pup_clamped1 x W)
 rw [badV_any .i64] at H
 go_enter Tryz.func86, Tryz.ntmps86
 go_wp2_with (go_at_call 116; refine H.out.mono ?_; rintro e w1 ⟨rfl, hq1⟩)
 go_ret
 exact ⟨ret_bool (by simp), hq1⟩
theorem pup_Check (r1 c1 : Int) (A1 : Option Addr) (n1 k1 : Nat) (a1 : List Int) (r2 c2 : Int) (A2 : Option Addr) (n2 k2 : Nat) (a2 : List Int) (B1 : Option Addr) (m1 d1 : Nat) (b1 : List Int) (B2 : Option Addr) (m2 d2 : Nat) (b2 : List Int) (w : World) (i1 : Ints .i64 w A1 n1 a1) (i2 : Ints .i64 w A2 n2 a2) (j1 : Ints .i64 w B1 m1 b1) (j2 : Ints .i64 w B2 m2 b2) (h1 : n1 ≤ 9223372036854775807) (h2 : n2 ≤ 9223372036854775807) (h3 : m1 ≤ 9223372036854775807) (h4 : m2 ≤ 9223372036854775807) (hE : pupE r1 c1 a1 r2 c2 a2 b1 b2 = 0) :
  Calls Tryz.prog 132 #[(.agg #[.int .i64 r1, .int .i64 c1, .slice A1 n1 k1, .int .i64 r2, .int .i64 c2, .slice A2 n2 k2, .slice B1 m1 d1, .slice B2 m2 d2])] w fun e w' => e = .returned (.int .i64 (pupE r1 c1 a1 r2 c2 a2 b1 b2)) ∧ Below w.heap.size w w' := by
 obtain ⟨e1, e2, f1, f2', f3', o1, o2⟩ := pupE_ok hE
 have f2 : (m1 : Int) = r1 := by rw [← j1.len]; exact f2'
 have f3 : (m2 : Int) = r2 := by rw [← j2.len]; exact f3'
 clear f2' f3'
 have t3 : (c2 != r1) = false := by rw [bne_eq_false_iff_eq]; exact f1
 have t4 : ((m1 : Int) != r1) = false := by rw [bne_eq_false_iff_eq]; exact f2
 have t5 : ((m2 : Int) != r2) = false := by rw [bne_eq_false_iff_eq]; exact f3
 have F := Lib.hid (pupE_4 (a1 := a1) e1 e2 f1 (by rw [j1.len]; exact f2) (by rw [j2.len]; exact f3) o1 o2)
 have E1 := Lib.hid e1
 have E2 := Lib.hid e2
 have O1 := Lib.hid o1
 have O2 := Lib.hid o2
 clear hE e1 e2 f1 f2 f3 o1 o2
 go_enter Tryz.func132, Tryz.ntmps132
 go_wp2
 refine wp_loop_rounds 3 ?_
 rw [rounds_succ]
 go_wp2_with fail
 refine (vec_Check r1 c1 A1 n1 k1 a1 _ (by exact ((i1.alloc _).alloc _).alloc _) h1).mono ?_
 rintro e x1 ⟨rfl, hb1⟩
 have hbw : Below w.heap.size w x1 := Below.trans (B := w.heap.size) (by repeat (first | exact Below.refl _ _ | assumption | refine bel_drewN ?_ _ | refine Below.drew ?_ | (refine Below.alloc ?_ (by simp <;> omega) _) | (refine Below.setCell ?_ (by simp <;> omega) _))) (hb1.mono (by simp <;> omega))
 rw [E1.out]
 have hP : Blk x1 w.heap.size 102 #[.int .i64 r1, .int .i64 c1, .slice A1 n1 k1, .int .i64 r2, .int .i64 c2, .slice A2 n2 k2, .slice B1 m1 d1, .slice B2 m2 d2] := (((Blk.made w _ _).alloc _).alloc _).below hb1 (by simp <;> omega)
 have hQ : Blk x1 (w.heap.size + 1) 100 #[.int .i64 r1, .int .i64 c1, .slice A1 n1 k1, .int .i64 r2, .int .i64 c2, .slice A2 n2 k2] := ((Blk.made' _ _ _ (by simp)).alloc _).below hb1 (by simp <;> omega)
 have s3 : x1.cell? ⟨w.heap.size + 1, 3, none⟩ = some (.int .i64 r2) := hQ.cell 3
 have s4 : x1.cell? ⟨w.heap.size + 1, 4, none⟩ = some (.int .i64 c2) := hQ.cell 4
 have s5 : x1.cell? ⟨w.heap.size + 1, 5, none⟩ = some (.slice A2 n2 k2) := hQ.cell 5
 have hs1 : w.heap.size < x1.heap.size := hP.lt
 go_wp2
 rw [rounds_succ]
 go_wp2_with fail
 refine (vec_Check r2 c2 A2 n2 k2 a2 _ (by exact (i2.below hbw).alloc _) h2).mono ?_
 rintro e x2 ⟨rfl, hb2⟩
 have hbx : Below w.heap.size w x2 := (hbw.alloc (by omega) _).trans (hb2.mono (by simp; omega))
 rw [E2.out]
 have hP2 := (hP.alloc _).below hb2 (hP.alloc _).lt
 have p0 : x2.cell? ⟨w.heap.size, 0, none⟩ = some (.int .i64 r1) := hP2.cell 0
 have p1 : x2.cell? ⟨w.heap.size, 1, none⟩ = some (.int .i64 c1) := hP2.cell 1
 have p2 : x2.cell? ⟨w.heap.size, 2, none⟩ = some (.slice A1 n1 k1) := hP2.cell 2
 have p3 : x2.cell? ⟨w.heap.size, 3, none⟩ = some (.int .i64 r2) := hP2.cell 3
 have p4 : x2.cell? ⟨w.heap.size, 4, none⟩ = some (.int .i64 c2) := hP2.cell 4
 have p5 : x2.cell? ⟨w.heap.size, 5, none⟩ = some (.slice A2 n2 k2) := hP2.cell 5
 have p6 : x2.cell? ⟨w.heap.size, 6, none⟩ = some (.slice B1 m1 d1) := hP2.cell 6
 have p7 : x2.cell? ⟨w.heap.size, 7, none⟩ = some (.slice B2 m2 d2) := hP2.cell 7
 have ib1 := j1.below hbx
 have ib2 := j2.below hbx
 clear hP hQ s3 s4 s5 hb1 hb2 hP2
 go_wp2
 rw [rounds_succ]
 go_wp2_with fail
 refine (pup_clamped B1 m1 d1 b1 _ (by exact ib1) h3).mono ?_
 rintro e y1 ⟨rfl, kq1, rfl⟩
 rw [O1.out]
 go_wp2_with fail
 refine (pup_clamped B2 m2 d2 b2 _ (by exact ib2.drewN _) h4).mono ?_
 rintro e y2 ⟨rfl, kq2, rfl⟩
 rw [O2.out]
 go_wp2
 go_ret
 exact ⟨ret_int F.out.symm, bel_drewN hbx _⟩
theorem mul_bd {a b : Int} (ha : 1 ≤ a ∧ a ≤ 4) (hb : 1 ≤ b ∧ b ≤ 5) : 1 ≤ a * b ∧ a * b ≤ 20 := by
 obtain ⟨h1, h2⟩ := ha
 have : a = 1 ∨ a = 2 ∨ a = 3 ∨ a = 4 := by omega
 rcases this with rfl | rfl | rfl | rfl <;> omega
theorem pup_Size (i h o : Int) (w : World) (hi : 1 ≤ i ∧ i ≤ 4) (hh : 1 ≤ h ∧ h ≤ 4) (ho : 1 ≤ o ∧ o ≤ 4) :
  Calls Tryz.prog 85 #[.int .i64 i, .int .i64 h, .int .i64 o] w fun e w' => e = .returned (.int .i64 (sizeP i h o)) ∧ w = w' := by
 obtain ⟨a1, a2⟩ := mul_bd hh (b := i) (by omega)
 obtain ⟨b1, b2⟩ := mul_bd ho (b := h) (by omega)
 go_enter Tryz.func85, Tryz.ntmps85
 go_wp2
 go_ret
 exact ⟨rfl, rfl⟩
theorem ref_Size (i h o : Int) (w : World) (hi : 1 ≤ i ∧ i ≤ 4) (hh : 1 ≤ h ∧ h ≤ 4) (ho : 1 ≤ o ∧ o ≤ 4) :
  Calls Tryz.prog 143 #[.int .i64 i, .int .i64 h, .int .i64 o] w fun e w' => e = .returned (.int .i64 (sizeP i h o)) ∧ w = w' := by
 obtain ⟨a1, a2⟩ := mul_bd hh (b := i + 1) (by omega)
 obtain ⟨b1, b2⟩ := mul_bd ho (b := h + 1) (by omega)
 go_enter Tryz.func143, Tryz.ntmps143
 go_wp2
 go_ret
 exact ⟨ret_int (by unfold sizeP; rw [Int.mul_add, Int.mul_add, Int.mul_one, Int.mul_one]; omega), rfl⟩
theorem sl_Clone (A : Option Addr) (n c : Nat) (xs : List Int) (w : World) (hx : Ints .i64 w A n xs) (hn : n * 8 ≤ 140737488351232) :
  Calls Tryz.prog 88 #[.slice A n c] w (Own1 w xs) := by
 have qn : ∀ (w : World) (a : Option Addr) (n c n' c' : Nat), (binOp .eql 56 (.slice a n c) (.slice none n' c')).run Tryz.prog w = .ok (.bool a.isNone) w := fun w a n c n' c' => Lib.run_eql_slice_nil w _ _ a n c n' c' Tryz.underlying56
 obtain ⟨i0, hi0, hz0, hz1, hz2⟩ := info_parts int_info
 cases A with
 | none =>
  have h0 : n = 0 := by
   rcases Nat.eq_zero_or_pos n with h | h
   ·exact h
   ·obtain ⟨_, _, e, _⟩ := hx.cells h
    cases e
  subst h0
  have hl := hx.len
  have hx0 : xs = [] := List.eq_nil_of_length_eq_zero hl
  subst hx0
  clear hl hx
  go_enter Tryz.func88, Tryz.ntmps88
  go_wp2
  go_ret
  exact own_one rfl (World.ownsRow_nil _ _ _ _) (Below.refl _ _)
 | some ad =>
  have hnews : ∀ (o : Obj) (j : Nat) (u : Value), (xs.map (Value.int .i64))[j]? = some u → (w.alloc o).cell? (ad.add j) = some u := by
   intro o j u hu
   rw [List.getElem?_map] at hu
   have hj : j < xs.length := by
    rcases Nat.lt_or_ge j xs.length with h | h
    ·exact h
    ·rw [List.getElem?_eq_none h] at hu; cases hu
   rw [List.getElem?_eq_getElem hj, Option.map_some] at hu
   cases hu
   obtain ⟨b, off, e, hb, hc⟩ := hx.cells (by rw [← hx.len]; omega)
   cases e
   rw [Go.WideShapes.add_plain, World.cell?_alloc_past _ _ _ (by omega), hc j (by rw [← hx.len]; exact hj), at0_getElem _ _ hj]
  have HL := Lib.hid hx.len
  go_enter Tryz.func88, Tryz.ntmps88
  go_wp2_with (at_builtin; refine wpList_append_own _ rfl _ _ 56 rfl w.heap.size 3 i0 (.int .i64 0) 1 8 Tryz.underlying56 hi0 hz0 hz1 hz2 rfl (by decide) (.slice (some ⟨w.heap.size, 0, none⟩) 0 0) 0 [] rfl (World.ownsRow_made w #[] 0 (Nat.le_refl _) (Nat.zero_le _) rfl) ad n c (xs.map (.int .i64)) rfl (by rw [List.length_map, HL.out]; omega) (by exact hnews _) (ints_oneCell _ _) (by unfold maxLen; omega) (by omega) (by simp) ?_; intro v1 w1 hown1 hgrow _)
  go_wp2
  go_ret
  have hb : Below w.heap.size w w1 := Below.grown ((Below.refl _ _).alloc (Nat.le_refl _) _) hgrow (by simp) (fun x hx => by simp [Value.ownBlock] at hx; omega)
  rw [Nat.zero_add, List.nil_append] at hown1
  exact own_one HL.out hown1 hb
theorem sl_Grow (n : Nat) (w : World) (hn : n * 8 ≤ 140737488351232) :
  Calls Tryz.prog 164 #[.slice none 0 0, .int .i64 n] w fun e w' => ∃ v, e = .returned v ∧ w'.ownsRow w.heap.size 3 1 v 0 [] ∧ Below w.heap.size w w' := by
 obtain ⟨i0, hi0, hz0, hz1, hz2⟩ := info_parts int_info
 by_cases h0 : n = 0
 ·subst h0
  clear hn
  go_enter Tryz.func164, Tryz.ntmps164
  go_wp2
  go_ret
  exact ⟨_, rfl, World.ownsRow_nil _ _ _ _, Below.refl _ _⟩
 ·have hold : (Builtin.firstCells i0.size 0 (.slice none 0 0)).run Tryz.prog w.drew = .ok (([] : List Value).toArray) w.drew := run_firstCells_none w.drew i0.size 0 0 0
  have hr : ∀ ty, (Builtin.append_ #[56, 3] ty #[.slice none 0 0, .int .i64 (n : Int)]).run Tryz.prog w =
    .ok (.slice (some ⟨w.heap.size, 0, none⟩) n (grownCap w n 0 3)) (w.drew.alloc (.cells (([] : List Value).toArray ++ Builtin.zeroCells (Value.int .i64 0).cells n ++ Builtin.zeroCells (Value.int .i64 0).cells (grownCap w n 0 3 - n)) 3)) := fun ty => by
   have h := Lib.run_append_grow_zeros w 56 3 ty 3 i0 (.int .i64 0) .i64 .i64 Tryz.underlying56 Tryz.underlying3 hi0 hz0 none 0 0 [] hold n (by omega) (by rw [hz1]; omega) (by omega) (by omega) (by rw [hz2]; omega) (by rw [hz2]; exact growslice_fits (by omega) (by omega))
   rw [Nat.zero_add] at h
   exact h
  have hG := grownCap_ge w n 0 3
  have hG2 := grownCap_le_maxLen w n 0 3 (by unfold maxLen; omega)
  have hgt : (0 : Int) < (n : Int) := by omega
  obtain ⟨G, hGG⟩ : ∃ G, G = grownCap w n 0 3 := ⟨_, rfl⟩
  rw [← hGG] at hr hG hG2
  have HI := Lib.hid (⟨hi0, hz0, hz1, hz2⟩ : Tryz.prog.info? 3 = some i0 ∧ i0.zero = some (.int .i64 0) ∧ i0.size = 1 ∧ i0.bytes = 8)
  clear hGG hold h0 hi0 hz0 hz1 hz2
  unfold maxLen at hG2
  go_enter Tryz.func164, Tryz.ntmps164
  go_wp2_with (at_builtin; refine Lib.wpList_append_run _ rfl _ _ _ _ rfl _ _ rfl rfl _ _ (hr _) ?_)
  go_ret
  refine ⟨_, rfl, World.ownsRow_made w.drew _ G (Nat.le_refl _) (by unfold maxLen; omega) ?_, (Below.drew (Below.refl _ _)).alloc (Nat.le_refl _) _⟩
  simp [size_zeroCells]
  omega
theorem run_append_nothing {P : Program} {w : World} {base : Nat} {t ty e : TypeId} {i : TypeInfo} {size : Nat} (ht : P.underlying t = some (.slice e)) (hi : P.info? e = some i) {v : Value} {n : Nat} {xs : List Value} (hown : w.ownsRow base e size v n xs) (c : Nat) :
  (Builtin.append_ #[t, t] ty #[v, .slice none 0 c]).run P w = .ok v w := by
 rcases hown.2 with ⟨rfl, rfl⟩ | ⟨g, cap, cur, rfl, _, _, hnc, _⟩
 ·simp [Builtin.append_, run_underlying ht, sizeOf, typeInfo, hi, Builtin.lenOf, Builtin.firstCells]
 ·simp [Builtin.append_, run_underlying ht, sizeOf, typeInfo, hi, Builtin.lenOf, Builtin.firstCells, hnc, storeCells]
structure Parts (w : World) (vs : List Value) (ps : List (List Int)) : Prop where
 len : ps.length = vs.length
 at_ : ∀ j, j < vs.length → ∃ A n c, vs[j]?.getD undef = .slice A n c ∧ Ints .i64 w A n (ps[j]?.getD [])
def catN (ps : List (List Int)) (k : Nat) : List Int := (ps.take k).flatten
theorem catN_succ {ps : List (List Int)} {k : Nat} (h : k < ps.length) : catN ps (k + 1) = catN ps k ++ ps[k]?.getD [] := by
 unfold catN
 rw [List.take_succ_eq_append_getElem h, List.flatten_append, List.getElem?_eq_getElem h]
 simp
theorem catN_all (ps : List (List Int)) : catN ps ps.length = ps.flatten := by unfold catN; rw [List.take_of_length_le (Nat.le_refl _)]
theorem catN_le (ps : List (List Int)) (k : Nat) : (catN ps k).length ≤ ps.flatten.length := by
 unfold catN
 conv => rhs; rw [← List.take_append_drop k ps, List.flatten_append, List.length_append]
 omega
theorem sl_Concat (A : Option Addr) (m c : Nat) (vs : List Value) (ps : List (List Int)) (w : World) (hv : Vals w A m vs) (hp : Parts w vs ps) (N : Nat) (hN : ps.flatten.length = N) (ht : N * 8 ≤ 140737488351232) (hm : m ≤ 100) :
  Calls Tryz.prog 113 #[.slice A m c] w (Own1 w ps.flatten) := by
 obtain ⟨i0, hi0, hz0, hz1, hz2⟩ := info_parts int_info
 have HNN := Lib.hid hN
 have hcl : Hid (∀ k, (catN ps k).length ≤ N) := Lib.hid fun k => by rw [← hN]; exact catN_le ps k
 clear hN
 have HT := Lib.hid (catN_all ps)
 have HPL := Lib.hid (hp.len.trans hv.len)
 have HC0 := Lib.hid (show catN ps 0 = [] from rfl)
 go_enter Tryz.func113, Tryz.ntmps113
 go_wp2
 go_loopw [3, 11] (fun o i wr => ∃ k : Nat, k ≤ m ∧ i = .int .i64 k ∧ o = .int .i64 ((catN ps k).length : Nat) ∧ w = wr) (fun _ i _ => m - (intOf i).toNat)
 case atStart => exact ⟨0, Nat.zero_le _, rfl, by rw [HC0.out]; rfl, rfl⟩
 case round =>
  obtain ⟨k, hk, rfl, rfl, rfl⟩ := hrel
  have hle := hcl.out k
  by_cases hlt : k < m
  ·obtain ⟨b, off, rfl, hbl, hc⟩ := hv.cells (by omega)
   obtain ⟨B, n', c', e, hI⟩ := hp.at_ k (by rw [hv.len]; exact hlt)
   have g1 := (hc k hlt).trans (congrArg some e)
   have F := Lib.hid (show (catN ps (k + 1)).length = (catN ps k).length + n' by rw [catN_succ (by rw [HPL.out]; exact hlt), List.length_append, hI.len])
   have hle2 := hcl.out (k + 1)
   have hle3 : (catN ps k).length + n' ≤ N := by rw [← F.out]; exact hle2
   clear hc e hle2
   obtain ⟨L, hL⟩ : ∃ L, L = (catN ps k).length := ⟨_, rfl⟩
   have HL := Lib.hid hL
   rw [← hL] at hle hle3 ⊢
   clear hL
   go_wp2
   go_roundw
   case rel => exact ⟨k + 1, by omega, by go_num, by rw [F.out, ← HL.out]; go_num, trivial⟩
   case measure => simp [intOf]; omega
  ·obtain rfl : m = k := by omega
   have hfl : (catN ps m).length = N := by rw [← HNN.out, ← HT.out, HPL.out]
   rw [hfl]
   clear hfl hle
   go_wp2_with (go_at_call 164; refine (sl_Grow _ _ ht).mono ?_; rintro e w1 ⟨v1, rfl, ho1, hb1⟩)
   go_loopw [6, 27] (fun o i wr => ∃ k : Nat, k ≤ m ∧ i = .int .i64 k ∧ wr.ownsRow w.heap.size 3 1 o (catN ps k).length ((catN ps k).map (.int .i64)) ∧ Below w.heap.size w wr) (fun _ i _ => m - (intOf i).toNat)
   case atStart => exact ⟨0, Nat.zero_le _, rfl, by rw [HC0.out]; exact ho1, hb1⟩
   case round =>
    obtain ⟨k, hk, rfl, hown, hb⟩ := hrel
    have hbs := hb.size
    by_cases hlt : k < m
    ·obtain ⟨b, off, rfl, hbl, hc⟩ := hv.cells (by omega)
     obtain ⟨B, n', c', e, hI⟩ := hp.at_ k (by rw [hv.len]; exact hlt)
     have g1 := (hb.cell (p := ⟨b, off + k, none⟩) hbl).trans ((hc k hlt).trans (congrArg some e))
     have F := Lib.hid (catN_succ (ps := ps) (k := k) (by rw [HPL.out]; exact hlt))
     have hle3 : (catN ps k).length + n' ≤ N := by
      have := hcl.out (k + 1)
      rw [F.out, List.length_append, hI.len] at this
      exact this
     have hIr := hI.below hb
     have HN := Lib.hid hI.len
     clear hc e hI
     cases B with
     | none =>
      have h0 : n' = 0 := by
       rcases Nat.eq_zero_or_pos n' with h | h
       ·exact h
       ·obtain ⟨_, _, e, _⟩ := hIr.cells h
        cases e
      subst h0
      have HE := Lib.hid (List.eq_nil_of_length_eq_zero HN.out)
      clear HN hIr hle3
      go_wp2_with (at_builtin; refine Lib.wpList_append_run _ rfl _ _ _ _ rfl _ _ rfl rfl _ _ (run_append_nothing Tryz.underlying56 hi0 hown c') ?_)
      go_roundw
      case rel => exact ⟨k + 1, by omega, by go_num, by rw [F.out, HE.out, List.append_nil]; exact hown, hb⟩
      case measure => simp [intOf]; omega
     | some ad =>
      have hnews : ∀ (j : Nat) (u : Value), ((ps[k]?.getD []).map (Value.int .i64))[j]? = some u → wr.cell? (ad.add j) = some u := by
       intro j u hu
       rw [List.getElem?_map] at hu
       have hj : j < (ps[k]?.getD []).length := by
        rcases Nat.lt_or_ge j (ps[k]?.getD []).length with h | h
        ·exact h
        ·rw [List.getElem?_eq_none h] at hu; cases hu
       rw [List.getElem?_eq_getElem hj, Option.map_some] at hu
       cases hu
       obtain ⟨b, off, e, hb, hc⟩ := hIr.cells (by rw [← HN.out]; omega)
       cases e
       rw [Go.WideShapes.add_plain, hc j (by rw [← HN.out]; exact hj), at0_getElem _ _ hj]
      go_wp2_with (at_builtin; refine wpList_append_own _ rfl _ _ 56 rfl w.heap.size 3 i0 (.int .i64 0) 1 8 Tryz.underlying56 hi0 hz0 hz1 hz2 rfl (by decide) u6 _ _ rfl hown ad n' c' ((ps[k]?.getD []).map (.int .i64)) rfl (by rw [List.length_map, HN.out]; omega) (by exact hnews) (ints_oneCell _ _) (by unfold maxLen; omega) (by omega) (by omega) ?_; intro v2 w2 hown2 hgrow _)
      have hb2 := Below.grown (B := w.heap.size) hb hgrow hbs (fun x hx => (hown.lt x hx).1)
      clear hgrow g1 hnews
      go_roundw
      case rel => exact ⟨k + 1, by omega, by go_num, by rw [F.out, List.length_append, HN.out, List.map_append]; exact hown2, hb2⟩
      case measure => simp [intOf]; omega
    ·obtain rfl : m = k := by omega
     have hfl : catN ps m = ps.flatten := by rw [← HPL.out]; exact HT.out
     rw [hfl] at hown
     clear hfl
     go_wp2
     go_ret
     exact own_one rfl hown hb
theorem flatten4 (a1 b1 a2 b2 : List Int) : [a1, b1, a2, b2].flatten = flatP a1 b1 a2 b2 := by simp [flatP]
theorem flatP_len40 {r1 c1 : Int} {a1 : List Int} {r2 c2 : Int} {a2 b1 b2 : List Int} (h : pupE r1 c1 a1 r2 c2 a2 b1 b2 = 0) : (flatP a1 b1 a2 b2).length ≤ 40 := by
 obtain ⟨h1, h2, h3, h4, h5, _, _⟩ := pupE_ok h
 obtain ⟨p1, p2, p3, _⟩ := matE_ok h1
 obtain ⟨q1, q2, q3, _⟩ := matE_ok h2
 have s1 := side_mul p1 p2
 have s2 := side_mul q1 q2
 rw [flatP_length]
 omega
theorem pup_Flat_ok (r1 c1 : Int) (A1 : Option Addr) (n1 k1 : Nat) (a1 : List Int) (r2 c2 : Int) (A2 : Option Addr) (n2 k2 : Nat) (a2 : List Int) (B1 : Option Addr) (m1 d1 : Nat) (b1 : List Int) (B2 : Option Addr) (m2 d2 : Nat) (b2 : List Int) (w : World) (i1 : Ints .i64 w A1 n1 a1) (i2 : Ints .i64 w A2 n2 a2) (j1 : Ints .i64 w B1 m1 b1) (j2 : Ints .i64 w B2 m2 b2) (h1 : n1 ≤ 9223372036854775807) (h2 : n2 ≤ 9223372036854775807) (h3 : m1 ≤ 9223372036854775807) (h4 : m2 ≤ 9223372036854775807) (he : pupE r1 c1 a1 r2 c2 a2 b1 b2 = 0) :
  Calls Tryz.prog 173 #[(.agg #[.int .i64 r1, .int .i64 c1, .slice A1 n1 k1, .int .i64 r2, .int .i64 c2, .slice A2 n2 k2, .slice B1 m1 d1, .slice B2 m2 d2])] w (OwnRes w (flatP a1 b1 a2 b2) 0) := by
 have H := Lib.hid (fun W (q1 : Ints .i64 W A1 n1 a1) (q2 : Ints .i64 W A2 n2 a2) (q3 : Ints .i64 W B1 m1 b1) (q4 : Ints .i64 W B2 m2 b2) => pup_Check r1 c1 A1 n1 k1 a1 r2 c2 A2 n2 k2 a2 B1 m1 d1 b1 B2 m2 d2 b2 W q1 q2 q3 q4 h1 h2 h3 h4 he)
 rw [he] at H
 have HL := Lib.hid (flatP_len40 he)
 clear he
 go_enter Tryz.func173, Tryz.ntmps173
 go_wp2_with fail
 refine (H.out _ (i1.alloc _) (i2.alloc _) (j1.alloc _) (j2.alloc _)).mono ?_
 rintro e x1 ⟨rfl, hb1⟩
 have hP : Blk x1 w.heap.size 102 #[.int .i64 r1, .int .i64 c1, .slice A1 n1 k1, .int .i64 r2, .int .i64 c2, .slice A2 n2 k2, .slice B1 m1 d1, .slice B2 m2 d2] := (Blk.made w _ _).below hb1 (by simp <;> omega)
 have hbw : Below w.heap.size w x1 := Below.trans (B := w.heap.size) (by repeat (first | exact Below.refl _ _ | assumption | refine bel_drewN ?_ _ | refine Below.drew ?_ | (refine Below.alloc ?_ (by simp <;> omega) _) | (refine Below.setCell ?_ (by simp <;> omega) _))) (hb1.mono (by simp <;> omega))
 have p2 : x1.cell? ⟨w.heap.size, 2, none⟩ = some (.slice A1 n1 k1) := hP.cell 2
 have p5 : x1.cell? ⟨w.heap.size, 5, none⟩ = some (.slice A2 n2 k2) := hP.cell 5
 have p6 : x1.cell? ⟨w.heap.size, 6, none⟩ = some (.slice B1 m1 d1) := hP.cell 6
 have p7 : x1.cell? ⟨w.heap.size, 7, none⟩ = some (.slice B2 m2 d2) := hP.cell 7
 have hs1 := hbw.size
 clear hb1
 go_wp2_with fail
 refine (sl_Concat _ 4 4 [.slice A1 n1 k1, .slice B1 m1 d1, .slice A2 n2 k2, .slice B2 m2 d2] [a1, b1, a2, b2] _ (Vals.made x1 _ _ 4 _ rfl rfl) ⟨rfl, fun j hj => ?_⟩ (flatP a1 b1 a2 b2).length (by rw [flatten4]) (by have := HL.out; omega) (by omega)).mono ?_
 ·match j, hj with
  | 0, _ => exact ⟨A1, n1, k1, rfl, (i1.below hbw).alloc _⟩
  | 1, _ => exact ⟨B1, m1, d1, rfl, (j1.below hbw).alloc _⟩
  | 2, _ => exact ⟨A2, n2, k2, rfl, (i2.below hbw).alloc _⟩
  | 3, _ => exact ⟨B2, m2, d2, rfl, (j2.below hbw).alloc _⟩
 rw [flatten4]
 rintro e x2 ⟨A, c, rfl, ho, hb2⟩
 go_wp2
 go_ret2
 exact ⟨A, c, rfl, own_base ho (by simp; omega), (hbw.alloc hs1 _).trans (hb2.mono (by simp; omega))⟩
theorem ref_Flat (r1 c1 : Int) (A1 : Option Addr) (n1 k1 : Nat) (a1 : List Int) (r2 c2 : Int) (A2 : Option Addr) (n2 k2 : Nat) (a2 : List Int) (B1 : Option Addr) (m1 d1 : Nat) (b1 : List Int) (B2 : Option Addr) (m2 d2 : Nat) (b2 : List Int) (w : World) (i1 : Ints .i64 w A1 n1 a1) (i2 : Ints .i64 w A2 n2 a2) (j1 : Ints .i64 w B1 m1 b1) (j2 : Ints .i64 w B2 m2 b2) (hN : (flatP a1 b1 a2 b2).length ≤ 40) :
  Calls Tryz.prog 150 #[(.agg #[.int .i64 r1, .int .i64 c1, .slice A1 n1 k1, .int .i64 r2, .int .i64 c2, .slice A2 n2 k2, .slice B1 m1 d1, .slice B2 m2 d2])] w (Own1 w (flatP a1 b1 a2 b2)) := by
 obtain ⟨i0, hi0, hz0, hz1, hz2⟩ := info_parts int_info
 have hv : Vals ((w.alloc (.cells #[.int .i64 r1, .int .i64 c1, .slice A1 n1 k1, .int .i64 r2, .int .i64 c2, .slice A2 n2 k2, .slice B1 m1 d1, .slice B2 m2 d2] 102)).alloc (.cells #[.slice A1 n1 k1, .slice B1 m1 d1, .slice A2 n2 k2, .slice B2 m2 d2] 56)) (some ⟨w.heap.size + 1, 0, none⟩) 4 [.slice A1 n1 k1, .slice B1 m1 d1, .slice A2 n2 k2, .slice B2 m2 d2] := by
  have h := Vals.made (w.alloc (.cells #[.int .i64 r1, .int .i64 c1, .slice A1 n1 k1, .int .i64 r2, .int .i64 c2, .slice A2 n2 k2, .slice B1 m1 d1, .slice B2 m2 d2] 102)) #[.slice A1 n1 k1, .slice B1 m1 d1, .slice A2 n2 k2, .slice B2 m2 d2] 56 4 [.slice A1 n1 k1, .slice B1 m1 d1, .slice A2 n2 k2, .slice B2 m2 d2] rfl rfl
  simpa using h
 have hp : Parts ((w.alloc (.cells #[.int .i64 r1, .int .i64 c1, .slice A1 n1 k1, .int .i64 r2, .int .i64 c2, .slice A2 n2 k2, .slice B1 m1 d1, .slice B2 m2 d2] 102)).alloc (.cells #[.slice A1 n1 k1, .slice B1 m1 d1, .slice A2 n2 k2, .slice B2 m2 d2] 56)) [.slice A1 n1 k1, .slice B1 m1 d1, .slice A2 n2 k2, .slice B2 m2 d2] [a1, b1, a2, b2] := ⟨rfl, fun j hj => by
  match j, hj with
  | 0, _ => exact ⟨A1, n1, k1, rfl, (i1.alloc _).alloc _⟩
  | 1, _ => exact ⟨B1, m1, d1, rfl, (j1.alloc _).alloc _⟩
  | 2, _ => exact ⟨A2, n2, k2, rfl, (i2.alloc _).alloc _⟩
  | 3, _ => exact ⟨B2, m2, d2, rfl, (j2.alloc _).alloc _⟩⟩
 obtain ⟨ps, hps⟩ : ∃ ps, ps = [a1, b1, a2, b2] := ⟨_, rfl⟩
 rw [← hps] at hp
 have HC0 := Lib.hid (show catN ps 0 = [] from rfl)
 have HALL := Lib.hid (show catN ps 4 = flatP a1 b1 a2 b2 by rw [hps]; exact (catN_all _).trans (flatten4 _ _ _ _))
 have hcl : Hid (∀ k, (catN ps k).length ≤ 40) := Lib.hid fun k => by
  have := catN_le ps k
  have e : ps.flatten = flatP a1 b1 a2 b2 := by rw [hps]; exact flatten4 _ _ _ _
  rw [e] at this
  omega
 have HPL := Lib.hid (show ps.length = 4 by rw [hps]; rfl)
 clear hps hN
 go_enter Tryz.func150, Tryz.ntmps150
 go_wp2
 go_loopw [3, 19] (fun o i wr => ∃ k : Nat, k ≤ 4 ∧ i = .int .i64 k ∧ wr.ownsRow (w.heap.size + 1 + 1) 3 1 o (catN ps k).length ((catN ps k).map (.int .i64)) ∧ Below (w.heap.size + 1 + 1) ((w.alloc (.cells #[.int .i64 r1, .int .i64 c1, .slice A1 n1 k1, .int .i64 r2, .int .i64 c2, .slice A2 n2 k2, .slice B1 m1 d1, .slice B2 m2 d2] 102)).alloc (.cells #[.slice A1 n1 k1, .slice B1 m1 d1, .slice A2 n2 k2, .slice B2 m2 d2] 56)) wr) (fun _ i _ => 4 - (intOf i).toNat)
 case atStart => exact ⟨0, Nat.zero_le _, rfl, by rw [HC0.out]; exact World.ownsRow_nil _ _ _ _, Below.refl _ _⟩
 case round =>
  obtain ⟨k, hk, rfl, hown, hb⟩ := hrel
  have hbs := hb.size
  simp at hbs
  by_cases hlt : k < 4
  ·obtain ⟨b, off, e0, hbl, hc⟩ := hv.cells (by omega)
   cases e0
   obtain ⟨B, n', c', e, hI⟩ := hp.at_ k (by rw [hv.len]; exact hlt)
   have g1 := (hb.cell (p := ⟨w.heap.size + 1, 0 + k, none⟩) (by simp)).trans ((hc k hlt).trans (congrArg some e))
   rw [Nat.zero_add] at g1
   have F := Lib.hid (catN_succ (ps := ps) (k := k) (by rw [HPL.out]; exact hlt))
   have hle3 : (catN ps k).length + n' ≤ 40 := by
    have := hcl.out (k + 1)
    rw [F.out, List.length_append, hI.len] at this
    exact this
   have HN := Lib.hid hI.len
   clear hc e
   go_wp2
   clear g1
   rw [show decide ((k : Int) < 4) = true from decide_eq_true (by omega)]
   obtain ⟨wo, rfl⟩ : ∃ wo : World, wo = wr := ⟨_, rfl⟩
   go_loopw [3, 6] (fun o i wr => ∃ j : Nat, j ≤ n' ∧ i = .int .i64 j ∧ wr.ownsRow (w.heap.size + 1 + 1) 3 1 o ((catN ps k).length + j) ((catN ps k).map (.int .i64) ++ (upto (at0 (ps[k]?.getD [])) j).map (.int .i64)) ∧ Below (w.heap.size + 1 + 1) ((w.alloc (.cells #[.int .i64 r1, .int .i64 c1, .slice A1 n1 k1, .int .i64 r2, .int .i64 c2, .slice A2 n2 k2, .slice B1 m1 d1, .slice B2 m2 d2] 102)).alloc (.cells #[.slice A1 n1 k1, .slice B1 m1 d1, .slice A2 n2 k2, .slice B2 m2 d2] 56)) wr ) (fun _ i _ => n' - (intOf i).toNat)
   case atStart => exact ⟨0, Nat.zero_le _, rfl, by rw [upto_zero, List.map_nil, List.append_nil]; exact hown, hb⟩
   case round =>
    obtain ⟨j, hj, rfl, hown2, hb2⟩ := hrel
    have hIw := hI.below (by simpa using hb2)
    have hbs2 := hb2.size
    simp at hbs2
    by_cases hl2 : j < n'
    ·obtain ⟨b, off, rfl, hbl2, hc⟩ := hIw.cells (by omega)
     have g1 := hc j hl2
     clear hc
     go_wp2_with (at_builtin; refine wpList_append_own _ rfl _ _ 56 rfl (w.heap.size + 1 + 1) 3 i0 (.int .i64 0) 1 8 Tryz.underlying56 hi0 hz0 hz1 hz2 rfl (by decide) u3 _ _ rfl (hown2.alloc _) ⟨wr.heap.size, 0, none⟩ 1 1 [.int .i64 (at0 (ps[k]?.getD []) j)] rfl rfl (cell_one_new _ _ _) (by simp [Value.oneCell']) (by unfold maxLen; omega) (by omega) (by simp; omega) ?_; intro v1 w1 hown1 hgrow _)
     have hb3 := Below.grown (B := w.heap.size + 1 + 1) (hb2.alloc (by omega) _) hgrow (by simp; omega) (fun x hx => (hown2.lt x hx).1)
     rw [List.append_assoc, ← List.map_singleton, ← List.map_append, ← upto_succ (at0 (ps[k]?.getD []))] at hown1
     clear hgrow g1
     go_roundw
     case rel => exact ⟨j + 1, by omega, by go_num, by rw [← Nat.add_assoc]; exact hown1, hb3⟩
     case measure => simp [intOf]; omega
    ·obtain rfl : n' = j := by omega
     go_wp2
     go_roundw
     case rel => exact ⟨k + 1, by omega, by go_num, by
      rw [F.out, List.length_append, HN.out, List.map_append]
      have e : upto (at0 (ps[k]?.getD [])) n' = ps[k]?.getD [] := by rw [← HN.out]; exact upto_at0 _
      rw [e] at hown2
      exact hown2, hb2⟩
     case measure => simp [intOf]; omega
  ·obtain rfl : k = 4 := by omega
   rw [HALL.out] at hown
   go_wp2
   go_ret
   exact own_one rfl (own_base hown (by omega)) ((((Below.refl _ _).alloc (Nat.le_refl _) _).alloc (by simp) _).trans (hb.mono (by omega)))
def Took (w : World) (g k : Nat) (xs : List Int) (nv : Value) (e : Ending) (w' : World) : Prop :=
 ∃ A' c' w1, e = .returned (.slice A' k c') ∧ w1.ownsRow w.heap.size 3 1 (.slice A' k c') k (xs.map (.int .i64)) ∧ Below w.heap.size w w1 ∧ w' = w1.setCell ⟨g, 0, none⟩ nv
theorem pup_take (w : World) (g : Nat) (A : Option Addr) (n c k : Nat) (xs : List Int) (hg : Blk w g 56 #[.slice A n c]) (hx : Ints .i64 w A n xs) (hk : k ≤ n) (hc : n ≤ c) (hn : n * 8 ≤ 140737488351232) :
  Calls Tryz.prog 87 #[.int .i64 k, .pointer (some ⟨g, 0, none⟩)] w (Took w g k (xs.take k) (sliced A k n c 1)) := by
 have g0 : w.cell? ⟨g, 0, none⟩ = some (.slice A n c) := hg.cell 0
 have z0 := hg.frozen 0
 have hI : Ints .i64 w A k (xs.take k) := by
  have h := hx.cut (i := 0) (m := k) (by omega) (A' := A) (fun _ b off e => by rw [e]; rfl)
  simpa using h
 have hl : (xs.take k).length = k := hI.len
 by_cases hq : c = k
 ·subst hq
  obtain rfl : c = n := by omega
  have hS : sliced A c c c 1 = (.slice A 0 0) := by simp [sliced]
  rw [hS]
  go_enter Tryz.func87, Tryz.ntmps87
  go_wp2_with fail
  refine (sl_Clone A c c (xs.take c) w hI (by omega)).mono ?_
  rintro e w1 ⟨A', c', rfl, hown, hb⟩
  rw [hl] at hown ⊢
  have T := Lib.hid (show Took w g c (xs.take c) (.slice A 0 0) (.returned (.slice A' c c')) (w1.setCell ⟨g, 0, none⟩ (.slice A 0 0)) from ⟨A', c', w1, rfl, hown, hb, rfl⟩)
  have hg1 := hg.below hb hg.lt
  have g1 : w1.cell? ⟨g, 0, none⟩ = some (.slice A c c) := hg1.cell 0
  have z1 := hg1.frozen 0
  clear g0 z0 hg hg1 hown hb hx hI
  go_wp2
  go_ret
  exact T.out
 ·have hS : sliced A k n c 1 = (.slice (A.map (·.add k)) (n - k) (c - k)) := by simp [sliced, hq]
  rw [hS]
  go_enter Tryz.func87, Tryz.ntmps87
  go_wp2_with fail
  refine (sl_Clone A k c (xs.take k) w hI (by omega)).mono ?_
  rintro e w1 ⟨A', c', rfl, hown, hb⟩
  rw [hl] at hown ⊢
  have T := Lib.hid (show Took w g k (xs.take k) (.slice (A.map (·.add k)) (n - k) (c - k)) (.returned (.slice A' k c')) (w1.setCell ⟨g, 0, none⟩ (.slice (A.map (·.add k)) (n - k) (c - k))) from ⟨A', c', w1, rfl, hown, hb, rfl⟩)
  have hg1 := hg.below hb hg.lt
  have g1 : w1.cell? ⟨g, 0, none⟩ = some (.slice A n c) := hg1.cell 0
  have z1 := hg1.frozen 0
  clear g0 z0 hg hg1 hown hb hx hI
  go_wp2
  go_ret
  exact T.out
theorem ref_Shape (i h o : Nat) (A : Option Addr) (n c : Nat) (w : World) (hc : n ≤ c) (hi : 1 ≤ i ∧ i ≤ 4) (hh : 1 ≤ h ∧ h ≤ 4) (ho : 1 ≤ o ∧ o ≤ 4) (p q : Nat) (hp : h * i = p) (hq : o * h = q) (hn : n = p + h + q + o) :
  Calls Tryz.prog 64 #[.int .i64 i, .int .i64 h, .int .i64 o, .slice A n c] w fun e w' =>
   e = .returned (.agg #[.int .i64 h, .int .i64 i, (.slice A p c), .int .i64 o, .int .i64 h, (.slice (A.map (·.add (p + h))) q (c - (p + h))), (.slice (A.map (·.add p)) h (c - p)), (.slice (A.map (·.add (p + h + q))) o (c - (p + h + q)))]) ∧ Below w.heap.size w w' := by
 have e1 : (h : Int) * (i : Int) = (p : Int) := by rw [← hp]; simp
 have e2 : (o : Int) * (h : Int) = (q : Int) := by rw [← hq]; simp
 have hp16 : p ≤ 16 := by rw [← hp]; exact Nat.mul_le_mul hh.2 hi.2
 have hq16 : q ≤ 16 := by rw [← hq]; exact Nat.mul_le_mul ho.2 hh.2
 clear hp hq
 have n1 : ¬ c = p := by omega
 have n2 : ¬ c = p + h := by omega
 have n3 : ¬ c = p + h + q := by omega
 go_enter Tryz.func64, Tryz.ntmps64
 go_wp2_with fail
 go_region
 go_wp2
 all_goals refine bodyPost_ret (v := .agg #[.int .i64 h, .int .i64 i, .slice A p c, .int .i64 o, .int .i64 h, .slice (A.map (·.add (p + h))) q (c - (p + h)), .slice (A.map (·.add p)) h (c - p), .slice (A.map (·.add (p + h + q))) o (c - (p + h + q))]) (by simp [results, Tryz.results64, go_sem]) rfl ?_
 all_goals exact ⟨rfl, (by repeat (first | exact Below.refl _ _ | assumption | refine bel_drewN ?_ _ | refine Below.drew ?_ | (refine Below.alloc ?_ (by simp <;> omega) _) | (refine Below.setCell ?_ (by simp <;> omega) _)))⟩
end Go.Proofs.YtgodgedhddngeaaGreatDoor
