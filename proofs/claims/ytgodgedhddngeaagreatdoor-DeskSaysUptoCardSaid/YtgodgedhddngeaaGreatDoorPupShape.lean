/- What pupil.Shape makes of a row of numbers: a pupil, its numbers its own. A walk. -/
import Derived.Test.YtgodgedhddngeaaGreatDoorPupW
set_option maxRecDepth 100000
set_option maxHeartbeats 16000000
namespace Go.Proofs.YtgodgedhddngeaaGreatDoor
open Go.RowKit Pl
structure But (g : Nat) (w w' : World) : Prop where
 os : w'.os = w.os
 tape : w'.tape = w.tape
 output : w'.output = w.output
 size : w.heap.size ≤ w'.heap.size
 block : ∀ k, k < w.heap.size → k ≠ g → w'.heap[k]? = w.heap[k]?
section
variable {w w' : World} {g : Nat}
theorem But.below {B : Nat} (h : But g w w') (hB : B ≤ g) (hB' : B ≤ w.heap.size) : Below B w w' := ⟨h.os, h.tape, h.output, h.size, fun k hk => h.block k (by omega) (by omega)⟩
theorem Blk.but {k : Nat} {t : TypeId} {cs : Array Value} (h : Blk w k t cs) (hb : But g w w') (hne : k ≠ g) : Blk w' k t cs := (hb.block k h.lt hne).trans h
theorem own_keep {base : Nat} {e : TypeId} {size : Nat} {v : Value} {n : Nat} {xs : List Value} (h : w.ownsRow base e size v n xs) (hk : ∀ k, v.ownBlock = some k → w'.heap[k]? = w.heap[k]?) : w'.ownsRow base e size v n xs := by
 refine ⟨h.1, ?_⟩
 rcases h.2 with hn | ⟨g, cap, cur, rfl, hg, hc, rest⟩
 ·exact .inl hn
 ·exact .inr ⟨g, cap, cur, rfl, hg, (hk g rfl).trans hc, rest⟩
theorem own_but {base : Nat} {e : TypeId} {size : Nat} {v : Value} {n : Nat} {xs : List Value} (h : w.ownsRow base e size v n xs) (hb : But g w w') (hg : g < base) : w'.ownsRow base e size v n xs :=
 own_keep h fun k hk => hb.block k (h.lt k hk).2 (by have := (h.lt k hk).1; omega)
end
def TookO (w : World) (g k : Nat) (xs : List Int) (nv : Value) (e : Ending) (w' : World) : Prop :=
 ∃ A' c', e = .returned (.slice A' k c') ∧ w'.ownsRow w.heap.size 3 1 (.slice A' k c') k (xs.map (.int .i64)) ∧ But g w w' ∧ Blk w' g 56 #[nv]
theorem Took.o {w : World} {g k : Nat} {xs : List Int} {v nv : Value} {e : Ending} {w' : World} (hg : Blk w g 56 #[v]) (h : Took w g k xs nv e w') : TookO w g k xs nv e w' := by
 obtain ⟨A', c', w1, rfl, ho, hb, rfl⟩ := h
 refine ⟨A', c', rfl, own_far ho hg.lt nv, ⟨hb.os, hb.tape, hb.output, ?_, fun k hk hne => ?_⟩, (hg.below hb hg.lt).put 0 nv⟩
 ·simpa [World.setCell] using hb.size
 ·rw [heap_setCell_other w1 ⟨g, 0, none⟩ k nv hne]
  exact hb.block k hk
theorem sliced_rest {w : World} {A : Option Addr} {n c k : Nat} {xs : List Int} (hx : Ints .i64 w A n xs) (hc : n ≤ c) (hk : k ≤ n) : ∃ A' n' c', sliced A k n c 1 = .slice A' n' c' ∧ n = n' + k ∧ n' ≤ c' ∧ Ints .i64 w A' n' (xs.drop k) := by
 by_cases h : c = k
 ·subst h
  obtain rfl : c = n := by omega
  refine ⟨A, 0, 0, by simp [sliced], by omega, by omega, ?_⟩
  rw [List.drop_of_length_le (by rw [hx.len]; omega)]
  exact Ints.nil _ _ _
 ·refine ⟨A.map (·.add k), n - k, c - k, by simp [sliced, h], by omega, by omega, ?_⟩
  have h2 := hx.cut (i := k) (m := n - k) (by omega) (A' := A.map (·.add k)) (fun _ b off e => by rw [e]; simp [Go.WideShapes.add_plain])
  rwa [List.take_of_length_le (by rw [List.length_drop, hx.len]; omega)] at h2
structure Pup where
 (r1 c1 : Int) (a1 : List Int) (r2 c2 : Int) (a2 b1 b2 : List Int)
def PupOwn (w : World) (P : Pup) (x : Int) (e : Ending) (w' : World) : Prop :=
 ∃ A1 k1 A2 k2 B1 d1 B2 d2, e = .returned (.tuple #[.agg #[.int .i64 P.r1, .int .i64 P.c1, .slice A1 P.a1.length k1, .int .i64 P.r2, .int .i64 P.c2, .slice A2 P.a2.length k2, .slice B1 P.b1.length d1, .slice B2 P.b2.length d2], .int .i64 x]) ∧
  w'.ownsRow w.heap.size 3 1 (.slice A1 P.a1.length k1) P.a1.length (P.a1.map (.int .i64)) ∧ w'.ownsRow w.heap.size 3 1 (.slice A2 P.a2.length k2) P.a2.length (P.a2.map (.int .i64)) ∧
  w'.ownsRow w.heap.size 3 1 (.slice B1 P.b1.length d1) P.b1.length (P.b1.map (.int .i64)) ∧ w'.ownsRow w.heap.size 3 1 (.slice B2 P.b2.length d2) P.b2.length (P.b2.map (.int .i64)) ∧ Below w.heap.size w w'
def shapeP (i h o : Nat) (xs : List Int) : Pup :=
 ⟨h, i, xs.take (h * i), o, h, (xs.drop (h * i + h)).take (o * h), (xs.drop (h * i)).take h, (xs.drop (h * i + h + o * h)).take o⟩
theorem pup_Shape_ok (i h o : Nat) (A : Option Addr) (n c : Nat) (xs : List Int) (w : World) (hx : Ints .i64 w A n xs) (hc : n ≤ c) (hi : 1 ≤ i ∧ i ≤ 4) (hh : 1 ≤ h ∧ h ≤ 4) (ho : 1 ≤ o ∧ o ≤ 4) (p q : Nat) (hp : h * i = p) (hq : o * h = q) (hn : n = p + h + q + o) (hok : okL xs = true) :
  Calls Tryz.prog 54 #[.int .i64 i, .int .i64 h, .int .i64 o, .slice A n c] w (PupOwn w ⟨h, i, xs.take p, o, h, (xs.drop (p + h)).take q, (xs.drop p).take h, (xs.drop (p + h + q)).take o⟩ 0) := by
 have e1 : (h : Int) * (i : Int) = (p : Int) := by rw [← hp]; simp
 have e2 : (o : Int) * (h : Int) = (q : Int) := by rw [← hq]; simp
 have hp16 : p ≤ 16 := by rw [← hp]; exact Nat.mul_le_mul hh.2 hi.2
 have hq16 : q ≤ 16 := by rw [← hq]; exact Nat.mul_le_mul ho.2 hh.2
 have hp1 : 1 ≤ p := by rw [← hp]; exact Nat.mul_pos (by omega) (by omega)
 have hq1 : 1 ≤ q := by rw [← hq]; exact Nat.mul_pos (by omega) (by omega)
 have hn40 : n ≤ 40 := by omega
 have hnn : n ≤ 9223372036854775807 := by omega
 have HS := Lib.hid (fun W => pup_Size i h o W (by omega) (by omega) (by omega))
 have HC := Lib.hid (fun W (q : Ints .i64 W A n xs) => pup_clamped A n c xs W q hnn)
 have h2 := Lib.hid hok
 have t1 : ((n : Int) != sizeP i h o) = false := by
  rw [bne_eq_false_iff_eq]; unfold sizeP; rw [e1, e2]; omega
 have z1 : 1 ≤ (h : Int) * (i : Int) := by omega
 have z2 : (h : Int) * (i : Int) ≤ 16 := by omega
 have z3 : 1 ≤ (o : Int) * (h : Int) := by omega
 have z4 : (o : Int) * (h : Int) ≤ 16 := by omega
 have HN := Lib.hid hn
 have E1 := Lib.hid e1
 have E2 := Lib.hid e2
 clear hp hq hn hok e1 e2
 obtain ⟨i1, i2⟩ := hi
 obtain ⟨i3, i4⟩ := hh
 obtain ⟨i5, i6⟩ := ho
 go_enter Tryz.func54, Tryz.ntmps54
 go_wp2
 refine wp_loop_rounds 4 ?_
 rw [rounds_succ]
 go_wp2
 rw [rounds_succ]
 go_wp2
 rw [rounds_succ]
 go_wp2
 rw [rounds_succ]
 go_wp2
 obtain ⟨x, hX⟩ : ∃ x, x = (((w.alloc (.cells #[.slice A n c] 56)).alloc (.cells #[.int .i64 0, .int .i64 0, .slice none 0 0, .int .i64 0, .int .i64 0, .slice none 0 0, .slice none 0 0, .slice none 0 0] 102)).alloc (.cells #[.int .i64 i, .int .i64 h, .int .i64 o] 3)) := ⟨_, rfl⟩
 rw [← hX]
 have hxx : Ints .i64 x A n xs := by rw [hX]; exact ((hx.alloc _).alloc _).alloc _
 have hbx : Below w.heap.size w x := by rw [hX]; exact (by repeat (first | exact Below.refl _ _ | assumption | refine bel_drewN ?_ _ | refine Below.drew ?_ | (refine Below.alloc ?_ (by simp <;> omega) _) | (refine Below.setCell ?_ (by simp <;> omega) _)))
 have hB0 : Blk x w.heap.size 56 #[.slice A n c] := by rw [hX]; exact ((Blk.made w _ _).alloc _).alloc _
 have hB1 : Blk x (w.heap.size + 1) 102 #[.int .i64 0, .int .i64 0, .slice none 0 0, .int .i64 0, .int .i64 0, .slice none 0 0, .slice none 0 0, .slice none 0 0] := by rw [hX]; exact (Blk.made' _ _ _ (by simp)).alloc _
 have hsx : x.heap.size = w.heap.size + 1 + 1 + 1 := by rw [hX]; simp
 have c0 : x.cell? ⟨w.heap.size, 0, none⟩ = some (.slice A n c) := hB0.cell 0
 clear hX
 go_quiet ((first | (go_at_call 85; exact Calls.quiet_of ((HS.out _).mono fun _ _ ⟨he, hw⟩ => ⟨he, 0, hw.symm⟩)) | (go_at_call 86; exact Calls.quiet_of ((HC.out _ (hxx.drewN _)).mono fun _ _ ⟨he, hw⟩ => ⟨by rw [he, h2.out], hw⟩))))
 have hsl : w.heap.size + 1 < x.heap.size := by omega
 have HSX := Lib.hid hsx
 clear hsx
 obtain ⟨S1, s1, t1, hS1, hs1, ht1, I1⟩ := sliced_rest hx hc (k := p) (by have := HN.out; omega)
 have HS1 := Lib.hid hS1
 have L1 : h + q + o ≤ s1 := by have := HN.out; omega
 have U1 : s1 ≤ 40 := by omega
 have Hs1 := Lib.hid hs1
 clear hS1 hs1
 go_wp2_with fail
 rw [E1.out]
 refine (pup_take _ w.heap.size A n c p xs (by exact ((hB0.drewN _).alloc _)) (by exact ((hxx.drewN _).alloc _)) (by have := HN.out; omega) hc (by omega)).mono ?_
 rintro e w1 hT
 obtain ⟨A1', c1', rfl, ho1, b1, hg1⟩ := hT.o (by exact ((hB0.drewN _).alloc _))
 rw [HS1.out] at hg1
 clear hT
 have hm1 : Blk w1 x.heap.size 102 #[.int .i64 0, .int .i64 0, .slice none 0 0, .int .i64 0, .int .i64 0, .slice none 0 0, .slice none 0 0, .slice none 0 0] := (Blk.made' _ _ _ (by simp)).but b1 (by omega)
 have hr1 : Blk w1 (w.heap.size + 1) 102 #[.int .i64 0, .int .i64 0, .slice none 0 0, .int .i64 0, .int .i64 0, .slice none 0 0, .slice none 0 0, .slice none 0 0] := ((hB1.drewN _).alloc _).but b1 (by omega)
 have hb1 : Below w.heap.size w w1 := ((bel_drewN hbx _).alloc (by simp; omega) _).trans (b1.below (Nat.le_refl _) (by simp; omega))
 have o1_1 := own_base ho1 (base' := x.heap.size + 1) (by simp)
 clear ho1 b1 c0 hB0 hB1 hbx hxx
 have m1_0 : w1.cell? ⟨x.heap.size, 0, none⟩ = some (.int .i64 0) := hm1.cell 0
 have mz1_0 := hm1.frozen 0
 have m1_1 : w1.cell? ⟨x.heap.size, 1, none⟩ = some (.int .i64 0) := hm1.cell 1
 have mz1_1 := hm1.frozen 1
 have m1_2 : w1.cell? ⟨x.heap.size, 2, none⟩ = some (.slice none 0 0) := hm1.cell 2
 have mz1_2 := hm1.frozen 2
 obtain ⟨S2, s2, t2, hS2, hs2, ht2, I2⟩ := sliced_rest I1 ht1 (k := h) (by omega)
 have HS2 := Lib.hid hS2
 have L2 : q + o ≤ s2 := by omega
 have U2 : s2 ≤ 40 := by omega
 have Hs2 := Lib.hid hs2
 clear hS2 hs2
 go_wp2_with fail
 obtain ⟨y1, hY1⟩ : ∃ y1, y1 = (((w1.setCell ⟨x.heap.size, 0, none⟩ (.int .i64 h)).setCell ⟨x.heap.size, 1, none⟩ (.int .i64 i)).setCell ⟨x.heap.size, 2, none⟩ (.slice A1' p c1')) := ⟨_, rfl⟩
 rw [← hY1]
 have hm1y : Blk y1 x.heap.size 102 #[.int .i64 h, .int .i64 i, .slice A1' p c1', .int .i64 0, .int .i64 0, .slice none 0 0, .slice none 0 0, .slice none 0 0] := by rw [hY1]; exact (((hm1.put 0 _).put 1 _).put 2 _)
 have hg1y : Blk y1 w.heap.size 56 #[.slice S1 s1 t1] := by rw [hY1]; exact (((hg1.far (by simp; omega) _).far (by simp; omega) _).far (by simp; omega) _)
 have hr1y : Blk y1 (w.heap.size + 1) 102 #[.int .i64 0, .int .i64 0, .slice none 0 0, .int .i64 0, .int .i64 0, .slice none 0 0, .slice none 0 0, .slice none 0 0] := by rw [hY1]; exact (((hr1.far (by simp; omega) _).far (by simp; omega) _).far (by simp; omega) _)
 have hb1y : Below w.heap.size w y1 := by rw [hY1]; exact (((hb1.setCell (by simp; omega) _).setCell (by simp; omega) _).setCell (by simp; omega) _)
 have o1_1y : y1.ownsRow (x.heap.size + 1) 3 1 (.slice A1' p c1') p ((xs.take p).map (.int .i64)) := by rw [hY1]; exact (own_far (own_far (own_far o1_1 (p := ⟨x.heap.size, 0, none⟩) (by simp) _) (p := ⟨x.heap.size, 1, none⟩) (by simp) _) (p := ⟨x.heap.size, 2, none⟩) (by simp) _)
 have hl1y : x.heap.size < y1.heap.size := hm1y.lt
 clear hY1 hm1 hg1 hr1 hb1 o1_1 m1_0 m1_1 m1_2 mz1_0 mz1_1 mz1_2
 refine (pup_take _ w.heap.size S1 s1 t1 h (xs.drop p) (by exact hg1y) (by exact (I1.below hb1y)) (by omega) ht1 (by omega)).mono ?_
 rintro e w2 hT
 obtain ⟨A2', c2', rfl, ho2, b2, hg2⟩ := hT.o (by exact hg1y)
 rw [HS2.out] at hg2
 clear hT
 have hm2 := hm1y.but b2 (by omega)
 have hr2 := hr1y.but b2 (by omega)
 have hb2 := hb1y.trans (b2.below (Nat.le_refl _) (by omega))
 have o1_2 := own_but o1_1y b2 (by omega)
 have o2_2 := own_base ho2 (base' := x.heap.size + 1) (by omega)
 clear ho2 b2 hm1y hr1y hb1y hg1y hl1y o1_1y
 have m2_6 : w2.cell? ⟨x.heap.size, 6, none⟩ = some (.slice none 0 0) := hm2.cell 6
 have mz2_6 := hm2.frozen 6
 obtain ⟨S3, s3, t3, hS3, hs3, ht3, I3⟩ := sliced_rest I2 ht2 (k := q) (by omega)
 have HS3 := Lib.hid hS3
 have L3 : o ≤ s3 := by omega
 have U3 : s3 ≤ 40 := by omega
 have Hs3 := Lib.hid hs3
 clear hS3 hs3
 go_wp2_with fail
 rw [E2.out]
 obtain ⟨y2, hY2⟩ : ∃ y2, y2 = (w2.setCell ⟨x.heap.size, 6, none⟩ (.slice A2' h c2')) := ⟨_, rfl⟩
 rw [← hY2]
 have hm2y : Blk y2 x.heap.size 102 #[.int .i64 h, .int .i64 i, .slice A1' p c1', .int .i64 0, .int .i64 0, .slice none 0 0, .slice A2' h c2', .slice none 0 0] := by rw [hY2]; exact (hm2.put 6 _)
 have hg2y : Blk y2 w.heap.size 56 #[.slice S2 s2 t2] := by rw [hY2]; exact (hg2.far (by simp; omega) _)
 have hr2y : Blk y2 (w.heap.size + 1) 102 #[.int .i64 0, .int .i64 0, .slice none 0 0, .int .i64 0, .int .i64 0, .slice none 0 0, .slice none 0 0, .slice none 0 0] := by rw [hY2]; exact (hr2.far (by simp; omega) _)
 have hb2y : Below w.heap.size w y2 := by rw [hY2]; exact (hb2.setCell (by simp; omega) _)
 have o1_2y : y2.ownsRow (x.heap.size + 1) 3 1 (.slice A1' p c1') p ((xs.take p).map (.int .i64)) := by rw [hY2]; exact (own_far o1_2 (p := ⟨x.heap.size, 6, none⟩) (by simp) _)
 have o2_2y : y2.ownsRow (x.heap.size + 1) 3 1 (.slice A2' h c2') h (((xs.drop p).take h).map (.int .i64)) := by rw [hY2]; exact (own_far o2_2 (p := ⟨x.heap.size, 6, none⟩) (by simp) _)
 have hl2y : x.heap.size < y2.heap.size := hm2y.lt
 clear hY2 hm2 hg2 hr2 hb2 o1_2 o2_2 m2_6 mz2_6
 refine (pup_take _ w.heap.size S2 s2 t2 q ((xs.drop p).drop h) (by exact hg2y) (by exact (I2.below hb2y)) (by omega) ht2 (by omega)).mono ?_
 rintro e w3 hT
 obtain ⟨A3', c3', rfl, ho3, b3, hg3⟩ := hT.o (by exact hg2y)
 rw [HS3.out] at hg3
 clear hT
 have hm3 := hm2y.but b3 (by omega)
 have hr3 := hr2y.but b3 (by omega)
 have hb3 := hb2y.trans (b3.below (Nat.le_refl _) (by omega))
 have o1_3 := own_but o1_2y b3 (by omega)
 have o2_3 := own_but o2_2y b3 (by omega)
 have o3_3 := own_base ho3 (base' := x.heap.size + 1) (by omega)
 clear ho3 b3 hm2y hr2y hb2y hg2y hl2y o1_2y o2_2y
 have m3_3 : w3.cell? ⟨x.heap.size, 3, none⟩ = some (.int .i64 0) := hm3.cell 3
 have mz3_3 := hm3.frozen 3
 have m3_4 : w3.cell? ⟨x.heap.size, 4, none⟩ = some (.int .i64 0) := hm3.cell 4
 have mz3_4 := hm3.frozen 4
 have m3_5 : w3.cell? ⟨x.heap.size, 5, none⟩ = some (.slice none 0 0) := hm3.cell 5
 have mz3_5 := hm3.frozen 5
 obtain ⟨S4, s4, t4, hS4, hs4, ht4, I4⟩ := sliced_rest I3 ht3 (k := o) (by omega)
 have HS4 := Lib.hid hS4
 have L4 : 0 ≤ s4 := by omega
 have U4 : s4 ≤ 40 := by omega
 have Hs4 := Lib.hid hs4
 clear hS4 hs4
 go_wp2_with fail
 obtain ⟨y3, hY3⟩ : ∃ y3, y3 = (((w3.setCell ⟨x.heap.size, 3, none⟩ (.int .i64 o)).setCell ⟨x.heap.size, 4, none⟩ (.int .i64 h)).setCell ⟨x.heap.size, 5, none⟩ (.slice A3' q c3')) := ⟨_, rfl⟩
 rw [← hY3]
 have hm3y : Blk y3 x.heap.size 102 #[.int .i64 h, .int .i64 i, .slice A1' p c1', .int .i64 o, .int .i64 h, .slice A3' q c3', .slice A2' h c2', .slice none 0 0] := by rw [hY3]; exact (((hm3.put 3 _).put 4 _).put 5 _)
 have hg3y : Blk y3 w.heap.size 56 #[.slice S3 s3 t3] := by rw [hY3]; exact (((hg3.far (by simp; omega) _).far (by simp; omega) _).far (by simp; omega) _)
 have hr3y : Blk y3 (w.heap.size + 1) 102 #[.int .i64 0, .int .i64 0, .slice none 0 0, .int .i64 0, .int .i64 0, .slice none 0 0, .slice none 0 0, .slice none 0 0] := by rw [hY3]; exact (((hr3.far (by simp; omega) _).far (by simp; omega) _).far (by simp; omega) _)
 have hb3y : Below w.heap.size w y3 := by rw [hY3]; exact (((hb3.setCell (by simp; omega) _).setCell (by simp; omega) _).setCell (by simp; omega) _)
 have o1_3y : y3.ownsRow (x.heap.size + 1) 3 1 (.slice A1' p c1') p ((xs.take p).map (.int .i64)) := by rw [hY3]; exact (own_far (own_far (own_far o1_3 (p := ⟨x.heap.size, 3, none⟩) (by simp) _) (p := ⟨x.heap.size, 4, none⟩) (by simp) _) (p := ⟨x.heap.size, 5, none⟩) (by simp) _)
 have o2_3y : y3.ownsRow (x.heap.size + 1) 3 1 (.slice A2' h c2') h (((xs.drop p).take h).map (.int .i64)) := by rw [hY3]; exact (own_far (own_far (own_far o2_3 (p := ⟨x.heap.size, 3, none⟩) (by simp) _) (p := ⟨x.heap.size, 4, none⟩) (by simp) _) (p := ⟨x.heap.size, 5, none⟩) (by simp) _)
 have o3_3y : y3.ownsRow (x.heap.size + 1) 3 1 (.slice A3' q c3') q ((((xs.drop p).drop h).take q).map (.int .i64)) := by rw [hY3]; exact (own_far (own_far (own_far o3_3 (p := ⟨x.heap.size, 3, none⟩) (by simp) _) (p := ⟨x.heap.size, 4, none⟩) (by simp) _) (p := ⟨x.heap.size, 5, none⟩) (by simp) _)
 have hl3y : x.heap.size < y3.heap.size := hm3y.lt
 clear hY3 hm3 hg3 hr3 hb3 o1_3 o2_3 o3_3 m3_3 m3_4 m3_5 mz3_3 mz3_4 mz3_5
 refine (pup_take _ w.heap.size S3 s3 t3 o (((xs.drop p).drop h).drop q) (by exact hg3y) (by exact (I3.below hb3y)) (by omega) ht3 (by omega)).mono ?_
 rintro e w4 hT
 obtain ⟨A4', c4', rfl, ho4, b4, hg4⟩ := hT.o (by exact hg3y)
 rw [HS4.out] at hg4
 clear hT
 have hm4 := hm3y.but b4 (by omega)
 have hr4 := hr3y.but b4 (by omega)
 have hb4 := hb3y.trans (b4.below (Nat.le_refl _) (by omega))
 have o1_4 := own_but o1_3y b4 (by omega)
 have o2_4 := own_but o2_3y b4 (by omega)
 have o3_4 := own_but o3_3y b4 (by omega)
 have o4_4 := own_base ho4 (base' := x.heap.size + 1) (by omega)
 clear ho4 b4 hm3y hr3y hb3y hg3y hl3y o1_3y o2_3y o3_3y
 have m4_7 : w4.cell? ⟨x.heap.size, 7, none⟩ = some (.slice none 0 0) := hm4.cell 7
 have mz4_7 := hm4.frozen 7
 have m4_0 : w4.cell? ⟨x.heap.size, 0, none⟩ = some (.int .i64 h) := hm4.cell 0
 have m4_1 : w4.cell? ⟨x.heap.size, 1, none⟩ = some (.int .i64 i) := hm4.cell 1
 have m4_2 : w4.cell? ⟨x.heap.size, 2, none⟩ = some (.slice A1' p c1') := hm4.cell 2
 have m4_3 : w4.cell? ⟨x.heap.size, 3, none⟩ = some (.int .i64 o) := hm4.cell 3
 have m4_4 : w4.cell? ⟨x.heap.size, 4, none⟩ = some (.int .i64 h) := hm4.cell 4
 have m4_5 : w4.cell? ⟨x.heap.size, 5, none⟩ = some (.slice A3' q c3') := hm4.cell 5
 have m4_6 : w4.cell? ⟨x.heap.size, 6, none⟩ = some (.slice A2' h c2') := hm4.cell 6
 have d0 : w4.cell? ⟨w.heap.size + 1, 0, none⟩ = some (.int .i64 0) := hr4.cell 0
 have dz0 := hr4.frozen 0
 have d1 : w4.cell? ⟨w.heap.size + 1, 1, none⟩ = some (.int .i64 0) := hr4.cell 1
 have dz1 := hr4.frozen 1
 have d2 : w4.cell? ⟨w.heap.size + 1, 2, none⟩ = some (.slice none 0 0) := hr4.cell 2
 have dz2 := hr4.frozen 2
 have d3 : w4.cell? ⟨w.heap.size + 1, 3, none⟩ = some (.int .i64 0) := hr4.cell 3
 have dz3 := hr4.frozen 3
 have d4 : w4.cell? ⟨w.heap.size + 1, 4, none⟩ = some (.int .i64 0) := hr4.cell 4
 have dz4 := hr4.frozen 4
 have d5 : w4.cell? ⟨w.heap.size + 1, 5, none⟩ = some (.slice none 0 0) := hr4.cell 5
 have dz5 := hr4.frozen 5
 have d6 : w4.cell? ⟨w.heap.size + 1, 6, none⟩ = some (.slice none 0 0) := hr4.cell 6
 have dz6 := hr4.frozen 6
 have d7 : w4.cell? ⟨w.heap.size + 1, 7, none⟩ = some (.slice none 0 0) := hr4.cell 7
 have dz7 := hr4.frozen 7
 have ne1 : ¬ w.heap.size + 1 = x.heap.size := by omega
 have ne2 : ¬ x.heap.size = w.heap.size + 1 := by omega
 go_wp2
 refine bodyPost_ret (v := .tuple #[.agg #[.int .i64 h, .int .i64 i, .slice A1' p c1', .int .i64 o, .int .i64 h, .slice A3' q c3', .slice A2' h c2', .slice A4' o c4'], .int .i64 0]) (by simp [results, Tryz.results54, go_sem, d0, d1, d2, d3, d4, d5, d6, d7]) rfl ?_
 have hD1 : (xs.drop p).drop h = xs.drop (p + h) := List.drop_drop
 have hD2 : ((xs.drop p).drop h).drop q = xs.drop (p + h + q) := by rw [hD1, List.drop_drop]
 rw [hD2] at o4_4
 rw [hD1] at o3_4
 have l1 : (xs.take p).length = p := by rw [List.length_take, hx.len]; have := HN.out; omega
 have l2 : ((xs.drop p).take h).length = h := by rw [List.length_take, List.length_drop, hx.len]; have := HN.out; omega
 have l3 : ((xs.drop (p + h)).take q).length = q := by rw [List.length_take, List.length_drop, hx.len]; have := HN.out; omega
 have l4 : ((xs.drop (p + h + q)).take o).length = o := by rw [List.length_take, List.length_drop, hx.len]; have := HN.out; omega
 have o1_4z := own_far o1_4 (p := ⟨x.heap.size, 7, none⟩) (by simp) (.slice A4' o c4')
 have o2_4z := own_far o2_4 (p := ⟨x.heap.size, 7, none⟩) (by simp) (.slice A4' o c4')
 have o3_4z := own_far o3_4 (p := ⟨x.heap.size, 7, none⟩) (by simp) (.slice A4' o c4')
 have o4_4z := own_far o4_4 (p := ⟨x.heap.size, 7, none⟩) (by simp) (.slice A4' o c4')
 have hb4z := hb4.setCell (p := ⟨x.heap.size, 7, none⟩) (by simp; omega) (.slice A4' o c4')
 refine ⟨A1', c1', A3', c3', A2', c2', A4', c4', ?_, ?_, ?_, ?_, ?_, ((((((((hb4z.setCell (by simp) _).setCell (by simp) _).setCell (by simp) _).setCell (by simp) _).setCell (by simp) _).setCell (by simp) _).setCell (by simp) _).setCell (by simp) _)⟩
 ·simp only [l1, l2, l3, l4]
 ·dsimp only; rw [l1]; exact own_base (own_far (own_far (own_far (own_far (own_far (own_far (own_far (own_far o1_4z (p := ⟨w.heap.size + 1, 0, none⟩) (by simp; omega) _) (p := ⟨w.heap.size + 1, 1, none⟩) (by simp; omega) _) (p := ⟨w.heap.size + 1, 2, none⟩) (by simp; omega) _) (p := ⟨w.heap.size + 1, 3, none⟩) (by simp; omega) _) (p := ⟨w.heap.size + 1, 4, none⟩) (by simp; omega) _) (p := ⟨w.heap.size + 1, 5, none⟩) (by simp; omega) _) (p := ⟨w.heap.size + 1, 6, none⟩) (by simp; omega) _) (p := ⟨w.heap.size + 1, 7, none⟩) (by simp; omega) _) (by omega)
 ·dsimp only; rw [l3]; exact own_base (own_far (own_far (own_far (own_far (own_far (own_far (own_far (own_far o3_4z (p := ⟨w.heap.size + 1, 0, none⟩) (by simp; omega) _) (p := ⟨w.heap.size + 1, 1, none⟩) (by simp; omega) _) (p := ⟨w.heap.size + 1, 2, none⟩) (by simp; omega) _) (p := ⟨w.heap.size + 1, 3, none⟩) (by simp; omega) _) (p := ⟨w.heap.size + 1, 4, none⟩) (by simp; omega) _) (p := ⟨w.heap.size + 1, 5, none⟩) (by simp; omega) _) (p := ⟨w.heap.size + 1, 6, none⟩) (by simp; omega) _) (p := ⟨w.heap.size + 1, 7, none⟩) (by simp; omega) _) (by omega)
 ·dsimp only; rw [l2]; exact own_base (own_far (own_far (own_far (own_far (own_far (own_far (own_far (own_far o2_4z (p := ⟨w.heap.size + 1, 0, none⟩) (by simp; omega) _) (p := ⟨w.heap.size + 1, 1, none⟩) (by simp; omega) _) (p := ⟨w.heap.size + 1, 2, none⟩) (by simp; omega) _) (p := ⟨w.heap.size + 1, 3, none⟩) (by simp; omega) _) (p := ⟨w.heap.size + 1, 4, none⟩) (by simp; omega) _) (p := ⟨w.heap.size + 1, 5, none⟩) (by simp; omega) _) (p := ⟨w.heap.size + 1, 6, none⟩) (by simp; omega) _) (p := ⟨w.heap.size + 1, 7, none⟩) (by simp; omega) _) (by omega)
 ·dsimp only; rw [l4]; exact own_base (own_far (own_far (own_far (own_far (own_far (own_far (own_far (own_far o4_4z (p := ⟨w.heap.size + 1, 0, none⟩) (by simp; omega) _) (p := ⟨w.heap.size + 1, 1, none⟩) (by simp; omega) _) (p := ⟨w.heap.size + 1, 2, none⟩) (by simp; omega) _) (p := ⟨w.heap.size + 1, 3, none⟩) (by simp; omega) _) (p := ⟨w.heap.size + 1, 4, none⟩) (by simp; omega) _) (p := ⟨w.heap.size + 1, 5, none⟩) (by simp; omega) _) (p := ⟨w.heap.size + 1, 6, none⟩) (by simp; omega) _) (p := ⟨w.heap.size + 1, 7, none⟩) (by simp; omega) _) (by omega)
end Go.Proofs.YtgodgedhddngeaaGreatDoor
