/- What the document's own text says is wrong with a pupil; numbers of pupils: walks, each function once. -/
import Derived.Test.YtcfmjpcbiomdbaaPupW
namespace Go.Proofs.Ytcfmjpcbiomdbaa
open Go.RowKit Pl

set_option maxRecDepth 100000 in
set_option maxHeartbeats 4000000 in
theorem ref_Pupil (r1 c1 : Int) (A1 : Option Addr) (n1 k1 : Nat) (a1 : List Int) (r2 c2 : Int) (A2 : Option Addr) (n2 k2 : Nat) (a2 : List Int) (B1 : Option Addr) (m1 d1 : Nat) (b1 : List Int) (B2 : Option Addr) (m2 d2 : Nat) (b2 : List Int) (w : World) (i1 : Ints .i64 w A1 n1 a1) (i2 : Ints .i64 w A2 n2 a2) (j1 : Ints .i64 w B1 m1 b1) (j2 : Ints .i64 w B2 m2 b2) (h1 : n1 ≤ 9223372036854775807) (h2 : n2 ≤ 9223372036854775807) (h3 : m1 ≤ 9223372036854775807) (h4 : m2 ≤ 9223372036854775807) :
    Calls Try.prog 31 #[(.agg #[.int .i64 r1, .int .i64 c1, .slice A1 n1 k1, .int .i64 r2, .int .i64 c2, .slice A2 n2 k2, .slice B1 m1 d1, .slice B2 m2 d2])] w fun e w' => e = .returned (.int .i64 (pupE r1 c1 a1 r2 c2 a2 b1 b2)) ∧ Below w.heap.size w w' := by
  by_cases e1 : matE r1 c1 a1 = 0
  · by_cases e2 : matE r2 c2 a2 = 0
    · by_cases f1 : c2 = r1
      · by_cases f2 : (m1 : Int) = r1
        · by_cases f3 : (m2 : Int) = r2
          · cases o1 : okL b1
            · have t3 : (c2 != r1) = false := by rw [bne_eq_false_iff_eq]; exact f1
              have t4 : ((m1 : Int) != r1) = false := by rw [bne_eq_false_iff_eq]; exact f2
              have t5 : ((m2 : Int) != r2) = false := by rw [bne_eq_false_iff_eq]; exact f3
              have F := Lib.hid (pupE_3 (a1 := a1) (b1 := b1) (b2 := b2) e1 e2 (.inr (.inr (.inr (.inl o1)))))
              have E1 := Lib.hid e1
              have E2 := Lib.hid e2
              have O1 := Lib.hid o1
              clear e1 e2 f1 f2 f3 o1
              go_enter Try.func31, Try.ntmps31
              go_wp2_with fail
              refine (ref_Matrix r1 c1 A1 n1 k1 a1 _ (by exact i1.alloc _) h1).mono ?_
              rintro e x1 ⟨rfl, hb1⟩
              have hbw : Below w.heap.size w x1 := Below.trans (B := w.heap.size) (by repeat (first | exact Below.refl _ _ | assumption | refine bel_drewN ?_ _ | refine Below.drew ?_ | (refine Below.alloc ?_ (by simp <;> omega) _) | (refine Below.setCell ?_ (by simp <;> omega) _))) (hb1.mono (by simp <;> omega))
              rw [E1.out]
              have hP : Blk x1 w.heap.size 67 #[.int .i64 r1, .int .i64 c1, .slice A1 n1 k1, .int .i64 r2, .int .i64 c2, .slice A2 n2 k2, .slice B1 m1 d1, .slice B2 m2 d2] := (Blk.made w _ _).below hb1 (by simp <;> omega)
              have p0 : x1.cell? ⟨w.heap.size, 0, none⟩ = some (.int .i64 r1) := hP.cell 0
              have p1 : x1.cell? ⟨w.heap.size, 1, none⟩ = some (.int .i64 c1) := hP.cell 1
              have p2 : x1.cell? ⟨w.heap.size, 2, none⟩ = some (.slice A1 n1 k1) := hP.cell 2
              have p3 : x1.cell? ⟨w.heap.size, 3, none⟩ = some (.int .i64 r2) := hP.cell 3
              have p4 : x1.cell? ⟨w.heap.size, 4, none⟩ = some (.int .i64 c2) := hP.cell 4
              have p5 : x1.cell? ⟨w.heap.size, 5, none⟩ = some (.slice A2 n2 k2) := hP.cell 5
              have p6 : x1.cell? ⟨w.heap.size, 6, none⟩ = some (.slice B1 m1 d1) := hP.cell 6
              have p7 : x1.cell? ⟨w.heap.size, 7, none⟩ = some (.slice B2 m2 d2) := hP.cell 7
              have hs1 : w.heap.size < x1.heap.size := hP.lt
              go_wp2_with fail
              refine (ref_Matrix r2 c2 A2 n2 k2 a2 _ (by exact i2.below hbw) h2).mono ?_
              rintro e x2 ⟨rfl, hb2⟩
              have hbx : Below w.heap.size w x2 := hbw.trans (hb2.mono (by omega))
              rw [E2.out]
              have hP2 := hP.below hb2 hP.lt
              clear p0 p1 p2 p3 p4 p5 p6 p7
              have p0 : x2.cell? ⟨w.heap.size, 0, none⟩ = some (.int .i64 r1) := hP2.cell 0
              have p1 : x2.cell? ⟨w.heap.size, 1, none⟩ = some (.int .i64 c1) := hP2.cell 1
              have p2 : x2.cell? ⟨w.heap.size, 2, none⟩ = some (.slice A1 n1 k1) := hP2.cell 2
              have p3 : x2.cell? ⟨w.heap.size, 3, none⟩ = some (.int .i64 r2) := hP2.cell 3
              have p4 : x2.cell? ⟨w.heap.size, 4, none⟩ = some (.int .i64 c2) := hP2.cell 4
              have p5 : x2.cell? ⟨w.heap.size, 5, none⟩ = some (.slice A2 n2 k2) := hP2.cell 5
              have p6 : x2.cell? ⟨w.heap.size, 6, none⟩ = some (.slice B1 m1 d1) := hP2.cell 6
              have p7 : x2.cell? ⟨w.heap.size, 7, none⟩ = some (.slice B2 m2 d2) := hP2.cell 7
              have ib1 := j1.below hbx
              have ib2 := j2.below hbx
              clear hP hb1 hb2 hP2
              go_wp2_with fail
              refine (ref_Right B1 m1 d1 b1 _ (by exact ib1) h3).mono ?_
              rintro e y1 ⟨rfl, kq1, rfl⟩
              rw [O1.out]
              go_wp2
              go_ret
              exact ⟨ret_int F.out.symm, bel_drewN hbx _⟩
            · cases o2 : okL b2
              · have t3 : (c2 != r1) = false := by rw [bne_eq_false_iff_eq]; exact f1
                have t4 : ((m1 : Int) != r1) = false := by rw [bne_eq_false_iff_eq]; exact f2
                have t5 : ((m2 : Int) != r2) = false := by rw [bne_eq_false_iff_eq]; exact f3
                have F := Lib.hid (pupE_3 (a1 := a1) (b1 := b1) (b2 := b2) e1 e2 (.inr (.inr (.inr (.inr o2)))))
                have E1 := Lib.hid e1
                have E2 := Lib.hid e2
                have O1 := Lib.hid o1
                have O2 := Lib.hid o2
                clear e1 e2 f1 f2 f3 o1 o2
                go_enter Try.func31, Try.ntmps31
                go_wp2_with fail
                refine (ref_Matrix r1 c1 A1 n1 k1 a1 _ (by exact i1.alloc _) h1).mono ?_
                rintro e x1 ⟨rfl, hb1⟩
                have hbw : Below w.heap.size w x1 := Below.trans (B := w.heap.size) (by repeat (first | exact Below.refl _ _ | assumption | refine bel_drewN ?_ _ | refine Below.drew ?_ | (refine Below.alloc ?_ (by simp <;> omega) _) | (refine Below.setCell ?_ (by simp <;> omega) _))) (hb1.mono (by simp <;> omega))
                rw [E1.out]
                have hP : Blk x1 w.heap.size 67 #[.int .i64 r1, .int .i64 c1, .slice A1 n1 k1, .int .i64 r2, .int .i64 c2, .slice A2 n2 k2, .slice B1 m1 d1, .slice B2 m2 d2] := (Blk.made w _ _).below hb1 (by simp <;> omega)
                have p0 : x1.cell? ⟨w.heap.size, 0, none⟩ = some (.int .i64 r1) := hP.cell 0
                have p1 : x1.cell? ⟨w.heap.size, 1, none⟩ = some (.int .i64 c1) := hP.cell 1
                have p2 : x1.cell? ⟨w.heap.size, 2, none⟩ = some (.slice A1 n1 k1) := hP.cell 2
                have p3 : x1.cell? ⟨w.heap.size, 3, none⟩ = some (.int .i64 r2) := hP.cell 3
                have p4 : x1.cell? ⟨w.heap.size, 4, none⟩ = some (.int .i64 c2) := hP.cell 4
                have p5 : x1.cell? ⟨w.heap.size, 5, none⟩ = some (.slice A2 n2 k2) := hP.cell 5
                have p6 : x1.cell? ⟨w.heap.size, 6, none⟩ = some (.slice B1 m1 d1) := hP.cell 6
                have p7 : x1.cell? ⟨w.heap.size, 7, none⟩ = some (.slice B2 m2 d2) := hP.cell 7
                have hs1 : w.heap.size < x1.heap.size := hP.lt
                go_wp2_with fail
                refine (ref_Matrix r2 c2 A2 n2 k2 a2 _ (by exact i2.below hbw) h2).mono ?_
                rintro e x2 ⟨rfl, hb2⟩
                have hbx : Below w.heap.size w x2 := hbw.trans (hb2.mono (by omega))
                rw [E2.out]
                have hP2 := hP.below hb2 hP.lt
                clear p0 p1 p2 p3 p4 p5 p6 p7
                have p0 : x2.cell? ⟨w.heap.size, 0, none⟩ = some (.int .i64 r1) := hP2.cell 0
                have p1 : x2.cell? ⟨w.heap.size, 1, none⟩ = some (.int .i64 c1) := hP2.cell 1
                have p2 : x2.cell? ⟨w.heap.size, 2, none⟩ = some (.slice A1 n1 k1) := hP2.cell 2
                have p3 : x2.cell? ⟨w.heap.size, 3, none⟩ = some (.int .i64 r2) := hP2.cell 3
                have p4 : x2.cell? ⟨w.heap.size, 4, none⟩ = some (.int .i64 c2) := hP2.cell 4
                have p5 : x2.cell? ⟨w.heap.size, 5, none⟩ = some (.slice A2 n2 k2) := hP2.cell 5
                have p6 : x2.cell? ⟨w.heap.size, 6, none⟩ = some (.slice B1 m1 d1) := hP2.cell 6
                have p7 : x2.cell? ⟨w.heap.size, 7, none⟩ = some (.slice B2 m2 d2) := hP2.cell 7
                have ib1 := j1.below hbx
                have ib2 := j2.below hbx
                clear hP hb1 hb2 hP2
                go_wp2_with fail
                refine (ref_Right B1 m1 d1 b1 _ (by exact ib1) h3).mono ?_
                rintro e y1 ⟨rfl, kq1, rfl⟩
                rw [O1.out]
                go_wp2_with fail
                refine (ref_Right B2 m2 d2 b2 _ (by exact ib2.drewN _) h4).mono ?_
                rintro e y2 ⟨rfl, kq2, rfl⟩
                rw [O2.out]
                go_wp2
                go_ret
                exact ⟨ret_int F.out.symm, bel_drewN hbx _⟩
              · have t3 : (c2 != r1) = false := by rw [bne_eq_false_iff_eq]; exact f1
                have t4 : ((m1 : Int) != r1) = false := by rw [bne_eq_false_iff_eq]; exact f2
                have t5 : ((m2 : Int) != r2) = false := by rw [bne_eq_false_iff_eq]; exact f3
                have F := Lib.hid (pupE_4 (a1 := a1) e1 e2 f1 (by rw [j1.len]; exact f2) (by rw [j2.len]; exact f3) o1 o2)
                have E1 := Lib.hid e1
                have E2 := Lib.hid e2
                have O1 := Lib.hid o1
                have O2 := Lib.hid o2
                clear e1 e2 f1 f2 f3 o1 o2
                go_enter Try.func31, Try.ntmps31
                go_wp2_with fail
                refine (ref_Matrix r1 c1 A1 n1 k1 a1 _ (by exact i1.alloc _) h1).mono ?_
                rintro e x1 ⟨rfl, hb1⟩
                have hbw : Below w.heap.size w x1 := Below.trans (B := w.heap.size) (by repeat (first | exact Below.refl _ _ | assumption | refine bel_drewN ?_ _ | refine Below.drew ?_ | (refine Below.alloc ?_ (by simp <;> omega) _) | (refine Below.setCell ?_ (by simp <;> omega) _))) (hb1.mono (by simp <;> omega))
                rw [E1.out]
                have hP : Blk x1 w.heap.size 67 #[.int .i64 r1, .int .i64 c1, .slice A1 n1 k1, .int .i64 r2, .int .i64 c2, .slice A2 n2 k2, .slice B1 m1 d1, .slice B2 m2 d2] := (Blk.made w _ _).below hb1 (by simp <;> omega)
                have p0 : x1.cell? ⟨w.heap.size, 0, none⟩ = some (.int .i64 r1) := hP.cell 0
                have p1 : x1.cell? ⟨w.heap.size, 1, none⟩ = some (.int .i64 c1) := hP.cell 1
                have p2 : x1.cell? ⟨w.heap.size, 2, none⟩ = some (.slice A1 n1 k1) := hP.cell 2
                have p3 : x1.cell? ⟨w.heap.size, 3, none⟩ = some (.int .i64 r2) := hP.cell 3
                have p4 : x1.cell? ⟨w.heap.size, 4, none⟩ = some (.int .i64 c2) := hP.cell 4
                have p5 : x1.cell? ⟨w.heap.size, 5, none⟩ = some (.slice A2 n2 k2) := hP.cell 5
                have p6 : x1.cell? ⟨w.heap.size, 6, none⟩ = some (.slice B1 m1 d1) := hP.cell 6
                have p7 : x1.cell? ⟨w.heap.size, 7, none⟩ = some (.slice B2 m2 d2) := hP.cell 7
                have hs1 : w.heap.size < x1.heap.size := hP.lt
                go_wp2_with fail
                refine (ref_Matrix r2 c2 A2 n2 k2 a2 _ (by exact i2.below hbw) h2).mono ?_
                rintro e x2 ⟨rfl, hb2⟩
                have hbx : Below w.heap.size w x2 := hbw.trans (hb2.mono (by omega))
                rw [E2.out]
                have hP2 := hP.below hb2 hP.lt
                clear p0 p1 p2 p3 p4 p5 p6 p7
                have p0 : x2.cell? ⟨w.heap.size, 0, none⟩ = some (.int .i64 r1) := hP2.cell 0
                have p1 : x2.cell? ⟨w.heap.size, 1, none⟩ = some (.int .i64 c1) := hP2.cell 1
                have p2 : x2.cell? ⟨w.heap.size, 2, none⟩ = some (.slice A1 n1 k1) := hP2.cell 2
                have p3 : x2.cell? ⟨w.heap.size, 3, none⟩ = some (.int .i64 r2) := hP2.cell 3
                have p4 : x2.cell? ⟨w.heap.size, 4, none⟩ = some (.int .i64 c2) := hP2.cell 4
                have p5 : x2.cell? ⟨w.heap.size, 5, none⟩ = some (.slice A2 n2 k2) := hP2.cell 5
                have p6 : x2.cell? ⟨w.heap.size, 6, none⟩ = some (.slice B1 m1 d1) := hP2.cell 6
                have p7 : x2.cell? ⟨w.heap.size, 7, none⟩ = some (.slice B2 m2 d2) := hP2.cell 7
                have ib1 := j1.below hbx
                have ib2 := j2.below hbx
                clear hP hb1 hb2 hP2
                go_wp2_with fail
                refine (ref_Right B1 m1 d1 b1 _ (by exact ib1) h3).mono ?_
                rintro e y1 ⟨rfl, kq1, rfl⟩
                rw [O1.out]
                go_wp2_with fail
                refine (ref_Right B2 m2 d2 b2 _ (by exact ib2.drewN _) h4).mono ?_
                rintro e y2 ⟨rfl, kq2, rfl⟩
                rw [O2.out]
                go_wp2
                go_ret
                exact ⟨ret_int F.out.symm, bel_drewN hbx _⟩
          · have t3 : (c2 != r1) = false := by rw [bne_eq_false_iff_eq]; exact f1
            have t4 : ((m1 : Int) != r1) = false := by rw [bne_eq_false_iff_eq]; exact f2
            have t5 : ((m2 : Int) != r2) = true := by rw [bne_iff_ne]; exact f3
            have F := Lib.hid (pupE_3 (a1 := a1) (b1 := b1) (b2 := b2) e1 e2 (.inr (.inr (.inl (by rw [j2.len]; exact f3)))))
            have E1 := Lib.hid e1
            have E2 := Lib.hid e2
            clear e1 e2 f1 f2 f3
            go_enter Try.func31, Try.ntmps31
            go_wp2_with fail
            refine (ref_Matrix r1 c1 A1 n1 k1 a1 _ (by exact i1.alloc _) h1).mono ?_
            rintro e x1 ⟨rfl, hb1⟩
            have hbw : Below w.heap.size w x1 := Below.trans (B := w.heap.size) (by repeat (first | exact Below.refl _ _ | assumption | refine bel_drewN ?_ _ | refine Below.drew ?_ | (refine Below.alloc ?_ (by simp <;> omega) _) | (refine Below.setCell ?_ (by simp <;> omega) _))) (hb1.mono (by simp <;> omega))
            rw [E1.out]
            have hP : Blk x1 w.heap.size 67 #[.int .i64 r1, .int .i64 c1, .slice A1 n1 k1, .int .i64 r2, .int .i64 c2, .slice A2 n2 k2, .slice B1 m1 d1, .slice B2 m2 d2] := (Blk.made w _ _).below hb1 (by simp <;> omega)
            have p0 : x1.cell? ⟨w.heap.size, 0, none⟩ = some (.int .i64 r1) := hP.cell 0
            have p1 : x1.cell? ⟨w.heap.size, 1, none⟩ = some (.int .i64 c1) := hP.cell 1
            have p2 : x1.cell? ⟨w.heap.size, 2, none⟩ = some (.slice A1 n1 k1) := hP.cell 2
            have p3 : x1.cell? ⟨w.heap.size, 3, none⟩ = some (.int .i64 r2) := hP.cell 3
            have p4 : x1.cell? ⟨w.heap.size, 4, none⟩ = some (.int .i64 c2) := hP.cell 4
            have p5 : x1.cell? ⟨w.heap.size, 5, none⟩ = some (.slice A2 n2 k2) := hP.cell 5
            have p6 : x1.cell? ⟨w.heap.size, 6, none⟩ = some (.slice B1 m1 d1) := hP.cell 6
            have p7 : x1.cell? ⟨w.heap.size, 7, none⟩ = some (.slice B2 m2 d2) := hP.cell 7
            have hs1 : w.heap.size < x1.heap.size := hP.lt
            go_wp2_with fail
            refine (ref_Matrix r2 c2 A2 n2 k2 a2 _ (by exact i2.below hbw) h2).mono ?_
            rintro e x2 ⟨rfl, hb2⟩
            have hbx : Below w.heap.size w x2 := hbw.trans (hb2.mono (by omega))
            rw [E2.out]
            have hP2 := hP.below hb2 hP.lt
            clear p0 p1 p2 p3 p4 p5 p6 p7
            have p0 : x2.cell? ⟨w.heap.size, 0, none⟩ = some (.int .i64 r1) := hP2.cell 0
            have p1 : x2.cell? ⟨w.heap.size, 1, none⟩ = some (.int .i64 c1) := hP2.cell 1
            have p2 : x2.cell? ⟨w.heap.size, 2, none⟩ = some (.slice A1 n1 k1) := hP2.cell 2
            have p3 : x2.cell? ⟨w.heap.size, 3, none⟩ = some (.int .i64 r2) := hP2.cell 3
            have p4 : x2.cell? ⟨w.heap.size, 4, none⟩ = some (.int .i64 c2) := hP2.cell 4
            have p5 : x2.cell? ⟨w.heap.size, 5, none⟩ = some (.slice A2 n2 k2) := hP2.cell 5
            have p6 : x2.cell? ⟨w.heap.size, 6, none⟩ = some (.slice B1 m1 d1) := hP2.cell 6
            have p7 : x2.cell? ⟨w.heap.size, 7, none⟩ = some (.slice B2 m2 d2) := hP2.cell 7
            have ib1 := j1.below hbx
            have ib2 := j2.below hbx
            clear hP hb1 hb2 hP2
            go_wp2
            go_ret
            exact ⟨ret_int F.out.symm, hbx⟩
        · have t3 : (c2 != r1) = false := by rw [bne_eq_false_iff_eq]; exact f1
          have t4 : ((m1 : Int) != r1) = true := by rw [bne_iff_ne]; exact f2
          have F := Lib.hid (pupE_3 (a1 := a1) (b1 := b1) (b2 := b2) e1 e2 (.inr (.inl (by rw [j1.len]; exact f2))))
          have E1 := Lib.hid e1
          have E2 := Lib.hid e2
          clear e1 e2 f1 f2
          go_enter Try.func31, Try.ntmps31
          go_wp2_with fail
          refine (ref_Matrix r1 c1 A1 n1 k1 a1 _ (by exact i1.alloc _) h1).mono ?_
          rintro e x1 ⟨rfl, hb1⟩
          have hbw : Below w.heap.size w x1 := Below.trans (B := w.heap.size) (by repeat (first | exact Below.refl _ _ | assumption | refine bel_drewN ?_ _ | refine Below.drew ?_ | (refine Below.alloc ?_ (by simp <;> omega) _) | (refine Below.setCell ?_ (by simp <;> omega) _))) (hb1.mono (by simp <;> omega))
          rw [E1.out]
          have hP : Blk x1 w.heap.size 67 #[.int .i64 r1, .int .i64 c1, .slice A1 n1 k1, .int .i64 r2, .int .i64 c2, .slice A2 n2 k2, .slice B1 m1 d1, .slice B2 m2 d2] := (Blk.made w _ _).below hb1 (by simp <;> omega)
          have p0 : x1.cell? ⟨w.heap.size, 0, none⟩ = some (.int .i64 r1) := hP.cell 0
          have p1 : x1.cell? ⟨w.heap.size, 1, none⟩ = some (.int .i64 c1) := hP.cell 1
          have p2 : x1.cell? ⟨w.heap.size, 2, none⟩ = some (.slice A1 n1 k1) := hP.cell 2
          have p3 : x1.cell? ⟨w.heap.size, 3, none⟩ = some (.int .i64 r2) := hP.cell 3
          have p4 : x1.cell? ⟨w.heap.size, 4, none⟩ = some (.int .i64 c2) := hP.cell 4
          have p5 : x1.cell? ⟨w.heap.size, 5, none⟩ = some (.slice A2 n2 k2) := hP.cell 5
          have p6 : x1.cell? ⟨w.heap.size, 6, none⟩ = some (.slice B1 m1 d1) := hP.cell 6
          have p7 : x1.cell? ⟨w.heap.size, 7, none⟩ = some (.slice B2 m2 d2) := hP.cell 7
          have hs1 : w.heap.size < x1.heap.size := hP.lt
          go_wp2_with fail
          refine (ref_Matrix r2 c2 A2 n2 k2 a2 _ (by exact i2.below hbw) h2).mono ?_
          rintro e x2 ⟨rfl, hb2⟩
          have hbx : Below w.heap.size w x2 := hbw.trans (hb2.mono (by omega))
          rw [E2.out]
          have hP2 := hP.below hb2 hP.lt
          clear p0 p1 p2 p3 p4 p5 p6 p7
          have p0 : x2.cell? ⟨w.heap.size, 0, none⟩ = some (.int .i64 r1) := hP2.cell 0
          have p1 : x2.cell? ⟨w.heap.size, 1, none⟩ = some (.int .i64 c1) := hP2.cell 1
          have p2 : x2.cell? ⟨w.heap.size, 2, none⟩ = some (.slice A1 n1 k1) := hP2.cell 2
          have p3 : x2.cell? ⟨w.heap.size, 3, none⟩ = some (.int .i64 r2) := hP2.cell 3
          have p4 : x2.cell? ⟨w.heap.size, 4, none⟩ = some (.int .i64 c2) := hP2.cell 4
          have p5 : x2.cell? ⟨w.heap.size, 5, none⟩ = some (.slice A2 n2 k2) := hP2.cell 5
          have p6 : x2.cell? ⟨w.heap.size, 6, none⟩ = some (.slice B1 m1 d1) := hP2.cell 6
          have p7 : x2.cell? ⟨w.heap.size, 7, none⟩ = some (.slice B2 m2 d2) := hP2.cell 7
          have ib1 := j1.below hbx
          have ib2 := j2.below hbx
          clear hP hb1 hb2 hP2
          go_wp2
          go_ret
          exact ⟨ret_int F.out.symm, hbx⟩
      · have t3 : (c2 != r1) = true := by rw [bne_iff_ne]; exact f1
        have F := Lib.hid (pupE_3 (a1 := a1) (b1 := b1) (b2 := b2) e1 e2 (.inl f1))
        have E1 := Lib.hid e1
        have E2 := Lib.hid e2
        clear e1 e2 f1
        go_enter Try.func31, Try.ntmps31
        go_wp2_with fail
        refine (ref_Matrix r1 c1 A1 n1 k1 a1 _ (by exact i1.alloc _) h1).mono ?_
        rintro e x1 ⟨rfl, hb1⟩
        have hbw : Below w.heap.size w x1 := Below.trans (B := w.heap.size) (by repeat (first | exact Below.refl _ _ | assumption | refine bel_drewN ?_ _ | refine Below.drew ?_ | (refine Below.alloc ?_ (by simp <;> omega) _) | (refine Below.setCell ?_ (by simp <;> omega) _))) (hb1.mono (by simp <;> omega))
        rw [E1.out]
        have hP : Blk x1 w.heap.size 67 #[.int .i64 r1, .int .i64 c1, .slice A1 n1 k1, .int .i64 r2, .int .i64 c2, .slice A2 n2 k2, .slice B1 m1 d1, .slice B2 m2 d2] := (Blk.made w _ _).below hb1 (by simp <;> omega)
        have p0 : x1.cell? ⟨w.heap.size, 0, none⟩ = some (.int .i64 r1) := hP.cell 0
        have p1 : x1.cell? ⟨w.heap.size, 1, none⟩ = some (.int .i64 c1) := hP.cell 1
        have p2 : x1.cell? ⟨w.heap.size, 2, none⟩ = some (.slice A1 n1 k1) := hP.cell 2
        have p3 : x1.cell? ⟨w.heap.size, 3, none⟩ = some (.int .i64 r2) := hP.cell 3
        have p4 : x1.cell? ⟨w.heap.size, 4, none⟩ = some (.int .i64 c2) := hP.cell 4
        have p5 : x1.cell? ⟨w.heap.size, 5, none⟩ = some (.slice A2 n2 k2) := hP.cell 5
        have p6 : x1.cell? ⟨w.heap.size, 6, none⟩ = some (.slice B1 m1 d1) := hP.cell 6
        have p7 : x1.cell? ⟨w.heap.size, 7, none⟩ = some (.slice B2 m2 d2) := hP.cell 7
        have hs1 : w.heap.size < x1.heap.size := hP.lt
        go_wp2_with fail
        refine (ref_Matrix r2 c2 A2 n2 k2 a2 _ (by exact i2.below hbw) h2).mono ?_
        rintro e x2 ⟨rfl, hb2⟩
        have hbx : Below w.heap.size w x2 := hbw.trans (hb2.mono (by omega))
        rw [E2.out]
        have hP2 := hP.below hb2 hP.lt
        clear p0 p1 p2 p3 p4 p5 p6 p7
        have p0 : x2.cell? ⟨w.heap.size, 0, none⟩ = some (.int .i64 r1) := hP2.cell 0
        have p1 : x2.cell? ⟨w.heap.size, 1, none⟩ = some (.int .i64 c1) := hP2.cell 1
        have p2 : x2.cell? ⟨w.heap.size, 2, none⟩ = some (.slice A1 n1 k1) := hP2.cell 2
        have p3 : x2.cell? ⟨w.heap.size, 3, none⟩ = some (.int .i64 r2) := hP2.cell 3
        have p4 : x2.cell? ⟨w.heap.size, 4, none⟩ = some (.int .i64 c2) := hP2.cell 4
        have p5 : x2.cell? ⟨w.heap.size, 5, none⟩ = some (.slice A2 n2 k2) := hP2.cell 5
        have p6 : x2.cell? ⟨w.heap.size, 6, none⟩ = some (.slice B1 m1 d1) := hP2.cell 6
        have p7 : x2.cell? ⟨w.heap.size, 7, none⟩ = some (.slice B2 m2 d2) := hP2.cell 7
        have ib1 := j1.below hbx
        have ib2 := j2.below hbx
        clear hP hb1 hb2 hP2
        go_wp2
        go_ret
        exact ⟨ret_int F.out.symm, hbx⟩
    · have t2 : (matE r2 c2 a2 != 0) = true := by rw [bne_iff_ne]; exact e2
      have F := Lib.hid (pupE_2 (a1 := a1) (b1 := b1) (b2 := b2) e1 e2)
      have E1 := Lib.hid e1
      clear e1 e2
      go_enter Try.func31, Try.ntmps31
      go_wp2_with fail
      refine (ref_Matrix r1 c1 A1 n1 k1 a1 _ (by exact i1.alloc _) h1).mono ?_
      rintro e x1 ⟨rfl, hb1⟩
      have hbw : Below w.heap.size w x1 := Below.trans (B := w.heap.size) (by repeat (first | exact Below.refl _ _ | assumption | refine bel_drewN ?_ _ | refine Below.drew ?_ | (refine Below.alloc ?_ (by simp <;> omega) _) | (refine Below.setCell ?_ (by simp <;> omega) _))) (hb1.mono (by simp <;> omega))
      rw [E1.out]
      have hP : Blk x1 w.heap.size 67 #[.int .i64 r1, .int .i64 c1, .slice A1 n1 k1, .int .i64 r2, .int .i64 c2, .slice A2 n2 k2, .slice B1 m1 d1, .slice B2 m2 d2] := (Blk.made w _ _).below hb1 (by simp <;> omega)
      have p0 : x1.cell? ⟨w.heap.size, 0, none⟩ = some (.int .i64 r1) := hP.cell 0
      have p1 : x1.cell? ⟨w.heap.size, 1, none⟩ = some (.int .i64 c1) := hP.cell 1
      have p2 : x1.cell? ⟨w.heap.size, 2, none⟩ = some (.slice A1 n1 k1) := hP.cell 2
      have p3 : x1.cell? ⟨w.heap.size, 3, none⟩ = some (.int .i64 r2) := hP.cell 3
      have p4 : x1.cell? ⟨w.heap.size, 4, none⟩ = some (.int .i64 c2) := hP.cell 4
      have p5 : x1.cell? ⟨w.heap.size, 5, none⟩ = some (.slice A2 n2 k2) := hP.cell 5
      have p6 : x1.cell? ⟨w.heap.size, 6, none⟩ = some (.slice B1 m1 d1) := hP.cell 6
      have p7 : x1.cell? ⟨w.heap.size, 7, none⟩ = some (.slice B2 m2 d2) := hP.cell 7
      have hs1 : w.heap.size < x1.heap.size := hP.lt
      go_wp2_with fail
      refine (ref_Matrix r2 c2 A2 n2 k2 a2 _ (by exact i2.below hbw) h2).mono ?_
      rintro e x2 ⟨rfl, hb2⟩
      have hbx : Below w.heap.size w x2 := hbw.trans (hb2.mono (by omega))
      go_wp2
      go_ret
      exact ⟨ret_int F.out.symm, hbx⟩
  · have t1 : (matE r1 c1 a1 != 0) = true := by rw [bne_iff_ne]; exact e1
    have F := Lib.hid (pupE_1 (r2 := r2) (c2 := c2) (a2 := a2) (b1 := b1) (b2 := b2) e1)
    clear e1
    go_enter Try.func31, Try.ntmps31
    go_wp2_with fail
    refine (ref_Matrix r1 c1 A1 n1 k1 a1 _ (by exact i1.alloc _) h1).mono ?_
    rintro e x1 ⟨rfl, hb1⟩
    have hbw : Below w.heap.size w x1 := Below.trans (B := w.heap.size) (by repeat (first | exact Below.refl _ _ | assumption | refine bel_drewN ?_ _ | refine Below.drew ?_ | (refine Below.alloc ?_ (by simp <;> omega) _) | (refine Below.setCell ?_ (by simp <;> omega) _))) (hb1.mono (by simp <;> omega))
    go_wp2
    go_ret
    exact ⟨ret_int F.out.symm, hbw⟩
end Go.Proofs.Ytcfmjpcbiomdbaa
