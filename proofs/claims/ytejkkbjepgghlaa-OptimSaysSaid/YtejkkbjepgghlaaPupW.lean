/- What is wrong with a pupil: package pupil's Check, and the document's own text: walks, each function once. -/
import Derived.Test.YtejkkbjepgghlaaRefMat
import Derived.Test.YtejkkbjepgghlaaRefVec
import Derived.Test.YtejkkbjepgghlaaBlk
import Derived.Test.YtejkkbjepgghlaaPupPl
namespace Go.Proofs.Ytejkkbjepgghlaa
open Go.RowKit Pl

set_option maxHeartbeats 1000000 in
theorem pup_clamped1 (n : Int) (w : World) : Calls Try.prog 155 #[.int .i64 n] w fun e w' => e = .returned (.bool (badV (.int .i64 n))) ∧ Quiet w w' := by
  go_enter Try.func155, Try.ntmps155
  go_wp2_with (go_at_call 26; refine (fix_Clamp _ _).mono ?_; rintro e w' ⟨rfl, rfl⟩)
  go_ret
  exact ⟨rfl, Quiet.refl _⟩
set_option maxHeartbeats 1000000 in
theorem pup_clamped (A : Option Addr) (n c : Nat) (xs : List Int) (w : World) (hx : Ints .i64 w A n xs) (hn : n ≤ 9223372036854775807) :
    Calls Try.prog 126 #[.slice A n c] w fun e w' => e = .returned (.bool (okL xs)) ∧ Quiet w w' := by
  have H := Lib.hid (pclamped_any A n c _ badV w hx.vals hn fun v W hv _ => by
    obtain ⟨x, _, rfl⟩ := List.mem_map.1 hv
    exact pup_clamped1 x W)
  rw [badV_any .i64] at H
  go_enter Try.func126, Try.ntmps126
  go_wp2_with (go_at_call 43; refine H.out.mono ?_; rintro e w1 ⟨rfl, hq1⟩)
  go_ret
  exact ⟨ret_bool (by simp), hq1⟩

set_option maxRecDepth 100000 in
set_option maxHeartbeats 4000000 in
theorem pup_Check (r1 c1 : Int) (A1 : Option Addr) (n1 k1 : Nat) (a1 : List Int) (r2 c2 : Int) (A2 : Option Addr) (n2 k2 : Nat) (a2 : List Int) (B1 : Option Addr) (m1 d1 : Nat) (b1 : List Int) (B2 : Option Addr) (m2 d2 : Nat) (b2 : List Int) (w : World) (i1 : Ints .i64 w A1 n1 a1) (i2 : Ints .i64 w A2 n2 a2) (j1 : Ints .i64 w B1 m1 b1) (j2 : Ints .i64 w B2 m2 b2) (h1 : n1 ≤ 9223372036854775807) (h2 : n2 ≤ 9223372036854775807) (h3 : m1 ≤ 9223372036854775807) (h4 : m2 ≤ 9223372036854775807) :
    Calls Try.prog 88 #[(.agg #[.int .i64 r1, .int .i64 c1, .slice A1 n1 k1, .int .i64 r2, .int .i64 c2, .slice A2 n2 k2, .slice B1 m1 d1, .slice B2 m2 d2])] w fun e w' => e = .returned (.int .i64 (pupE r1 c1 a1 r2 c2 a2 b1 b2)) ∧ Below w.heap.size w w' := by
  by_cases e1 : matE r1 c1 a1 = 0
  · by_cases e2 : matE r2 c2 a2 = 0
    · by_cases f1 : c2 = r1
      · by_cases f2 : (m1 : Int) = r1
        · by_cases f3 : (m2 : Int) = r2
          · cases o1 : okL b1
            · have t3 : (c2 != r1) = false := by rw [bne_eq_false_iff_eq]; exact f1
              have t4 : ((m1 : Int) != r1) = false := by rw [bne_eq_false_iff_eq]; exact f2
              have t5 : ((m2 : Int) != r2) = false := by rw [bne_eq_false_iff_eq]; exact f3
              have F := Lib.hid (pupE_3 (a1 := a1) (b1 := b1) (b2 := b2) e1 e2 (.inr (.inr (.inr (.inl o1)))))
              have E1 := Lib.hid e1
              have E2 := Lib.hid e2
              have O1 := Lib.hid o1
              clear e1 e2 f1 f2 f3 o1
              go_enter Try.func88, Try.ntmps88
              go_wp2
              refine wp_loop_rounds 3 ?_
              rw [rounds_succ]
              go_wp2_with fail
              refine (vec_Check r1 c1 A1 n1 k1 a1 _ (by exact ((i1.alloc _).alloc _).alloc _) h1).mono ?_
              rintro e x1 ⟨rfl, hb1⟩
              have hbw : Below w.heap.size w x1 := Below.trans (B := w.heap.size) (by repeat (first | exact Below.refl _ _ | assumption | refine bel_drewN ?_ _ | refine Below.drew ?_ | (refine Below.alloc ?_ (by simp <;> omega) _) | (refine Below.setCell ?_ (by simp <;> omega) _))) (hb1.mono (by simp <;> omega))
              rw [E1.out]
              have hP : Blk x1 w.heap.size 49 #[.int .i64 r1, .int .i64 c1, .slice A1 n1 k1, .int .i64 r2, .int .i64 c2, .slice A2 n2 k2, .slice B1 m1 d1, .slice B2 m2 d2] := (((Blk.made w _ _).alloc _).alloc _).below hb1 (by simp <;> omega)
              have hQ : Blk x1 (w.heap.size + 1) 47 #[.int .i64 r1, .int .i64 c1, .slice A1 n1 k1, .int .i64 r2, .int .i64 c2, .slice A2 n2 k2] := ((Blk.made' _ _ _ (by simp)).alloc _).below hb1 (by simp <;> omega)
              have s3 : x1.cell? ⟨w.heap.size + 1, 3, none⟩ = some (.int .i64 r2) := hQ.cell 3
              have s4 : x1.cell? ⟨w.heap.size + 1, 4, none⟩ = some (.int .i64 c2) := hQ.cell 4
              have s5 : x1.cell? ⟨w.heap.size + 1, 5, none⟩ = some (.slice A2 n2 k2) := hQ.cell 5
              have hs1 : w.heap.size < x1.heap.size := hP.lt
              go_wp2
              rw [rounds_succ]
              go_wp2_with fail
              refine (vec_Check r2 c2 A2 n2 k2 a2 _ (by exact (i2.below hbw).alloc _) h2).mono ?_
              rintro e x2 ⟨rfl, hb2⟩
              have hbx : Below w.heap.size w x2 := (hbw.alloc (by omega) _).trans (hb2.mono (by simp; omega))
              rw [E2.out]
              have hP2 := (hP.alloc _).below hb2 (hP.alloc _).lt
              have p0 : x2.cell? ⟨w.heap.size, 0, none⟩ = some (.int .i64 r1) := hP2.cell 0
              have p1 : x2.cell? ⟨w.heap.size, 1, none⟩ = some (.int .i64 c1) := hP2.cell 1
              have p2 : x2.cell? ⟨w.heap.size, 2, none⟩ = some (.slice A1 n1 k1) := hP2.cell 2
              have p3 : x2.cell? ⟨w.heap.size, 3, none⟩ = some (.int .i64 r2) := hP2.cell 3
              have p4 : x2.cell? ⟨w.heap.size, 4, none⟩ = some (.int .i64 c2) := hP2.cell 4
              have p5 : x2.cell? ⟨w.heap.size, 5, none⟩ = some (.slice A2 n2 k2) := hP2.cell 5
              have p6 : x2.cell? ⟨w.heap.size, 6, none⟩ = some (.slice B1 m1 d1) := hP2.cell 6
              have p7 : x2.cell? ⟨w.heap.size, 7, none⟩ = some (.slice B2 m2 d2) := hP2.cell 7
              have ib1 := j1.below hbx
              have ib2 := j2.below hbx
              clear hP hQ s3 s4 s5 hb1 hb2 hP2
              go_wp2
              rw [rounds_succ]
              go_wp2_with fail
              refine (pup_clamped B1 m1 d1 b1 _ (by exact ib1) h3).mono ?_
              rintro e y1 ⟨rfl, kq1, rfl⟩
              rw [O1.out]
              go_wp2
              go_ret
              exact ⟨ret_int F.out.symm, bel_drewN hbx _⟩
            · cases o2 : okL b2
              · have t3 : (c2 != r1) = false := by rw [bne_eq_false_iff_eq]; exact f1
                have t4 : ((m1 : Int) != r1) = false := by rw [bne_eq_false_iff_eq]; exact f2
                have t5 : ((m2 : Int) != r2) = false := by rw [bne_eq_false_iff_eq]; exact f3
                have F := Lib.hid (pupE_3 (a1 := a1) (b1 := b1) (b2 := b2) e1 e2 (.inr (.inr (.inr (.inr o2)))))
                have E1 := Lib.hid e1
                have E2 := Lib.hid e2
                have O1 := Lib.hid o1
                have O2 := Lib.hid o2
                clear e1 e2 f1 f2 f3 o1 o2
                go_enter Try.func88, Try.ntmps88
                go_wp2
                refine wp_loop_rounds 3 ?_
                rw [rounds_succ]
                go_wp2_with fail
                refine (vec_Check r1 c1 A1 n1 k1 a1 _ (by exact ((i1.alloc _).alloc _).alloc _) h1).mono ?_
                rintro e x1 ⟨rfl, hb1⟩
                have hbw : Below w.heap.size w x1 := Below.trans (B := w.heap.size) (by repeat (first | exact Below.refl _ _ | assumption | refine bel_drewN ?_ _ | refine Below.drew ?_ | (refine Below.alloc ?_ (by simp <;> omega) _) | (refine Below.setCell ?_ (by simp <;> omega) _))) (hb1.mono (by simp <;> omega))
                rw [E1.out]
                have hP : Blk x1 w.heap.size 49 #[.int .i64 r1, .int .i64 c1, .slice A1 n1 k1, .int .i64 r2, .int .i64 c2, .slice A2 n2 k2, .slice B1 m1 d1, .slice B2 m2 d2] := (((Blk.made w _ _).alloc _).alloc _).below hb1 (by simp <;> omega)
                have hQ : Blk x1 (w.heap.size + 1) 47 #[.int .i64 r1, .int .i64 c1, .slice A1 n1 k1, .int .i64 r2, .int .i64 c2, .slice A2 n2 k2] := ((Blk.made' _ _ _ (by simp)).alloc _).below hb1 (by simp <;> omega)
                have s3 : x1.cell? ⟨w.heap.size + 1, 3, none⟩ = some (.int .i64 r2) := hQ.cell 3
                have s4 : x1.cell? ⟨w.heap.size + 1, 4, none⟩ = some (.int .i64 c2) := hQ.cell 4
                have s5 : x1.cell? ⟨w.heap.size + 1, 5, none⟩ = some (.slice A2 n2 k2) := hQ.cell 5
                have hs1 : w.heap.size < x1.heap.size := hP.lt
                go_wp2
                rw [rounds_succ]
                go_wp2_with fail
                refine (vec_Check r2 c2 A2 n2 k2 a2 _ (by exact (i2.below hbw).alloc _) h2).mono ?_
                rintro e x2 ⟨rfl, hb2⟩
                have hbx : Below w.heap.size w x2 := (hbw.alloc (by omega) _).trans (hb2.mono (by simp; omega))
                rw [E2.out]
                have hP2 := (hP.alloc _).below hb2 (hP.alloc _).lt
                have p0 : x2.cell? ⟨w.heap.size, 0, none⟩ = some (.int .i64 r1) := hP2.cell 0
                have p1 : x2.cell? ⟨w.heap.size, 1, none⟩ = some (.int .i64 c1) := hP2.cell 1
                have p2 : x2.cell? ⟨w.heap.size, 2, none⟩ = some (.slice A1 n1 k1) := hP2.cell 2
                have p3 : x2.cell? ⟨w.heap.size, 3, none⟩ = some (.int .i64 r2) := hP2.cell 3
                have p4 : x2.cell? ⟨w.heap.size, 4, none⟩ = some (.int .i64 c2) := hP2.cell 4
                have p5 : x2.cell? ⟨w.heap.size, 5, none⟩ = some (.slice A2 n2 k2) := hP2.cell 5
                have p6 : x2.cell? ⟨w.heap.size, 6, none⟩ = some (.slice B1 m1 d1) := hP2.cell 6
                have p7 : x2.cell? ⟨w.heap.size, 7, none⟩ = some (.slice B2 m2 d2) := hP2.cell 7
                have ib1 := j1.below hbx
                have ib2 := j2.below hbx
                clear hP hQ s3 s4 s5 hb1 hb2 hP2
                go_wp2
                rw [rounds_succ]
                go_wp2_with fail
                refine (pup_clamped B1 m1 d1 b1 _ (by exact ib1) h3).mono ?_
                rintro e y1 ⟨rfl, kq1, rfl⟩
                rw [O1.out]
                go_wp2_with fail
                refine (pup_clamped B2 m2 d2 b2 _ (by exact ib2.drewN _) h4).mono ?_
                rintro e y2 ⟨rfl, kq2, rfl⟩
                rw [O2.out]
                go_wp2
                go_ret
                exact ⟨ret_int F.out.symm, bel_drewN hbx _⟩
              · have t3 : (c2 != r1) = false := by rw [bne_eq_false_iff_eq]; exact f1
                have t4 : ((m1 : Int) != r1) = false := by rw [bne_eq_false_iff_eq]; exact f2
                have t5 : ((m2 : Int) != r2) = false := by rw [bne_eq_false_iff_eq]; exact f3
                have F := Lib.hid (pupE_4 (a1 := a1) e1 e2 f1 (by rw [j1.len]; exact f2) (by rw [j2.len]; exact f3) o1 o2)
                have E1 := Lib.hid e1
                have E2 := Lib.hid e2
                have O1 := Lib.hid o1
                have O2 := Lib.hid o2
                clear e1 e2 f1 f2 f3 o1 o2
                go_enter Try.func88, Try.ntmps88
                go_wp2
                refine wp_loop_rounds 3 ?_
                rw [rounds_succ]
                go_wp2_with fail
                refine (vec_Check r1 c1 A1 n1 k1 a1 _ (by exact ((i1.alloc _).alloc _).alloc _) h1).mono ?_
                rintro e x1 ⟨rfl, hb1⟩
                have hbw : Below w.heap.size w x1 := Below.trans (B := w.heap.size) (by repeat (first | exact Below.refl _ _ | assumption | refine bel_drewN ?_ _ | refine Below.drew ?_ | (refine Below.alloc ?_ (by simp <;> omega) _) | (refine Below.setCell ?_ (by simp <;> omega) _))) (hb1.mono (by simp <;> omega))
                rw [E1.out]
                have hP : Blk x1 w.heap.size 49 #[.int .i64 r1, .int .i64 c1, .slice A1 n1 k1, .int .i64 r2, .int .i64 c2, .slice A2 n2 k2, .slice B1 m1 d1, .slice B2 m2 d2] := (((Blk.made w _ _).alloc _).alloc _).below hb1 (by simp <;> omega)
                have hQ : Blk x1 (w.heap.size + 1) 47 #[.int .i64 r1, .int .i64 c1, .slice A1 n1 k1, .int .i64 r2, .int .i64 c2, .slice A2 n2 k2] := ((Blk.made' _ _ _ (by simp)).alloc _).below hb1 (by simp <;> omega)
                have s3 : x1.cell? ⟨w.heap.size + 1, 3, none⟩ = some (.int .i64 r2) := hQ.cell 3
                have s4 : x1.cell? ⟨w.heap.size + 1, 4, none⟩ = some (.int .i64 c2) := hQ.cell 4
                have s5 : x1.cell? ⟨w.heap.size + 1, 5, none⟩ = some (.slice A2 n2 k2) := hQ.cell 5
                have hs1 : w.heap.size < x1.heap.size := hP.lt
                go_wp2
                rw [rounds_succ]
                go_wp2_with fail
                refine (vec_Check r2 c2 A2 n2 k2 a2 _ (by exact (i2.below hbw).alloc _) h2).mono ?_
                rintro e x2 ⟨rfl, hb2⟩
                have hbx : Below w.heap.size w x2 := (hbw.alloc (by omega) _).trans (hb2.mono (by simp; omega))
                rw [E2.out]
                have hP2 := (hP.alloc _).below hb2 (hP.alloc _).lt
                have p0 : x2.cell? ⟨w.heap.size, 0, none⟩ = some (.int .i64 r1) := hP2.cell 0
                have p1 : x2.cell? ⟨w.heap.size, 1, none⟩ = some (.int .i64 c1) := hP2.cell 1
                have p2 : x2.cell? ⟨w.heap.size, 2, none⟩ = some (.slice A1 n1 k1) := hP2.cell 2
                have p3 : x2.cell? ⟨w.heap.size, 3, none⟩ = some (.int .i64 r2) := hP2.cell 3
                have p4 : x2.cell? ⟨w.heap.size, 4, none⟩ = some (.int .i64 c2) := hP2.cell 4
                have p5 : x2.cell? ⟨w.heap.size, 5, none⟩ = some (.slice A2 n2 k2) := hP2.cell 5
                have p6 : x2.cell? ⟨w.heap.size, 6, none⟩ = some (.slice B1 m1 d1) := hP2.cell 6
                have p7 : x2.cell? ⟨w.heap.size, 7, none⟩ = some (.slice B2 m2 d2) := hP2.cell 7
                have ib1 := j1.below hbx
                have ib2 := j2.below hbx
                clear hP hQ s3 s4 s5 hb1 hb2 hP2
                go_wp2
                rw [rounds_succ]
                go_wp2_with fail
                refine (pup_clamped B1 m1 d1 b1 _ (by exact ib1) h3).mono ?_
                rintro e y1 ⟨rfl, kq1, rfl⟩
                rw [O1.out]
                go_wp2_with fail
                refine (pup_clamped B2 m2 d2 b2 _ (by exact ib2.drewN _) h4).mono ?_
                rintro e y2 ⟨rfl, kq2, rfl⟩
                rw [O2.out]
                go_wp2
                go_ret
                exact ⟨ret_int F.out.symm, bel_drewN hbx _⟩
          · have t3 : (c2 != r1) = false := by rw [bne_eq_false_iff_eq]; exact f1
            have t4 : ((m1 : Int) != r1) = false := by rw [bne_eq_false_iff_eq]; exact f2
            have t5 : ((m2 : Int) != r2) = true := by rw [bne_iff_ne]; exact f3
            have F := Lib.hid (pupE_3 (a1 := a1) (b1 := b1) (b2 := b2) e1 e2 (.inr (.inr (.inl (by rw [j2.len]; exact f3)))))
            have E1 := Lib.hid e1
            have E2 := Lib.hid e2
            clear e1 e2 f1 f2 f3
            go_enter Try.func88, Try.ntmps88
            go_wp2
            refine wp_loop_rounds 3 ?_
            rw [rounds_succ]
            go_wp2_with fail
            refine (vec_Check r1 c1 A1 n1 k1 a1 _ (by exact ((i1.alloc _).alloc _).alloc _) h1).mono ?_
            rintro e x1 ⟨rfl, hb1⟩
            have hbw : Below w.heap.size w x1 := Below.trans (B := w.heap.size) (by repeat (first | exact Below.refl _ _ | assumption | refine bel_drewN ?_ _ | refine Below.drew ?_ | (refine Below.alloc ?_ (by simp <;> omega) _) | (refine Below.setCell ?_ (by simp <;> omega) _))) (hb1.mono (by simp <;> omega))
            rw [E1.out]
            have hP : Blk x1 w.heap.size 49 #[.int .i64 r1, .int .i64 c1, .slice A1 n1 k1, .int .i64 r2, .int .i64 c2, .slice A2 n2 k2, .slice B1 m1 d1, .slice B2 m2 d2] := (((Blk.made w _ _).alloc _).alloc _).below hb1 (by simp <;> omega)
            have hQ : Blk x1 (w.heap.size + 1) 47 #[.int .i64 r1, .int .i64 c1, .slice A1 n1 k1, .int .i64 r2, .int .i64 c2, .slice A2 n2 k2] := ((Blk.made' _ _ _ (by simp)).alloc _).below hb1 (by simp <;> omega)
            have s3 : x1.cell? ⟨w.heap.size + 1, 3, none⟩ = some (.int .i64 r2) := hQ.cell 3
            have s4 : x1.cell? ⟨w.heap.size + 1, 4, none⟩ = some (.int .i64 c2) := hQ.cell 4
            have s5 : x1.cell? ⟨w.heap.size + 1, 5, none⟩ = some (.slice A2 n2 k2) := hQ.cell 5
            have hs1 : w.heap.size < x1.heap.size := hP.lt
            go_wp2
            rw [rounds_succ]
            go_wp2_with fail
            refine (vec_Check r2 c2 A2 n2 k2 a2 _ (by exact (i2.below hbw).alloc _) h2).mono ?_
            rintro e x2 ⟨rfl, hb2⟩
            have hbx : Below w.heap.size w x2 := (hbw.alloc (by omega) _).trans (hb2.mono (by simp; omega))
            rw [E2.out]
            have hP2 := (hP.alloc _).below hb2 (hP.alloc _).lt
            have p0 : x2.cell? ⟨w.heap.size, 0, none⟩ = some (.int .i64 r1) := hP2.cell 0
            have p1 : x2.cell? ⟨w.heap.size, 1, none⟩ = some (.int .i64 c1) := hP2.cell 1
            have p2 : x2.cell? ⟨w.heap.size, 2, none⟩ = some (.slice A1 n1 k1) := hP2.cell 2
            have p3 : x2.cell? ⟨w.heap.size, 3, none⟩ = some (.int .i64 r2) := hP2.cell 3
            have p4 : x2.cell? ⟨w.heap.size, 4, none⟩ = some (.int .i64 c2) := hP2.cell 4
            have p5 : x2.cell? ⟨w.heap.size, 5, none⟩ = some (.slice A2 n2 k2) := hP2.cell 5
            have p6 : x2.cell? ⟨w.heap.size, 6, none⟩ = some (.slice B1 m1 d1) := hP2.cell 6
            have p7 : x2.cell? ⟨w.heap.size, 7, none⟩ = some (.slice B2 m2 d2) := hP2.cell 7
            have ib1 := j1.below hbx
            have ib2 := j2.below hbx
            clear hP hQ s3 s4 s5 hb1 hb2 hP2
            go_wp2
            rw [rounds_succ]
            go_wp2
            go_ret
            exact ⟨ret_int F.out.symm, hbx⟩
        · have t3 : (c2 != r1) = false := by rw [bne_eq_false_iff_eq]; exact f1
          have t4 : ((m1 : Int) != r1) = true := by rw [bne_iff_ne]; exact f2
          have F := Lib.hid (pupE_3 (a1 := a1) (b1 := b1) (b2 := b2) e1 e2 (.inr (.inl (by rw [j1.len]; exact f2))))
          have E1 := Lib.hid e1
          have E2 := Lib.hid e2
          clear e1 e2 f1 f2
          go_enter Try.func88, Try.ntmps88
          go_wp2
          refine wp_loop_rounds 3 ?_
          rw [rounds_succ]
          go_wp2_with fail
          refine (vec_Check r1 c1 A1 n1 k1 a1 _ (by exact ((i1.alloc _).alloc _).alloc _) h1).mono ?_
          rintro e x1 ⟨rfl, hb1⟩
          have hbw : Below w.heap.size w x1 := Below.trans (B := w.heap.size) (by repeat (first | exact Below.refl _ _ | assumption | refine bel_drewN ?_ _ | refine Below.drew ?_ | (refine Below.alloc ?_ (by simp <;> omega) _) | (refine Below.setCell ?_ (by simp <;> omega) _))) (hb1.mono (by simp <;> omega))
          rw [E1.out]
          have hP : Blk x1 w.heap.size 49 #[.int .i64 r1, .int .i64 c1, .slice A1 n1 k1, .int .i64 r2, .int .i64 c2, .slice A2 n2 k2, .slice B1 m1 d1, .slice B2 m2 d2] := (((Blk.made w _ _).alloc _).alloc _).below hb1 (by simp <;> omega)
          have hQ : Blk x1 (w.heap.size + 1) 47 #[.int .i64 r1, .int .i64 c1, .slice A1 n1 k1, .int .i64 r2, .int .i64 c2, .slice A2 n2 k2] := ((Blk.made' _ _ _ (by simp)).alloc _).below hb1 (by simp <;> omega)
          have s3 : x1.cell? ⟨w.heap.size + 1, 3, none⟩ = some (.int .i64 r2) := hQ.cell 3
          have s4 : x1.cell? ⟨w.heap.size + 1, 4, none⟩ = some (.int .i64 c2) := hQ.cell 4
          have s5 : x1.cell? ⟨w.heap.size + 1, 5, none⟩ = some (.slice A2 n2 k2) := hQ.cell 5
          have hs1 : w.heap.size < x1.heap.size := hP.lt
          go_wp2
          rw [rounds_succ]
          go_wp2_with fail
          refine (vec_Check r2 c2 A2 n2 k2 a2 _ (by exact (i2.below hbw).alloc _) h2).mono ?_
          rintro e x2 ⟨rfl, hb2⟩
          have hbx : Below w.heap.size w x2 := (hbw.alloc (by omega) _).trans (hb2.mono (by simp; omega))
          rw [E2.out]
          have hP2 := (hP.alloc _).below hb2 (hP.alloc _).lt
          have p0 : x2.cell? ⟨w.heap.size, 0, none⟩ = some (.int .i64 r1) := hP2.cell 0
          have p1 : x2.cell? ⟨w.heap.size, 1, none⟩ = some (.int .i64 c1) := hP2.cell 1
          have p2 : x2.cell? ⟨w.heap.size, 2, none⟩ = some (.slice A1 n1 k1) := hP2.cell 2
          have p3 : x2.cell? ⟨w.heap.size, 3, none⟩ = some (.int .i64 r2) := hP2.cell 3
          have p4 : x2.cell? ⟨w.heap.size, 4, none⟩ = some (.int .i64 c2) := hP2.cell 4
          have p5 : x2.cell? ⟨w.heap.size, 5, none⟩ = some (.slice A2 n2 k2) := hP2.cell 5
          have p6 : x2.cell? ⟨w.heap.size, 6, none⟩ = some (.slice B1 m1 d1) := hP2.cell 6
          have p7 : x2.cell? ⟨w.heap.size, 7, none⟩ = some (.slice B2 m2 d2) := hP2.cell 7
          have ib1 := j1.below hbx
          have ib2 := j2.below hbx
          clear hP hQ s3 s4 s5 hb1 hb2 hP2
          go_wp2
          rw [rounds_succ]
          go_wp2
          go_ret
          exact ⟨ret_int F.out.symm, hbx⟩
      · have t3 : (c2 != r1) = true := by rw [bne_iff_ne]; exact f1
        have F := Lib.hid (pupE_3 (a1 := a1) (b1 := b1) (b2 := b2) e1 e2 (.inl f1))
        have E1 := Lib.hid e1
        have E2 := Lib.hid e2
        clear e1 e2 f1
        go_enter Try.func88, Try.ntmps88
        go_wp2
        refine wp_loop_rounds 3 ?_
        rw [rounds_succ]
        go_wp2_with fail
        refine (vec_Check r1 c1 A1 n1 k1 a1 _ (by exact ((i1.alloc _).alloc _).alloc _) h1).mono ?_
        rintro e x1 ⟨rfl, hb1⟩
        have hbw : Below w.heap.size w x1 := Below.trans (B := w.heap.size) (by repeat (first | exact Below.refl _ _ | assumption | refine bel_drewN ?_ _ | refine Below.drew ?_ | (refine Below.alloc ?_ (by simp <;> omega) _) | (refine Below.setCell ?_ (by simp <;> omega) _))) (hb1.mono (by simp <;> omega))
        rw [E1.out]
        have hP : Blk x1 w.heap.size 49 #[.int .i64 r1, .int .i64 c1, .slice A1 n1 k1, .int .i64 r2, .int .i64 c2, .slice A2 n2 k2, .slice B1 m1 d1, .slice B2 m2 d2] := (((Blk.made w _ _).alloc _).alloc _).below hb1 (by simp <;> omega)
        have hQ : Blk x1 (w.heap.size + 1) 47 #[.int .i64 r1, .int .i64 c1, .slice A1 n1 k1, .int .i64 r2, .int .i64 c2, .slice A2 n2 k2] := ((Blk.made' _ _ _ (by simp)).alloc _).below hb1 (by simp <;> omega)
        have s3 : x1.cell? ⟨w.heap.size + 1, 3, none⟩ = some (.int .i64 r2) := hQ.cell 3
        have s4 : x1.cell? ⟨w.heap.size + 1, 4, none⟩ = some (.int .i64 c2) := hQ.cell 4
        have s5 : x1.cell? ⟨w.heap.size + 1, 5, none⟩ = some (.slice A2 n2 k2) := hQ.cell 5
        have hs1 : w.heap.size < x1.heap.size := hP.lt
        go_wp2
        rw [rounds_succ]
        go_wp2_with fail
        refine (vec_Check r2 c2 A2 n2 k2 a2 _ (by exact (i2.below hbw).alloc _) h2).mono ?_
        rintro e x2 ⟨rfl, hb2⟩
        have hbx : Below w.heap.size w x2 := (hbw.alloc (by omega) _).trans (hb2.mono (by simp; omega))
        rw [E2.out]
        have hP2 := (hP.alloc _).below hb2 (hP.alloc _).lt
        have p0 : x2.cell? ⟨w.heap.size, 0, none⟩ = some (.int .i64 r1) := hP2.cell 0
        have p1 : x2.cell? ⟨w.heap.size, 1, none⟩ = some (.int .i64 c1) := hP2.cell 1
        have p2 : x2.cell? ⟨w.heap.size, 2, none⟩ = some (.slice A1 n1 k1) := hP2.cell 2
        have p3 : x2.cell? ⟨w.heap.size, 3, none⟩ = some (.int .i64 r2) := hP2.cell 3
        have p4 : x2.cell? ⟨w.heap.size, 4, none⟩ = some (.int .i64 c2) := hP2.cell 4
        have p5 : x2.cell? ⟨w.heap.size, 5, none⟩ = some (.slice A2 n2 k2) := hP2.cell 5
        have p6 : x2.cell? ⟨w.heap.size, 6, none⟩ = some (.slice B1 m1 d1) := hP2.cell 6
        have p7 : x2.cell? ⟨w.heap.size, 7, none⟩ = some (.slice B2 m2 d2) := hP2.cell 7
        have ib1 := j1.below hbx
        have ib2 := j2.below hbx
        clear hP hQ s3 s4 s5 hb1 hb2 hP2
        go_wp2
        rw [rounds_succ]
        go_wp2
        go_ret
        exact ⟨ret_int F.out.symm, hbx⟩
    · have t2 : (matE r2 c2 a2 != 0) = true := by rw [bne_iff_ne]; exact e2
      have F := Lib.hid (pupE_2 (a1 := a1) (b1 := b1) (b2 := b2) e1 e2)
      have E1 := Lib.hid e1
      clear e1 e2
      go_enter Try.func88, Try.ntmps88
      go_wp2
      refine wp_loop_rounds 3 ?_
      rw [rounds_succ]
      go_wp2_with fail
      refine (vec_Check r1 c1 A1 n1 k1 a1 _ (by exact ((i1.alloc _).alloc _).alloc _) h1).mono ?_
      rintro e x1 ⟨rfl, hb1⟩
      have hbw : Below w.heap.size w x1 := Below.trans (B := w.heap.size) (by repeat (first | exact Below.refl _ _ | assumption | refine bel_drewN ?_ _ | refine Below.drew ?_ | (refine Below.alloc ?_ (by simp <;> omega) _) | (refine Below.setCell ?_ (by simp <;> omega) _))) (hb1.mono (by simp <;> omega))
      rw [E1.out]
      have hP : Blk x1 w.heap.size 49 #[.int .i64 r1, .int .i64 c1, .slice A1 n1 k1, .int .i64 r2, .int .i64 c2, .slice A2 n2 k2, .slice B1 m1 d1, .slice B2 m2 d2] := (((Blk.made w _ _).alloc _).alloc _).below hb1 (by simp <;> omega)
      have hQ : Blk x1 (w.heap.size + 1) 47 #[.int .i64 r1, .int .i64 c1, .slice A1 n1 k1, .int .i64 r2, .int .i64 c2, .slice A2 n2 k2] := ((Blk.made' _ _ _ (by simp)).alloc _).below hb1 (by simp <;> omega)
      have s3 : x1.cell? ⟨w.heap.size + 1, 3, none⟩ = some (.int .i64 r2) := hQ.cell 3
      have s4 : x1.cell? ⟨w.heap.size + 1, 4, none⟩ = some (.int .i64 c2) := hQ.cell 4
      have s5 : x1.cell? ⟨w.heap.size + 1, 5, none⟩ = some (.slice A2 n2 k2) := hQ.cell 5
      have hs1 : w.heap.size < x1.heap.size := hP.lt
      go_wp2
      rw [rounds_succ]
      go_wp2_with fail
      refine (vec_Check r2 c2 A2 n2 k2 a2 _ (by exact (i2.below hbw).alloc _) h2).mono ?_
      rintro e x2 ⟨rfl, hb2⟩
      have hbx : Below w.heap.size w x2 := (hbw.alloc (by omega) _).trans (hb2.mono (by simp; omega))
      go_wp2
      go_ret
      exact ⟨ret_int F.out.symm, hbx⟩
  · have t1 : (matE r1 c1 a1 != 0) = true := by rw [bne_iff_ne]; exact e1
    have F := Lib.hid (pupE_1 (r2 := r2) (c2 := c2) (a2 := a2) (b1 := b1) (b2 := b2) e1)
    clear e1
    go_enter Try.func88, Try.ntmps88
    go_wp2
    refine wp_loop_rounds 3 ?_
    rw [rounds_succ]
    go_wp2_with (go_at_call 125; refine (vec_Check r1 c1 A1 n1 k1 a1 _ (by exact ((i1.alloc _).alloc _).alloc _) h1).mono ?_; rintro e x1 ⟨rfl, hb1⟩)
    go_ret
    exact ⟨ret_int F.out.symm, Below.trans (B := w.heap.size) (by repeat (first | exact Below.refl _ _ | assumption | refine bel_drewN ?_ _ | refine Below.drew ?_ | (refine Below.alloc ?_ (by simp <;> omega) _) | (refine Below.setCell ?_ (by simp <;> omega) _))) (hb1.mono (by simp <;> omega))⟩
end Go.Proofs.Ytejkkbjepgghlaa
