/- What pupil.Flat computes: a walk. -/
import Derived.Test.YtejkkbjepgghlaaPupW
import Derived.Test.YtejkkbjepgghlaaConcat
namespace Go.Proofs.Ytejkkbjepgghlaa
open Go.RowKit Pl

theorem flatten4 (a1 b1 a2 b2 : List Int) : [a1, b1, a2, b2].flatten = flatP a1 b1 a2 b2 := by simp [flatP]
/-- A pupil's numbers; no list where something is wrong. -/
def flatO (r1 c1 : Int) (a1 : List Int) (r2 c2 : Int) (a2 b1 b2 : List Int) : List Int := if pupE r1 c1 a1 r2 c2 a2 b1 b2 = 0 then flatP a1 b1 a2 b2 else []
theorem flatP_len40 {r1 c1 : Int} {a1 : List Int} {r2 c2 : Int} {a2 b1 b2 : List Int} (h : pupE r1 c1 a1 r2 c2 a2 b1 b2 = 0) : (flatP a1 b1 a2 b2).length ≤ 40 := by
  obtain ⟨h1, h2, h3, h4, h5, _, _⟩ := pupE_ok h
  obtain ⟨p1, p2, p3, _⟩ := matE_ok h1
  obtain ⟨q1, q2, q3, _⟩ := matE_ok h2
  have s1 := side_mul p1 p2
  have s2 := side_mul q1 q2
  rw [flatP_length]
  omega

set_option maxRecDepth 100000 in
set_option maxHeartbeats 4000000 in
theorem pup_Flat_ok (r1 c1 : Int) (A1 : Option Addr) (n1 k1 : Nat) (a1 : List Int) (r2 c2 : Int) (A2 : Option Addr) (n2 k2 : Nat) (a2 : List Int) (B1 : Option Addr) (m1 d1 : Nat) (b1 : List Int) (B2 : Option Addr) (m2 d2 : Nat) (b2 : List Int) (w : World) (i1 : Ints .i64 w A1 n1 a1) (i2 : Ints .i64 w A2 n2 a2) (j1 : Ints .i64 w B1 m1 b1) (j2 : Ints .i64 w B2 m2 b2) (h1 : n1 ≤ 9223372036854775807) (h2 : n2 ≤ 9223372036854775807) (h3 : m1 ≤ 9223372036854775807) (h4 : m2 ≤ 9223372036854775807) (he : pupE r1 c1 a1 r2 c2 a2 b1 b2 = 0) :
    Calls Try.prog 42 #[(.agg #[.int .i64 r1, .int .i64 c1, .slice A1 n1 k1, .int .i64 r2, .int .i64 c2, .slice A2 n2 k2, .slice B1 m1 d1, .slice B2 m2 d2])] w (OwnRes w (flatP a1 b1 a2 b2) 0) := by
  have H := Lib.hid (fun W (q1 : Ints .i64 W A1 n1 a1) (q2 : Ints .i64 W A2 n2 a2) (q3 : Ints .i64 W B1 m1 b1) (q4 : Ints .i64 W B2 m2 b2) => pup_Check r1 c1 A1 n1 k1 a1 r2 c2 A2 n2 k2 a2 B1 m1 d1 b1 B2 m2 d2 b2 W q1 q2 q3 q4 h1 h2 h3 h4)
  rw [he] at H
  have HL := Lib.hid (flatP_len40 he)
  clear he
  go_enter Try.func42, Try.ntmps42
  go_wp2_with fail
  refine (H.out _ (i1.alloc _) (i2.alloc _) (j1.alloc _) (j2.alloc _)).mono ?_
  rintro e x1 ⟨rfl, hb1⟩
  have hP : Blk x1 w.heap.size 49 #[.int .i64 r1, .int .i64 c1, .slice A1 n1 k1, .int .i64 r2, .int .i64 c2, .slice A2 n2 k2, .slice B1 m1 d1, .slice B2 m2 d2] := (Blk.made w _ _).below hb1 (by simp <;> omega)
  have hbw : Below w.heap.size w x1 := Below.trans (B := w.heap.size) (by repeat (first | exact Below.refl _ _ | assumption | refine bel_drewN ?_ _ | refine Below.drew ?_ | (refine Below.alloc ?_ (by simp <;> omega) _) | (refine Below.setCell ?_ (by simp <;> omega) _))) (hb1.mono (by simp <;> omega))
  have p2 : x1.cell? ⟨w.heap.size, 2, none⟩ = some (.slice A1 n1 k1) := hP.cell 2
  have p5 : x1.cell? ⟨w.heap.size, 5, none⟩ = some (.slice A2 n2 k2) := hP.cell 5
  have p6 : x1.cell? ⟨w.heap.size, 6, none⟩ = some (.slice B1 m1 d1) := hP.cell 6
  have p7 : x1.cell? ⟨w.heap.size, 7, none⟩ = some (.slice B2 m2 d2) := hP.cell 7
  have hs1 := hbw.size
  clear hb1
  go_wp2_with fail
  refine (sl_Concat _ 4 4 [.slice A1 n1 k1, .slice B1 m1 d1, .slice A2 n2 k2, .slice B2 m2 d2] [a1, b1, a2, b2] _ (Vals.made x1 _ _ 4 _ rfl rfl) ⟨rfl, fun j hj => ?_⟩ (flatP a1 b1 a2 b2).length (by rw [flatten4]) (by have := HL.out; omega) (by omega)).mono ?_
  · match j, hj with
    | 0, _ => exact ⟨A1, n1, k1, rfl, (i1.below hbw).alloc _⟩
    | 1, _ => exact ⟨B1, m1, d1, rfl, (j1.below hbw).alloc _⟩
    | 2, _ => exact ⟨A2, n2, k2, rfl, (i2.below hbw).alloc _⟩
    | 3, _ => exact ⟨B2, m2, d2, rfl, (j2.below hbw).alloc _⟩
  rw [flatten4]
  rintro e x2 ⟨A, c, rfl, ho, hb2⟩
  go_wp2
  go_ret2
  exact ⟨A, c, rfl, own_base ho (by simp; omega), (hbw.alloc hs1 _).trans (hb2.mono (by simp; omega))⟩

set_option maxRecDepth 100000 in
set_option maxHeartbeats 4000000 in
theorem pup_Flat_any (r1 c1 : Int) (A1 : Option Addr) (n1 k1 : Nat) (a1 : List Int) (r2 c2 : Int) (A2 : Option Addr) (n2 k2 : Nat) (a2 : List Int) (B1 : Option Addr) (m1 d1 : Nat) (b1 : List Int) (B2 : Option Addr) (m2 d2 : Nat) (b2 : List Int) (w : World) (i1 : Ints .i64 w A1 n1 a1) (i2 : Ints .i64 w A2 n2 a2) (j1 : Ints .i64 w B1 m1 b1) (j2 : Ints .i64 w B2 m2 b2) (h1 : n1 ≤ 9223372036854775807) (h2 : n2 ≤ 9223372036854775807) (h3 : m1 ≤ 9223372036854775807) (h4 : m2 ≤ 9223372036854775807) :
    Calls Try.prog 42 #[(.agg #[.int .i64 r1, .int .i64 c1, .slice A1 n1 k1, .int .i64 r2, .int .i64 c2, .slice A2 n2 k2, .slice B1 m1 d1, .slice B2 m2 d2])] w (ListRes w (flatO r1 c1 a1 r2 c2 a2 b1 b2) (pupE r1 c1 a1 r2 c2 a2 b1 b2)) := by
  by_cases he : pupE r1 c1 a1 r2 c2 a2 b1 b2 = 0
  · have e : flatO r1 c1 a1 r2 c2 a2 b1 b2 = flatP a1 b1 a2 b2 := if_pos he
    rw [e, he]
    exact (pup_Flat_ok r1 c1 A1 n1 k1 a1 r2 c2 A2 n2 k2 a2 B1 m1 d1 b1 B2 m2 d2 b2 w i1 i2 j1 j2 h1 h2 h3 h4 he).mono fun e w' h => .of_own h
  · have e : flatO r1 c1 a1 r2 c2 a2 b1 b2 = [] := if_neg he
    have t : (pupE r1 c1 a1 r2 c2 a2 b1 b2 != 0) = true := by rw [bne_iff_ne]; exact he
    have E := Lib.hid e
    clear he e
    go_enter Try.func42, Try.ntmps42
    go_wp2_with (go_at_call 88; refine (pup_Check r1 c1 A1 n1 k1 a1 r2 c2 A2 n2 k2 a2 B1 m1 d1 b1 B2 m2 d2 b2 _ (i1.alloc _) (i2.alloc _) (j1.alloc _) (j2.alloc _) h1 h2 h3 h4).mono ?_; rintro e x1 ⟨rfl, hb1⟩)
    go_ret2
    rw [E.out]
    exact .of_no rfl (Below.trans (B := w.heap.size) (by repeat (first | exact Below.refl _ _ | assumption | refine bel_drewN ?_ _ | refine Below.drew ?_ | (refine Below.alloc ?_ (by simp <;> omega) _) | (refine Below.setCell ?_ (by simp <;> omega) _))) (hb1.mono (by simp <;> omega)))
end Go.Proofs.Ytejkkbjepgghlaa
