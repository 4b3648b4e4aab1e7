/- What package pupil's Forward, Loss, Grad answer, right or wrong: walks. -/
import Derived.Test.YtblkpibbcapdeaaPupD
namespace Go.Proofs.Ytblkpibbcapdeaa
open Go.RowKit Pl

def lossP (H I O : Nat) (a1 b1 a2 b2 x t : List Int) : Int := dotN (offL (outpL H I O a1 b1 a2 b2 x) t) (offL (outpL H I O a1 b1 a2 b2 x) t) O
/-- Two lists of the call's own beside an error. -/
def FwdE (w : World) (hs ys : List Int) (x : Int) (e : Ending) (w' : World) : Prop :=
  ∃ S s T t, e = .returned (.tuple #[.slice S hs.length s, .slice T ys.length t, .int .i64 x]) ∧ w'.ownsRow w.heap.size 3 1 (.slice S hs.length s) hs.length (hs.map (.int .i64)) ∧ w'.ownsRow w.heap.size 3 1 (.slice T ys.length t) ys.length (ys.map (.int .i64)) ∧ Below w.heap.size w w'
theorem FwdE.none {w w' : World} {x : Int} {e : Ending} (he : e = .returned (.tuple #[.slice none 0 0, .slice none 0 0, .int .i64 x])) (hb : Below w.heap.size w w') : FwdE w [] [] x e w' :=
  ⟨_, _, _, _, he, World.ownsRow_nil _ _ _ _, World.ownsRow_nil _ _ _ _, hb⟩
/-- The shape of a right pupil. -/
theorem pup_dims {r1 c1 : Int} {a1 : List Int} {r2 c2 : Int} {a2 b1 b2 : List Int} (hP : pupE r1 c1 a1 r2 c2 a2 b1 b2 = 0) :
    ∃ H I O : Nat, r1 = H ∧ c1 = I ∧ r2 = O ∧ c2 = H ∧ (1 ≤ H ∧ H ≤ 4) ∧ (1 ≤ I ∧ I ≤ 4) ∧ (1 ≤ O ∧ O ≤ 4) ∧ a1.length = H * I ∧ a2.length = O * H ∧ b1.length = H ∧ b2.length = O ∧ okL a1 = true ∧ okL a2 = true := by
  obtain ⟨p1, p2, p3, p4, p5, _, _⟩ := pupE_ok hP
  obtain ⟨q1, q2, q3, q4⟩ := matE_ok p1
  obtain ⟨r1', _, r3, r4⟩ := matE_ok p2
  obtain ⟨H, rfl⟩ : ∃ H : Nat, r1 = (H : Int) := ⟨r1.toNat, by omega⟩
  obtain ⟨I, rfl⟩ : ∃ I : Nat, c1 = (I : Int) := ⟨c1.toNat, by omega⟩
  obtain ⟨O, rfl⟩ : ∃ O : Nat, r2 = (O : Int) := ⟨r2.toNat, by omega⟩
  have e1 : ((H * I : Nat) : Int) = (H : Int) * (I : Int) := Int.natCast_mul _ _
  have e2 : ((O * H : Nat) : Int) = (O : Int) * (H : Int) := Int.natCast_mul _ _
  subst p3
  exact ⟨H, I, O, rfl, rfl, rfl, rfl, by omega, by omega, by omega, by omega, by omega, by omega, by omega, q4, r4⟩


set_option maxRecDepth 100000 in
set_option maxHeartbeats 1000000 in
theorem pup_Grad_no (r1 c1 : Int) (A1 : Option Addr) (n1 k1 : Nat) (a1 : List Int) (r2 c2 : Int) (A2 : Option Addr) (n2 k2 : Nat) (a2 : List Int) (B1 : Option Addr) (m1 d1 : Nat) (b1 : List Int) (B2 : Option Addr) (m2 d2 : Nat) (b2 : List Int) (X T : Option Addr) (ni no xc tc : Nat) (w : World) (i1 : Ints .i64 w A1 n1 a1) (i2 : Ints .i64 w A2 n2 a2) (j1 : Ints .i64 w B1 m1 b1) (j2 : Ints .i64 w B2 m2 b2) (h1 : n1 ≤ 9223372036854775807) (h2 : n2 ≤ 9223372036854775807) (h3 : m1 ≤ 9223372036854775807) (h4 : m2 ≤ 9223372036854775807) (hE : bothE r1 c1 a1 r2 c2 a2 b1 b2 ni no ≠ 0) :
    Calls Try.prog 60 #[(.agg #[.int .i64 r1, .int .i64 c1, .slice A1 n1 k1, .int .i64 r2, .int .i64 c2, .slice A2 n2 k2, .slice B1 m1 d1, .slice B2 m2 d2]), .agg #[.slice X ni xc, .slice T no tc]] w (PupOwn w .zero (bothE r1 c1 a1 r2 c2 a2 b1 b2 ni no)) := by
  have HB := ((Blk.made w 100 #[.int .i64 r1, .int .i64 c1, .slice A1 n1 k1, .int .i64 r2, .int .i64 c2, .slice A2 n2 k2, .slice B1 m1 d1, .slice B2 m2 d2]).alloc (.cells #[.slice X ni xc, .slice T no tc] 51)).alloc (.cells #[.int .i64 0, .int .i64 0, .slice none 0 0, .int .i64 0, .int .i64 0, .slice none 0 0, .slice none 0 0, .slice none 0 0] 100)
  have HX := (Blk.made' (w.alloc (.cells #[.int .i64 r1, .int .i64 c1, .slice A1 n1 k1, .int .i64 r2, .int .i64 c2, .slice A2 n2 k2, .slice B1 m1 d1, .slice B2 m2 d2] 100)) 51 #[.slice X ni xc, .slice T no tc] (g := w.heap.size + 1) (by simp)).alloc (.cells #[.int .i64 0, .int .i64 0, .slice none 0 0, .int .i64 0, .int .i64 0, .slice none 0 0, .slice none 0 0, .slice none 0 0] 100)
  have HR := Blk.made' ((w.alloc (.cells #[.int .i64 r1, .int .i64 c1, .slice A1 n1 k1, .int .i64 r2, .int .i64 c2, .slice A2 n2 k2, .slice B1 m1 d1, .slice B2 m2 d2] 100)).alloc (.cells #[.slice X ni xc, .slice T no tc] 51)) 100 #[.int .i64 0, .int .i64 0, .slice none 0 0, .int .i64 0, .int .i64 0, .slice none 0 0, .slice none 0 0, .slice none 0 0] (g := w.heap.size + 1 + 1) (by simp)
  have HC := Lib.hid (fun W (q1 : Ints .i64 W A1 n1 a1) (q2 : Ints .i64 W A2 n2 a2) (q3 : Ints .i64 W B1 m1 b1) (q4 : Ints .i64 W B2 m2 b2) => pup_both r1 c1 A1 n1 k1 a1 r2 c2 A2 n2 k2 a2 B1 m1 d1 b1 B2 m2 d2 b2 X T ni no xc tc W q1 q2 q3 q4 h1 h2 h3 h4)
  obtain ⟨f0, f1, f2, f3, f4, f5, f6, f7⟩ := HB.pup
  obtain ⟨⟨x0, x1⟩, _⟩ := HX.two'
  obtain ⟨z, hz⟩ : ∃ z, z = bothE r1 c1 a1 r2 c2 a2 b1 b2 ni no := ⟨_, rfl⟩
  rw [← hz] at HC hE ⊢
  have t : (z != 0) = true := by rw [bne_iff_ne]; exact hE
  have HRL := Lib.hid HR
  clear hz hE HB HX HR
  go_enter Try.func60, Try.ntmps60
  go_wp2_with fail
  refine (HC.out _ (by exact ((i1.alloc _).alloc _).alloc _) (by exact ((i2.alloc _).alloc _).alloc _) (by exact ((j1.alloc _).alloc _).alloc _) (by exact ((j2.alloc _).alloc _).alloc _)).mono ?_
  rintro e w1 ⟨rfl, hb1⟩
  have HR1 := HRL.out.below hb1 HRL.out.lt
  have bw : Below w.heap.size w w1 := Below.trans (B := w.heap.size) (by repeat (first | exact Below.refl _ _ | assumption | refine bel_drewN ?_ _ | refine Below.drew ?_ | (refine Below.alloc ?_ (by simp <;> omega) _) | (refine Below.setCell ?_ (by simp <;> omega) _))) (hb1.mono (by simp; omega))
  have lt := HR1.lt
  obtain ⟨y0, y1, y2, y3, y4, y5, y6, y7⟩ := HR1.pup
  obtain ⟨z0, z1, z2, z3, z4, z5, z6, z7⟩ := HR1.pupz
  clear f0 f1 f2 f3 f4 f5 f6 f7 x0 x1 hb1
  go_wp2
  refine bodyPost_ret (v := .tuple #[.agg #[.int .i64 0, .int .i64 0, .slice none 0 0, .int .i64 0, .int .i64 0, .slice none 0 0, .slice none 0 0, .slice none 0 0], .int .i64 z]) (by simp [results, Try.results60, go_sem, y0, y1, y2, y3, y4, y5, y6, y7]) rfl ?_
  refine PupOwn.none rfl ?_
  have B8 : But (w.heap.size + 1 + 1) w1 ((((((((w1.setCell ⟨w.heap.size + 1 + 1, 0, none⟩ (.int .i64 0)).setCell ⟨w.heap.size + 1 + 1, 1, none⟩ (.int .i64 0)).setCell ⟨w.heap.size + 1 + 1, 2, none⟩ (.slice none 0 0)).setCell ⟨w.heap.size + 1 + 1, 3, none⟩ (.int .i64 0)).setCell ⟨w.heap.size + 1 + 1, 4, none⟩ (.int .i64 0)).setCell ⟨w.heap.size + 1 + 1, 5, none⟩ (.slice none 0 0)).setCell ⟨w.heap.size + 1 + 1, 6, none⟩ (.slice none 0 0)).setCell ⟨w.heap.size + 1 + 1, 7, none⟩ (.slice none 0 0)) :=
    but_put (but_put (but_put (but_put (but_put (but_put (but_put (but_put (but_refl _ _) 0 _) 1 _) 2 _) 3 _) 4 _) 5 _) 6 _) 7 _
  first | exact bw.trans (B8.below (by omega) bw.size) | exact bw

end Go.Proofs.Ytblkpibbcapdeaa
