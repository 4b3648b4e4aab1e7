/- The law PupilRuns holds of the given program for every input. No condition. -/
import Derived.Test.YtejkkbjepgghlaaPupA
import Derived.Test.YtejkkbjepgghlaaRefG
import Derived.Test.YtejkkbjepgghlaaRefPup
import Derived.Deep.DeepCutAuto
import Derived.Deep.CutBlock
import Derived.Outline
namespace Go.Proofs.Ytejkkbjepgghlaa
open Go.ChangeShapes Go.WideShapes Go.ChangeAt Go.RowKit Pl

def ToldI (w : World) (L : List Int) (v : Value) : Prop := ∃ A c, v = .slice A L.length c ∧ Ints .i64 w A L.length L
theorem ToldI.nil (w : World) : ToldI w [] (.slice none 0 0) := ⟨none, 0, rfl, Ints.nil _ _ _⟩
/-- Behind the law's if: what it expects of Forward, Loss and Grad. -/
def RunsA (x1 : World) (fe ge lo : Int) (hO yO : List Int) (gO : Pup) (f g h y n : Value) (wx : World) : Prop :=
  f = .int .i64 fe ∧ g = .int .i64 ge ∧ n = .int .i64 lo ∧ ToldI wx hO h ∧ ToldI wx yO y ∧ PupBox wx x1.heap.size gO ∧ Below x1.heap.size x1 wx

set_option maxRecDepth 100000 in
set_option maxHeartbeats 8000000 in
theorem pupilRuns_walk (r1 c1 : Int) (A1 : Option Addr) (n1 k1 : Nat) (a1 : List Int) (r2 c2 : Int) (A2 : Option Addr) (n2 k2 : Nat) (a2 : List Int) (B1 : Option Addr) (m1 d1 : Nat) (b1 : List Int) (B2 : Option Addr) (m2 d2 : Nat) (b2 : List Int) (X T : Option Addr) (ni no xc tc : Nat) (x t : List Int) (w : World) (i1 : Ints .i64 w A1 n1 a1) (i2 : Ints .i64 w A2 n2 a2) (j1 : Ints .i64 w B1 m1 b1) (j2 : Ints .i64 w B2 m2 b2) (ix : Ints .i64 w X ni x) (it : Ints .i64 w T no t) (g1 : n1 ≤ k1) (g2 : n2 ≤ k2) (h1 : n1 ≤ 9223372036854775807) (h2 : n2 ≤ 9223372036854775807) (h3 : m1 ≤ 9223372036854775807) (h4 : m2 ≤ 9223372036854775807) :
    Calls Try.prog 5 #[(.agg #[.int .i64 r1, .int .i64 c1, .slice A1 n1 k1, .int .i64 r2, .int .i64 c2, .slice A2 n2 k2, .slice B1 m1 d1, .slice B2 m2 d2]), .agg #[.slice X ni xc, .slice T no tc]] w fun e w' => e = .returned (.bool true) ∧ Below w.heap.size w w' := by
  obtain ⟨W0, hW0⟩ : ∃ W0, W0 = (w.alloc (.cells #[.int .i64 r1, .int .i64 c1, .slice A1 n1 k1, .int .i64 r2, .int .i64 c2, .slice A2 n2 k2, .slice B1 m1 d1, .slice B2 m2 d2] 49)).alloc (.cells #[.slice X ni xc, .slice T no tc] 51) := ⟨_, rfl⟩
  have HB : Blk W0 w.heap.size 49 #[.int .i64 r1, .int .i64 c1, .slice A1 n1 k1, .int .i64 r2, .int .i64 c2, .slice A2 n2 k2, .slice B1 m1 d1, .slice B2 m2 d2] := by rw [hW0]; exact (Blk.made _ _ _).alloc _
  have HX : Blk W0 (w.heap.size + 1) 51 #[.slice X ni xc, .slice T no tc] := by rw [hW0]; exact Blk.made' _ _ _ (by simp)
  have bw : Below w.heap.size w W0 := by rw [hW0]; exact ((Below.refl _ _).alloc (Nat.le_refl _) _).alloc (by simp) _
  have HE := Lib.hid (ref_Pupil r1 c1 A1 n1 k1 a1 r2 c2 A2 n2 k2 a2 B1 m1 d1 b1 B2 m2 d2 b2 W0 (i1.below bw) (i2.below bw) (j1.below bw) (j2.below bw) h1 h2 h3 h4)
  have HFW := Lib.hid (fun W (q1 : Ints .i64 W A1 n1 a1) (q2 : Ints .i64 W A2 n2 a2) (q3 : Ints .i64 W B1 m1 b1) (q4 : Ints .i64 W B2 m2 b2) (q5 : Ints .i64 W X ni x) => pup_Forward_any r1 c1 A1 n1 k1 a1 r2 c2 A2 n2 k2 a2 B1 m1 d1 b1 B2 m2 d2 b2 X ni xc x W q1 q2 q3 q4 q5 g1 g2 h1 h2 h3 h4)
  have HLS := Lib.hid (fun W (q1 : Ints .i64 W A1 n1 a1) (q2 : Ints .i64 W A2 n2 a2) (q3 : Ints .i64 W B1 m1 b1) (q4 : Ints .i64 W B2 m2 b2) (q5 : Ints .i64 W X ni x) (q6 : Ints .i64 W T no t) => pup_Loss_any r1 c1 A1 n1 k1 a1 r2 c2 A2 n2 k2 a2 B1 m1 d1 b1 B2 m2 d2 b2 X T ni no xc tc x t W q1 q2 q3 q4 q5 q6 g1 g2 h1 h2 h3 h4)
  have HGR := Lib.hid (fun W (q1 : Ints .i64 W A1 n1 a1) (q2 : Ints .i64 W A2 n2 a2) (q3 : Ints .i64 W B1 m1 b1) (q4 : Ints .i64 W B2 m2 b2) (q5 : Ints .i64 W X ni x) (q6 : Ints .i64 W T no t) => pup_Grad_any r1 c1 A1 n1 k1 a1 r2 c2 A2 n2 k2 a2 B1 m1 d1 b1 B2 m2 d2 b2 X T ni no xc tc x t W q1 q2 q3 q4 q5 q6 g1 g2 h1 h2 h3 h4)
  obtain ⟨f0, f1, f2, f3, f4, f5, f6, f7⟩ := HB.pup
  obtain ⟨⟨x0, x1⟩, _⟩ := HX.two'
  go_enter Try.func5, Try.ntmps5
  go_wp2_with fail
  rw [← hW0]
  clear hW0
  refine HE.out.mono ?_
  rintro e y1 ⟨rfl, hb1⟩
  replace HB := HB.below hb1 HB.lt
  replace HX := HX.below hb1 HX.lt
  replace bw := bw.trans (hb1.mono bw.size)
  have ltX := HX.lt
  clear hb1 f0 f1 f2 f3 f4 f5 f6 f7 x0 x1 HE h1 h2 h3 h4 g1 g2
  go_upto_if 24 with fail
  go_cut [6, 7, 8, 9, 10] (fun f g h y n wx => RunsA y1 (fwE r1 c1 a1 r2 c2 a2 b1 b2 ni) (bothE r1 c1 a1 r2 c2 a2 b1 b2 ni no) (lossO r1 c1 a1 r2 c2 a2 b1 b2 x t) (hidO r1 c1 a1 r2 c2 a2 b1 b2 x) (outpO r1 c1 a1 r2 c2 a2 b1 b2 x) (gradO r1 c1 a1 r2 c2 a2 b1 b2 x t) f g h y n wx)
  case first =>
    clear HFW HLS HGR
    have hBz : PupBox (y1.alloc (.cells #[.int .i64 0, .int .i64 0, .slice none 0 0, .int .i64 0, .int .i64 0, .slice none 0 0, .slice none 0 0, .slice none 0 0] 49)) y1.heap.size .zero := PupBox.zero (Blk.made _ _ _)
    have hbz : Below y1.heap.size y1 (y1.alloc (.cells #[.int .i64 0, .int .i64 0, .slice none 0 0, .int .i64 0, .int .i64 0, .slice none 0 0, .slice none 0 0, .slice none 0 0] 49)) := (Below.refl _ _).alloc (Nat.le_refl _) _
    by_cases hP : pupE r1 c1 a1 r2 c2 a2 b1 b2 = 0
    · have t0 : (pupE r1 c1 a1 r2 c2 a2 b1 b2 == 0) = true := by rw [beq_iff_eq]; exact hP
      have HP := Lib.hid hP
      obtain ⟨H, I, O, rfl, rfl, rfl, rfl, hH, hI, hO, e1, e2, e3, e4, o1, o2⟩ := pup_dims hP
      obtain rfl : m1 = H := by rw [← j1.len]; exact e3
      obtain rfl : m2 = O := by rw [← j2.len]; exact e4
      rw [i1.len] at e1
      rw [i2.len] at e2
      have s0 : ∀ o, (y1.alloc o).cell? ⟨w.heap.size + 1, 0, none⟩ = some (.slice X ni xc) := fun o => (HX.alloc o).cell 0
      have s1 : ∀ o, (y1.alloc o).cell? ⟨w.heap.size, 1, none⟩ = some (.int .i64 I) := fun o => (HB.alloc o).cell 1
      obtain ⟨Z, hZ⟩ : ∃ Z, Z = y1.alloc (.cells #[.int .i64 0, .int .i64 0, .slice none 0 0, .int .i64 0, .int .i64 0, .slice none 0 0, .slice none 0 0, .slice none 0 0] 49) := ⟨_, rfl⟩
      have HZ0 : Blk Z y1.heap.size 49 #[.int .i64 0, .int .i64 0, .slice none 0 0, .int .i64 0, .int .i64 0, .slice none 0 0, .slice none 0 0, .slice none 0 0] := by rw [hZ]; exact Blk.made _ _ _
      rw [← hZ] at hBz hbz ⊢
      have ltZ := HZ0.lt
      have HSa := fun W (h : Below y1.heap.size y1 W) => (HB.below h HB.lt).pup
      have HSx := fun W (h : Below y1.heap.size y1 W) => (HX.below h HX.lt).two'
      have HS := Lib.hid (fun W (h : Below y1.heap.size y1 W) => (show W.cell? ⟨w.heap.size, 0, none⟩ = some (.int .i64 m1) ∧ W.cell? ⟨w.heap.size, 1, none⟩ = some (.int .i64 I) ∧ W.cell? ⟨w.heap.size, 2, none⟩ = some (.slice A1 n1 k1) ∧ W.cell? ⟨w.heap.size, 3, none⟩ = some (.int .i64 m2) ∧ W.cell? ⟨w.heap.size, 4, none⟩ = some (.int .i64 m1) ∧ W.cell? ⟨w.heap.size, 5, none⟩ = some (.slice A2 n2 k2) ∧ W.cell? ⟨w.heap.size, 6, none⟩ = some (.slice B1 m1 d1) ∧ W.cell? ⟨w.heap.size, 7, none⟩ = some (.slice B2 m2 d2) ∧ W.cell? ⟨w.heap.size + 1, 0, none⟩ = some (.slice X ni xc) ∧ W.cell? ⟨w.heap.size + 1, 1, none⟩ = some (.slice T no tc) from
        ⟨(HSa W h).1, (HSa W h).2.1, (HSa W h).2.2.1, (HSa W h).2.2.2.1, (HSa W h).2.2.2.2.1, (HSa W h).2.2.2.2.2.1, (HSa W h).2.2.2.2.2.2.1, (HSa W h).2.2.2.2.2.2.2, (HSx W h).1.1, (HSx W h).1.2⟩))
      have FWD := Lib.hid (fun (hq : ni = I) W (h : Below y1.heap.size y1 W) => ref_Forward m1 I m2 A1 n1 k1 a1 A2 n2 k2 a2 B1 d1 b1 B2 d2 b2 X xc x W (i1.below (bw.trans (h.mono bw.size))) (i2.below (bw.trans (h.mono bw.size))) (j1.below (bw.trans (h.mono bw.size))) (j2.below (bw.trans (h.mono bw.size))) (by rw [← hq]; exact ix.below (bw.trans (h.mono bw.size))) hH hI hO e1 e2)
      have LSS := Lib.hid (fun (hq : ni = I) (hq2 : no = m2) W (h : Below y1.heap.size y1 W) => ref_Loss m1 I m2 A1 n1 k1 a1 A2 n2 k2 a2 B1 d1 b1 B2 d2 b2 X xc x T tc t W (i1.below (bw.trans (h.mono bw.size))) (i2.below (bw.trans (h.mono bw.size))) (j1.below (bw.trans (h.mono bw.size))) (j2.below (bw.trans (h.mono bw.size))) (by rw [← hq]; exact ix.below (bw.trans (h.mono bw.size))) (by rw [← hq2]; exact it.below (bw.trans (h.mono bw.size))) hH hI hO e1 e2)
      have GRD := Lib.hid (fun (hq : ni = I) (hq2 : no = m2) W (h : Below y1.heap.size y1 W) => ref_Grad m1 I m2 A1 n1 k1 a1 A2 n2 k2 a2 B1 d1 b1 B2 d2 b2 X xc x T tc t W (i1.below (bw.trans (h.mono bw.size))) (i2.below (bw.trans (h.mono bw.size))) (j1.below (bw.trans (h.mono bw.size))) (j2.below (bw.trans (h.mono bw.size))) (by rw [← hq]; exact ix.below (bw.trans (h.mono bw.size))) (by rw [← hq2]; exact it.below (bw.trans (h.mono bw.size))) hH hI hO e1 e2)
      obtain ⟨f0, f1, f2, f3, f4, f5, f6, f7, x0, x1⟩ := HS.out Z hbz
      have HXL := Lib.hid ix.len
      have HTL := Lib.hid it.len
      clear hZ s0 s1 HSa HSx e1 e2 e3 e4 o1 o2 hP
      by_cases r1 : (ni : Int) = I
      · obtain rfl : ni = I := by omega
        have FWD1 := Lib.hid (FWD.out rfl)
        have LSS1 := Lib.hid (LSS.out rfl)
        have GRD1 := Lib.hid (GRD.out rfl)
        clear FWD LSS GRD
        have FE := Lib.hid (show fwE m1 ni a1 m2 m1 a2 b1 b2 ni = 0 by unfold fwE; rw [if_neg (by simp [HP.out]), if_neg (by simp)])
        have F3 := Lib.hid (show hidO m1 ni a1 m2 m1 a2 b1 b2 x = hidL m1 ni a1 b1 x from if_pos (by rw [HXL.out, FE.out]))
        have F4 := Lib.hid (show outpO m1 ni a1 m2 m1 a2 b1 b2 x = outpL m1 ni m2 a1 b1 a2 b2 x from if_pos (by rw [HXL.out, FE.out]))
        have L3 := Lib.hid (hidL_length m1 ni a1 b1 x)
        have L4 := Lib.hid (outpL_length m1 ni m2 a1 b1 a2 b2 x)
        clear r1
        by_cases r2 : (no : Int) = m2
        · obtain rfl : no = m2 := by omega
          have LSS2 := Lib.hid (LSS1.out rfl)
          have GRD2 := Lib.hid (GRD1.out rfl)
          clear LSS1 GRD1
          have BE := Lib.hid (show bothE m1 ni a1 no m1 a2 b1 b2 ni no = 0 by unfold bothE; rw [if_neg (by simp [HP.out]), if_neg (by simp)])
          have F5 := Lib.hid (show lossO m1 ni a1 no m1 a2 b1 b2 x t = lossP m1 ni no a1 b1 a2 b2 x t from if_pos (by rw [HXL.out, HTL.out, BE.out]))
          have F6 := Lib.hid (show gradO m1 ni a1 no m1 a2 b1 b2 x t = gradP m1 ni no a1 b1 a2 b2 x t from if_pos (by rw [HXL.out, HTL.out, BE.out]))
          clear r2
          go_wp2_with fail
          refine (FWD1.out _ hbz).mono ?_
          rintro e u1 ⟨S, s, Y, yc, rfl, OS, OY, hbu1⟩
          have hq1 : Below y1.heap.size y1 u1 := hbz.trans (hbu1.mono hbz.size)
          have hz1 := HZ0.below hbu1 ltZ
          clear f0 f1 f2 f3 f4 f5 f6 f7 x0 x1 hbu1
          obtain ⟨f0, f1, f2, f3, f4, f5, f6, f7, x0, x1⟩ := HS.out u1 hq1
          go_wp2_with fail
          refine (ref_Fits _ _ A1 n1 k1 _ _ A2 n2 k2 B1 _ d1 B2 _ d2 X T _ _ xc tc _).mono ?_
          rintro e u2 ⟨rfl, hbu2⟩
          rw [decide_eq_true (by simp)]
          have hq2 : Below y1.heap.size y1 u2 := hq1.trans (hbu2.mono hq1.size)
          have hz2 := hz1.below hbu2 hz1.lt
          have OS2 := own_below OS hbu2
          have OY2 := own_below OY hbu2
          clear f0 f1 f2 f3 f4 f5 f6 f7 x0 x1
          have hgp := Lib.hid (show gradP m1 ni no a1 b1 a2 b2 x t = ⟨m1, ni, outerL (gB1 m1 ni no a1 b1 a2 b2 x t) x, no, m1, outerL (offL (outpL m1 ni no a1 b1 a2 b2 x) t) (hidL m1 ni a1 b1 x), gB1 m1 ni no a1 b1 a2 b2 x t, offL (outpL m1 ni no a1 b1 a2 b2 x) t⟩ from rfl)
          obtain ⟨L1, hL1⟩ : ∃ L1, L1 = outerL (gB1 m1 ni no a1 b1 a2 b2 x t) x := ⟨_, rfl⟩
          obtain ⟨L2, hL2⟩ : ∃ L2, L2 = outerL (offL (outpL m1 ni no a1 b1 a2 b2 x) t) (hidL m1 ni a1 b1 x) := ⟨_, rfl⟩
          obtain ⟨L3', hL3⟩ : ∃ L3', L3' = gB1 m1 ni no a1 b1 a2 b2 x t := ⟨_, rfl⟩
          obtain ⟨L4', hL4⟩ : ∃ L4', L4' = offL (outpL m1 ni no a1 b1 a2 b2 x) t := ⟨_, rfl⟩
          rw [← hL1, ← hL2, ← hL3, ← hL4] at hgp
          rw [hgp.out] at GRD2
          obtain ⟨lo, hlo⟩ : ∃ lo, lo = lossP m1 ni no a1 b1 a2 b2 x t := ⟨_, rfl⟩
          rw [← hlo] at LSS2 F5
          have hS2 := HS.out u2 hq2
          clear hL1 hL2 hL3 hL4 hlo
          go_wp2
          go_region_held3 (fun W => W.cell? ⟨w.heap.size, 0, none⟩ = some (.int .i64 m1) ∧ W.cell? ⟨w.heap.size, 1, none⟩ = some (.int .i64 ni) ∧ W.cell? ⟨w.heap.size, 2, none⟩ = some (.slice A1 n1 k1) ∧ W.cell? ⟨w.heap.size, 3, none⟩ = some (.int .i64 no) ∧ W.cell? ⟨w.heap.size, 4, none⟩ = some (.int .i64 m1) ∧ W.cell? ⟨w.heap.size, 5, none⟩ = some (.slice A2 n2 k2) ∧ W.cell? ⟨w.heap.size, 6, none⟩ = some (.slice B1 m1 d1) ∧ W.cell? ⟨w.heap.size, 7, none⟩ = some (.slice B2 no d2) ∧ W.cell? ⟨w.heap.size + 1, 0, none⟩ = some (.slice X ni xc) ∧ W.cell? ⟨w.heap.size + 1, 1, none⟩ = some (.slice T no tc))
            (first | (with_reducible exact HS.out _ hq2.drew) | (with_reducible exact HS.out _ hB1) | (with_reducible exact HS.out _ hB2) | (with_reducible exact HS.out _ hB3) | go_keep)
            (first
              | (go_at_call 30; (with_reducible refine (LSS2.out _ hq2.drew).mono ?_); rintro e u3 ⟨rfl, hbL⟩; have hB1 : Below y1.heap.size y1 u3 := hq2.drew.trans (hbL.mono hq2.drew.size))
              | (go_at_call 31; (with_reducible refine (GRD2.out _ hB1).mono ?_); rintro e u4 ⟨G1, q1, G2, q2, G3, q3, G4, q4, rfl, P1, P2, P3, P4, hbG⟩; have hB2 : Below y1.heap.size y1 u4 := hB1.trans (hbG.mono hB1.size); have hz4 : Blk u4 y1.heap.size 49 #[.int .i64 0, .int .i64 0, .slice none 0 0, .int .i64 0, .int .i64 0, .slice none 0 0, .slice none 0 0, .slice none 0 0] := ((hz2.drewN 1).below hbL hz2.lt).below hbG (Nat.lt_of_lt_of_le hz2.lt hbL.size); have hcl := hz4.pup; have hfr := hz4.pupz; have B8 : But y1.heap.size u4 ((((((((u4.setCell ⟨y1.heap.size, 0, none⟩ (.int .i64 m1)).setCell ⟨y1.heap.size, 1, none⟩ (.int .i64 ni)).setCell ⟨y1.heap.size, 2, none⟩ (.slice G1 L1.length q1)).setCell ⟨y1.heap.size, 3, none⟩ (.int .i64 no)).setCell ⟨y1.heap.size, 4, none⟩ (.int .i64 m1)).setCell ⟨y1.heap.size, 5, none⟩ (.slice G2 L2.length q2)).setCell ⟨y1.heap.size, 6, none⟩ (.slice G3 L3'.length q3)).setCell ⟨y1.heap.size, 7, none⟩ (.slice G4 L4'.length q4)) := but_put (but_put (but_put (but_put (but_put (but_put (but_put (but_put (but_refl _ _) 0 _) 1 _) 2 _) 3 _) 4 _) 5 _) 6 _) 7 _; have hB3 : Below y1.heap.size y1 ((((((((u4.setCell ⟨y1.heap.size, 0, none⟩ (.int .i64 m1)).setCell ⟨y1.heap.size, 1, none⟩ (.int .i64 ni)).setCell ⟨y1.heap.size, 2, none⟩ (.slice G1 L1.length q1)).setCell ⟨y1.heap.size, 3, none⟩ (.int .i64 no)).setCell ⟨y1.heap.size, 4, none⟩ (.int .i64 m1)).setCell ⟨y1.heap.size, 5, none⟩ (.slice G2 L2.length q2)).setCell ⟨y1.heap.size, 6, none⟩ (.slice G3 L3'.length q3)).setCell ⟨y1.heap.size, 7, none⟩ (.slice G4 L4'.length q4)) := hB2.trans (B8.below (Nat.le_refl _) hB2.size))
              | fail)
          have OS4 := own_below (own_below (own_drewN OS2 1) hbL) hbG
          have OY4 := own_below (own_below (own_drewN OY2 1) hbL) hbG
          have ltu : y1.heap.size < u3.heap.size := Nat.lt_of_lt_of_le hz2.lt hbL.size
          have R0 := Ints.of_own (own_but OS4 B8 ltZ) L3.out
          have R1 := Ints.of_own (own_but OY4 B8 ltZ) L4.out
          have RB := Lib.hid (show PupBox _ y1.heap.size ⟨m1, ni, L1, no, m1, L2, L3', L4'⟩ from
            ⟨G1, q1, G2, q2, G3, q3, G4, q4, ((((((((hz4.put 0 (.int .i64 m1)).put 1 (.int .i64 ni)).put 2 (.slice G1 L1.length q1)).put 3 (.int .i64 no)).put 4 (.int .i64 m1)).put 5 (.slice G2 L2.length q2)).put 6 (.slice G3 L3'.length q3)).put 7 (.slice G4 L4'.length q4)),
              Ints.of_own (own_but P1 B8 ltu) rfl, Ints.of_own (own_but P2 B8 ltu) rfl, Ints.of_own (own_but P3 B8 ltu) rfl, Ints.of_own (own_but P4 B8 ltu) rfl⟩)
          clear hcl hfr hz4 hz2 B8 P1 P2 P3 P4 OS4 OY4 hS2
          go_wp2
          go_meet
          case rel => exact ⟨by rw [FE.out], by rw [BE.out], by rw [F5.out], ⟨S, s, by rw [F3.out, L3.out], by rw [F3.out, L3.out]; exact R0⟩, ⟨Y, yc, by rw [F4.out, L4.out], by rw [F4.out, L4.out]; exact R1⟩, by rw [F6.out, hgp.out]; exact RB.out, hB3⟩
        · have BE := Lib.hid (show bothE m1 ni a1 m2 m1 a2 b1 b2 ni no = 5 by unfold bothE; rw [if_neg (by simp [HP.out]), if_pos (.inr r2)])
          have F5 := Lib.hid (show lossO m1 ni a1 m2 m1 a2 b1 b2 x t = 0 from if_neg (by rw [HXL.out, HTL.out, BE.out]; decide))
          have F6 := Lib.hid (show gradO m1 ni a1 m2 m1 a2 b1 b2 x t = .zero from if_neg (by rw [HXL.out, HTL.out, BE.out]; decide))
          have R2 := Lib.hid r2
          clear r2 LSS1 GRD1
          go_wp2_with fail
          refine (FWD1.out _ hbz).mono ?_
          rintro e u1 ⟨S, s, Y, yc, rfl, OS, OY, hbu1⟩
          have hq1 : Below y1.heap.size y1 u1 := hbz.trans (hbu1.mono hbz.size)
          have hz1 := HZ0.below hbu1 ltZ
          have IS := Ints.of_own OS L3.out
          have IY := Ints.of_own OY L4.out
          clear f0 f1 f2 f3 f4 f5 f6 f7 x0 x1 OS OY hbu1
          obtain ⟨f0, f1, f2, f3, f4, f5, f6, f7, x0, x1⟩ := HS.out u1 hq1
          go_wp2_with fail
          refine (ref_Fits _ _ A1 n1 k1 _ _ A2 n2 k2 B1 _ d1 B2 _ d2 X T _ _ xc tc _).mono ?_
          rintro e u2 ⟨rfl, hbu2⟩
          rw [decide_eq_false (p := ((ni : Int) = ni ∧ (no : Int) = m2)) (fun h => R2.out h.2)]
          have hq2 : Below y1.heap.size y1 u2 := hq1.trans (hbu2.mono hq1.size)
          have hz2 := hz1.below hbu2 hz1.lt
          have IS2 := IS.below hbu2
          have IY2 := IY.below hbu2
          clear f0 f1 f2 f3 f4 f5 f6 f7 x0 x1
          go_wp2
          go_meet
          case rel => exact ⟨by rw [FE.out], by rw [BE.out], by rw [F5.out], ⟨S, s, by rw [F3.out, L3.out], by rw [F3.out, L3.out]; exact IS2⟩, ⟨Y, yc, by rw [F4.out, L4.out], by rw [F4.out, L4.out]; exact IY2⟩, by rw [F6.out]; exact PupBox.zero hz2, hq2⟩
      · have FE := Lib.hid (show fwE m1 I a1 m2 m1 a2 b1 b2 ni = 5 by unfold fwE; rw [if_neg (by simp [HP.out]), if_pos r1])
        have BE := Lib.hid (show bothE m1 I a1 m2 m1 a2 b1 b2 ni no = 5 by unfold bothE; rw [if_neg (by simp [HP.out]), if_pos (.inl r1)])
        have F3 := Lib.hid (show hidO m1 I a1 m2 m1 a2 b1 b2 x = [] from if_neg (by rw [HXL.out, FE.out]; decide))
        have F4 := Lib.hid (show outpO m1 I a1 m2 m1 a2 b1 b2 x = [] from if_neg (by rw [HXL.out, FE.out]; decide))
        have F5 := Lib.hid (show lossO m1 I a1 m2 m1 a2 b1 b2 x t = 0 from if_neg (by rw [HXL.out, HTL.out, BE.out]; decide))
        have F6 := Lib.hid (show gradO m1 I a1 m2 m1 a2 b1 b2 x t = .zero from if_neg (by rw [HXL.out, HTL.out, BE.out]; decide))
        have FT := Lib.hid (decide_eq_false (show ¬ ((ni : Int) = I ∧ (no : Int) = m2) from fun h => r1 h.1))
        have t1 : ((ni : Int) == (I : Int)) = false := by rw [beq_eq_false_iff_ne]; exact r1
        clear r1 FWD LSS GRD
        go_wp2_with fail
        refine (ref_Fits _ _ A1 n1 k1 _ _ A2 n2 k2 B1 _ d1 B2 _ d2 X T _ _ xc tc _).mono ?_
        rintro e u2 ⟨rfl, hbu2⟩
        rw [FT.out]
        have hq2 : Below y1.heap.size y1 u2 := hbz.trans (hbu2.mono hbz.size)
        have hz2 := HZ0.below hbu2 ltZ
        clear f0 f1 f2 f3 f4 f5 f6 f7 x0 x1
        go_wp2
        go_meet
        case rel => exact ⟨by rw [FE.out], by rw [BE.out], by rw [F5.out], by rw [F3.out]; exact ToldI.nil _, by rw [F4.out]; exact ToldI.nil _, by rw [F6.out]; exact PupBox.zero hz2, hq2⟩
    · have t0 : (pupE r1 c1 a1 r2 c2 a2 b1 b2 == 0) = false := by rw [beq_eq_false_iff_ne]; exact hP
      have F1 := Lib.hid (show fwE r1 c1 a1 r2 c2 a2 b1 b2 ni = pupE r1 c1 a1 r2 c2 a2 b1 b2 from if_pos hP)
      have F2 := Lib.hid (show bothE r1 c1 a1 r2 c2 a2 b1 b2 ni no = pupE r1 c1 a1 r2 c2 a2 b1 b2 from if_pos hP)
      have F3 := Lib.hid (show hidO r1 c1 a1 r2 c2 a2 b1 b2 x = [] from if_neg (by rw [ix.len, F1.out]; exact hP))
      have F4 := Lib.hid (show outpO r1 c1 a1 r2 c2 a2 b1 b2 x = [] from if_neg (by rw [ix.len, F1.out]; exact hP))
      have F5 := Lib.hid (show lossO r1 c1 a1 r2 c2 a2 b1 b2 x t = 0 from if_neg (by rw [ix.len, it.len, F2.out]; exact hP))
      have F6 := Lib.hid (show gradO r1 c1 a1 r2 c2 a2 b1 b2 x t = .zero from if_neg (by rw [ix.len, it.len, F2.out]; exact hP))
      clear hP
      go_wp2
      go_meet
      case rel => exact ⟨by rw [F1.out], by rw [F2.out], by rw [F5.out], by rw [F3.out]; exact ToldI.nil _, by rw [F4.out]; exact ToldI.nil _, by rw [F6.out]; exact hBz, hbz⟩
  case rest =>
  obtain ⟨rfl, rfl, rfl, ⟨Ah, ch, rfl, Ih⟩, ⟨Ay, cy, rfl, Iy⟩, hBox, hbc⟩ := hcut
  obtain ⟨wd, hwd⟩ : ∃ wd : World, wd = wc := ⟨_, rfl⟩
  rw [← hwd] at Ih Iy hBox hbc ⊢
  clear hwd
  obtain ⟨E1, e1, E2, e2, E3, e3, E4, e4, hBg, K1, K2, K3, K4⟩ := hBox
  obtain ⟨l1, l2, l3, l4⟩ := gradO_small r1 c1 a1 r2 c2 a2 b1 b2 x t
  have lh := hidO_len r1 c1 a1 r2 c2 a2 b1 b2 x
  have ly := outpO_len r1 c1 a1 r2 c2 a2 b1 b2 x
  have bwd := bw.trans (hbc.mono bw.size)
  have HB2 := HB.below hbc HB.lt
  have HX2 := HX.below hbc HX.lt
  obtain ⟨f0, f1, f2, f3, f4, f5, f6, f7⟩ := HB2.pup
  obtain ⟨⟨x0, x1⟩, _⟩ := HX2.two'
  go_wp2_with fail
  refine (HFW.out _ (i1.below bwd) (i2.below bwd) (j1.below bwd) (j2.below bwd) (ix.below bwd)).mono ?_
  rintro e y2 ⟨S1, s1, S2, s2, rfl, O1, O2, hb2⟩
  have bw2 := bwd.trans (hb2.mono bwd.size)
  have HB3 := HB2.below hb2 HB2.lt
  have HX3 := HX2.below hb2 HX2.lt
  clear f0 f1 f2 f3 f4 f5 f6 f7 x0 x1
  obtain ⟨f0, f1, f2, f3, f4, f5, f6, f7⟩ := HB3.pup
  obtain ⟨⟨x0, x1⟩, _⟩ := HX3.two'
  go_wp2_with fail
  refine (HLS.out _ (i1.below bw2) (i2.below bw2) (j1.below bw2) (j2.below bw2) (ix.below bw2) (it.below bw2)).mono ?_
  rintro e y3 ⟨rfl, hb3⟩
  have bw3 := bw2.trans (hb3.mono bw2.size)
  have HB4 := HB3.below hb3 HB3.lt
  have HX4 := HX3.below hb3 HX3.lt
  clear f0 f1 f2 f3 f4 f5 f6 f7 x0 x1
  obtain ⟨f0, f1, f2, f3, f4, f5, f6, f7⟩ := HB4.pup
  obtain ⟨⟨x0, x1⟩, _⟩ := HX4.two'
  go_wp2_with fail
  refine (HGR.out _ (i1.below bw3) (i2.below bw3) (j1.below bw3) (j2.below bw3) (ix.below bw3) (it.below bw3)).mono ?_
  rintro e y4 ⟨G1, q1, G2, q2, G3, q3, G4, q4, rfl, P1, P2, P3, P4, hb4⟩
  have bw4 := bw3.trans (hb4.mono bw3.size)
  have b24 := bel_trans hb3 hb4
  have b14 := bel_trans hb2 b24
  have hBg4 := hBg.below b14 hBg.lt
  obtain ⟨y0, y1', y2', y3', y4', y5', y6', y7'⟩ := forall_and8 (fun o => (hBg4.alloc o).pup)
  have hnew : ∀ cs, Blk (y4.alloc (.cells cs 49)) y4.heap.size 49 cs := fun cs => Blk.made _ _ _
  clear f0 f1 f2 f3 f4 f5 f6 f7 x0 x1
  go_wp2_with fail
  refine (equalI_any S1 Ah _ s1 ch _ _ _ _ (by exact ((Ints.of_own O1 rfl).below b24).alloc _) (by exact (Ih.below b14).alloc _) (by omega)).mono ?_
  rintro e y5 ⟨rfl, k5, rfl⟩
  rw [decide_eq_true rfl]
  go_wp2_with fail
  refine (equalI_any S2 Ay _ s2 cy _ _ _ _ (by exact (((Ints.of_own O2 rfl).below b24).alloc _).drewN _) (by exact ((Iy.below b14).alloc _).drewN _) (by omega)).mono ?_
  rintro e y6 ⟨rfl, k6, rfl⟩
  rw [decide_eq_true rfl]
  go_wp2_with fail
  refine (ref_SamePupil_yes _ _ G1 _ q1 _ _ _ G2 _ q2 _ G3 _ q3 _ G4 _ q4 _ E1 e1 E2 e2 E3 e3 E4 e4 _ (by exact ((Ints.of_own P1 rfl).alloc _).drewN _) (by exact ((Ints.of_own P2 rfl).alloc _).drewN _) (by exact ((Ints.of_own P3 rfl).alloc _).drewN _) (by exact ((Ints.of_own P4 rfl).alloc _).drewN _) (by exact ((K1.below b14).alloc _).drewN _) (by exact ((K2.below b14).alloc _).drewN _) (by exact ((K3.below b14).alloc _).drewN _) (by exact ((K4.below b14).alloc _).drewN _) (by omega) (by omega) (by omega) (by omega)).mono ?_
  rintro e y7 ⟨rfl, hb7⟩
  go_wp2
  go_ret
  have hz7 := bel_drewN (bw4.alloc bw4.size (.cells #[.int .i64 (gradO r1 c1 a1 r2 c2 a2 b1 b2 x t).r1, .int .i64 (gradO r1 c1 a1 r2 c2 a2 b1 b2 x t).c1, .slice G1 (gradO r1 c1 a1 r2 c2 a2 b1 b2 x t).a1.length q1, .int .i64 (gradO r1 c1 a1 r2 c2 a2 b1 b2 x t).r2, .int .i64 (gradO r1 c1 a1 r2 c2 a2 b1 b2 x t).c2, .slice G2 (gradO r1 c1 a1 r2 c2 a2 b1 b2 x t).a2.length q2, .slice G3 (gradO r1 c1 a1 r2 c2 a2 b1 b2 x t).b1.length q3, .slice G4 (gradO r1 c1 a1 r2 c2 a2 b1 b2 x t).b2.length q4] 49)) (k5 + k6)
  exact ⟨rfl, hz7.trans (hb7.mono hz7.size)⟩

set_option maxRecDepth 100000 in
theorem pupilRuns_lifted (os : Os) (started : os.Started) (H : Type) (enc : TypeId × Value → H) :
    ReturnsInHanded {} Try.checked os 5 .any (Rows.pupilRunsSpec.pre6 enc Try.prog Try.f5 Rows.pupilRunsRow.domain false) (Rows.pupilRunsSpec.post enc Try.prog Try.f5 false true false false) := by
  refine lift_law (fn := Try.f5) started (by kernel_rfl) Try.func5
    (ChangeSpec.witness6 (enc := enc) (C := Try.checked) false ⟨#[], #[.agg #[.int .i64 0, .int .i64 0, .slice none 0 0, .int .i64 0, .int .i64 0, .slice none 0 0, .slice none 0 0, .slice none 0 0], .agg #[.slice none 0 0, .slice none 0 0]], []⟩ 8 (by kernel_rfl) (by kernel_rfl) (by kernel_rfl) (by kernel_rfl)) (by kernel_rfl) rfl Try.underlying4 rfl ?_ ?_
  · intro ds h
    rw [Try.params5] at h
    match ds, h with
    | [d0, d1], _ => rfl
  · intro W args ds ps hA hlt hval hsz
    rw [Try.params5] at hA hval hsz
    obtain ⟨v0, vs0, d0, ds0, p0, q0, hargs, rfl, rfl, H0, T0⟩ := trodAll_cons hA
    obtain ⟨v1, vs1, d1, ds1, p1, q1, rfl, rfl, rfl, H1, T1⟩ := trodAll_cons T0
    obtain ⟨rfl, rfl, rfl⟩ := trodAll_nil T1
    obtain rfl : args = #[v0, v1] := by cases args; simp_all
    obtain ⟨b0, hv0⟩ := hval 0 49 v0 rfl rfl
    obtain ⟨b1, hv1⟩ := hval 1 51 v1 rfl rfl
    obtain ⟨r1, c1, A1, n1, k1, a1, r2, c2, A2, n2, k2, a2, B1, m1, e1, y1, B2, m2, e2, y2, rfl, _, _, _, _, ⟨i1, l1, l2⟩, ⟨i2, l3, l4⟩, ⟨j1, l5, l6⟩, ⟨j2, l7, l8⟩⟩ := arg_pup (fun _ => rfl) hv0 H0
    obtain ⟨X, ni, xc, x, T, no, tc, t, rfl, ⟨ix, l9, l10⟩, ⟨it, l11, l12⟩⟩ := arg_example (fun _ => rfl) hv1 H1
    have hmx : maxLen = 9223372036854775807 := rfl
    exact pupilRuns_walk r1 c1 A1 n1 k1 a1 r2 c2 A2 n2 k2 a2 B1 m1 e1 y1 B2 m2 e2 y2 X T ni no xc tc x t W i1 i2 j1 j2 ix it l1 l3 (by omega) (by omega) (by omega) (by omega)
theorem PupilRuns_holds : Rows.PupilRunsSaid :=
  OpenClaim.holds_of_wide 5 Try.f5 rfl rfl rfl rfl rfl rfl rfl ⟨rfl, rfl, rfl, rfl, rfl⟩ rfl rfl rfl rfl rfl (by kernel_rfl) Try.func5 (by kernel_rfl)
    (of_decide_eq_true (by kernel_rfl)) (by unfold Func.isWrapper; first | (rw [if_pos (by decide +kernel)]; kernel_rfl) | (rw [if_neg (by decide +kernel)]; exact ⟨rfl, rfl⟩))
    (fun os started H enc _ => pupilRuns_lifted os started H enc)

end Go.Proofs.Ytejkkbjepgghlaa
