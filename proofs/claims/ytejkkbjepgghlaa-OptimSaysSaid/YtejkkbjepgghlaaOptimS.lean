/- The law OptimSays holds of the given program for every input. No condition. -/
import Derived.Test.YtejkkbjepgghlaaOptV
import Derived.Test.YtejkkbjepgghlaaOptU
import Derived.Test.YtejkkbjepgghlaaVecAny
import Derived.Test.YtejkkbjepgghlaaArgs
import Derived.Deep.DeepCutAuto
import Derived.Deep.CutBlock
import Derived.Outline
namespace Go.Proofs.Ytejkkbjepgghlaa
open Go.ChangeShapes Go.WideShapes Go.ChangeAt Go.RowKit Pl

/-- A state in a box. -/
def StBox (w : World) (g : Nat) (W M : List Int) : Prop := ∃ A1 k1 A2 k2, Blk w g 27 #[.slice A1 W.length k1, .slice A2 M.length k2] ∧ Ints .i64 w A1 W.length W ∧ Ints .i64 w A2 M.length M
theorem StBox.zero {w : World} {g : Nat} (h : Blk w g 27 #[.slice none 0 0, .slice none 0 0]) : StBox w g [] [] := ⟨none, 0, none, 0, h, Ints.nil _ _ _, Ints.nil _ _ _⟩
theorem own_lists {w : World} {base n c : Nat} {A : Option Addr} {xs : List Int} (h : w.ownsRow base 3 1 (.slice A n c) n (xs.map (.int .i64))) (hl : xs.length = n) {p q : Addr} (hp : p.block < base) (hq : q.block < base) (a b : Value) : Ints .i64 ((w.setCell p a).setCell q b) A n xs :=
  Ints.of_own (own_far (own_far h hp a) hq b) hl
/-- Behind the law's first if: what it expects of Rate and Step. -/
def OsA (x1 : World) (f0 h0 v0 : Int) (W M : List Int) (f h v : Value) (wx : World) : Prop :=
  f = .int .i64 f0 ∧ h = .int .i64 h0 ∧ v = .int .i64 v0 ∧ StBox wx x1.heap.size W M ∧ Below x1.heap.size x1 wx
def OsI (z : World) (f0 v0 : Int) (f v : Value) (wx : World) : Prop := f = .int .i64 f0 ∧ v = .int .i64 v0 ∧ Below z.heap.size z wx
def OsB (z : World) (x : Int) (L : List Int) (e v : Value) (wx : World) : Prop := e = .int .i64 x ∧ Below z.heap.size z wx ∧ ∃ A c, v = .slice A L.length c ∧ Ints .i64 wx A L.length L

theorem weightsL_len (hw ke rate : Int) (wt mv g : List Int) : (weightsL hw ke rate wt mv g).length = g.length := upto_length _ _
theorem stepW_len (x N nw nm ng hw ke rate : Int) (wt mv g : List Int) : (stepW x N nw nm ng hw ke rate wt mv g).length ≤ g.length := by
  unfold stepW
  split
  · rw [weightsL_len]; exact Nat.le_refl _
  · simp
theorem stepM_len (x N nw nm ng hw ke rate : Int) (wt mv g : List Int) : (stepM x N nw nm ng hw ke rate wt mv g).length ≤ g.length ∨ (stepM x N nw nm ng hw ke rate wt mv g).length ≤ mv.length := by
  unfold stepM movesL
  split
  · split
    · rw [upto_length]; exact .inl (Nat.le_refl _)
    · exact .inr (Nat.le_refl _)
  · simp
theorem stepE_40 (ci ch co ba st ra de hw ke cl : Int) {nw nm ng : Int} {wt mv : List Int} {rate : Int} (h : stepE (cfgE ci ch co ba st ra de hw ke cl) (sizeP ci ch co) nw nm ng wt mv rate = 0) : nw ≤ 40 ∧ nm ≤ 40 ∧ ng ≤ 40 := by
  unfold stepE at h
  split at h
  · omega
  · rename_i hx
    have hx' : cfgE ci ch co ba st ra de hw ke cl = 0 := by omega
    obtain ⟨s1, s2, s3, _⟩ := cfgE_ok hx'
    have := sizeP_bd s1 s2 s3
    split at h
    · omega
    · rename_i h1
      simp only [not_or, ne_eq, Decidable.not_not] at h1
      omega
theorem stepW_40 (ci ch co ba st ra de hw ke cl : Int) (nw nm : Int) {ng : Nat} {wt mv g : List Int} {rate : Int} (hg : g.length = ng) : (stepW (cfgE ci ch co ba st ra de hw ke cl) (sizeP ci ch co) nw nm ng hw ke rate wt mv g).length ≤ 40 := by
  unfold stepW
  split
  · rename_i h
    have := stepE_40 ci ch co ba st ra de hw ke cl h
    rw [weightsL_len]; omega
  · simp
theorem stepM_40 (ci ch co ba st ra de hw ke cl : Int) (nw : Int) {nm ng : Nat} {wt mv g : List Int} {rate : Int} (hm : mv.length = nm) (hg : g.length = ng) : (stepM (cfgE ci ch co ba st ra de hw ke cl) (sizeP ci ch co) nw nm ng hw ke rate wt mv g).length ≤ 40 := by
  unfold stepM movesL
  split
  · rename_i h
    have := stepE_40 ci ch co ba st ra de hw ke cl h
    split
    · rw [upto_length]; omega
    · omega
  · simp
theorem clipO_len (g : List Int) (most : Int) : (clipO g most).length ≤ 200 := by
  unfold clipO
  split
  · rename_i h
    rw [clipL_length]
    unfold clipE at h
    split at h
    · omega
    · omega
  · simp

set_option maxRecDepth 100000 in
set_option maxHeartbeats 4000000 in
theorem optimSays_walk (ci ch co se ba st ra de hw ke cl : Int) (A1 A2 A3 : Option Addr) (nw nm ng c1 c2 c3 : Nat) (wt mv g : List Int) (step most rate : Int) (w : World) (i1 : Ints .i64 w A1 nw wt) (i2 : Ints .i64 w A2 nm mv) (i3 : Ints .i64 w A3 ng g)
    (z1 : nw ≤ 9223372036854775807) (z2 : nm ≤ 9223372036854775807) (z3 : ng ≤ 9223372036854775807) (hs : -9223372036854775808 ≤ step ∧ step ≤ 9223372036854775807) :
    Calls Try.prog 3 #[.agg #[.int .i64 ci, .int .i64 ch, .int .i64 co, .int .u64 se, .int .i64 ba, .int .i64 st, .int .i64 ra, .int .i64 de, .int .i64 hw, .int .i64 ke, .int .i64 cl], .int .i64 step, .slice A3 ng c3, .int .i64 most, .agg #[.slice A1 nw c1, .slice A2 nm c2], .int .i64 rate] w fun e w' => e = .returned (.bool true) ∧ Below w.heap.size w w' := by
  have HB0 := (Blk.made w 24 #[.int .i64 ci, .int .i64 ch, .int .i64 co, .int .u64 se, .int .i64 ba, .int .i64 st, .int .i64 ra, .int .i64 de, .int .i64 hw, .int .i64 ke, .int .i64 cl]).alloc (.cells #[.slice A1 nw c1, .slice A2 nm c2] 27)
  have HB1 := Blk.made' (w.alloc (.cells #[.int .i64 ci, .int .i64 ch, .int .i64 co, .int .u64 se, .int .i64 ba, .int .i64 st, .int .i64 ra, .int .i64 de, .int .i64 hw, .int .i64 ke, .int .i64 cl] 24)) 27 #[.slice A1 nw c1, .slice A2 nm c2] (g := w.heap.size + 1) (by simp)
  go_enter Try.func3, Try.ntmps3
  go_upto_if 31 with (go_at_call 14; refine (ref_Config ci ch co se ba st ra de hw ke cl _).mono ?_; rintro e x1 ⟨rfl, hb1⟩)
  replace HB0 := HB0.below hb1 (by simp <;> omega)
  replace HB1 := HB1.below hb1 (by simp <;> omega)
  have hbw : Below w.heap.size w x1 := Below.trans (B := w.heap.size) (by repeat (first | exact Below.refl _ _ | assumption | refine bel_drewN ?_ _ | refine Below.drew ?_ | (refine Below.alloc ?_ (by simp <;> omega) _) | (refine Below.setCell ?_ (by simp <;> omega) _))) (hb1.mono (by simp <;> omega))
  have j1 := i1.below hbw
  have j2 := i2.below hbw
  have j3 := i3.below hbw
  have hlx := HB1.lt
  clear hb1
  go_cut [14, 15, 16] (fun f h v wx => OsA x1 (rateE (cfgE ci ch co ba st ra de hw ke cl) st step) (stepE (cfgE ci ch co ba st ra de hw ke cl) (sizeP ci ch co) nw nm ng wt mv rate) (rateO (cfgE ci ch co ba st ra de hw ke cl) st ra de step) (stepW (cfgE ci ch co ba st ra de hw ke cl) (sizeP ci ch co) nw nm ng hw ke rate wt mv g) (stepM (cfgE ci ch co ba st ra de hw ke cl) (sizeP ci ch co) nw nm ng hw ke rate wt mv g) f h v wx)
  case first =>
    by_cases hE : cfgE ci ch co ba st ra de hw ke cl = 0
    · have t : (cfgE ci ch co ba st ra de hw ke cl == 0) = true := by rw [beq_iff_eq]; exact hE
      obtain ⟨s1, s2, s3, _, ⟨st1, st2⟩, _, _, _, _, _⟩ := cfgE_ok hE
      have hN40 := sizeP_bd s1 s2 s3
      have HE := Lib.hid hE
      have hbz : Below x1.heap.size x1 (x1.alloc (.cells #[.slice none 0 0, .slice none 0 0] 27)) := (Below.refl _ _).alloc (Nat.le_refl _) _
      have hzb : Blk (x1.alloc (.cells #[.slice none 0 0, .slice none 0 0] 27)) x1.heap.size 27 #[.slice none 0 0, .slice none 0 0] := Blk.made _ _ _
      obtain ⟨z, hz⟩ : ∃ z, z = x1.alloc (.cells #[.slice none 0 0, .slice none 0 0] 27) := ⟨_, rfl⟩
      have hz' := hz
      obtain ⟨c0', c1', c2', c3', c4', c5', c6', c7', c8', c9', ca'⟩ := forall_and11 (fun o => (HB0.alloc o).cfg)
      clear hE hs
      go_upto_if 36 with (go_at_call 15; refine (ref_In _ _ _ _).mono ?_; rintro e w' ⟨rfl, rfl⟩)
      rw [← hz]
      rw [← hz'] at hbz hzb
      clear hz hz' c0' c1' c2' c3' c4' c5' c6' c7' c8' c9' ca'
      go_cut [14, 16] (fun f v wx => OsI z (rateE (cfgE ci ch co ba st ra de hw ke cl) st step) (rateO (cfgE ci ch co ba st ra de hw ke cl) st ra de step) f v wx)
      case first =>
        cases hI : inB step 0 (st - 1)
        · have F1 := Lib.hid (rateE_1 (x := cfgE ci ch co ba st ra de hw ke cl) HE.out hI)
          have F3 := Lib.hid (show rateO (cfgE ci ch co ba st ra de hw ke cl) st ra de step = 0 from if_neg (by rw [F1.out]; decide))
          go_wp2
          go_meet
          case rel => exact ⟨by rw [F1.out], by rw [F3.out], Below.refl _ _⟩
        · have F1 := Lib.hid (rateE_2 (x := cfgE ci ch co ba st ra de hw ke cl) HE.out hI)
          have F3 := Lib.hid (show rateO (cfgE ci ch co ba st ra de hw ke cl) st ra de step = rateP de ra st step from if_pos F1.out)
          obtain ⟨v1, v2⟩ := inB_iff.1 hI
          obtain ⟨d0, d1, d2, d3, d4, d5, d6, d7, d8, d9, da⟩ := (HB0.below hbz (by omega)).cfg
          go_wp2_with (go_at_call 16; refine (ref_Rate ci ch co se ba st ra de hw ke cl step _ HE.out v1 v2).mono ?_; rintro e w' ⟨rfl, hbr⟩)
          go_meet
          case rel => exact ⟨by rw [F1.out], by rw [F3.out], hbr⟩
      case rest =>
        obtain ⟨rfl, rfl, hbi⟩ := hcut
        obtain ⟨k, rfl⟩ : ∃ k : World, k = wc := ⟨_, rfl⟩
        have hbk : Below x1.heap.size x1 k := hbz.trans (hbi.mono hbz.size)
        have hzk := hzb.below hbi hzb.lt
        obtain ⟨b0, b1, b2, b3, b4, b5, b6, b7, b8, b9, bA⟩ := (HB0.below hbk (by omega)).cfg
        obtain ⟨⟨g0, g1⟩, _⟩ := (HB1.below hbk (by omega)).two
        clear hbi hbz hzb
        by_cases hf : (nw : Int) = sizeP ci ch co ∧ (nm : Int) = sizeP ci ch co ∧ okL wt = true ∧ okL mv = true
        · have FB := Lib.hid (show fitsB (sizeP ci ch co) nw nm wt mv = true by simp [fitsB, hf.1, hf.2.1, hf.2.2.1, hf.2.2.2])
          obtain ⟨f1', f2', f3', f4'⟩ := hf
          by_cases hg : (ng : Int) = (nw : Int)
          · have tg : ((ng : Int) != (nw : Int)) = false := by rw [bne_eq_false_iff_eq]; exact hg
            have hs : ¬ ((nw : Int) ≠ sizeP ci ch co ∨ (nm : Int) ≠ sizeP ci ch co ∨ (ng : Int) ≠ sizeP ci ch co ∨ okL wt = false ∨ okL mv = false) := by simp [f1', f2', f3', f4', hg]
            cases h6 : inB rate 0 2147483647
            · have F2 := Lib.hid (show stepE (cfgE ci ch co ba st ra de hw ke cl) (sizeP ci ch co) nw nm ng wt mv rate = 1 by unfold stepE; rw [if_neg (by simp [HE.out]), if_neg hs, h6]; rfl)
              have F4 := Lib.hid (show stepW (cfgE ci ch co ba st ra de hw ke cl) (sizeP ci ch co) nw nm ng hw ke rate wt mv g = [] from if_neg (by rw [F2.out]; decide))
              have F5 := Lib.hid (show stepM (cfgE ci ch co ba st ra de hw ke cl) (sizeP ci ch co) nw nm ng hw ke rate wt mv g = [] from if_neg (by rw [F2.out]; decide))
              clear f1' f2' f3' f4' hg hs
              go_wp2_with fail
              refine (ref_StateFits ci ch co se ba st ra de hw ke cl A1 A2 nw nm c1 c2 wt mv _ (j1.below hbk) (j2.below hbk) HE.out z1 z2).mono ?_
              rintro e y ⟨rfl, hby⟩
              have hby' := hby
              have hbq : Below x1.heap.size x1 y := hbk.trans (hby.mono hbk.size)
              have hz3 : Blk y x1.heap.size 27 #[.slice none 0 0, .slice none 0 0] := hzk.below hby hzk.lt
              obtain ⟨d0, d1, d2, d3, d4, d5, d6, d7, d8, d9, da⟩ := (HB0.below hbq (by omega)).cfg
              obtain ⟨⟨f0, f1⟩, _⟩ := (HB1.below hbq (by omega)).two
              clear b0 b1 b2 b3 b4 b5 b6 b7 b8 b9 bA g0 g1
              rw [FB.out]
              go_wp2_with (go_at_call 15; refine (ref_In _ _ _ _).mono ?_; rintro e w' ⟨rfl, rfl⟩)
              go_meet
              case rel => exact ⟨rfl, by rw [F2.out], rfl, by rw [F4.out, F5.out]; exact StBox.zero hz3, hbq⟩
            · have F2 := Lib.hid (show stepE (cfgE ci ch co ba st ra de hw ke cl) (sizeP ci ch co) nw nm ng wt mv rate = 0 by unfold stepE; rw [if_neg (by simp [HE.out]), if_neg hs, h6]; rfl)
              have F4 := Lib.hid (show stepW (cfgE ci ch co ba st ra de hw ke cl) (sizeP ci ch co) nw nm ng hw ke rate wt mv g = weightsL hw ke rate wt mv g from if_pos F2.out)
              have F5 := Lib.hid (show stepM (cfgE ci ch co ba st ra de hw ke cl) (sizeP ci ch co) nw nm ng hw ke rate wt mv g = movesL hw ke mv g from if_pos F2.out)
              have e1 : nm = nw := by omega
              have e2 : ng = nw := by omega
              subst e1
              subst e2
              have n40 : ng ≤ 40 := by omega
              clear f1' f2' f3' f4' hg hs
              go_wp2_with fail
              refine (ref_StateFits ci ch co se ba st ra de hw ke cl A1 A2 ng ng c1 c2 wt mv _ (j1.below hbk) (j2.below hbk) HE.out z1 z2).mono ?_
              rintro e y ⟨rfl, hby⟩
              have hby' := hby
              have hbq : Below x1.heap.size x1 y := hbk.trans (hby.mono hbk.size)
              have hz3 : Blk y x1.heap.size 27 #[.slice none 0 0, .slice none 0 0] := hzk.below hby hzk.lt
              obtain ⟨d0, d1, d2, d3, d4, d5, d6, d7, d8, d9, da⟩ := (HB0.below hbq (by omega)).cfg
              obtain ⟨⟨f0, f1⟩, _⟩ := (HB1.below hbq (by omega)).two
              clear b0 b1 b2 b3 b4 b5 b6 b7 b8 b9 bA g0 g1
              rw [FB.out]
              go_wp2_with (go_at_call 15; refine (ref_In _ _ _ _).mono ?_; rintro e w' ⟨rfl, rfl⟩)
              refine (ref_Stepped ci ch co se ba st ra de hw ke cl A1 A2 A3 ng c1 c2 c3 wt mv g rate _ (j1.below hbq) (j2.below hbq) (j3.below hbq) n40).mono ?_
              rintro e y2 ⟨Y1, q1, Y2, q2, rfl, O1, O2, hb2⟩
              have I1 := own_lists O1 (by rw [weightsL_len, i3.len]) (p := ⟨x1.heap.size, 0, none⟩) (q := ⟨x1.heap.size, 1, none⟩) (by have := hz3.lt; simp; omega) (by have := hz3.lt; simp; omega) (.slice Y1 ng q1) (.slice Y2 ng q2)
              have I2 := own_lists O2 (by rw [movesL_upto (i2.len.trans i3.len.symm), upto_length, i3.len]) (p := ⟨x1.heap.size, 0, none⟩) (q := ⟨x1.heap.size, 1, none⟩) (by have := hz3.lt; simp; omega) (by have := hz3.lt; simp; omega) (.slice Y1 ng q1) (.slice Y2 ng q2)
              have hz4 := hz3.below hb2 hz3.lt
              have hbv := hbq.trans (hb2.mono hbq.size)
              have r0 : y2.cell? ⟨x1.heap.size, 0, none⟩ = some (.slice none 0 0) := hz4.cell 0
              have r1 : y2.cell? ⟨x1.heap.size, 1, none⟩ = some (.slice none 0 0) := hz4.cell 1
              have r2 := hz4.frozen 0
              have r3 := hz4.frozen 1
              have RB := Lib.hid (show StBox ((y2.setCell ⟨x1.heap.size, 0, none⟩ (.slice Y1 ng q1)).setCell ⟨x1.heap.size, 1, none⟩ (.slice Y2 ng q2)) x1.heap.size (weightsL hw ke rate wt mv g) (movesL hw ke mv g) from by
                have l1 := I1.len
                have l2 := I2.len
                refine ⟨Y1, q1, Y2, q2, ?_, ?_, ?_⟩
                · rw [l1, l2]; exact (hz4.put 0 _).put 1 _
                · rw [l1]; exact I1
                · rw [l2]; exact I2)
              have hbf := (hbv.setCell (p := ⟨x1.heap.size, 0, none⟩) (Nat.le_refl _) (.slice Y1 ng q1)).setCell (p := ⟨x1.heap.size, 1, none⟩) (Nat.le_refl _) (.slice Y2 ng q2)
              clear d0 d1 d2 d3 d4 d5 d6 d7 d8 d9 da f0 f1 hz3 hz4 I1 I2
              go_wp2
              go_meet
              case rel => exact ⟨rfl, by rw [F2.out, HE.out], rfl, by rw [F4.out, F5.out]; exact RB.out, hbf⟩
          · have tg : ((ng : Int) != (nw : Int)) = true := by rw [bne_iff_ne]; exact hg
            have F2 := Lib.hid (show stepE (cfgE ci ch co ba st ra de hw ke cl) (sizeP ci ch co) nw nm ng wt mv rate = 5 by unfold stepE; rw [if_neg (by simp [HE.out]), if_pos (.inr (.inr (.inl (fun h => hg (h.trans f1'.symm)))))])
            have F4 := Lib.hid (show stepW (cfgE ci ch co ba st ra de hw ke cl) (sizeP ci ch co) nw nm ng hw ke rate wt mv g = [] from if_neg (by rw [F2.out]; decide))
            have F5 := Lib.hid (show stepM (cfgE ci ch co ba st ra de hw ke cl) (sizeP ci ch co) nw nm ng hw ke rate wt mv g = [] from if_neg (by rw [F2.out]; decide))
            clear f1' f2' f3' f4' hg
            go_wp2_with fail
            refine (ref_StateFits ci ch co se ba st ra de hw ke cl A1 A2 nw nm c1 c2 wt mv _ (j1.below hbk) (j2.below hbk) HE.out z1 z2).mono ?_
            rintro e y ⟨rfl, hby⟩
            have hby' := hby
            have hbq : Below x1.heap.size x1 y := hbk.trans (hby.mono hbk.size)
            have hz3 : Blk y x1.heap.size 27 #[.slice none 0 0, .slice none 0 0] := hzk.below hby hzk.lt
            obtain ⟨d0, d1, d2, d3, d4, d5, d6, d7, d8, d9, da⟩ := (HB0.below hbq (by omega)).cfg
            obtain ⟨⟨f0, f1⟩, _⟩ := (HB1.below hbq (by omega)).two
            clear b0 b1 b2 b3 b4 b5 b6 b7 b8 b9 bA g0 g1
            rw [FB.out]
            go_wp2
            go_meet
            case rel => exact ⟨rfl, by rw [F2.out], rfl, by rw [F4.out, F5.out]; exact StBox.zero hz3, hbq⟩
        · have FB := Lib.hid (show fitsB (sizeP ci ch co) nw nm wt mv = false by
            cases h : fitsB (sizeP ci ch co) nw nm wt mv
            · rfl
            · simp only [fitsB, Bool.and_eq_true, beq_iff_eq] at h
              exact absurd ⟨h.1.1.1, h.1.1.2, h.1.2, h.2⟩ hf)
          have hs : (nw : Int) ≠ sizeP ci ch co ∨ (nm : Int) ≠ sizeP ci ch co ∨ (ng : Int) ≠ sizeP ci ch co ∨ okL wt = false ∨ okL mv = false := by
            by_cases q1 : (nw : Int) = sizeP ci ch co
            · by_cases q2 : (nm : Int) = sizeP ci ch co
              · cases q3 : okL wt
                · exact .inr (.inr (.inr (.inl rfl)))
                · cases q4 : okL mv
                  · exact .inr (.inr (.inr (.inr rfl)))
                  · exact absurd ⟨q1, q2, q3, q4⟩ hf
              · exact .inr (.inl q2)
            · exact .inl q1
          have F2 := Lib.hid (show stepE (cfgE ci ch co ba st ra de hw ke cl) (sizeP ci ch co) nw nm ng wt mv rate = 5 by unfold stepE; rw [if_neg (by simp [HE.out]), if_pos hs])
          have F4 := Lib.hid (show stepW (cfgE ci ch co ba st ra de hw ke cl) (sizeP ci ch co) nw nm ng hw ke rate wt mv g = [] from if_neg (by rw [F2.out]; decide))
          have F5 := Lib.hid (show stepM (cfgE ci ch co ba st ra de hw ke cl) (sizeP ci ch co) nw nm ng hw ke rate wt mv g = [] from if_neg (by rw [F2.out]; decide))
          clear hf hs
          go_wp2_with fail
          refine (ref_StateFits ci ch co se ba st ra de hw ke cl A1 A2 nw nm c1 c2 wt mv _ (j1.below hbk) (j2.below hbk) HE.out z1 z2).mono ?_
          rintro e y ⟨rfl, hby⟩
          have hby' := hby
          have hbq : Below x1.heap.size x1 y := hbk.trans (hby.mono hbk.size)
          have hz3 : Blk y x1.heap.size 27 #[.slice none 0 0, .slice none 0 0] := hzk.below hby hzk.lt
          obtain ⟨d0, d1, d2, d3, d4, d5, d6, d7, d8, d9, da⟩ := (HB0.below hbq (by omega)).cfg
          obtain ⟨⟨f0, f1⟩, _⟩ := (HB1.below hbq (by omega)).two
          clear b0 b1 b2 b3 b4 b5 b6 b7 b8 b9 bA g0 g1
          rw [FB.out]
          go_wp2
          go_meet
          case rel => exact ⟨rfl, by rw [F2.out], rfl, by rw [F4.out, F5.out]; exact StBox.zero hz3, hbq⟩
    · have t : (cfgE ci ch co ba st ra de hw ke cl == 0) = false := beq_eq_false_iff_ne.2 hE
      have F1 := Lib.hid (rateE_0 (st := st) (step := step) hE)
      have F2 := Lib.hid (show stepE (cfgE ci ch co ba st ra de hw ke cl) (sizeP ci ch co) nw nm ng wt mv rate = cfgE ci ch co ba st ra de hw ke cl from if_pos hE)
      have F3 := Lib.hid (show rateO (cfgE ci ch co ba st ra de hw ke cl) st ra de step = 0 from if_neg (by rw [F1.out]; exact hE))
      have F4 := Lib.hid (show stepW (cfgE ci ch co ba st ra de hw ke cl) (sizeP ci ch co) nw nm ng hw ke rate wt mv g = [] from if_neg (by rw [F2.out]; exact hE))
      have F5 := Lib.hid (show stepM (cfgE ci ch co ba st ra de hw ke cl) (sizeP ci ch co) nw nm ng hw ke rate wt mv g = [] from if_neg (by rw [F2.out]; exact hE))
      clear hE
      go_wp2
      go_meet
      case rel => exact ⟨by rw [F1.out], by rw [F2.out], by rw [F3.out], by rw [F4.out, F5.out]; exact StBox.zero (Blk.made _ _ _), (Below.refl _ _).alloc (Nat.le_refl _) _⟩
  case rest =>
    obtain ⟨rfl, rfl, rfl, hBox, hbc⟩ := hcut
    obtain ⟨wa, rfl⟩ : ∃ wa : World, wa = wc := ⟨_, rfl⟩
    have k2 := j2.below hbc
    have k1 := j1.below hbc
    have k3 := j3.below hbc
    have hbv := hbw.trans (hbc.mono hbw.size)
    have HC0 := HB0.below hbc (by omega)
    have HC1 := HB1.below hbc (by omega)
    have hxa := hbc.size
    have bW := stepW_40 ci ch co ba st ra de hw ke cl nw nm (wt := wt) (mv := mv) (rate := rate) i3.len
    have bM := stepM_40 ci ch co ba st ra de hw ke cl nw (wt := wt) (rate := rate) i2.len i3.len
    obtain ⟨EA1, e1, EA2, e2, hBk, I1, I2⟩ := hBox
    obtain ⟨LW, hLW⟩ : ∃ L, L = stepW (cfgE ci ch co ba st ra de hw ke cl) (sizeP ci ch co) nw nm ng hw ke rate wt mv g := ⟨_, rfl⟩
    obtain ⟨LM, hLM⟩ : ∃ L, L = stepM (cfgE ci ch co ba st ra de hw ke cl) (sizeP ci ch co) nw nm ng hw ke rate wt mv g := ⟨_, rfl⟩
    rw [← hLW] at bW hBk I1
    rw [← hLM] at bM hBk I2
    have HST := Lib.hid (fun W (q1 : Ints .i64 W A1 nw wt) (q2 : Ints .i64 W A2 nm mv) (q3 : Ints .i64 W A3 ng g) => opt_Step_any ci ch co se ba st ra de hw ke cl A1 A2 A3 nw nm ng c1 c2 c3 wt mv g rate W q1 q2 q3 z1 z2)
    rw [← hLW, ← hLM] at HST
    have HRT := Lib.hid (fun W => opt_Rate ci ch co se ba st ra de hw ke cl step W hs)
    have HCL := Lib.hid (fun W (q : Ints .i64 W A3 ng g) => opt_Clip_any A3 ng c3 g most W q)
    have lC := clipO_len g most
    clear hLW hLM hs i1 i2 i3 j1 j2 j3 HB0 HB1 hbw hbc
    go_upto_block 1 with fail
    go_cut [18, 19] (fun e v wx => OsB wa (clipE ng most) (clipO g most) e v wx)
    case first =>
      by_cases h200 : 200 < ng
      · have F1 := Lib.hid (show clipE ng most = 2 from if_pos h200)
        have F2 := Lib.hid (show clipO g most = [] from if_neg (by rw [k3.len, F1.out]; decide))
        go_wp2
        go_meet
        case rel => exact ⟨by rw [F1.out], Below.refl _ _, none, 0, by rw [F2.out]; rfl, by rw [F2.out]; exact Ints.nil _ _ _⟩
      · cases hI : inB most 0 2147483647
        · have F1 := Lib.hid (show clipE ng most = 1 by unfold clipE; rw [if_neg h200, hI]; rfl)
          have F2 := Lib.hid (show clipO g most = [] from if_neg (by rw [k3.len, F1.out]; decide))
          go_wp2_with (go_at_call 15; refine (ref_In _ _ _ _).mono ?_; rintro e w' ⟨rfl, rfl⟩)
          go_meet
          case rel => exact ⟨by rw [F1.out], Below.refl _ _, none, 0, by rw [F2.out]; rfl, by rw [F2.out]; exact Ints.nil _ _ _⟩
        · have F1 := Lib.hid (show clipE ng most = 0 by unfold clipE; rw [if_neg h200, hI]; rfl)
          have F2 := Lib.hid (show clipO g most = clipL g most from if_pos (by rw [k3.len]; exact F1.out))
          obtain ⟨v1, v2⟩ := inB_iff.1 hI
          go_wp2_with (first | (go_at_call 15; refine (ref_In _ _ _ _).mono ?_; rintro e w' ⟨rfl, rfl⟩) | (go_at_call 19; refine (ref_Clip A3 ng c3 g most _ k3 (by omega) v1 v2).mono ?_; rintro e w5 ⟨Y, y, rfl, ho, hb5⟩))
          go_meet
          case rel => exact ⟨by rw [F1.out], hb5, Y, y, by rw [F2.out], by rw [F2.out]; exact Ints.of_own ho rfl⟩
    case rest =>
      obtain ⟨rfl, hbB, Y, y, rfl, hIC⟩ := hcut
      obtain ⟨u, rfl⟩ : ∃ u : World, u = wc := ⟨_, rfl⟩
      have hba := hbB
      obtain ⟨d0, d1, d2, d3, d4, d5, d6, d7, d8, d9, da⟩ := (HC0.below hba HC0.lt).cfg
      go_wp2_with fail
      refine (HRT.out _).mono ?_
      rintro e x2 ⟨rfl, hb2⟩
      have ha2 := bel_trans hba hb2
      clear d0 d1 d2 d3 d4 d5 d6 d7 d8 d9 da
      go_wp2_with fail
      refine (HCL.out _ (k3.below ha2)).mono ?_
      rintro e x3 ⟨Z, zc, rfl, hIZ, hb3⟩
      have ha3 := bel_trans ha2 hb3
      have hu3 := bel_trans hb2 hb3
      obtain ⟨d0, d1, d2, d3, d4, d5, d6, d7, d8, d9, da⟩ := (HC0.below ha3 HC0.lt).cfg
      obtain ⟨⟨f0, f1⟩, _⟩ := (HC1.below ha3 HC1.lt).two
      go_wp2_with fail
      refine (HST.out _ (k1.below ha3) (k2.below ha3) (k3.below ha3)).mono ?_
      rintro e x4 ⟨S1, s1, S2, s2, rfl, O1, O2, hb4⟩
      have ha4 := bel_trans ha3 hb4
      have J1 := (Ints.of_own O1 rfl).alloc
      have J2 := (Ints.of_own O2 rfl).alloc
      have K1 := (I1.below ha4).alloc
      have K2 := (I2.below ha4).alloc
      have hIC4 := (hIC.below (bel_trans hu3 hb4)).alloc
      have hIZ4 := (hIZ.below hb4).alloc
      clear d0 d1 d2 d3 d4 d5 d6 d7 d8 d9 da f0 f1
      obtain ⟨d0, d1, d2, d3, d4, d5, d6, d7, d8, d9, da⟩ := forall_and11 (fun o => ((HC0.below ha4 HC0.lt).alloc o).cfg)
      have hn4 : ∀ o, Below w.heap.size w (x4.alloc o) := fun o => (hbv.trans (ha4.mono hbv.size)).alloc (hbv.trans (ha4.mono hbv.size)).size o
      have hBk4 := (hBk.below ha4 hBk.lt).alloc
      have hNew : ∀ o, Blk (x4.alloc (.cells o 27)) x4.heap.size 27 o := fun o => Blk.made _ _ _
      clear O1 O2 I1 I2 hIC hIZ hb2 hb3 hb4 hba hbB ha2 ha3 hu3
      go_wp2_with fail
      refine (opt_Check ci ch co se ba st ra de hw ke cl _).mono ?_
      rintro e x5 ⟨rfl, hb5⟩
      go_wp2_with fail
      refine (equalI_any Z Y _ zc y _ _ _ _ (by exact (hIZ4 _).below hb5) (by exact (hIC4 _).below hb5) (by omega)).mono ?_
      rintro e x6 ⟨rfl, k6, rfl⟩
      rw [decide_eq_true rfl]
      have q0 := ((hNew _).below hb5 (by simp)).two
      have q1 := ((hBk4 _).below hb5 (hBk4 _).lt).two
      obtain ⟨⟨m0, m1⟩, _⟩ := q0
      obtain ⟨⟨m2, m3⟩, _⟩ := q1
      go_wp2_with fail
      refine (ref_SameState_yes S1 S2 EA1 EA2 _ _ s1 s2 e1 e2 LW LM _ (by exact ((J1 _).below hb5).drewN _) (by exact ((J2 _).below hb5).drewN _) (by exact ((K1 _).below hb5).drewN _) (by exact ((K2 _).below hb5).drewN _) (by omega) (by omega)).mono ?_
      rintro e x7 ⟨rfl, hb7⟩
      go_wp2
      go_ret
      have hz5 : Below w.heap.size w x5 := (hn4 _).trans (hb5.mono (hn4 _).size)
      exact ⟨rfl, (bel_drewN hz5 k6).trans (hb7.mono hz5.size)⟩

set_option maxRecDepth 100000 in
theorem optimSays_lifted (os : Os) (started : os.Started) (H : Type) (enc : TypeId × Value → H) :
    ReturnsInHanded {} Try.checked os 3 .any (Rows.optimSaysSpec.pre6 enc Try.prog Try.f3 Rows.optimSaysRow.domain false) (Rows.optimSaysSpec.post enc Try.prog Try.f3 false true false false) := by
  refine lift_law (fn := Try.f3) started (by kernel_rfl) Try.func3
    (ChangeSpec.witness6 (enc := enc) (C := Try.checked) false ⟨#[], #[.agg #[.int .i64 0, .int .i64 0, .int .i64 0, .int .u64 0, .int .i64 0, .int .i64 0, .int .i64 0, .int .i64 0, .int .i64 0, .int .i64 0, .int .i64 0], .int .i64 0, .slice none 0 0, .int .i64 0, .agg #[.slice none 0 0, .slice none 0 0], .int .i64 0], []⟩ 8 (by kernel_rfl) (by kernel_rfl) (by kernel_rfl) (by kernel_rfl)) (by kernel_rfl) rfl Try.underlying4 rfl ?_ ?_
  · intro ds h
    rw [Try.params3] at h
    match ds, h with
    | [d0, d1, d2, d3, d4, d5], _ => rfl
  · intro W args ds ps hA hlt hval hsz
    rw [Try.params3] at hA hval hsz
    obtain ⟨v0, vs0, d0, ds0, p0, q0, hargs, rfl, rfl, H0, T0⟩ := trodAll_cons hA
    obtain ⟨v1, vs1, d1, ds1, p1, q1, rfl, rfl, rfl, H1, T1⟩ := trodAll_cons T0
    obtain ⟨v2, vs2, d2, ds2, p2, q2, rfl, rfl, rfl, H2, T2⟩ := trodAll_cons T1
    obtain ⟨v3, vs3, d3, ds3, p3, q3, rfl, rfl, rfl, H3, T3⟩ := trodAll_cons T2
    obtain ⟨v4, vs4, d4, ds4, p4, q4, rfl, rfl, rfl, H4, T4⟩ := trodAll_cons T3
    obtain ⟨v5, vs5, d5, ds5, p5, q5, rfl, rfl, rfl, H5, T5⟩ := trodAll_cons T4
    obtain ⟨rfl, rfl, rfl⟩ := trodAll_nil T5
    obtain rfl : args = #[v0, v1, v2, v3, v4, v5] := by cases args; simp_all
    obtain ⟨b0, hv0⟩ := hval 0 24 v0 rfl rfl
    obtain ⟨b1, hv1⟩ := hval 1 3 v1 rfl rfl
    obtain ⟨b2, hv2⟩ := hval 2 25 v2 rfl rfl
    obtain ⟨b3, hv3⟩ := hval 3 3 v3 rfl rfl
    obtain ⟨b4, hv4⟩ := hval 4 27 v4 rfl rfl
    obtain ⟨b5, hv5⟩ := hval 5 3 v5 rfl rfl
    obtain ⟨⟨ci, ch, co, se, ba, st, ra, de, hw, ke, cl⟩, rfl, _⟩ := arg_cfg hv0 H0
    obtain ⟨step, rfl, y1⟩ := arg_int hv1 H1
    obtain ⟨A3, ng, c3, g, rfl, hx, l9, l10, _⟩ := arg_ints (fun _ => rfl) hv2 H2
    obtain ⟨most, rfl, _⟩ := arg_int hv3 H3
    obtain ⟨A1, nw, c1, wt, A2, nm, c2, mv, rfl, ⟨i1, l1, l2, _⟩, ⟨i2, l3, l4, _⟩⟩ := arg_state (fun _ => rfl) hv4 H4
    obtain ⟨rate, rfl, _⟩ := arg_int hv5 H5
    have hmx : maxLen = 9223372036854775807 := rfl
    exact optimSays_walk ci ch co se ba st ra de hw ke cl A1 A2 A3 nw nm ng c1 c2 c3 wt mv g step most rate W i1 i2 hx (by omega) (by omega) (by omega) (wf_i64 y1)
theorem OptimSays_holds : Rows.OptimSaysSaid :=
  OpenClaim.holds_of_wide 3 Try.f3 rfl rfl rfl rfl rfl rfl rfl ⟨rfl, rfl, rfl, rfl, rfl⟩ rfl rfl rfl rfl rfl (by kernel_rfl) Try.func3 (by kernel_rfl)
    (of_decide_eq_true (by kernel_rfl)) (by unfold Func.isWrapper; first | (rw [if_pos (by decide +kernel)]; kernel_rfl) | (rw [if_neg (by decide +kernel)]; exact ⟨rfl, rfl⟩))
    (fun os started H enc _ => optimSays_lifted os started H enc)

end Go.Proofs.Ytejkkbjepgghlaa
