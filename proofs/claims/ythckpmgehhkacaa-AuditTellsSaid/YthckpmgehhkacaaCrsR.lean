/- The document's own check of a course; a small course: walks. -/
import Derived.Test.YthckpmgehhkacaaJrnM
namespace Go.Proofs.Ythckpmgehhkacaa
open Go.RowKit Pl

theorem ref_Right_told {A : Option Addr} {n c : Nat} {xs : List Int} {b : Bool} (hb : okL xs = b) {w : World} (hx : Ints .i64 w A n xs) (hn : n ≤ 9223372036854775807) :
    Calls Try.prog 84 #[.slice A n c] w fun e w' => e = .returned (.bool b) ∧ Quiet w w' := by
  subst hb
  exact ref_Right A n c xs w hx hn
theorem rcfg_Check (c : Cfg) (w : World) : Calls Try.prog 83 #[.agg #[.int .i64 c.ci, .int .i64 c.ch, .int .i64 c.co, .int .u64 c.seed, .int .i64 c.batch, .int .i64 c.steps, .int .i64 c.rate, .int .i64 c.decay, .int .i64 c.how, .int .i64 c.keep, .int .i64 c.clip]] w fun e w' => e = .returned (.int .i64 c.E) ∧ Below w.heap.size w w' := ref_Config c.ci c.ch c.co c.seed c.batch c.steps c.rate c.decay c.how c.keep c.clip w

set_option maxRecDepth 100000 in
set_option maxHeartbeats 4000000 in
theorem ref_Course (c : Cfg) (D : Option Addr) (n dc : Nat) (ds : Data) (w : World) (hd : Duos w D n ds) (hn : n ≤ 9223372036854775806) :
    Calls Try.prog 34 #[.agg #[.int .i64 c.ci, .int .i64 c.ch, .int .i64 c.co, .int .u64 c.seed, .int .i64 c.batch, .int .i64 c.steps, .int .i64 c.rate, .int .i64 c.decay, .int .i64 c.how, .int .i64 c.keep, .int .i64 c.clip], .slice D n dc] w fun e w' => e = .returned (.int .i64 (crs c ds)) ∧ Below w.heap.size w w' := by
  have HB := Blk.made w 54 #[.int .i64 c.ci, .int .i64 c.ch, .int .i64 c.co, .int .u64 c.seed, .int .i64 c.batch, .int .i64 c.steps, .int .i64 c.rate, .int .i64 c.decay, .int .i64 c.how, .int .i64 c.keep, .int .i64 c.clip]
  have HL := Lib.hid hd.len
  by_cases hE : c.E = 0
  · have HE := Lib.hid hE
    by_cases h0 : n = 0
    · have F := Lib.hid (show crs c ds = 1 from crsE_none hE (by rw [HL.out]; exact h0))
      have t : ((n : Int) == 0) = true := by rw [beq_iff_eq]; omega
      clear hE
      go_enter Try.func34, Try.ntmps34
      go_wp2_with fail
      refine (rcfg_Check c _).mono ?_
      rintro e x1 ⟨rfl, hb1⟩
      rw [HE.out]
      have hbw : Below w.heap.size w x1 := Below.trans (B := w.heap.size) (by repeat (first | exact Below.refl _ _ | assumption | refine bel_drewN ?_ _ | refine Below.drew ?_ | (refine Below.alloc ?_ (by simp <;> omega) _) | (refine Below.setCell ?_ (by simp <;> omega) _))) (hb1.mono (by simp))
      go_wp2
      go_ret
      rw [F.out]
      exact ⟨rfl, hbw⟩
    · have t : ((n : Int) == 0) = false := by rw [beq_eq_false_iff_ne]; omega
      by_cases h16 : 16 < n
      · have F := Lib.hid (show crs c ds = 2 from crsE_many hE (by rw [HL.out]; exact h16))
        have t2 : (16 : Int) < (n : Int) := by omega
        clear hE h0
        go_enter Try.func34, Try.ntmps34
        go_wp2_with fail
        refine (rcfg_Check c _).mono ?_
        rintro e x1 ⟨rfl, hb1⟩
        rw [HE.out]
        have hbw : Below w.heap.size w x1 := Below.trans (B := w.heap.size) (by repeat (first | exact Below.refl _ _ | assumption | refine bel_drewN ?_ _ | refine Below.drew ?_ | (refine Below.alloc ?_ (by simp <;> omega) _) | (refine Below.setCell ?_ (by simp <;> omega) _))) (hb1.mono (by simp))
        go_wp2
        go_ret
        rw [F.out]
        exact ⟨rfl, hbw⟩
      · have FB := Lib.hid (fun k hk hb => show crs c ds = 5 from crsE_form hE (by rw [HL.out]; exact h0) (by rw [HL.out]; exact h16) (k := k) (by rw [HL.out]; exact hk) hb)
        have FG := Lib.hid (fun hb => show crs c ds = 0 from crsE_fine hE (by rw [HL.out]; exact h0) (by rw [HL.out]; exact h16) (by rw [HL.out]; exact hb))
        have t2 : ¬ (16 : Int) < (n : Int) := by omega
        clear hE h0
        go_enter Try.func34, Try.ntmps34
        go_wp2_with fail
        refine (rcfg_Check c _).mono ?_
        rintro e x1 ⟨rfl, hb1⟩
        rw [HE.out]
        have HB1 := HB.below hb1 (by simp)
        have hbw : Below w.heap.size w x1 := Below.trans (B := w.heap.size) (by repeat (first | exact Below.refl _ _ | assumption | refine bel_drewN ?_ _ | refine Below.drew ?_ | (refine Below.alloc ?_ (by simp <;> omega) _) | (refine Below.setCell ?_ (by simp <;> omega) _))) (hb1.mono (by simp))
        have hlt1 := HB1.lt
        have hd1 := hd.below hbw
        clear HB hb1 hd
        go_wp2
        go_loopw [6] (fun j wr => ∃ k : Nat, k ≤ n ∧ j = .int .i64 k ∧ (∀ i, i < k → exB c.ci c.co (duoAt ds i) = true) ∧ Below x1.heap.size x1 wr) (fun j _ => n - (intOf j).toNat)
        case atStart => exact ⟨0, Nat.zero_le _, rfl, fun i hi => absurd hi (by omega), Below.refl _ _⟩
        case round =>
          obtain ⟨k, hk, rfl, hall, hb⟩ := hrel
          have HALL := Lib.hid hall
          clear hall
          by_cases hlt : k < n
          · obtain ⟨b, off, hD, hbl, hc⟩ := (hd1.below hb).cells (by omega)
            obtain ⟨A1, n1, c1, A2, n2, c2, g1, g2, i1, i2, z1, z2, z3, z4⟩ := hc k hlt
            subst hD
            have k0 : (0 : Int) ≤ (k : Int) := by omega
            have k1 : (k : Int) < (n : Int) := by omega
            obtain ⟨d0, d1, d2, _⟩ := (HB1.below hb hlt1).cfg
            have l1 := i1.len
            have l2 := i2.len
            have zz1 : n1 ≤ 9223372036854775807 := by unfold maxLen at *; omega
            have zz2 : n2 ≤ 9223372036854775807 := by unfold maxLen at *; omega
            have hbs := hb.size
            clear hc
            by_cases q1 : (n1 : Int) = c.ci
            · have t3 : ((n1 : Int) != c.ci) = false := by rw [bne_eq_false_iff_eq]; exact q1
              by_cases q2 : (n2 : Int) = c.co
              · have t4 : ((n2 : Int) != c.co) = false := by rw [bne_eq_false_iff_eq]; exact q2
                cases q3 : okL (duoAt ds k).1
                · have FX := Lib.hid (show exB c.ci c.co (duoAt ds k) = false by unfold exB; rw [q3]; simp)
                  have H3 := Lib.hid (fun W (q : Ints .i64 W A1 n1 (duoAt ds k).1) => ref_Right_told (c := c1) q3 q zz1)
                  clear q1 q2 q3
                  go_wp2
                  go_quiet ((go_at_call 84; exact Calls.quiet_of (H3.out _ (i1.drewN _))))
                  go_wp2
                  go_ret
                  rw [FB.out k hlt FX.out]
                  exact ⟨rfl, hbw.trans ((bel_drewN hb _).mono hbw.size)⟩
                · have H3 := Lib.hid (fun W (q : Ints .i64 W A1 n1 (duoAt ds k).1) => ref_Right_told (c := c1) q3 q zz1)
                  cases q4 : okL (duoAt ds k).2
                  · have FX := Lib.hid (show exB c.ci c.co (duoAt ds k) = false by unfold exB; rw [q4]; simp)
                    have H4 := Lib.hid (fun W (q : Ints .i64 W A2 n2 (duoAt ds k).2) => ref_Right_told (c := c2) q4 q zz2)
                    clear q1 q2 q3 q4
                    go_wp2
                    go_quiet ((go_at_call 84; first | (with_reducible exact Calls.quiet_of (H3.out _ (i1.drewN _))) | (with_reducible exact Calls.quiet_of (H4.out _ (i2.drewN _)))))
                    go_wp2
                    go_ret
                    rw [FB.out k hlt FX.out]
                    exact ⟨rfl, hbw.trans ((bel_drewN hb _).mono hbw.size)⟩
                  · have FX := Lib.hid (show exB c.ci c.co (duoAt ds k) = true by unfold exB; rw [l1, l2, q1, q2, q3, q4]; simp)
                    have H4 := Lib.hid (fun W (q : Ints .i64 W A2 n2 (duoAt ds k).2) => ref_Right_told (c := c2) q4 q zz2)
                    clear q1 q2 q3 q4
                    go_wp2
                    go_quiet ((go_at_call 84; first | (with_reducible exact Calls.quiet_of (H3.out _ (i1.drewN _))) | (with_reducible exact Calls.quiet_of (H4.out _ (i2.drewN _)))))
                    go_wp2
                    go_roundw
                    case rel =>
                      refine ⟨k + 1, by omega, by go_num, fun i hi => ?_, bel_drewN hb _⟩
                      by_cases hik : i = k
                      · subst hik; exact FX.out
                      · exact HALL.out i (by omega)
                    case measure => simp [intOf]; omega
              · have t4 : ((n2 : Int) != c.co) = true := by rw [bne_iff_ne]; exact q2
                have FX := Lib.hid (show exB c.ci c.co (duoAt ds k) = false by unfold exB; rw [l2, beq_eq_false_iff_ne.2 q2]; simp)
                clear q1 q2
                go_wp2
                go_quiet (fail)
                go_wp2
                go_ret
                rw [FB.out k hlt FX.out]
                exact ⟨rfl, hbw.trans ((bel_drewN hb _).mono hbw.size)⟩
            · have t3 : ((n1 : Int) != c.ci) = true := by rw [bne_iff_ne]; exact q1
              have FX := Lib.hid (show exB c.ci c.co (duoAt ds k) = false by unfold exB; rw [l1, beq_eq_false_iff_ne.2 q1]; simp)
              clear q1
              go_wp2
              go_quiet (fail)
              go_wp2
              go_ret
              rw [FB.out k hlt FX.out]
              exact ⟨rfl, hbw.trans ((bel_drewN hb _).mono hbw.size)⟩
          · obtain rfl : k = n := by omega
            go_wp2
            go_ret
            rw [FG.out HALL.out]
            exact ⟨rfl, hbw.trans (hb.mono hbw.size)⟩
  · have t : (c.E != 0) = true := by rw [bne_iff_ne]; exact hE
    have F := Lib.hid (show crs c ds = c.E from crsE_cfg hE)
    clear hE
    go_enter Try.func34, Try.ntmps34
    go_wp2_with fail
    refine (rcfg_Check c _).mono ?_
    rintro e x1 ⟨rfl, hb1⟩
    have hbw : Below w.heap.size w x1 := Below.trans (B := w.heap.size) (by repeat (first | exact Below.refl _ _ | assumption | refine bel_drewN ?_ _ | refine Below.drew ?_ | (refine Below.alloc ?_ (by simp <;> omega) _) | (refine Below.setCell ?_ (by simp <;> omega) _))) (hb1.mono (by simp))
    go_wp2
    go_ret
    rw [F.out]
    exact ⟨rfl, hbw⟩
end Go.Proofs.Ythckpmgehhkacaa
