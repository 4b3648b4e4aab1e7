/- Package train: is a course right? A walk. -/
import Derived.Test.YthckpmgehhkacaaHeld
namespace Go.Proofs.Ythckpmgehhkacaa
open Go.RowKit Pl

theorem trn_clamped1 (n : Int) (w : World) : Calls Try.prog 139 #[.int .i64 n] w fun e w' => e = .returned (.bool (badV (.int .i64 n))) ∧ Quiet w w' := by
  go_enter Try.func139, Try.ntmps139
  go_wp2_with (go_at_call 107; refine (fix_Clamp _ _).mono ?_; rintro e w' ⟨rfl, rfl⟩)
  go_ret
  exact ⟨rfl, Quiet.refl _⟩
set_option maxHeartbeats 1000000 in
theorem trn_clamped (A : Option Addr) (n c : Nat) (xs : List Int) (w : World) (hx : Ints .i64 w A n xs) (hn : n ≤ 9223372036854775807) :
    Calls Try.prog 89 #[.slice A n c] w fun e w' => e = .returned (.bool (okL xs)) ∧ Quiet w w' := by
  have H := Lib.hid (tclamped_any A n c _ badV w hx.vals hn fun v W hv _ => by
    obtain ⟨x, _, rfl⟩ := List.mem_map.1 hv
    exact trn_clamped1 x W)
  rw [badV_any .i64] at H
  go_enter Try.func89, Try.ntmps89
  go_wp2_with (go_at_call 41; refine H.out.mono ?_; rintro e w1 ⟨rfl, hq1⟩)
  go_ret
  exact ⟨ret_bool (by simp), hq1⟩
theorem trn_clamped_told {A : Option Addr} {n c : Nat} {xs : List Int} {b : Bool} (hb : okL xs = b) {w : World} (hx : Ints .i64 w A n xs) (hn : n ≤ 9223372036854775807) :
    Calls Try.prog 89 #[.slice A n c] w fun e w' => e = .returned (.bool b) ∧ Quiet w w' := by
  subst hb
  exact trn_clamped A n c xs w hx hn

theorem cfg_Check (c : Cfg) (w : World) : Calls Try.prog 135 #[.agg #[.int .i64 c.ci, .int .i64 c.ch, .int .i64 c.co, .int .u64 c.seed, .int .i64 c.batch, .int .i64 c.steps, .int .i64 c.rate, .int .i64 c.decay, .int .i64 c.how, .int .i64 c.keep, .int .i64 c.clip]] w fun e w' => e = .returned (.int .i64 c.E) ∧ Below w.heap.size w w' := opt_Check c.ci c.ch c.co c.seed c.batch c.steps c.rate c.decay c.how c.keep c.clip w

set_option maxRecDepth 100000 in
set_option maxHeartbeats 4000000 in
theorem trn_Check (c : Cfg) (D : Option Addr) (n dc : Nat) (ds : Data) (w : World) (hd : Duos w D n ds) (hn : n ≤ 9223372036854775806) :
    Calls Try.prog 85 #[.agg #[.int .i64 c.ci, .int .i64 c.ch, .int .i64 c.co, .int .u64 c.seed, .int .i64 c.batch, .int .i64 c.steps, .int .i64 c.rate, .int .i64 c.decay, .int .i64 c.how, .int .i64 c.keep, .int .i64 c.clip], .slice D n dc] w fun e w' => e = .returned (.int .i64 (crs c ds)) ∧ Below w.heap.size w w' := by
  have HB := Blk.made w 54 #[.int .i64 c.ci, .int .i64 c.ch, .int .i64 c.co, .int .u64 c.seed, .int .i64 c.batch, .int .i64 c.steps, .int .i64 c.rate, .int .i64 c.decay, .int .i64 c.how, .int .i64 c.keep, .int .i64 c.clip]
  have HL := Lib.hid hd.len
  by_cases hE : c.E = 0
  · have HE := Lib.hid hE
    by_cases h0 : n = 0
    · have F := Lib.hid (show crs c ds = 1 from crsE_none hE (by rw [HL.out]; exact h0))
      have t : ((n : Int) == 0) = true := by rw [beq_iff_eq]; omega
      clear hE
      go_enter Try.func85, Try.ntmps85
      go_wp2_with fail
      refine (cfg_Check c _).mono ?_
      rintro e x1 ⟨rfl, hb1⟩
      rw [HE.out]
      have hbw : Below w.heap.size w x1 := Below.trans (B := w.heap.size) (by repeat (first | exact Below.refl _ _ | assumption | refine bel_drewN ?_ _ | refine Below.drew ?_ | (refine Below.alloc ?_ (by simp <;> omega) _) | (refine Below.setCell ?_ (by simp <;> omega) _))) (hb1.mono (by simp))
      go_wp2
      go_ret
      rw [F.out]
      exact ⟨rfl, hbw⟩
    · have t : ((n : Int) == 0) = false := by rw [beq_eq_false_iff_ne]; omega
      by_cases h16 : 16 < n
      · have F := Lib.hid (show crs c ds = 2 from crsE_many hE (by rw [HL.out]; exact h16))
        have t2 : (16 : Int) < (n : Int) := by omega
        clear hE h0
        go_enter Try.func85, Try.ntmps85
        go_wp2_with fail
        refine (cfg_Check c _).mono ?_
        rintro e x1 ⟨rfl, hb1⟩
        rw [HE.out]
        have hbw : Below w.heap.size w x1 := Below.trans (B := w.heap.size) (by repeat (first | exact Below.refl _ _ | assumption | refine bel_drewN ?_ _ | refine Below.drew ?_ | (refine Below.alloc ?_ (by simp <;> omega) _) | (refine Below.setCell ?_ (by simp <;> omega) _))) (hb1.mono (by simp))
        go_wp2
        go_ret
        rw [F.out]
        exact ⟨rfl, hbw⟩
      · have FB := Lib.hid (fun k hk hb => show crs c ds = 5 from crsE_form hE (by rw [HL.out]; exact h0) (by rw [HL.out]; exact h16) (k := k) (by rw [HL.out]; exact hk) hb)
        have FG := Lib.hid (fun hb => show crs c ds = 0 from crsE_fine hE (by rw [HL.out]; exact h0) (by rw [HL.out]; exact h16) (by rw [HL.out]; exact hb))
        have t2 : ¬ (16 : Int) < (n : Int) := by omega
        clear hE h0
        go_enter Try.func85, Try.ntmps85
        go_wp2_with fail
        refine (cfg_Check c _).mono ?_
        rintro e x1 ⟨rfl, hb1⟩
        rw [HE.out]
        have HB1 := HB.below hb1 (by simp)
        have hbw : Below w.heap.size w x1 := Below.trans (B := w.heap.size) (by repeat (first | exact Below.refl _ _ | assumption | refine bel_drewN ?_ _ | refine Below.drew ?_ | (refine Below.alloc ?_ (by simp <;> omega) _) | (refine Below.setCell ?_ (by simp <;> omega) _))) (hb1.mono (by simp))
        have hlt1 := HB1.lt
        have hd1 := hd.below hbw
        clear HB hb1 hd
        go_wp2
        go_loopw [7, 23] (fun _ j wr => ∃ k : Nat, k ≤ n ∧ j = .int .i64 k ∧ (∀ i, i < k → exB c.ci c.co (duoAt ds i) = true) ∧ Below x1.heap.size x1 wr) (fun _ j _ => n - (intOf j).toNat)
        case atStart => exact ⟨0, Nat.zero_le _, rfl, fun i hi => absurd hi (by omega), Below.refl _ _⟩
        case round =>
          obtain ⟨k, hk, rfl, hall, hb⟩ := hrel
          have HALL := Lib.hid hall
          clear hall
          by_cases hlt : k < n
          · obtain ⟨b, off, hD, hbl, hc⟩ := (hd1.below hb).cells (by omega)
            obtain ⟨A1, n1, c1, A2, n2, c2, g1, g2, i1, i2, z1, z2, z3, z4⟩ := hc k hlt
            subst hD
            have k0 : (0 : Int) ≤ (k : Int) := by omega
            have k1 : (k : Int) < (n : Int) := by omega
            obtain ⟨d0, d1, d2, _⟩ := (HB1.below hb hlt1).cfg
            have l1 := i1.len
            have l2 := i2.len
            have zz1 : n1 ≤ 9223372036854775807 := by unfold maxLen at *; omega
            have zz2 : n2 ≤ 9223372036854775807 := by unfold maxLen at *; omega
            have hbs := hb.size
            have hlw : w.heap.size < wr.heap.size := by omega
            have hlb : b < wr.heap.size := hbl
            clear hc
            have bx : Below x1.heap.size x1 (wr.alloc (.cells #[.slice A1 n1 c1, .slice A2 n2 c2] 84)) := hb.alloc hbs _
            have m1 : Ints .i64 (wr.alloc (.cells #[.slice A1 n1 c1, .slice A2 n2 c2] 84)) A1 n1 (duoAt ds k).1 := i1.alloc _
            have m2 : Ints .i64 (wr.alloc (.cells #[.slice A1 n1 c1, .slice A2 n2 c2] 84)) A2 n2 (duoAt ds k).2 := i2.alloc _
            by_cases q1 : (n1 : Int) = c.ci
            · have t3 : ((n1 : Int) != c.ci) = false := by rw [bne_eq_false_iff_eq]; exact q1
              by_cases q2 : (n2 : Int) = c.co
              · have t4 : ((n2 : Int) != c.co) = false := by rw [bne_eq_false_iff_eq]; exact q2
                cases q3 : okL (duoAt ds k).1
                · have FX := Lib.hid (show exB c.ci c.co (duoAt ds k) = false by unfold exB; rw [q3]; simp)
                  have H3 := Lib.hid (fun W (q : Ints .i64 W A1 n1 (duoAt ds k).1) => trn_clamped_told (c := c1) q3 q zz1)
                  clear q1 q2 q3
                  go_wp2_with (go_at_call 89; refine (H3.out _ m1).mono ?_; rintro e w3 ⟨rfl, hq3⟩)
                  go_ret
                  rw [FB.out k hlt FX.out]
                  exact ⟨rfl, hbw.trans ((Quiet.after bx hq3).mono hbw.size)⟩
                · have H3 := Lib.hid (fun W (q : Ints .i64 W A1 n1 (duoAt ds k).1) => trn_clamped_told (c := c1) q3 q zz1)
                  cases q4 : okL (duoAt ds k).2
                  · have FX := Lib.hid (show exB c.ci c.co (duoAt ds k) = false by unfold exB; rw [q4]; simp)
                    have H4 := Lib.hid (fun W (q : Ints .i64 W A2 n2 (duoAt ds k).2) => trn_clamped_told (c := c2) q4 q zz2)
                    clear q1 q2 q3 q4
                    go_wp2_with (first
                      | (go_at_call 89; (with_reducible refine (H3.out _ m1).mono ?_); rintro e w3 ⟨rfl, hq3⟩; obtain ⟨z3, rfl⟩ := hq3)
                      | (go_at_call 89; (with_reducible refine (H4.out _ (m2.drewN z3)).mono ?_); rintro e w4 ⟨rfl, hq4⟩)
                      | fail)
                    go_ret
                    rw [FB.out k hlt FX.out]
                    exact ⟨rfl, hbw.trans ((Quiet.after (bel_drewN bx z3) hq4).mono hbw.size)⟩
                  · have FX := Lib.hid (show exB c.ci c.co (duoAt ds k) = true by unfold exB; rw [l1, l2, q1, q2, q3, q4]; simp)
                    have H4 := Lib.hid (fun W (q : Ints .i64 W A2 n2 (duoAt ds k).2) => trn_clamped_told (c := c2) q4 q zz2)
                    clear q1 q2 q3 q4
                    go_wp2_with (first
                      | (go_at_call 89; (with_reducible refine (H3.out _ m1).mono ?_); rintro e w3 ⟨rfl, hq3⟩; obtain ⟨z3, rfl⟩ := hq3)
                      | (go_at_call 89; (with_reducible refine (H4.out _ (m2.drewN z3)).mono ?_); rintro e w4 ⟨rfl, hq4⟩)
                      | fail)
                    go_roundw
                    case rel =>
                      refine ⟨k + 1, by omega, by go_num, fun i hi => ?_, Quiet.after (bel_drewN bx z3) hq4⟩
                      by_cases hik : i = k
                      · subst hik; exact FX.out
                      · exact HALL.out i (by omega)
                    case measure => simp [intOf]; omega
              · have t4 : ((n2 : Int) != c.co) = true := by rw [bne_iff_ne]; exact q2
                have FX := Lib.hid (show exB c.ci c.co (duoAt ds k) = false by unfold exB; rw [l2, beq_eq_false_iff_ne.2 q2]; simp)
                clear q1 q2
                go_wp2
                go_ret
                rw [FB.out k hlt FX.out]
                exact ⟨rfl, hbw.trans (bx.mono hbw.size)⟩
            · have t3 : ((n1 : Int) != c.ci) = true := by rw [bne_iff_ne]; exact q1
              have FX := Lib.hid (show exB c.ci c.co (duoAt ds k) = false by unfold exB; rw [l1, beq_eq_false_iff_ne.2 q1]; simp)
              clear q1
              go_wp2
              go_ret
              rw [FB.out k hlt FX.out]
              exact ⟨rfl, hbw.trans (bx.mono hbw.size)⟩
          · obtain rfl : k = n := by omega
            go_wp2
            go_ret
            rw [FG.out HALL.out]
            exact ⟨rfl, hbw.trans (hb.mono hbw.size)⟩
  · have t : (c.E != 0) = true := by rw [bne_iff_ne]; exact hE
    have F := Lib.hid (show crs c ds = c.E from crsE_cfg hE)
    clear hE
    go_enter Try.func85, Try.ntmps85
    go_wp2_with fail
    refine (cfg_Check c _).mono ?_
    rintro e x1 ⟨rfl, hb1⟩
    have hbw : Below w.heap.size w x1 := Below.trans (B := w.heap.size) (by repeat (first | exact Below.refl _ _ | assumption | refine bel_drewN ?_ _ | refine Below.drew ?_ | (refine Below.alloc ?_ (by simp <;> omega) _) | (refine Below.setCell ?_ (by simp <;> omega) _))) (hb1.mono (by simp))
    go_wp2
    go_ret
    rw [F.out]
    exact ⟨rfl, hbw⟩
/-- A slice that is made of noughts. -/
theorem mk_zeros {N : Nat} (hN : N ≤ 200) : ∀ W : World, (Instr.makeSlice 23 (.int .i64 (N : Int)) (.int .i64 (N : Int))).run Try.prog W = .ok (.slice (some ⟨W.heap.size, 0, none⟩) N N) (W.alloc (.cells (madeCells #[.int .i64 0] N) 3)) := fun W => by
  obtain ⟨i0, hi0, hz0, hz1, hz2⟩ := info_parts int_info
  have h := run_make (P := Try.prog) W 23 3 i0 (.int .i64 0) Try.underlying23 hi0 hz0 .i64 .i64 (N : Int) (N : Int) (by omega) (Int.le_refl _) (by rw [hz2]; omega) (by omega)
  rw [hz1] at h
  simpa [Value.cells] using h
theorem zerosL_replicate (N : Nat) : zerosL N = List.replicate N 0 := by
  unfold zerosL upto
  rw [List.map_const', List.length_range]
theorem own_zeros {N : Nat} (hN : N ≤ 200) {B : Nat} (w : World) (hB : B ≤ w.heap.size) {g : Nat} (hg : w.heap.size = g) : (w.alloc (.cells (madeCells #[.int .i64 0] N) 3)).ownsRow B 3 1 (.slice (some ⟨g, 0, none⟩) N N) N ((zerosL N).map (.int .i64)) := by
  subst hg
  have h := World.ownsRow_lit (base := B) (e := 3) (size := 1) w (madeCells #[.int .i64 0] N) N hB (by unfold maxLen; omega) (by rw [size_madeCells]; omega)
  rw [toList_madeCells_one] at h
  rw [zerosL_replicate, List.map_replicate]
  exact h
theorem but_grown {g B : Nat} {a b c : World} {row : Option Nat} (h : But g a b) (hB : a.heap.size ≤ B) (hg : b.grownBy c row) (hr : ∀ x, row = some x → B ≤ x) : But g a c :=
  ⟨hg.os.trans h.os, hg.tape.trans h.tape, hg.output.trans h.output, Nat.le_trans h.size hg.size, fun k hk hn => (hg.block k (Nat.lt_of_lt_of_le hk h.size) (fun e => by have := hr k e.symm; omega)).trans (h.block k hk hn)⟩
theorem but_below {g : Nat} {a b c : World} (h : But g a b) (hb : Below b.heap.size b c) : But g a c :=
  ⟨hb.os.trans h.os, hb.tape.trans h.tape, hb.output.trans h.output, Nat.le_trans h.size hb.size, fun k hk hn => (hb.block k (Nat.lt_of_lt_of_le hk h.size)).trans (h.block k hk hn)⟩
theorem Blk.butB {w w' : World} {g m : Nat} {t : TypeId} {cs : Array Value} (h : Blk w g t cs) (hb : But m w w') (hne : g ≠ m) : Blk w' g t cs := (hb.block g h.lt hne).trans h
theorem but_to {g B : Nat} {a b w : World} (h : Below B w a) (hb : But g a b) (hB : B ≤ g) (hs : B ≤ a.heap.size) : Below B w b :=
  ⟨hb.os.trans h.os, hb.tape.trans h.tape, hb.output.trans h.output, Nat.le_trans h.size hb.size, fun k hk => (hb.block k (by omega) (by omega)).trans (h.block k hk)⟩

theorem wrap_weight {r : Int} (h0 : 0 ≤ r) (h1 : r < 131073) : IntKind.i64.wrap (IntKind.i64.wrap r - 65536) = r - 65536 := by
  rw [wrap_small r h0 (by omega)]
  have := wrap_i64_ediv (r - 65536) 1 (by omega) (by omega) (by omega)
  rwa [Int.ediv_one] at this
/-- While the first weights are made: they grow in their box. -/
def StaR (W0 : World) (m z N : Nat) (f : Nat → Int) (k : Nat) (wr : World) : Prop :=
  ∃ v, wr.ownsRow (m + 1) 3 1 v k ((upto f k).map (.int .i64)) ∧ Blk wr m 35 #[v, .slice (some ⟨z, 0, none⟩) N N] ∧ But m W0 wr
theorem StaR.step {W0 wr u1 w1 : World} {m z N k gg cp : Nat} {f : Nat → Int} {v : Value} {x : Int} (hx : f k = x) (hm : m + 1 = W0.heap.size) (hbt : But m W0 wr) (hb1 : Below wr.heap.size wr u1) (hblk : Blk wr m 35 #[v, .slice (some ⟨z, 0, none⟩) N N])
    (hown : wr.ownsRow (m + 1) 3 1 v k ((upto f k).map (.int .i64))) (hown1 : w1.ownsRow (m + 1) 3 1 (.slice (some ⟨gg, 0, none⟩) (k + 1) cp) (k + 1) ((upto f k).map (.int .i64) ++ [.int .i64 x])) (o : Obj) (hgrow : (u1.alloc o).grownBy w1 v.ownBlock) :
    StaR W0 m z N f (k + 1) (w1.setCell ⟨m, 0, none⟩ (.slice (some ⟨gg, 0, none⟩) (k + 1) cp)) ∧ w1.cell? ⟨m, 0, none⟩ = some v ∧ w1.frozen? ⟨m, 0, none⟩ = false ∧ ∀ g t cs, Blk wr g t cs → g < m → Blk w1 g t cs := by
  have hne : some m ≠ v.ownBlock := fun h => by have := (hown.lt _ h.symm).1; omega
  have hB : Blk w1 m 35 #[v, .slice (some ⟨z, 0, none⟩) N N] := ((hblk.below hb1 hblk.lt).alloc o).grown hgrow hne
  refine ⟨⟨_, ?_, hB.put 0 _, ?_⟩, hB.cell 0, hB.frozen 0, fun g t cs h hg => ((h.below hb1 h.lt).alloc o).grown hgrow (fun e => by have := (hown.lt _ e.symm).1; omega)⟩
  · rw [upto_succ, List.map_append, hx]
    exact own_far hown1 (by simp) _
  · exact (but_grown (B := m + 1) (but_below hbt (hb1.alloc hb1.size o)) (by omega) hgrow (fun x hx => (hown.lt x hx).1)).put 0 _

set_option maxRecDepth 100000 in
set_option maxHeartbeats 4000000 in
theorem trn_Start (c : Cfg) (w : World) (hE : c.E = 0) (s0 : 0 ≤ c.seed) (s1 : c.seed < 18446744073709551616) :
    Calls Try.prog 86 #[.agg #[.int .i64 c.ci, .int .i64 c.ch, .int .i64 c.co, .int .u64 c.seed, .int .i64 c.batch, .int .i64 c.steps, .int .i64 c.rate, .int .i64 c.decay, .int .i64 c.how, .int .i64 c.keep, .int .i64 c.clip]] w (StateOwn w (startW c.seed c.N) (zerosL c.N) 0) := by
  obtain ⟨i0, hi0, hz0, hz1, hz2⟩ := info_parts int_info
  have hf := Cfg.ok hE
  have HB0 := (Blk.made w 54 #[.int .i64 c.ci, .int .i64 c.ch, .int .i64 c.co, .int .u64 c.seed, .int .i64 c.batch, .int .i64 c.steps, .int .i64 c.rate, .int .i64 c.decay, .int .i64 c.how, .int .i64 c.keep, .int .i64 c.clip]).alloc (.cells #[.slice none 0 0, .slice none 0 0] 35)
  have HB1 := Blk.made' (w.alloc (.cells #[.int .i64 c.ci, .int .i64 c.ch, .int .i64 c.co, .int .u64 c.seed, .int .i64 c.batch, .int .i64 c.steps, .int .i64 c.rate, .int .i64 c.decay, .int .i64 c.how, .int .i64 c.keep, .int .i64 c.clip] 54)) 35 #[.slice none 0 0, .slice none 0 0] (g := w.heap.size + 1) (by simp)
  have HS := Lib.hid (fun W => show Calls Try.prog 88 #[.int .i64 c.ci, .int .i64 c.ch, .int .i64 c.co] W fun e w' => e = .returned (.int .i64 (c.N : Int)) ∧ W = w' from by
    rw [hf.n]; exact pup_Size c.ci c.ch c.co W hf.ci hf.ch hf.co)
  have n1 := hf.n1
  have n40 := hf.n40
  obtain ⟨N, hN⟩ : ∃ N, N = c.N := ⟨_, rfl⟩
  rw [← hN] at HS n1 n40 ⊢
  have HE := Lib.hid hE
  have hmk := mk_zeros (N := N) (by omega)
  clear hE hf hN
  go_enter Try.func86, Try.ntmps86
  go_wp2_with fail
  refine (cfg_Check c _).mono ?_
  rintro e x1 ⟨rfl, hb1⟩
  rw [HE.out]
  replace HB0 := HB0.below hb1 (by simp <;> omega)
  replace HB1 := HB1.below hb1 (by simp <;> omega)
  have hbw : Below w.heap.size w x1 := Below.trans (B := w.heap.size) (by repeat (first | exact Below.refl _ _ | assumption | refine bel_drewN ?_ _ | refine Below.drew ?_ | (refine Below.alloc ?_ (by simp <;> omega) _) | (refine Below.setCell ?_ (by simp <;> omega) _))) (hb1.mono (by simp <;> omega))
  have hs1 : w.heap.size + 2 ≤ x1.heap.size := by have := HB1.lt; omega
  clear hb1
  obtain ⟨d0, d1, d2, d3, d4, d5, d6, d7, d8, d9, da⟩ := HB0.cfg
  go_wp2_with (go_at_call 88; refine (HS.out _).mono ?_; rintro e w' ⟨rfl, rfl⟩)
  have BX0 : Blk ((x1.alloc (.cells (madeCells #[.int .i64 0] N) 3)).alloc (.cells #[.slice none 0 0, .slice (some ⟨x1.heap.size, 0, none⟩) N N] 35)) (x1.heap.size + 1) 35 #[.slice none 0 0, .slice (some ⟨x1.heap.size, 0, none⟩) N N] := Blk.made' _ _ _ (by simp)
  have OZ0 := (own_zeros (N := N) (by omega) x1 (Nat.le_refl _) rfl).alloc (.cells #[.slice none 0 0, .slice (some ⟨x1.heap.size, 0, none⟩) N N] 35)
  have bw0 : Below x1.heap.size x1 ((x1.alloc (.cells (madeCells #[.int .i64 0] N) 3)).alloc (.cells #[.slice none 0 0, .slice (some ⟨x1.heap.size, 0, none⟩) N N] 35)) := (by repeat (first | exact Below.refl _ _ | assumption | refine bel_drewN ?_ _ | refine Below.drew ?_ | (refine Below.alloc ?_ (by simp <;> omega) _) | (refine Below.setCell ?_ (by simp <;> omega) _)))
  have hsz0 : ((x1.alloc (.cells (madeCells #[.int .i64 0] N) 3)).alloc (.cells #[.slice none 0 0, .slice (some ⟨x1.heap.size, 0, none⟩) N N] 35)).heap.size = x1.heap.size + 1 + 1 := by simp
  obtain ⟨W0, hW0⟩ : ∃ W0, W0 = ((x1.alloc (.cells (madeCells #[.int .i64 0] N) 3)).alloc (.cells #[.slice none 0 0, .slice (some ⟨x1.heap.size, 0, none⟩) N N] 35)) := ⟨_, rfl⟩
  rw [← hW0] at BX0 OZ0 bw0 hsz0 ⊢
  obtain ⟨z, hz⟩ : ∃ z, z = x1.heap.size := ⟨_, rfl⟩
  rw [← hz] at BX0 OZ0 bw0 hsz0 hs1 ⊢
  have hbx0 : Blk W0 w.heap.size 54 #[.int .i64 c.ci, .int .i64 c.ch, .int .i64 c.co, .int .u64 c.seed, .int .i64 c.batch, .int .i64 c.steps, .int .i64 c.rate, .int .i64 c.decay, .int .i64 c.how, .int .i64 c.keep, .int .i64 c.clip] := HB0.below bw0 (by omega)
  have hbx1 : Blk W0 (w.heap.size + 1) 35 #[.slice none 0 0, .slice none 0 0] := HB1.below bw0 (by omega)
  have hbw0 : Below w.heap.size w W0 := hbw.trans (bw0.mono (by omega))
  have HSZ := Lib.hid hsz0
  clear hW0 hz bw0 HB0 HB1 hbw hmk d0 d1 d2 d3 d4 d5 d6 d7 d8 d9 da hsz0
  go_loopw [7, 25] (fun _ j wr => ∃ k : Nat, k ≤ N ∧ j = .int .i64 k ∧ StaR W0 (z + 1) z N (fun i => wordI c.seed ((1000 + i : Nat) : Int) % 131073 - 65536) k wr) (fun _ j _ => N - (intOf j).toNat)
  case atStart => exact ⟨0, Nat.zero_le _, rfl, _, World.ownsRow_nil _ _ _ _, BX0, But.refl _ _⟩
  case round =>
    obtain ⟨k, hk, rfl, v, hown, hblk, hbt⟩ := hrel
    have hsz := HSZ.out
    have hmz := hbt.size
    by_cases hlt : k < N
    · have c0 : wr.cell? ⟨z + 1, 0, none⟩ = some v := hblk.cell 0
      have hcw := hbx0.butB hbt (by omega)
      have c3 : wr.cell? ⟨w.heap.size, 3, none⟩ = some (.int .u64 c.seed) := hcw.cell 3
      have hlz : w.heap.size < z + 1 := by omega
      have ltm := hblk.lt
      have ltc : w.heap.size < wr.heap.size := by omega
      have W1 := ofI_lo 2 [c.seed, ((1000 + k : Nat) : Int)]
      have W2 := ofI_hi 2 [c.seed, ((1000 + k : Nat) : Int)]
      obtain ⟨x, hx⟩ : ∃ x, x = wordI c.seed ((1000 + k : Nat) : Int) := ⟨_, rfl⟩
      have HW := Lib.hid (fun W => show Calls Try.prog 122 #[.int .u64 c.seed, .int .u64 (1000 + (k : Int))] W fun e w' => e = .returned (.int .u64 x) ∧ Below W.heap.size W w' from by
        rw [hx, show ((1000 + k : Nat) : Int) = 1000 + (k : Int) by omega]
        exact dig_Word c.seed (1000 + (k : Int)) W s0 s1 (by omega) (by omega))
      have X0 : 0 ≤ x := by rw [hx]; exact W1
      have hwk : Value.int .u64 (IntKind.u64.wrap (IntKind.i64.wrap (1000 + (k : Int)))) = Value.int .u64 (1000 + (k : Int)) := congrArg (Value.int .u64) (by rw [wrap_small _ (by omega) (by omega), wrap_u64_in (by omega) (by omega)])
      have HWK := Lib.hid hwk
      clear hwk
      obtain ⟨r, hr⟩ : ∃ r, x % 131073 = r := ⟨_, rfl⟩
      have hr' : x.tmod 131073 = r := by rw [Int.tmod_eq_emod_of_nonneg X0]; exact hr
      have R0 : 0 ≤ r ∧ r < 131073 := by omega
      have FK := Lib.hid (show (fun i : Nat => wordI c.seed ((1000 + i : Nat) : Int) % 131073 - 65536) k = IntKind.i64.wrap (IntKind.i64.wrap r - 65536) by rw [wrap_weight R0.1 R0.2]; show wordI c.seed ((1000 + k : Nat) : Int) % 131073 - 65536 = _; rw [← hx, hr])
      obtain ⟨f, hf⟩ : ∃ f, f = (fun i : Nat => wordI c.seed ((1000 + i : Nat) : Int) % 131073 - 65536) := ⟨_, rfl⟩
      rw [← hf] at FK hown ⊢
      obtain ⟨r1, r2⟩ := R0
      clear hx hr W1 W2 hf hsz hmz
      go_wp2
      go_region_law (first
        | (go_simp; go_at_call 122; try rw [HWK.out]; (with_reducible refine (HW.out _).mono ?_); rintro e u1 ⟨rfl, hb1⟩; have y0 := (hb1.cell (p := ⟨z + 1, 0, none⟩) ltm).trans c0; have y3 := (hb1.cell (p := ⟨w.heap.size, 3, none⟩) ltc).trans c3; have hb1' : Below wr.heap.size wr u1 := bel_trans ((Below.refl _ _).drew) hb1; have OW := own_below hown hb1'; have hsz1 := hb1'.size; have y0' : ∀ o, (u1.alloc o).cell? ⟨z + 1, 0, none⟩ = some v := fun o => ((hblk.below hb1' ltm).alloc o).cell 0)
        | (refine step_append_lies _ (by rfl) _ _ _ (by rfl) (z + 1 + 1) 3 i0 _ 1 8 Try.underlying23 hi0 hz0 hz1 hz2 rfl (by omega) v k _ (by rfl) (by exact OW.alloc _) ⟨u1.heap.size, 0, none⟩ 1 1 [.int .i64 (IntKind.i64.wrap (IntKind.i64.wrap r - 65536))] (by rfl) (by rfl) (World.news_of_block (cs := #[.int .i64 (IntKind.i64.wrap (IntKind.i64.wrap r - 65536))]) (t := 3) (fr := (0, 0)) (heap_alloc_new _ _)) (by simp [Value.oneCell']) (by omega) (by unfold maxLen; omega) (by omega) (by simp; omega) (u1.heap.size + 1) (by simp) ?_; intro gg cp w1 hown1 hgrow hat hlt1; obtain ⟨hR, e0, ez, hkk⟩ := StaR.step FK.out HSZ.out.symm hbt hb1' hblk hown hown1 _ hgrow; have e3 : w1.cell? ⟨w.heap.size, 3, none⟩ = some (.int .u64 c.seed) := (hkk _ _ _ hcw hlz).cell 3)
        | fail)
      all_goals
        go_wp2
        go_roundw
        case rel => exact ⟨k + 1, by omega, by go_num, hR⟩
        case measure => simp [intOf]; omega
    · obtain rfl : k = N := by omega
      obtain ⟨vA, vc, rfl⟩ := own_slice hown
      have c0 : wr.cell? ⟨z + 1, 0, none⟩ = some (.slice vA k vc) := hblk.cell 0
      have c1 : wr.cell? ⟨z + 1, 1, none⟩ = some (.slice (some ⟨z, 0, none⟩) k k) := hblk.cell 1
      have hr := hbx1.butB hbt (by omega)
      have r0 : wr.cell? ⟨w.heap.size + 1, 0, none⟩ = some (.slice none 0 0) := hr.cell 0
      have r1 : wr.cell? ⟨w.heap.size + 1, 1, none⟩ = some (.slice none 0 0) := hr.cell 1
      have r2 := hr.frozen 0
      have r3 := hr.frozen 1
      have hlr := hr.lt
      have ltm := hblk.lt
      have hne : z + 1 ≠ w.heap.size + 1 := by omega
      have hbz := but_to hbw0 hbt (by omega) hbw0.size
      have oz : wr.ownsRow z 3 1 (.slice (some ⟨z, 0, none⟩) k k) k ((zerosL k).map (.int .i64)) := own_keep OZ0 fun b hb => by
        have hb' : z = b := Option.some.inj hb
        subst hb'
        exact hbt.block z (by omega) (by omega)
      have hL : upto (fun i : Nat => wordI c.seed ((1000 + i : Nat) : Int) % 131073 - 65536) k = startW c.seed k := rfl
      have hL2 := Lib.hid (startW_length c.seed k)
      have hL3 := Lib.hid (zerosL_length k)
      rw [hL] at hown
      have o1 := own_far (own_far hown (p := ⟨w.heap.size + 1, 0, none⟩) (by simp <;> omega) (.slice vA k vc)) (p := ⟨w.heap.size + 1, 1, none⟩) (by simp <;> omega) (.slice (some ⟨z, 0, none⟩) k k)
      have o2 := own_far (own_far oz (p := ⟨w.heap.size + 1, 0, none⟩) (by simp <;> omega) (.slice vA k vc)) (p := ⟨w.heap.size + 1, 1, none⟩) (by simp <;> omega) (.slice (some ⟨z, 0, none⟩) k k)
      have hb2 := (hbz.setCell (p := ⟨w.heap.size + 1, 0, none⟩) (by simp) (.slice vA k vc)).setCell (p := ⟨w.heap.size + 1, 1, none⟩) (by simp) (.slice (some ⟨z, 0, none⟩) k k)
      clear hL
      go_wp2
      refine bodyPost_ret (v := .tuple #[.agg #[.slice vA k vc, .slice (some ⟨z, 0, none⟩) k k], .int .i64 0]) (by simp [results, Try.results86, go_sem, r0, r1]) rfl ?_
      refine ⟨vA, vc, some ⟨z, 0, none⟩, k, ?_, ?_, ?_, hb2⟩
      · rw [hL2.out, hL3.out]
      · rw [hL2.out]; exact own_base o1 (by omega)
      · rw [hL3.out]; exact own_base o2 (by omega)
end Go.Proofs.Ythckpmgehhkacaa
