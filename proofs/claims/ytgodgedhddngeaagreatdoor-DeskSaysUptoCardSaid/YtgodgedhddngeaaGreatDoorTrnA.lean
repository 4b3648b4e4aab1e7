/- Package train: is a course right? A walk. -/
import Derived.Test.YtgodgedhddngeaaGreatDoorTrs
set_option maxRecDepth 100000
set_option maxHeartbeats 16000000
namespace Go.Proofs.YtgodgedhddngeaaGreatDoor
open Go.RowKit Pl
theorem trn_clamped1 (n : Int) (w : World) : Calls Tryz.prog 124 #[.int .i64 n] w fun e w' => e = .returned (.bool (badV (.int .i64 n))) ∧ Quiet w w' := by
 go_enter Tryz.func124, Tryz.ntmps124
 go_wp2_with (go_at_call 125; refine (fix_Clamp _ _).mono ?_; rintro e w' ⟨rfl, rfl⟩)
 go_ret
 exact ⟨rfl, Quiet.refl _⟩
theorem trn_clamped (A : Option Addr) (n c : Nat) (xs : List Int) (w : World) (hx : Ints .i64 w A n xs) (hn : n ≤ 9223372036854775807) :
  Calls Tryz.prog 82 #[.slice A n c] w fun e w' => e = .returned (.bool (okL xs)) ∧ Quiet w w' := by
 have H := Lib.hid (tclamped_any A n c _ badV w hx.vals hn fun v W hv _ => by
  obtain ⟨x, _, rfl⟩ := List.mem_map.1 hv
  exact trn_clamped1 x W)
 rw [badV_any .i64] at H
 go_enter Tryz.func82, Tryz.ntmps82
 go_wp2_with (go_at_call 116; refine H.out.mono ?_; rintro e w1 ⟨rfl, hq1⟩)
 go_ret
 exact ⟨ret_bool (by simp), hq1⟩
theorem trn_clamped_told {A : Option Addr} {n c : Nat} {xs : List Int} {b : Bool} (hb : okL xs = b) {w : World} (hx : Ints .i64 w A n xs) (hn : n ≤ 9223372036854775807) :
  Calls Tryz.prog 82 #[.slice A n c] w fun e w' => e = .returned (.bool b) ∧ Quiet w w' := by
 subst hb
 exact trn_clamped A n c xs w hx hn
theorem cfg_Check (c : Cfg) (w : World) : Calls Tryz.prog 46 #[.agg #[.int .i64 c.ci, .int .i64 c.ch, .int .i64 c.co, .int .u64 c.seed, .int .i64 c.batch, .int .i64 c.steps, .int .i64 c.rate, .int .i64 c.decay, .int .i64 c.how, .int .i64 c.keep, .int .i64 c.clip]] w fun e w' => e = .returned (.int .i64 c.E) ∧ Below w.heap.size w w' := opt_Check c.ci c.ch c.co c.seed c.batch c.steps c.rate c.decay c.how c.keep c.clip w
theorem trn_Check (c : Cfg) (D : Option Addr) (n dc : Nat) (ds : Data) (w : World) (hd : Duos w D n ds) (hn : n ≤ 9223372036854775806) :
  Calls Tryz.prog 51 #[.agg #[.int .i64 c.ci, .int .i64 c.ch, .int .i64 c.co, .int .u64 c.seed, .int .i64 c.batch, .int .i64 c.steps, .int .i64 c.rate, .int .i64 c.decay, .int .i64 c.how, .int .i64 c.keep, .int .i64 c.clip], .slice D n dc] w fun e w' => e = .returned (.int .i64 (crs c ds)) ∧ Below w.heap.size w w' := by
 have HB := Blk.made w 29 #[.int .i64 c.ci, .int .i64 c.ch, .int .i64 c.co, .int .u64 c.seed, .int .i64 c.batch, .int .i64 c.steps, .int .i64 c.rate, .int .i64 c.decay, .int .i64 c.how, .int .i64 c.keep, .int .i64 c.clip]
 have HL := Lib.hid hd.len
 by_cases hE : c.E = 0
 ·have HE := Lib.hid hE
  by_cases h0 : n = 0
  ·have F := Lib.hid (show crs c ds = 1 from crsE_none hE (by rw [HL.out]; exact h0))
   have t : ((n : Int) == 0) = true := by rw [beq_iff_eq]; omega
   clear hE
   go_enter Tryz.func51, Tryz.ntmps51
   go_wp2_with fail
   refine (cfg_Check c _).mono ?_
   rintro e x1 ⟨rfl, hb1⟩
   rw [HE.out]
   have hbw : Below w.heap.size w x1 := Below.trans (B := w.heap.size) (by repeat (first | exact Below.refl _ _ | assumption | refine bel_drewN ?_ _ | refine Below.drew ?_ | (refine Below.alloc ?_ (by simp <;> omega) _) | (refine Below.setCell ?_ (by simp <;> omega) _))) (hb1.mono (by simp))
   go_wp2
   go_ret
   rw [F.out]
   exact ⟨rfl, hbw⟩
  ·have t : ((n : Int) == 0) = false := by rw [beq_eq_false_iff_ne]; omega
   by_cases h16 : 16 < n
   ·have F := Lib.hid (show crs c ds = 2 from crsE_many hE (by rw [HL.out]; exact h16))
    have t2 : (16 : Int) < (n : Int) := by omega
    clear hE h0
    go_enter Tryz.func51, Tryz.ntmps51
    go_wp2_with fail
    refine (cfg_Check c _).mono ?_
    rintro e x1 ⟨rfl, hb1⟩
    rw [HE.out]
    have hbw : Below w.heap.size w x1 := Below.trans (B := w.heap.size) (by repeat (first | exact Below.refl _ _ | assumption | refine bel_drewN ?_ _ | refine Below.drew ?_ | (refine Below.alloc ?_ (by simp <;> omega) _) | (refine Below.setCell ?_ (by simp <;> omega) _))) (hb1.mono (by simp))
    go_wp2
    go_ret
    rw [F.out]
    exact ⟨rfl, hbw⟩
   ·have FB := Lib.hid (fun k hk hb => show crs c ds = 5 from crsE_form hE (by rw [HL.out]; exact h0) (by rw [HL.out]; exact h16) (k := k) (by rw [HL.out]; exact hk) hb)
    have FG := Lib.hid (fun hb => show crs c ds = 0 from crsE_fine hE (by rw [HL.out]; exact h0) (by rw [HL.out]; exact h16) (by rw [HL.out]; exact hb))
    have t2 : ¬ (16 : Int) < (n : Int) := by omega
    clear hE h0
    go_enter Tryz.func51, Tryz.ntmps51
    go_wp2_with fail
    refine (cfg_Check c _).mono ?_
    rintro e x1 ⟨rfl, hb1⟩
    rw [HE.out]
    have HB1 := HB.below hb1 (by simp)
    have hbw : Below w.heap.size w x1 := Below.trans (B := w.heap.size) (by repeat (first | exact Below.refl _ _ | assumption | refine bel_drewN ?_ _ | refine Below.drew ?_ | (refine Below.alloc ?_ (by simp <;> omega) _) | (refine Below.setCell ?_ (by simp <;> omega) _))) (hb1.mono (by simp))
    have hlt1 := HB1.lt
    have hd1 := hd.below hbw
    clear HB hb1 hd
    go_wp2
    go_loopw [7, 23] (fun _ j wr => ∃ k : Nat, k ≤ n ∧ j = .int .i64 k ∧ (∀ i, i < k → exB c.ci c.co (duoAt ds i) = true) ∧ Below x1.heap.size x1 wr) (fun _ j _ => n - (intOf j).toNat)
    case atStart => exact ⟨0, Nat.zero_le _, rfl, fun i hi => absurd hi (by omega), Below.refl _ _⟩
    case round =>
     obtain ⟨k, hk, rfl, hall, hb⟩ := hrel
     have HALL := Lib.hid hall
     clear hall
     by_cases hlt : k < n
     ·obtain ⟨b, off, hD, hbl, hc⟩ := (hd1.below hb).cells (by omega)
      obtain ⟨A1, n1, c1, A2, n2, c2, g1, g2, i1, i2, z1, z2, z3, z4⟩ := hc k hlt
      subst hD
      have k0 : (0 : Int) ≤ (k : Int) := by omega
      have k1 : (k : Int) < (n : Int) := by omega
      obtain ⟨d0, d1, d2, _⟩ := (HB1.below hb hlt1).cfg
      have l1 := i1.len
      have l2 := i2.len
      have zz1 : n1 ≤ 9223372036854775807 := by unfold maxLen at *; omega
      have zz2 : n2 ≤ 9223372036854775807 := by unfold maxLen at *; omega
      have hbs := hb.size
      have hlw : w.heap.size < wr.heap.size := by omega
      have hlb : b < wr.heap.size := hbl
      clear hc
      have bx : Below x1.heap.size x1 (wr.alloc (.cells #[.slice A1 n1 c1, .slice A2 n2 c2] 73)) := hb.alloc hbs _
      have m1 : Ints .i64 (wr.alloc (.cells #[.slice A1 n1 c1, .slice A2 n2 c2] 73)) A1 n1 (duoAt ds k).1 := i1.alloc _
      have m2 : Ints .i64 (wr.alloc (.cells #[.slice A1 n1 c1, .slice A2 n2 c2] 73)) A2 n2 (duoAt ds k).2 := i2.alloc _
      by_cases q1 : (n1 : Int) = c.ci
      ·have t3 : ((n1 : Int) != c.ci) = false := by rw [bne_eq_false_iff_eq]; exact q1
       by_cases q2 : (n2 : Int) = c.co
       ·have t4 : ((n2 : Int) != c.co) = false := by rw [bne_eq_false_iff_eq]; exact q2
        cases q3 : okL (duoAt ds k).1
        ·have FX := Lib.hid (show exB c.ci c.co (duoAt ds k) = false by unfold exB; rw [q3]; simp)
         have H3 := Lib.hid (fun W (q : Ints .i64 W A1 n1 (duoAt ds k).1) => trn_clamped_told (c := c1) q3 q zz1)
         clear q1 q2 q3
         go_wp2_with (go_at_call 82; refine (H3.out _ m1).mono ?_; rintro e w3 ⟨rfl, hq3⟩)
         go_ret
         rw [FB.out k hlt FX.out]
         exact ⟨rfl, hbw.trans ((Quiet.after bx hq3).mono hbw.size)⟩
        ·have H3 := Lib.hid (fun W (q : Ints .i64 W A1 n1 (duoAt ds k).1) => trn_clamped_told (c := c1) q3 q zz1)
         cases q4 : okL (duoAt ds k).2
         ·have FX := Lib.hid (show exB c.ci c.co (duoAt ds k) = false by unfold exB; rw [q4]; simp)
          have H4 := Lib.hid (fun W (q : Ints .i64 W A2 n2 (duoAt ds k).2) => trn_clamped_told (c := c2) q4 q zz2)
          clear q1 q2 q3 q4
          go_wp2_with (first
           | (go_at_call 82; (with_reducible refine (H3.out _ m1).mono ?_); rintro e w3 ⟨rfl, hq3⟩; obtain ⟨z3, rfl⟩ := hq3)
           | (go_at_call 82; (with_reducible refine (H4.out _ (m2.drewN z3)).mono ?_); rintro e w4 ⟨rfl, hq4⟩)
           | fail)
          go_ret
          rw [FB.out k hlt FX.out]
          exact ⟨rfl, hbw.trans ((Quiet.after (bel_drewN bx z3) hq4).mono hbw.size)⟩
         ·have FX := Lib.hid (show exB c.ci c.co (duoAt ds k) = true by unfold exB; rw [l1, l2, q1, q2, q3, q4]; simp)
          have H4 := Lib.hid (fun W (q : Ints .i64 W A2 n2 (duoAt ds k).2) => trn_clamped_told (c := c2) q4 q zz2)
          clear q1 q2 q3 q4
          go_wp2_with (first
           | (go_at_call 82; (with_reducible refine (H3.out _ m1).mono ?_); rintro e w3 ⟨rfl, hq3⟩; obtain ⟨z3, rfl⟩ := hq3)
           | (go_at_call 82; (with_reducible refine (H4.out _ (m2.drewN z3)).mono ?_); rintro e w4 ⟨rfl, hq4⟩)
           | fail)
          go_roundw
          case rel =>
           refine ⟨k + 1, by omega, by go_num, fun i hi => ?_, Quiet.after (bel_drewN bx z3) hq4⟩
           by_cases hik : i = k
           ·subst hik; exact FX.out
           ·exact HALL.out i (by omega)
          case measure => simp [intOf]; omega
       ·have t4 : ((n2 : Int) != c.co) = true := by rw [bne_iff_ne]; exact q2
        have FX := Lib.hid (show exB c.ci c.co (duoAt ds k) = false by unfold exB; rw [l2, beq_eq_false_iff_ne.2 q2]; simp)
        clear q1 q2
        go_wp2
        go_ret
        rw [FB.out k hlt FX.out]
        exact ⟨rfl, hbw.trans (bx.mono hbw.size)⟩
      ·have t3 : ((n1 : Int) != c.ci) = true := by rw [bne_iff_ne]; exact q1
       have FX := Lib.hid (show exB c.ci c.co (duoAt ds k) = false by unfold exB; rw [l1, beq_eq_false_iff_ne.2 q1]; simp)
       clear q1
       go_wp2
       go_ret
       rw [FB.out k hlt FX.out]
       exact ⟨rfl, hbw.trans (bx.mono hbw.size)⟩
     ·obtain rfl : k = n := by omega
      go_wp2
      go_ret
      rw [FG.out HALL.out]
      exact ⟨rfl, hbw.trans (hb.mono hbw.size)⟩
 ·have t : (c.E != 0) = true := by rw [bne_iff_ne]; exact hE
  have F := Lib.hid (show crs c ds = c.E from crsE_cfg hE)
  clear hE
  go_enter Tryz.func51, Tryz.ntmps51
  go_wp2_with fail
  refine (cfg_Check c _).mono ?_
  rintro e x1 ⟨rfl, hb1⟩
  have hbw : Below w.heap.size w x1 := Below.trans (B := w.heap.size) (by repeat (first | exact Below.refl _ _ | assumption | refine bel_drewN ?_ _ | refine Below.drew ?_ | (refine Below.alloc ?_ (by simp <;> omega) _) | (refine Below.setCell ?_ (by simp <;> omega) _))) (hb1.mono (by simp))
  go_wp2
  go_ret
  rw [F.out]
  exact ⟨rfl, hbw⟩
theorem mk_zeros {N : Nat} (hN : N ≤ 200) : ∀ W : World, (Instr.makeSlice 56 (.int .i64 (N : Int)) (.int .i64 (N : Int))).run Tryz.prog W = .ok (.slice (some ⟨W.heap.size, 0, none⟩) N N) (W.alloc (.cells (madeCells #[.int .i64 0] N) 3)) := fun W => by
 obtain ⟨i0, hi0, hz0, hz1, hz2⟩ := info_parts int_info
 have h := run_make (P := Tryz.prog) W 56 3 i0 (.int .i64 0) Tryz.underlying56 hi0 hz0 .i64 .i64 (N : Int) (N : Int) (by omega) (Int.le_refl _) (by rw [hz2]; omega) (by omega)
 rw [hz1] at h
 simpa [Value.cells] using h
theorem zerosL_replicate (N : Nat) : zerosL N = List.replicate N 0 := by
 unfold zerosL upto
 rw [List.map_const', List.length_range]
theorem own_zeros {N : Nat} (hN : N ≤ 200) {B : Nat} (w : World) (hB : B ≤ w.heap.size) {g : Nat} (hg : w.heap.size = g) : (w.alloc (.cells (madeCells #[.int .i64 0] N) 3)).ownsRow B 3 1 (.slice (some ⟨g, 0, none⟩) N N) N ((zerosL N).map (.int .i64)) := by
 subst hg
 have h := World.ownsRow_lit (base := B) (e := 3) (size := 1) w (madeCells #[.int .i64 0] N) N hB (by unfold maxLen; omega) (by rw [size_madeCells]; omega)
 rw [toList_madeCells_one] at h
 rw [zerosL_replicate, List.map_replicate]
 exact h
theorem but_grown {g B : Nat} {a b c : World} {row : Option Nat} (h : But g a b) (hB : a.heap.size ≤ B) (hg : b.grownBy c row) (hr : ∀ x, row = some x → B ≤ x) : But g a c :=
 ⟨hg.os.trans h.os, hg.tape.trans h.tape, hg.output.trans h.output, Nat.le_trans h.size hg.size, fun k hk hn => (hg.block k (Nat.lt_of_lt_of_le hk h.size) (fun e => by have := hr k e.symm; omega)).trans (h.block k hk hn)⟩
theorem but_below {g : Nat} {a b c : World} (h : But g a b) (hb : Below b.heap.size b c) : But g a c :=
 ⟨hb.os.trans h.os, hb.tape.trans h.tape, hb.output.trans h.output, Nat.le_trans h.size hb.size, fun k hk hn => (hb.block k (Nat.lt_of_lt_of_le hk h.size)).trans (h.block k hk hn)⟩
theorem Blk.butB {w w' : World} {g m : Nat} {t : TypeId} {cs : Array Value} (h : Blk w g t cs) (hb : But m w w') (hne : g ≠ m) : Blk w' g t cs := (hb.block g h.lt hne).trans h
theorem but_to {g B : Nat} {a b w : World} (h : Below B w a) (hb : But g a b) (hB : B ≤ g) (hs : B ≤ a.heap.size) : Below B w b :=
 ⟨hb.os.trans h.os, hb.tape.trans h.tape, hb.output.trans h.output, Nat.le_trans h.size hb.size, fun k hk => (hb.block k (by omega) (by omega)).trans (h.block k hk)⟩
theorem wrap_weight {r : Int} (h0 : 0 ≤ r) (h1 : r < 131073) : IntKind.i64.wrap (IntKind.i64.wrap r - 65536) = r - 65536 := by
 rw [wrap_small r h0 (by omega)]
 have := wrap_i64_ediv (r - 65536) 1 (by omega) (by omega) (by omega)
 rwa [Int.ediv_one] at this
def StaR (W0 : World) (m z N : Nat) (f : Nat → Int) (k : Nat) (wr : World) : Prop :=
 ∃ v, wr.ownsRow (m + 1) 3 1 v k ((upto f k).map (.int .i64)) ∧ Blk wr m 106 #[v, .slice (some ⟨z, 0, none⟩) N N] ∧ But m W0 wr
theorem StaR.step {W0 wr u1 w1 : World} {m z N k gg cp : Nat} {f : Nat → Int} {v : Value} {x : Int} (hx : f k = x) (hm : m + 1 = W0.heap.size) (hbt : But m W0 wr) (hb1 : Below wr.heap.size wr u1) (hblk : Blk wr m 106 #[v, .slice (some ⟨z, 0, none⟩) N N])
  (hown : wr.ownsRow (m + 1) 3 1 v k ((upto f k).map (.int .i64))) (hown1 : w1.ownsRow (m + 1) 3 1 (.slice (some ⟨gg, 0, none⟩) (k + 1) cp) (k + 1) ((upto f k).map (.int .i64) ++ [.int .i64 x])) (o : Obj) (hgrow : (u1.alloc o).grownBy w1 v.ownBlock) :
  StaR W0 m z N f (k + 1) (w1.setCell ⟨m, 0, none⟩ (.slice (some ⟨gg, 0, none⟩) (k + 1) cp)) ∧ w1.cell? ⟨m, 0, none⟩ = some v ∧ w1.frozen? ⟨m, 0, none⟩ = false ∧ ∀ g t cs, Blk wr g t cs → g < m → Blk w1 g t cs := by
 have hne : some m ≠ v.ownBlock := fun h => by have := (hown.lt _ h.symm).1; omega
 have hB : Blk w1 m 106 #[v, .slice (some ⟨z, 0, none⟩) N N] := ((hblk.below hb1 hblk.lt).alloc o).grown hgrow hne
 refine ⟨⟨_, ?_, hB.put 0 _, ?_⟩, hB.cell 0, hB.frozen 0, fun g t cs h hg => ((h.below hb1 h.lt).alloc o).grown hgrow (fun e => by have := (hown.lt _ e.symm).1; omega)⟩
 ·rw [upto_succ, List.map_append, hx]
  exact own_far hown1 (by simp) _
 ·exact (but_grown (B := m + 1) (but_below hbt (hb1.alloc hb1.size o)) (by omega) hgrow (fun x hx => (hown.lt x hx).1)).put 0 _
theorem trn_Start (c : Cfg) (w : World) (hE : c.E = 0) (s0 : 0 ≤ c.seed) (s1 : c.seed < 18446744073709551616) :
  Calls Tryz.prog 74 #[.agg #[.int .i64 c.ci, .int .i64 c.ch, .int .i64 c.co, .int .u64 c.seed, .int .i64 c.batch, .int .i64 c.steps, .int .i64 c.rate, .int .i64 c.decay, .int .i64 c.how, .int .i64 c.keep, .int .i64 c.clip]] w (StateOwn w (startW c.seed c.N) (zerosL c.N) 0) := by
 obtain ⟨i0, hi0, hz0, hz1, hz2⟩ := info_parts int_info
 have hf := Cfg.ok hE
 have HB0 := (Blk.made w 29 #[.int .i64 c.ci, .int .i64 c.ch, .int .i64 c.co, .int .u64 c.seed, .int .i64 c.batch, .int .i64 c.steps, .int .i64 c.rate, .int .i64 c.decay, .int .i64 c.how, .int .i64 c.keep, .int .i64 c.clip]).alloc (.cells #[.slice none 0 0, .slice none 0 0] 106)
 have HB1 := Blk.made' (w.alloc (.cells #[.int .i64 c.ci, .int .i64 c.ch, .int .i64 c.co, .int .u64 c.seed, .int .i64 c.batch, .int .i64 c.steps, .int .i64 c.rate, .int .i64 c.decay, .int .i64 c.how, .int .i64 c.keep, .int .i64 c.clip] 29)) 106 #[.slice none 0 0, .slice none 0 0] (g := w.heap.size + 1) (by simp)
 have HS := Lib.hid (fun W => show Calls Tryz.prog 85 #[.int .i64 c.ci, .int .i64 c.ch, .int .i64 c.co] W fun e w' => e = .returned (.int .i64 (c.N : Int)) ∧ W = w' from by
  rw [hf.n]; exact pup_Size c.ci c.ch c.co W hf.ci hf.ch hf.co)
 have n1 := hf.n1
 have n40 := hf.n40
 obtain ⟨N, hN⟩ : ∃ N, N = c.N := ⟨_, rfl⟩
 rw [← hN] at HS n1 n40 ⊢
 have HE := Lib.hid hE
 have hmk := mk_zeros (N := N) (by omega)
 clear hE hf hN
 go_enter Tryz.func74, Tryz.ntmps74
 go_wp2_with fail
 refine (cfg_Check c _).mono ?_
 rintro e x1 ⟨rfl, hb1⟩
 rw [HE.out]
 replace HB0 := HB0.below hb1 (by simp <;> omega)
 replace HB1 := HB1.below hb1 (by simp <;> omega)
 have hbw : Below w.heap.size w x1 := Below.trans (B := w.heap.size) (by repeat (first | exact Below.refl _ _ | assumption | refine bel_drewN ?_ _ | refine Below.drew ?_ | (refine Below.alloc ?_ (by simp <;> omega) _) | (refine Below.setCell ?_ (by simp <;> omega) _))) (hb1.mono (by simp <;> omega))
 have hs1 : w.heap.size + 2 ≤ x1.heap.size := by have := HB1.lt; omega
 clear hb1
 obtain ⟨d0, d1, d2, d3, d4, d5, d6, d7, d8, d9, da⟩ := HB0.cfg
 go_wp2_with (go_at_call 85; refine (HS.out _).mono ?_; rintro e w' ⟨rfl, rfl⟩)
 have BX0 : Blk ((x1.alloc (.cells (madeCells #[.int .i64 0] N) 3)).alloc (.cells #[.slice none 0 0, .slice (some ⟨x1.heap.size, 0, none⟩) N N] 106)) (x1.heap.size + 1) 106 #[.slice none 0 0, .slice (some ⟨x1.heap.size, 0, none⟩) N N] := Blk.made' _ _ _ (by simp)
 have OZ0 := (own_zeros (N := N) (by omega) x1 (Nat.le_refl _) rfl).alloc (.cells #[.slice none 0 0, .slice (some ⟨x1.heap.size, 0, none⟩) N N] 106)
 have bw0 : Below x1.heap.size x1 ((x1.alloc (.cells (madeCells #[.int .i64 0] N) 3)).alloc (.cells #[.slice none 0 0, .slice (some ⟨x1.heap.size, 0, none⟩) N N] 106)) := (by repeat (first | exact Below.refl _ _ | assumption | refine bel_drewN ?_ _ | refine Below.drew ?_ | (refine Below.alloc ?_ (by simp <;> omega) _) | (refine Below.setCell ?_ (by simp <;> omega) _)))
 have hsz0 : ((x1.alloc (.cells (madeCells #[.int .i64 0] N) 3)).alloc (.cells #[.slice none 0 0, .slice (some ⟨x1.heap.size, 0, none⟩) N N] 106)).heap.size = x1.heap.size + 1 + 1 := by simp
 obtain ⟨W0, hW0⟩ : ∃ W0, W0 = ((x1.alloc (.cells (madeCells #[.int .i64 0] N) 3)).alloc (.cells #[.slice none 0 0, .slice (some ⟨x1.heap.size, 0, none⟩) N N] 106)) := ⟨_, rfl⟩
 rw [← hW0] at BX0 OZ0 bw0 hsz0 ⊢
 obtain ⟨z, hz⟩ : ∃ z, z = x1.heap.size := ⟨_, rfl⟩
 rw [← hz] at BX0 OZ0 bw0 hsz0 hs1 ⊢
 have hbx0 : Blk W0 w.heap.size 29 #[.int .i64 c.ci, .int .i64 c.ch, .int .i64 c.co, .int .u64 c.seed, .int .i64 c.batch, .int .i64 c.steps, .int .i64 c.rate, .int .i64 c.decay, .int .i64 c.how, .int .i64 c.keep, .int .i64 c.clip] := HB0.below bw0 (by omega)
 have hbx1 : Blk W0 (w.heap.size + 1) 106 #[.slice none 0 0, .slice none 0 0] := HB1.below bw0 (by omega)
 have hbw0 : Below w.heap.size w W0 := hbw.trans (bw0.mono (by omega))
 have HSZ := Lib.hid hsz0
 clear hW0 hz bw0 HB0 HB1 hbw hmk d0 d1 d2 d3 d4 d5 d6 d7 d8 d9 da hsz0
 go_loopw [7, 25] (fun _ j wr => ∃ k : Nat, k ≤ N ∧ j = .int .i64 k ∧ StaR W0 (z + 1) z N (fun i => wordI c.seed ((1000 + i : Nat) : Int) % 131073 - 65536) k wr) (fun _ j _ => N - (intOf j).toNat)
 case atStart => exact ⟨0, Nat.zero_le _, rfl, _, World.ownsRow_nil _ _ _ _, BX0, But.refl _ _⟩
 case round =>
  obtain ⟨k, hk, rfl, v, hown, hblk, hbt⟩ := hrel
  have hsz := HSZ.out
  have hmz := hbt.size
  by_cases hlt : k < N
  ·have c0 : wr.cell? ⟨z + 1, 0, none⟩ = some v := hblk.cell 0
   have hcw := hbx0.butB hbt (by omega)
   have c3 : wr.cell? ⟨w.heap.size, 3, none⟩ = some (.int .u64 c.seed) := hcw.cell 3
   have hlz : w.heap.size < z + 1 := by omega
   have ltm := hblk.lt
   have ltc : w.heap.size < wr.heap.size := by omega
   have W1 := ofI_lo 2 [c.seed, ((1000 + k : Nat) : Int)]
   have W2 := ofI_hi 2 [c.seed, ((1000 + k : Nat) : Int)]
   obtain ⟨x, hx⟩ : ∃ x, x = wordI c.seed ((1000 + k : Nat) : Int) := ⟨_, rfl⟩
   have HW := Lib.hid (fun W => show Calls Tryz.prog 115 #[.int .u64 c.seed, .int .u64 (1000 + (k : Int))] W fun e w' => e = .returned (.int .u64 x) ∧ Below W.heap.size W w' from by
    rw [hx, show ((1000 + k : Nat) : Int) = 1000 + (k : Int) by omega]
    exact dig_Word c.seed (1000 + (k : Int)) W s0 s1 (by omega) (by omega))
   have X0 : 0 ≤ x := by rw [hx]; exact W1
   have hwk : Value.int .u64 (IntKind.u64.wrap (IntKind.i64.wrap (1000 + (k : Int)))) = Value.int .u64 (1000 + (k : Int)) := congrArg (Value.int .u64) (by rw [wrap_small _ (by omega) (by omega), wrap_u64_in (by omega) (by omega)])
   have HWK := Lib.hid hwk
   clear hwk
   obtain ⟨r, hr⟩ : ∃ r, x % 131073 = r := ⟨_, rfl⟩
   have hr' : x.tmod 131073 = r := by rw [Int.tmod_eq_emod_of_nonneg X0]; exact hr
   have R0 : 0 ≤ r ∧ r < 131073 := by omega
   have FK := Lib.hid (show (fun i : Nat => wordI c.seed ((1000 + i : Nat) : Int) % 131073 - 65536) k = IntKind.i64.wrap (IntKind.i64.wrap r - 65536) by rw [wrap_weight R0.1 R0.2]; show wordI c.seed ((1000 + k : Nat) : Int) % 131073 - 65536 = _; rw [← hx, hr])
   obtain ⟨f, hf⟩ : ∃ f, f = (fun i : Nat => wordI c.seed ((1000 + i : Nat) : Int) % 131073 - 65536) := ⟨_, rfl⟩
   rw [← hf] at FK hown ⊢
   obtain ⟨r1, r2⟩ := R0
   clear hx hr W1 W2 hf hsz hmz
   go_wp2
   go_region_law (first
    | (go_simp; go_at_call 115; try rw [HWK.out]; (with_reducible refine (HW.out _).mono ?_); rintro e u1 ⟨rfl, hb1⟩; have y0 := (hb1.cell (p := ⟨z + 1, 0, none⟩) ltm).trans c0; have y3 := (hb1.cell (p := ⟨w.heap.size, 3, none⟩) ltc).trans c3; have hb1' : Below wr.heap.size wr u1 := bel_trans ((Below.refl _ _).drew) hb1; have OW := own_below hown hb1'; have hsz1 := hb1'.size; have y0' : ∀ o, (u1.alloc o).cell? ⟨z + 1, 0, none⟩ = some v := fun o => ((hblk.below hb1' ltm).alloc o).cell 0)
    | (refine step_append_lies _ (by rfl) _ _ _ (by rfl) (z + 1 + 1) 3 i0 _ 1 8 Tryz.underlying56 hi0 hz0 hz1 hz2 rfl (by omega) v k _ (by rfl) (by exact OW.alloc _) ⟨u1.heap.size, 0, none⟩ 1 1 [.int .i64 (IntKind.i64.wrap (IntKind.i64.wrap r - 65536))] (by rfl) (by rfl) (World.news_of_block (cs := #[.int .i64 (IntKind.i64.wrap (IntKind.i64.wrap r - 65536))]) (t := 3) (fr := (0, 0)) (heap_alloc_new _ _)) (by simp [Value.oneCell']) (by omega) (by unfold maxLen; omega) (by omega) (by simp; omega) (u1.heap.size + 1) (by simp) ?_; intro gg cp w1 hown1 hgrow hat hlt1; obtain ⟨hR, e0, ez, hkk⟩ := StaR.step FK.out HSZ.out.symm hbt hb1' hblk hown hown1 _ hgrow; have e3 : w1.cell? ⟨w.heap.size, 3, none⟩ = some (.int .u64 c.seed) := (hkk _ _ _ hcw hlz).cell 3)
    | fail)
   all_goals
    go_wp2
    go_roundw
    case rel => exact ⟨k + 1, by omega, by go_num, hR⟩
    case measure => simp [intOf]; omega
  ·obtain rfl : k = N := by omega
   obtain ⟨vA, vc, rfl⟩ := own_slice hown
   have c0 : wr.cell? ⟨z + 1, 0, none⟩ = some (.slice vA k vc) := hblk.cell 0
   have c1 : wr.cell? ⟨z + 1, 1, none⟩ = some (.slice (some ⟨z, 0, none⟩) k k) := hblk.cell 1
   have hr := hbx1.butB hbt (by omega)
   have r0 : wr.cell? ⟨w.heap.size + 1, 0, none⟩ = some (.slice none 0 0) := hr.cell 0
   have r1 : wr.cell? ⟨w.heap.size + 1, 1, none⟩ = some (.slice none 0 0) := hr.cell 1
   have r2 := hr.frozen 0
   have r3 := hr.frozen 1
   have hlr := hr.lt
   have ltm := hblk.lt
   have hne : z + 1 ≠ w.heap.size + 1 := by omega
   have hbz := but_to hbw0 hbt (by omega) hbw0.size
   have oz : wr.ownsRow z 3 1 (.slice (some ⟨z, 0, none⟩) k k) k ((zerosL k).map (.int .i64)) := own_keep OZ0 fun b hb => by
    have hb' : z = b := Option.some.inj hb
    subst hb'
    exact hbt.block z (by omega) (by omega)
   have hL : upto (fun i : Nat => wordI c.seed ((1000 + i : Nat) : Int) % 131073 - 65536) k = startW c.seed k := rfl
   have hL2 := Lib.hid (startW_length c.seed k)
   have hL3 := Lib.hid (zerosL_length k)
   rw [hL] at hown
   have o1 := own_far (own_far hown (p := ⟨w.heap.size + 1, 0, none⟩) (by simp <;> omega) (.slice vA k vc)) (p := ⟨w.heap.size + 1, 1, none⟩) (by simp <;> omega) (.slice (some ⟨z, 0, none⟩) k k)
   have o2 := own_far (own_far oz (p := ⟨w.heap.size + 1, 0, none⟩) (by simp <;> omega) (.slice vA k vc)) (p := ⟨w.heap.size + 1, 1, none⟩) (by simp <;> omega) (.slice (some ⟨z, 0, none⟩) k k)
   have hb2 := (hbz.setCell (p := ⟨w.heap.size + 1, 0, none⟩) (by simp) (.slice vA k vc)).setCell (p := ⟨w.heap.size + 1, 1, none⟩) (by simp) (.slice (some ⟨z, 0, none⟩) k k)
   clear hL
   go_wp2
   refine bodyPost_ret (v := .tuple #[.agg #[.slice vA k vc, .slice (some ⟨z, 0, none⟩) k k], .int .i64 0]) (by simp [results, Tryz.results74, go_sem, r0, r1]) rfl ?_
   refine ⟨vA, vc, some ⟨z, 0, none⟩, k, ?_, ?_, ?_, hb2⟩
   ·rw [hL2.out, hL3.out]
   ·rw [hL2.out]; exact own_base o1 (by omega)
   ·rw [hL3.out]; exact own_base o2 (by omega)
theorem cfg_nat {c : Cfg} (h : c.Ok) : (c.ci = (c.ci.toNat : Int) ∧ 1 ≤ c.ci.toNat ∧ c.ci.toNat ≤ 4) ∧ (c.ch = (c.ch.toNat : Int) ∧ 1 ≤ c.ch.toNat ∧ c.ch.toNat ≤ 4) ∧ (c.co = (c.co.toNat : Int) ∧ 1 ≤ c.co.toNat ∧ c.co.toNat ≤ 4) ∧ (c.batch = (c.batch.toNat : Int) ∧ 1 ≤ c.batch.toNat ∧ c.batch.toNat ≤ 8) := by
 obtain ⟨h1, h2, h3, h4, _⟩ := h
 omega
theorem cfg_N {c : Cfg} (h : c.Ok) : c.N = c.ch.toNat * c.ci.toNat + c.ch.toNat + c.co.toNat * c.ch.toNat + c.co.toNat := by
 obtain ⟨⟨e1, _⟩, ⟨e2, _⟩, ⟨e3, _⟩, _⟩ := cfg_nat h
 have hn := h.n
 rw [e1, e2, e3] at hn
 unfold sizeP at hn
 have q1 : ((c.ch.toNat * c.ci.toNat : Nat) : Int) = (c.ch.toNat : Int) * (c.ci.toNat : Int) := Int.natCast_mul _ _
 have q2 : ((c.co.toNat * c.ch.toNat : Nat) : Int) = (c.co.toNat : Int) * (c.ch.toNat : Int) := Int.natCast_mul _ _
 omega
theorem shape_fine (c : Cfg) (h : c.Ok) (A : Option Addr) (k : Nat) (wt : List Int) (_ : wt.length = c.N) (hw : okL wt = true) (hk : c.N ≤ k) {w : World} (hA : Ints .i64 w A c.N wt) :
  Calls Tryz.prog 54 #[.int .i64 c.ci, .int .i64 c.ch, .int .i64 c.co, .slice A c.N k] w (PupOwn w (shapeP c.ci.toNat c.ch.toNat c.co.toNat wt) 0) := by
 obtain ⟨⟨e1, a1, a2⟩, ⟨e2, a3, a4⟩, ⟨e3, a5, a6⟩, _⟩ := cfg_nat h
 have key : ∀ x y z : Int, x = (c.ci.toNat : Int) → y = (c.ch.toNat : Int) → z = (c.co.toNat : Int) → Calls Tryz.prog 54 #[.int .i64 x, .int .i64 y, .int .i64 z, .slice A c.N k] w (PupOwn w (shapeP c.ci.toNat c.ch.toNat c.co.toNat wt) 0) := by
  rintro _ _ _ rfl rfl rfl
  exact pup_Shape_ok c.ci.toNat c.ch.toNat c.co.toNat A c.N k wt w hA hk ⟨a1, a2⟩ ⟨a3, a4⟩ ⟨a5, a6⟩ _ _ rfl rfl (cfg_N h) hw
 exact key _ _ _ e1 e2 e3
theorem grad_fine (c : Cfg) (h : c.Ok) (wt : List Int) (hl : wt.length = c.N) (hw : okL wt = true) (p : List Int × List Int) (hp : exB c.ci c.co p = true) {P : Pup} (hP : P = shapeP c.ci.toNat c.ch.toNat c.co.toNat wt)
  {A1 A2 B1 B2 X T : Option Addr} {k1 k2 d1 d2 ni no xc tc : Nat} {w : World} (i1 : Ints .i64 w A1 P.a1.length P.a1) (i2 : Ints .i64 w A2 P.a2.length P.a2) (j1 : Ints .i64 w B1 P.b1.length P.b1) (j2 : Ints .i64 w B2 P.b2.length P.b2)
  (g1 : P.a1.length ≤ k1) (g2 : P.a2.length ≤ k2) (ix : Ints .i64 w X ni p.1) (it : Ints .i64 w T no p.2) :
  Calls Tryz.prog 172 #[.agg #[.int .i64 P.r1, .int .i64 P.c1, .slice A1 P.a1.length k1, .int .i64 P.r2, .int .i64 P.c2, .slice A2 P.a2.length k2, .slice B1 P.b1.length d1, .slice B2 P.b2.length d2], .agg #[.slice X ni xc, .slice T no tc]] w
   (PupOwn w (gradW c.ch.toNat c.ci.toNat c.co.toNat wt p) 0) := by
 obtain ⟨⟨e1, a1, a2⟩, ⟨e2, a3, a4⟩, ⟨e3, a5, a6⟩, _⟩ := cfg_nat h
 have hn := h.n
 have h40 := h.n40
 obtain ⟨q1, q2, _, _⟩ := exB_ok hp
 have hpe := shapeP_fine (I := c.ci.toNat) (H := c.ch.toNat) (O := c.co.toNat) (N := c.N) (wt := wt) ⟨a3, a4⟩ ⟨a1, a2⟩ ⟨a5, a6⟩ (by rw [hn, e1, e2, e3]; simp) hl hw
 have hN := cfg_N h
 have hni : ni = c.ci.toNat := by have := ix.len; omega
 have hno : no = c.co.toNat := by have := it.len; omega
 subst hni; subst hno
 have er1 : P.r1 = (c.ch.toNat : Int) := by rw [hP]; rfl
 have ec1 : P.c1 = (c.ci.toNat : Int) := by rw [hP]; rfl
 have er2 : P.r2 = (c.co.toNat : Int) := by rw [hP]; rfl
 have ec2 : P.c2 = (c.ch.toNat : Int) := by rw [hP]; rfl
 have l3 : P.b1.length = c.ch.toNat := by rw [hP]; simp only [shapeP, List.length_take, List.length_drop]; omega
 have l4 : P.b2.length = c.co.toNat := by rw [hP]; simp only [shapeP, List.length_take, List.length_drop]; omega
 have hpe' : pupE (c.ch.toNat : Int) (c.ci.toNat : Int) P.a1 (c.co.toNat : Int) (c.ch.toNat : Int) P.a2 P.b1 P.b2 = 0 := by rw [hP]; exact hpe
 have H := pup_Grad_ok c.ch.toNat c.ci.toNat c.co.toNat A1 P.a1.length k1 P.a1 A2 P.a2.length k2 P.a2 B1 d1 P.b1 B2 d2 P.b2 X xc p.1 T tc p.2 w i1 i2 (l3 ▸ j1) (l4 ▸ j2) ix it hpe' g1 g2
 rw [er1, ec1, er2, ec2, l3, l4, show gradW c.ch.toNat c.ci.toNat c.co.toNat wt p = gradP c.ch.toNat c.ci.toNat c.co.toNat P.a1 P.b1 P.a2 P.b2 p.1 p.2 from by rw [hP]; rfl]
 exact H
theorem flat_fine (c : Cfg) (h : c.Ok) (wt : List Int) (p : List Int × List Int) (hp : exB c.ci c.co p = true) {P : Pup} (hP : P = gradW c.ch.toNat c.ci.toNat c.co.toNat wt p)
  {A1 A2 B1 B2 : Option Addr} {k1 k2 d1 d2 : Nat} {w : World} (i1 : Ints .i64 w A1 P.a1.length P.a1) (i2 : Ints .i64 w A2 P.a2.length P.a2) (j1 : Ints .i64 w B1 P.b1.length P.b1) (j2 : Ints .i64 w B2 P.b2.length P.b2) :
  Calls Tryz.prog 173 #[.agg #[.int .i64 P.r1, .int .i64 P.c1, .slice A1 P.a1.length k1, .int .i64 P.r2, .int .i64 P.c2, .slice A2 P.a2.length k2, .slice B1 P.b1.length d1, .slice B2 P.b2.length d2]] w
   (fun e w' => ∃ S s, e = .returned (.tuple #[.slice S c.N s, .int .i64 0]) ∧ Ints .i64 w' S c.N (gradL c.ch.toNat c.ci.toNat c.co.toNat wt p) ∧ Below w.heap.size w w') := by
 obtain ⟨⟨e1, a1, a2⟩, ⟨e2, a3, a4⟩, ⟨e3, a5, a6⟩, _⟩ := cfg_nat h
 obtain ⟨q1, q2, _, _⟩ := exB_ok hp
 have hx : p.1.length = c.ci.toNat := by omega
 have hpe := gradW_fine (O := c.co.toNat) (wt := wt) (p := p) ⟨a3, a4⟩ ⟨a1, a2⟩ ⟨a5, a6⟩ hx
 obtain ⟨l1, l2, l3, l4⟩ := gradW_len (H := c.ch.toNat) (O := c.co.toNat) (wt := wt) (p := p) hx
 have m1 := Nat.mul_le_mul a4 a2
 have m2 := Nat.mul_le_mul a6 a4
 have L : P.a1.length ≤ 16 ∧ P.a2.length ≤ 16 ∧ P.b1.length ≤ 16 ∧ P.b2.length ≤ 16 := by rw [hP, l1, l2, l3, l4]; omega
 have hpe' : pupE P.r1 P.c1 P.a1 P.r2 P.c2 P.a2 P.b1 P.b2 = 0 := by rw [hP]; exact hpe
 have H := pup_Flat_ok P.r1 P.c1 A1 P.a1.length k1 P.a1 P.r2 P.c2 A2 P.a2.length k2 P.a2 B1 P.b1.length d1 P.b1 B2 P.b2.length d2 P.b2 w i1 i2 j1 j2 (by omega) (by omega) (by omega) (by omega) hpe'
 have hfl : flatP P.a1 P.b1 P.a2 P.b2 = gradL c.ch.toNat c.ci.toNat c.co.toNat wt p := by unfold gradL; rw [hP]
 rw [hfl] at H
 have hlen := gradL_length (H := c.ch.toNat) (I := c.ci.toNat) (O := c.co.toNat) (N := c.N) (wt := wt) hx (by rw [h.n, e1, e2, e3]; simp)
 refine H.mono ?_
 rintro e w' hh
 obtain ⟨S, s, rfl, hI, hb⟩ := ListRes.of_own hh
 rw [hlen] at hI ⊢
 exact ⟨S, s, rfl, hI, hb⟩
theorem sum_fine (N : Nat) (hN : N ≤ 200) {S L : Option Addr} {cs cl : Nat} {xs ys : List Int} {w : World} (hx : Ints .i64 w S N xs) (hy : Ints .i64 w L N ys) :
  Calls Tryz.prog 134 #[.slice S N cs, .slice L N cl] w (fun e w' => ∃ A c, e = .returned (.tuple #[.slice A N c, .int .i64 0]) ∧ w'.ownsRow w.heap.size 3 1 (.slice A N c) N ((sumL xs ys).map (.int .i64)) ∧ Below w.heap.size w w') := by
 refine (vec_Sum_ok S L N cs cl xs ys w hx hy hN).mono ?_
 rintro e w' ⟨A, c, rfl, hO, hb⟩
 rw [sumL_length, hx.len] at hO ⊢
 exact ⟨A, c, rfl, hO, hb⟩
theorem sumN_succ (H I O N : Nat) (wt : List Int) (ds : Data) (bt : List Nat) (k : Nat) : sumN H I O N wt ds bt (k + 1) = sumL (sumN H I O N wt ds bt k) (gradL H I O wt (duoAt ds (atN bt k))) := rfl
theorem natL_at (bt : List Nat) {k : Nat} (h : k < bt.length) : at0 (bt.map fun (n : Nat) => (n : Int)) k = (atN bt k : Int) := by
 unfold at0 atN
 rw [List.getElem?_map, List.getElem?_eq_getElem h]
 rfl
theorem atN_mem (bt : List Nat) {k : Nat} (h : k < bt.length) : atN bt k ∈ bt := by
 unfold atN
 rw [List.getElem?_eq_getElem h]
 exact List.getElem_mem _
theorem pup_stored {u : World} {g b : Nat} {G : Pup} {A1 A2 B1 B2 : Option Addr} {k1 k2 d1 d2 : Nat} (hz : Blk u g 102 #[.int .i64 0, .int .i64 0, .slice none 0 0, .int .i64 0, .int .i64 0, .slice none 0 0, .slice none 0 0, .slice none 0 0]) (hgb : g < b) (o1 : u.ownsRow b 3 1 (.slice A1 G.a1.length k1) G.a1.length (G.a1.map (.int .i64)))
  (o2 : u.ownsRow b 3 1 (.slice A2 G.a2.length k2) G.a2.length (G.a2.map (.int .i64))) (o3 : u.ownsRow b 3 1 (.slice B1 G.b1.length d1) G.b1.length (G.b1.map (.int .i64))) (o4 : u.ownsRow b 3 1 (.slice B2 G.b2.length d2) G.b2.length (G.b2.map (.int .i64))) :
  PupBox ((((((((u.setCell ⟨g, 0, none⟩ (.int .i64 G.r1)).setCell ⟨g, 1, none⟩ (.int .i64 G.c1)).setCell ⟨g, 2, none⟩ (.slice A1 G.a1.length k1)).setCell ⟨g, 3, none⟩ (.int .i64 G.r2)).setCell ⟨g, 4, none⟩ (.int .i64 G.c2)).setCell ⟨g, 5, none⟩ (.slice A2 G.a2.length k2)).setCell ⟨g, 6, none⟩ (.slice B1 G.b1.length d1)).setCell ⟨g, 7, none⟩ (.slice B2 G.b2.length d2)) g G ∧
  But g u ((((((((u.setCell ⟨g, 0, none⟩ (.int .i64 G.r1)).setCell ⟨g, 1, none⟩ (.int .i64 G.c1)).setCell ⟨g, 2, none⟩ (.slice A1 G.a1.length k1)).setCell ⟨g, 3, none⟩ (.int .i64 G.r2)).setCell ⟨g, 4, none⟩ (.int .i64 G.c2)).setCell ⟨g, 5, none⟩ (.slice A2 G.a2.length k2)).setCell ⟨g, 6, none⟩ (.slice B1 G.b1.length d1)).setCell ⟨g, 7, none⟩ (.slice B2 G.b2.length d2)) := by
 have hb := ((((((((But.refl g u).put 0 (.int .i64 G.r1)).put 1 (.int .i64 G.c1)).put 2 (.slice A1 G.a1.length k1)).put 3 (.int .i64 G.r2)).put 4 (.int .i64 G.c2)).put 5 (.slice A2 G.a2.length k2)).put 6 (.slice B1 G.b1.length d1)).put 7 (.slice B2 G.b2.length d2)
 have hB := (((((((hz.put 0 (.int .i64 G.r1)).put 1 (.int .i64 G.c1)).put 2 (.slice A1 G.a1.length k1)).put 3 (.int .i64 G.r2)).put 4 (.int .i64 G.c2)).put 5 (.slice A2 G.a2.length k2)).put 6 (.slice B1 G.b1.length d1)).put 7 (.slice B2 G.b2.length d2)
 exact ⟨⟨A1, k1, A2, k2, B1, d1, B2, d2, by simpa using hB, Ints.of_own (own_but o1 hb hgb) rfl, Ints.of_own (own_but o2 hb hgb) rfl, Ints.of_own (own_but o3 hb hgb) rfl, Ints.of_own (own_but o4 hb hgb) rfl⟩, hb⟩
theorem pup_laid {u : World} {b : Nat} {G : Pup} {A1 A2 B1 B2 : Option Addr} {k1 k2 d1 d2 : Nat} (o1 : u.ownsRow b 3 1 (.slice A1 G.a1.length k1) G.a1.length (G.a1.map (.int .i64)))
  (o2 : u.ownsRow b 3 1 (.slice A2 G.a2.length k2) G.a2.length (G.a2.map (.int .i64))) (o3 : u.ownsRow b 3 1 (.slice B1 G.b1.length d1) G.b1.length (G.b1.map (.int .i64))) (o4 : u.ownsRow b 3 1 (.slice B2 G.b2.length d2) G.b2.length (G.b2.map (.int .i64))) :
  PupBox (u.alloc (.cells #[.int .i64 G.r1, .int .i64 G.c1, .slice A1 G.a1.length k1, .int .i64 G.r2, .int .i64 G.c2, .slice A2 G.a2.length k2, .slice B1 G.b1.length d1, .slice B2 G.b2.length d2] 102)) u.heap.size G :=
 ⟨A1, k1, A2, k2, B1, d1, B2, d2, Blk.made _ _ _, (Ints.of_own o1 rfl).alloc _, (Ints.of_own o2 rfl).alloc _, (Ints.of_own o3 rfl).alloc _, (Ints.of_own o4 rfl).alloc _⟩
theorem trn_mean (c : Cfg) (ds : Data) (hf : Fine c ds) (D : Option Addr) (n dc : Nat) (w : World) (hd : Duos w D n ds) (A : Option Addr) (ka : Nat) (wt : List Int) (hA : Ints .i64 w A c.N wt) (hka : c.N ≤ ka) (hw : okL wt = true)
  (B : Option Addr) (nb bc : Nat) (bt : List Nat) (hB : Ints .i64 w B nb (bt.map fun (n : Nat) => (n : Int))) (hbt : ∀ x ∈ bt, x < ds.length) (hnb : nb ≤ 8) :
  Calls Tryz.prog 128 #[.agg #[.int .i64 c.ci, .int .i64 c.ch, .int .i64 c.co, .int .u64 c.seed, .int .i64 c.batch, .int .i64 c.steps, .int .i64 c.rate, .int .i64 c.decay, .int .i64 c.how, .int .i64 c.keep, .int .i64 c.clip], .slice D n dc, .slice A c.N ka, .slice B nb bc] w (Own1 w (meanL c.ch.toNat c.ci.toNat c.co.toNat c.N c.batch wt ds bt)) := by
 have hok := hf.ok
 have HOK := Lib.hid hok
 have n1 := hok.n1
 have n40 := hok.n40
 have hba := hok.ba
 have hdl := hd.len
 have hd16 := hf.d16
 have HEX := Lib.hid (fun i (hi : i < n) => hf.ex i (by rw [hdl]; exact hi))
 have hbl : bt.length = nb := by have := hB.len; rwa [List.length_map] at this
 have HBA := Lib.hid (fun k (hk : k < nb) => (⟨natL_at bt (by rw [hbl]; exact hk), by have := hbt _ (atN_mem bt (k := k) (by rw [hbl]; exact hk)); rwa [hdl] at this⟩ : at0 (bt.map fun (n : Nat) => (n : Int)) k = (atN bt k : Int) ∧ atN bt k < n))
 have HSH := Lib.hid (shape_fine c hok A ka wt hA.len hw hka (hA.alloc (.cells #[.int .i64 c.ci, .int .i64 c.ch, .int .i64 c.co, .int .u64 c.seed, .int .i64 c.batch, .int .i64 c.steps, .int .i64 c.rate, .int .i64 c.decay, .int .i64 c.how, .int .i64 c.keep, .int .i64 c.clip] 29)))
 have HGR := Lib.hid (fun p hp => @grad_fine c hok wt hA.len hw p hp)
 have HFL := Lib.hid (fun p hp => @flat_fine c hok wt p hp)
 have HSU := Lib.hid (sumN_succ c.ch.toNat c.ci.toNat c.co.toNat c.N wt ds bt)
 have HSL := Lib.hid (sumN_length c.ch.toNat c.ci.toNat c.co.toNat c.N wt ds bt)
 have HME := Lib.hid (show meanL c.ch.toNat c.ci.toNat c.co.toNat c.N c.batch wt ds bt = upto (fun i => divF (at0 (sumN c.ch.toNat c.ci.toNat c.co.toNat c.N wt ds bt nb) i) (c.batch * 65536)) c.N by unfold meanL; rw [hbl])
 have HS0 := Lib.hid (show sumN c.ch.toNat c.ci.toNat c.co.toNat c.N wt ds bt 0 = zerosL c.N from rfl)
 have HB0 := Blk.made w 29 #[.int .i64 c.ci, .int .i64 c.ch, .int .i64 c.co, .int .u64 c.seed, .int .i64 c.batch, .int .i64 c.steps, .int .i64 c.rate, .int .i64 c.decay, .int .i64 c.how, .int .i64 c.keep, .int .i64 c.clip]
 obtain ⟨sm, hsm⟩ : ∃ sm, sm = sumN c.ch.toNat c.ci.toNat c.co.toNat c.N wt ds bt := ⟨_, rfl⟩
 rw [← hsm] at HSU HSL HME HS0
 obtain ⟨P, hP⟩ : ∃ P, P = shapeP c.ci.toNat c.ch.toNat c.co.toNat wt := ⟨_, rfl⟩
 rw [← hP] at HSH
 have HP := Lib.hid hP
 obtain ⟨N, hN⟩ : ∃ N, N = c.N := ⟨_, rfl⟩
 rw [← hN] at HSH HFL HSL HME HS0 n1 n40 hA ⊢
 have hmk := mk_zeros (N := N) (by omega)
 have hAl := hA.len
 clear hsm hP hN hf hok hd16 hdl hbl
 go_enter Tryz.func128, Tryz.ntmps128
 go_wp2_with fail
 refine HSH.out.mono ?_
 rintro e x1 ⟨A1, k1, A2, k2, B1, d1, B2, d2, rfl, O1, O2, O3, O4, hb1⟩
 have l1 := own_capT O1
 have l2 := own_capT O2
 have hbw : Below w.heap.size w x1 := Below.trans (B := w.heap.size) (by repeat (first | exact Below.refl _ _ | assumption | refine bel_drewN ?_ _ | refine Below.drew ?_ | (refine Below.alloc ?_ (by simp <;> omega) _) | (refine Below.setCell ?_ (by simp <;> omega) _))) (hb1.mono (by simp))
 have hlx : w.heap.size < x1.heap.size := by have := hb1.size; simp at this; omega
 replace HB0 := HB0.below hb1 (by simp)
 clear hb1
 have BP0 : Blk ((x1.alloc (.cells #[.int .i64 P.r1, .int .i64 P.c1, .slice A1 P.a1.length k1, .int .i64 P.r2, .int .i64 P.c2, .slice A2 P.a2.length k2, .slice B1 P.b1.length d1, .slice B2 P.b2.length d2] 102)).alloc (.cells (madeCells #[.int .i64 0] N) 3)) x1.heap.size 102 #[.int .i64 P.r1, .int .i64 P.c1, .slice A1 P.a1.length k1, .int .i64 P.r2, .int .i64 P.c2, .slice A2 P.a2.length k2, .slice B1 P.b1.length d1, .slice B2 P.b2.length d2] := (Blk.made _ _ _).alloc _
 have OZ0 : ((x1.alloc (.cells #[.int .i64 P.r1, .int .i64 P.c1, .slice A1 P.a1.length k1, .int .i64 P.r2, .int .i64 P.c2, .slice A2 P.a2.length k2, .slice B1 P.b1.length d1, .slice B2 P.b2.length d2] 102)).alloc (.cells (madeCells #[.int .i64 0] N) 3)).ownsRow (w.heap.size + 1) 3 1 (.slice (some ⟨x1.heap.size + 1, 0, none⟩) N N) N ((zerosL N).map (.int .i64)) := own_zeros (by omega) _ (by simp; omega) (by simp)
 have bz : Below x1.heap.size x1 ((x1.alloc (.cells #[.int .i64 P.r1, .int .i64 P.c1, .slice A1 P.a1.length k1, .int .i64 P.r2, .int .i64 P.c2, .slice A2 P.a2.length k2, .slice B1 P.b1.length d1, .slice B2 P.b2.length d2] 102)).alloc (.cells (madeCells #[.int .i64 0] N) 3)) := (by repeat (first | exact Below.refl _ _ | assumption | refine bel_drewN ?_ _ | refine Below.drew ?_ | (refine Below.alloc ?_ (by simp <;> omega) _) | (refine Below.setCell ?_ (by simp <;> omega) _)))
 obtain ⟨zs, hzs⟩ : ∃ zs, zs = ((x1.alloc (.cells #[.int .i64 P.r1, .int .i64 P.c1, .slice A1 P.a1.length k1, .int .i64 P.r2, .int .i64 P.c2, .slice A2 P.a2.length k2, .slice B1 P.b1.length d1, .slice B2 P.b2.length d2] 102)).alloc (.cells (madeCells #[.int .i64 0] N) 3)) := ⟨_, rfl⟩
 rw [← hzs] at BP0 OZ0 bz
 have HZS := Lib.hid hzs
 clear hzs
 have I1 := (Ints.of_own O1 rfl).below bz
 have I2 := (Ints.of_own O2 rfl).below bz
 have I3 := (Ints.of_own O3 rfl).below bz
 have I4 := (Ints.of_own O4 rfl).below bz
 replace HB0 := HB0.below bz hlx
 replace hbw := hbw.trans (bz.mono hbw.size)
 replace hd := hd.below hbw
 replace hB := hB.below hbw
 rw [← HS0.out] at OZ0
 have hc0 : w.heap.size < zs.heap.size := HB0.lt
 clear bz O1 O2 O3 O4 hA
 go_wp2
 rw [← HZS.out]
 go_loopw [11, 13, 14, 15, 16, 17, 35] (fun s _ _ _ _ _ j wr => ∃ (k : Nat) (S : Option Addr) (cs : Nat), k ≤ nb ∧ j = .int .i64 k ∧ s = .slice S N cs ∧ wr.ownsRow (w.heap.size + 1) 3 1 (.slice S N cs) N ((sm k).map (.int .i64)) ∧ Below zs.heap.size zs wr) (fun _ _ _ _ _ _ j _ => nb - (intOf j).toNat)
 case atStart => exact ⟨0, _, N, by omega, rfl, rfl, OZ0, Below.refl _ _⟩
 case round =>
  obtain ⟨k, S, cs, hk, rfl, rfl, hown, hb⟩ := hrel
  have hbs := hb.size
  by_cases hlt : k < nb
  ·obtain ⟨bb, bo, hBe, hbl', hbc⟩ := (hB.below hb).cells (by omega)
   subst hBe
   obtain ⟨bat, bltn⟩ := HBA.out k hlt
   have g0 := hbc k hlt
   rw [bat] at g0
   have HK := Lib.hid (HSU.out k)
   obtain ⟨i, hi⟩ : ∃ i, i = atN bt k := ⟨_, rfl⟩
   rw [← hi] at g0 HK bltn
   obtain ⟨db, dO, hDe, hdb, hdc⟩ := (hd.below hb).cells (by omega)
   subst hDe
   obtain ⟨X, ni, xc, T, no, tc, g1, g2, ix, it, z1, z2, z3, z4⟩ := hdc i bltn
   have HX := Lib.hid (HEX.out i bltn)
   obtain ⟨p, hp⟩ : ∃ p, p = duoAt ds i := ⟨_, rfl⟩
   rw [← hp] at HK HX ix it
   obtain ⟨G, hG⟩ : ∃ G, G = gradW c.ch.toNat c.ci.toNat c.co.toNat wt p := ⟨_, rfl⟩
   have HG := Lib.hid hG
   have BP := BP0.below hb (by have := BP0.lt; omega)
   have K1 := I1.below hb
   have K2 := I2.below hb
   have K3 := I3.below hb
   have K4 := I4.below hb
   obtain ⟨p0, p1, p2, p3, p4, p5, p6, p7⟩ := BP.pup
   have HGC := Lib.hid (fun W (h : Below wr.heap.size wr W) => HGR.out p HX.out HP.out (k1 := k1) (k2 := k2) (d1 := d1) (d2 := d2) (xc := xc) (tc := tc) (K1.below h) (K2.below h) (K3.below h) (K4.below h) l1 l2 (ix.below h) (it.below h))
   rw [← hG] at HGC
   have k0 : (0 : Int) ≤ (k : Int) := by omega
   have k1' : (k : Int) < (nb : Int) := by omega
   have i0 : (0 : Int) ≤ (i : Int) := by omega
   have i1' : (i : Int) < (n : Int) := by omega
   clear hbc hdc bat hi hp hG K1 K2 K3 K4 ix it z1 z2 z3 z4
   have hlm : x1.heap.size < wr.heap.size := BP.lt
   go_upto_region 6 with fail
   obtain ⟨wa, rfl⟩ : ∃ wa : World, wa = wr := ⟨_, rfl⟩
   go_cut [14, 15] (fun o e wx => ∃ m, o = .pointer (some ⟨m, 0, none⟩) ∧ e = .int .i64 0 ∧ PupBox wx m G ∧ Below wa.heap.size wa wx)
   case first =>
    go_region_law (first
     | (go_simp; go_at_call 172; (refine (HGC.out _ (by first | exact (Below.refl _ _).drew | exact ((Below.refl _ _).drew).alloc (Nat.le_refl _) _ | exact ((Below.refl _ _).alloc (Nat.le_refl _) _).drew)).mono ?_); rintro e u1 ⟨G1, q1, G2, q2, G3, q3, G4, q4, rfl, P1, P2, P3, P4, hbG⟩; first | (have hz4 : Blk u1 wa.heap.size 102 #[.int .i64 0, .int .i64 0, .slice none 0 0, .int .i64 0, .int .i64 0, .slice none 0 0, .slice none 0 0, .slice none 0 0] := (Blk.made (wa.drew) 102 #[.int .i64 0, .int .i64 0, .slice none 0 0, .int .i64 0, .int .i64 0, .slice none 0 0, .slice none 0 0, .slice none 0 0]).below hbG (by simp); have hcl := hz4.pup; have hfr := hz4.pupz) | skip)
     | fail)
    all_goals
     go_wp2
     go_meet
     case rel => first
      | (have hL := pup_laid P1 P2 P3 P4; have hbL := (bel_trans ((Below.refl wa.heap.size wa).drew) hbG).alloc (bel_trans ((Below.refl wa.heap.size wa).drew) hbG).size (.cells #[.int .i64 G.r1, .int .i64 G.c1, .slice G1 G.a1.length q1, .int .i64 G.r2, .int .i64 G.c2, .slice G2 G.a2.length q2, .slice G3 G.b1.length q3, .slice G4 G.b2.length q4] 102); with_reducible exact ⟨_, rfl, rfl, hL, hbL⟩)
      | (have hS := pup_stored hz4 (by simp) P1 P2 P3 P4; have hbS := but_to (Below.trans (B := wa.heap.size) (((Below.refl wa.heap.size wa).drew).alloc (Nat.le_refl _) (.cells #[.int .i64 0, .int .i64 0, .slice none 0 0, .int .i64 0, .int .i64 0, .slice none 0 0, .slice none 0 0, .slice none 0 0] 102)) (hbG.mono (by simp))) hS.2 (Nat.le_refl _) (by have := hz4.lt; omega); with_reducible exact ⟨_, rfl, rfl, hS.1, hbS⟩)
      | trace_state
   case rest =>
    obtain ⟨m, rfl, rfl, ⟨C1, r1, C2, r2, C3, r3, C4, r4, BG, J1, J2, J3, J4⟩, hbc⟩ := hcut
    obtain ⟨y, rfl⟩ : ∃ y : World, y = wc := ⟨_, rfl⟩
    obtain ⟨s0, s1, s2, s3, s4, s5, s6, s7⟩ := BG.pup
    have HF := Lib.hid (HFL.out p HX.out HG.out (k1 := r1) (k2 := r2) (d1 := r3) (d2 := r4) J1 J2 J3 J4)
    have OS := own_below hown hbc
    clear BG J1 J2 J3 J4 hown p0 p1 p2 p3 p4 p5 p6 p7 g0 g1 g2 BP
    go_wp2_with fail
    refine HF.out.mono ?_
    rintro e u2 ⟨Lx, lc, rfl, IL, hb2⟩
    have OS2 := own_below OS hb2
    go_wp2_with fail
    refine (sum_fine N (by omega) (xs := sm k) (Ints.of_own OS2 (HSL.out k)) IL).mono ?_
    rintro e u3 ⟨S', c', rfl, OS3, hb3⟩
    rw [← HK.out] at OS3
    go_wp2
    go_roundw
    case rel => exact ⟨k + 1, S', c', by omega, by go_num, rfl, own_base OS3 (by have := hb2.size; have := hbc.size; omega), bel_trans (bel_trans (bel_trans hb hbc) hb2) hb3⟩
    case measure => simp [intOf]; omega
  ·obtain rfl : k = nb := by omega
   obtain ⟨g, hS, hge, hgl⟩ : ∃ g, S = some ⟨g, 0, none⟩ ∧ w.heap.size + 1 ≤ g ∧ g < wr.heap.size := by
    obtain ⟨g, cp, hv, h1, h2⟩ := hown.form (by omega)
    injection hv with a _ _
    exact ⟨g, a, h1, h2⟩
   subst hS
   have HY := Lib.hid hown
   obtain ⟨b1, b2⟩ := hba
   have hb0 := hb
   obtain ⟨Y, hY⟩ : ∃ Y, Y = sm k := ⟨_, rfl⟩
   have YL := Lib.hid (show Y.length = N by rw [hY]; exact HSL.out k)
   have hin : wr.ownsRow (w.heap.size + 1) 3 1 (.slice (some ⟨g, 0, none⟩) N cs) N ((fillL (fun i => divF (at0 Y i) (c.batch * 65536)) (at0 Y) N 0).map (.int .i64)) := by
    rw [fillL_zero, ← YL.out, upto_at0, YL.out, hY]
    exact hown
   rw [← hY] at HME
   have hbx := hbw.trans (hb.mono hbw.size)
   have hc1 : Blk wr w.heap.size 29 #[.int .i64 c.ci, .int .i64 c.ch, .int .i64 c.co, .int .u64 c.seed, .int .i64 c.batch, .int .i64 c.steps, .int .i64 c.rate, .int .i64 c.decay, .int .i64 c.how, .int .i64 c.keep, .int .i64 c.clip] := HB0.below hb hc0
   clear hown hY hb BP0 I1 I2 I3 I4 hd hB l1 l2
   obtain ⟨wa, hwa⟩ : ∃ wa : World, wa = wr := ⟨_, rfl⟩
   go_wp2
   rw [← hwa]
   rw [← hwa] at hin hbx hc1 hgl
   clear hwa
   go_loopw [18, 62] (fun _ j ws => ∃ k : Nat, k ≤ N ∧ j = .int .i64 k ∧ ws.ownsRow (w.heap.size + 1) 3 1 (.slice (some ⟨g, 0, none⟩) N cs) N ((fillL (fun i => divF (at0 Y i) (c.batch * 65536)) (at0 Y) N k).map (.int .i64)) ∧ Below (w.heap.size + 1) wa ws) (fun _ j _ => N - (intOf j).toNat)
   case atStart => exact ⟨0, by omega, rfl, hin, Below.refl _ _⟩
   case round =>
    clear hin
    obtain ⟨k, hk, rfl, hown, hb⟩ := hrel
    obtain ⟨ws, rfl⟩ : ∃ ws : World, ws = wr := ⟨_, rfl⟩
    by_cases hl2 : k < N
    ·have q1 := hown.cellAt k (by omega)
     rw [fillL_at _ _ hl2] at q1
     have q2 := hown.frozenAt k
     have q4 : ws.cell? ⟨w.heap.size, 4, none⟩ = some (.int .i64 c.batch) := (hc1.below hb (by omega)).cell 4
     have F := Lib.hid (fillL_set (fun i => divF (at0 Y i) (c.batch * 65536)) (at0 Y) N k)
     have HD := Lib.hid (fun W => fix_Div_ok (at0 Y k) (c.batch * 65536) (clamp_pos (by omega)) W)
     have HWB := Lib.hid (show IntKind.i64.wrap (c.batch * 65536) = c.batch * 65536 from wrap_small _ (by omega) (by omega))
     obtain ⟨v, hv⟩ : ∃ v, v = divF (at0 Y k) (c.batch * 65536) := ⟨_, rfl⟩
     have HV := Lib.hid hv
     rw [← hv] at HD
     obtain ⟨u, hu⟩ : ∃ u, u = at0 Y k := ⟨_, rfl⟩
     rw [← hu] at HD q1
     have k0 : (0 : Int) ≤ (k : Int) := by omega
     have k1 : (k : Int) < (N : Int) := by omega
     have hgl2 := (hown.lt g rfl).2
     clear hv hu
     go_wp2
     go_region_law (first
      | (go_simp; go_at_call 170; try rw [HWB.out]; (refine (HD.out _).mono ?_); rintro e w' ⟨rfl, km, rfl⟩)
      | fail)
     all_goals
      go_wp2
      have hown3 := (hown.stored k (.int .i64 v)).1
      rw [← List.map_set, HV.out, F.out] at hown3
      have hb3 := hb.setCell (p := ⟨g, k, none⟩) hge (.int .i64 v)
      go_roundw
      case rel => exact ⟨k + 1, by omega, by go_num, by rw [HV.out]; exact own_drewN hown3 _, bel_drewN hb3 _⟩
      case measure => simp [intOf]; omega
    ·obtain rfl : N = k := by omega
     rw [fillL_all] at hown
     go_wp2
     go_ret
     exact own_one (by rw [HME.out, upto_length]) (by rw [HME.out]; exact own_base hown (by omega)) (hbx.trans (hb.mono (by omega)))
theorem batch_fine (c : Cfg) (h : c.Ok) (ds : Data) (n : Nat) (hn : ds.length = n) (n1 : 1 ≤ n) (n16 : n ≤ 16) (s0 : 0 ≤ c.seed) (s1 : c.seed < 18446744073709551616) (step : Nat) (hst : (step : Int) < c.steps) (w : World) :
  Calls Tryz.prog 126 #[.int .u64 c.seed, .int .i64 c.batch, .int .i64 n, .int .i64 step] w (fun e w' => ∃ A k, e = .returned (.tuple #[.slice A c.batch.toNat k, .int .i64 0]) ∧
   w'.ownsRow w.heap.size 3 1 (.slice A c.batch.toNat k) c.batch.toNat (((batI c ds step).map fun (n : Nat) => (n : Int)).map (.int .i64)) ∧ Below w.heap.size w w') := by
 have hb := h.ba
 have hs := h.st
 have e : c.batch = (c.batch.toNat : Int) := by omega
 have H := draw_Batch_ok c.seed c.batch.toNat n step w s0 s1 (by omega) (by omega) n1 n16 (by omega)
 rw [← e] at H
 refine H.mono ?_
 rintro e w' ⟨A, k, rfl, hO, hb⟩
 refine ⟨A, k, rfl, ?_, hb⟩
 have e2 : batI c ds step = batchP c.seed.toNat c.batch.toNat n step := by unfold batI nextB; rw [hn]
 rw [e2, List.map_map]
 exact hO
theorem mean_fine (c : Cfg) (ds : Data) (hf : Fine c ds) (D : Option Addr) (n dc : Nat) (s : List Int × List Int) (hs : fits c s = true) (A : Option Addr) (ka : Nat) (hka : c.N ≤ ka) (B : Option Addr) (bc step : Nat) (w : World) (hd : Duos w D n ds) (hA : Ints .i64 w A c.N s.1)
  (hB : Ints .i64 w B c.batch.toNat ((batI c ds step).map fun (n : Nat) => (n : Int))) :
  Calls Tryz.prog 128 #[.agg #[.int .i64 c.ci, .int .i64 c.ch, .int .i64 c.co, .int .u64 c.seed, .int .i64 c.batch, .int .i64 c.steps, .int .i64 c.rate, .int .i64 c.decay, .int .i64 c.how, .int .i64 c.keep, .int .i64 c.clip], .slice D n dc, .slice A c.N ka, .slice B c.batch.toNat bc] w (fun e w' => ∃ S k, e = .returned (.slice S c.N k) ∧ Ints .i64 w' S c.N (meanL c.ch.toNat c.ci.toNat c.co.toNat c.N (c.batch.toNat : Int) s.1 ds (batI c ds step)) ∧ Below w.heap.size w w') := by
 obtain ⟨f1, f2, f3, f4⟩ := fits_iff.1 hs
 have hb := hf.ok.ba
 have e : (c.batch.toNat : Int) = c.batch := by omega
 have H := trn_mean c ds hf D n dc w hd A ka s.1 hA hka f3 B c.batch.toNat bc (batI c ds step) hB (batI_lt c ds hf.d1 step) (by omega)
 rw [e]
 refine H.mono ?_
 rintro e w' ⟨S, k, rfl, hO, hb⟩
 have hI := Ints.of_own hO rfl
 rw [meanL_length] at hI ⊢
 exact ⟨S, k, rfl, hI, hb⟩
theorem clip_fine (c : Cfg) (h : c.Ok) (g : List Int) (A : Option Addr) (k : Nat) (w : World) (hA : Ints .i64 w A c.N g) :
  Calls Tryz.prog 127 #[.slice A c.N k, .int .i64 c.clip] w (fun e w' => ∃ S s, e = .returned (.tuple #[.slice S c.N s, .int .i64 0]) ∧ Ints .i64 w' S c.N (clipL g c.clip) ∧ Below w.heap.size w w') := by
 have h40 := h.n40
 have hcl := h.cl
 refine (opt_Clip_ok A c.N k g c.clip w hA (by omega) hcl.1 hcl.2).mono ?_
 rintro e w' hh
 obtain ⟨S, s, rfl, hI, hb⟩ := ListRes.of_own hh
 rw [clipL_length, hA.len] at hI ⊢
 exact ⟨S, s, rfl, hI, hb⟩
theorem rate_fine (c : Cfg) (hE : c.E = 0) (step : Nat) (hst : (step : Int) < c.steps) (w : World) :
  Calls Tryz.prog 129 #[.agg #[.int .i64 c.ci, .int .i64 c.ch, .int .i64 c.co, .int .u64 c.seed, .int .i64 c.batch, .int .i64 c.steps, .int .i64 c.rate, .int .i64 c.decay, .int .i64 c.how, .int .i64 c.keep, .int .i64 c.clip], .int .i64 step] w fun e w' => e = .returned (.tuple #[.int .i64 (ratI c step), .int .i64 0]) ∧ Below w.heap.size w w' := by
 have hs := (Cfg.ok hE).st
 have H := opt_Rate c.ci c.ch c.co c.seed c.batch c.steps c.rate c.decay c.how c.keep c.clip step w (by omega)
 rw [show cfgE c.ci c.ch c.co c.batch c.steps c.rate c.decay c.how c.keep c.clip = 0 from hE] at H
 have e := rateE_2 (x := 0) (st := c.steps) (step := step) rfl (inB_iff.2 (by omega))
 rw [e, show rateO 0 c.steps c.rate c.decay step = ratI c step from if_pos e] at H
 exact H
theorem ratI_bd (c : Cfg) (h : c.Ok) (step : Nat) (hst : (step : Int) < c.steps) : 0 ≤ ratI c step ∧ ratI c step ≤ 2147483647 := by
 have hr := rateP_le (decay := c.decay) h.ra.1 h.ra.2 h.st.1 h.st.2 (step := step) (by omega) (by omega)
 have h2 := h.ra.2
 unfold ratI
 omega
theorem step_fine (c : Cfg) (hE : c.E = 0) (s : List Int × List Int) (hs : fits c s = true) (g : List Int) (step : Nat) (hst : (step : Int) < c.steps) (A1 A2 A3 : Option Addr) (c1 c2 c3 : Nat) (w : World) (i1 : Ints .i64 w A1 c.N s.1) (i2 : Ints .i64 w A2 c.N s.2) (i3 : Ints .i64 w A3 c.N g) :
  Calls Tryz.prog 130 #[.agg #[.int .i64 c.ci, .int .i64 c.ch, .int .i64 c.co, .int .u64 c.seed, .int .i64 c.batch, .int .i64 c.steps, .int .i64 c.rate, .int .i64 c.decay, .int .i64 c.how, .int .i64 c.keep, .int .i64 c.clip], .agg #[.slice A1 c.N c1, .slice A2 c.N c2], .slice A3 c.N c3, .int .i64 (ratI c step)] w (fun e w' => ∃ B1 k1 B2 k2, e = .returned (.tuple #[.agg #[.slice B1 c.N k1, .slice B2 c.N k2], .int .i64 0]) ∧
   w'.ownsRow w.heap.size 3 1 (.slice B1 c.N k1) c.N ((weightsL c.how c.keep (ratI c step) s.1 s.2 g).map (.int .i64)) ∧ w'.ownsRow w.heap.size 3 1 (.slice B2 c.N k2) c.N ((movesL c.how c.keep s.2 g).map (.int .i64)) ∧ Below w.heap.size w w') := by
 obtain ⟨f1, f2, f3, f4⟩ := fits_iff.1 hs
 have h := Cfg.ok hE
 have h40 := h.n40
 have hr := ratI_bd c h step hst
 have h1 := h.n1
 have H := opt_Step_ok c.ci c.ch c.co c.seed c.batch c.steps c.rate c.decay c.how c.keep c.clip A1 A2 A3 c.N c1 c2 c3 s.1 s.2 g (ratI c step) w i1 i2 i3 hE h.n f3 f4 hr h1 h40
 refine H.mono ?_
 rintro e w' ⟨B1, k1, B2, k2, rfl, o1, o2, hb⟩
 rw [weightsL_length, i3.len] at o1 ⊢
 rw [movesL_length (by rw [f2, i3.len]), i3.len] at o2 ⊢
 exact ⟨B1, k1, B2, k2, rfl, o1, o2, hb⟩
def NextOwn (w : World) (c : Cfg) (ds : Data) (s : List Int × List Int) (step : Nat) (f : Value → Value → Value → Value) (e : Ending) (w' : World) : Prop :=
 ∃ B1 k1 B2 k2 E ec, e = .returned (f (.agg #[.slice B1 c.N k1, .slice B2 c.N k2]) (.slice E c.batch.toNat ec) (.int .i64 (ratI c step))) ∧ w'.ownsRow w.heap.size 3 1 (.slice B1 c.N k1) c.N ((nextS c ds s step).1.map (.int .i64)) ∧
  w'.ownsRow w.heap.size 3 1 (.slice B2 c.N k2) c.N ((nextS c ds s step).2.map (.int .i64)) ∧
  w'.ownsRow w.heap.size 3 1 (.slice E c.batch.toNat ec) c.batch.toNat (((batI c ds step).map fun (n : Nat) => (n : Int)).map (.int .i64)) ∧ Below w.heap.size w w'
theorem own_fin {u : World} {b b' m : Nat} {e : TypeId} {sz n : Nat} {v : Value} {xs : List Value} (h : u.ownsRow b e sz v n xs) (hm : m < b) (hb : b' ≤ b) (x y : Value) (o : Obj) : (((u.setCell ⟨m, 0, none⟩ x).setCell ⟨m, 1, none⟩ y).alloc o).ownsRow b' e sz v n xs :=
 own_base ((own_far (own_far h (p := ⟨m, 0, none⟩) hm x) (p := ⟨m, 1, none⟩) hm y).alloc o) hb
theorem bel_fin {w u : World} {m : Nat} (h : Below w.heap.size w u) (hm : w.heap.size ≤ m) (x y : Value) (o : Obj) : Below w.heap.size w (((u.setCell ⟨m, 0, none⟩ x).setCell ⟨m, 1, none⟩ y).alloc o) :=
 ((h.setCell (p := ⟨m, 0, none⟩) hm x).setCell (p := ⟨m, 1, none⟩) hm y).alloc (by simpa using h.size) o
theorem res_fin {u : World} {m : Nat} {t : TypeId} {a b : Value} (hr : Blk u m t #[a, b]) (x y : Value) (o : Obj) : (((u.setCell ⟨m, 0, none⟩ x).setCell ⟨m, 1, none⟩ y).alloc o).cell? ⟨m, 0, none⟩ = some x ∧ (((u.setCell ⟨m, 0, none⟩ x).setCell ⟨m, 1, none⟩ y).alloc o).cell? ⟨m, 1, none⟩ = some y := by
 have h := ((hr.put 0 x).put 1 y).alloc o
 exact ⟨h.cell 0, h.cell 1⟩
theorem trn_next (c : Cfg) (ds : Data) (hf : Fine c ds) (s0 : 0 ≤ c.seed) (s1 : c.seed < 18446744073709551616) (D : Option Addr) (n dc : Nat) (w : World) (hd : Duos w D n ds) (s : List Int × List Int) (hs : fits c s = true) (A1 A2 : Option Addr) (k1 k2 : Nat)
  (i1 : Ints .i64 w A1 c.N s.1) (i2 : Ints .i64 w A2 c.N s.2) (hk1 : c.N ≤ k1) (step : Nat) (hst : (step : Int) < c.steps) :
  Calls Tryz.prog 84 #[.agg #[.int .i64 c.ci, .int .i64 c.ch, .int .i64 c.co, .int .u64 c.seed, .int .i64 c.batch, .int .i64 c.steps, .int .i64 c.rate, .int .i64 c.decay, .int .i64 c.how, .int .i64 c.keep, .int .i64 c.clip], .slice D n dc, .agg #[.slice A1 c.N k1, .slice A2 c.N k2], .int .i64 step] w (NextOwn w c ds s step fun a b r => .tuple #[a, b, r]) := by
 have hdl := hd.len
 have HB0 := ((Blk.made w 29 #[.int .i64 c.ci, .int .i64 c.ch, .int .i64 c.co, .int .u64 c.seed, .int .i64 c.batch, .int .i64 c.steps, .int .i64 c.rate, .int .i64 c.decay, .int .i64 c.how, .int .i64 c.keep, .int .i64 c.clip]).alloc (.cells #[.slice A1 c.N k1, .slice A2 c.N k2] 106)).alloc (.cells #[.slice none 0 0, .slice none 0 0] 106)
 have HB1 := (Blk.made' (w.alloc (.cells #[.int .i64 c.ci, .int .i64 c.ch, .int .i64 c.co, .int .u64 c.seed, .int .i64 c.batch, .int .i64 c.steps, .int .i64 c.rate, .int .i64 c.decay, .int .i64 c.how, .int .i64 c.keep, .int .i64 c.clip] 29)) 106 #[.slice A1 c.N k1, .slice A2 c.N k2] (g := w.heap.size + 1) (by simp)).alloc (.cells #[.slice none 0 0, .slice none 0 0] 106)
 have HB2 := Blk.made' ((w.alloc (.cells #[.int .i64 c.ci, .int .i64 c.ch, .int .i64 c.co, .int .u64 c.seed, .int .i64 c.batch, .int .i64 c.steps, .int .i64 c.rate, .int .i64 c.decay, .int .i64 c.how, .int .i64 c.keep, .int .i64 c.clip] 29)).alloc (.cells #[.slice A1 c.N k1, .slice A2 c.N k2] 106)) 106 #[.slice none 0 0, .slice none 0 0] (g := w.heap.size + 1 + 1) (by simp)
 have HBT := Lib.hid (fun W => batch_fine c hf.ok ds n hdl (by rw [← hdl]; exact hf.d1) (by rw [← hdl]; exact hf.d16) s0 s1 step hst W)
 have HMN := Lib.hid (fun B bc W => mean_fine c ds hf D n dc s hs A1 k1 hk1 B bc step W)
 have HCL := Lib.hid (fun g A k W => clip_fine c hf.ok g A k W)
 have HRT := Lib.hid (fun W => rate_fine c hf.e step hst W)
 have HST := Lib.hid (fun A3 c3 W => step_fine c hf.e s hs (gradC c ds s.1 step) step hst A1 A2 A3 k1 k2 c3 W)
 have HGC := Lib.hid (show gradC c ds s.1 step = clipL (meanL c.ch.toNat c.ci.toNat c.co.toNat c.N (c.batch.toNat : Int) s.1 ds (batI c ds step)) c.clip from rfl)
 have HI := Lib.hid (fun W (h : Below w.heap.size w W) => (⟨hd.below h, i1.below h, i2.below h⟩ : Duos W D n ds ∧ Ints .i64 W A1 c.N s.1 ∧ Ints .i64 W A2 c.N s.2))
 have HBL := Lib.hid (show ((batI c ds step).map fun (n : Nat) => (n : Int)).length = c.batch.toNat by rw [List.length_map, batI_length])
 clear hd i1 i2 hdl hs
 go_enter Tryz.func84, Tryz.ntmps84
 go_wp2_with fail
 refine (HBT.out _).mono ?_
 rintro e x1 ⟨E, ec, rfl, OE, hb1⟩
 replace HB0 := HB0.below hb1 (by simp <;> omega)
 replace HB1 := HB1.below hb1 (by simp <;> omega)
 replace HB2 := HB2.below hb1 (by simp <;> omega)
 have hbw : Below w.heap.size w x1 := Below.trans (B := w.heap.size) (by repeat (first | exact Below.refl _ _ | assumption | refine bel_drewN ?_ _ | refine Below.drew ?_ | (refine Below.alloc ?_ (by simp <;> omega) _) | (refine Below.setCell ?_ (by simp <;> omega) _))) (hb1.mono (by simp <;> omega))
 have hl2 := HB2.lt
 have OE' := own_base OE (base' := w.heap.size + 1 + 1 + 1) (by simp)
 have IE := Ints.of_own OE HBL.out
 have HSS := Lib.hid (fun W (h : Below x1.heap.size x1 W) => (⟨(HB1.below h (by omega)).cell 0, (HB0.below h (by omega)).cfg⟩ : W.cell? ⟨w.heap.size + 1, 0, none⟩ = some (.slice A1 c.N k1) ∧ W.cell? ⟨w.heap.size, 0, none⟩ = some (.int .i64 c.ci) ∧ W.cell? ⟨w.heap.size, 1, none⟩ = some (.int .i64 c.ch) ∧ W.cell? ⟨w.heap.size, 2, none⟩ = some (.int .i64 c.co) ∧ W.cell? ⟨w.heap.size, 3, none⟩ = some (.int .u64 c.seed) ∧ W.cell? ⟨w.heap.size, 4, none⟩ = some (.int .i64 c.batch) ∧ W.cell? ⟨w.heap.size, 5, none⟩ = some (.int .i64 c.steps) ∧ W.cell? ⟨w.heap.size, 6, none⟩ = some (.int .i64 c.rate) ∧ W.cell? ⟨w.heap.size, 7, none⟩ = some (.int .i64 c.decay) ∧ W.cell? ⟨w.heap.size, 8, none⟩ = some (.int .i64 c.how) ∧ W.cell? ⟨w.heap.size, 9, none⟩ = some (.int .i64 c.keep) ∧ W.cell? ⟨w.heap.size, 10, none⟩ = some (.int .i64 c.clip)))
 clear hb1 OE
 obtain ⟨e0, d0, d1, d2, d3, d4, d5, d6, d7, d8, d9, da⟩ := HSS.out x1 (Below.refl _ _)
 go_wp2_with fail
 go_region_held3 (fun W => W.cell? ⟨w.heap.size + 1, 0, none⟩ = some (.slice A1 c.N k1) ∧ W.cell? ⟨w.heap.size, 0, none⟩ = some (.int .i64 c.ci) ∧ W.cell? ⟨w.heap.size, 1, none⟩ = some (.int .i64 c.ch) ∧ W.cell? ⟨w.heap.size, 2, none⟩ = some (.int .i64 c.co) ∧ W.cell? ⟨w.heap.size, 3, none⟩ = some (.int .u64 c.seed) ∧ W.cell? ⟨w.heap.size, 4, none⟩ = some (.int .i64 c.batch) ∧ W.cell? ⟨w.heap.size, 5, none⟩ = some (.int .i64 c.steps) ∧ W.cell? ⟨w.heap.size, 6, none⟩ = some (.int .i64 c.rate) ∧ W.cell? ⟨w.heap.size, 7, none⟩ = some (.int .i64 c.decay) ∧ W.cell? ⟨w.heap.size, 8, none⟩ = some (.int .i64 c.how) ∧ W.cell? ⟨w.heap.size, 9, none⟩ = some (.int .i64 c.keep) ∧ W.cell? ⟨w.heap.size, 10, none⟩ = some (.int .i64 c.clip)) (first | (with_reducible exact HSS.out _ ((Below.refl _ _).drew)) | (with_reducible exact HSS.out _ hB1) | (with_reducible exact HSS.out _ hB2) | go_keep) (first
  | (go_at_call 128; (with_reducible refine (HMN.out E ec _ (HI.out _ hbw.drew).1 (HI.out _ hbw.drew).2.1 IE.drew).mono ?_); rintro e u1 ⟨M, mc, rfl, IM, hbM⟩; have hB1 : Below x1.heap.size x1 u1 := bel_trans ((Below.refl _ _).drew) hbM)
  | (go_at_call 127; (with_reducible refine (HCL.out _ _ _ _ IM).mono ?_); rintro e u2 ⟨S, sc, rfl, IS, hbC⟩; have hB2 : Below x1.heap.size x1 u2 := bel_trans hB1 hbC)
  | fail)
 all_goals
  rw [← HGC.out] at IS
  have OE2 := own_below OE' hB2
  have hbw2 := hbw.trans (hB2.mono hbw.size)
  have hs2 := hB2.size
  clear hbM hbC IM IE d0 d1 d2 d3 d4 d5 d6 d7 d8 d9 da e0 hB1
  obtain ⟨e0, d0, d1, d2, d3, d4, d5, d6, d7, d8, d9, da⟩ := HSS.out u2 hB2
  go_wp2_with fail
  refine (HRT.out _).mono ?_
  rintro e u3 ⟨rfl, hb3⟩
  have hB3 := bel_trans hB2 hb3
  have hbw3 := hbw.trans (hB3.mono hbw.size)
  have OE3 := own_below OE2 hb3
  clear e0 d0 d1 d2 d3 d4 d5 d6 d7 d8 d9 da hB2 hbw2
  obtain ⟨e0, d0, d1, d2, d3, d4, d5, d6, d7, d8, d9, da⟩ := HSS.out u3 hB3
  have e1 : u3.cell? ⟨w.heap.size + 1, 1, none⟩ = some (.slice A2 c.N k2) := (HB1.below hB3 (by omega)).cell 1
  go_wp2_with fail
  refine (HST.out S sc _ (HI.out _ hbw3).2.1 (HI.out _ hbw3).2.2 (IS.below hb3)).mono ?_
  rintro e u4 ⟨B1, q1, B2, q2, rfl, O1, O2, hb4⟩
  have hB4 := bel_trans hB3 hb4
  have hbw4 := hbw.trans (hB4.mono hbw.size)
  have OE4 := own_below OE3 hb4
  have hr := HB2.below hB4 hl2
  have r0 : u4.cell? ⟨w.heap.size + 1 + 1, 0, none⟩ = some (.slice none 0 0) := hr.cell 0
  have r1 : u4.cell? ⟨w.heap.size + 1 + 1, 1, none⟩ = some (.slice none 0 0) := hr.cell 1
  have r2 := hr.frozen 0
  have r3 := hr.frozen 1
  have hlr := hr.lt
  have hs3 := hB3.size
  clear e0 e1 d0 d1 d2 d3 d4 d5 d6 d7 d8 d9 da hB3 hbw3 HI HRT HST HCL HMN HBT
  go_wp2
  obtain ⟨z0, z1⟩ := res_fin hr (.slice B1 c.N q1) (.slice B2 c.N q2) (.cells #[.slice B1 c.N q1, .slice B2 c.N q2] 106)
  refine bodyPost_ret (v := .tuple #[.agg #[.slice B1 c.N q1, .slice B2 c.N q2], .slice E c.batch.toNat ec, .int .i64 (ratI c step)]) (by simp [results, Tryz.results84, go_sem, z0, z1]) rfl ?_
  exact ⟨B1, q1, B2, q2, E, ec, rfl, own_fin O1 (by omega) (by omega) _ _ _, own_fin O2 (by omega) (by omega) _ _ _, own_fin OE4 (by omega) (by omega) _ _ _, bel_fin hbw4 (by omega) _ _ _⟩
theorem size_fine (c : Cfg) (h : c.Ok) (W : World) : Calls Tryz.prog 85 #[.int .i64 c.ci, .int .i64 c.ch, .int .i64 c.co] W fun e w' => e = .returned (.int .i64 (c.N : Int)) ∧ W = w' := by
 rw [h.n]; exact pup_Size c.ci c.ch c.co W h.ci h.ch h.co
theorem trn_Next_ok (c : Cfg) (ds : Data) (hC : crs c ds = 0) (s0 : 0 ≤ c.seed) (s1 : c.seed < 18446744073709551616) (D : Option Addr) (n dc : Nat) (w : World) (hd : Duos w D n ds) (s : List Int × List Int) (hs : fits c s = true) (A1 A2 : Option Addr) (k1 k2 : Nat)
  (i1 : Ints .i64 w A1 c.N s.1) (i2 : Ints .i64 w A2 c.N s.2) (hk1 : c.N ≤ k1) (step : Nat) (hst : (step : Int) < c.steps) :
  Calls Tryz.prog 75 #[.agg #[.int .i64 c.ci, .int .i64 c.ch, .int .i64 c.co, .int .u64 c.seed, .int .i64 c.batch, .int .i64 c.steps, .int .i64 c.rate, .int .i64 c.decay, .int .i64 c.how, .int .i64 c.keep, .int .i64 c.clip], .slice D n dc, .agg #[.slice A1 c.N k1, .slice A2 c.N k2], .int .i64 step] w (NextOwn w c ds s step fun a b r => .tuple #[a, b, r, .int .i64 0]) := by
 have HB0 := ((Blk.made w 29 #[.int .i64 c.ci, .int .i64 c.ch, .int .i64 c.co, .int .u64 c.seed, .int .i64 c.batch, .int .i64 c.steps, .int .i64 c.rate, .int .i64 c.decay, .int .i64 c.how, .int .i64 c.keep, .int .i64 c.clip]).alloc (.cells #[.slice A1 c.N k1, .slice A2 c.N k2] 106)).alloc (.cells #[.slice none 0 0, .slice none 0 0] 106)
 have HB1 := (Blk.made' (w.alloc (.cells #[.int .i64 c.ci, .int .i64 c.ch, .int .i64 c.co, .int .u64 c.seed, .int .i64 c.batch, .int .i64 c.steps, .int .i64 c.rate, .int .i64 c.decay, .int .i64 c.how, .int .i64 c.keep, .int .i64 c.clip] 29)) 106 #[.slice A1 c.N k1, .slice A2 c.N k2] (g := w.heap.size + 1) (by simp)).alloc (.cells #[.slice none 0 0, .slice none 0 0] 106)
 have HB2 := Blk.made' ((w.alloc (.cells #[.int .i64 c.ci, .int .i64 c.ch, .int .i64 c.co, .int .u64 c.seed, .int .i64 c.batch, .int .i64 c.steps, .int .i64 c.rate, .int .i64 c.decay, .int .i64 c.how, .int .i64 c.keep, .int .i64 c.clip] 29)).alloc (.cells #[.slice A1 c.N k1, .slice A2 c.N k2] 106)) 106 #[.slice none 0 0, .slice none 0 0] (g := w.heap.size + 1 + 1) (by simp)
 have hf := fine hC
 have n40 := hf.ok.n40
 have hn : n ≤ 9223372036854775806 := by have := hf.d16; have := hd.len; omega
 obtain ⟨_, _, o1, o2⟩ := fits_iff.1 hs
 have HCK := Lib.hid (fun W (h : Below w.heap.size w W) => trn_Check c D n dc ds W (hd.below h) hn)
 have HNX := Lib.hid (fun W (h : Below w.heap.size w W) => trn_next c ds hf s0 s1 D n dc W (hd.below h) s hs A1 A2 k1 k2 (i1.below h) (i2.below h) hk1 step hst)
 have H1 := Lib.hid (fun W (q : Ints .i64 W A1 c.N s.1) => trn_clamped_told (c := k1) (b := true) o1 q (by omega))
 have H2 := Lib.hid (fun W (q : Ints .i64 W A2 c.N s.2) => trn_clamped_told (c := k2) (b := true) o2 q (by omega))
 have b0 : Below w.heap.size w (((w.alloc (.cells #[.int .i64 c.ci, .int .i64 c.ch, .int .i64 c.co, .int .u64 c.seed, .int .i64 c.batch, .int .i64 c.steps, .int .i64 c.rate, .int .i64 c.decay, .int .i64 c.how, .int .i64 c.keep, .int .i64 c.clip] 29)).alloc (.cells #[.slice A1 c.N k1, .slice A2 c.N k2] 106)).alloc (.cells #[.slice none 0 0, .slice none 0 0] 106)) := (by repeat (first | exact Below.refl _ _ | assumption | refine bel_drewN ?_ _ | refine Below.drew ?_ | (refine Below.alloc ?_ (by simp <;> omega) _) | (refine Below.setCell ?_ (by simp <;> omega) _)))
 have HS := Lib.hid (size_fine c hf.ok)
 have C0 := Lib.hid hC
 have hst0 : ¬ (step : Int) < 0 := by omega
 have hst1 : ¬ c.steps ≤ (step : Int) := by omega
 clear hC hf o1 o2 hs n40
 go_enter Tryz.func75, Tryz.ntmps75
 go_wp2_with fail
 refine (HCK.out _ b0).mono ?_
 rintro e x1 ⟨rfl, hb1⟩
 rw [C0.out]
 replace HB0 := HB0.below hb1 (by simp <;> omega)
 replace HB1 := HB1.below hb1 (by simp <;> omega)
 replace HB2 := HB2.below hb1 (by simp <;> omega)
 have hbw : Below w.heap.size w x1 := b0.trans (hb1.mono b0.size)
 have j1 := i1.below hbw
 have j2 := i2.below hbw
 clear hb1 b0 i1 i2
 obtain ⟨d0, d1, d2, d3, d4, d5, d6, d7, d8, d9, da⟩ := HB0.cfg
 obtain ⟨⟨f0, f1⟩, _⟩ := HB1.two
 go_wp2_with (go_at_call 85; refine (HS.out _).mono ?_; rintro e w' ⟨rfl, rfl⟩)
 refine (H1.out _ j1).mono ?_
 rintro e w' ⟨rfl, q1, rfl⟩
 go_wp2_with fail
 refine (H2.out _ (j2.drewN _)).mono ?_
 rintro e w' ⟨rfl, q2, rfl⟩
 have hbq := bel_drewN hbw (q1 + q2)
 have HR := HB2.drewN (q1 + q2)
 go_wp2_with fail
 refine (HNX.out _ (by first | exact hbq | exact bel_drewN (bel_drewN hbw _) _)).mono ?_
 rintro e u4 ⟨B1, p1, B2, p2, E, ec, rfl, O1, O2, O3, hb4⟩
 have hbw4 : Below w.heap.size w u4 := hbq.trans (hb4.mono hbq.size)
 have hr := HR.below hb4 HR.lt
 have r0 : u4.cell? ⟨w.heap.size + 1 + 1, 0, none⟩ = some (.slice none 0 0) := hr.cell 0
 have r1 : u4.cell? ⟨w.heap.size + 1 + 1, 1, none⟩ = some (.slice none 0 0) := hr.cell 1
 have r2 := hr.frozen 0
 have r3 := hr.frozen 1
 have hlr := hr.lt
 have hl3 := HB2.lt
 have hsz : (x1.drewN (q1 + q2)).heap.size = x1.heap.size := rfl
 rw [hsz] at O1 O2 O3
 clear d0 d1 d2 d3 d4 d5 d6 d7 d8 d9 da f0 f1 hb4 HR HCK HNX hsz
 go_wp2
 obtain ⟨z0, z1⟩ := res_fin hr (.slice B1 c.N p1) (.slice B2 c.N p2) (.cells #[.slice B1 c.N p1, .slice B2 c.N p2] 106)
 refine bodyPost_ret (v := .tuple #[.agg #[.slice B1 c.N p1, .slice B2 c.N p2], .slice E c.batch.toNat ec, .int .i64 (ratI c step), .int .i64 0]) (by simp [results, Tryz.results75, go_sem, z0, z1]) rfl ?_
 exact ⟨B1, p1, B2, p2, E, ec, rfl, own_fin O1 (by omega) (by omega) _ _ _, own_fin O2 (by omega) (by omega) _ _ _, own_fin O3 (by omega) (by omega) _ _ _, bel_fin hbw4 (by omega) _ _ _⟩
theorem state_info : (Tryz.prog.info? 106).map (fun i => (i.zero, i.size, i.bytes)) = some (some (.agg #[.slice none 0 0, .slice none 0 0]), 2, 48) := by kernel_rfl
theorem start_fine (c : Cfg) (hE : c.E = 0) (s0 : 0 ≤ c.seed) (s1 : c.seed < 18446744073709551616) (w : World) :
  Calls Tryz.prog 74 #[.agg #[.int .i64 c.ci, .int .i64 c.ch, .int .i64 c.co, .int .u64 c.seed, .int .i64 c.batch, .int .i64 c.steps, .int .i64 c.rate, .int .i64 c.decay, .int .i64 c.how, .int .i64 c.keep, .int .i64 c.clip]] w (fun e w' => ∃ A1 k1 A2 k2, e = .returned (.tuple #[.agg #[.slice A1 c.N k1, .slice A2 c.N k2], .int .i64 0]) ∧ w'.ownsRow w.heap.size 3 1 (.slice A1 c.N k1) c.N ((start c).1.map (.int .i64)) ∧
   w'.ownsRow w.heap.size 3 1 (.slice A2 c.N k2) c.N ((start c).2.map (.int .i64)) ∧ Below w.heap.size w w') := by
 refine (trn_Start c w hE s0 s1).mono ?_
 rintro e w' ⟨A1, k1, A2, k2, rfl, o1, o2, hb⟩
 rw [startW_length] at o1 ⊢
 rw [zerosL_length] at o2 ⊢
 exact ⟨A1, k1, A2, k2, rfl, o1, o2, hb⟩
theorem ListV.ints {m : Option Nat} {w : World} {o : Option Nat} {A : Option Addr} {n c : Nat} {xs : List Int} (h : ListV m w o (.slice A n c) xs) : Ints .i64 w A n xs ∧ n ≤ c := by
 obtain ⟨A', c', e, hi, h1, _⟩ := h
 injection e with e1 e2 e3
 subst e1; subst e2; subst e3
 exact ⟨hi, h1⟩
theorem states_len1 (c : Cfg) (ds : Data) (k : Nat) : (states c ds k).1.length = c.N := (fits_iff.1 (fits_states c ds k)).1
theorem states_len2 (c : Cfg) (ds : Data) (k : Nat) : (states c ds k).2.length = c.N := (fits_iff.1 (fits_states c ds k)).2.1
theorem trn_Run_crs (c : Cfg) (ds : Data) (D : Option Addr) (n dc : Nat) (w : World) (hd : Duos w D n ds) (hn : n ≤ 9223372036854775806) (N : Int) (hC : crs c ds ≠ 0) :
  Calls Tryz.prog 53 #[.agg #[.int .i64 c.ci, .int .i64 c.ch, .int .i64 c.co, .int .u64 c.seed, .int .i64 c.batch, .int .i64 c.steps, .int .i64 c.rate, .int .i64 c.decay, .int .i64 c.how, .int .i64 c.keep, .int .i64 c.clip], .slice D n dc, .int .i64 N] w fun e w' => e = .returned (.tuple #[.slice none 0 0, .int .i64 (crs c ds)]) ∧ Below w.heap.size w w' := by
 have HCK := Lib.hid (fun W (h : Below w.heap.size w W) => trn_Check c D n dc ds W (hd.below h) hn)
 have t : (crs c ds != 0) = true := by rw [bne_iff_ne]; exact hC
 clear hC
 go_enter Tryz.func53, Tryz.ntmps53
 go_wp2_with fail
 refine (HCK.out _ ((Below.refl _ _).alloc (Nat.le_refl _) _)).mono ?_
 rintro e x1 ⟨rfl, hb1⟩
 have hbw : Below w.heap.size w x1 := Below.trans (B := w.heap.size) (by repeat (first | exact Below.refl _ _ | assumption | refine bel_drewN ?_ _ | refine Below.drew ?_ | (refine Below.alloc ?_ (by simp <;> omega) _) | (refine Below.setCell ?_ (by simp <;> omega) _))) (hb1.mono (by simp))
 go_wp2
 go_ret2
 exact ⟨rfl, hbw⟩
theorem trn_Run_arg (c : Cfg) (ds : Data) (D : Option Addr) (n dc : Nat) (w : World) (hd : Duos w D n ds) (hn : n ≤ 9223372036854775806) (N : Int) (hC : crs c ds = 0) (hN : ¬ (0 ≤ N ∧ N ≤ c.steps)) :
  Calls Tryz.prog 53 #[.agg #[.int .i64 c.ci, .int .i64 c.ch, .int .i64 c.co, .int .u64 c.seed, .int .i64 c.batch, .int .i64 c.steps, .int .i64 c.rate, .int .i64 c.decay, .int .i64 c.how, .int .i64 c.keep, .int .i64 c.clip], .slice D n dc, .int .i64 N] w fun e w' => e = .returned (.tuple #[.slice none 0 0, .int .i64 1]) ∧ Below w.heap.size w w' := by
 have HCK := Lib.hid (fun W (h : Below w.heap.size w W) => trn_Check c D n dc ds W (hd.below h) hn)
 have HB := Blk.made w 29 #[.int .i64 c.ci, .int .i64 c.ch, .int .i64 c.co, .int .u64 c.seed, .int .i64 c.batch, .int .i64 c.steps, .int .i64 c.rate, .int .i64 c.decay, .int .i64 c.how, .int .i64 c.keep, .int .i64 c.clip]
 have C0 := Lib.hid hC
 have hd2 : N < 0 ∨ (¬ N < 0 ∧ c.steps < N) := by omega
 clear hC hN
 go_enter Tryz.func53, Tryz.ntmps53
 go_wp2_with fail
 refine (HCK.out _ ((Below.refl _ _).alloc (Nat.le_refl _) _)).mono ?_
 rintro e x1 ⟨rfl, hb1⟩
 rw [C0.out]
 have hbw : Below w.heap.size w x1 := Below.trans (B := w.heap.size) (by repeat (first | exact Below.refl _ _ | assumption | refine bel_drewN ?_ _ | refine Below.drew ?_ | (refine Below.alloc ?_ (by simp <;> omega) _) | (refine Below.setCell ?_ (by simp <;> omega) _))) (hb1.mono (by simp))
 obtain ⟨d0, d1, d2, d3, d4, d5, d6, d7, d8, d9, da⟩ := (HB.below hb1 (by simp)).cfg
 rcases hd2 with h | ⟨h, h2⟩
 ·go_wp2
  go_ret2
  exact ⟨rfl, hbw⟩
 ·go_wp2
  go_ret2
  exact ⟨rfl, hbw⟩
theorem trn_Run_ok (c : Cfg) (ds : Data) (hC : crs c ds = 0) (s0 : 0 ≤ c.seed) (s1 : c.seed < 18446744073709551616) (D : Option Addr) (n dc : Nat) (w : World) (hd : Duos w D n ds) (N : Nat) (hN : (N : Int) ≤ c.steps) :
  Calls Tryz.prog 53 #[.agg #[.int .i64 c.ci, .int .i64 c.ch, .int .i64 c.co, .int .u64 c.seed, .int .i64 c.batch, .int .i64 c.steps, .int .i64 c.rate, .int .i64 c.decay, .int .i64 c.how, .int .i64 c.keep, .int .i64 c.clip], .slice D n dc, .int .i64 N] w fun e w' => ∃ g k, e = .returned (.tuple #[.slice (some ⟨g, 0, none⟩) (N + 1) k, .int .i64 0]) ∧ StHeld none w.heap.size (states c ds) (N + 1) (.slice (some ⟨g, 0, none⟩) (N + 1) k) w' ∧ Below w.heap.size w w' := by
 obtain ⟨i0, hi0, hz0, hz1, hz2⟩ := info_parts state_info
 have hf := fine hC
 have hst := hf.ok.st
 have n40 := hf.ok.n40
 have hn : n ≤ 9223372036854775806 := by have := hf.d16; have := hd.len; omega
 have HCK := Lib.hid (fun W (h : Below w.heap.size w W) => trn_Check c D n dc ds W (hd.below h) hn)
 have HNX := Lib.hid (fun W (h : Below w.heap.size w W) (k : Nat) (hk : (k : Int) < c.steps) A1 A2 k1 k2 i1 i2 hk1 => trn_next c ds hf s0 s1 D n dc W (hd.below h) (states c ds k) (fits_states c ds k) A1 A2 k1 k2 i1 i2 hk1 k hk)
 have HSR := Lib.hid (fun W => start_fine c hf.e s0 s1 W)
 have HL1 := Lib.hid (states_len1 c ds)
 have HL2 := Lib.hid (states_len2 c ds)
 have HSU := Lib.hid (states_succ c ds)
 have HZ := Lib.hid (states_zero c ds)
 have HB0 := Blk.made w 29 #[.int .i64 c.ci, .int .i64 c.ch, .int .i64 c.co, .int .u64 c.seed, .int .i64 c.batch, .int .i64 c.steps, .int .i64 c.rate, .int .i64 c.decay, .int .i64 c.how, .int .i64 c.keep, .int .i64 c.clip]
 have C0 := Lib.hid hC
 have hN1 : ¬ c.steps < (N : Int) := by omega
 clear hC hf hd hn
 obtain ⟨st, hst'⟩ : ∃ st, st = states c ds := ⟨_, rfl⟩
 rw [← hst'] at HNX HL1 HL2 HSU HZ ⊢
 clear hst'
 obtain ⟨nx, hnx⟩ : ∃ nx, nx = fun k => nextS c ds (st k) k := ⟨_, rfl⟩
 have HNE := Lib.hid (fun k => show nextS c ds (st k) k = nx k from by rw [hnx])
 clear hnx
 have HSK := Lib.hid (fun k => show st (k + 1) = nx k from (HSU.out k).trans (HNE.out k))
 obtain ⟨sa, hsa⟩ : ∃ sa, sa = start c := ⟨_, rfl⟩
 rw [← hsa] at HSR HZ
 clear hsa
 go_enter Tryz.func53, Tryz.ntmps53
 go_wp2_with fail
 refine (HCK.out _ ((Below.refl _ _).alloc (Nat.le_refl _) _)).mono ?_
 rintro e x1 ⟨rfl, hb1⟩
 rw [C0.out]
 have hbw : Below w.heap.size w x1 := Below.trans (B := w.heap.size) (by repeat (first | exact Below.refl _ _ | assumption | refine bel_drewN ?_ _ | refine Below.drew ?_ | (refine Below.alloc ?_ (by simp <;> omega) _) | (refine Below.setCell ?_ (by simp <;> omega) _))) (hb1.mono (by simp))
 replace HB0 := HB0.below hb1 (by simp)
 have hlw : w.heap.size < x1.heap.size := HB0.lt
 clear hb1 HCK
 obtain ⟨d0, d1, d2, d3, d4, d5, d6, d7, d8, d9, da⟩ := HB0.cfg
 go_wp2_with fail
 refine (HSR.out _).mono ?_
 rintro e x2 ⟨A1, k1, A2, k2, rfl, O1, O2, hb2⟩
 rw [← HZ.out] at O1 O2
 have hs2 := hb2.size
 have l1 := own_capT O1
 have hbw2 := hbw.trans (hb2.mono hbw.size)
 replace HB0 := HB0.below hb2 hlw
 have V1 : ListV (some x2.heap.size) x2 (some (x2.heap.size + 1)) (.slice A1 c.N k1) (st 0).1 := ListV.own O1 (HL1.out 0) (fun b h1 h2 => ⟨by simp; omega, by simp; omega⟩)
 have V2 : ListV (some x2.heap.size) x2 (some (x2.heap.size + 1)) (.slice A2 c.N k2) (st 0).2 := ListV.own O2 (HL2.out 0) (fun b h1 h2 => ⟨by simp; omega, by simp; omega⟩)
 have bA : Below x2.heap.size x2 (x2.alloc (.cells #[.slice A1 c.N k1, .slice A2 c.N k2] 106)) := (Below.refl _ _).alloc (Nat.le_refl _) _
 have hH0 : StHeld (some x2.heap.size) (x2.heap.size + 1) st 1 (.slice (some ⟨x2.heap.size + 1, 0, none⟩) 1 1) ((x2.alloc (.cells #[.slice A1 c.N k1, .slice A2 c.N k2] 106)).alloc (.cells #[.slice A1 c.N k1, .slice A2 c.N k2] 106)) := by
  have h := Held.one (e := 106) (sz := 2) (B := x2.heap.size + 1) (f := st) (w := x2.alloc (.cells #[.slice A1 c.N k1, .slice A2 c.N k2] 106)) (cs := #[.slice A1 c.N k1, .slice A2 c.N k2]) (keeps_st (some x2.heap.size)) (by simp) rfl (by
   refine ⟨_, _, rfl, ?_, ?_⟩
   ·simpa using V1.below bA
   ·simpa using V2.below bA)
  simpa using h
 have HM0 : Blk ((x2.alloc (.cells #[.slice A1 c.N k1, .slice A2 c.N k2] 106)).alloc (.cells #[.slice A1 c.N k1, .slice A2 c.N k2] 106)) x2.heap.size 106 #[.slice A1 c.N k1, .slice A2 c.N k2] := (Blk.made _ _ _).alloc _
 have b0 : Below x2.heap.size x2 ((x2.alloc (.cells #[.slice A1 c.N k1, .slice A2 c.N k2] 106)).alloc (.cells #[.slice A1 c.N k1, .slice A2 c.N k2] 106)) := (by repeat (first | exact Below.refl _ _ | assumption | refine bel_drewN ?_ _ | refine Below.drew ?_ | (refine Below.alloc ?_ (by simp <;> omega) _) | (refine Below.setCell ?_ (by simp <;> omega) _)))
 obtain ⟨W0, hW0⟩ : ∃ W0, W0 = ((x2.alloc (.cells #[.slice A1 c.N k1, .slice A2 c.N k2] 106)).alloc (.cells #[.slice A1 c.N k1, .slice A2 c.N k2] 106)) := ⟨_, rfl⟩
 rw [← hW0] at hH0 HM0 b0
 have I1 := (V1.ints.1).below b0
 have I2 := (V2.ints.1).below b0
 obtain ⟨m, hm⟩ : ∃ m, m = x2.heap.size := ⟨_, rfl⟩
 have hmw : w.heap.size < m := by omega
 have hB0 := HB0.below b0 HB0.lt
 have hbw0 := hbw2.trans (b0.mono hbw2.size)
 have HW0 := Lib.hid hW0
 rw [← hm] at hH0 HM0 b0
 have HM := Lib.hid hm
 have hmz := HM0.lt
 clear hW0 hm V1 V2 bA O1 O2 HB0 hbw hbw2 hb2 hs2 hlw d0 d1 d2 d3 d4 d5 d6 d7 d8 d9 da b0
 go_wp2
 rw [← HW0.out, ← HM.out]
 go_loopw [11, 12, 35] (fun o _ j wr => ∃ (k : Nat) (A1 : Option Addr) (k1 : Nat) (A2 : Option Addr) (k2 : Nat), k ≤ N ∧ j = .int .i64 k ∧ StHeld (some m) (m + 1) st (k + 1) o wr ∧ Blk wr m 106 #[.slice A1 c.N k1, .slice A2 c.N k2] ∧
  Ints .i64 wr A1 c.N (st k).1 ∧ Ints .i64 wr A2 c.N (st k).2 ∧ c.N ≤ k1 ∧ Below m W0 wr) (fun _ _ j _ => N - (intOf j).toNat)
 case atStart => exact ⟨0, A1, k1, A2, k2, by omega, rfl, hH0, HM0, I1, I2, l1, Below.refl _ _⟩
 case round =>
  clear hH0 HM0 I1 I2 l1
  obtain ⟨k, A1, k1, A2, k2, hk, rfl, hH, hM, I1, I2, l1, hb⟩ := hrel
  have hbx := hbw0.trans (hb.mono (by omega))
  have hBc := hB0.below hb (by omega)
  by_cases hlt : k < N
  ·obtain ⟨d0, d1, d2, d3, d4, d5, d6, d7, d8, d9, da⟩ := hBc.cfg
   obtain ⟨⟨p0, p1⟩, _⟩ := hM.two
   have hbs := hb.size
   go_wp2_with fail
   refine (HNX.out _ hbx k (by omega) A1 A2 k1 k2 I1 I2 l1).mono ?_
   rintro e u1 ⟨B1, q1, B2, q2, E, ec, rfl, O1, O2, O3, hb1⟩
   rw [HNE.out] at O1 O2
   rw [← HSK.out k] at O1 O2
   have hlm := hM.lt
   have hs1 := hb1.size
   have q1l := own_capT O1
   have hHlt := hH.lt
   have X1 : ListV (some m) u1 u11.ownBlock (.slice B1 c.N q1) (st (k + 1)).1 := ListV.own O1 (HL1.out _) (fun b h1 h2 => ⟨by simp; omega, fun e => by have := hHlt b e; omega⟩)
   have X2 : ListV (some m) u1 u11.ownBlock (.slice B2 c.N q2) (st (k + 1)).2 := ListV.own O2 (HL2.out _) (fun b h1 h2 => ⟨by simp; omega, fun e => by have := hHlt b e; omega⟩)
   have hM1 := hM.below hb1 hlm
   have r0 : u1.cell? ⟨m, 0, none⟩ = some (.slice A1 c.N k1) := hM1.cell 0
   have r1 : u1.cell? ⟨m, 1, none⟩ = some (.slice A2 c.N k2) := hM1.cell 1
   have r2 := hM1.frozen 0
   have r3 := hM1.frozen 1
   have hlm1 := hM1.lt
   have hBu : But m u1 ((u1.setCell ⟨m, 0, none⟩ (.slice B1 c.N q1)).setCell ⟨m, 1, none⟩ (.slice B2 c.N q2)) := ((But.refl m u1).put 0 _).put 1 _
   have bAl : Below ((u1.setCell ⟨m, 0, none⟩ (.slice B1 c.N q1)).setCell ⟨m, 1, none⟩ (.slice B2 c.N q2)).heap.size ((u1.setCell ⟨m, 0, none⟩ (.slice B1 c.N q1)).setCell ⟨m, 1, none⟩ (.slice B2 c.N q2)) (((u1.setCell ⟨m, 0, none⟩ (.slice B1 c.N q1)).setCell ⟨m, 1, none⟩ (.slice B2 c.N q2)).alloc (.cells #[.slice B1 c.N q1, .slice B2 c.N q2] 106)) := (Below.refl _ _).alloc (Nat.le_refl _) _
   have hHX := ((hH.below (keeps_st _) hb1).but (fun h => h.but hBu) hBu (by omega)).below (keeps_st _) bAl
   have X1X := (X1.but hBu).below bAl
   have X2X := (X2.but hBu).below bAl
   have hMX := ((hM1.put 0 (.slice B1 c.N q1)).put 1 (.slice B2 c.N q2)).alloc (.cells #[.slice B1 c.N q1, .slice B2 c.N q2] 106)
   have hNB : Blk (((u1.setCell ⟨m, 0, none⟩ (.slice B1 c.N q1)).setCell ⟨m, 1, none⟩ (.slice B2 c.N q2)).alloc (.cells #[.slice B1 c.N q1, .slice B2 c.N q2] 106)) u1.heap.size 106 #[.slice B1 c.N q1, .slice B2 c.N q2] := Blk.made' _ _ _ (by simp)
   have hsX : (((u1.setCell ⟨m, 0, none⟩ (.slice B1 c.N q1)).setCell ⟨m, 1, none⟩ (.slice B2 c.N q2)).alloc (.cells #[.slice B1 c.N q1, .slice B2 c.N q2] 106)).heap.size = u1.heap.size + 1 := by simp
   have hBX : Below m W0 (((u1.setCell ⟨m, 0, none⟩ (.slice B1 c.N q1)).setCell ⟨m, 1, none⟩ (.slice B2 c.N q2)).alloc (.cells #[.slice B1 c.N q1, .slice B2 c.N q2] 106)) := (((hb.trans (hb1.mono (by omega))).setCell (p := ⟨m, 0, none⟩) (Nat.le_refl _) _).setCell (p := ⟨m, 1, none⟩) (Nat.le_refl _) _).alloc (by simp; omega) _
   obtain ⟨vs, hoV, hpV⟩ := hHX
   have hvl := hoV.1
   clear X1 X2 hM1 hBu bAl O1 O2 O3 I1 I2 hH hM
   go_wp2_with (at_builtin; refine wpList_append_lies _ rfl _ _ 96 rfl (m + 1) 106 i0 (.agg #[.slice none 0 0, .slice none 0 0]) 2 48 Tryz.underlying96 hi0 hz0 hz1 hz2 rfl (by decide) u11 (k + 1) vs rfl hoV ⟨u1.heap.size, 0, none⟩ 1 1 [.slice B1 c.N q1, .slice B2 c.N q2] rfl rfl (World.news_of_block (cs := #[.slice B1 c.N q1, .slice B2 c.N q2]) hNB) (by simp [Value.oneCell']) (by omega) (by unfold maxLen; omega) (by omega) (by simp <;> omega) (u1.heap.size + 1) (by simp) ?_; intro g1 cap1 w1 hown1 hgrow hgg hlt1)
   have hgg' : u11.ownBlock = some g1 ∨ (((u1.setCell ⟨m, 0, none⟩ (.slice B1 c.N q1)).setCell ⟨m, 1, none⟩ (.slice B2 c.N q2)).alloc (.cells #[.slice B1 c.N q1, .slice B2 c.N q2] 106)).heap.size ≤ g1 := hgg.imp id (fun h => by rw [hsX]; omega)
   have hH2 := Held.push (keeps_st (some m)) hown1 hvl rfl hpV ⟨_, _, rfl, X1X, X2X⟩ hgrow hgg'
   have hM2 := hMX.grown hgrow (fun e => by have := hHlt m e.symm; omega)
   have J1 := (X1X.turn hgrow hgg').ints.1
   have J2 := (X2X.turn hgrow hgg').ints.1
   have hB2 := Below.grown hBX hgrow (by rw [hsX]; omega) (fun x hx => by have := hHlt x hx; omega)
   clear hown1 hgrow hgg hgg' X1X X2X hpV hoV hMX hNB hBX
   go_roundw
   case rel => exact ⟨k + 1, B1, q1, B2, q2, by omega, by go_num, hH2, hM2, J1, J2, q1l, hB2⟩
   case measure => simp [intOf]; omega
  ·obtain rfl : k = N := by omega
   obtain ⟨g, c', hv, _⟩ := hH.form (by omega)
   subst hv
   go_wp2
   go_ret2
   exact ⟨g, c', rfl, (hH.imp StK.drop).base (by omega), hbx⟩
end Go.Proofs.YtgodgedhddngeaaGreatDoor
