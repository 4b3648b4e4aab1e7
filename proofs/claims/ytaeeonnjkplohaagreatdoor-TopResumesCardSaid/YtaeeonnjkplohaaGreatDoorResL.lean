/- The law TopResumes holds of the given program for every input: its tied card. No condition beyond the tables that the card ties. -/
import Derived.Test.YtaeeonnjkplohaaGreatDoorResW
import Derived.Test.YtaeeonnjkplohaaGreatDoorStoC
import Derived.Deep.DeepCutAuto
import Derived.Deep.CutBlock
import Derived.Outline
namespace Go.Proofs.YtaeeonnjkplohaaGreatDoor
open Go.ChangeShapes Go.WideShapes Go.ChangeAt Go.RowKit Go.Sort Pl

theorem RecsR.pre3 {w : World} {A : Option Addr} {n k : Nat} {f : Nat → Rec} (h : RecsR w A n (upto f n)) (hk : k ≤ n) : RecsR w A k (upto f k) :=
  ⟨upto_length _ _, fun h0 => by
    obtain ⟨b, off, e, hb, hc⟩ := h.cells (by omega)
    refine ⟨b, off, e, hb, fun j hj => ?_⟩
    have h1 := hc j (by omega)
    rw [recAt_upto _ (by omega)] at h1 ⊢
    exact h1⟩
/-- What stands between two rounds: the lines of m records, those of ms of them synced. -/
def ResI (N q bs : Nat) (F : Nat → Rec) (wq : World) (sv : Nat) (wr : World) : Prop := ∃ m ms : Nat, sv ≤ ms ∧ ms ≤ m ∧ m ≤ N ∧ Blk wr q 69 #[.int .i64 8192, .string (bytesOf (linesK F m)), .int .i64 ((linesK F ms).length : Nat)] ∧ Blk wr bs 34 #[.pointer (some ⟨q, 0, none⟩)] ∧ Below q wq wr
def ResL (k N q bs : Nat) (F : Nat → Rec) (wq : World) (s jv : Value) (wr : World) : Prop := ∃ p sv : Nat, p ≤ k ∧ jv = .int .i64 p ∧ s = .int .i64 sv ∧ ResI N q bs F wq sv wr
/-- What stands behind a round's switch. -/
def ResJ (N q bs : Nat) (F : Nat → Rec) (wq : World) (s : Value) (wx : World) : Prop := ∃ sv : Nat, s = .int .i64 sv ∧ ResI N q bs F wq sv wx
def ResM (N q bs : Nat) (F : Nat → Rec) (wq : World) (jv : Value) (wr : World) : Prop := ∃ p m : Nat, p ≤ N ∧ jv = .int .i64 p ∧ p ≤ m ∧ m ≤ N ∧ ∃ sy : Int, Blk wr q 69 #[.int .i64 8192, .string (bytesOf (linesK F m)), .int .i64 sy] ∧ Blk wr bs 34 #[.pointer (some ⟨q, 0, none⟩)] ∧ Below q wq wr
def ResC (c : Cfg) (w2 : World) (b : Nat) (wx : World) : Prop := ∃ r : Nat, (r : Int) ≤ c.steps ∧ r ≤ 5 ∧ wx = w2.setCell ⟨b, 0, none⟩ (.int .i64 r)

set_option maxRecDepth 100000 in
set_option maxHeartbeats 8000000 in
theorem topResumes_walk (c : Cfg) (s0 : 0 ≤ c.seed) (s1 : c.seed < 18446744073709551616) (D : Option Addr) (n dc : Nat) (ds : Data) (w : World) (hd : Duos w D n ds) (hn : n ≤ 9223372036854775806) (N0 : Int) (A : Option Addr) (k kc : Nat) (xs : List Int) (hx : Ints .i64 w A k xs) (ht : Tabs w) :
    Calls Tryz.prog 3 #[.agg #[.int .i64 c.ci, .int .i64 c.ch, .int .i64 c.co, .int .u64 c.seed, .int .i64 c.batch, .int .i64 c.steps, .int .i64 c.rate, .int .i64 c.decay, .int .i64 c.how, .int .i64 c.keep, .int .i64 c.clip], .slice D n dc, .int .i64 N0, .slice A k kc] w fun e w' => e = .returned (.bool true) ∧ Below w.heap.size w w' := by
  have HD := Lib.hid (fun W (h : Below w.heap.size w W) => hd.below h)
  have HX := Lib.hid (fun W (h : Below w.heap.size w W) => hx.below h)
  have HT := Lib.hid (fun W (h : Below w.heap.size w W) => ht.below h)
  have HCO := Lib.hid (fun W (h : Below w.heap.size w W) => ref_Course c D n dc ds W (hd.below h) hn)
  have b0 : Below w.heap.size w (((w.alloc (.cells #[.int .i64 c.ci, .int .i64 c.ch, .int .i64 c.co, .int .u64 c.seed, .int .i64 c.batch, .int .i64 c.steps, .int .i64 c.rate, .int .i64 c.decay, .int .i64 c.how, .int .i64 c.keep, .int .i64 c.clip] 24)).alloc (.cells #[.slice D n dc] 25)).alloc (.cells #[.int .i64 N0] 3)) := (by repeat (first | exact Below.refl _ _ | assumption | refine bel_drewN ?_ _ | refine Below.drew ?_ | (refine Below.alloc ?_ (by simp <;> omega) _) | (refine Below.setCell ?_ (by simp <;> omega) _)))
  have HB0 := ((Blk.made w 24 #[.int .i64 c.ci, .int .i64 c.ch, .int .i64 c.co, .int .u64 c.seed, .int .i64 c.batch, .int .i64 c.steps, .int .i64 c.rate, .int .i64 c.decay, .int .i64 c.how, .int .i64 c.keep, .int .i64 c.clip]).alloc (.cells #[.slice D n dc] 25)).alloc (.cells #[.int .i64 N0] 3)
  have HE0 := (Blk.made' (w.alloc (.cells #[.int .i64 c.ci, .int .i64 c.ch, .int .i64 c.co, .int .u64 c.seed, .int .i64 c.batch, .int .i64 c.steps, .int .i64 c.rate, .int .i64 c.decay, .int .i64 c.how, .int .i64 c.keep, .int .i64 c.clip] 24)) 25 #[.slice D n dc] (g := w.heap.size + 1) (by simp)).alloc (.cells #[.int .i64 N0] 3)
  have HN0 := Blk.made' ((w.alloc (.cells #[.int .i64 c.ci, .int .i64 c.ch, .int .i64 c.co, .int .u64 c.seed, .int .i64 c.batch, .int .i64 c.steps, .int .i64 c.rate, .int .i64 c.decay, .int .i64 c.how, .int .i64 c.keep, .int .i64 c.clip] 24)).alloc (.cells #[.slice D n dc] 25)) 3 #[.int .i64 N0] (g := w.heap.size + 2) (by simp)
  clear hd hx ht
  go_enter Tryz.func3, Tryz.ntmps3
  go_wp2_with fail
  refine (top_said _).mono ?_
  rintro e w1 ⟨rfl, hb1⟩
  replace HB0 := HB0.below hb1 HB0.lt
  replace HE0 := HE0.below hb1 HE0.lt
  replace HN0 := HN0.below hb1 HN0.lt
  have hw1 := b0.trans (hb1.mono b0.size)
  clear hb1 b0
  obtain ⟨d0, d1, d2, d3, d4, d5, d6, d7, d8, d9, da⟩ := HB0.cfg
  have e0 : w1.cell? ⟨w.heap.size + 1, 0, none⟩ = some (.slice D n dc) := HE0.cell 0
  go_wp2_with fail
  refine (HCO.out _ hw1).mono ?_
  rintro e w2 ⟨rfl, hb2⟩
  have hw2 := hw1.trans (hb2.mono hw1.size)
  replace HB0 := HB0.below hb2 HB0.lt
  replace HE0 := HE0.below hb2 HE0.lt
  replace HN0 := HN0.below hb2 HN0.lt
  clear d0 d1 d2 d3 d4 d5 d6 d7 d8 d9 da hb2 hw1 e0
  by_cases hC : crs c ds = 0
  · by_cases hk : 30 < k
    · have z : (30 : Int) < (k : Int) := by omega
      rw [hC]
      clear hC HCO
      go_wp2
      go_ret
      exact ⟨rfl, hw2⟩
    · have z : ¬ (30 : Int) < (k : Int) := by omega
      have hf := fine hC
      have hst := hf.ok.st
      have HMK := Lib.hid (fun W (h : Below w.heap.size w W) (N : Nat) (hN : (N : Int) ≤ c.steps) => jrn_Make_ok c ds hC s0 s1 D n dc W (HD.out W h) N hN)
      have HON := Lib.hid (fun W (h : Below w.heap.size w W) (N : Nat) hN hN5 bs bn bc bd q m hm sy hbq H1 H2 H3 H4 H5 => top_on c ds hC s0 s1 D n dc W (HD.out W h) N hN hN5 bs bn bc bd q m hm sy hbq H1 H2 H3 H4 H5 (HT.out W h))
      have HGT := Lib.hid (fun (m : Nat) (hm : (m : Int) ≤ c.steps) => recC_good hf hm)
      have HSH := Lib.hid (fun j => show (recC c ds j).batch.length ≤ 9223372036854775806 from by
        show ((batI c ds j).map _).length ≤ _
        rw [List.length_map, batI_length]
        have := hf.ok.ba
        omega)
      have HR := Lib.hid (fun (x M : Int) h1 h2 W => rest_of x M h1 h2 W)
      rw [hC]
      clear hC HCO hf
      obtain ⟨F, hF⟩ : ∃ F, F = recC c ds := ⟨_, rfl⟩
      rw [← hF] at HMK HON HGT HSH
      clear hF
      have d5 : w2.cell? ⟨w.heap.size, 5, none⟩ = some (.int .i64 c.steps) := HB0.cell 5
      have n0 : w2.cell? ⟨w.heap.size + 2, 0, none⟩ = some (.int .i64 N0) := HN0.cell 0
      have n1 : w2.frozen? ⟨w.heap.size + 2, 0, none⟩ = false := HN0.frozen 0
      go_upto_region 5 with fail
      go_cut [35] (fun _ wx => ResC c w2 (w.heap.size + 2) wx)
      case first =>
        by_cases h5 : (5 : Int) < c.steps
        · go_wp2_with fail
          refine (HR.out _ _ (by omega) (by omega) _).mono ?_
          rintro e w' ⟨r, hr, rfl, rfl⟩
          go_wp2
          go_meet
          case rel => exact ⟨r, by omega, by omega, rfl⟩
        · have e1 : IntKind.i64.wrap (c.steps + 1) = c.steps + 1 := by rw [wrap_small _ (by omega) (by omega)]
          go_wp2_with fail
          refine (HR.out _ _ (by omega) (by omega) _).mono ?_
          rintro e w' ⟨r, hr, rfl, rfl⟩
          go_wp2
          go_meet
          case rel => exact ⟨r, by omega, by omega, rfl⟩
      case rest =>
        obtain ⟨N, hN, hN5, rfl⟩ := hcut
        have hy := hw2.setCell (p := ⟨w.heap.size + 2, 0, none⟩) (by show w.heap.size ≤ w.heap.size + 2; omega) (.int .i64 N)
        replace HB0 := HB0.far (p := ⟨w.heap.size + 2, 0, none⟩) (by show w.heap.size ≠ w.heap.size + 2; omega) (.int .i64 N)
        replace HE0 := HE0.far (p := ⟨w.heap.size + 2, 0, none⟩) (by show w.heap.size + 1 ≠ w.heap.size + 2; omega) (.int .i64 N)
        replace HN0 := HN0.put 0 (.int .i64 N)
        obtain ⟨y, hye⟩ : ∃ y : World, y = w2.setCell ⟨w.heap.size + 2, 0, none⟩ (.int .i64 N) := ⟨_, rfl⟩
        rw [← hye] at HB0 HE0 HN0 hy ⊢
        replace HN0 : Blk y (w.heap.size + 2) 3 #[.int .i64 N] := HN0
        clear hye d5 n0 n1 hw2
        obtain ⟨d0, d1, d2, d3, d4, d5, d6, d7, d8, d9, da⟩ := HB0.cfg
        have e0 : y.cell? ⟨w.heap.size + 1, 0, none⟩ = some (.slice D n dc) := HE0.cell 0
        have n0 : y.cell? ⟨w.heap.size + 2, 0, none⟩ = some (.int .i64 N) := HN0.cell 0
        go_wp2_with fail
        refine (HMK.out _ hy N hN).mono ?_
        rintro e w3 ⟨A', k', rfl, hL, hb3⟩
        have hw3 := hy.trans (hb3.mono hy.size)
        have hca : N ≤ k' := by
          obtain ⟨A2, c2, e2, h1, _⟩ := Held.slice hL
          cases e2
          exact h1
        have HRA := (RecHeld.recs hL).weak
        replace HB0 := HB0.below hb3 HB0.lt
        replace HE0 := HE0.below hb3 HE0.lt
        replace HN0 := HN0.below hb3 HN0.lt
        have hNW := sto_New_ok 8192 w3 (by omega) (by omega)
        obtain ⟨q, hq⟩ : ∃ q, q = w3.heap.size := ⟨_, rfl⟩
        rw [← hq] at hNW
        have HNW := Lib.hid hNW
        have HQ := Lib.hid hq
        have hq0 : w.heap.size + 2 < q := by rw [hq]; exact HN0.lt
        have hq1 : q ≤ w3.heap.size := by omega
        clear d0 d1 d2 d3 d4 d5 d6 d7 d8 d9 da e0 n0 hL hb3 hy hNW hq
        go_wp2_with fail
        refine HNW.out.mono ?_
        rintro e w4 ⟨rfl, hB4, hb4⟩
        have hq4 := hB4.lt
        have hS4 := Blk.made w4 34 #[.pointer (some ⟨q, 0, none⟩)]
        have hB5 := hB4.alloc (.cells #[.pointer (some ⟨q, 0, none⟩)] 34)
        have hb5 := hb4.alloc (Nat.le_of_lt hB4.lt) (.cells #[.pointer (some ⟨q, 0, none⟩)] 34)
        obtain ⟨bs, hbs⟩ : ∃ b, b = w4.heap.size := ⟨_, rfl⟩
        obtain ⟨z, hz⟩ : ∃ z, z = w4.alloc (.cells #[.pointer (some ⟨q, 0, none⟩)] 34) := ⟨_, rfl⟩
        rw [← hz] at hS4 hB5 hb5
        rw [← hbs] at hS4 hq4
        have HBS := Lib.hid hbs
        have HZ := Lib.hid hz
        have hbq : bs ≠ q := by omega
        clear hB4 hb4 hbs hz HNW
        go_upto_block 0 with fail
        rw [← HBS.out, ← HZ.out]
        clear HBS HZ
        go_wp2
        go_loopw [14, 16, 17, 18, 56] (fun s _ _ _ jv wr => ResL k N q bs F w3 s jv wr) (fun _ _ _ _ jv _ => k - (intOf jv).toNat)
        case atStart => exact ⟨0, 0, Nat.zero_le _, rfl, rfl, 0, 0, Nat.le_refl _, Nat.le_refl _, Nat.zero_le _, hB5, hS4, hb5⟩
        case round =>
          clear hB5 hS4 hb5
          obtain ⟨p, sv, hp, rfl, rfl, m, ms, h1, h2, h3, hB, hS, hb⟩ := hrel
          have hbw : Below w.heap.size w wr := hw3.trans (hb.mono (by omega))
          have hb3 : Below w3.heap.size w3 wr := by rw [← HQ.out]; exact hb
          have hqs : q ≤ wr.heap.size := by have := hb.size; omega
          by_cases hlt : p < k
          · obtain ⟨ab, ao, rfl, hbl, hc⟩ := (HX.out _ hbw).cells (by omega)
            have g1 := hc p hlt
            obtain ⟨x, hxx⟩ : ∃ x, x = at0 xs p := ⟨_, rfl⟩
            rw [← hxx] at g1
            have z0 : (0 : Int) ≤ (p : Int) := by omega
            have z1 : (p : Int) < (k : Int) := by omega
            clear hxx hc
            go_wp2_with fail
            refine (HR.out _ _ (by omega) (by omega) _).mono ?_
            rintro e w' ⟨r, hr, rfl, rfl⟩
            go_upto_block 2 with fail
            go_cut [14] (fun s wx => ResJ N q bs F w3 s wx)
            case first =>
              have b1 : wr.cell? ⟨bs, 0, none⟩ = some (.pointer (some ⟨q, 0, none⟩)) := hS.cell 0
              have hg := HGT.out m (by omega)
              have hlen := linesK_len hg
              have hs : (bytesOf (linesK F m)).size ≤ 4294967280 := by rw [bytesOf_size]; omega
              have hr4 : r = 0 ∨ r = 1 ∨ r = 2 ∨ r = 3 := by omega
              clear g1
              rcases hr4 with rfl | rfl | rfl | rfl
              · go_wp2_with fail
                refine (HON.out _ hbw N hN hN5 bs _ _ _ q m h3 _ hbq hS (HN0.below hb3 HN0.lt) (HB0.below hb3 HB0.lt) (HE0.below hb3 HE0.lt) hB).mono ?_
                rintro e w' ⟨rfl, hB', hb'⟩
                go_wp2
                go_meet
                case rel => exact ⟨sv, rfl, min (m + 1) N, ms, h1, by omega, by omega, hB', hS.but hb' hbq, but_to hb hb' (Nat.le_refl _) hqs⟩
              · go_wp2_with fail
                refine (HON.out _ hbw N hN hN5 bs _ _ _ q m h3 _ hbq hS (HN0.below hb3 HN0.lt) (HB0.below hb3 HB0.lt) (HE0.below hb3 HE0.lt) hB).mono ?_
                rintro e w' ⟨rfl, hB', hb'⟩
                go_wp2
                go_meet
                case rel => exact ⟨sv, rfl, min (m + 1) N, ms, h1, by omega, by omega, hB', hS.but hb' hbq, but_to hb hb' (Nat.le_refl _) hqs⟩
              · have HSY := Lib.hid (sto_Sync q 8192 _ _ wr hB)
                go_wp2_with fail
                refine HSY.out.mono ?_
                rintro e w1 ⟨rfl, hB1, hb1⟩
                have hS1 := hS.but hb1 hbq
                have hL1 := but_to hb hb1 (Nat.le_refl _) hqs
                have b2 : w1.cell? ⟨bs, 0, none⟩ = some (.pointer (some ⟨q, 0, none⟩)) := hS1.cell 0
                have HR2 := sto_Records q 8192 _ _ w1 hB1 hs (HT.out _ (hw3.trans (hL1.mono (by omega))))
                rw [bytesOf_data, beg_all hg] at HR2
                simp only [upto_length] at HR2
                have HRC := Lib.hid HR2
                clear HR2 HSY b1 hg hlen hs
                go_wp2_with fail
                refine HRC.out.mono ?_
                rintro e w2 ⟨v, rfl, hH, hb2⟩
                obtain ⟨A0, k0, rfl, _, _⟩ := Held.slice hH
                have hS2 := hS1.below hb2 hS1.lt
                have hB2 := hB1.below hb2 hB1.lt
                have hL2 := hL1.trans (hb2.mono (by have := hb1.size; omega))
                clear hH HRC
                go_wp2
                go_meet
                case rel => exact ⟨m, rfl, m, m, Nat.le_refl _, Nat.le_refl _, h3, hB2, hS2, hL2⟩
              · have hy : (linesK F ms).length ≤ (bytesOf (linesK F m)).size := linesK_le F h2
                have HCR := Lib.hid (fun keep => sto_Crash q 8192 _ _ keep wr.drew hB hs hy)
                have c1 : wr.drew.cell? ⟨bs, 0, none⟩ = some (.pointer (some ⟨q, 0, none⟩)) := b1
                have hbl := hS.lt
                clear b1
                go_upto_region 25 with fail
                go_region_held3 (fun W => W.cell? ⟨bs, 0, none⟩ = some (.pointer (some ⟨q, 0, none⟩))) (first | (with_reducible exact c1) | (with_reducible exact y) | fail) (first
                  | (go_at_call 9; (with_reducible refine (HR.out _ _ (by omega) (by omega) _).mono ?_); rintro e u0 ⟨r2, hr2, rfl, rfl⟩)
                  | (go_at_call 16; (with_reducible refine (HCR.out _).mono ?_); rintro e u ⟨rfl, hB4, hb4⟩; have y := (hb4.cell (p := ⟨bs, 0, none⟩) hbl hbq).trans c1)
                  | fail)
                all_goals
                  obtain ⟨cl1, cl2⟩ := crashN_le hy (r2 : Int)
                  obtain ⟨C, hC⟩ : ∃ C, C = crashN (linesK F ms).length (bytesOf (linesK F m)).size (r2 : Int) := ⟨_, rfl⟩
                  rw [← hC, bytesOf_take] at hB4
                  rw [← hC] at cl1
                  obtain ⟨p', i1, i2, i3, i4⟩ := cut_lines hg h2 cl1
                  have hs' : (bytesOf ((linesK F m).take C)).size ≤ 4294967280 := by rw [bytesOf_size, List.length_take]; omega
                  have hbu : But q wr u := ⟨hb4.os, hb4.tape, hb4.output, hb4.size, hb4.block⟩
                  have hLu := but_to hb hbu (Nat.le_refl _) hqs
                  have hSu := hS.but hbu hbq
                  have HRP := sto_Repair q 8192 _ _ u hB4 hs' (HT.out _ (hw3.trans (hLu.mono (by omega))))
                  rw [bytesOf_data, i3, bytesOf_take, i4] at HRP
                  have HRQ := Lib.hid HRP
                  have hmx : max (sv : Int) 0 = (sv : Int) := by omega
                  clear HRP i3 i4 hC cl1 cl2 hs' HCR c1
                  go_wp2_with fail
                  refine HRQ.out.mono ?_
                  rintro e u2 ⟨rfl, hB6, hb6⟩
                  have hS6 := hSu.but hb6 hbq
                  have hL6 := but_to hLu hb6 (Nat.le_refl _) (by have := hb4.size; have h7 : wr.drew.heap.size = wr.heap.size := rfl; omega)
                  clear HRQ
                  go_wp2
                  go_meet
                  case rel => exact ⟨sv, rfl, p', p', by omega, Nat.le_refl _, by omega, hB6, hS6, hL6⟩
            case rest =>
              obtain ⟨sv1, rfl, m1, ms1, j1, j2, j3, hB1, hS1, hb1⟩ := hcut
              obtain ⟨y1, hy1⟩ : ∃ y : World, y = wc := ⟨_, rfl⟩
              rw [← hy1] at hB1 hS1 hb1 ⊢
              clear hy1 hB hS hb hbw hb3 hqs h1 h2 h3 g1
              have hg := HGT.out m1 (by omega)
              have hlen := linesK_len hg
              have hbw1 : Below w.heap.size w y1 := hw3.trans (hb1.mono (by omega))
              have hb31 : Below w3.heap.size w3 y1 := by rw [← HQ.out]; exact hb1
              have b1 : y1.cell? ⟨bs, 0, none⟩ = some (.pointer (some ⟨q, 0, none⟩)) := hS1.cell 0
              have HR2 := sto_Records q 8192 _ _ y1 hB1 (by rw [bytesOf_size]; omega) (HT.out _ hbw1)
              rw [bytesOf_data, beg_all hg] at HR2
              simp only [upto_length] at HR2
              have HRC := Lib.hid HR2
              have HW1 := Lib.hid ((HRA.below hb31).pre3 (k := m1) (by omega))
              clear HR2 hg hlen
              go_wp2_with fail
              refine HRC.out.mono ?_
              rintro e y2 ⟨v, rfl, hH, hb2⟩
              obtain ⟨A0, k0, rfl, _, _⟩ := Held.slice hH
              have hG := (RecHeld.recs hH).weak
              rw [show upto (recAt (upto F m1)) m1 = upto F m1 from List.map_congr_left fun j hj => recAt_upto F (List.mem_range.1 hj)] at hG
              have HSR := ref_SameRecords A0 A' m1 m1 k0 k' (upto F m1) (upto F m1) y2 hG (HW1.out.below hb2) (by omega) (fun j hj => .inl (by rw [recAt_upto F hj]; exact HSH.out j))
              rw [sameB_self] at HSR
              have HSS := Lib.hid HSR
              have hS2 := hS1.below hb2 hS1.lt
              have hB2 := hB1.below hb2 hB1.lt
              have hL2 := hb1.trans (hb2.mono (by have := hB1.lt; omega))
              have u1 : ¬ (m1 : Int) < (sv1 : Int) := by omega
              have u2 : ¬ m1 < sv1 := by omega
              have u3 : (0 : Int) ≤ (m1 : Int) := by omega
              have u4 : (m1 : Int) ≤ (k' : Int) := by omega
              clear hH hG HSR HRC HW1 hB1 hS1 hb31 hbw1 b1
              go_wp2_with fail
              refine HSS.out.mono ?_
              rintro e y3 ⟨rfl, hb3⟩
              have hS3 := hS2.below hb3 hS2.lt
              have hB3 := hB2.below hb3 hB2.lt
              have hL3 := hL2.trans (hb3.mono (by have := hB2.lt; omega))
              clear HSS
              go_wp2
              go_roundw
              case rel =>
                have hnew : ResL k N q bs F w3 (.int .i64 sv1) (.int .i64 ((p : Int) + 1)) y3 := ⟨p + 1, sv1, by omega, by simp, rfl, m1, ms1, j1, j2, j3, hB3, hS3, hL3⟩
                repeat (first | (exact hnew) | (exact ⟨hnew, rfl⟩) | (apply Exists.intro))
              case measure => simp [intOf]; omega
          · obtain rfl : p = k := by omega
            obtain ⟨wo, rfl⟩ : ∃ wo : World, wo = wr := ⟨_, rfl⟩
            have n0 : wo.cell? ⟨w.heap.size + 1 + 1, 0, none⟩ = some (.int .i64 N) := (HN0.below hb3 HN0.lt).cell 0
            have z1 : ¬ (p : Int) < (p : Int) := by omega
            go_wp2
            go_loopw [103] (fun jv wr => ResM N q bs F w3 jv wr) (fun jv _ => N - (intOf jv).toNat)
            case atStart => exact ⟨0, m, Nat.zero_le _, rfl, Nat.zero_le _, h3, _, hB, hS, hb⟩
            case round =>
              clear hB hS hb hbw hb3 hqs h1 h2 h3 n0
              obtain ⟨p2, m, hp2, rfl, i1, h3, sy, hB, hS, hb⟩ := hrel
              have hbw : Below w.heap.size w wr := hw3.trans (hb.mono (by omega))
              have hb3 : Below w3.heap.size w3 wr := by rw [← HQ.out]; exact hb
              have hqs : q ≤ wr.heap.size := by have := hb.size; omega
              by_cases hlt2 : p2 < N
              · have z2 : (p2 : Int) < (N : Int) := by omega
                go_wp2_with fail
                refine (HON.out _ hbw N hN hN5 bs _ _ _ q m h3 _ hbq hS (HN0.below hb3 HN0.lt) (HB0.below hb3 HB0.lt) (HE0.below hb3 HE0.lt) hB).mono ?_
                rintro e w' ⟨rfl, hB', hb'⟩
                have hS' := hS.but hb' hbq
                have hL' := but_to hb hb' (Nat.le_refl _) hqs
                clear hB hS hb
                go_wp2
                go_roundw
                case rel =>
                  have hnew : ResM N q bs F w3 (.int .i64 ((p2 : Int) + 1)) w' := ⟨p2 + 1, min (m + 1) N, by omega, by simp, by omega, by omega, sy, hB', hS', hL'⟩
                  repeat (first | (exact hnew) | (exact ⟨hnew, rfl⟩) | (apply Exists.intro))
                case measure => simp [intOf]; omega
              · obtain rfl : p2 = N := by omega
                obtain rfl : m = p2 := by omega
                have z2 : ¬ (m : Int) < (m : Int) := by omega
                have hg := HGT.out m hN
                have hlen := linesK_len hg
                have b1 : wr.cell? ⟨bs, 0, none⟩ = some (.pointer (some ⟨q, 0, none⟩)) := hS.cell 0
                have HR2 := sto_Records q 8192 _ _ wr hB (by rw [bytesOf_size]; omega) (HT.out _ hbw)
                rw [bytesOf_data, beg_all hg] at HR2
                simp only [upto_length] at HR2
                have HRC := Lib.hid HR2
                have HW1 := Lib.hid (HRA.below hb3)
                clear HR2 hg hlen
                go_wp2_with fail
                refine HRC.out.mono ?_
                rintro e y2 ⟨v, rfl, hH, hb2⟩
                obtain ⟨A0, k0, rfl, _, _⟩ := Held.slice hH
                have hG := (RecHeld.recs hH).weak
                rw [show upto (recAt (upto F m)) m = upto F m from List.map_congr_left fun j hj => recAt_upto F (List.mem_range.1 hj)] at hG
                have HSR := ref_SameRecords A0 A' m m k0 k' (upto F m) (upto F m) y2 hG (HW1.out.below hb2) (by omega) (fun j hj => .inl (by rw [recAt_upto F hj]; exact HSH.out j))
                rw [sameB_self] at HSR
                have HSS := Lib.hid HSR
                clear hH hG HSR HRC HW1 b1
                go_wp2_with fail
                refine HSS.out.mono ?_
                rintro e y3 ⟨rfl, hb5⟩
                go_wp2
                go_ret
                exact ⟨rfl, hbw.trans ((bel_trans hb2 hb5).mono hbw.size)⟩
  · have t : (crs c ds != 0) = true := by rw [bne_iff_ne]; exact hC
    obtain ⟨x, hx⟩ : ∃ x, x = crs c ds := ⟨_, rfl⟩
    rw [← hx] at t ⊢
    clear hC hx HCO
    go_wp2
    go_ret
    exact ⟨rfl, hw2⟩
theorem topResumes_met (os : Os) : laidMet Tryz.prog Rows.topResumesRow.laid ((laidWorld os #[.agg #[.int .i64 0, .int .i64 0, .int .i64 0, .int .u64 0, .int .i64 0, .int .i64 0, .int .i64 0, .int .i64 0, .int .i64 0, .int .i64 0, .int .i64 0], .slice none 0 0, .int .i64 0, .slice none 0 0]).forCall (fun _ _ => 0) ⟨#[], #[.agg #[.int .i64 0, .int .i64 0, .int .i64 0, .int .u64 0, .int .i64 0, .int .i64 0, .int .i64 0, .int .i64 0, .int .i64 0, .int .i64 0, .int .i64 0], .slice none 0 0, .int .i64 0, .slice none 0 0], []⟩).memory :=
  laidMet_of_run' 8 (by kernel_rfl) (by kernel_rfl)
theorem topResumes_reads (os : Os) {H : Type} (enc : TypeId × Value → H) : DataW.whole enc Tryz.prog ((laidWorld os #[.agg #[.int .i64 0, .int .i64 0, .int .i64 0, .int .u64 0, .int .i64 0, .int .i64 0, .int .i64 0, .int .i64 0, .int .i64 0, .int .i64 0, .int .i64 0], .slice none 0 0, .int .i64 0, .slice none 0 0]).forCall (fun _ _ => 0) ⟨#[], #[.agg #[.int .i64 0, .int .i64 0, .int .i64 0, .int .u64 0, .int .i64 0, .int .i64 0, .int .i64 0, .int .i64 0, .int .i64 0, .int .i64 0, .int .i64 0], .slice none 0 0, .int .i64 0, .slice none 0 0], []⟩).memory Tryz.f3.params.toList Rows.topResumesSpec.vars false (#[.agg #[.int .i64 0, .int .i64 0, .int .i64 0, .int .u64 0, .int .i64 0, .int .i64 0, .int .i64 0, .int .i64 0, .int .i64 0, .int .i64 0, .int .i64 0], .slice none 0 0, .int .i64 0, .slice none 0 0] : Array Value).toList 8 = some ([.agg [.lit (.int .i64 0), .lit (.int .i64 0), .lit (.int .i64 0), .lit (.int .u64 0), .lit (.int .i64 0), .lit (.int .i64 0), .lit (.int .i64 0), .lit (.int .i64 0), .lit (.int .i64 0), .lit (.int .i64 0), .lit (.int .i64 0)], .nil, .lit (.int .i64 0), .nil], [], []) := by kernel_rfl
set_option maxRecDepth 100000 in
theorem topResumes_lifted (os : Os) (started : os.Started) (H : Type) (enc : TypeId × Value → H) (F : Stop.Interp) :
    ReturnsInHanded {} Tryz.checked os 3 .any ((OpenSpec.ofChange Rows.topResumesSpec).preRow enc Tryz.prog Tryz.f3 Rows.topResumesRow.domain false Rows.topResumesRow.laid) (((OpenSpec.ofChange Rows.topResumesSpec).at F).post enc Tryz.prog Tryz.f3 false true false false) := by
  refine lift_card0 (fn := Tryz.f3) (s := OpenSpec.ofChange Rows.topResumesSpec) started (by kernel_rfl) Tryz.func3
    (witness_row_at (enc := enc) (C := Tryz.checked) false (laidWorld os #[.agg #[.int .i64 0, .int .i64 0, .int .i64 0, .int .u64 0, .int .i64 0, .int .i64 0, .int .i64 0, .int .i64 0, .int .i64 0, .int .i64 0, .int .i64 0], .slice none 0 0, .int .i64 0, .slice none 0 0]) #[.agg #[.int .i64 0, .int .i64 0, .int .i64 0, .int .u64 0, .int .i64 0, .int .i64 0, .int .i64 0, .int .i64 0, .int .i64 0, .int .i64 0, .int .i64 0], .slice none 0 0, .int .i64 0, .slice none 0 0] rfl (by kernel_rfl) (by kernel_rfl) (by kernel_rfl)
      (OpenSpec.preRow_of_cond 8 (topResumes_reads os enc) (by kernel_rfl) (fun k hk => by cases hk) (by kernel_rfl) (topResumes_met os))) (by kernel_rfl) rfl Tryz.underlying4 rfl ?_ ?_
  · intro ds h
    rw [Tryz.params3] at h
    match ds, h with
    | [d0, d1, d2, d3], _ => rfl
  · intro W args ds ps hA hlt hval hsz ht
    rw [Tryz.params3] at hA hval hsz
    obtain ⟨v0, vs0, d0, ds0, p0, q0, hargs, rfl, rfl, H0, T0⟩ := trodAll_cons hA
    obtain ⟨v1, vs1, d1, ds1, p1, q1, rfl, rfl, rfl, H1, T1⟩ := trodAll_cons T0
    obtain ⟨v2, vs2, d2, ds2, p2, q2, rfl, rfl, rfl, H2, T2⟩ := trodAll_cons T1
    obtain ⟨v4, vs4, d4, ds4, p4, q4, rfl, rfl, rfl, H4, T4⟩ := trodAll_cons T2
    obtain ⟨rfl, rfl, rfl⟩ := trodAll_nil T4
    obtain rfl : args = #[v0, v1, v2, v4] := by cases args; simp_all
    obtain ⟨b0, hv0⟩ := hval 0 24 v0 rfl rfl
    obtain ⟨b1, hv1⟩ := hval 1 25 v1 rfl rfl
    obtain ⟨b2, hv2⟩ := hval 2 3 v2 rfl rfl
    obtain ⟨b4, hv4⟩ := hval 3 26 v4 rfl rfl
    obtain ⟨c, rfl, cw⟩ := arg_cfg hv0 H0
    obtain ⟨D, n, dc, ds, rfl, hd, hn⟩ := arg_data (j := 1) (fun _ => rfl) hv1 H1 hsz rfl rfl
    obtain ⟨n0, rfl, _⟩ := arg_int hv2 H2
    obtain ⟨A, m, ac, xs, rfl, hx, _⟩ := arg_ints (fun _ => rfl) hv4 H4
    have hs := wf_u64 cw.2.2.2.1
    exact topResumes_walk c hs.1 (by omega) D n dc ds W hd hn n0 A m ac xs hx ht
theorem topResumes_said : Rows.TopResumesSaid :=
  OpenClaim.holds_of_cond 3 Tryz.f3 rfl rfl rfl rfl rfl rfl rfl ⟨rfl, rfl, rfl, rfl, rfl⟩ rfl rfl rfl rfl rfl (by kernel_rfl) Tryz.func3 (by kernel_rfl)
    (of_decide_eq_true (by kernel_rfl)) (by unfold Func.isWrapper; first | (rw [if_pos (by decide +kernel)]; kernel_rfl) | (rw [if_neg (by decide +kernel)]; exact ⟨rfl, rfl⟩))
    (fun os started H enc _ F => by rw [OpenClaim.pre_eq_preRow]; exact topResumes_lifted os started H enc F)
theorem topResumes_plain (f : FuncId) (fn : Func) (hf : Tryz.pinned.checked.prog.funcNamed "lessonbook/coachtop.TopResumes" = some f) (hfn : Tryz.pinned.checked.prog.funcs[f]? = some fn) :
    false = Tryz.pinned.checked.prog.looks [] ∧ ∀ (j : Nat) t, fn.params[j]? = some t → Tryz.pinned.checked.prog.wantsStandIn t = false := by
  obtain rfl : f = 3 := Option.some.inj ((show Tryz.prog.funcNamed "lessonbook/coachtop.TopResumes" = some 3 by kernel_rfl).symm.trans hf) |>.symm
  obtain rfl : fn = Tryz.f3 := (Option.some.inj (Tryz.func3.symm.trans hfn)).symm
  refine ⟨by kernel_rfl, fun j t ht => ?_⟩
  have hall : (Tryz.f3.params.toList.all fun t => Tryz.prog.wantsStandIn t == false) = true := by kernel_rfl
  rw [List.all_eq_true] at hall
  exact eq_of_beq (hall t (Array.mem_toList_iff.2 (Array.mem_of_getElem? ht)))
theorem TopResumes_holds : Rows.TopResumesCardSaid :=
  Claim7.holds_tied_plain_at .later [] _ _ _ _ topResumes_said (fun _ h => by cases h) (by kernel_rfl) (fun _ h => by cases h) topResumes_row_tie rfl ⟨rfl, rfl⟩ (by kernel_rfl) rfl topResumes_plain (by kernel_rfl)

end Go.Proofs.YtaeeonnjkplohaaGreatDoor
