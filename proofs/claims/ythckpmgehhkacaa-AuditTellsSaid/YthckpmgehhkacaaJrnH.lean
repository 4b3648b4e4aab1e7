/- Package journal: Head: a walk. -/
import Derived.Test.YthckpmgehhkacaaJrnC
namespace Go.Proofs.Ythckpmgehhkacaa
open Go.RowKit Pl

/-- Two lists that stand in a new block are laid behind each other. -/
theorem cat_fine (A1 A2 : Option Addr) (n1 k1 n2 k2 : Nat) (p1 p2 : List Int) (W : World) (q1 : Ints .i64 W A1 n1 p1) (q2 : Ints .i64 W A2 n2 p2) (hs : (n1 + n2) * 8 ≤ 140737488351232) (g c : Nat) (hg : W.heap.size = g) (K : Nat) (hK : n1 + n2 = K) :
    Calls Try.prog 77 #[.slice (some ⟨g, 0, none⟩) 2 c] (W.alloc (.cells #[.slice A1 n1 k1, .slice A2 n2 k2] 23)) (fun e w' => ∃ S s, e = .returned (.slice S K s) ∧ Ints .i64 w' S K (p1 ++ p2) ∧ K ≤ s ∧ Below (W.alloc (.cells #[.slice A1 n1 k1, .slice A2 n2 k2] 23)).heap.size (W.alloc (.cells #[.slice A1 n1 k1, .slice A2 n2 k2] 23)) w') := by
  subst hg
  subst hK
  have HL : (p1 ++ p2).length = n1 + n2 := by rw [List.length_append, q1.len, q2.len]
  have hv := Vals.made W #[.slice A1 n1 k1, .slice A2 n2 k2] 23 2 [.slice A1 n1 k1, .slice A2 n2 k2] rfl rfl
  have hp : Parts (W.alloc (.cells #[.slice A1 n1 k1, .slice A2 n2 k2] 23)) [.slice A1 n1 k1, .slice A2 n2 k2] [p1, p2] := ⟨rfl, fun j hj => by
    match j, hj with
    | 0, _ => exact ⟨A1, n1, k1, rfl, q1.alloc _⟩
    | 1, _ => exact ⟨A2, n2, k2, rfl, q2.alloc _⟩⟩
  have HC := sl_Concat (some ⟨W.heap.size, 0, none⟩) 2 c _ _ _ hv hp (n1 + n2) (by simpa using HL) hs (by omega)
  rw [show [p1, p2].flatten = p1 ++ p2 by simp] at HC
  refine HC.mono ?_
  rintro e w' ⟨S, s, rfl, hO, hb⟩
  have h1 := Ints.of_own hO rfl
  have h2 := own_capT hO
  rw [HL] at h1 h2 ⊢
  exact ⟨S, s, rfl, h1, h2, hb⟩
theorem lit_step {L n g H : Nat} {xs : List Int} {wr wx w1 : World} {l : Value} (hI : Ints .i64 wr (some ⟨L, 0, none⟩) n xs) (hne : l.ownBlock ≠ some L) (hL : L < wr.heap.size) (hb : Below wr.heap.size wr wx) (hg : wx.grownBy w1 l.ownBlock) (hgg : l.ownBlock = some g ∨ g = H) (hH : wr.heap.size ≤ H) :
    Ints .i64 w1 (some ⟨L, 0, none⟩) n xs ∧ some g ≠ some L ∧ L < w1.heap.size := by
  refine ⟨ints_grown (hI.below hb) hg (fun b off e => by cases e; exact hne), fun e => ?_, Nat.lt_of_lt_of_le (Nat.lt_of_lt_of_le hL hb.size) hg.size⟩
  injection e with e
  subst e
  rcases hgg with h | h
  · exact hne h
  · omega
theorem upto_duo (f : List Int × List Int → Int) (ds : Data) {n : Nat} (h : ds.length = n) : upto (fun i => f (duoAt ds i)) n = ds.map f := by
  subst h
  apply List.ext_getElem (by simp [upto])
  intro j h1 h2
  simp only [upto, List.length_map, List.length_range] at h1
  simp [upto, duoAt, List.getElem?_eq_getElem h1]

set_option maxRecDepth 100000 in
set_option maxHeartbeats 2000000 in
theorem jrn_Head_no (c : Cfg) (ds : Data) (D : Option Addr) (n dc : Nat) (w : World) (hd : Duos w D n ds) (hn : n ≤ 9223372036854775806) (hC : crs c ds ≠ 0) :
    Calls Try.prog 61 #[.agg #[.int .i64 c.ci, .int .i64 c.ch, .int .i64 c.co, .int .u64 c.seed, .int .i64 c.batch, .int .i64 c.steps, .int .i64 c.rate, .int .i64 c.decay, .int .i64 c.how, .int .i64 c.keep, .int .i64 c.clip], .slice D n dc] w fun e w' => e = .returned (.tuple #[.int .u64 0, .int .i64 (crs c ds)]) ∧ Below w.heap.size w w' := by
  have HCK := Lib.hid (fun W (h : Below w.heap.size w W) => trn_Check c D n dc ds W (hd.below h) hn)
  have t : (crs c ds != 0) = true := by rw [bne_iff_ne]; exact hC
  clear hC
  go_enter Try.func61, Try.ntmps61
  go_wp2_with fail
  refine (HCK.out _ ((Below.refl _ _).alloc (Nat.le_refl _) _)).mono ?_
  rintro e x1 ⟨rfl, hb1⟩
  have hbw : Below w.heap.size w x1 := Below.trans (B := w.heap.size) (by repeat (first | exact Below.refl _ _ | assumption | refine bel_drewN ?_ _ | refine Below.drew ?_ | (refine Below.alloc ?_ (by simp <;> omega) _) | (refine Below.setCell ?_ (by simp <;> omega) _))) (hb1.mono (by simp))
  go_wp2
  go_ret2
  exact ⟨rfl, hbw⟩

set_option maxRecDepth 100000 in
set_option maxHeartbeats 4000000 in
theorem jrn_Head_ok (c : Cfg) (ds : Data) (hC : crs c ds = 0) (s0 : 0 ≤ c.seed) (s1 : c.seed < 18446744073709551616) (D : Option Addr) (n dc : Nat) (w : World) (hd : Duos w D n ds) :
    Calls Try.prog 61 #[.agg #[.int .i64 c.ci, .int .i64 c.ch, .int .i64 c.co, .int .u64 c.seed, .int .i64 c.batch, .int .i64 c.steps, .int .i64 c.rate, .int .i64 c.decay, .int .i64 c.how, .int .i64 c.keep, .int .i64 c.clip], .slice D n dc] w fun e w' => e = .returned (.tuple #[.int .u64 (headI c ds), .int .i64 0]) ∧ Below w.heap.size w w' := by
  obtain ⟨i0, hi0, hz0, hz1, hz2⟩ := info_parts u64_info
  have hf := fine hC
  have h16 := hf.d16
  have hdl := hd.len
  have hn16 : n ≤ 16 := by omega
  have HCK := Lib.hid (fun W (h : Below w.heap.size w W) => trn_Check c D n dc ds W (hd.below h) (by omega))
  have HSR := Lib.hid (fun W => start_fine c hf.e s0 s1 W)
  have HRT := Lib.hid (fun A1 A2 k1 k2 W => root_fine c hf.ok (start c) A1 A2 k1 k2 W)
  have HEX := Lib.hid (fun i (hi : i < n) => exB_ok (hf.ex i (by omega)))
  have HW := Lib.hid (show cfgW c ++ upto (fun i => exRoot (duoAt ds i)) n ++ [rootS (start c)] = headW c ds by rw [upto_duo _ _ hdl]; rfl)
  have HOF := Lib.hid (fun A k W (q : Ints .u64 W A (12 + n) (headW c ds)) => of_fine 5 (headW c ds) (12 + n) (by rw [headW_length, hdl]) (by omega) (by omega) (by omega) (headW_u64 hf.ok s0 s1) A k W q)
  have HHI := Lib.hid (show ofI 5 (headW c ds) = headI c ds from rfl)
  have HU3 := Lib.hid (fun q (hq : q < 3) => show 0 ≤ at0 [c.ci, c.ch, c.co] q ∧ at0 [c.ci, c.ch, c.co] q < 9223372036854775808 from by
    have a1 := hf.ok.ci
    have a2 := hf.ok.ch
    have a3 := hf.ok.co
    match q, hq with
    | 0, _ => show 0 ≤ c.ci ∧ c.ci < _; omega
    | 1, _ => show 0 ≤ c.ch ∧ c.ch < _; omega
    | 2, _ => show 0 ≤ c.co ∧ c.co < _; omega)
  have HU7 := Lib.hid (fun q (hq : q < 7) => show 0 ≤ at0 [c.batch, c.steps, c.rate, c.decay, c.how, c.keep, c.clip] q ∧ at0 [c.batch, c.steps, c.rate, c.decay, c.how, c.keep, c.clip] q < 9223372036854775808 from by
    obtain ⟨_, _, _, a1, a2, a3, a4, a5, a6, a7, _⟩ := hf.ok
    match q, hq with
    | 0, _ => show 0 ≤ c.batch ∧ c.batch < _; omega
    | 1, _ => show 0 ≤ c.steps ∧ c.steps < _; omega
    | 2, _ => show 0 ≤ c.rate ∧ c.rate < _; omega
    | 3, _ => show 0 ≤ c.decay ∧ c.decay < _; omega
    | 4, _ => show 0 ≤ c.how ∧ c.how < _; omega
    | 5, _ => show 0 ≤ c.keep ∧ c.keep < _; omega
    | 6, _ => show 0 ≤ c.clip ∧ c.clip < _; omega)
  have HRB := Lib.hid (fun i => rootO_u64 ((duoAt ds i).1 ++ (duoAt ds i).2))
  have HI4 := Lib.hid hf.ok.ci
  have HO4 := Lib.hid hf.ok.co
  have HB0 := Blk.made w 54 #[.int .i64 c.ci, .int .i64 c.ch, .int .i64 c.co, .int .u64 c.seed, .int .i64 c.batch, .int .i64 c.steps, .int .i64 c.rate, .int .i64 c.decay, .int .i64 c.how, .int .i64 c.keep, .int .i64 c.clip]
  have C0 := Lib.hid hC
  clear hC hf h16 hdl
  go_enter Try.func61, Try.ntmps61
  go_wp2_with fail
  refine (HCK.out _ ((Below.refl _ _).alloc (Nat.le_refl _) _)).mono ?_
  rintro e x1 ⟨rfl, hb1⟩
  rw [C0.out]
  have hbw : Below w.heap.size w x1 := Below.trans (B := w.heap.size) (by repeat (first | exact Below.refl _ _ | assumption | refine bel_drewN ?_ _ | refine Below.drew ?_ | (refine Below.alloc ?_ (by simp <;> omega) _) | (refine Below.setCell ?_ (by simp <;> omega) _))) (hb1.mono (by simp))
  replace HB0 := HB0.below hb1 (by simp)
  have hlw : w.heap.size < x1.heap.size := HB0.lt
  clear hb1 HCK
  obtain ⟨d0, d1, d2, d3, d4, d5, d6, d7, d8, d9, da⟩ := HB0.cfg
  have LI := Ints.made x1 [c.ci, c.ch, c.co] 3 rfl #[.int .i64 c.ci, .int .i64 c.ch, .int .i64 c.co] rfl rfl 3
  have bX : Below (w.heap.size + 1) x1 (x1.alloc (.cells #[.int .i64 c.ci, .int .i64 c.ch, .int .i64 c.co] 3)) := (Below.refl _ _).alloc (by omega) _
  have hLX : x1.heap.size < (x1.alloc (.cells #[.int .i64 c.ci, .int .i64 c.ch, .int .i64 c.co] 3)).heap.size := by simp
  obtain ⟨L, hL⟩ : ∃ L, L = x1.heap.size := ⟨_, rfl⟩
  obtain ⟨W0, hW0⟩ : ∃ W0, W0 = (x1.alloc (.cells #[.int .i64 c.ci, .int .i64 c.ch, .int .i64 c.co] 3)) := ⟨_, rfl⟩
  rw [← hW0, ← hL] at LI
  rw [← hW0] at bX
  rw [← hW0, ← hL] at hLX
  have HW0 := Lib.hid hW0
  have HL := Lib.hid hL
  have hLw : w.heap.size < L := by omega
  clear hW0 hL
  go_wp2
  rw [← HW0.out, ← HL.out]
  go_loopw [7, 9, 34] (fun l _ j wr => ∃ q : Nat, q ≤ 3 ∧ j = .int .i64 q ∧ wr.ownsRow (w.heap.size + 1) 22 1 l q ((upto (at0 [c.ci, c.ch, c.co]) q).map (.int .u64)) ∧ Below (w.heap.size + 1) x1 wr ∧ Ints .i64 wr (some ⟨L, 0, none⟩) 3 [c.ci, c.ch, c.co] ∧ l.ownBlock ≠ some L ∧ L < wr.heap.size) (fun _ _ j _ => 3 - (intOf j).toNat)
  case atStart => exact ⟨0, by omega, rfl, World.ownsRow_nil _ _ _ _, bX, LI, (fun h => by cases h), hLX⟩
  case round =>
    clear LI bX hLX d0 d1 d2 d3 d4 d5 d6 d7 d8 d9 da
    obtain ⟨q, hq, rfl, hown, hb, hI, hne, hLr⟩ := hrel
    have hbs := hb.size
    by_cases hlt : q < 3
    · obtain ⟨b, off, hA, hbl, hc⟩ := hI.cells (by omega)
      obtain ⟨rfl, rfl⟩ : L = b ∧ 0 = off := by cases hA; exact ⟨rfl, rfl⟩
      have g1 := hc q hlt
      rw [Nat.zero_add] at g1
      obtain ⟨y0, y1⟩ := HU3.out q hlt
      have G := Lib.hid (upto_succ (at0 [c.ci, c.ch, c.co]) q)
      obtain ⟨y, hy⟩ : ∃ y, y = at0 [c.ci, c.ch, c.co] q := ⟨_, rfl⟩
      rw [← hy] at g1 y0 y1 G
      have wy : IntKind.u64.wrap y = y := wrap_u64_in (by omega) (by omega)
      have k1 : (q : Int) < 3 := by omega
      clear hc hy hA
      go_wp2_with (at_builtin; refine wpList_append_lies _ rfl _ _ 24 rfl (w.heap.size + 1) 22 i0 (.int .u64 0) 1 8 Try.underlying24 hi0 hz0 hz1 hz2 rfl (by decide) u7 q _ rfl (hown.alloc _) ⟨wr.heap.size, 0, none⟩ 1 1 [.int .u64 y] rfl rfl (World.news_of_block (cs := #[.int .u64 y]) (t := 22) (fr := (0, 0)) (heap_alloc_new _ _)) (by simp [Value.oneCell']) (by omega) (by unfold maxLen; omega) (by omega) (by simp; omega) (wr.heap.size + 1) (by simp) ?_; intro g1 cap1 w2 hown1 hgrow hgg hlt1)
      have hb2 := Below.grown (hb.alloc (by omega) (.cells #[.int .u64 y] 22)) hgrow (by simp; omega) (fun x hx => (hown.lt x hx).1)
      obtain ⟨hI2, hne2, hL2⟩ := lit_step hI hne hLr ((Below.refl _ _).alloc (Nat.le_refl _) _) hgrow hgg (by omega)
      rw [show (upto (at0 [c.ci, c.ch, c.co]) q).map (Value.int .u64) ++ [.int .u64 y] = (upto (at0 [c.ci, c.ch, c.co]) (q + 1)).map (Value.int .u64) by rw [G.out]; simp] at hown1
      clear hgrow hgg
      go_roundw
      case rel => exact ⟨q + 1, by omega, by go_num, hown1, hb2, hI2, hne2, hL2⟩
      case measure => simp [intOf]; omega
    · obtain rfl : q = 3 := by omega
      rw [show upto (at0 [c.ci, c.ch, c.co]) 3 = [c.ci, c.ch, c.co] from rfl] at hown
      have hBc := HB0.below hb (by omega)
      obtain ⟨d0, d1, d2, d3, d4, d5, d6, d7, d8, d9, da⟩ := hBc.cfg
      have hlc := hBc.lt
      clear hI hne hLr
      have hbs := hb.size
      go_wp2_with (at_builtin; refine wpList_append_lies _ rfl _ _ 24 rfl (w.heap.size + 1) 22 i0 (.int .u64 0) 1 8 Try.underlying24 hi0 hz0 hz1 hz2 rfl (by decide) u7 3 _ rfl (hown.alloc _) ⟨wr.heap.size, 0, none⟩ 1 1 [.int .u64 c.seed] rfl rfl (World.news_of_block (cs := #[.int .u64 c.seed]) (t := 22) (fr := (0, 0)) (heap_alloc_new _ _)) (by simp [Value.oneCell']) (by omega) (by unfold maxLen; omega) (by omega) (by simp; omega) (wr.heap.size + 1) (by simp) ?_; intro ga cap_ga w2 hown_ga hgrow hgg hlt_ga; obtain ⟨x0, x1', x2, x3, x4, x5, x6, x7, x8, x9, xa⟩ := ((hBc.alloc (.cells #[.int .u64 c.seed] 22)).grown hgrow (fun e => by have := (hown.lt _ e.symm).1; omega)).cfg)
      have hb2 := Below.grown (hb.alloc (by omega) (.cells #[.int .u64 c.seed] 22)) hgrow (by simp; omega) (fun x hx => (hown.lt x hx).1)
      have LI := Ints.made w2 [c.batch, c.steps, c.rate, c.decay, c.how, c.keep, c.clip] 7 rfl #[.int .i64 c.batch, .int .i64 c.steps, .int .i64 c.rate, .int .i64 c.decay, .int .i64 c.how, .int .i64 c.keep, .int .i64 c.clip] rfl rfl 3
      have bX : Below (w.heap.size + 1) x1 (w2.alloc (.cells #[.int .i64 c.batch, .int .i64 c.steps, .int .i64 c.rate, .int .i64 c.decay, .int .i64 c.how, .int .i64 c.keep, .int .i64 c.clip] 3)) := hb2.alloc (by have := hb2.size; omega) _
      have hLX : w2.heap.size < (w2.alloc (.cells #[.int .i64 c.batch, .int .i64 c.steps, .int .i64 c.rate, .int .i64 c.decay, .int .i64 c.how, .int .i64 c.keep, .int .i64 c.clip] 3)).heap.size := by simp
      have hown2 := hown_ga.alloc (.cells #[.int .i64 c.batch, .int .i64 c.steps, .int .i64 c.rate, .int .i64 c.decay, .int .i64 c.how, .int .i64 c.keep, .int .i64 c.clip] 3)
      rw [show ([c.ci, c.ch, c.co].map (Value.int .u64) ++ [.int .u64 c.seed]) = ([c.ci, c.ch, c.co, c.seed] ++ upto (at0 [c.batch, c.steps, c.rate, c.decay, c.how, c.keep, c.clip]) 0).map (Value.int .u64) from rfl] at hown2
      have hlit : ga ≠ w2.heap.size := by omega
      obtain ⟨M, hM⟩ : ∃ M, M = w2.heap.size := ⟨_, rfl⟩
      obtain ⟨W2, hW2⟩ : ∃ W2, W2 = (w2.alloc (.cells #[.int .i64 c.batch, .int .i64 c.steps, .int .i64 c.rate, .int .i64 c.decay, .int .i64 c.how, .int .i64 c.keep, .int .i64 c.clip] 3)) := ⟨_, rfl⟩
      rw [← hW2, ← hM] at LI
      rw [← hW2] at bX hown2
      rw [← hW2, ← hM] at hLX
      rw [← hM] at hlit
      have HW2 := Lib.hid hW2
      have HM := Lib.hid hM
      clear hW2 hM hgrow hgg hown hown_ga hb hb2 hBc d0 d1 d2 d3 d4 d5 d6 d7 d8 d9 da
      go_wp2
      rw [← HW2.out, ← HM.out]
      go_loopw [7, 11, 65] (fun l _ j wr => ∃ q : Nat, q ≤ 7 ∧ j = .int .i64 q ∧ wr.ownsRow (w.heap.size + 1) 22 1 l (4 + q) (([c.ci, c.ch, c.co, c.seed] ++ upto (at0 [c.batch, c.steps, c.rate, c.decay, c.how, c.keep, c.clip]) q).map (.int .u64)) ∧ Below (w.heap.size + 1) x1 wr ∧ Ints .i64 wr (some ⟨M, 0, none⟩) 7 [c.batch, c.steps, c.rate, c.decay, c.how, c.keep, c.clip] ∧ l.ownBlock ≠ some M ∧ M < wr.heap.size) (fun _ _ j _ => 7 - (intOf j).toNat)
      case atStart => exact ⟨0, by omega, rfl, hown2, bX, LI, (fun h => hlit (Option.some.inj h)), hLX⟩
      case round =>
        clear LI bX hLX hown2 x0 x1' x2 x3 x4 x5 x6 x7 x8 x9 xa hlit hlt_ga
        obtain ⟨q, hq, rfl, hown, hb, hI, hne, hLr⟩ := hrel
        have hbs := hb.size
        by_cases hlt : q < 7
        · obtain ⟨b, off, hA, hbl, hc⟩ := hI.cells (by omega)
          obtain ⟨rfl, rfl⟩ : M = b ∧ 0 = off := by cases hA; exact ⟨rfl, rfl⟩
          have g1 := hc q hlt
          rw [Nat.zero_add] at g1
          obtain ⟨y0, y1⟩ := HU7.out q hlt
          have G := Lib.hid (upto_succ (at0 [c.batch, c.steps, c.rate, c.decay, c.how, c.keep, c.clip]) q)
          obtain ⟨y, hy⟩ : ∃ y, y = at0 [c.batch, c.steps, c.rate, c.decay, c.how, c.keep, c.clip] q := ⟨_, rfl⟩
          rw [← hy] at g1 y0 y1 G
          have wy : IntKind.u64.wrap y = y := wrap_u64_in (by omega) (by omega)
          have k1 : (q : Int) < 7 := by omega
          clear hc hy hA
          go_wp2_with (at_builtin; refine wpList_append_lies _ rfl _ _ 24 rfl (w.heap.size + 1) 22 i0 (.int .u64 0) 1 8 Try.underlying24 hi0 hz0 hz1 hz2 rfl (by decide) u7 (4 + q) _ rfl (hown.alloc _) ⟨wr.heap.size, 0, none⟩ 1 1 [.int .u64 y] rfl rfl (World.news_of_block (cs := #[.int .u64 y]) (t := 22) (fr := (0, 0)) (heap_alloc_new _ _)) (by simp [Value.oneCell']) (by omega) (by unfold maxLen; omega) (by omega) (by simp; omega) (wr.heap.size + 1) (by simp) ?_; intro gb cap_gb w3 hown_gb hgrow hgg hlt_gb)
          have hb2 := Below.grown (hb.alloc (by omega) (.cells #[.int .u64 y] 22)) hgrow (by simp; omega) (fun x hx => (hown.lt x hx).1)
          obtain ⟨hI2, hne2, hL2⟩ := lit_step hI hne hLr ((Below.refl _ _).alloc (Nat.le_refl _) _) hgrow hgg (by omega)
          rw [show ([c.ci, c.ch, c.co, c.seed] ++ upto (at0 [c.batch, c.steps, c.rate, c.decay, c.how, c.keep, c.clip]) q).map (Value.int .u64) ++ [.int .u64 y] = ([c.ci, c.ch, c.co, c.seed] ++ upto (at0 [c.batch, c.steps, c.rate, c.decay, c.how, c.keep, c.clip]) (q + 1)).map (Value.int .u64) by rw [G.out]; simp] at hown_gb
          clear hgrow hgg
          go_roundw
          case rel => exact ⟨q + 1, by omega, by go_num, hown_gb, hb2, hI2, hne2, hL2⟩
          case measure => simp [intOf]; omega
        · obtain rfl : q = 7 := by omega
          rw [show ((7 : Nat) : Int) = 7 from rfl]
          rw [show ([c.ci, c.ch, c.co, c.seed] ++ upto (at0 [c.batch, c.steps, c.rate, c.decay, c.how, c.keep, c.clip]) 7) = cfgW c from rfl] at hown
          have hbx := hbw.trans (hb.mono (by omega))
          obtain ⟨w4, hw4⟩ : ∃ w4 : World, w4 = wr := ⟨_, rfl⟩
          clear hI hne hLr
          rw [← hw4] at hown hb hbs hbx
          have HW4 := Lib.hid hw4
          clear hw4
          go_wp2
          rw [← HW4.out]
          go_loopw [7, 13, 14, 15, 77] (fun l _ _ _ j wr => ∃ q : Nat, q ≤ n ∧ j = .int .i64 q ∧ wr.ownsRow (w.heap.size + 1) 22 1 l (11 + q) ((cfgW c ++ upto (fun i => exRoot (duoAt ds i)) q).map (.int .u64)) ∧ Below (w.heap.size + 1) x1 wr) (fun _ _ _ _ j _ => n - (intOf j).toNat)
          case atStart => exact ⟨0, by omega, rfl, by rw [show upto (fun i => exRoot (duoAt ds i)) 0 = [] from rfl, List.append_nil]; exact hown, hb⟩
          case round =>
            clear hown hb hbs hbx
            obtain ⟨q, hq, rfl, hown, hb⟩ := hrel
            have hbs := hb.size
            have hbx := hbw.trans (hb.mono (by omega))
            by_cases hlt : q < n
            · obtain ⟨db, dO, hDe, hdb, hdc⟩ := (hd.below hbx).cells (by omega)
              subst hDe
              obtain ⟨X, ni, xc, T, no, tc, g1, g2, ix, it, z1, z2, z3, z4⟩ := hdc q hlt
              obtain ⟨xl, tl, _, _⟩ := HEX.out q hlt
              have hi4 := HI4.out
              have ho4 := HO4.out
              have ixl := ix.len
              have itl := it.len
              have hni : ni ≤ 4 := by omega
              have hno : no ≤ 4 := by omega
              have G := Lib.hid (upto_succ (fun i => exRoot (duoAt ds i)) q)
              have RB := HRB.out q
              obtain ⟨p, hp⟩ : ∃ p, p = duoAt ds q := ⟨_, rfl⟩
              rw [← hp] at G ix it RB
              obtain ⟨y, hy⟩ : ∃ y, y = exRoot p := ⟨_, rfl⟩
              rw [show rootO (p.1 ++ p.2) = y from hy.symm] at RB
              have HY := Lib.hid (show rootO (p.1 ++ p.2) = y from hy.symm)
              rw [← hy] at G
              obtain ⟨y0, y1⟩ := RB
              have k0 : (0 : Int) ≤ (q : Int) := by omega
              have k1 : (q : Int) < (n : Int) := by omega
              obtain ⟨K, hK⟩ : ∃ K, ni + no = K := ⟨_, rfl⟩
              have hK8 : K ≤ 8 := by omega
              have HCA := Lib.hid (fun W (h : Below wr.heap.size wr W) g k (hg : W.heap.size = g) => cat_fine X T ni xc no tc p.1 p.2 W (ix.below h) (it.below h) (by omega) g k hg K hK)
              clear hdc hp hy xl tl hi4 ho4 ixl itl
              go_wp2_with fail
              refine (HCA.out _ ((Below.refl _ _).alloc (Nat.le_refl _) _) _ _ (by simp)).mono ?_
              rintro e u1 ⟨S, s, rfl, IS, hcap, hb1⟩
              have hb1' : Below wr.heap.size wr u1 := Below.trans (B := wr.heap.size) (by repeat (first | exact Below.refl _ _ | assumption | refine bel_drewN ?_ _ | refine Below.drew ?_ | (refine Below.alloc ?_ (by simp <;> omega) _) | (refine Below.setCell ?_ (by simp <;> omega) _))) (hb1.mono (by simp <;> omega))
              have HTR := Lib.hid (tree_Root_any S K s (p.1 ++ p.2) u1 IS hcap (by omega))
              clear hb1 HCA ix it IS
              go_wp2_with fail
              refine HTR.out.mono ?_
              rintro e u2 ⟨rfl, hb2⟩
              rw [HY.out]
              have hb12 := bel_trans hb1' hb2
              have hown2 := own_below hown hb12
              have hs2 := hb12.size
              clear hb1' hb2 hown g1 g2
              go_wp2_with (at_builtin; refine wpList_append_lies _ rfl _ _ 24 rfl (w.heap.size + 1) 22 i0 (.int .u64 0) 1 8 Try.underlying24 hi0 hz0 hz1 hz2 rfl (by decide) u7 (11 + q) _ rfl (hown2.alloc _) ⟨u2.heap.size, 0, none⟩ 1 1 [.int .u64 y] rfl rfl (World.news_of_block (cs := #[.int .u64 y]) (t := 22) (fr := (0, 0)) (heap_alloc_new _ _)) (by simp [Value.oneCell']) (by omega) (by unfold maxLen; omega) (by omega) (by simp; omega) (u2.heap.size + 1) (by simp) ?_; intro gc cap_gc w5 hown_gc hgrow hgg hlt_gc)
              have hb3 := Below.grown ((hb.trans (hb12.mono (by omega))).alloc (by omega) (.cells #[.int .u64 y] 22)) hgrow (by simp; omega) (fun x hx => (hown2.lt x hx).1)
              rw [show (cfgW c ++ upto (fun i => exRoot (duoAt ds i)) q).map (Value.int .u64) ++ [.int .u64 y] = (cfgW c ++ upto (fun i => exRoot (duoAt ds i)) (q + 1)).map (Value.int .u64) by rw [G.out]; simp] at hown_gc
              clear hgrow hgg
              go_roundw
              case rel => exact ⟨q + 1, by omega, by go_num, hown_gc, hb3⟩
              case measure => simp [intOf]; omega
            · obtain rfl : q = n := by omega
              have hBc := HB0.below hb (by omega)
              obtain ⟨d0, d1, d2, d3, d4, d5, d6, d7, d8, d9, da⟩ := hBc.cfg
              go_wp2_with fail
              refine (HSR.out _).mono ?_
              rintro e u1 ⟨A1, k1, A2, k2, rfl, O1, O2, hb1⟩
              have I1 := Ints.of_own O1 (startW_length _ _)
              have I2 := Ints.of_own O2 (zerosL_length _)
              go_wp2_with fail
              refine (HRT.out A1 A2 k1 k2 _ (I1.alloc _) (I2.alloc _)).mono ?_
              rintro e u2 ⟨rfl, hb2⟩
              have hb12 : Below wr.heap.size wr u2 := (hb1.alloc hb1.size _).trans (hb2.mono (by have := hb1.size; simp; omega))
              have hown2 := own_below hown hb12
              have hs2 := hb12.size
              obtain ⟨y0, y1⟩ := rootO_u64 ((start c).1 ++ (start c).2)
              have HW' := Lib.hid HW.out
              obtain ⟨y, hy⟩ : ∃ y, y = rootS (start c) := ⟨_, rfl⟩
              rw [← hy]
              have HWY := Lib.hid (show cfgW c ++ upto (fun i => exRoot (duoAt ds i)) q ++ [y] = headW c ds by rw [hy]; exact HW'.out)
              clear hb1 hb2 O1 O2 I1 I2 d0 d1 d2 d3 d4 d5 d6 d7 d8 d9 da hown hy y0 y1
              go_wp2_with (at_builtin; refine wpList_append_lies _ rfl _ _ 24 rfl (w.heap.size + 1) 22 i0 (.int .u64 0) 1 8 Try.underlying24 hi0 hz0 hz1 hz2 rfl (by decide) u7 (11 + q) _ rfl (hown2.alloc _) ⟨u2.heap.size, 0, none⟩ 1 1 [.int .u64 y] rfl rfl (World.news_of_block (cs := #[.int .u64 y]) (t := 22) (fr := (0, 0)) (heap_alloc_new _ _)) (by simp [Value.oneCell']) (by omega) (by unfold maxLen; omega) (by omega) (by simp; omega) (u2.heap.size + 1) (by simp) ?_; intro gc cap_gc w5 hown_gc hgrow hgg hlt_gc)
              have hb3 := Below.grown ((hb.trans (hb12.mono (by omega))).alloc (by omega) (.cells #[.int .u64 y] 22)) hgrow (by simp; omega) (fun x hx => (hown2.lt x hx).1)
              rw [show (cfgW c ++ upto (fun i => exRoot (duoAt ds i)) q).map (Value.int .u64) ++ [.int .u64 y] = (headW c ds).map (Value.int .u64) by rw [← HWY.out]; simp] at hown_gc
              have hown3 : w5.ownsRow (w.heap.size + 1) 22 1 (.slice (some ⟨gc, 0, none⟩) (12 + q) cap_gc) (12 + q) ((headW c ds).map (.int .u64)) := by
                rw [show 12 + q = 11 + q + 1 by omega]; exact hown_gc
              have I5 := Ints.of_own hown3 (by have := hown3.1; rw [List.length_map] at this; omega)
              rw [show 11 + q + 1 = 12 + q by omega]
              refine (HOF.out _ _ _ I5).mono ?_
              rintro e w6 ⟨rfl, hb6⟩
              rw [HHI.out]
              go_wp2
              go_ret2
              exact ⟨rfl, (hbw.trans (hb3.mono (by omega))).trans (hb6.mono (hbw.trans (hb3.mono (by omega))).size)⟩
end Go.Proofs.Ythckpmgehhkacaa
