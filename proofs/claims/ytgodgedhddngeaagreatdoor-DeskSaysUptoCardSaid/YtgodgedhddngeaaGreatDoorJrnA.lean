/- Package journal: Root, Chain: walks. -/
import Derived.Test.YtgodgedhddngeaaGreatDoorTrnA
set_option maxRecDepth 100000
set_option maxHeartbeats 16000000
namespace Go.Proofs.YtgodgedhddngeaaGreatDoor
open Go.RowKit Pl
theorem jrn_Root (A1 A2 : Option Addr) (n1 k1 n2 k2 : Nat) (wt mv : List Int) (w : World) (q1 : Ints .i64 w A1 n1 wt) (q2 : Ints .i64 w A2 n2 mv) (hs : (n1 + n2) * 8 ≤ 140737488351232) :
  Calls Tryz.prog 76 #[.agg #[.slice A1 n1 k1, .slice A2 n2 k2]] w fun e w' => e = .returned (.tuple #[.int .u64 (rootO (wt ++ mv)), .int .i64 (lvE (n1 + n2))]) ∧ Below w.heap.size w w' := by
 have HL : (wt ++ mv).length = n1 + n2 := by rw [List.length_append, q1.len, q2.len]
 have HS1 := Blk.made w 106 #[.slice A1 n1 k1, .slice A2 n2 k2]
 obtain ⟨⟨f0, f1⟩, _⟩ := HS1.two
 have hv : Vals ((w.alloc (.cells #[.slice A1 n1 k1, .slice A2 n2 k2] 106)).alloc (.cells #[.slice A1 n1 k1, .slice A2 n2 k2] 56)) (some ⟨w.heap.size + 1, 0, none⟩) 2 [.slice A1 n1 k1, .slice A2 n2 k2] := by
  have h := Vals.made (w.alloc (.cells #[.slice A1 n1 k1, .slice A2 n2 k2] 106)) #[.slice A1 n1 k1, .slice A2 n2 k2] 56 2 [.slice A1 n1 k1, .slice A2 n2 k2] rfl rfl
  simpa using h
 have hp : Parts ((w.alloc (.cells #[.slice A1 n1 k1, .slice A2 n2 k2] 106)).alloc (.cells #[.slice A1 n1 k1, .slice A2 n2 k2] 56)) [.slice A1 n1 k1, .slice A2 n2 k2] [wt, mv] := ⟨rfl, fun j hj => by
  match j, hj with
  | 0, _ => exact ⟨A1, n1, k1, rfl, (q1.alloc _).alloc _⟩
  | 1, _ => exact ⟨A2, n2, k2, rfl, (q2.alloc _).alloc _⟩⟩
 have HCC := fun c => sl_Concat (some ⟨w.heap.size + 1, 0, none⟩) 2 c _ _ _ hv hp (n1 + n2) (by simpa using HL) hs (by omega)
 rw [show [wt, mv].flatten = wt ++ mv by simp] at HCC
 have HC := Lib.hid HCC
 have hbw : Below w.heap.size w ((w.alloc (.cells #[.slice A1 n1 k1, .slice A2 n2 k2] 106)).alloc (.cells #[.slice A1 n1 k1, .slice A2 n2 k2] 56)) := ((Below.refl _ _).alloc (Nat.le_refl _) _).alloc (by simp) _
 obtain ⟨xs, hxs⟩ : ∃ xs, xs = wt ++ mv := ⟨_, rfl⟩
 obtain ⟨N, hN⟩ : ∃ N, N = n1 + n2 := ⟨_, rfl⟩
 rw [← hxs] at HC HL ⊢
 rw [← hN] at HL hs ⊢
 have HLL := Lib.hid HL
 clear hv hp HCC q1 q2 hxs hN HS1 HL
 go_enter Tryz.func76, Tryz.ntmps76
 go_wp2_with fail
 refine (HC.out _).mono ?_
 rintro e w1 ⟨S, sc, rfl, hown, hb1⟩
 replace hbw := hbw.trans (hb1.mono hbw.size)
 have hx := Ints.of_own hown rfl
 have hc := own_capT hown
 rw [HLL.out] at hx hc ⊢
 clear hown HC f0 f1 hb1
 have HR := Lib.hid (tree_Root_any S N sc xs w1 hx hc (by omega))
 go_wp2_with fail
 refine HR.out.mono ?_
 rintro e w2 ⟨rfl, hb2⟩
 go_wp2
 go_ret2
 exact ⟨rfl, hbw.trans (hb2.mono hbw.size)⟩
theorem root_fine (c : Cfg) (h : c.Ok) (s : List Int × List Int) (A1 A2 : Option Addr) (k1 k2 : Nat) (w : World) (q1 : Ints .i64 w A1 c.N s.1) (q2 : Ints .i64 w A2 c.N s.2) :
  Calls Tryz.prog 76 #[.agg #[.slice A1 c.N k1, .slice A2 c.N k2]] w fun e w' => e = .returned (.tuple #[.int .u64 (rootS s), .int .i64 0]) ∧ Below w.heap.size w w' := by
 have h1 := h.n1
 have h40 := h.n40
 have H := jrn_Root A1 A2 c.N k1 c.N k2 s.1 s.2 w q1 q2 (by omega)
 rw [show lvE (c.N + c.N) = 0 by unfold lvE; rw [if_neg (by omega), if_neg (by omega)]] at H
 exact H
theorem jrn_Chain1 (n : Int) (w : World) : Calls Tryz.prog 117 #[.int .i64 n] w fun e w' => e = .returned (.bool (decide (n < 0))) ∧ Quiet w w' := by
 go_enter Tryz.func117, Tryz.ntmps117
 go_wp2
 go_ret
 exact ⟨rfl, Quiet.refl _⟩
def negV : Value → Bool
 | .int _ n => decide (n < 0)
 | _ => false
theorem negV_any (k : IntKind) (xs : List Int) : (xs.map (Value.int k)).any negV = !(xs.all fun n => decide (0 ≤ n)) := by
 induction xs with
 | nil => rfl
 | cons x xs ih =>
  rw [List.map_cons, List.any_cons, List.all_cons, ih]
  have : negV (.int k x) = !decide (0 ≤ x) := by
   show decide (x < 0) = _
   by_cases h : 0 ≤ x
   ·rw [decide_eq_true h, decide_eq_false (by omega)]; rfl
   ·rw [decide_eq_false h, decide_eq_true (by omega)]; rfl
  rw [this]
  cases decide (0 ≤ x) <;> simp
theorem neg_any {A : Option Addr} {n c : Nat} {xs : List Int} {b : Bool} (hb : xs.all (fun n => decide (0 ≤ n)) = !b) {w : World} (hx : Ints .i64 w A n xs) (hn : n ≤ 9223372036854775807) :
  Calls Tryz.prog 116 #[.slice A n c, .func (.func 117) #[] #[]] w fun e w' => e = .returned (.bool b) ∧ Quiet w w' := by
 have H := chained_any A n c _ negV w hx.vals hn fun v W hv _ => by
  obtain ⟨x, _, rfl⟩ := List.mem_map.1 hv
  exact jrn_Chain1 x W
 rw [negV_any, hb, Bool.not_not] at H
 exact H
theorem of_fine (kind : Int) (xs : List Int) (n : Nat) (hl : xs.length = n) (hn : n ≤ 200) (k0 : 0 ≤ kind) (k1 : kind < 18446744073709551616) (hu : U64 xs) (A : Option Addr) (c : Nat) (W : World) (hx : Ints .u64 W A n xs) :
  Calls Tryz.prog 114 #[.int .u64 kind, .slice A n c] W fun e w' => e = .returned (.tuple #[.int .u64 (ofI kind xs), .int .i64 0]) ∧ Below W.heap.size W w' := by
 have h := dig_Of kind A n c xs W k0 k1 hx hu
 have e1 : ofE xs = 0 := if_neg (by omega)
 have e2 : ofO kind xs = ofI kind xs := if_neg (by omega)
 rw [e1, e2] at h
 exact h
theorem chE_ok {r : Rec} (h : chE r = 0) : 0 ≤ r.step ∧ 0 ≤ r.rate ∧ r.batch.length ≤ 8 ∧ r.batch.all (fun n => decide (0 ≤ n)) = true := by
 unfold chE at h
 split at h
 ·assumption
 ·omega
theorem jrn_Chain_ok (before : Int) (r : Rec) (A : Option Addr) (n k : Nat) (w : World) (hx : Ints .i64 w A n r.batch) (hE : chE r = 0) (b0 : 0 ≤ before) (b1 : before < 18446744073709551616) (s1 : r.step < 9223372036854775808) (r1 : r.rate < 9223372036854775808)
  (t0 : 0 ≤ r.root) (t1 : r.root < 18446744073709551616) (z1 : ∀ z ∈ r.batch, z < 9223372036854775808) :
  Calls Tryz.prog 77 #[.int .u64 before, .agg #[.int .i64 r.step, .slice A n k, .int .i64 r.rate, .int .u64 r.root, .int .u64 r.chain]] w fun e w' => e = .returned (.tuple #[.int .u64 (ofI 6 (chW before r)), .int .i64 0]) ∧ Below w.heap.size w w' := by
 obtain ⟨i0, hi0, hz0, hz1, hz2⟩ := info_parts u64_info
 obtain ⟨e1, e2, e3, e4⟩ := chE_ok hE
 have hl := hx.len
 have hn8 : n ≤ 8 := by omega
 have HU := Lib.hid (chW_u64 (x := before) hE b0 b1 (by omega) (by omega) t0 t1 (fun z hz => by have := z1 z hz; omega))
 have HNN := Lib.hid (fun j (hj : j < n) => show 0 ≤ at0 r.batch j ∧ at0 r.batch j < 9223372036854775808 from by
  have hm : at0 r.batch j ∈ r.batch := by rw [at0_getElem _ _ (by omega)]; exact List.getElem_mem _
  exact ⟨by rw [List.all_eq_true] at e4; simpa using e4 _ hm, z1 _ hm⟩)
 have HW := Lib.hid (show [before, r.step, r.rate, r.root, (n : Int)] ++ upto (at0 r.batch) n = chW before r by rw [← hl, upto_at0]; rfl)
 have HOF := Lib.hid (fun A c W (q : Ints .u64 W A (5 + n) (chW before r)) => of_fine 6 (chW before r) (5 + n) (by rw [chW_len, hl]) (by omega) (by omega) (by omega) HU.out A c W q)
 have HN := Lib.hid (fun W (q : Ints .i64 W A n r.batch) => neg_any (c := k) (b := false) e4 q (by omega))
 have HLW := Lib.hid (show (chW before r).length = 5 + n by rw [chW_len, hl])
 have w1 : IntKind.u64.wrap r.step = r.step := wrap_u64_in (by omega) (by omega)
 have w2 : IntKind.u64.wrap r.rate = r.rate := wrap_u64_in (by omega) (by omega)
 have w3 : IntKind.u64.wrap (n : Int) = (n : Int) := wrap_u64_in (by omega) (by omega)
 have c1 : ¬ r.step < 0 := by omega
 have c2 : ¬ r.rate < 0 := by omega
 have c3 : ¬ (8 : Int) < (n : Int) := by omega
 have HB := Blk.made w 90 #[.int .i64 r.step, .slice A n k, .int .i64 r.rate, .int .u64 r.root, .int .u64 r.chain]
 clear hE e1 e2 e3 e4 hl z1
 go_enter Tryz.func77, Tryz.ntmps77
 go_wp2_with fail
 refine (HN.out _ (hx.alloc _)).mono ?_
 rintro e x1 ⟨rfl, hq⟩
 have hB1 := HB.quiet hq
 have g0 : x1.cell? ⟨w.heap.size, 0, none⟩ = some (.int .i64 r.step) := hB1.cell 0
 have g1 : x1.cell? ⟨w.heap.size, 1, none⟩ = some (.slice A n k) := hB1.cell 1
 have g2 : x1.cell? ⟨w.heap.size, 2, none⟩ = some (.int .i64 r.rate) := hB1.cell 2
 have g3 : x1.cell? ⟨w.heap.size, 3, none⟩ = some (.int .u64 r.root) := hB1.cell 3
 have hbw : Below w.heap.size w x1 := Quiet.after (((Below.refl _ _).alloc (Nat.le_refl _) _) : Below w.heap.size w (w.alloc (.cells #[.int .i64 r.step, .slice A n k, .int .i64 r.rate, .int .u64 r.root, .int .u64 r.chain] 90))) hq
 have hlx := hB1.lt
 have O0 : (x1.alloc (.cells #[.int .u64 before, .int .u64 r.step, .int .u64 r.rate, .int .u64 r.root, .int .u64 n] 27)).ownsRow w.heap.size 27 1 (.slice (some ⟨x1.heap.size, 0, none⟩) 5 5) 5 ([before, r.step, r.rate, r.root, (n : Int)].map (.int .u64)) := World.ownsRow_lit x1 #[.int .u64 before, .int .u64 r.step, .int .u64 r.rate, .int .u64 r.root, .int .u64 n] 5 hbw.size (by decide) rfl
 have hb0 : Below w.heap.size w (x1.alloc (.cells #[.int .u64 before, .int .u64 r.step, .int .u64 r.rate, .int .u64 r.root, .int .u64 n] 27)) := hbw.alloc hbw.size _
 have hBc := hB1.alloc (.cells #[.int .u64 before, .int .u64 r.step, .int .u64 r.rate, .int .u64 r.root, .int .u64 n] 27)
 clear hq HB hB1 HN
 obtain ⟨W0, hW0⟩ : ∃ W0, W0 = (x1.alloc (.cells #[.int .u64 before, .int .u64 r.step, .int .u64 r.rate, .int .u64 r.root, .int .u64 n] 27)) := ⟨_, rfl⟩
 rw [← hW0] at O0 hb0 hBc
 have HW0 := Lib.hid hW0
 clear hW0 hBc
 go_wp2
 rw [← HW0.out]
 go_loopw [6, 8, 45] (fun l _ j wr => ∃ q : Nat, q ≤ n ∧ j = .int .i64 q ∧ wr.ownsRow w.heap.size 27 1 l (5 + q) (([before, r.step, r.rate, r.root, (n : Int)] ++ upto (at0 r.batch) q).map (.int .u64)) ∧ Below w.heap.size w wr) (fun _ _ j _ => n - (intOf j).toNat)
 case atStart => exact ⟨0, by omega, rfl, O0, hb0⟩
 case round =>
  clear O0 hb0
  obtain ⟨q, hq, rfl, hown, hb⟩ := hrel
  have hbs := hb.size
  by_cases hlt : q < n
  ·obtain ⟨b, off, hA, hbl, hc⟩ := (hx.below hb).cells (by omega)
   subst hA
   have g1 := hc q hlt
   obtain ⟨y0, y1⟩ := HNN.out q hlt
   have G := Lib.hid (upto_succ (at0 r.batch) q)
   obtain ⟨y, hy⟩ : ∃ y, y = at0 r.batch q := ⟨_, rfl⟩
   rw [← hy] at g1 y0 y1 G
   have wy : IntKind.u64.wrap y = y := wrap_u64_in (by omega) (by omega)
   clear hc hy
   go_wp2_with (at_builtin; refine wpList_append_own _ rfl _ _ 146 rfl w.heap.size 27 i0 (.int .u64 0) 1 8 Tryz.underlying146 hi0 hz0 hz1 hz2 rfl (by decide) u6 (5 + q) _ rfl (hown.alloc _) ⟨wr.heap.size, 0, none⟩ 1 1 [.int .u64 y] rfl rfl (cell_one_new _ _ _) (by simp [Value.oneCell']) (by unfold maxLen; omega) (by omega) (by simp; omega) ?_; intro v1 v2 hown1 hgrow _)
   have hb2 : Below w.heap.size w v2 := Below.grown (hb.alloc hbs _) hgrow (by simp; omega) (fun x hx => (hown.lt x hx).1)
   rw [show ([before, r.step, r.rate, r.root, (n : Int)] ++ upto (at0 r.batch) q).map (Value.int .u64) ++ [.int .u64 y] = ([before, r.step, r.rate, r.root, (n : Int)] ++ upto (at0 r.batch) (q + 1)).map (Value.int .u64) by rw [G.out]; simp] at hown1
   clear hgrow
   go_roundw
   case rel => exact ⟨q + 1, by omega, by go_num, hown1, hb2⟩
   case measure => simp [intOf]; omega
  ·obtain rfl : q = n := by omega
   rw [HW.out] at hown
   obtain ⟨S, sc, hv, hI⟩ := own_ints hown
   subst hv
   go_wp2_with fail
   refine (HOF.out S sc wr hI).mono ?_
   rintro e w5 ⟨rfl, hb5⟩
   go_wp2
   go_ret2
   exact ⟨rfl, hb.trans (hb5.mono hb.size)⟩
theorem cat_fine (A1 A2 : Option Addr) (n1 k1 n2 k2 : Nat) (p1 p2 : List Int) (W : World) (q1 : Ints .i64 W A1 n1 p1) (q2 : Ints .i64 W A2 n2 p2) (hs : (n1 + n2) * 8 ≤ 140737488351232) (g c : Nat) (hg : W.heap.size = g) (K : Nat) (hK : n1 + n2 = K) :
  Calls Tryz.prog 113 #[.slice (some ⟨g, 0, none⟩) 2 c] (W.alloc (.cells #[.slice A1 n1 k1, .slice A2 n2 k2] 56)) (fun e w' => ∃ S s, e = .returned (.slice S K s) ∧ Ints .i64 w' S K (p1 ++ p2) ∧ K ≤ s ∧ Below (W.alloc (.cells #[.slice A1 n1 k1, .slice A2 n2 k2] 56)).heap.size (W.alloc (.cells #[.slice A1 n1 k1, .slice A2 n2 k2] 56)) w') := by
 subst hg
 subst hK
 have HL : (p1 ++ p2).length = n1 + n2 := by rw [List.length_append, q1.len, q2.len]
 have hv := Vals.made W #[.slice A1 n1 k1, .slice A2 n2 k2] 56 2 [.slice A1 n1 k1, .slice A2 n2 k2] rfl rfl
 have hp : Parts (W.alloc (.cells #[.slice A1 n1 k1, .slice A2 n2 k2] 56)) [.slice A1 n1 k1, .slice A2 n2 k2] [p1, p2] := ⟨rfl, fun j hj => by
  match j, hj with
  | 0, _ => exact ⟨A1, n1, k1, rfl, q1.alloc _⟩
  | 1, _ => exact ⟨A2, n2, k2, rfl, q2.alloc _⟩⟩
 have HC := sl_Concat (some ⟨W.heap.size, 0, none⟩) 2 c _ _ _ hv hp (n1 + n2) (by simpa using HL) hs (by omega)
 rw [show [p1, p2].flatten = p1 ++ p2 by simp] at HC
 refine HC.mono ?_
 rintro e w' ⟨S, s, rfl, hO, hb⟩
 have h1 := Ints.of_own hO rfl
 have h2 := own_capT hO
 rw [HL] at h1 h2 ⊢
 exact ⟨S, s, rfl, h1, h2, hb⟩
theorem lit_step {L n g H : Nat} {xs : List Int} {wr wx w1 : World} {l : Value} (hI : Ints .i64 wr (some ⟨L, 0, none⟩) n xs) (hne : l.ownBlock ≠ some L) (hL : L < wr.heap.size) (hb : Below wr.heap.size wr wx) (hg : wx.grownBy w1 l.ownBlock) (hgg : l.ownBlock = some g ∨ g = H) (hH : wr.heap.size ≤ H) :
  Ints .i64 w1 (some ⟨L, 0, none⟩) n xs ∧ some g ≠ some L ∧ L < w1.heap.size := by
 refine ⟨ints_grown (hI.below hb) hg (fun b off e => by cases e; exact hne), fun e => ?_, Nat.lt_of_lt_of_le (Nat.lt_of_lt_of_le hL hb.size) hg.size⟩
 injection e with e
 subst e
 rcases hgg with h | h
 ·exact hne h
 ·omega
theorem upto_duo (f : List Int × List Int → Int) (ds : Data) {n : Nat} (h : ds.length = n) : upto (fun i => f (duoAt ds i)) n = ds.map f := by
 subst h
 apply List.ext_getElem (by simp [upto])
 intro j h1 h2
 simp only [upto, List.length_map, List.length_range] at h1
 simp [upto, duoAt, List.getElem?_eq_getElem h1]
theorem jrn_Head_no (c : Cfg) (ds : Data) (D : Option Addr) (n dc : Nat) (w : World) (hd : Duos w D n ds) (hn : n ≤ 9223372036854775806) (hC : crs c ds ≠ 0) :
  Calls Tryz.prog 73 #[.agg #[.int .i64 c.ci, .int .i64 c.ch, .int .i64 c.co, .int .u64 c.seed, .int .i64 c.batch, .int .i64 c.steps, .int .i64 c.rate, .int .i64 c.decay, .int .i64 c.how, .int .i64 c.keep, .int .i64 c.clip], .slice D n dc] w fun e w' => e = .returned (.tuple #[.int .u64 0, .int .i64 (crs c ds)]) ∧ Below w.heap.size w w' := by
 have HCK := Lib.hid (fun W (h : Below w.heap.size w W) => trn_Check c D n dc ds W (hd.below h) hn)
 have t : (crs c ds != 0) = true := by rw [bne_iff_ne]; exact hC
 clear hC
 go_enter Tryz.func73, Tryz.ntmps73
 go_wp2_with fail
 refine (HCK.out _ ((Below.refl _ _).alloc (Nat.le_refl _) _)).mono ?_
 rintro e x1 ⟨rfl, hb1⟩
 have hbw : Below w.heap.size w x1 := Below.trans (B := w.heap.size) (by repeat (first | exact Below.refl _ _ | assumption | refine bel_drewN ?_ _ | refine Below.drew ?_ | (refine Below.alloc ?_ (by simp <;> omega) _) | (refine Below.setCell ?_ (by simp <;> omega) _))) (hb1.mono (by simp))
 go_wp2
 go_ret2
 exact ⟨rfl, hbw⟩
theorem jrn_Head_ok (c : Cfg) (ds : Data) (hC : crs c ds = 0) (s0 : 0 ≤ c.seed) (s1 : c.seed < 18446744073709551616) (D : Option Addr) (n dc : Nat) (w : World) (hd : Duos w D n ds) :
  Calls Tryz.prog 73 #[.agg #[.int .i64 c.ci, .int .i64 c.ch, .int .i64 c.co, .int .u64 c.seed, .int .i64 c.batch, .int .i64 c.steps, .int .i64 c.rate, .int .i64 c.decay, .int .i64 c.how, .int .i64 c.keep, .int .i64 c.clip], .slice D n dc] w fun e w' => e = .returned (.tuple #[.int .u64 (headI c ds), .int .i64 0]) ∧ Below w.heap.size w w' := by
 obtain ⟨i0, hi0, hz0, hz1, hz2⟩ := info_parts u64_info
 have hf := fine hC
 have h16 := hf.d16
 have hdl := hd.len
 have hn16 : n ≤ 16 := by omega
 have HCK := Lib.hid (fun W (h : Below w.heap.size w W) => trn_Check c D n dc ds W (hd.below h) (by omega))
 have HSR := Lib.hid (fun W => start_fine c hf.e s0 s1 W)
 have HRT := Lib.hid (fun A1 A2 k1 k2 W => root_fine c hf.ok (start c) A1 A2 k1 k2 W)
 have HEX := Lib.hid (fun i (hi : i < n) => exB_ok (hf.ex i (by omega)))
 have HW := Lib.hid (show cfgW c ++ upto (fun i => exRoot (duoAt ds i)) n ++ [rootS (start c)] = headW c ds by rw [upto_duo _ _ hdl]; rfl)
 have HOF := Lib.hid (fun A k W (q : Ints .u64 W A (12 + n) (headW c ds)) => of_fine 5 (headW c ds) (12 + n) (by rw [headW_length, hdl]) (by omega) (by omega) (by omega) (headW_u64 hf.ok s0 s1) A k W q)
 have HHI := Lib.hid (show ofI 5 (headW c ds) = headI c ds from rfl)
 have HU3 := Lib.hid (fun q (hq : q < 3) => show 0 ≤ at0 [c.ci, c.ch, c.co] q ∧ at0 [c.ci, c.ch, c.co] q < 9223372036854775808 from by
  have a1 := hf.ok.ci
  have a2 := hf.ok.ch
  have a3 := hf.ok.co
  match q, hq with
  | 0, _ => show 0 ≤ c.ci ∧ c.ci < _; omega
  | 1, _ => show 0 ≤ c.ch ∧ c.ch < _; omega
  | 2, _ => show 0 ≤ c.co ∧ c.co < _; omega)
 have HU7 := Lib.hid (fun q (hq : q < 7) => show 0 ≤ at0 [c.batch, c.steps, c.rate, c.decay, c.how, c.keep, c.clip] q ∧ at0 [c.batch, c.steps, c.rate, c.decay, c.how, c.keep, c.clip] q < 9223372036854775808 from by
  obtain ⟨_, _, _, a1, a2, a3, a4, a5, a6, a7, _⟩ := hf.ok
  match q, hq with
  | 0, _ => show 0 ≤ c.batch ∧ c.batch < _; omega
  | 1, _ => show 0 ≤ c.steps ∧ c.steps < _; omega
  | 2, _ => show 0 ≤ c.rate ∧ c.rate < _; omega
  | 3, _ => show 0 ≤ c.decay ∧ c.decay < _; omega
  | 4, _ => show 0 ≤ c.how ∧ c.how < _; omega
  | 5, _ => show 0 ≤ c.keep ∧ c.keep < _; omega
  | 6, _ => show 0 ≤ c.clip ∧ c.clip < _; omega)
 have HRB := Lib.hid (fun i => rootO_u64 ((duoAt ds i).1 ++ (duoAt ds i).2))
 have HI4 := Lib.hid hf.ok.ci
 have HO4 := Lib.hid hf.ok.co
 have HB0 := Blk.made w 29 #[.int .i64 c.ci, .int .i64 c.ch, .int .i64 c.co, .int .u64 c.seed, .int .i64 c.batch, .int .i64 c.steps, .int .i64 c.rate, .int .i64 c.decay, .int .i64 c.how, .int .i64 c.keep, .int .i64 c.clip]
 have C0 := Lib.hid hC
 clear hC hf h16 hdl
 go_enter Tryz.func73, Tryz.ntmps73
 go_wp2_with fail
 refine (HCK.out _ ((Below.refl _ _).alloc (Nat.le_refl _) _)).mono ?_
 rintro e x1 ⟨rfl, hb1⟩
 rw [C0.out]
 have hbw : Below w.heap.size w x1 := Below.trans (B := w.heap.size) (by repeat (first | exact Below.refl _ _ | assumption | refine bel_drewN ?_ _ | refine Below.drew ?_ | (refine Below.alloc ?_ (by simp <;> omega) _) | (refine Below.setCell ?_ (by simp <;> omega) _))) (hb1.mono (by simp))
 replace HB0 := HB0.below hb1 (by simp)
 have hlw : w.heap.size < x1.heap.size := HB0.lt
 clear hb1 HCK
 obtain ⟨d0, d1, d2, d3, d4, d5, d6, d7, d8, d9, da⟩ := HB0.cfg
 have LI := Ints.made x1 [c.ci, c.ch, c.co] 3 rfl #[.int .i64 c.ci, .int .i64 c.ch, .int .i64 c.co] rfl rfl 3
 have bX : Below (w.heap.size + 1) x1 (x1.alloc (.cells #[.int .i64 c.ci, .int .i64 c.ch, .int .i64 c.co] 3)) := (Below.refl _ _).alloc (by omega) _
 have hLX : x1.heap.size < (x1.alloc (.cells #[.int .i64 c.ci, .int .i64 c.ch, .int .i64 c.co] 3)).heap.size := by simp
 obtain ⟨L, hL⟩ : ∃ L, L = x1.heap.size := ⟨_, rfl⟩
 obtain ⟨W0, hW0⟩ : ∃ W0, W0 = (x1.alloc (.cells #[.int .i64 c.ci, .int .i64 c.ch, .int .i64 c.co] 3)) := ⟨_, rfl⟩
 rw [← hW0, ← hL] at LI
 rw [← hW0] at bX
 rw [← hW0, ← hL] at hLX
 have HW0 := Lib.hid hW0
 have HL := Lib.hid hL
 have hLw : w.heap.size < L := by omega
 clear hW0 hL
 go_wp2
 rw [← HW0.out, ← HL.out]
 go_loopw [7, 9, 34] (fun l _ j wr => ∃ q : Nat, q ≤ 3 ∧ j = .int .i64 q ∧ wr.ownsRow (w.heap.size + 1) 27 1 l q ((upto (at0 [c.ci, c.ch, c.co]) q).map (.int .u64)) ∧ Below (w.heap.size + 1) x1 wr ∧ Ints .i64 wr (some ⟨L, 0, none⟩) 3 [c.ci, c.ch, c.co] ∧ l.ownBlock ≠ some L ∧ L < wr.heap.size) (fun _ _ j _ => 3 - (intOf j).toNat)
 case atStart => exact ⟨0, by omega, rfl, World.ownsRow_nil _ _ _ _, bX, LI, (fun h => by cases h), hLX⟩
 case round =>
  clear LI bX hLX d0 d1 d2 d3 d4 d5 d6 d7 d8 d9 da
  obtain ⟨q, hq, rfl, hown, hb, hI, hne, hLr⟩ := hrel
  have hbs := hb.size
  by_cases hlt : q < 3
  ·obtain ⟨b, off, hA, hbl, hc⟩ := hI.cells (by omega)
   obtain ⟨rfl, rfl⟩ : L = b ∧ 0 = off := by cases hA; exact ⟨rfl, rfl⟩
   have g1 := hc q hlt
   rw [Nat.zero_add] at g1
   obtain ⟨y0, y1⟩ := HU3.out q hlt
   have G := Lib.hid (upto_succ (at0 [c.ci, c.ch, c.co]) q)
   obtain ⟨y, hy⟩ : ∃ y, y = at0 [c.ci, c.ch, c.co] q := ⟨_, rfl⟩
   rw [← hy] at g1 y0 y1 G
   have wy : IntKind.u64.wrap y = y := wrap_u64_in (by omega) (by omega)
   have k1 : (q : Int) < 3 := by omega
   clear hc hy hA
   go_wp2_with (at_builtin; refine wpList_append_lies _ rfl _ _ 146 rfl (w.heap.size + 1) 27 i0 (.int .u64 0) 1 8 Tryz.underlying146 hi0 hz0 hz1 hz2 rfl (by decide) u7 q _ rfl (hown.alloc _) ⟨wr.heap.size, 0, none⟩ 1 1 [.int .u64 y] rfl rfl (World.news_of_block (cs := #[.int .u64 y]) (t := 27) (fr := (0, 0)) (heap_alloc_new _ _)) (by simp [Value.oneCell']) (by omega) (by unfold maxLen; omega) (by omega) (by simp; omega) (wr.heap.size + 1) (by simp) ?_; intro g1 cap1 w2 hown1 hgrow hgg hlt1)
   have hb2 := Below.grown (hb.alloc (by omega) (.cells #[.int .u64 y] 27)) hgrow (by simp; omega) (fun x hx => (hown.lt x hx).1)
   obtain ⟨hI2, hne2, hL2⟩ := lit_step hI hne hLr ((Below.refl _ _).alloc (Nat.le_refl _) _) hgrow hgg (by omega)
   rw [show (upto (at0 [c.ci, c.ch, c.co]) q).map (Value.int .u64) ++ [.int .u64 y] = (upto (at0 [c.ci, c.ch, c.co]) (q + 1)).map (Value.int .u64) by rw [G.out]; simp] at hown1
   clear hgrow hgg
   go_roundw
   case rel => exact ⟨q + 1, by omega, by go_num, hown1, hb2, hI2, hne2, hL2⟩
   case measure => simp [intOf]; omega
  ·obtain rfl : q = 3 := by omega
   rw [show upto (at0 [c.ci, c.ch, c.co]) 3 = [c.ci, c.ch, c.co] from rfl] at hown
   have hBc := HB0.below hb (by omega)
   obtain ⟨d0, d1, d2, d3, d4, d5, d6, d7, d8, d9, da⟩ := hBc.cfg
   have hlc := hBc.lt
   clear hI hne hLr
   have hbs := hb.size
   go_wp2_with (at_builtin; refine wpList_append_lies _ rfl _ _ 146 rfl (w.heap.size + 1) 27 i0 (.int .u64 0) 1 8 Tryz.underlying146 hi0 hz0 hz1 hz2 rfl (by decide) u7 3 _ rfl (hown.alloc _) ⟨wr.heap.size, 0, none⟩ 1 1 [.int .u64 c.seed] rfl rfl (World.news_of_block (cs := #[.int .u64 c.seed]) (t := 27) (fr := (0, 0)) (heap_alloc_new _ _)) (by simp [Value.oneCell']) (by omega) (by unfold maxLen; omega) (by omega) (by simp; omega) (wr.heap.size + 1) (by simp) ?_; intro ga cap_ga w2 hown_ga hgrow hgg hlt_ga; obtain ⟨x0, x1', x2, x3, x4, x5, x6, x7, x8, x9, xa⟩ := ((hBc.alloc (.cells #[.int .u64 c.seed] 27)).grown hgrow (fun e => by have := (hown.lt _ e.symm).1; omega)).cfg)
   have hb2 := Below.grown (hb.alloc (by omega) (.cells #[.int .u64 c.seed] 27)) hgrow (by simp; omega) (fun x hx => (hown.lt x hx).1)
   have LI := Ints.made w2 [c.batch, c.steps, c.rate, c.decay, c.how, c.keep, c.clip] 7 rfl #[.int .i64 c.batch, .int .i64 c.steps, .int .i64 c.rate, .int .i64 c.decay, .int .i64 c.how, .int .i64 c.keep, .int .i64 c.clip] rfl rfl 3
   have bX : Below (w.heap.size + 1) x1 (w2.alloc (.cells #[.int .i64 c.batch, .int .i64 c.steps, .int .i64 c.rate, .int .i64 c.decay, .int .i64 c.how, .int .i64 c.keep, .int .i64 c.clip] 3)) := hb2.alloc (by have := hb2.size; omega) _
   have hLX : w2.heap.size < (w2.alloc (.cells #[.int .i64 c.batch, .int .i64 c.steps, .int .i64 c.rate, .int .i64 c.decay, .int .i64 c.how, .int .i64 c.keep, .int .i64 c.clip] 3)).heap.size := by simp
   have hown2 := hown_ga.alloc (.cells #[.int .i64 c.batch, .int .i64 c.steps, .int .i64 c.rate, .int .i64 c.decay, .int .i64 c.how, .int .i64 c.keep, .int .i64 c.clip] 3)
   rw [show ([c.ci, c.ch, c.co].map (Value.int .u64) ++ [.int .u64 c.seed]) = ([c.ci, c.ch, c.co, c.seed] ++ upto (at0 [c.batch, c.steps, c.rate, c.decay, c.how, c.keep, c.clip]) 0).map (Value.int .u64) from rfl] at hown2
   have hlit : ga ≠ w2.heap.size := by omega
   obtain ⟨M, hM⟩ : ∃ M, M = w2.heap.size := ⟨_, rfl⟩
   obtain ⟨W2, hW2⟩ : ∃ W2, W2 = (w2.alloc (.cells #[.int .i64 c.batch, .int .i64 c.steps, .int .i64 c.rate, .int .i64 c.decay, .int .i64 c.how, .int .i64 c.keep, .int .i64 c.clip] 3)) := ⟨_, rfl⟩
   rw [← hW2, ← hM] at LI
   rw [← hW2] at bX hown2
   rw [← hW2, ← hM] at hLX
   rw [← hM] at hlit
   have HW2 := Lib.hid hW2
   have HM := Lib.hid hM
   clear hW2 hM hgrow hgg hown hown_ga hb hb2 hBc d0 d1 d2 d3 d4 d5 d6 d7 d8 d9 da
   go_wp2
   rw [← HW2.out, ← HM.out]
   go_loopw [7, 11, 65] (fun l _ j wr => ∃ q : Nat, q ≤ 7 ∧ j = .int .i64 q ∧ wr.ownsRow (w.heap.size + 1) 27 1 l (4 + q) (([c.ci, c.ch, c.co, c.seed] ++ upto (at0 [c.batch, c.steps, c.rate, c.decay, c.how, c.keep, c.clip]) q).map (.int .u64)) ∧ Below (w.heap.size + 1) x1 wr ∧ Ints .i64 wr (some ⟨M, 0, none⟩) 7 [c.batch, c.steps, c.rate, c.decay, c.how, c.keep, c.clip] ∧ l.ownBlock ≠ some M ∧ M < wr.heap.size) (fun _ _ j _ => 7 - (intOf j).toNat)
   case atStart => exact ⟨0, by omega, rfl, hown2, bX, LI, (fun h => hlit (Option.some.inj h)), hLX⟩
   case round =>
    clear LI bX hLX hown2 x0 x1' x2 x3 x4 x5 x6 x7 x8 x9 xa hlit hlt_ga
    obtain ⟨q, hq, rfl, hown, hb, hI, hne, hLr⟩ := hrel
    have hbs := hb.size
    by_cases hlt : q < 7
    ·obtain ⟨b, off, hA, hbl, hc⟩ := hI.cells (by omega)
     obtain ⟨rfl, rfl⟩ : M = b ∧ 0 = off := by cases hA; exact ⟨rfl, rfl⟩
     have g1 := hc q hlt
     rw [Nat.zero_add] at g1
     obtain ⟨y0, y1⟩ := HU7.out q hlt
     have G := Lib.hid (upto_succ (at0 [c.batch, c.steps, c.rate, c.decay, c.how, c.keep, c.clip]) q)
     obtain ⟨y, hy⟩ : ∃ y, y = at0 [c.batch, c.steps, c.rate, c.decay, c.how, c.keep, c.clip] q := ⟨_, rfl⟩
     rw [← hy] at g1 y0 y1 G
     have wy : IntKind.u64.wrap y = y := wrap_u64_in (by omega) (by omega)
     have k1 : (q : Int) < 7 := by omega
     clear hc hy hA
     go_wp2_with (at_builtin; refine wpList_append_lies _ rfl _ _ 146 rfl (w.heap.size + 1) 27 i0 (.int .u64 0) 1 8 Tryz.underlying146 hi0 hz0 hz1 hz2 rfl (by decide) u7 (4 + q) _ rfl (hown.alloc _) ⟨wr.heap.size, 0, none⟩ 1 1 [.int .u64 y] rfl rfl (World.news_of_block (cs := #[.int .u64 y]) (t := 27) (fr := (0, 0)) (heap_alloc_new _ _)) (by simp [Value.oneCell']) (by omega) (by unfold maxLen; omega) (by omega) (by simp; omega) (wr.heap.size + 1) (by simp) ?_; intro gb cap_gb w3 hown_gb hgrow hgg hlt_gb)
     have hb2 := Below.grown (hb.alloc (by omega) (.cells #[.int .u64 y] 27)) hgrow (by simp; omega) (fun x hx => (hown.lt x hx).1)
     obtain ⟨hI2, hne2, hL2⟩ := lit_step hI hne hLr ((Below.refl _ _).alloc (Nat.le_refl _) _) hgrow hgg (by omega)
     rw [show ([c.ci, c.ch, c.co, c.seed] ++ upto (at0 [c.batch, c.steps, c.rate, c.decay, c.how, c.keep, c.clip]) q).map (Value.int .u64) ++ [.int .u64 y] = ([c.ci, c.ch, c.co, c.seed] ++ upto (at0 [c.batch, c.steps, c.rate, c.decay, c.how, c.keep, c.clip]) (q + 1)).map (Value.int .u64) by rw [G.out]; simp] at hown_gb
     clear hgrow hgg
     go_roundw
     case rel => exact ⟨q + 1, by omega, by go_num, hown_gb, hb2, hI2, hne2, hL2⟩
     case measure => simp [intOf]; omega
    ·obtain rfl : q = 7 := by omega
     rw [show ((7 : Nat) : Int) = 7 from rfl]
     rw [show ([c.ci, c.ch, c.co, c.seed] ++ upto (at0 [c.batch, c.steps, c.rate, c.decay, c.how, c.keep, c.clip]) 7) = cfgW c from rfl] at hown
     have hbx := hbw.trans (hb.mono (by omega))
     obtain ⟨w4, hw4⟩ : ∃ w4 : World, w4 = wr := ⟨_, rfl⟩
     clear hI hne hLr
     rw [← hw4] at hown hb hbs hbx
     have HW4 := Lib.hid hw4
     clear hw4
     go_wp2
     rw [← HW4.out]
     go_loopw [7, 13, 14, 15, 77] (fun l _ _ _ j wr => ∃ q : Nat, q ≤ n ∧ j = .int .i64 q ∧ wr.ownsRow (w.heap.size + 1) 27 1 l (11 + q) ((cfgW c ++ upto (fun i => exRoot (duoAt ds i)) q).map (.int .u64)) ∧ Below (w.heap.size + 1) x1 wr) (fun _ _ _ _ j _ => n - (intOf j).toNat)
     case atStart => exact ⟨0, by omega, rfl, by rw [show upto (fun i => exRoot (duoAt ds i)) 0 = [] from rfl, List.append_nil]; exact hown, hb⟩
     case round =>
      clear hown hb hbs hbx
      obtain ⟨q, hq, rfl, hown, hb⟩ := hrel
      have hbs := hb.size
      have hbx := hbw.trans (hb.mono (by omega))
      by_cases hlt : q < n
      ·obtain ⟨db, dO, hDe, hdb, hdc⟩ := (hd.below hbx).cells (by omega)
       subst hDe
       obtain ⟨X, ni, xc, T, no, tc, g1, g2, ix, it, z1, z2, z3, z4⟩ := hdc q hlt
       obtain ⟨xl, tl, _, _⟩ := HEX.out q hlt
       have hi4 := HI4.out
       have ho4 := HO4.out
       have ixl := ix.len
       have itl := it.len
       have hni : ni ≤ 4 := by omega
       have hno : no ≤ 4 := by omega
       have G := Lib.hid (upto_succ (fun i => exRoot (duoAt ds i)) q)
       have RB := HRB.out q
       obtain ⟨p, hp⟩ : ∃ p, p = duoAt ds q := ⟨_, rfl⟩
       rw [← hp] at G ix it RB
       obtain ⟨y, hy⟩ : ∃ y, y = exRoot p := ⟨_, rfl⟩
       rw [show rootO (p.1 ++ p.2) = y from hy.symm] at RB
       have HY := Lib.hid (show rootO (p.1 ++ p.2) = y from hy.symm)
       rw [← hy] at G
       obtain ⟨y0, y1⟩ := RB
       have k0 : (0 : Int) ≤ (q : Int) := by omega
       have k1 : (q : Int) < (n : Int) := by omega
       obtain ⟨K, hK⟩ : ∃ K, ni + no = K := ⟨_, rfl⟩
       have hK8 : K ≤ 8 := by omega
       have HCA := Lib.hid (fun W (h : Below wr.heap.size wr W) g k (hg : W.heap.size = g) => cat_fine X T ni xc no tc p.1 p.2 W (ix.below h) (it.below h) (by omega) g k hg K hK)
       clear hdc hp hy xl tl hi4 ho4 ixl itl
       go_wp2_with fail
       refine (HCA.out _ ((Below.refl _ _).alloc (Nat.le_refl _) _) _ _ (by simp)).mono ?_
       rintro e u1 ⟨S, s, rfl, IS, hcap, hb1⟩
       have hb1' : Below wr.heap.size wr u1 := Below.trans (B := wr.heap.size) (by repeat (first | exact Below.refl _ _ | assumption | refine bel_drewN ?_ _ | refine Below.drew ?_ | (refine Below.alloc ?_ (by simp <;> omega) _) | (refine Below.setCell ?_ (by simp <;> omega) _))) (hb1.mono (by simp <;> omega))
       have HTR := Lib.hid (tree_Root_any S K s (p.1 ++ p.2) u1 IS hcap (by omega))
       clear hb1 HCA ix it IS
       go_wp2_with fail
       refine HTR.out.mono ?_
       rintro e u2 ⟨rfl, hb2⟩
       rw [HY.out]
       have hb12 := bel_trans hb1' hb2
       have hown2 := own_below hown hb12
       have hs2 := hb12.size
       clear hb1' hb2 hown g1 g2
       go_wp2_with (at_builtin; refine wpList_append_lies _ rfl _ _ 146 rfl (w.heap.size + 1) 27 i0 (.int .u64 0) 1 8 Tryz.underlying146 hi0 hz0 hz1 hz2 rfl (by decide) u7 (11 + q) _ rfl (hown2.alloc _) ⟨u2.heap.size, 0, none⟩ 1 1 [.int .u64 y] rfl rfl (World.news_of_block (cs := #[.int .u64 y]) (t := 27) (fr := (0, 0)) (heap_alloc_new _ _)) (by simp [Value.oneCell']) (by omega) (by unfold maxLen; omega) (by omega) (by simp; omega) (u2.heap.size + 1) (by simp) ?_; intro gc cap_gc w5 hown_gc hgrow hgg hlt_gc)
       have hb3 := Below.grown ((hb.trans (hb12.mono (by omega))).alloc (by omega) (.cells #[.int .u64 y] 27)) hgrow (by simp; omega) (fun x hx => (hown2.lt x hx).1)
       rw [show (cfgW c ++ upto (fun i => exRoot (duoAt ds i)) q).map (Value.int .u64) ++ [.int .u64 y] = (cfgW c ++ upto (fun i => exRoot (duoAt ds i)) (q + 1)).map (Value.int .u64) by rw [G.out]; simp] at hown_gc
       clear hgrow hgg
       go_roundw
       case rel => exact ⟨q + 1, by omega, by go_num, hown_gc, hb3⟩
       case measure => simp [intOf]; omega
      ·obtain rfl : q = n := by omega
       have hBc := HB0.below hb (by omega)
       obtain ⟨d0, d1, d2, d3, d4, d5, d6, d7, d8, d9, da⟩ := hBc.cfg
       go_wp2_with fail
       refine (HSR.out _).mono ?_
       rintro e u1 ⟨A1, k1, A2, k2, rfl, O1, O2, hb1⟩
       have I1 := Ints.of_own O1 (startW_length _ _)
       have I2 := Ints.of_own O2 (zerosL_length _)
       go_wp2_with fail
       refine (HRT.out A1 A2 k1 k2 _ (I1.alloc _) (I2.alloc _)).mono ?_
       rintro e u2 ⟨rfl, hb2⟩
       have hb12 : Below wr.heap.size wr u2 := (hb1.alloc hb1.size _).trans (hb2.mono (by have := hb1.size; simp; omega))
       have hown2 := own_below hown hb12
       have hs2 := hb12.size
       obtain ⟨y0, y1⟩ := rootO_u64 ((start c).1 ++ (start c).2)
       have HW' := Lib.hid HW.out
       obtain ⟨y, hy⟩ : ∃ y, y = rootS (start c) := ⟨_, rfl⟩
       rw [← hy]
       have HWY := Lib.hid (show cfgW c ++ upto (fun i => exRoot (duoAt ds i)) q ++ [y] = headW c ds by rw [hy]; exact HW'.out)
       clear hb1 hb2 O1 O2 I1 I2 d0 d1 d2 d3 d4 d5 d6 d7 d8 d9 da hown hy y0 y1
       go_wp2_with (at_builtin; refine wpList_append_lies _ rfl _ _ 146 rfl (w.heap.size + 1) 27 i0 (.int .u64 0) 1 8 Tryz.underlying146 hi0 hz0 hz1 hz2 rfl (by decide) u7 (11 + q) _ rfl (hown2.alloc _) ⟨u2.heap.size, 0, none⟩ 1 1 [.int .u64 y] rfl rfl (World.news_of_block (cs := #[.int .u64 y]) (t := 27) (fr := (0, 0)) (heap_alloc_new _ _)) (by simp [Value.oneCell']) (by omega) (by unfold maxLen; omega) (by omega) (by simp; omega) (u2.heap.size + 1) (by simp) ?_; intro gc cap_gc w5 hown_gc hgrow hgg hlt_gc)
       have hb3 := Below.grown ((hb.trans (hb12.mono (by omega))).alloc (by omega) (.cells #[.int .u64 y] 27)) hgrow (by simp; omega) (fun x hx => (hown2.lt x hx).1)
       rw [show (cfgW c ++ upto (fun i => exRoot (duoAt ds i)) q).map (Value.int .u64) ++ [.int .u64 y] = (headW c ds).map (Value.int .u64) by rw [← HWY.out]; simp] at hown_gc
       have hown3 : w5.ownsRow (w.heap.size + 1) 27 1 (.slice (some ⟨gc, 0, none⟩) (12 + q) cap_gc) (12 + q) ((headW c ds).map (.int .u64)) := by
        rw [show 12 + q = 11 + q + 1 by omega]; exact hown_gc
       have I5 := Ints.of_own hown3 (by have := hown3.1; rw [List.length_map] at this; omega)
       rw [show 11 + q + 1 = 12 + q by omega]
       refine (HOF.out _ _ _ I5).mono ?_
       rintro e w6 ⟨rfl, hb6⟩
       rw [HHI.out]
       go_wp2
       go_ret2
       exact ⟨rfl, (hbw.trans (hb3.mono (by omega))).trans (hb6.mono (hbw.trans (hb3.mono (by omega))).size)⟩
theorem rec_info : (Tryz.prog.info? 90).map (fun i => (i.zero, i.size, i.bytes)) = some (some (.agg #[.int .i64 0, .slice none 0 0, .int .i64 0, .int .u64 0, .int .u64 0]), 5, 56) := by kernel_rfl
theorem chainC_bd (c : Cfg) (ds : Data) : ∀ k, 0 ≤ chainC c ds k ∧ chainC c ds k < 18446744073709551616
 | 0 => by
  have h1 := ofI_lo 5 (headW c ds)
  have h2 := ofI_hi 5 (headW c ds)
  show 0 ≤ ofI 5 (headW c ds) ∧ ofI 5 (headW c ds) < _
  omega
 | k + 1 => by
  have h1 := ofI_lo 6 (chW (chainC c ds k) (recB c ds k))
  have h2 := ofI_hi 6 (chW (chainC c ds k) (recB c ds k))
  show 0 ≤ ofI 6 (chW (chainC c ds k) (recB c ds k)) ∧ ofI 6 (chW (chainC c ds k) (recB c ds k)) < _
  omega
theorem chain_fine (c : Cfg) (ds : Data) (hf : Fine c ds) (k : Nat) (hk : (k : Int) < c.steps) (A : Option Addr) (ec : Nat) (W : World) (q : Ints .i64 W A c.batch.toNat ((batI c ds k).map fun (n : Nat) => (n : Int))) :
  Calls Tryz.prog 77 #[.int .u64 (chainC c ds k), .agg #[.int .i64 k, .slice A c.batch.toNat ec, .int .i64 (ratI c k), .int .u64 (rootS (states c ds (k + 1))), .int .u64 0]] W fun e w' => e = .returned (.tuple #[.int .u64 (chainC c ds (k + 1)), .int .i64 0]) ∧ Below W.heap.size W w' := by
 have hr := ratI_bd c hf.ok k hk
 have hst := hf.ok.st
 have hb := chainC_bd c ds k
 have ht := rootO_u64 ((states c ds (k + 1)).1 ++ (states c ds (k + 1)).2)
 exact jrn_Chain_ok (chainC c ds k) (recB c ds k) A _ ec W q (chE_recB hf hk) hb.1 hb.2 (by show (k : Int) < _; omega) (by show ratI c k < _; omega) ht.1 ht.2 (fun z hz => by
  obtain ⟨n, hn, rfl⟩ := List.mem_map.1 hz
  have := batI_lt c ds hf.d1 k n hn
  have := hf.d16
  omega)
theorem recC_K {m : Option Nat} {w : World} {o : Option Nat} {b : Value} (c : Cfg) (ds : Data) (k : Nat) (h : ListV m w o b ((batI c ds k).map fun (n : Nat) => (n : Int))) :
  RecK m w o [.int .i64 k, b, .int .i64 (ratI c k), .int .u64 (rootS (states c ds (k + 1))), .int .u64 (chainC c ds (k + 1))] (recC c ds k) := ⟨b, rfl, h⟩
theorem But.far {g : Nat} {a b : World} (h : But g a b) {p : Addr} (hp : a.heap.size ≤ p.block) (v : Value) : But g a (b.setCell p v) :=
 ⟨h.os, h.tape, h.output, by have := h.size; simpa using this, fun k hk hn => (heap_setCell_other b p k v (by omega)).trans (h.block k hk hn)⟩
theorem Blk.rec5 {w : World} {g : Nat} {t : TypeId} {a0 a1 a2 a3 a4 : Value} (h : Blk w g t #[a0, a1, a2, a3, a4]) : (w.cell? ⟨g, 0, none⟩ = some a0 ∧ w.cell? ⟨g, 1, none⟩ = some a1 ∧ w.cell? ⟨g, 2, none⟩ = some a2 ∧ w.cell? ⟨g, 3, none⟩ = some a3 ∧ w.cell? ⟨g, 4, none⟩ = some a4) ∧
  w.frozen? ⟨g, 0, none⟩ = false ∧ w.frozen? ⟨g, 1, none⟩ = false ∧ w.frozen? ⟨g, 2, none⟩ = false ∧ w.frozen? ⟨g, 3, none⟩ = false ∧ w.frozen? ⟨g, 4, none⟩ = false :=
 ⟨⟨h.cell 0, h.cell 1, h.cell 2, h.cell 3, h.cell 4⟩, h.frozen 0, h.frozen 1, h.frozen 2, h.frozen 3, h.frozen 4⟩
theorem jrn_Make_crs (c : Cfg) (ds : Data) (D : Option Addr) (n dc : Nat) (w : World) (hd : Duos w D n ds) (hn : n ≤ 9223372036854775806) (N : Int) (hC : crs c ds ≠ 0) :
  Calls Tryz.prog 47 #[.agg #[.int .i64 c.ci, .int .i64 c.ch, .int .i64 c.co, .int .u64 c.seed, .int .i64 c.batch, .int .i64 c.steps, .int .i64 c.rate, .int .i64 c.decay, .int .i64 c.how, .int .i64 c.keep, .int .i64 c.clip], .slice D n dc, .int .i64 N] w fun e w' => e = .returned (.tuple #[.slice none 0 0, .int .i64 (crs c ds)]) ∧ Below w.heap.size w w' := by
 have HCK := Lib.hid (fun W (h : Below w.heap.size w W) => jrn_Head_no c ds D n dc W (hd.below h) hn hC)
 have t : (crs c ds != 0) = true := by rw [bne_iff_ne]; exact hC
 clear hC
 go_enter Tryz.func47, Tryz.ntmps47
 go_wp2_with fail
 refine (HCK.out _ ((Below.refl _ _).alloc (Nat.le_refl _) _)).mono ?_
 rintro e x1 ⟨rfl, hb1⟩
 have hbw : Below w.heap.size w x1 := Below.trans (B := w.heap.size) (by repeat (first | exact Below.refl _ _ | assumption | refine bel_drewN ?_ _ | refine Below.drew ?_ | (refine Below.alloc ?_ (by simp <;> omega) _) | (refine Below.setCell ?_ (by simp <;> omega) _))) (hb1.mono (by simp))
 go_wp2
 go_ret2
 exact ⟨rfl, hbw⟩
theorem jrn_Make_ok (c : Cfg) (ds : Data) (hC : crs c ds = 0) (s0 : 0 ≤ c.seed) (s1 : c.seed < 18446744073709551616) (D : Option Addr) (n dc : Nat) (w : World) (hd : Duos w D n ds) (N : Nat) (hN : (N : Int) ≤ c.steps) :
  Calls Tryz.prog 47 #[.agg #[.int .i64 c.ci, .int .i64 c.ch, .int .i64 c.co, .int .u64 c.seed, .int .i64 c.batch, .int .i64 c.steps, .int .i64 c.rate, .int .i64 c.decay, .int .i64 c.how, .int .i64 c.keep, .int .i64 c.clip], .slice D n dc, .int .i64 N] w fun e w' => ∃ A k, e = .returned (.tuple #[.slice A N k, .int .i64 0]) ∧ RecHeld none w.heap.size (recC c ds) N (.slice A N k) w' ∧ Below w.heap.size w w' := by
 obtain ⟨i0, hi0, hz0, hz1, hz2⟩ := info_parts rec_info
 have hf := fine hC
 have hst := hf.ok.st
 have hn : n ≤ 9223372036854775806 := by have := hf.d16; have := hd.len; omega
 have HCK := Lib.hid (fun W (h : Below w.heap.size w W) => jrn_Head_ok c ds hC s0 s1 D n dc W (hd.below h))
 have HNX := Lib.hid (fun W (h : Below w.heap.size w W) (k : Nat) (hk : (k : Int) < c.steps) A1 A2 k1 k2 i1 i2 hk1 => trn_Next_ok c ds hC s0 s1 D n dc W (hd.below h) (states c ds k) (fits_states c ds k) A1 A2 k1 k2 i1 i2 hk1 k hk)
 have HSR := Lib.hid (fun W => start_fine c hf.e s0 s1 W)
 have HRT := Lib.hid (fun (k : Nat) A1 A2 k1 k2 W => root_fine c hf.ok (states c ds (k + 1)) A1 A2 k1 k2 W)
 have HCH := Lib.hid (fun (k : Nat) (hk : (k : Int) < c.steps) A ec W => chain_fine c ds hf k hk A ec W)
 have HRK := Lib.hid (fun (m : Option Nat) (w : World) (o : Option Nat) (b : Value) (k : Nat) (h : ListV m w o b ((batI c ds k).map fun (n : Nat) => (n : Int))) => recC_K c ds k h)
 have HL1 := Lib.hid (states_len1 c ds)
 have HL2 := Lib.hid (states_len2 c ds)
 have HLB := Lib.hid (fun k => show ((batI c ds k).map fun (n : Nat) => (n : Int)).length = c.batch.toNat by rw [List.length_map, batI_length])
 have HSU := Lib.hid (states_succ c ds)
 have HZ := Lib.hid (states_zero c ds)
 have HH := Lib.hid (show chainC c ds 0 = headI c ds from rfl)
 have HB0 := Blk.made w 29 #[.int .i64 c.ci, .int .i64 c.ch, .int .i64 c.co, .int .u64 c.seed, .int .i64 c.batch, .int .i64 c.steps, .int .i64 c.rate, .int .i64 c.decay, .int .i64 c.how, .int .i64 c.keep, .int .i64 c.clip]
 have hN1 : ¬ c.steps < (N : Int) := by omega
 clear hC hf hd hn
 obtain ⟨st, hst'⟩ : ∃ st, st = states c ds := ⟨_, rfl⟩
 rw [← hst'] at HNX HL1 HL2 HSU HZ HRT HCH HRK
 clear hst'
 obtain ⟨nx, hnx⟩ : ∃ nx, nx = fun k => nextS c ds (st k) k := ⟨_, rfl⟩
 have HNE := Lib.hid (fun k => show nextS c ds (st k) k = nx k from by rw [hnx])
 clear hnx
 have HSK := Lib.hid (fun k => show st (k + 1) = nx k from (HSU.out k).trans (HNE.out k))
 obtain ⟨sa, hsa⟩ : ∃ sa, sa = start c := ⟨_, rfl⟩
 rw [← hsa] at HSR HZ
 clear hsa
 obtain ⟨ch, hch⟩ : ∃ ch, ch = chainC c ds := ⟨_, rfl⟩
 rw [← hch] at HCH HRK HH
 clear hch
 obtain ⟨bt, hbt⟩ : ∃ bt, bt = fun k => (batI c ds k).map fun (n : Nat) => (n : Int) := ⟨_, rfl⟩
 have HBT := Lib.hid (fun k => show ((batI c ds k).map fun (n : Nat) => (n : Int)) = bt k from by rw [hbt])
 have HLB' := Lib.hid (fun k => show (bt k).length = c.batch.toNat by rw [hbt]; exact HLB.out k)
 clear hbt
 obtain ⟨rc, hrc⟩ : ∃ rc, rc = recC c ds := ⟨_, rfl⟩
 rw [← hrc] at HRK ⊢
 clear hrc
 go_enter Tryz.func47, Tryz.ntmps47
 go_wp2_with fail
 refine (HCK.out _ ((Below.refl _ _).alloc (Nat.le_refl _) _)).mono ?_
 rintro e x1 ⟨rfl, hb1⟩
 rw [← HH.out]
 have hbw : Below w.heap.size w x1 := Below.trans (B := w.heap.size) (by repeat (first | exact Below.refl _ _ | assumption | refine bel_drewN ?_ _ | refine Below.drew ?_ | (refine Below.alloc ?_ (by simp <;> omega) _) | (refine Below.setCell ?_ (by simp <;> omega) _))) (hb1.mono (by simp))
 replace HB0 := HB0.below hb1 (by simp)
 have hlw : w.heap.size < x1.heap.size := HB0.lt
 clear hb1 HCK
 obtain ⟨d0, d1, d2, d3, d4, d5, d6, d7, d8, d9, da⟩ := HB0.cfg
 go_wp2_with fail
 refine (HSR.out _).mono ?_
 rintro e x2 ⟨A1, k1, A2, k2, rfl, O1, O2, hb2⟩
 rw [← HZ.out] at O1 O2
 have hs2 := hb2.size
 have l1 := own_capT O1
 have hbw2 := hbw.trans (hb2.mono hbw.size)
 replace HB0 := HB0.below hb2 hlw
 have bA : Below x2.heap.size x2 (x2.alloc (.cells #[.slice A1 c.N k1, .slice A2 c.N k2] 106)) := (Below.refl _ _).alloc (Nat.le_refl _) _
 have HM0 : Blk (x2.alloc (.cells #[.slice A1 c.N k1, .slice A2 c.N k2] 106)) x2.heap.size 106 #[.slice A1 c.N k1, .slice A2 c.N k2] := Blk.made _ _ _
 have I1 := (Ints.of_own O1 (HL1.out 0)).below bA
 have I2 := (Ints.of_own O2 (HL2.out 0)).below bA
 obtain ⟨W0, hW0⟩ : ∃ W0, W0 = (x2.alloc (.cells #[.slice A1 c.N k1, .slice A2 c.N k2] 106)) := ⟨_, rfl⟩
 rw [← hW0] at HM0 bA I1 I2
 obtain ⟨m, hm⟩ : ∃ m, m = x2.heap.size := ⟨_, rfl⟩
 have hmw : w.heap.size < m := by omega
 have hB0 := HB0.below bA HB0.lt
 have hbw0 := hbw2.trans (bA.mono hbw2.size)
 have HW0 := Lib.hid hW0
 rw [← hm] at HM0
 have HM := Lib.hid hm
 have hmz := HM0.lt
 clear hW0 hm bA O1 O2 HB0 hbw hbw2 hb2 hs2 hlw d0 d1 d2 d3 d4 d5 d6 d7 d8 d9 da
 go_wp2
 rw [← HW0.out, ← HM.out]
 go_loopw [8, 12, 13, 14, 40] (fun h o _ _ j wr => ∃ (k : Nat) (A1 : Option Addr) (k1 : Nat) (A2 : Option Addr) (k2 : Nat), k ≤ N ∧ j = .int .i64 k ∧ h = .int .u64 (ch k) ∧ RecHeld (some m) (m + 1) rc k o wr ∧ Blk wr m 106 #[.slice A1 c.N k1, .slice A2 c.N k2] ∧
  Ints .i64 wr A1 c.N (st k).1 ∧ Ints .i64 wr A2 c.N (st k).2 ∧ c.N ≤ k1 ∧ Below m W0 wr) (fun _ _ _ _ j _ => N - (intOf j).toNat)
 case atStart => exact ⟨0, A1, k1, A2, k2, by omega, rfl, rfl, Held.zero, HM0, I1, I2, l1, Below.refl _ _⟩
 case round =>
  clear HM0 I1 I2 l1
  obtain ⟨k, A1, k1, A2, k2, hk, rfl, rfl, hH, hM, I1, I2, l1, hb⟩ := hrel
  have hbx := hbw0.trans (hb.mono (by omega))
  have hBc := hB0.below hb (by omega)
  by_cases hlt : k < N
  ·obtain ⟨d0, d1, d2, d3, d4, d5, d6, d7, d8, d9, da⟩ := hBc.cfg
   obtain ⟨⟨p0, p1⟩, _⟩ := hM.two
   have hbs := hb.size
   have hlm := hM.lt
   have hlc := hBc.lt
   have b1 : Below wr.heap.size wr (wr.alloc (.cells #[.int .i64 k, .slice none 0 0, .int .i64 0, .int .u64 0, .int .u64 0] 90)) := (Below.refl _ _).alloc (Nat.le_refl _) _
   have R0 : Blk (wr.alloc (.cells #[.int .i64 k, .slice none 0 0, .int .i64 0, .int .u64 0, .int .u64 0] 90)) wr.heap.size 90 #[.int .i64 k, .slice none 0 0, .int .i64 0, .int .u64 0, .int .u64 0] := Blk.made _ _ _
   have hsz0 : (wr.alloc (.cells #[.int .i64 k, .slice none 0 0, .int .i64 0, .int .u64 0, .int .u64 0] 90)).heap.size = wr.heap.size + 1 := by simp
   go_wp2_with fail
   refine (HNX.out _ (hbx.trans (b1.mono hbx.size)) k (by omega) A1 A2 k1 k2 (I1.below b1) (I2.below b1) l1).mono ?_
   rintro e u1 ⟨B1, q1, B2, q2, E, ec, rfl, O1, O2, O3, hb1⟩
   rw [HNE.out] at O1 O2
   rw [← HSK.out k] at O1 O2
   rw [HBT.out] at O3
   rw [hsz0] at O1 O2 O3
   have hM1 := (hM.below b1 hlm).below hb1 (by omega)
   have R1 := R0.below hb1 R0.lt
   obtain ⟨⟨r0, r1⟩, r2, r3⟩ := hM1.two
   obtain ⟨⟨t0, t1, t2, t3, t4⟩, f0, f1, f2, f3, f4⟩ := R1.rec5
   have hlm1 := hM1.lt
   have hlr1 := R1.lt
   have hmr : m ≠ wr.heap.size := by omega
   have hrm : wr.heap.size ≠ m := by omega
   have B1m := ((((but_below (but_below (But.refl m wr) b1) hb1).put 0 (.slice B1 c.N q1)).put 1 (.slice B2 c.N q2)).far (p := ⟨wr.heap.size, 1, none⟩) (Nat.le_refl _) (.slice E c.batch.toNat ec)).far (p := ⟨wr.heap.size, 2, none⟩) (Nat.le_refl _) (.int .i64 (ratI c k))
   have MY := (((hM1.put 0 (.slice B1 c.N q1)).put 1 (.slice B2 c.N q2)).far (p := ⟨wr.heap.size, 1, none⟩) hmr (.slice E c.batch.toNat ec)).far (p := ⟨wr.heap.size, 2, none⟩) hmr (.int .i64 (ratI c k))
   have RY := (((R1.far (p := ⟨m, 0, none⟩) hrm (.slice B1 c.N q1)).far (p := ⟨m, 1, none⟩) hrm (.slice B2 c.N q2)).put 1 (.slice E c.batch.toNat ec)).put 2 (.int .i64 (ratI c k))
   have far4 : ∀ {v : Value} {n : Nat} {xs : List Value}, u1.ownsRow (wr.heap.size + 1) 3 1 v n xs → ((((u1.setCell ⟨m, 0, none⟩ (.slice B1 c.N q1)).setCell ⟨m, 1, none⟩ (.slice B2 c.N q2)).setCell ⟨wr.heap.size, 1, none⟩ (.slice E c.batch.toNat ec)).setCell ⟨wr.heap.size, 2, none⟩ (.int .i64 (ratI c k))).ownsRow (wr.heap.size + 1) 3 1 v n xs := fun h => own_far (own_far (own_far (own_far h (p := ⟨m, 0, none⟩) (by simp; omega) _) (p := ⟨m, 1, none⟩) (by simp; omega) _) (p := ⟨wr.heap.size, 1, none⟩) (by simp) _) (p := ⟨wr.heap.size, 2, none⟩) (by simp) _
   replace O1 := far4 O1
   replace O2 := far4 O2
   replace O3 := far4 O3
   have W1 : Below m W0 ((((u1.setCell ⟨m, 0, none⟩ (.slice B1 c.N q1)).setCell ⟨m, 1, none⟩ (.slice B2 c.N q2)).setCell ⟨wr.heap.size, 1, none⟩ (.slice E c.batch.toNat ec)).setCell ⟨wr.heap.size, 2, none⟩ (.int .i64 (ratI c k))) := ((((((hb.trans (b1.mono (by omega))).trans (hb1.mono (by simp; omega))).setCell (p := ⟨m, 0, none⟩) (Nat.le_refl _) _).setCell (p := ⟨m, 1, none⟩) (Nat.le_refl _) _).setCell (p := ⟨wr.heap.size, 1, none⟩) (by simp; omega) _).setCell (p := ⟨wr.heap.size, 2, none⟩) (by simp; omega) _)
   have sy1 : wr.heap.size + 1 ≤ ((((u1.setCell ⟨m, 0, none⟩ (.slice B1 c.N q1)).setCell ⟨m, 1, none⟩ (.slice B2 c.N q2)).setCell ⟨wr.heap.size, 1, none⟩ (.slice E c.batch.toNat ec)).setCell ⟨wr.heap.size, 2, none⟩ (.int .i64 (ratI c k))).heap.size := by have := hb1.size; simp at this ⊢; omega
   obtain ⟨y1, hy1⟩ : ∃ y1, y1 = ((((u1.setCell ⟨m, 0, none⟩ (.slice B1 c.N q1)).setCell ⟨m, 1, none⟩ (.slice B2 c.N q2)).setCell ⟨wr.heap.size, 1, none⟩ (.slice E c.batch.toNat ec)).setCell ⟨wr.heap.size, 2, none⟩ (.int .i64 (ratI c k))) := ⟨_, rfl⟩
   rw [← hy1] at B1m MY RY O1 O2 O3 W1 sy1
   have HY1 := Lib.hid hy1
   have J1 := Ints.of_own O1 (HL1.out (k + 1))
   have J2 := Ints.of_own O2 (HL2.out (k + 1))
   have q1l := own_capT O1
   clear hy1 far4 b1 I1 I2 hsz0 R0 hM1 R1 hb1 d0 d1 d2 d3 d4 d5 d6 d7 d8 d9 da
   go_wp2_with fail
   rw [← HY1.out]
   refine (HRT.out k B1 B2 q1 q2 y1 J1 J2).mono ?_
   rintro e u2 ⟨rfl, hb2⟩
   have R2 := RY.below hb2 RY.lt
   have M2 := MY.below hb2 MY.lt
   clear r0 r1 r2 r3 t0 t1 t2 t3 t4 f0 f1 f2 f3 f4 p0 p1
   obtain ⟨⟨t0, t1, t2, t3, t4⟩, f0, f1, f2, f3, f4⟩ := R2.rec5
   have B2m := (but_below B1m hb2).far (p := ⟨wr.heap.size, 3, none⟩) (Nat.le_refl _) (.int .u64 (rootS (st (k + 1))))
   replace O1 := own_far (own_below O1 hb2) (p := ⟨wr.heap.size, 3, none⟩) (by simp) (.int .u64 (rootS (st (k + 1))))
   replace O2 := own_far (own_below O2 hb2) (p := ⟨wr.heap.size, 3, none⟩) (by simp) (.int .u64 (rootS (st (k + 1))))
   replace O3 := own_far (own_below O3 hb2) (p := ⟨wr.heap.size, 3, none⟩) (by simp) (.int .u64 (rootS (st (k + 1))))
   have R2' := R2.put 3 (.int .u64 (rootS (st (k + 1))))
   have M2' := M2.far (p := ⟨wr.heap.size, 3, none⟩) hmr (.int .u64 (rootS (st (k + 1))))
   have W2 : Below m W0 (u2.setCell ⟨wr.heap.size, 3, none⟩ (.int .u64 (rootS (st (k + 1))))) := (W1.trans (hb2.mono (by omega))).setCell (p := ⟨wr.heap.size, 3, none⟩) (by simp; omega) _
   have sy2 : wr.heap.size + 1 ≤ (u2.setCell ⟨wr.heap.size, 3, none⟩ (.int .u64 (rootS (st (k + 1))))).heap.size := by have := hb2.size; simp; omega
   have J3 := Ints.of_own O3 (HLB'.out k)
   have lr2 := R2.lt
   clear J1 J2 hb2 W1 sy1 B1m MY RY M2
   go_wp2_with fail
   refine (HCH.out k (by omega) E ec _ (by rw [HBT.out]; exact J3)).mono ?_
   rintro e u3 ⟨rfl, hb3⟩
   have R3 := R2'.below hb3 R2'.lt
   have M3 := M2'.below hb3 M2'.lt
   clear t0 t1 t2 t3 t4 f0 f1 f2 f3 f4
   obtain ⟨⟨t0, t1, t2, t3, t4⟩, f0, f1, f2, f3, f4⟩ := R3.rec5
   have B3m := (but_below B2m hb3).far (p := ⟨wr.heap.size, 4, none⟩) (Nat.le_refl _) (.int .u64 (ch (k + 1)))
   replace O1 := own_far (own_below O1 hb3) (p := ⟨wr.heap.size, 4, none⟩) (by simp) (.int .u64 (ch (k + 1)))
   replace O2 := own_far (own_below O2 hb3) (p := ⟨wr.heap.size, 4, none⟩) (by simp) (.int .u64 (ch (k + 1)))
   replace O3 := own_far (own_below O3 hb3) (p := ⟨wr.heap.size, 4, none⟩) (by simp) (.int .u64 (ch (k + 1)))
   have M3' := M3.far (p := ⟨wr.heap.size, 4, none⟩) hmr (.int .u64 (ch (k + 1)))
   have W3 : Below m W0 (u3.setCell ⟨wr.heap.size, 4, none⟩ (.int .u64 (ch (k + 1)))) := (W2.trans (hb3.mono (by omega))).setCell (p := ⟨wr.heap.size, 4, none⟩) (by simp; omega) _
   have lr3 := R3.lt
   have hHlt := hH.lt
   have hs3 : (u3.setCell ⟨wr.heap.size, 4, none⟩ (.int .u64 (ch (k + 1)))).heap.size = u3.heap.size := by simp
   have hH3 := hH.but (fun h => h.but B3m) B3m (by omega)
   have X1 : ListV (some m) (u3.setCell ⟨wr.heap.size, 4, none⟩ (.int .u64 (ch (k + 1)))) u12.ownBlock (.slice B1 c.N q1) (st (k + 1)).1 := ListV.own O1 (HL1.out _) (fun b h1 h2 => ⟨by simp; omega, fun e => by have := hHlt b e; omega⟩)
   have X2 : ListV (some m) (u3.setCell ⟨wr.heap.size, 4, none⟩ (.int .u64 (ch (k + 1)))) u12.ownBlock (.slice B2 c.N q2) (st (k + 1)).2 := ListV.own O2 (HL2.out _) (fun b h1 h2 => ⟨by simp; omega, fun e => by have := hHlt b e; omega⟩)
   have X3 : ListV (some m) (u3.setCell ⟨wr.heap.size, 4, none⟩ (.int .u64 (ch (k + 1)))) u12.ownBlock (.slice E c.batch.toNat ec) (bt k) := ListV.own O3 (HLB'.out k) (fun b h1 h2 => ⟨by simp; omega, fun e => by have := hHlt b e; omega⟩)
   have bAl : Below (u3.setCell ⟨wr.heap.size, 4, none⟩ (.int .u64 (ch (k + 1)))).heap.size (u3.setCell ⟨wr.heap.size, 4, none⟩ (.int .u64 (ch (k + 1)))) ((u3.setCell ⟨wr.heap.size, 4, none⟩ (.int .u64 (ch (k + 1)))).alloc (.cells #[.int .i64 k, .slice E c.batch.toNat ec, .int .i64 (ratI c k), .int .u64 (rootS (st (k + 1))), .int .u64 (ch (k + 1))] 90)) := (Below.refl _ _).alloc (Nat.le_refl _) _
   have hHX := hH3.below (keeps_rec _) bAl
   have X1X := X1.below bAl
   have X2X := X2.below bAl
   have X3X := HRK.out (some m) _ u12.ownBlock _ k (by rw [HBT.out]; exact X3.below bAl)
   have hMX := M3'.alloc (.cells #[.int .i64 k, .slice E c.batch.toNat ec, .int .i64 (ratI c k), .int .u64 (rootS (st (k + 1))), .int .u64 (ch (k + 1))] 90)
   have hNB : Blk ((u3.setCell ⟨wr.heap.size, 4, none⟩ (.int .u64 (ch (k + 1)))).alloc (.cells #[.int .i64 k, .slice E c.batch.toNat ec, .int .i64 (ratI c k), .int .u64 (rootS (st (k + 1))), .int .u64 (ch (k + 1))] 90)) u3.heap.size 90 #[.int .i64 k, .slice E c.batch.toNat ec, .int .i64 (ratI c k), .int .u64 (rootS (st (k + 1))), .int .u64 (ch (k + 1))] := Blk.made' _ _ _ hs3
   have hsX : ((u3.setCell ⟨wr.heap.size, 4, none⟩ (.int .u64 (ch (k + 1)))).alloc (.cells #[.int .i64 k, .slice E c.batch.toNat ec, .int .i64 (ratI c k), .int .u64 (rootS (st (k + 1))), .int .u64 (ch (k + 1))] 90)).heap.size = u3.heap.size + 1 := by simp
   have hBX : Below m W0 ((u3.setCell ⟨wr.heap.size, 4, none⟩ (.int .u64 (ch (k + 1)))).alloc (.cells #[.int .i64 k, .slice E c.batch.toNat ec, .int .i64 (ratI c k), .int .u64 (rootS (st (k + 1))), .int .u64 (ch (k + 1))] 90)) := W3.alloc (by rw [hs3]; omega) _
   obtain ⟨vs, hoV, hpV⟩ := hHX
   have hvl := hoV.1
   clear X1 X2 X3 bAl O1 O2 O3 hH hH3 M3' M3 B3m B2m J3 W2 sy2 R2' M2'
   go_wp2_with (at_builtin; refine wpList_append_lies _ rfl _ _ 66 rfl (m + 1) 90 i0 (.agg #[.int .i64 0, .slice none 0 0, .int .i64 0, .int .u64 0, .int .u64 0]) 5 56 Tryz.underlying66 hi0 hz0 hz1 hz2 rfl (by decide) u12 k vs rfl hoV ⟨u3.heap.size, 0, none⟩ 1 1 [.int .i64 k, .slice E c.batch.toNat ec, .int .i64 (ratI c k), .int .u64 (rootS (st (k + 1))), .int .u64 (ch (k + 1))] rfl rfl (World.news_of_block (cs := #[.int .i64 k, .slice E c.batch.toNat ec, .int .i64 (ratI c k), .int .u64 (rootS (st (k + 1))), .int .u64 (ch (k + 1))]) hNB) (by simp [Value.oneCell']) (by omega) (by unfold maxLen; omega) (by omega) (by simp <;> omega) (u3.heap.size + 1) (by simp) ?_; intro g1 cap1 w1 hown1 hgrow hgg hlt1)
   have hgg' : u12.ownBlock = some g1 ∨ ((u3.setCell ⟨wr.heap.size, 4, none⟩ (.int .u64 (ch (k + 1)))).alloc (.cells #[.int .i64 k, .slice E c.batch.toNat ec, .int .i64 (ratI c k), .int .u64 (rootS (st (k + 1))), .int .u64 (ch (k + 1))] 90)).heap.size ≤ g1 := hgg.imp id (fun h => by rw [hsX]; omega)
   have hH2 := Held.push (keeps_rec (some m)) hown1 hvl rfl hpV X3X hgrow hgg'
   have hM2 := hMX.grown hgrow (fun e => by have := hHlt m e.symm; omega)
   have K1 := (X1X.turn hgrow hgg').ints.1
   have K2 := (X2X.turn hgrow hgg').ints.1
   have hB2 := Below.grown hBX hgrow (by rw [hsX]; omega) (fun x hx => by have := hHlt x hx; omega)
   clear hown1 hgrow hgg hgg' X1X X2X X3X hpV hoV hMX hNB hBX
   go_roundw
   case rel => exact ⟨k + 1, B1, q1, B2, q2, by omega, by go_num, rfl, hH2, hM2, K1, K2, q1l, hB2⟩
   case measure => simp [intOf]; omega
  ·obtain rfl : k = N := by omega
   obtain ⟨A, c', hv, _⟩ := hH.slice
   subst hv
   go_wp2
   go_ret2
   exact ⟨A, c', rfl, (hH.imp RecK.drop).base (by omega), hbx⟩
theorem ref_Right_told {A : Option Addr} {n c : Nat} {xs : List Int} {b : Bool} (hb : okL xs = b) {w : World} (hx : Ints .i64 w A n xs) (hn : n ≤ 9223372036854775807) :
  Calls Tryz.prog 96 #[.slice A n c] w fun e w' => e = .returned (.bool b) ∧ Quiet w w' := by
 subst hb
 exact ref_Right A n c xs w hx hn
theorem rcfg_Check (c : Cfg) (w : World) : Calls Tryz.prog 37 #[.agg #[.int .i64 c.ci, .int .i64 c.ch, .int .i64 c.co, .int .u64 c.seed, .int .i64 c.batch, .int .i64 c.steps, .int .i64 c.rate, .int .i64 c.decay, .int .i64 c.how, .int .i64 c.keep, .int .i64 c.clip]] w fun e w' => e = .returned (.int .i64 c.E) ∧ Below w.heap.size w w' := ref_Config c.ci c.ch c.co c.seed c.batch c.steps c.rate c.decay c.how c.keep c.clip w
theorem ref_Course (c : Cfg) (D : Option Addr) (n dc : Nat) (ds : Data) (w : World) (hd : Duos w D n ds) (hn : n ≤ 9223372036854775806) :
  Calls Tryz.prog 60 #[.agg #[.int .i64 c.ci, .int .i64 c.ch, .int .i64 c.co, .int .u64 c.seed, .int .i64 c.batch, .int .i64 c.steps, .int .i64 c.rate, .int .i64 c.decay, .int .i64 c.how, .int .i64 c.keep, .int .i64 c.clip], .slice D n dc] w fun e w' => e = .returned (.int .i64 (crs c ds)) ∧ Below w.heap.size w w' := by
 have HB := Blk.made w 29 #[.int .i64 c.ci, .int .i64 c.ch, .int .i64 c.co, .int .u64 c.seed, .int .i64 c.batch, .int .i64 c.steps, .int .i64 c.rate, .int .i64 c.decay, .int .i64 c.how, .int .i64 c.keep, .int .i64 c.clip]
 have HL := Lib.hid hd.len
 by_cases hE : c.E = 0
 ·have HE := Lib.hid hE
  by_cases h0 : n = 0
  ·have F := Lib.hid (show crs c ds = 1 from crsE_none hE (by rw [HL.out]; exact h0))
   have t : ((n : Int) == 0) = true := by rw [beq_iff_eq]; omega
   clear hE
   go_enter Tryz.func60, Tryz.ntmps60
   go_wp2_with fail
   refine (rcfg_Check c _).mono ?_
   rintro e x1 ⟨rfl, hb1⟩
   rw [HE.out]
   have hbw : Below w.heap.size w x1 := Below.trans (B := w.heap.size) (by repeat (first | exact Below.refl _ _ | assumption | refine bel_drewN ?_ _ | refine Below.drew ?_ | (refine Below.alloc ?_ (by simp <;> omega) _) | (refine Below.setCell ?_ (by simp <;> omega) _))) (hb1.mono (by simp))
   go_wp2
   go_ret
   rw [F.out]
   exact ⟨rfl, hbw⟩
  ·have t : ((n : Int) == 0) = false := by rw [beq_eq_false_iff_ne]; omega
   by_cases h16 : 16 < n
   ·have F := Lib.hid (show crs c ds = 2 from crsE_many hE (by rw [HL.out]; exact h16))
    have t2 : (16 : Int) < (n : Int) := by omega
    clear hE h0
    go_enter Tryz.func60, Tryz.ntmps60
    go_wp2_with fail
    refine (rcfg_Check c _).mono ?_
    rintro e x1 ⟨rfl, hb1⟩
    rw [HE.out]
    have hbw : Below w.heap.size w x1 := Below.trans (B := w.heap.size) (by repeat (first | exact Below.refl _ _ | assumption | refine bel_drewN ?_ _ | refine Below.drew ?_ | (refine Below.alloc ?_ (by simp <;> omega) _) | (refine Below.setCell ?_ (by simp <;> omega) _))) (hb1.mono (by simp))
    go_wp2
    go_ret
    rw [F.out]
    exact ⟨rfl, hbw⟩
   ·have FB := Lib.hid (fun k hk hb => show crs c ds = 5 from crsE_form hE (by rw [HL.out]; exact h0) (by rw [HL.out]; exact h16) (k := k) (by rw [HL.out]; exact hk) hb)
    have FG := Lib.hid (fun hb => show crs c ds = 0 from crsE_fine hE (by rw [HL.out]; exact h0) (by rw [HL.out]; exact h16) (by rw [HL.out]; exact hb))
    have t2 : ¬ (16 : Int) < (n : Int) := by omega
    clear hE h0
    go_enter Tryz.func60, Tryz.ntmps60
    go_wp2_with fail
    refine (rcfg_Check c _).mono ?_
    rintro e x1 ⟨rfl, hb1⟩
    rw [HE.out]
    have HB1 := HB.below hb1 (by simp)
    have hbw : Below w.heap.size w x1 := Below.trans (B := w.heap.size) (by repeat (first | exact Below.refl _ _ | assumption | refine bel_drewN ?_ _ | refine Below.drew ?_ | (refine Below.alloc ?_ (by simp <;> omega) _) | (refine Below.setCell ?_ (by simp <;> omega) _))) (hb1.mono (by simp))
    have hlt1 := HB1.lt
    have hd1 := hd.below hbw
    clear HB hb1 hd
    go_wp2
    go_loopw [6] (fun j wr => ∃ k : Nat, k ≤ n ∧ j = .int .i64 k ∧ (∀ i, i < k → exB c.ci c.co (duoAt ds i) = true) ∧ Below x1.heap.size x1 wr) (fun j _ => n - (intOf j).toNat)
    case atStart => exact ⟨0, Nat.zero_le _, rfl, fun i hi => absurd hi (by omega), Below.refl _ _⟩
    case round =>
     obtain ⟨k, hk, rfl, hall, hb⟩ := hrel
     have HALL := Lib.hid hall
     clear hall
     by_cases hlt : k < n
     ·obtain ⟨b, off, hD, hbl, hc⟩ := (hd1.below hb).cells (by omega)
      obtain ⟨A1, n1, c1, A2, n2, c2, g1, g2, i1, i2, z1, z2, z3, z4⟩ := hc k hlt
      subst hD
      have k0 : (0 : Int) ≤ (k : Int) := by omega
      have k1 : (k : Int) < (n : Int) := by omega
      obtain ⟨d0, d1, d2, _⟩ := (HB1.below hb hlt1).cfg
      have l1 := i1.len
      have l2 := i2.len
      have zz1 : n1 ≤ 9223372036854775807 := by unfold maxLen at *; omega
      have zz2 : n2 ≤ 9223372036854775807 := by unfold maxLen at *; omega
      have hbs := hb.size
      clear hc
      by_cases q1 : (n1 : Int) = c.ci
      ·have t3 : ((n1 : Int) != c.ci) = false := by rw [bne_eq_false_iff_eq]; exact q1
       by_cases q2 : (n2 : Int) = c.co
       ·have t4 : ((n2 : Int) != c.co) = false := by rw [bne_eq_false_iff_eq]; exact q2
        cases q3 : okL (duoAt ds k).1
        ·have FX := Lib.hid (show exB c.ci c.co (duoAt ds k) = false by unfold exB; rw [q3]; simp)
         have H3 := Lib.hid (fun W (q : Ints .i64 W A1 n1 (duoAt ds k).1) => ref_Right_told (c := c1) q3 q zz1)
         clear q1 q2 q3
         go_wp2
         go_quiet ((go_at_call 96; exact Calls.quiet_of (H3.out _ (i1.drewN _))))
         go_wp2
         go_ret
         rw [FB.out k hlt FX.out]
         exact ⟨rfl, hbw.trans ((bel_drewN hb _).mono hbw.size)⟩
        ·have H3 := Lib.hid (fun W (q : Ints .i64 W A1 n1 (duoAt ds k).1) => ref_Right_told (c := c1) q3 q zz1)
         cases q4 : okL (duoAt ds k).2
         ·have FX := Lib.hid (show exB c.ci c.co (duoAt ds k) = false by unfold exB; rw [q4]; simp)
          have H4 := Lib.hid (fun W (q : Ints .i64 W A2 n2 (duoAt ds k).2) => ref_Right_told (c := c2) q4 q zz2)
          clear q1 q2 q3 q4
          go_wp2
          go_quiet ((go_at_call 96; first | (with_reducible exact Calls.quiet_of (H3.out _ (i1.drewN _))) | (with_reducible exact Calls.quiet_of (H4.out _ (i2.drewN _)))))
          go_wp2
          go_ret
          rw [FB.out k hlt FX.out]
          exact ⟨rfl, hbw.trans ((bel_drewN hb _).mono hbw.size)⟩
         ·have FX := Lib.hid (show exB c.ci c.co (duoAt ds k) = true by unfold exB; rw [l1, l2, q1, q2, q3, q4]; simp)
          have H4 := Lib.hid (fun W (q : Ints .i64 W A2 n2 (duoAt ds k).2) => ref_Right_told (c := c2) q4 q zz2)
          clear q1 q2 q3 q4
          go_wp2
          go_quiet ((go_at_call 96; first | (with_reducible exact Calls.quiet_of (H3.out _ (i1.drewN _))) | (with_reducible exact Calls.quiet_of (H4.out _ (i2.drewN _)))))
          go_wp2
          go_roundw
          case rel =>
           refine ⟨k + 1, by omega, by go_num, fun i hi => ?_, bel_drewN hb _⟩
           by_cases hik : i = k
           ·subst hik; exact FX.out
           ·exact HALL.out i (by omega)
          case measure => simp [intOf]; omega
       ·have t4 : ((n2 : Int) != c.co) = true := by rw [bne_iff_ne]; exact q2
        have FX := Lib.hid (show exB c.ci c.co (duoAt ds k) = false by unfold exB; rw [l2, beq_eq_false_iff_ne.2 q2]; simp)
        clear q1 q2
        go_wp2
        go_quiet (fail)
        go_wp2
        go_ret
        rw [FB.out k hlt FX.out]
        exact ⟨rfl, hbw.trans ((bel_drewN hb _).mono hbw.size)⟩
      ·have t3 : ((n1 : Int) != c.ci) = true := by rw [bne_iff_ne]; exact q1
       have FX := Lib.hid (show exB c.ci c.co (duoAt ds k) = false by unfold exB; rw [l1, beq_eq_false_iff_ne.2 q1]; simp)
       clear q1
       go_wp2
       go_quiet (fail)
       go_wp2
       go_ret
       rw [FB.out k hlt FX.out]
       exact ⟨rfl, hbw.trans ((bel_drewN hb _).mono hbw.size)⟩
     ·obtain rfl : k = n := by omega
      go_wp2
      go_ret
      rw [FG.out HALL.out]
      exact ⟨rfl, hbw.trans (hb.mono hbw.size)⟩
 ·have t : (c.E != 0) = true := by rw [bne_iff_ne]; exact hE
  have F := Lib.hid (show crs c ds = c.E from crsE_cfg hE)
  clear hE
  go_enter Tryz.func60, Tryz.ntmps60
  go_wp2_with fail
  refine (rcfg_Check c _).mono ?_
  rintro e x1 ⟨rfl, hb1⟩
  have hbw : Below w.heap.size w x1 := Below.trans (B := w.heap.size) (by repeat (first | exact Below.refl _ _ | assumption | refine bel_drewN ?_ _ | refine Below.drew ?_ | (refine Below.alloc ?_ (by simp <;> omega) _) | (refine Below.setCell ?_ (by simp <;> omega) _))) (hb1.mono (by simp))
  go_wp2
  go_ret
  rw [F.out]
  exact ⟨rfl, hbw⟩
theorem StHeld.at' {m : Option Nat} {B : Nat} {f : Nat → List Int × List Int} {k g c N : Nat} {w : World} (h : StHeld m B f k (.slice (some ⟨g, 0, none⟩) k c) w) {j : Nat} (hj : j < k) (h1 : (f j).1.length = N) (h2 : (f j).2.length = N) :
  ∃ A1 c1 A2 c2, w.cell? ⟨g, j * 2, none⟩ = some (.slice A1 N c1) ∧ w.cell? ⟨g, j * 2 + 1, none⟩ = some (.slice A2 N c2) ∧ Ints .i64 w A1 N (f j).1 ∧ Ints .i64 w A2 N (f j).2 ∧ N ≤ c1 ∧ g < w.heap.size := by
 obtain ⟨A1, c1, A2, c2, e1, e2, i1, i2, l1, _, hg⟩ := StHeld.duos h hj
 rw [h1] at e1 i1 l1
 rw [h2] at e2 i2
 exact ⟨A1, c1, A2, c2, e1, e2, i1, i2, l1, hg⟩
end Go.Proofs.YtgodgedhddngeaaGreatDoor
