/- The desk's Run: what it answers, of every text: a walk. -/
import Derived.Test.YtgodgedhddngeaaGreatDoorDskG
set_option maxRecDepth 100000
set_option maxHeartbeats 16000000
namespace Go.Proofs.YtgodgedhddngeaaGreatDoor
open Go.ChangeShapes Go.WideShapes Go.ChangeAt Go.RowKit Go.Sort Pl
def runT (t : TypeId) : Bool := deskT t || outT t
theorem runT_desk (t : TypeId) (h : runT t = false) : deskT t = false := by unfold runT at h; cases hd : deskT t <;> simp_all
theorem runT_out (t : TypeId) (h : runT t = false) : outT t = false := by unfold runT at h; cases hd : deskT t <;> simp_all
def RunL (B q sq b M : Nat) (ls : List (List UInt8)) (w1 : World) (j : Value) (wr : World) : Prop := ∃ p : Nat, p ≤ M ∧ j = .int .i64 p ∧ (∃ v, DeskIn B wr q sq (runK ls p).2.c v (runK ls p).2.ds (runK ls p).2.by_ (runK ls p).2.sy) ∧ Lib.IsBuilderF 40 5 B b (Lib.byteCells (runK ls p).1) wr ∧ Kp B runT w1 wr
theorem DeskIn.kp {B B' q sq : Nat} {w w' : World} {c : Cfg} {v : Value} {ds : Data} {bs : List UInt8} {sy : Nat} {T : TypeId → Bool} (h : DeskIn B w q sq c v ds bs sy) (hk : Kp B' T w w') (h1 : T 33 = false) (h2 : T 54 = false) (h3 : T 73 = false) (h4 : T 3 = false) : DeskIn B w' q sq c v ds bs sy :=
 ⟨hk.blk h.dq h1, hk.blk h.st h2, h.data.kp hk h4 h3, h.bq, h.bs⟩
theorem own_form {w : World} {base : Nat} {e : TypeId} {sz n : Nat} {v : Value} {xs : List Value} (h : w.ownsRow base e sz v n xs) : ∃ A c, v = .slice A n c ∧ n ≤ c ∧ c ≤ maxLen := by
 rcases h.2 with ⟨hv, h0⟩ | ⟨g, cap, cur, hv, _, _, h1, h2, _⟩
 ·exact ⟨none, 0, by rw [hv, h0], by omega, by unfold maxLen; omega⟩
 ·exact ⟨_, cap, hv, h1, h2⟩
theorem own_cell0 {w : World} {base g n c : Nat} {x : List UInt8} {r : List (List UInt8)} (h : w.ownsRow base 9 1 (.slice (some ⟨g, 0, none⟩) n c) n (((x :: r).map bytesOf).map Value.string)) : w.cell? ⟨g, 0, none⟩ = some (.string (bytesOf x)) := by
 have hl := h.1
 simp only [List.length_map, List.length_cons, Nat.mul_one] at hl
 rw [h.cellAt 0 (by omega)]
 rfl
theorem dsk_Run (s : ByteArray) (w : World) (hs : s.size ≤ 2000000) (ht : Tabs w) :
  Calls Tryz.prog 4 #[.string s] w fun e w' => e = .returned (.string (bytesOf (runD s.data.toList))) ∧ Below w.heap.size w w' := by
 have hsz : s.data.toList.length = s.size := by rw [Array.length_toList]; rfl
 obtain ⟨i0, hi0, hz0, hz1, hz2⟩ := info_parts str_info
 have HSA0 := lib_SplitAfter 10 s w (by omega) ht
 obtain ⟨l, hl⟩ : ∃ l, l = s.data.toList := ⟨_, rfl⟩
 rw [← hl] at HSA0 hsz ⊢
 have hcnt := pieces_count 10 l
 have hpsz := pieces_size 10 l
 rw [hsz] at hcnt hpsz
 obtain ⟨k, hk⟩ : ∃ k, (pieces 10 l).length = k + 1 := by
  have h0 := pieces_ne 10 l
  cases hp : pieces 10 l with
  | nil => exact absurd hp h0
  | cons a b => exact ⟨b.length, rfl⟩
 rw [hk] at HSA0 hcnt
 have HLT := linesL_take hk
 have HAL := after_last hk
 have HTRM := Lib.hid (fun (j : Nat) (hj : j < k + 1) => after_trim l (j := j) (by rw [hk]; exact hj))
 have HLA := Lib.hid (fun (j : Nat) (hj : j < (linesL l).length) => linesL_at l hj)
 have HAPL := Lib.hid (show (afterP 10 (pieces 10 l)).length = k + 1 from by rw [afterP_length, hk])
 have HPSZ := Lib.hid (fun j => show ((pieces 10 l).getD j []).length ≤ s.size from by
  rw [List.getD_eq_getElem?_getD]
  rcases Nat.lt_or_ge j (pieces 10 l).length with h | h
  ·rw [List.getElem?_eq_getElem h]; exact hpsz _ (List.getElem_mem _)
  ·rw [List.getElem?_eq_none h]; exact Nat.zero_le _)
 have hAsz : ∀ j, ((afterP 10 (pieces 10 l)).getD j []).length ≤ s.size + 1 := fun j => by
  rw [List.getD_eq_getElem?_getD]
  rcases Nat.lt_or_ge j (pieces 10 l).length with h | h
  ·rw [afterP_at 10 _ _ h, Option.getD_some]
   have := HPSZ.out j
   split
   ·rw [List.length_append, List.length_singleton]; omega
   ·omega
  ·rw [List.getElem?_eq_none (by rw [afterP_length]; exact h)]; exact Nat.zero_le _
 have HASZ := Lib.hid hAsz
 obtain ⟨ap, hap⟩ : ∃ ap, ap = afterP 10 (pieces 10 l) := ⟨_, rfl⟩
 rw [← hap] at HSA0 HAL HTRM HAPL HASZ
 obtain ⟨ps, hps⟩ : ∃ ps, ps = pieces 10 l := ⟨_, rfl⟩
 rw [← hps] at HLT HAL HTRM HLA HPSZ
 obtain ⟨x, hx⟩ : ∃ x, x = ps.getD k [] := ⟨_, rfl⟩
 rw [← hx] at HLT HAL
 obtain ⟨ls, hls⟩ : ∃ ls, ls = linesL l := ⟨_, rfl⟩
 rw [← hls] at HLT HLA
 have HPL := Lib.hid (show ps.length = k + 1 from by rw [hps]; exact hk)
 have HRU := Lib.hid (show runD l = if 65536 < s.size ∨ 200 < ls.length then tooT else (runK ls ls.length).1 from by
  unfold runD runK
  rw [← hls, hsz, List.take_length])
 obtain ⟨M, hM⟩ : ∃ M, M = ls.length := ⟨_, rfl⟩
 rw [← hM] at HRU HLA
 have HM := Lib.hid hM
 have hMk : M ≤ k + 1 ∧ (x = [] → M = k) ∧ (x ≠ [] → M = k + 1) := by
  have hpl := HPL.out
  rw [hM, HLT, List.length_take, hpl]
  by_cases hx0 : x = []
  ·rw [hx0]; simp
  ·have : x.isEmpty = false := by simpa using hx0
   rw [this]
   simp [hx0]
 have hB1 : Blk (w.alloc (.cells ((ap.map bytesOf).map Value.string).toArray 9)) w.heap.size 9 ((ap.map bytesOf).map Value.string).toArray := Blk.made _ _ _
 have bW1 : Below w.heap.size w (w.alloc (.cells ((ap.map bytesOf).map Value.string).toArray 9)) := (by repeat (first | exact Below.refl _ _ | assumption | refine bel_drewN ?_ _ | refine Below.drew ?_ | (refine Below.alloc ?_ (by simp <;> omega) _) | (refine Below.setCell ?_ (by simp <;> omega) _)))
 obtain ⟨w1, hw1⟩ : ∃ w1, w1 = w.alloc (.cells ((ap.map bytesOf).map Value.string).toArray 9) := ⟨_, rfl⟩
 rw [← hw1] at HSA0 hB1 bW1
 have hB1s : w.heap.size < w1.heap.size := hB1.lt
 obtain ⟨B, hB⟩ : ∃ B, B = w.heap.size := ⟨_, rfl⟩
 rw [← hB] at HSA0 hB1 hB1s
 have HBB := Lib.hid hB
 have HAC := Lib.hid (fun W (hb : Blk W B 9 ((ap.map bytesOf).map Value.string).toArray) j (hj : j < k + 1) => show W.cell? ⟨B, j, none⟩ = some (.string (bytesOf (ap.getD j []))) from by
  rw [hb.cell j]
  have := HAPL.out
  simp [List.getElem?_eq_getElem (show j < ap.length by omega)])
 have HTK := Lib.hid (fun W (hb : Below B w W) => ht.below (by rw [← hB]; exact hb))
 have bW1' : Below B w w1 := by rw [hB]; exact bW1
 have c0 := HAC.out w1 hB1 k (by omega)
 rw [HAL] at c0
 have HSA := Lib.hid HSA0
 have e1 : IntKind.i64.wrap (((k + 1 : Nat) : Int) - 1) = (k : Int) := by rw [wrap_small _ (by omega) (by omega)]; omega
 have z0 : (0 : Int) ≤ (k : Int) := by omega
 have z1 : (k : Int) < (k : Int) + 1 := by omega
 have hkb : k ≤ 2000000 := by omega
 clear hcnt hpsz hAsz hap hps hx hls hM hw1 hB HSA0 HLT HAL hl hk bW1 ht
 go_enter Tryz.func4, Tryz.ntmps4
 go_wp2_with fail
 refine HSA.out.mono ?_
 rintro e w' ⟨rfl, rfl⟩
 clear HSA
 obtain ⟨X, hX⟩ : ∃ X, X = bytesOf x := ⟨_, rfl⟩
 have hXd : X.toList = x := by rw [hX, Lib.toList_data, bytesOf_data]
 have HXD := Lib.hid hXd
 rw [← hX] at c0
 clear hX hXd
 go_upto_if 19 with fail
 go_cut [3] (fun a wx => a = .slice (some ⟨B, 0, none⟩) M (k + 1) ∧ wx = w')
 case first =>
  by_cases hx0 : x = []
  ·have hMM := hMk.2.1 hx0
   subst hMM
   have hXe2 : X.toList.isEmpty = true := by rw [HXD.out, hx0]; rfl
   rw [hXe2]
   clear hMk hx0 hXe2
   go_wp2
   go_meet
   case rel => exact ⟨by simp, rfl⟩
  ·have hMM := hMk.2.2 hx0
   subst hMM
   have hXe2 : X.toList.isEmpty = false := by rw [HXD.out]; simpa using hx0
   rw [hXe2]
   clear hMk hx0 hXe2
   go_wp2
   go_meet
   case rel => exact ⟨by simp, rfl⟩
 case rest =>
  obtain ⟨rfl, hwc⟩ := hcut
  obtain ⟨w1, hw1⟩ : ∃ w1 : World, w1 = wc := ⟨_, rfl⟩
  rw [← hw1] at hwc ⊢
  subst hwc
  clear hw1 c0
  have hMb : M ≤ k + 1 := hMk.1
  clear hMk
  by_cases hbig : 65536 < s.size ∨ 200 < M
  ·have F := Lib.hid (show runD l = tooT from by rw [HRU.out, if_pos hbig])
   by_cases h6 : 65536 < s.size
   ·have h6' : (65536 : Int) < (s.size : Int) := by omega
    clear hbig
    go_wp2
    go_ret
    rw [F.out]
    exact ⟨rfl, by rw [← HBB.out]; exact bW1'⟩
   ·have h6' : ¬ (65536 : Int) < (s.size : Int) := by omega
    have h7 : 200 < M := by omega
    have h7' : (200 : Int) < (M : Int) := by omega
    clear hbig
    go_wp2
    go_ret
    rw [F.out]
    exact ⟨rfl, by rw [← HBB.out]; exact bW1'⟩
  ·have F := Lib.hid (show runD l = (runK ls M).1 from by rw [HRU.out, if_neg hbig])
   have h6 : ¬ (65536 : Int) < (s.size : Int) := by omega
   have h7 : ¬ (200 : Int) < (M : Int) := by omega
   have h6n : ¬ 65536 < s.size := by omega
   have h7n : ¬ 200 < M := by omega
   have hM200 : M ≤ 200 := by omega
   have hs65 : s.size ≤ 65536 := by omega
   clear hbig
   have hq0 := Blk.made w1 33 #[.int .i64 1, .int .i64 1, .int .i64 1, .int .u64 1, .int .i64 1, .int .i64 3, .int .i64 6554, .int .i64 0, .int .i64 0, .int .i64 0, .int .i64 0, .slice none 0 0, .pointer none]
   have b2 : Below w1.heap.size w1 (w1.alloc (.cells #[.int .i64 1, .int .i64 1, .int .i64 1, .int .u64 1, .int .i64 1, .int .i64 3, .int .i64 6554, .int .i64 0, .int .i64 0, .int .i64 0, .int .i64 0, .slice none 0 0, .pointer none] 33)) := (by repeat (first | exact Below.refl _ _ | assumption | refine bel_drewN ?_ _ | refine Below.drew ?_ | (refine Below.alloc ?_ (by simp <;> omega) _) | (refine Below.setCell ?_ (by simp <;> omega) _)))
   obtain ⟨w2, hw2⟩ : ∃ w2, w2 = w1.alloc (.cells #[.int .i64 1, .int .i64 1, .int .i64 1, .int .u64 1, .int .i64 1, .int .i64 3, .int .i64 6554, .int .i64 0, .int .i64 0, .int .i64 0, .int .i64 0, .slice none 0 0, .pointer none] 33) := ⟨_, rfl⟩
   obtain ⟨q, hq⟩ : ∃ q, q = w1.heap.size := ⟨_, rfl⟩
   rw [← hw2] at hq0 b2
   rw [← hq] at hq0
   have HW2 := Lib.hid hw2
   have HQ := Lib.hid hq
   have hNW := sto_New_ok 4096 w2 (by omega) (by omega)
   obtain ⟨sq, hsq⟩ : ∃ sq, sq = w2.heap.size := ⟨_, rfl⟩
   rw [← hsq] at hNW
   have HNW := Lib.hid hNW
   have HSQ := Lib.hid hsq
   have hqsq : q < sq := by rw [hsq]; exact hq0.lt
   have hBq : B ≤ q := by omega
   clear hw2 hq hNW hsq
   go_upto_region 7 with fail
   rw [← HW2.out, ← HQ.out]
   go_wp2_with fail
   refine HNW.out.mono ?_
   rintro e w3 ⟨rfl, hB3, hb3⟩
   have hq3 := hq0.below hb3 hqsq
   have pc : w3.cell? ⟨q, 12, none⟩ = some (.pointer none) := hq3.cell 12
   have pf : w3.frozen? ⟨q, 12, none⟩ = false := hq3.frozen 12
   have hq4 : Blk (w3.setCell ⟨q, 12, none⟩ (.pointer (some ⟨sq, 0, none⟩))) q 33 #[.int .i64 1, .int .i64 1, .int .i64 1, .int .u64 1, .int .i64 1, .int .i64 3, .int .i64 6554, .int .i64 0, .int .i64 0, .int .i64 0, .int .i64 0, .slice none 0 0, .pointer (some ⟨sq, 0, none⟩)] := hq3.put 12 _
   have hs4 : Blk (w3.setCell ⟨q, 12, none⟩ (.pointer (some ⟨sq, 0, none⟩))) sq 54 #[.int .i64 4096, .string ByteArray.empty, .int .i64 0] := hB3.far (by show sq ≠ q; omega) _
   have b24 : Below w1.heap.size w1 (w3.setCell ⟨q, 12, none⟩ (.pointer (some ⟨sq, 0, none⟩))) := (b2.trans (hb3.mono (by rw [HSQ.out]; exact b2.size))).setCell (p := ⟨q, 12, none⟩) (by show w1.heap.size ≤ q; rw [HQ.out]; exact Nat.le_refl _) _
   obtain ⟨w4, hw4⟩ : ∃ w4, w4 = w3.setCell ⟨q, 12, none⟩ (.pointer (some ⟨sq, 0, none⟩)) := ⟨_, rfl⟩
   rw [← hw4] at hq4 hs4 b24
   have hbu := builder_base (builder_made w4) (show B ≤ w4.heap.size by have := b24.size; omega)
   have b5 : Below w4.heap.size w4 (w4.alloc (.cells #[.pointer none, .slice none 0 0] 40)) := (by repeat (first | exact Below.refl _ _ | assumption | refine bel_drewN ?_ _ | refine Below.drew ?_ | (refine Below.alloc ?_ (by simp <;> omega) _) | (refine Below.setCell ?_ (by simp <;> omega) _)))
   obtain ⟨b, hb⟩ : ∃ b, b = w4.heap.size := ⟨_, rfl⟩
   obtain ⟨w5, hw5⟩ : ∃ w5, w5 = w4.alloc (.cells #[.pointer none, .slice none 0 0] 40) := ⟨_, rfl⟩
   have hq5 := hq4.below b5 hq4.lt
   have hs5 := hs4.below b5 hs4.lt
   rw [← hw5] at hbu b5 hq5 hs5
   rw [← hb] at hbu
   have b15 := bel_trans b24 b5
   have HIN : DeskIn B w5 q sq (runK ls 0).2.c (.slice none 0 0) (runK ls 0).2.ds (runK ls 0).2.by_ (runK ls 0).2.sy := ⟨hq5, hs5, DataH.nil _ _, hBq, by omega⟩
   have HB := Lib.hid (show b = w3.heap.size from by rw [hb, hw4]; simp)
   have HW4 := Lib.hid hw4
   have HW5 := Lib.hid hw5
   clear hw4 hw5 hb hq3 hq4 hs4 hq5 hs5 b5 b24 hB3 hb3 hq0 b2 HNW HW2
   go_upto_block 0 with fail
   rw [← HW4.out, ← HW5.out, ← HB.out]
   clear HW4 HW5 HB pc pf
   go_wp2
   go_loopw [7, 8, 10, 45] (fun _ _ _ j wr => RunL B q sq b M ls w1 j wr) (fun _ _ _ j _ => M - (intOf j).toNat)
   case atStart => exact ⟨0, Nat.zero_le _, rfl, ⟨_, HIN⟩, hbu, Kp.of_below b15⟩
   case round =>
    clear HIN hbu b15
    obtain ⟨p, hp, rfl, ⟨v, hD⟩, hU, hK⟩ := hrel
    by_cases hlt : p < M
    ·obtain ⟨wo, rfl⟩ : ∃ wo : World, wo = wr := ⟨_, rfl⟩
     have hokx := runK_ok ls p
     have hBo := hK.blk hB1 (by decide)
     have c1 := HAC.out wo hBo p (by omega)
     have hbWo : Below B w wo := bW1'.trans (hK.low (by omega))
     have hTR := HTRM.out p (by omega)
     have hASZ := HASZ.out p
     have hPSZ := HPSZ.out p
     have hlp : ls[p]? = some (ps.getD p []) := by
      rw [← HLA.out p hlt, List.getD_eq_getElem?_getD, List.getElem?_eq_getElem (by rw [← HM.out]; exact hlt)]
      rfl
     have hR1 := runK_succ hlp
     obtain ⟨ln, hln⟩ : ∃ ln, ln = ps.getD p [] := ⟨_, rfl⟩
     obtain ⟨a, ha⟩ : ∃ a, a = ap.getD p [] := ⟨_, rfl⟩
     rw [← hln] at hTR hPSZ hR1
     rw [← ha] at hTR hASZ c1
     have HTR := Lib.hid (fun W => show Calls Tryz.prog 9 #[.string (bytesOf a), .string (bytesOf [10])] W fun e w' => e = .returned (.string (bytesOf ln)) ∧ W = w' from by
      have h := Tryz.strings_TrimSuffix (bytesOf a) (bytesOf [10]) W (by rw [bytesOf_size]; omega)
      rw [bytesOf_arr, bytesOf_data, bytesOf_data, hTR] at h
      exact h.mono fun e w' ⟨h1, h2⟩ => ⟨h1, h2.symm⟩)
     have hSP := lib_Split 32 (bytesOf ln) wo (by rw [bytesOf_size]; omega) (HTK.out _ hbWo)
     rw [bytesOf_data] at hSP
     have hc2 := pieces_count 32 ln
     have HWC := Lib.hid (show (wordsL ln).length ≤ 100000 from by
      have h3 : (wordsL ln).length ≤ (pieces 32 ln).length := List.length_filter_le _ _
      omega)
     have HWL := Lib.hid (wordsL_f ln)
     have HWN := Lib.hid (fun w (h : w ∈ wordsL ln) => wordsL_ne h)
     obtain ⟨ps2, hps2⟩ : ∃ ps2, ps2 = pieces 32 ln := ⟨_, rfl⟩
     rw [← hps2] at hSP hc2 HWL
     obtain ⟨N2, hN2⟩ : ∃ N2, N2 = ps2.length := ⟨_, rfl⟩
     obtain ⟨g2, hg2⟩ : ∃ g2, g2 = wo.heap.size := ⟨_, rfl⟩
     rw [← hN2] at hSP hc2
     rw [← hg2] at hSP
     have HN2 := Lib.hid hN2
     have HSP := Lib.hid hSP
     have HG2 := Lib.hid hg2
     have hR1h := Lib.hid hR1
     obtain ⟨AA, hAA⟩ : ∃ AA, AA = bytesOf a := ⟨_, rfl⟩
     rw [← hAA] at c1 HTR
     have z2 : (0 : Int) ≤ (p : Int) := by omega
     have z3 : (p : Int) < (M : Int) := by omega
     have hN2b : N2 ≤ 100000 := by omega
     clear hTR hASZ hPSZ hlp hln ha hSP hc2 hps2 hN2 hg2 hR1 hAA
     go_wp2_with fail
     refine (HTR.out _).mono ?_
     rintro e w' ⟨rfl, rfl⟩
     go_wp2_with fail
     refine HSP.out.mono ?_
     rintro e w6 ⟨rfl, hw6⟩
     have bY : Below wo.heap.size wo w6 := by rw [hw6]; exact (by repeat (first | exact Below.refl _ _ | assumption | refine bel_drewN ?_ _ | refine Below.drew ?_ | (refine Below.alloc ?_ (by simp <;> omega) _) | (refine Below.setCell ?_ (by simp <;> omega) _)))
     have hB2 : Blk w6 g2 9 ((ps2.map bytesOf).map Value.string).toArray := by rw [hw6]; exact Blk.made' wo _ _ HG2.out.symm
     have HC2 := Lib.hid (fun W (hb : Below w6.heap.size w6 W) j (hj : j < N2) => show W.cell? ⟨g2, j, none⟩ = some (.string (bytesOf (ps2.getD j []))) from by
      rw [(hB2.below hb hB2.lt).cell j]
      have := HN2.out
      simp [List.getElem?_eq_getElem (show j < ps2.length by omega)])
     clear hw6 hB2 HSP HTR c1
     go_wp2
     go_loopw [8, 10, 53] (fun ov _ j W => ∃ r : Nat, r ≤ N2 ∧ j = .int .i64 r ∧ W.ownsRow w6.heap.size 9 1 ov (fW (ps2.take r)).length (((fW (ps2.take r)).map bytesOf).map Value.string) ∧ Below w6.heap.size w6 W) (fun _ _ j _ => N2 - (intOf j).toNat)
     case atStart => exact ⟨0, by omega, rfl, World.ownsRow_nil _ _ _ _, Below.refl _ _⟩
     case round =>
      obtain ⟨r, hr, rfl, how, hb6⟩ := hrel
      have hb6s := hb6.size
      by_cases hlt2 : r < N2
      ·have c2 := HC2.out wr hb6 r hlt2
       obtain ⟨x2, hx2⟩ : ∃ x2, x2 = ps2.getD r [] := ⟨_, rfl⟩
       have hxw : ps2[r]? = some x2 := by rw [hx2, List.getD_eq_getElem?_getD, List.getElem?_eq_getElem (by rw [← HN2.out]; exact hlt2)]; rfl
       have HF := Lib.hid (fW_take hxw)
       have hfl := fW_len ps2 r
       rw [← HN2.out] at hfl
       rw [← hx2] at c2
       have y0 : (0 : Int) ≤ (r : Int) := by omega
       have y1 : (r : Int) < (N2 : Int) := by omega
       by_cases hx0 : x2 = []
       ·subst hx0
        have G := Lib.hid (show fW (ps2.take (r + 1)) = fW (ps2.take r) from by rw [HF.out, if_pos rfl])
        have hxs : (bytesOf []).toList = [] := by rw [Lib.toList_data, bytesOf_data]
        clear hx2 hxw
        go_wp2
        go_roundw
        case rel => exact ⟨r + 1, by omega, by go_num, by rw [G.out]; exact how, hb6⟩
        case measure => simp [intOf]; omega
       ·have G := Lib.hid (show fW (ps2.take (r + 1)) = fW (ps2.take r) ++ [x2] from by rw [HF.out, if_neg hx0])
        obtain ⟨X2, hX2⟩ : ∃ X2, X2 = bytesOf x2 := ⟨_, rfl⟩
        have hXe : ¬ X2.toList = [] := by rw [hX2, Lib.toList_data, bytesOf_data]; exact hx0
        have hXe2 : X2.toList.isEmpty = false := by rw [hX2, Lib.toList_data, bytesOf_data]; simpa using hx0
        rw [← hX2] at c2
        have HXX := Lib.hid hX2
        obtain ⟨K2, hK2⟩ : ∃ K2, K2 = (fW (ps2.take r)).length := ⟨_, rfl⟩
        rw [← hK2] at how hfl
        have HK2 := Lib.hid hK2
        clear hx2 hxw hx0 hX2 hK2
        go_wp2_with (at_builtin; refine wpList_append_own _ rfl _ _ 24 rfl w6.heap.size 9 i0 (.string ByteArray.empty) 1 16 Tryz.underlying24 hi0 hz0 hz1 hz2 rfl (by decide) _ K2 _ rfl (how.alloc _) ⟨wr.heap.size, 0, none⟩ 1 1 [.string X2] rfl rfl (cell_one_new _ _ _) (by simp [Value.oneCell']) (by unfold maxLen; omega) (by omega) (by simp; omega) ?_; intro v1 v2 hown1 hgrow _)
        have hb7 : Below w6.heap.size w6 v2 := Below.grown (hb6.alloc hb6s _) hgrow (by simp; omega) (fun y hy => (how.lt y hy).1)
        rw [show ((fW (ps2.take r)).map bytesOf).map Value.string ++ [.string X2] = ((fW (ps2.take (r + 1))).map bytesOf).map Value.string by rw [G.out, HXX.out]; simp] at hown1
        clear hgrow
        go_roundw
        case rel => exact ⟨r + 1, by omega, by go_num, by rw [show (fW (ps2.take (r + 1))).length = K2 + 1 from by rw [G.out, List.length_append, HK2.out]; rfl]; exact hown1, hb7⟩
        case measure => simp [intOf]; omega
      ·obtain rfl : r = N2 := by omega
       rw [show fW (ps2.take r) = wordsL ln from by rw [HWL.out, HN2.out, List.take_length]] at how
       obtain ⟨z, hz⟩ : ∃ z : World, z = wr := ⟨_, rfl⟩
       rw [← hz] at how hb6 ⊢
       have hwz := bel_trans bY hb6
       have hDz := hD.below hwz
       have hUz := builder_kp hU (Kp.of_below (B := B) (T := fun _ => false) hwz) rfl rfl
       have hKz := hK.trans (Kp.of_below hwz)
       clear hz hD hU HC2 HWL
       have HBZ := Lib.hid (show Below B w z from hbWo.trans (hwz.mono (by have := hbWo.size; have := hK.size; omega)))
       cases hws : wordsL ln with
       | nil =>
        have G := Lib.hid (show runK ls (p + 1) = runK ls p from by rw [hR1h.out]; unfold goL; rw [hws])
        rw [hws] at how
        obtain ⟨Ao, co, rfl, _, _⟩ := own_form how
        clear hws how hokx hR1h
        go_wp2
        go_roundw
        case rel =>
         have hnew : RunL B q sq b M ls w1 (.int .i64 ((p : Int) + 1)) z := ⟨p + 1, by omega, by simp, ⟨v, by rw [G.out]; exact hDz⟩, by rw [G.out]; exact hUz, hKz⟩
         repeat (first | (exact hnew) | (exact ⟨hnew, rfl⟩) | (apply Exists.intro))
        case measure => simp [intOf]; omega
       | cons vb rest =>
        have hvb : vb ≠ [] := HWN.out vb (by rw [hws]; simp)
        have HG := Lib.hid (show runK ls (p + 1) = if vb.head? = some 35 then runK ls p else ((runK ls p).1 ++ ((lineD (runK ls p).2 vb rest).1 ++ [10]), (lineD (runK ls p).2 vb rest).2) from by rw [hR1h.out]; unfold goL; rw [hws])
        rw [hws] at how
        obtain ⟨gw, cw, rfl, hgw1, hgw2⟩ := how.form (by simp)
        have hcw : (vb :: rest).length ≤ cw := by
         obtain ⟨_, _, e, h1, _⟩ := own_form how
         cases e
         exact h1
        have c3 := own_cell0 how
        have hRb : rest.length + 1 ≤ 100000 := by
         have h2 := HWC.out
         rw [hws, List.length_cons] at h2
         exact h2
        obtain ⟨R, hR⟩ : ∃ R, R = rest.length := ⟨_, rfl⟩
        rw [List.length_cons, ← hR] at how hcw
        rw [← hR] at hRb
        have HR := Lib.hid hR
        obtain ⟨V, hV⟩ : ∃ V, V = bytesOf vb := ⟨_, rfl⟩
        have hVd : V.data.toList = vb := by rw [hV, bytesOf_data]
        have hVp : 0 < V.size := by
         have : V.data.toList.length = V.size := by rw [Array.length_toList]; rfl
         rw [hVd] at this
         rcases Nat.eq_zero_or_pos V.size with h | h
         ·exact absurd (List.length_eq_zero_iff.1 (this.trans h)) hvb
         ·exact h
        have hhd : vb.head? = some (V[0]'hVp) := by rw [← hVd, List.head?_eq_getElem?]; exact byte_at V hVp
        obtain ⟨u, hu⟩ : ∃ u, (V[0]'hVp).toNat = u := ⟨_, rfl⟩
        have hu256 : u < 256 := by rw [← hu]; exact UInt8.toNat_lt _
        have HHD := Lib.hid (show vb.head? = some 35 ↔ u = 35 from by
         rw [hhd, ← hu]
         constructor
         ·intro h; injection h with h; rw [h]; rfl
         ·intro h; congr 1; exact UInt8.toNat_inj.1 h)
        rw [← hV] at c3
        have HV := Lib.hid hV
        have hVp' : (0 : Int) < (V.size : Int) := by omega
        clear hws hR hV hVd hhd hvb hR1h
        rw [List.length_cons, ← HR.out]
        by_cases h35 : u = 35
        ·have G := Lib.hid (show runK ls (p + 1) = runK ls p from by rw [HG.out, if_pos (HHD.out.2 h35)])
         subst h35
         clear how hokx HG
         go_wp2
         go_roundw
         case rel =>
          have hnew : RunL B q sq b M ls w1 (.int .i64 ((p : Int) + 1)) z := ⟨p + 1, by omega, by simp, ⟨v, by rw [G.out]; exact hDz⟩, by rw [G.out]; exact hUz, hKz⟩
          repeat (first | (exact hnew) | (exact ⟨hnew, rfl⟩) | (apply Exists.intro))
         case measure => simp [intOf]; omega
        ·have h35' : ¬ (u : Int) = 35 := by omega
         have G := Lib.hid (show runK ls (p + 1) = ((runK ls p).1 ++ ((lineD (runK ls p).2 vb rest).1 ++ [10]), (lineD (runK ls p).2 vb rest).2) from by rw [HG.out, if_neg (fun e => h35 (HHD.out.1 e))])
         clear h35 HG
         obtain ⟨⟨O, c, ds, bs, sy⟩, hxx⟩ : ∃ xx, xx = runK ls p := ⟨_, rfl⟩
         rw [← hxx] at hDz hUz hokx G
         simp only at hDz hUz hokx G
         obtain ⟨hok, hol⟩ := hokx
         have hDd := hDz.below ((Below.refl z.heap.size z).drew)
         have hld := lineD_len hok vb rest
         have HDO0 := fun A' n' cw' (hr : StrsR z.drew A' n' rest) (h1 : n' ≤ 1000000) (h2 : n' ≤ cw') => dsk_do B q sq c v ds bs sy z.drew hDd hok vb A' n' cw' rest hr h1 h2 (fun W hb => HTK.out W (HBZ.out.drew.trans hb))
         obtain ⟨⟨an, d2⟩, han⟩ : ∃ x, x = lineD ⟨c, ds, bs, sy⟩ vb rest := ⟨_, rfl⟩
         rw [← han] at HDO0 G hld
         rw [← HV.out] at HDO0
         simp only at G hld
         have HDO := Lib.hid HDO0
         have hBz : B ≤ z.heap.size := Nat.le_trans (Nat.le_of_lt hB1s) hKz.size
         obtain ⟨T, hT⟩ : ∃ T, T = bytesOf an := ⟨_, rfl⟩
         have hTs : T.size ≤ 300 := by rw [hT]; exact hld
         have HTD := Lib.hid (show T.data.toList = an from by rw [hT, bytesOf_data])
         have hTT := Lib.hid hT
         have HWS := Lib.hid (fun U (hU : Lib.IsBuilderF 40 5 B b (Lib.byteCells O) U) (hB : B ≤ U.heap.size) => show Calls Tryz.prog 10 #[.pointer (some ⟨b, 0, none⟩), .string (T ++ ⟨#[10]⟩)] U fun e w' => e = .returned (.tuple #[.int .i64 ((T ++ ⟨#[10]⟩ : ByteArray).size : Nat), .nilIface]) ∧ Lib.IsBuilderF 40 5 B b (Lib.byteCells (O ++ (an ++ [10]))) w' ∧ Kp B outT U w' from by
          have h := lib_WriteString B b O (T ++ ⟨#[10]⟩) U hU (by
           have h5 : (T ++ (⟨#[10]⟩ : ByteArray)).size = T.size + 1 := by rw [ByteArray.size_append]; rfl
           rw [h5]
           omega) hB
          rw [show (T ++ (⟨#[10]⟩ : ByteArray)).data.toList = an ++ [10] from by rw [ByteArray.data_append, Array.toList_append, HTD.out]] at h
          exact h)
         have hRS : StrsR z (some ⟨gw, 0, none⟩) (R + 1) (vb :: rest) := StrsR.of_own how
         have HRC := Lib.hid (fun A' (hA : 0 < R → A' = some ⟨gw, 1, none⟩) => show StrsR z.drew A' R rest from by
          have h := (hRS.cut (i := 1) (m := R) (by omega) (A' := A') (fun h0 b' off e => by cases e; exact hA h0)).below ((Below.refl z.heap.size z).drew)
          rw [List.drop_one, List.tail_cons, List.take_of_length_le (by rw [← HR.out]; exact Nat.le_refl _)] at h
          exact h)
         have c3d : z.drew.cell? ⟨gw, 0, none⟩ = some (.string V) := c3
         have howd : z.drew.ownsRow w6.heap.size 9 1 (.slice (some ⟨gw, 0, none⟩) (R + 1) cw) (R + 1) (((vb :: rest).map bytesOf).map Value.string) := how
         have hUd : Lib.IsBuilderF 40 5 B b (Lib.byteCells O) z.drew := builder_kp hUz (Kp.of_below (B := B) (T := fun _ => false) ((Below.refl z.heap.size z).drew)) rfl rfl
         have q1 : (1 : Int) ≤ (R : Int) + 1 := by omega
         have q4 : ¬ 9223372036854775807 < T.size + 1 := by omega
         have q5 : ¬ (9223372036854775807 : Int) < (T.size : Int) + 1 := by omega
         have q2 : (R : Int) + 1 ≤ (cw : Int) := by omega
         have q3 : (1 : Int) ≤ (cw : Int) := by omega
         clear hxx HDO0 han hT how hRS hUz hDd
         go_upto_region 20 with fail
         by_cases hcap : cw = 1
         ·have hR0 : R = 0 := by omega
          have hR0' : (R : Int) = 0 := by omega
          have HDX := Lib.hid (show Calls Tryz.prog 11 #[.pointer (some ⟨q, 0, none⟩), .string V, (.slice (some ⟨gw, 0, none⟩) 0 0)] z.drew fun e w' => e = .returned (.string T) ∧ (∃ v, DeskIn B w' q sq d2.c v d2.ds d2.by_ d2.sy) ∧ Kp B deskT z.drew w' from (HDO.out (some ⟨gw, 0, none⟩) 0 0 (by have h := HRC.out (some ⟨gw, 0, none⟩) (fun h => by omega); rwa [hR0] at h) (by omega) (by omega)).mono fun e w' ⟨h1, h2, h3⟩ => ⟨by rw [h1, hTT.out], h2, h3⟩)
          subst hcap
          subst hR0
          clear hol
          go_region_held3 (fun W => W.cell? ⟨gw, 0, none⟩ = some (.string V)) (first | (with_reducible exact c3d) | (with_reducible exact y0) | (with_reducible exact y1) | fail) (first
           | (go_at_call 11; (with_reducible refine HDX.out.mono ?_); rintro e u1 ⟨rfl, ⟨v4, h4⟩, hk4⟩; have ho4 := hk4.own howd (by decide); have y0 : u1.cell? ⟨gw, 0, none⟩ = some (.string V) := (own_cell0 ho4).trans (by rw [HV.out]); have hU4 := builder_kp hUd hk4 (by decide) (by decide))
           | (go_at_call 10; (refine (HWS.out _ hU4 (Nat.le_trans hBz hk4.size)).mono ?_); rintro e u2 ⟨rfl, hU5, hk5⟩; have y1 : u2.cell? ⟨gw, 0, none⟩ = some (.string V) := (own_cell0 (hk5.own ho4 (by decide))).trans (by rw [HV.out]))
           | fail)
          all_goals
           have hD5 := h4.kp hk5 (by decide) (by decide) (by decide) (by decide)
           have hK5 := hKz.trans (((Kp.refl B runT z).drew.trans (hk4.both runT_desk)).trans (hk5.both runT_out))
           go_wp2
           go_roundw
           case rel =>
            have hnew : RunL B q sq b M ls w1 (.int .i64 ((p : Int) + 1)) u2 := ⟨p + 1, by omega, by simp, ⟨v4, by rw [G.out]; exact hD5⟩, by rw [G.out]; exact hU5, hK5⟩
            repeat (first | (exact hnew) | (exact ⟨hnew, rfl⟩) | (apply Exists.intro))
           case measure => simp [intOf]; omega
         ·have HDX := Lib.hid (show Calls Tryz.prog 11 #[.pointer (some ⟨q, 0, none⟩), .string V, (.slice (some ⟨gw, 1, none⟩) R (cw - 1))] z.drew fun e w' => e = .returned (.string T) ∧ (∃ v, DeskIn B w' q sq d2.c v d2.ds d2.by_ d2.sy) ∧ Kp B deskT z.drew w' from (HDO.out (some ⟨gw, 1, none⟩) R (cw - 1) (HRC.out _ (fun _ => rfl)) (by omega) (by omega)).mono fun e w' ⟨h1, h2, h3⟩ => ⟨by rw [h1, hTT.out], h2, h3⟩)
          clear hol
          go_region_held3 (fun W => W.cell? ⟨gw, 0, none⟩ = some (.string V)) (first | (with_reducible exact c3d) | (with_reducible exact y0) | (with_reducible exact y1) | fail) (first
           | (go_at_call 11; (with_reducible refine HDX.out.mono ?_); rintro e u1 ⟨rfl, ⟨v4, h4⟩, hk4⟩; have ho4 := hk4.own howd (by decide); have y0 : u1.cell? ⟨gw, 0, none⟩ = some (.string V) := (own_cell0 ho4).trans (by rw [HV.out]); have hU4 := builder_kp hUd hk4 (by decide) (by decide))
           | (go_at_call 10; (refine (HWS.out _ hU4 (Nat.le_trans hBz hk4.size)).mono ?_); rintro e u2 ⟨rfl, hU5, hk5⟩; have y1 : u2.cell? ⟨gw, 0, none⟩ = some (.string V) := (own_cell0 (hk5.own ho4 (by decide))).trans (by rw [HV.out]))
           | fail)
          all_goals
           have hD5 := h4.kp hk5 (by decide) (by decide) (by decide) (by decide)
           have hK5 := hKz.trans (((Kp.refl B runT z).drew.trans (hk4.both runT_desk)).trans (hk5.both runT_out))
           go_wp2
           go_roundw
           case rel =>
            have hnew : RunL B q sq b M ls w1 (.int .i64 ((p : Int) + 1)) u2 := ⟨p + 1, by omega, by simp, ⟨v4, by rw [G.out]; exact hD5⟩, by rw [G.out]; exact hU5, hK5⟩
            repeat (first | (exact hnew) | (exact ⟨hnew, rfl⟩) | (apply Exists.intro))
           case measure => simp [intOf]; omega
    ·obtain rfl : p = M := by omega
     have hSB := Tryz.Builder_String_any_k B b (runK ls p).1 wr hU (by have := hK.size; omega)
     have HSB := Lib.hid hSB
     have hbW : Below B w wr := bW1'.trans (hK.low (by omega))
     have z9 : ¬ (p : Int) < (p : Int) := by omega
     clear hSB
     go_wp2_with fail
     refine HSB.out.mono ?_
     rintro e w6 ⟨rfl, _, hb6, _⟩
     go_wp2
     go_ret
     rw [F.out]
     exact ⟨rfl, by rw [← HBB.out]; exact hbW.trans hb6⟩
end Go.Proofs.YtgodgedhddngeaaGreatDoor
