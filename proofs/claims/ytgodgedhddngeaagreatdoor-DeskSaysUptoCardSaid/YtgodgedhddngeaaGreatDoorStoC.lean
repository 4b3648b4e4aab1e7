/- The reference's Desk: what it answers, of every text: a walk. -/
import Derived.Test.YtgodgedhddngeaaGreatDoorDskR
import Derived.Test.YtgodgedhddngeaaGreatDoorDskU
import Derived.Test.YtgodgedhddngeaaGreatDoorCards
import Derived.Test.YtgodgedhddngeaaGreatDoorTie
import Derived.Deep.DeepHandedRow
import Derived.Lib.LaidTab
import Derived.LaidSub
import Derived.MakeChecks
set_option maxRecDepth 100000
set_option maxHeartbeats 16000000
namespace Go.Proofs.YtgodgedhddngeaaGreatDoor
open Go.ChangeShapes Go.WideShapes Go.ChangeAt Go.RowKit Go.Sort Pl
theorem lines_len (s : List UInt8) (j : Nat) : ((linesL s).getD j []).length ≤ s.length := by
 rw [List.getD_eq_getElem?_getD]
 rcases Nat.lt_or_ge j (linesL s).length with h | h
 ·rw [List.getElem?_eq_getElem h]
  refine pieces_size 10 s _ ?_
  have := List.getElem_mem h
  rw [Option.getD_some]
  generalize (linesL s)[j] = x at this
  unfold linesL at this
  split at this
  ·exact (List.dropLast_subset _) this
  ·exact this
 ·rw [List.getElem?_eq_none h]; exact Nat.zero_le _
def LinesPostB (s : List UInt8) (w : World) (e : Ending) (w' : World) : Prop := ∃ g c cur, e = .returned (.slice (some ⟨g, 0, none⟩) (linesL s).length c) ∧ Blk w' g 9 cur ∧ (∀ j, j < (linesL s).length → cur[j]? = some (.string (bytesOf ((linesL s).getD j [])))) ∧ (linesL s).length ≤ c ∧ Below w.heap.size w w'
theorem ref_TextLinesB (s : ByteArray) (w : World) (hs : s.size ≤ 4294967280) :
  Calls Tryz.prog 13 #[.string s] w (LinesPostB s.data.toList w) := by
 have HPC := ref_Pieces s 10 w hs
 have hcnt := pieces_count 10 s.data.toList
 have hsz : s.data.toList.length = s.size := by rw [Array.length_toList]; rfl
 rw [hsz] at hcnt
 obtain ⟨k, hk⟩ : ∃ k, (pieces 10 s.data.toList).length = k + 1 := by
  have h0 := pieces_ne 10 s.data.toList
  cases hp : pieces 10 s.data.toList with
  | nil => exact absurd hp h0
  | cons a b => exact ⟨b.length, rfl⟩
 have HLT := Lib.hid (linesL_take hk)
 obtain ⟨ps, hps⟩ : ∃ ps, ps = pieces 10 s.data.toList := ⟨_, rfl⟩
 rw [← hps] at HPC hk HLT hcnt
 have HPC := Lib.hid HPC
 have HK := Lib.hid hk
 rw [hk] at hcnt
 clear hps hsz hk
 go_enter Tryz.func13, Tryz.ntmps13
 go_wp2_with fail
 refine HPC.out.mono ?_
 rintro e w1 ⟨v, rfl, ⟨g, cp, rfl, hown⟩, hb1⟩
 have hR := StrsR.of_own hown
 have hcp : k + 1 ≤ cp ∧ ∃ cur, Blk w1 g 9 cur := by
  obtain ⟨_, h | ⟨g1, cap1, cur, e, _, hB, hle, _⟩⟩ := hown
  ·cases h.1
  ·cases e
   rw [← HK.out]
   exact ⟨hle, cur, hB⟩
 obtain ⟨hcp, cur, hBl⟩ := hcp
 have hcu : ∀ j, j < k + 1 → cur[j]? = some (.string (bytesOf (ps.getD j []))) := fun j hj => by
  obtain ⟨b', off, e, _, hc⟩ := hR.cells (by rw [HK.out]; omega)
  injection e with e
  injection e with e1 e2
  subst e1; subst e2
  have := hc j (by rw [HK.out]; omega)
  rw [Nat.zero_add] at this
  rw [← hBl.cell j]
  exact this
 have c0 : w1.cell? ⟨g, k, none⟩ = some (.string (bytesOf (ps.getD k []))) := (hBl.cell k).trans (hcu k (by omega))
 have HCU := Lib.hid hcu
 rw [HK.out]
 have e1 : IntKind.i64.wrap (((k + 1 : Nat) : Int) - 1) = (k : Int) := by rw [wrap_small _ (by omega) (by omega)]; omega
 have z0 : (0 : Int) ≤ (k : Int) := by omega
 have z1 : (k : Int) ≤ (cp : Int) := by omega
 obtain ⟨x, hx⟩ : ∃ x, x = ps.getD k [] := ⟨_, rfl⟩
 rw [← hx] at c0 HLT
 clear hown hx HPC hR hcu
 by_cases hx0 : x = []
 ·subst hx0
  have F := Lib.hid (show linesL s.data.toList = ps.take k from by rw [HLT.out]; rfl)
  have hxs : (bytesOf []).toList = [] := by rw [Lib.toList_data, bytesOf_data]
  go_wp2
  go_ret
  have h2 : (ps.take k).length = k := by rw [List.length_take, HK.out]; omega
  unfold LinesPostB
  rw [F.out, h2]
  refine ⟨_, _, cur, rfl, hBl, fun j hj => ?_, by omega, hb1⟩
  rw [HCU.out j (by omega)]
  simp only [List.getD_eq_getElem?_getD, List.getElem?_take, if_pos hj]
 ·have F := Lib.hid (show linesL s.data.toList = ps from by
   rw [HLT.out, if_neg (by simpa using hx0), ← HK.out, List.take_length])
  obtain ⟨X, hX⟩ : ∃ X, X = bytesOf x := ⟨_, rfl⟩
  have hXe : ¬ X.toList = [] := by rw [hX, Lib.toList_data, bytesOf_data]; exact hx0
  have hXe2 : X.toList.isEmpty = false := by rw [hX, Lib.toList_data, bytesOf_data]; simpa using hx0
  rw [← hX] at c0
  clear hX hx0
  go_wp2
  go_ret
  unfold LinesPostB
  rw [F.out, HK.out]
  exact ⟨_, _, cur, rfl, hBl, HCU.out, hcp, hb1⟩
def DeskL (B q M : Nat) (ls : List (List UInt8)) (w1 : World) (o j : Value) (wr : World) : Prop := ∃ p : Nat, p ≤ M ∧ o = .string (bytesOf (runK ls p).1) ∧ j = .int .i64 p ∧ (∃ v, BenchIn B wr q (runK ls p).2.c v (runK ls p).2.ds (runK ls p).2.by_ (runK ls p).2.sy) ∧ Kp B benchT w1 wr
theorem ref_Desk (s : ByteArray) (w : World) (hs : s.size ≤ 2000000) (ht : Tabs w) :
  Calls Tryz.prog 5 #[.string s] w fun e w' => e = .returned (.string (bytesOf (runD s.data.toList))) ∧ Below w.heap.size w w' := by
 have hsz : s.data.toList.length = s.size := by rw [Array.length_toList]; rfl
 have hTL := ref_TextLinesB s w (by omega)
 unfold LinesPostB at hTL
 obtain ⟨l, hl⟩ : ∃ l, l = s.data.toList := ⟨_, rfl⟩
 rw [← hl] at hsz
 simp only [← hl] at hTL ⊢
 have HLZ := Lib.hid (fun j => show ((linesL l).getD j []).length ≤ s.size from by rw [← hsz]; exact lines_len l j)
 obtain ⟨ls, hls⟩ : ∃ ls, ls = linesL l := ⟨_, rfl⟩
 have HRU := Lib.hid (show runD l = if 65536 < s.size ∨ 200 < ls.length then tooT else (runK ls ls.length).1 from by
  unfold runD runK
  rw [← hls, hsz, List.take_length])
 rw [← hls] at hTL HLZ
 obtain ⟨M, hM⟩ : ∃ M, M = ls.length := ⟨_, rfl⟩
 rw [← hM] at HRU hTL
 have HM := Lib.hid hM
 have HTL := Lib.hid hTL
 obtain ⟨B, hB⟩ : ∃ B, B = w.heap.size := ⟨_, rfl⟩
 have HBB := Lib.hid hB
 have HTK := Lib.hid (fun W (hb : Below B w W) => ht.below (by rw [← hB]; exact hb))
 clear hTL hl hls hM hsz ht hB
 go_enter Tryz.func5, Tryz.ntmps5
 go_wp2_with fail
 refine HTL.out.mono ?_
 rintro e w1 ⟨g, cp, cur, rfl, hBl, hcu, hcp, hb1⟩
 have HCU := Lib.hid hcu
 have bW1 : Below B w w1 := by rw [HBB.out]; exact hb1
 have hB1s : B ≤ w1.heap.size := by rw [HBB.out]; exact hb1.size
 clear HTL hcu
 by_cases hbig : 65536 < s.size ∨ 200 < M
 ·have F := Lib.hid (show runD l = tooT from by rw [HRU.out, if_pos hbig])
  by_cases h6 : 65536 < s.size
  ·have h6' : (65536 : Int) < (s.size : Int) := by omega
   clear hbig
   go_wp2
   go_ret
   rw [F.out]
   exact ⟨rfl, hb1⟩
  ·have h6' : ¬ (65536 : Int) < (s.size : Int) := by omega
   have h7 : 200 < M := by omega
   have h7' : (200 : Int) < (M : Int) := by omega
   clear hbig
   go_wp2
   go_ret
   rw [F.out]
   exact ⟨rfl, hb1⟩
 ·have F := Lib.hid (show runD l = (runK ls M).1 from by rw [HRU.out, if_neg hbig])
  have h6 : ¬ (65536 : Int) < (s.size : Int) := by omega
  have h7 : ¬ (200 : Int) < (M : Int) := by omega
  have h6n : ¬ 65536 < s.size := by omega
  have h7n : ¬ 200 < M := by omega
  have hM200 : M ≤ 200 := by omega
  have hs65 : s.size ≤ 65536 := by omega
  clear hbig
  have hq0 := Blk.made w1 51 #[.int .i64 1, .int .i64 1, .int .i64 1, .int .u64 1, .int .i64 1, .int .i64 3, .int .i64 6554, .int .i64 0, .int .i64 0, .int .i64 0, .int .i64 0, .slice none 0 0, .string ⟨#[]⟩, .int .i64 0]
  have b2 : Below w1.heap.size w1 (w1.alloc (.cells #[.int .i64 1, .int .i64 1, .int .i64 1, .int .u64 1, .int .i64 1, .int .i64 3, .int .i64 6554, .int .i64 0, .int .i64 0, .int .i64 0, .int .i64 0, .slice none 0 0, .string ⟨#[]⟩, .int .i64 0] 51)) := (by repeat (first | exact Below.refl _ _ | assumption | refine bel_drewN ?_ _ | refine Below.drew ?_ | (refine Below.alloc ?_ (by simp <;> omega) _) | (refine Below.setCell ?_ (by simp <;> omega) _)))
  obtain ⟨w2, hw2⟩ : ∃ w2, w2 = w1.alloc (.cells #[.int .i64 1, .int .i64 1, .int .i64 1, .int .u64 1, .int .i64 1, .int .i64 3, .int .i64 6554, .int .i64 0, .int .i64 0, .int .i64 0, .int .i64 0, .slice none 0 0, .string ⟨#[]⟩, .int .i64 0] 51) := ⟨_, rfl⟩
  obtain ⟨q, hq⟩ : ∃ q, q = w1.heap.size := ⟨_, rfl⟩
  rw [← hw2] at hq0 b2
  rw [← hq] at hq0
  have HW2 := Lib.hid hw2
  have HQ := Lib.hid hq
  have hBq : B ≤ q := by omega
  have HIN : BenchIn B w2 q (runK ls 0).2.c (.slice none 0 0) (runK ls 0).2.ds (runK ls 0).2.by_ (runK ls 0).2.sy := ⟨hq0, DataH.nil _ _, hBq⟩
  clear hw2 hq hq0
  go_upto_region 5 with fail
  rw [← HW2.out, ← HQ.out]
  clear HW2 HQ
  go_wp2
  go_loopw [5, 6, 7] (fun o i _ wr => DeskL B q M ls w1 o i wr) (fun _ i _ _ => M - (intOf i).toNat)
  case atStart => exact ⟨0, Nat.zero_le _, rfl, rfl, ⟨_, HIN⟩, Kp.of_below b2⟩
  case round =>
   clear HIN b2
   obtain ⟨p, hp, rfl, rfl, ⟨v, hD⟩, hK⟩ := hrel
   by_cases hlt : p < M
   ·obtain ⟨wo, rfl⟩ : ∃ wo : World, wo = wr := ⟨_, rfl⟩
    have hokx := runK_ok ls p
    have hBo := hK.blk hBl (by decide)
    have c1 : wo.cell? ⟨g, p, none⟩ = some (.string (bytesOf (ls.getD p []))) := (hBo.cell p).trans (HCU.out p hlt)
    have hbWo : Below B w wo := bW1.trans (hK.low hB1s)
    have hLZ := HLZ.out p
    have hlp : ls[p]? = some (ls.getD p []) := by
     rw [List.getD_eq_getElem?_getD, List.getElem?_eq_getElem (by rw [← HM.out]; exact hlt)]
     rfl
    have hR1 := runK_succ hlp
    have hLW := ref_LineWords (bytesOf (ls.getD p [])) wo (by rw [bytesOf_size]; omega)
    rw [bytesOf_data] at hLW
    obtain ⟨ln, hln⟩ : ∃ ln, ln = ls.getD p [] := ⟨_, rfl⟩
    rw [← hln] at hLW hR1 c1 hLZ
    have HWC := Lib.hid (show (wordsL ln).length ≤ 100000 from by
     have h3 : (wordsL ln).length ≤ (pieces 32 ln).length := List.length_filter_le _ _
     have h4 := pieces_count 32 ln
     omega)
    have HWZ := Lib.hid (fun x (hx : x ∈ wordsL ln) => show x.length ≤ 4294967280 from by
     have h5 := pieces_size 32 ln x ((List.mem_filter.1 hx).1)
     omega)
    have HWN := Lib.hid (fun w (h : w ∈ wordsL ln) => wordsL_ne h)
    have HLW := Lib.hid hLW
    have hR1h := Lib.hid hR1
    obtain ⟨LN, hLN⟩ : ∃ LN, LN = bytesOf ln := ⟨_, rfl⟩
    rw [← hLN] at c1 HLW
    obtain ⟨OT, hOT⟩ : ∃ OT, OT = bytesOf (runK ls p).1 := ⟨_, rfl⟩
    have HOT := Lib.hid hOT
    rw [← hOT]
    have z2 : (0 : Int) ≤ (p : Int) := by omega
    have z3 : (p : Int) < (M : Int) := by omega
    clear hLW hR1 hlp hln hLN hLZ hBo hOT
    go_wp2_with fail
    refine HLW.out.mono ?_
    rintro e z ⟨vw, rfl, how, hwz⟩
    have hDz := hD.below hwz
    have hKz := hK.trans (Kp.of_below hwz)
    have HBZ := Lib.hid (show Below B w z from hbWo.trans (hwz.mono (by have := hK.size; omega)))
    clear HLW hD c1
    cases hws : wordsL ln with
    | nil =>
     have G := Lib.hid (show runK ls (p + 1) = runK ls p from by rw [hR1h.out]; unfold goL; rw [hws])
     rw [hws] at how
     obtain ⟨Ao, co, rfl, _, _⟩ := own_form how
     clear hws how hokx hR1h
     go_wp2
     go_roundw
     case rel =>
      have hnew : DeskL B q M ls w1 (.string OT) (.int .i64 ((p : Int) + 1)) z := ⟨p + 1, by omega, by rw [G.out, HOT.out], by simp, ⟨v, by rw [G.out]; exact hDz⟩, hKz⟩
      repeat (first | (exact hnew) | (exact ⟨hnew, rfl⟩) | (apply Exists.intro))
     case measure => simp [intOf]; omega
    | cons vb rest =>
     have hvb : vb ≠ [] := HWN.out vb (by rw [hws]; simp)
     have HVZ := Lib.hid (HWZ.out vb (by rw [hws]; simp))
     have HRZ := Lib.hid (fun x (hx : x ∈ rest) => HWZ.out x (by rw [hws]; simp [hx]))
     have HG := Lib.hid (show runK ls (p + 1) = if vb.head? = some 35 then runK ls p else ((runK ls p).1 ++ ((lineD (runK ls p).2 vb rest).1 ++ [10]), (lineD (runK ls p).2 vb rest).2) from by rw [hR1h.out]; unfold goL; rw [hws])
     have hRb : rest.length + 1 ≤ 100000 := by
      have h2 := HWC.out
      rw [hws, List.length_cons] at h2
      exact h2
     rw [hws] at how
     obtain ⟨gw, cw, rfl, hgw1, hgw2⟩ := how.form (by simp)
     have hcw : (vb :: rest).length ≤ cw := by
      obtain ⟨_, _, e, h1, _⟩ := own_form how
      cases e
      exact h1
     have c3 := own_cell0 how
     obtain ⟨R, hR⟩ : ∃ R, R = rest.length := ⟨_, rfl⟩
     rw [List.length_cons, ← hR] at how hcw
     rw [← hR] at hRb
     have HR := Lib.hid hR
     obtain ⟨V, hV⟩ : ∃ V, V = bytesOf vb := ⟨_, rfl⟩
     have hVd : V.data.toList = vb := by rw [hV, bytesOf_data]
     have hVp : 0 < V.size := by
      have : V.data.toList.length = V.size := by rw [Array.length_toList]; rfl
      rw [hVd] at this
      rcases Nat.eq_zero_or_pos V.size with h | h
      ·exact absurd (List.length_eq_zero_iff.1 (this.trans h)) hvb
      ·exact h
     have hhd : vb.head? = some (V[0]'hVp) := by rw [← hVd, List.head?_eq_getElem?]; exact byte_at V hVp
     obtain ⟨u, hu⟩ : ∃ u, (V[0]'hVp).toNat = u := ⟨_, rfl⟩
     have hu256 : u < 256 := by rw [← hu]; exact UInt8.toNat_lt _
     have HHD := Lib.hid (show vb.head? = some 35 ↔ u = 35 from by
      rw [hhd, ← hu]
      constructor
      ·intro h; injection h with h; rw [h]; rfl
      ·intro h; congr 1; exact UInt8.toNat_inj.1 h)
     rw [← hV] at c3
     have HV := Lib.hid hV
     have hVp' : (0 : Int) < (V.size : Int) := by omega
     clear hws hR hV hVd hhd hvb hR1h
     rw [List.length_cons, ← HR.out]
     by_cases h35 : u = 35
     ·have G := Lib.hid (show runK ls (p + 1) = runK ls p from by rw [HG.out, if_pos (HHD.out.2 h35)])
      subst h35
      clear how hokx HG
      go_wp2
      go_roundw
      case rel =>
       have hnew : DeskL B q M ls w1 (.string OT) (.int .i64 ((p : Int) + 1)) z := ⟨p + 1, by omega, by rw [G.out, HOT.out], by simp, ⟨v, by rw [G.out]; exact hDz⟩, hKz⟩
       repeat (first | (exact hnew) | (exact ⟨hnew, rfl⟩) | (apply Exists.intro))
      case measure => simp [intOf]; omega
     ·have h35' : ¬ (u : Int) = 35 := by omega
      have G := Lib.hid (show runK ls (p + 1) = ((runK ls p).1 ++ ((lineD (runK ls p).2 vb rest).1 ++ [10]), (lineD (runK ls p).2 vb rest).2) from by rw [HG.out, if_neg (fun e => h35 (HHD.out.1 e))])
      clear h35 HG
      obtain ⟨⟨O, c, ds, bs, sy⟩, hxx⟩ : ∃ xx, xx = runK ls p := ⟨_, rfl⟩
      rw [← hxx] at hDz hokx G HOT
      simp only at hDz hokx G HOT
      obtain ⟨hok, hol⟩ := hokx
      have hDd := hDz.below ((Below.refl z.heap.size z).drew)
      have hld := lineD_len hok vb rest
      have HDO0 := fun A' n' cw' (hr : StrsR z.drew A' n' rest) (h1 : n' ≤ 1000000) (h2 : n' ≤ cw') => bench_line B q c v ds bs sy z.drew hDd hok vb HVZ.out A' n' cw' rest hr h1 h2 HRZ.out (fun W hb => HTK.out W (HBZ.out.drew.trans hb))
      obtain ⟨⟨an, d2⟩, han⟩ : ∃ x, x = lineD ⟨c, ds, bs, sy⟩ vb rest := ⟨_, rfl⟩
      rw [← han] at HDO0 G hld
      rw [← HV.out] at HDO0
      simp only at G hld
      have HDO := Lib.hid HDO0
      have hBz : B ≤ z.heap.size := Nat.le_trans hB1s hKz.size
      obtain ⟨T, hT⟩ : ∃ T, T = bytesOf an := ⟨_, rfl⟩
      have hTs : T.size ≤ 300 := by rw [hT]; exact hld
      have hTT := Lib.hid hT
      have hOs : OT.size ≤ 60200 := by
       have h1 : OT.size = O.length := by rw [HOT.out]; rfl
       omega
      have HNT := Lib.hid (show OT ++ (T ++ (⟨#[10]⟩ : ByteArray)) = bytesOf (O ++ (an ++ [10])) from by
       rw [HOT.out, hT, show (⟨#[10]⟩ : ByteArray) = bytesOf [10] from rfl, ← bytesOf_app, ← bytesOf_app])
      have hRS : StrsR z (some ⟨gw, 0, none⟩) (R + 1) (vb :: rest) := StrsR.of_own how
      have HRC := Lib.hid (fun A' (hA : 0 < R → A' = some ⟨gw, 1, none⟩) => show StrsR z.drew A' R rest from by
       have h := (hRS.cut (i := 1) (m := R) (by omega) (A' := A') (fun h0 b' off e => by cases e; exact hA h0)).below ((Below.refl z.heap.size z).drew)
       rw [List.drop_one, List.tail_cons, List.take_of_length_le (by rw [← HR.out]; exact Nat.le_refl _)] at h
       exact h)
      have c3d : z.drew.cell? ⟨gw, 0, none⟩ = some (.string V) := c3
      have howd : z.drew.ownsRow wo.heap.size 9 1 (.slice (some ⟨gw, 0, none⟩) (R + 1) cw) (R + 1) (((vb :: rest).map bytesOf).map Value.string) := how
      have q1 : (1 : Int) ≤ (R : Int) + 1 := by omega
      have q2 : (R : Int) + 1 ≤ (cw : Int) := by omega
      have q3 : (1 : Int) ≤ (cw : Int) := by omega
      clear hxx HDO0 han hT how hRS hDd hol
      go_upto_region 11 with fail
      have q4 : ¬ 9223372036854775807 < T.size + 1 := by omega
      have q5 : ¬ (9223372036854775807 : Int) < (T.size : Int) + 1 := by omega
      have q6 : ¬ 9223372036854775807 < OT.size + (T.size + 1) := by omega
      have q7 : ¬ (9223372036854775807 : Int) < (OT.size : Int) + ((T.size : Int) + 1) := by omega
      by_cases hcap : cw = 1
      ·have hR0 : R = 0 := by omega
       have HDX := Lib.hid (show Calls Tryz.prog 15 #[.pointer (some ⟨q, 0, none⟩), .string V, (.slice (some ⟨gw, 0, none⟩) 0 0)] z.drew fun e w' => e = .returned (.string T) ∧ (∃ v, BenchIn B w' q d2.c v d2.ds d2.by_ d2.sy) ∧ Kp B benchT z.drew w' from (HDO.out (some ⟨gw, 0, none⟩) 0 0 (by have h := HRC.out (some ⟨gw, 0, none⟩) (fun h => by omega); rwa [hR0] at h) (by omega) (by omega)).mono fun e w' ⟨h1, h2, h3⟩ => ⟨by rw [h1, hTT.out], h2, h3⟩)
       subst hcap
       subst hR0
       go_region_held3 (fun W => W.cell? ⟨gw, 0, none⟩ = some (.string V)) (first | (with_reducible exact c3d) | (with_reducible exact y0) | fail) (first
        | (go_at_call 15; (with_reducible refine HDX.out.mono ?_); rintro e u1 ⟨rfl, ⟨v4, h4⟩, hk4⟩; have ho4 := hk4.own howd (by decide); have y0 : u1.cell? ⟨gw, 0, none⟩ = some (.string V) := (own_cell0 ho4).trans (by rw [HV.out]))
        | fail)
       all_goals
        have hK5 := hKz.trans ((Kp.refl B benchT z).drew.trans hk4)
        go_wp2
        go_roundw
        case rel =>
         have hnew : DeskL B q M ls w1 (.string (OT ++ (T ++ ⟨#[10]⟩))) (.int .i64 ((p : Int) + 1)) u1 := ⟨p + 1, by omega, by rw [G.out, HNT.out], by simp, ⟨v4, by rw [G.out]; exact h4⟩, hK5⟩
         repeat (first | (exact hnew) | (exact ⟨hnew, rfl⟩) | (apply Exists.intro))
        case measure => simp [intOf]; omega
      ·have HDX := Lib.hid (show Calls Tryz.prog 15 #[.pointer (some ⟨q, 0, none⟩), .string V, (.slice (some ⟨gw, 1, none⟩) R (cw - 1))] z.drew fun e w' => e = .returned (.string T) ∧ (∃ v, BenchIn B w' q d2.c v d2.ds d2.by_ d2.sy) ∧ Kp B benchT z.drew w' from (HDO.out (some ⟨gw, 1, none⟩) R (cw - 1) (HRC.out _ (fun _ => rfl)) (by omega) (by omega)).mono fun e w' ⟨h1, h2, h3⟩ => ⟨by rw [h1, hTT.out], h2, h3⟩)
       go_region_held3 (fun W => W.cell? ⟨gw, 0, none⟩ = some (.string V)) (first | (with_reducible exact c3d) | (with_reducible exact y0) | fail) (first
        | (go_at_call 15; (with_reducible refine HDX.out.mono ?_); rintro e u1 ⟨rfl, ⟨v4, h4⟩, hk4⟩; have ho4 := hk4.own howd (by decide); have y0 : u1.cell? ⟨gw, 0, none⟩ = some (.string V) := (own_cell0 ho4).trans (by rw [HV.out]))
        | fail)
       all_goals
        have hK5 := hKz.trans ((Kp.refl B benchT z).drew.trans hk4)
        go_wp2
        go_roundw
        case rel =>
         have hnew : DeskL B q M ls w1 (.string (OT ++ (T ++ ⟨#[10]⟩))) (.int .i64 ((p : Int) + 1)) u1 := ⟨p + 1, by omega, by rw [G.out, HNT.out], by simp, ⟨v4, by rw [G.out]; exact h4⟩, hK5⟩
         repeat (first | (exact hnew) | (exact ⟨hnew, rfl⟩) | (apply Exists.intro))
        case measure => simp [intOf]; omega
   ·obtain rfl : p = M := by omega
    have hbW : Below B w wr := bW1.trans (hK.low hB1s)
    have z9 : ¬ (p : Int) < (p : Int) := by omega
    go_wp2
    go_ret
    rw [F.out]
    exact ⟨rfl, by rw [← HBB.out]; exact hbW⟩
end Go.Proofs.YtgodgedhddngeaaGreatDoor
namespace Go.Proofs.YtgodgedhddngeaaGreatDoor
open Go.ChangeShapes Go.WideShapes Go.ChangeAt Go.RowKit Pl
def tabsListed : List (String × DataW Unit) := [("math/bits.deBruijn32tab", Rows.laid_math_bits_deBruijn32tab), ("math/bits.deBruijn64tab", Rows.laid_math_bits_deBruijn64tab), ("internal/strconv.uint64pow10", Rows.laid_internal_strconv_uint64pow10), ("unicode/utf8.acceptRanges", Rows.laid_unicode_utf8_acceptRanges), ("unicode/utf8.first", Rows.laid_unicode_utf8_first)]
theorem cells_pow : Tryz.prog.cellsOf 215 = 20 := by kernel_rfl
theorem type_pow : (Tryz.prog.globals[3]?).map (·.type) = some 215 := by kernel_rfl
theorem pow_datum : (Rows.laid_internal_strconv_uint64pow10 : DataW Unit) = Lib.tabData .u64 Lib.pow10Tab := by kernel_rfl
theorem tabs_met {W : World} (h : laidMetH Tryz.prog tabsListed W) (hs : W.ShapedOpen Tryz.prog) : Tabs W := by
 have h2 := h.filter (fun x => x.1 == "internal/strconv.uint64pow10")
 have e : (tabsListed.filter fun x => x.1 == "internal/strconv.uint64pow10") = [("internal/strconv.uint64pow10", Lib.tabData .u64 Lib.pow10Tab)] := by
  rw [← pow_datum]
  kernel_rfl
 rw [e, MakeChecks.laidMetH_plain _ _ _ (by kernel_rfl)] at h2
 exact ⟨Lib.tabIs_of_head (rest := []) gPow type_pow Tryz.underlying215 Tryz.underlying27 (by kernel_rfl) cells_pow h2, Tryz.laysM145.s1_3 W hs⟩
def litsOf : List (DataW Unit) → List Value
 | [] => []
 | .lit l :: r => l.value :: litsOf r
 | _ :: r => litsOf r
def partsOf : DataW Unit → List (DataW Unit)
 | .agg l => l
 | _ => []
def layAt (h : Array Obj) (g : Nat) (cs : List Value) : Array Obj := h.modify g fun
 | .cells _ t frozen => .cells cs.toArray t frozen
 | o => o
noncomputable def laidWorld (os : Os) (args : Array Value) : World :=
 { World.holding Tryz.prog os ⟨#[], args, []⟩ with heap := layAt (layAt (layAt (layAt (layAt (World.holding Tryz.prog os ⟨#[], args, []⟩).heap 4 (litsOf (partsOf Rows.laid_math_bits_deBruijn32tab))) 5 (litsOf (partsOf Rows.laid_math_bits_deBruijn64tab))) 3 (litsOf (partsOf Rows.laid_internal_strconv_uint64pow10))) 2 ((partsOf Rows.laid_unicode_utf8_acceptRanges).flatMap fun p => litsOf (partsOf p))) 1 (litsOf (partsOf Rows.laid_unicode_utf8_first)) }
theorem lift_card {os : Os} (started : os.Started) {H : Type} {enc : TypeId × Value → H} {f : FuncId} {fn : Func} {s : OpenSpec} {k : (H : Type) → List (DataW H) → Bool} (hk : s.cond = some k) {F : Stop.Interp} {conds : List PathCond}
  (noInit : Tryz.checked.prog.inits.idxOf? f = none) (hfn : Tryz.checked.prog.funcs[f]? = some fn)
  (witness : ∃ (w : World) (tape : Tape) (i : Input), w.os = os ∧ (w.forCall tape i).Shaped Tryz.checked.prog ∧ i.vars = [] ∧ Input.okWide Tryz.checked.prog (w.forCall tape i) .any w.heap.size f i ∧
   s.preRow enc Tryz.checked.prog fn conds false tabsListed (w.forCall tape i).memory i.args ∧ Assume.holds {} Tryz.checked.prog (lone (Frame.enter Tryz.checked.prog f i.args .normal) [] (w.forCall tape i)))
  (hts : (fn.params.toList.all fun t => Tryz.checked.prog.readableRec t && decide (t < Tryz.checked.prog.types.size)) = true) {tb : TypeId} (htb : fn.resultTypes = #[tb]) (hbool : Tryz.checked.prog.underlying tb = some .bool)
  (hv : s.vars = []) (hsp : ∀ ds : List (DataW H), ds.length = fn.params.toList.length → s.fn F H ds = { results := [.lit (.bool true)], args := ds })
  (core : ∀ (W : World) (args : Array Value) (ds : List (DataW H)) (ps : List MemPlace), DataW.TrodAll enc Tryz.prog W 0 (fun _ => true) true fn.params.toList args.toList ds ps → (∀ x ∈ ps, x.block < W.heap.size) →
   (∀ (j : Nat) t v, fn.params[j]? = some t → args[j]? = some v → ∃ base, Value.okWide Tryz.prog W .any base t v) →
   (DataW.weightsEach Tryz.prog fn.params.toList ds).all (· ≤ reachBytes) = true → k H ds = true → Tabs W →
   Calls Tryz.prog f args W fun e W' => e = .returned (.bool true) ∧ Below W.heap.size W W') :
  ReturnsInHanded {} Tryz.checked os f .any (s.preRow enc Tryz.checked.prog fn conds false tabsListed) ((s.at F).post enc Tryz.checked.prog fn false true false false) := by
 refine returnsInHanded_of_row own started noInit hfn witness ?_
 intro W base args ds gs before hval hW _ hkk hsz hL hS _
 have hW' := hW
 obtain ⟨p, q, hA, hV, rfl, hfz, hnd⟩ := hW
 have hV' := hV
 rw [hv] at hV
 obtain ⟨rfl, rfl⟩ := trodVars_none hV
 have hlen : ds.length = fn.params.toList.length := (trodAll_length hA).2
 have e0 : s.bare.plain.varTypes Tryz.checked.prog = [] := by
  show s.vars.filterMap _ = []
  rw [hv]; rfl
 rw [e0, List.append_nil, List.append_nil] at hsz
 have hkk := hkk k hk
 rw [List.append_nil] at hkk
 refine (core W args ds p hA (fun x hx => hW'.lt x (by simpa using hx)) (fun j t v h1 h2 => ⟨base, hval j t v h1 h2⟩) hsz hkk (tabs_met hL hS)).mono fun e W' ⟨he, hb⟩ => ⟨_, he, ?_⟩
 exact post_true (s := s.at F) laidOut hts htb hbool hv (by rw [List.append_nil]; exact hsp ds hlen) hW' hb
end Go.Proofs.YtgodgedhddngeaaGreatDoor
