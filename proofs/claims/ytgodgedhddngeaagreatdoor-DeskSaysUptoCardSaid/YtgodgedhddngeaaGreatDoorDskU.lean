/- The reference's line: a walk. -/
import Derived.Test.YtgodgedhddngeaaGreatDoorDskX
import Derived.Test.YtgodgedhddngeaaGreatDoorDskJ
import Derived.Test.YtgodgedhddngeaaGreatDoorDskG
import Derived.Carry
set_option maxRecDepth 100000
set_option maxHeartbeats 16000000
namespace Go.Proofs.YtgodgedhddngeaaGreatDoor
open Go.ChangeShapes Go.WideShapes Go.ChangeAt Go.RowKit Go.Sort Go.Maps Pl
theorem str_law : Keyed Tryz.prog 9 := string_keyed Tryz.underlying9
theorem int_zero (w : World) : (zeroValue 3).run Tryz.prog w = .ok (.int .i64 0) w := by kernel_rfl
theorem str_key (s : ByteArray) (h : s.size ≤ maxLen) : keyOf Tryz.prog 9 (.string s) = some (.string s.data.toList) := WideMaps.keyOf_string_mk Tryz.underlying9 h
def ManyR (w3 : World) (a : Value) (wx : World) : Prop := a = .map (some w3.heap.size) ∧ wx.ownsMap Tryz.prog 9 (plainElem (H := Unit) Tryz.prog 3) w3.heap.size 8 manyD ∧ Below w3.heap.size w3 wx
theorem wpList_lookup_many (w : World) {ops : Array Oper} {rest : List Oper} {o : Oper} {a : Act} {Q : Exit → Act → World → Prop} (hg : o.guard = none) (m x : Operand) (t : TypeId) (hop : o.op = Op.lookup t m x true)
  (ht : Tryz.prog.underlying t = some (.map 9 3)) (b n : Nat) (hm : a.eval m = .map (some b)) (hown : w.ownsMap Tryz.prog 9 (plainElem (H := Unit) Tryz.prog 3) b n manyD) (V : ByteArray) (vb : List UInt8) (hV : V.data.toList = vb) (hs : V.size ≤ maxLen) (hx : a.eval x = .string V)
  (kc : Int) (kh : Bool) (hC : kc = manyC vb) (hH : kh = manyH vb) (hK : wpList Tryz.prog ops Q rest (a.put o.dst (.tuple #[.int .i64 kc, .bool kh])) w) : wpList Tryz.prog ops Q (o :: rest) a w := by
 obtain ⟨h1, h2⟩ := many_at vb
 rw [← hC] at h1
 rw [← hH] at h2
 refine wpList_lookup_own_ok_int w hg m x t hop _ _ .i64 str_law ht Tryz.underlying3 (int_zero w) b n manyD hm hown _ _ hx (str_key V hs) fun c hat _ => ?_
 rw [hV, h1] at hat
 injection hat with hat
 injection hat with _ hat
 rw [hV, h2, ← hat]
 exact hK
theorem many_cases {v : List UInt8} (h : manyH v = true) : v = vConfig ∨ v = vStep ∨ v = vSync ∨ v = vCrash ∨ v = vRepair ∨ v = vAudit ∨ v = vLoss ∨ v = vBytes := by
 unfold manyH at h
 simp only [Bool.or_eq_true, beq_iff_eq] at h
 rcases h with ((((((h | h) | h) | h) | h) | h) | h) | h
 ·exact .inl h
 ·exact .inr (.inl h)
 ·exact .inr (.inr (.inl h))
 ·exact .inr (.inr (.inr (.inl h)))
 ·exact .inr (.inr (.inr (.inr (.inl h))))
 ·exact .inr (.inr (.inr (.inr (.inr (.inl h)))))
 ·exact .inr (.inr (.inr (.inr (.inr (.inr (.inl h))))))
 ·exact .inr (.inr (.inr (.inr (.inr (.inr (.inr (h)))))))
theorem manyC_vConfig : manyC vConfig = 11 := by decide
theorem manyC_vStep : manyC vStep = 0 := by decide
theorem manyC_vSync : manyC vSync = 0 := by decide
theorem manyC_vCrash : manyC vCrash = 1 := by decide
theorem manyC_vRepair : manyC vRepair = 0 := by decide
theorem manyC_vAudit : manyC vAudit = 0 := by decide
theorem manyC_vLoss : manyC vLoss = 1 := by decide
theorem manyC_vBytes : manyC vBytes = 0 := by decide
theorem bench_line (B q : Nat) (c : Cfg) (v : Value) (ds : Data) (bs : List UInt8) (sy : Nat) (w : World) (h : BenchIn B w q c v ds bs sy) (ok : DSt.Ok ⟨c, ds, bs, sy⟩) (vb : List UInt8) (hvz : vb.length ≤ 4294967280) (A : Option Addr) (n cw : Nat) (L : List (List UInt8)) (hx : StrsR w A n L) (hn : n ≤ 1000000) (hcw : n ≤ cw) (hz : ∀ x ∈ L, x.length ≤ 4294967280) (ht : ∀ W, Below B w W → Tabs W) :
  Calls Tryz.prog 15 #[.pointer (some ⟨q, 0, none⟩), .string (bytesOf vb), .slice A n cw] w (BenchPost B q (lineD ⟨c, ds, bs, sy⟩ vb L) w) := by
 have hBw : B ≤ w.heap.size := Nat.le_of_lt (Nat.lt_of_le_of_lt h.bq h.dq.lt)
 have hb4 : bs.length ≤ 4096 := ok.b
 have hsy : sy ≤ bs.length := ok.sy
 have HT := Lib.hid (fun W (hb : Below w.heap.size w W) => ht W (hb.mono hBw))
 have HTK := Lib.hid (fun W (hb : Kp B benchT w W) => ht W (hb.low hBw))
 have hVs : (bytesOf vb).size ≤ 4294967280 := hvz
 obtain ⟨V, hV⟩ : ∃ V, V = bytesOf vb := ⟨_, rfl⟩
 rw [← hV] at hVs ⊢
 have HV := Lib.hid (show V.toList = vb from by rw [hV, Lib.toList_data, bytesOf_data])
 have HVD := Lib.hid (show V.data.toList = vb from by rw [hV, bytesOf_data])
 clear hV hvz
 by_cases hd : vb = vData
 ·rw [show lineD ⟨c, ds, bs, sy⟩ vb L = moreD ⟨c, ds, bs, sy⟩ L from if_pos hd]
  exact line_data B q c v ds bs sy w h ok.n A n cw L hx hn hcw hz V (by rw [HV.out, hd]) ht
 ·have kd : (V.toList == [100, 97, 116, 97]) = false := by rw [HV.out]; exact beq_eq_false_iff_ne.2 hd
  have HNU := Lib.hid (ref_wholes A n cw L w hx hn hz (ht w (Below.refl _ _)))
  have hmm := @run_makeMap Tryz.prog
  have HI := Lib.hid (fun W (hb : Below w.heap.size w W) => h.below hb)
  have HBG := Lib.hid (fun W (hb : Below w.heap.size w W) => show Calls Tryz.prog 36 #[.string (bytesOf bs)] W (BegPost bs W) from by
   have hh := ref_Beginning (bytesOf bs) W (by rw [bytesOf_size]; omega) (HT.out W hb)
   rw [bytesOf_data] at hh
   exact hh)
  go_enter Tryz.func15, Tryz.ntmps15
  go_wp2_with fail
  refine HNU.out.mono ?_
  rintro e w3 ⟨v1, rfl, ho1, hb3⟩
  have hw3l : w.heap.size ≤ w3.heap.size := hb3.size
  clear HNU hx hz
  go_upto_region 14 with fail
  go_cut [14] (fun a wx => ManyR w3 a wx)
  case first =>
   have hown := World.ownsMap_made (H := Unit) w3 Tryz.prog 9 (plainElem Tryz.prog 3)
   have hb : Below w3.heap.size w3 (w3.alloc (.map #[] 0)) := (Below.refl _ _).alloc (Nat.le_refl _) _
   clear ho1
   go_wp2_with (refine wpList_insert_own (H := Unit) _ rfl _ _ _ _ rfl 9 3 str_law Tryz.underlying74 _ _ _ _ rfl hown (by unfold maxLen; omega) _ _ _ rfl rfl (str_key _ (by decide)) _ [] (plainElem_int Tryz.underlying3 (by decide)) ?_; intro wm hown hgm; have hb := Below.grown hb hgm hb.size (fun j hj => by cases hj; exact Nat.le_refl _); clear hgm)
   go_meet
   case rel => exact ⟨rfl, hown, hb⟩
  case rest =>
   obtain ⟨rfl, hown, hb4m⟩ := hcut
   obtain ⟨w4, hy⟩ : ∃ y : World, y = wc := ⟨_, rfl⟩
   rw [← hy] at hown hb4m ⊢
   have hw4 := bel_trans hb3 hb4m
   have ho4 := own_below ho1 hb4m
   obtain ⟨kc, hkc⟩ : ∃ kc, kc = manyC vb := ⟨_, rfl⟩
   obtain ⟨kh, hkh⟩ : ∃ kh, kh = manyH vb := ⟨_, rfl⟩
   have HKC := Lib.hid hkc
   have HKH := Lib.hid hkh
   unfold numsL at ho4
   obtain ⟨i1, hi1⟩ : ∃ i, i = (numsW L).isSome := ⟨_, rfl⟩
   have HI1 := Lib.hid hi1
   rw [← hi1]
   clear hy ho1 hkc hkh hi1 hmm
   go_upto_region 16 with (first | (at_lookup; refine wpList_lookup_many _ rfl _ _ _ rfl Tryz.underlying74 _ _ rfl hown _ _ HVD.out (by unfold maxLen; omega) rfl _ _ HKC.out HKH.out ?_) | fail)
   cases hns : numsW L with
   | none =>
    have F := Lib.hid (line_none (d := ⟨c, ds, bs, sy⟩) hd hns)
    obtain rfl : i1 = false := by rw [HI1.out, hns]; rfl
    clear hns HI1
    have HFA := Lib.hid (ref_wrong 3 w4 (by omega) (by omega) (HT.out _ hw4))
    clear hown ho4 hb4m
    go_wp2_with fail
    refine HFA.out.mono ?_
    rintro e w5 ⟨rfl, hb5⟩
    go_wp2
    go_ret
    rw [F.out]
    exact ⟨rfl, ⟨v, HI.out _ (bel_trans hw4 hb5)⟩, Kp.of_below (bel_trans hw4 hb5)⟩
   | some ns =>
   have hls := line_some (d := ⟨c, ds, bs, sy⟩) hd hns
   have hbd : ∀ x ∈ ns, -10000000000 < x ∧ x < 10000000000 := fun x hx => by
    obtain ⟨y, _, hy⟩ := numsW_mem hns x hx
    exact numW_bd hy
   obtain rfl : i1 = true := by rw [HI1.out, hns]; rfl
   rw [hns] at ho4
   have ho4 : w4.ownsRow w.heap.size 3 1 v1 ns.length (ns.map (.int .i64)) := ho4
   obtain ⟨A1, c1, rfl, hI1⟩ := own_ints ho4
   obtain ⟨M, hM0⟩ : ∃ M, M = ns.length := ⟨_, rfl⟩
   have HM := Lib.hid hM0
   rw [← hM0] at ho4 hI1
   try rw [← hM0]
   have HLS := Lib.hid hls
   clear hns HI1 hls hM0
   by_cases hg : kh = true ∧ kc = (M : Int)
   ·obtain ⟨rfl, hkM⟩ := hg
    have hvs := many_cases HKH.out.symm
    have hm0 : (kc != (M : Int)) = false := by rw [bne_eq_false_iff_eq]; exact hkM
    have hm1 : kc = (M : Int) := hkM
    have HBG4 := Lib.hid (HBG.out _ hw4)
    have db := (HI.out _ hw4).db
    clear hown hb4m hkM
    subst hm1
    go_upto_region 18 with fail
    go_wp2_with fail
    refine HBG4.out.mono ?_
    rintro e w5 ⟨v2, rfl, hRH, hb5⟩
    have hw5 := bel_trans hw4 hb5
    have h5 := HI.out _ hw5
    obtain ⟨A0, k0, rfl, hk0, _⟩ := Held.slice hRH
    have hR5 := (RecHeld.recs hRH).weak
    have hI5 := hI1.below hb5
    have HTB := Lib.hid (fun W (hb : Below B w5 W) => ht W ((hw5.mono hBw).trans hb))
    have hbe : (beg bs).2 ≤ bs.length := beg_le bs
    obtain ⟨k, hk⟩ : ∃ k, k = (beg bs).1.length := ⟨_, rfl⟩
    obtain ⟨ee, hee⟩ : ∃ ee, ee = (beg bs).2 := ⟨_, rfl⟩
    have HEE := Lib.hid hee
    have HKK := Lib.hid (show DSt.k ⟨c, ds, bs, sy⟩ = k from hk.symm)
    rw [← hk] at hR5 hk0
    rw [← hk, ← hee]
    rw [← hee] at hbe
    clear hk hee hRH HBG4 HBG db hb5
    rcases hvs with rfl | rfl | rfl | rfl | rfl | rfl | rfl | rfl
    ·obtain rfl : M = 11 := by have h9 := HKC.out; rw [manyC_vConfig] at h9; omega
     have F := Lib.hid (HLS.out.trans (verb_vConfig (by rw [← HM.out])))
     obtain ⟨g0, g1, g2, g3, g4, g5, g6, g7⟩ := kf_vConfig HV.out
     obtain ⟨b, off, rfl, hbl, hc⟩ := ints_at0 hI5 (by omega)
     have hb3' := at0_bd hbd 3
     obtain ⟨f, hf⟩ : ∃ f, f = at0 ns := ⟨_, rfl⟩
     have HF := Lib.hid hf
     rw [← hf] at hc hb3'
     have HS := Lib.hid (fun W (hb : Below w5.heap.size w5 W) => show W.cell? ⟨b, off, none⟩ = some (.int .i64 (f 0)) ∧ W.cell? ⟨b, off + 1, none⟩ = some (.int .i64 (f 1)) ∧ W.cell? ⟨b, off + 2, none⟩ = some (.int .i64 (f 2)) ∧ W.cell? ⟨b, off + 3, none⟩ = some (.int .i64 (f 3)) ∧ W.cell? ⟨b, off + 4, none⟩ = some (.int .i64 (f 4)) ∧ W.cell? ⟨b, off + 5, none⟩ = some (.int .i64 (f 5)) ∧ W.cell? ⟨b, off + 6, none⟩ = some (.int .i64 (f 6)) ∧ W.cell? ⟨b, off + 7, none⟩ = some (.int .i64 (f 7)) ∧ W.cell? ⟨b, off + 8, none⟩ = some (.int .i64 (f 8)) ∧ W.cell? ⟨b, off + 9, none⟩ = some (.int .i64 (f 9)) ∧ W.cell? ⟨b, off + 10, none⟩ = some (.int .i64 (f 10)) from
      ⟨hc W hb 0 (by omega), hc W hb 1 (by omega), hc W hb 2 (by omega), hc W hb 3 (by omega), hc W hb 4 (by omega), hc W hb 5 (by omega), hc W hb 6 (by omega), hc W hb 7 (by omega), hc W hb 8 (by omega), hc W hb 9 (by omega), hc W hb 10 (by omega)⟩)
     have hd0 : Below w5.heap.size w5 w5.drew := (Below.refl _ _).drew
     have hmx : ∃ S : Int, max (f 3) 0 = S ∧ 0 ≤ S ∧ S < 10000000000 := ⟨_, rfl, by omega, by omega⟩
     obtain ⟨S, hS, hS0, hS1⟩ := hmx
     have l3' := (HS.out _ (Below.refl _ _)).2.2.2.1
     clear hf hc hR5 hI5 hbd ho4 hI1
     go_upto_if 118 with fail
     go_cut [19] (fun a wx => a = .int .u64 S ∧ wx = w5)
     case first =>
      by_cases hp3 : 0 < f 3
      ·have e3 : IntKind.u64.wrap (f 3) = S := by rw [wrap_u64_in (by omega) (by omega)]; omega
       go_wp2
       go_meet
       case rel => exact ⟨rfl, rfl⟩
      ·have e3 : S = 0 := by omega
       go_wp2
       go_meet
       case rel => exact ⟨by rw [e3], rfl⟩
     case rest =>
      obtain ⟨rfl, hwc⟩ := hcut
      obtain ⟨y5, hy5⟩ : ∃ y5 : World, y5 = wc := ⟨_, rfl⟩
      rw [← hy5] at hwc ⊢
      subst hwc
      clear hy5 l3'
      go_upto_region 25 with fail
      go_cut [20] (fun v5 wx => v5 = .pointer (some ⟨y5.heap.size, 0, none⟩) ∧ Below y5.heap.size y5 wx ∧ Blk wx y5.heap.size 29 #[.int .i64 (f 0), .int .i64 (f 1), .int .i64 (f 2), .int .u64 S, .int .i64 (f 4), .int .i64 (f 5), .int .i64 (f 6), .int .i64 (f 7), .int .i64 (f 8), .int .i64 (f 9), .int .i64 (f 10)])
      case first =>
       obtain ⟨l0, l1, l2, l3, l4, l5, l6, l7, l8, l9, la⟩ := HS.out _ hd0
       go_region_held3 (fun W => W.cell? ⟨b, off, none⟩ = some (.int .i64 (f 0)) ∧ W.cell? ⟨b, off + 1, none⟩ = some (.int .i64 (f 1)) ∧ W.cell? ⟨b, off + 2, none⟩ = some (.int .i64 (f 2)) ∧ W.cell? ⟨b, off + 3, none⟩ = some (.int .i64 (f 3)) ∧ W.cell? ⟨b, off + 4, none⟩ = some (.int .i64 (f 4)) ∧ W.cell? ⟨b, off + 5, none⟩ = some (.int .i64 (f 5)) ∧ W.cell? ⟨b, off + 6, none⟩ = some (.int .i64 (f 6)) ∧ W.cell? ⟨b, off + 7, none⟩ = some (.int .i64 (f 7)) ∧ W.cell? ⟨b, off + 8, none⟩ = some (.int .i64 (f 8)) ∧ W.cell? ⟨b, off + 9, none⟩ = some (.int .i64 (f 9)) ∧ W.cell? ⟨b, off + 10, none⟩ = some (.int .i64 (f 10))) (first | (with_reducible exact ⟨l0, l1, l2, l3, l4, l5, l6, l7, l8, l9, la⟩) | (exact HS.out _ ((by repeat (first | exact Below.refl _ _ | assumption | refine bel_drewN ?_ _ | refine Below.drew ?_ | (refine Below.alloc ?_ (by simp <;> omega) _) | (refine Below.setCell ?_ (by simp <;> omega) _))))) | fail) (first | fail)
       all_goals
        go_wp2
        go_meet
        case rel => exact ⟨rfl, (by repeat (first | exact Below.refl _ _ | assumption | refine bel_drewN ?_ _ | refine Below.drew ?_ | (refine Below.alloc ?_ (by simp <;> omega) _) | (refine Below.setCell ?_ (by simp <;> omega) _))), Blk.made' y5.drew 29 _ rfl⟩
      case rest =>
       obtain ⟨rfl, hb1, hB1⟩ := hcut
       obtain ⟨y, hy⟩ : ∃ y : World, y = wc := ⟨_, rfl⟩
       rw [← hy] at hb1 hB1 ⊢
       clear hy
       have h1 := h5.below hb1
       have HCK := Lib.hid (ref_Config (f 0) (f 1) (f 2) S (f 4) (f 5) (f 6) (f 7) (f 8) (f 9) (f 10) y)
       obtain ⟨d0, d1, d2, d3, d4, d5, d6, d7, d8, d9, da⟩ := hB1.cfg
       obtain ⟨E, hE⟩ : ∃ E, E = cfgE (f 0) (f 1) (f 2) (f 4) (f 5) (f 6) (f 7) (f 8) (f 9) (f 10) := ⟨_, rfl⟩
       rw [← hE] at HCK
       have HCF := Lib.hid (show confC ns = ⟨f 0, f 1, f 2, S, f 4, f 5, f 6, f 7, f 8, f 9, f 10⟩ from by rw [HF.out, ← hS, HF.out]; rfl)
       have HEE2 := Lib.hid (show (confC ns).E = E from by rw [HCF.out, hE]; rfl)
       have hEb : 0 ≤ E ∧ E ≤ 1 := by rw [hE]; unfold cfgE; split <;> omega
       clear hE hS
       go_wp2_with fail
       refine HCK.out.mono ?_
       rintro e w6 ⟨rfl, hb2⟩
       have hb12 := bel_trans hb1 hb2
       have h2 := h5.below hb12
       have hB2 := hB1.below hb2 hB1.lt
       have hw12 := bel_trans hw5 hb12
       clear HCK d0 d1 d2 d3 d4 d5 d6 d7 d8 d9 da
       by_cases hE0 : E = 0
       ·have F2 := Lib.hid (F.out.trans (show confD ⟨c, ds, bs, sy⟩ ns = (okT, ⟨confC ns, ds, bs, sy⟩) from by unfold confD; rw [if_pos (by rw [HEE2.out]; exact hE0)]))
        subst hE0
        obtain ⟨d0, d1, d2, d3, d4, d5, d6, d7, d8, d9, da⟩ := hB2.cfg
        have hq := h2.dq
        obtain ⟨p0, p1, p2, p3, p4, p5, p6, p7, p8, p9, pa⟩ := h2.cfg
        have q0 := hq.frozen 0
        have q1 := hq.frozen 1
        have q2 := hq.frozen 2
        have q3 := hq.frozen 3
        have q4 := hq.frozen 4
        have q5 := hq.frozen 5
        have q6 := hq.frozen 6
        have q7 := hq.frozen 7
        have q8 := hq.frozen 8
        have q9 := hq.frozen 9
        have qa := hq.frozen 10
        have HPB := Lib.hid (cfg_put14 (.int .i64 (f 0)) (.int .i64 (f 1)) (.int .i64 (f 2)) (.int .u64 S) (.int .i64 (f 4)) (.int .i64 (f 5)) (.int .i64 (f 6)) (.int .i64 (f 7)) (.int .i64 (f 8)) (.int .i64 (f 9)) (.int .i64 (f 10)) hq)
        clear hq
        go_wp2
        go_ret
        rw [F2.out, HCF.out]
        exact ⟨rfl, ⟨v, h2.own HPB.out.2 HPB.out.1⟩, (Kp.of_below hw12).trans (Kp.bench_but h2 HPB.out.2)⟩
       ·have F2 := Lib.hid (F.out.trans (show confD ⟨c, ds, bs, sy⟩ ns = (errT E, ⟨c, ds, bs, sy⟩) from by unfold confD; rw [if_neg (by rw [HEE2.out]; exact hE0), HEE2.out]))
        have HFA := Lib.hid (ref_wrong E w6 (by omega) (by omega) (HT.out _ hw12))
        have t0 : (E != 0) = true := by rw [bne_iff_ne]; exact hE0
        clear hE0
        go_wp2_with fail
        refine HFA.out.mono ?_
        rintro e w7 ⟨rfl, hb7⟩
        go_wp2
        go_ret
        rw [F2.out]
        exact ⟨rfl, ⟨v, h2.below hb7⟩, Kp.of_below (bel_trans hw12 hb7)⟩
    ·obtain rfl : M = 0 := by have h9 := HKC.out; rw [manyC_vStep] at h9; omega
     have F := Lib.hid (HLS.out.trans (verb_vStep (by rw [← HM.out])))
     obtain ⟨g0, g1, g2, g3, g4, g5, g6, g7⟩ := kf_vStep HV.out
     have HCA := Lib.hid (crs_step B q c v ds bs sy w5 h5 ok V HV.out A1 A0 0 c1 k0 k HKK.out HTB.out)
     clear hR5 hI5
     go_wp2_with fail
     refine HCA.out.mono ?_
     rintro e w6 ⟨rfl, ⟨v4, hz4⟩, hk4⟩
     go_wp2
     go_ret
     rw [F.out]
     exact ⟨rfl, ⟨_, hz4⟩, (Kp.of_below hw5).trans hk4⟩
    ·obtain rfl : M = 0 := by have h9 := HKC.out; rw [manyC_vSync] at h9; omega
     have F := Lib.hid (HLS.out.trans (verb_vSync (by rw [← HM.out])))
     obtain ⟨g0, g1, g2, g3, g4, g5, g6, g7⟩ := kf_vSync HV.out
     have qc := h5.db
     have qf := h5.dq.frozen 12
     have rc := h5.dy
     have rf := h5.dq.frozen 13
     obtain ⟨BS, hBS⟩ : ∃ BS, BS = bytesOf bs := ⟨_, rfl⟩
     have hBZ : BS.size = bs.length := by rw [hBS]; rfl
     rw [← hBS] at qc
     have HBS := Lib.hid hBS
     have HBZ := Lib.hid hBZ
     have hBZ1 : BS.size ≤ bs.length := by omega
     have hBZ2 : bs.length ≤ BS.size := by omega
     clear hBS hBZ
     clear hR5 hI5
     go_wp2
     go_ret
     rw [F.out, HBZ.out]
     exact ⟨rfl, ⟨_, h5.own ((But.refl q _).put 13 _) (h5.dq.put 13 _)⟩, (Kp.of_below hw5).trans (Kp.bench_but h5 ((But.refl q _).put 13 _))⟩
    ·obtain rfl : M = 1 := by have h9 := HKC.out; rw [manyC_vCrash] at h9; omega
     have F := Lib.hid (HLS.out.trans (verb_vCrash (by rw [← HM.out])))
     obtain ⟨g0, g1, g2, g3, g4, g5, g6, g7⟩ := kf_vCrash HV.out
     obtain ⟨ab, ao, rfl, hab, hac⟩ := hI5.cells (by omega)
     have n0 := hac 0 (by omega)
     rw [Nat.add_zero] at n0
     obtain ⟨x, hx0⟩ : ∃ x, x = at0 ns 0 := ⟨_, rfl⟩
     rw [← hx0] at F
     rw [← hx0] at n0
     have hxb : -10000000000 < x ∧ x < 10000000000 := by rw [hx0]; exact at0_bd hbd 0
     clear hx0 hac
     have qc := h5.db
     have qf := h5.dq.frozen 12
     have rc := h5.dy
     have rf := h5.dq.frozen 13
     obtain ⟨BS, hBS⟩ : ∃ BS, BS = bytesOf bs := ⟨_, rfl⟩
     have hBZ : BS.size = bs.length := by rw [hBS]; rfl
     rw [← hBS] at qc
     have HBS := Lib.hid hBS
     have HBZ := Lib.hid hBZ
     have hBZ1 : BS.size ≤ bs.length := by omega
     have hBZ2 : bs.length ≤ BS.size := by omega
     clear hBS hBZ
     clear hR5
     go_upto_region 33 with fail
     go_wp2
     go_loopw [22, 23] (fun l i wr => ∃ r lf : Nat, i = .int .i64 r ∧ l = .int .i64 lf ∧ lf ≤ sy + r ∧ sy + r ≤ lf ∧ lf ≤ bs.length ∧ (r : Int) ≤ max x 0 ∧ wr = w5) (fun l _ _ => bs.length - (intOf l).toNat)
     case atStart => exact ⟨0, sy, rfl, rfl, by omega, by omega, hsy, by omega, rfl⟩
     case round =>
      obtain ⟨r, lf, rfl, rfl, l1, l2, l3, l4, rfl⟩ := hrel
      have e1 : IntKind.i64.wrap ((lf : Int) + 1) = (lf : Int) + 1 := wrap_small _ (by omega) (by omega)
      have e2 : IntKind.i64.wrap ((r : Int) + 1) = (r : Int) + 1 := wrap_small _ (by omega) (by omega)
      by_cases hgo : (r : Int) < x ∧ lf < bs.length
      ·obtain ⟨t1, t2⟩ := hgo
       have t3 : (lf : Int) < (BS.size : Int) := by omega
       have t4 : lf < BS.size := by omega
       go_wp2
       go_roundw
       case rel => exact ⟨r + 1, lf + 1, by go_num, by go_num, by omega, by omega, by omega, by omega, by simp⟩
       case measure => simp [intOf]; omega
      ·have hcr : crashN sy bs.length x = lf := by
        unfold crashN
        omega
       have hBx : BS.extract 0 lf = bytesOf (bs.take lf) := by rw [HBS.out, bytesOf_take]
       have HBX := Lib.hid hBx
       have s3 : (0 : Int) ≤ (lf : Int) := by omega
       have s4 : (lf : Int) ≤ (BS.size : Int) := by omega
       have F2 := Lib.hid (F.out.trans (show (okT, crashD ⟨c, ds, bs, sy⟩ x) = (okT, ⟨c, ds, bs.take lf, lf⟩) from by unfold crashD; rw [hcr]))
       clear hcr hBx
       by_cases t1 : (r : Int) < x
       ·have t3 : ¬ (lf : Int) < (BS.size : Int) := by omega
        have t4 : ¬ lf < BS.size := by omega
        clear hgo
        go_wp2
        go_ret
        rw [F2.out, HBX.out]
        exact ⟨rfl, ⟨_, h5.own (((But.refl q _).put 12 _).put 13 _) ((h5.dq.put 12 _).put 13 _)⟩, (Kp.of_below hw5).trans (Kp.bench_but h5 (((But.refl q _).put 12 _).put 13 _))⟩
       ·clear hgo
        go_wp2
        go_ret
        rw [F2.out, HBX.out]
        exact ⟨rfl, ⟨_, h5.own (((But.refl q _).put 12 _).put 13 _) ((h5.dq.put 12 _).put 13 _)⟩, (Kp.of_below hw5).trans (Kp.bench_but h5 (((But.refl q _).put 12 _).put 13 _))⟩
    ·obtain rfl : M = 0 := by have h9 := HKC.out; rw [manyC_vRepair] at h9; omega
     have F := Lib.hid (HLS.out.trans (verb_vRepair (by rw [← HM.out])))
     obtain ⟨g0, g1, g2, g3, g4, g5, g6, g7⟩ := kf_vRepair HV.out
     have qc := h5.db
     have qf := h5.dq.frozen 12
     have rc := h5.dy
     have rf := h5.dq.frozen 13
     obtain ⟨BS, hBS⟩ : ∃ BS, BS = bytesOf bs := ⟨_, rfl⟩
     have hBZ : BS.size = bs.length := by rw [hBS]; rfl
     rw [← hBS] at qc
     have HBS := Lib.hid hBS
     have HBZ := Lib.hid hBZ
     have hBZ1 : BS.size ≤ bs.length := by omega
     have hBZ2 : bs.length ≤ BS.size := by omega
     clear hBS hBZ
     have hBx : BS.extract 0 ee = bytesOf (bs.take ee) := by rw [HBS.out, bytesOf_take]
     have HBX := Lib.hid hBx
     have s2 : IntKind.i64.wrap ((BS.size : Int) - (ee : Int)) = (BS.size : Int) - (ee : Int) := by rw [wrap_small _ (by omega) (by omega)]
     have s3 : (0 : Int) ≤ (ee : Int) := by omega
     have s4 : (ee : Int) ≤ (BS.size : Int) := by omega
     have F2 := Lib.hid (F.out.trans (show repairD ⟨c, ds, bs, sy⟩ = (Lib.itoa ((BS.size : Int) - (ee : Int)), ⟨c, ds, bs.take ee, ee⟩) from by rw [HEE.out, HBZ.out]; rfl))
     have hq0 : Blk (w5.setCell ⟨q, 12, none⟩ (.string (BS.extract 0 ee))) q 51 _ := h5.dq.put 12 (.string (BS.extract 0 ee))
     have hq1 := hq0.put 13 (.int .i64 (ee : Nat))
     have hB1 := ((But.refl q w5).put 12 (.string (BS.extract 0 ee))).put 13 (.int .i64 (ee : Nat))
     obtain ⟨y, hy⟩ : ∃ y, y = (w5.setCell ⟨q, 12, none⟩ (.string (BS.extract 0 ee))).setCell ⟨q, 13, none⟩ (.int .i64 (ee : Nat)) := ⟨_, rfl⟩
     have hk6 := (Kp.of_below (B := B) (T := benchT) hw5).trans (Kp.bench_but h5 hB1)
     rw [hBx] at hq1 hB1
     have h6 := h5.own hB1 hq1
     rw [← hBx] at h6
     rw [← hy] at h6 hk6
     have HY := Lib.hid hy
     have HIT := Lib.hid (lib_ItoaL ((BS.size : Int) - (ee : Int)) (by omega) (by omega) y (HTK.out _ hk6))
     clear hR5 hI5 hy hq1 hq0 hB1 hBx
     go_upto_region 44 with fail
     rw [← HY.out]
     go_wp2_with fail
     refine HIT.out.mono ?_
     rintro e w6 ⟨rfl, hb6⟩
     go_wp2
     go_ret
     rw [F2.out]
     exact ⟨rfl, ⟨_, h6.below hb6⟩, hk6.trans (Kp.of_below hb6)⟩
    ·obtain rfl : M = 0 := by have h9 := HKC.out; rw [manyC_vAudit] at h9; omega
     have F := Lib.hid (HLS.out.trans (verb_vAudit (by rw [← HM.out])))
     obtain ⟨g0, g1, g2, g3, g4, g5, g6, g7⟩ := kf_vAudit HV.out
     have HCA := Lib.hid (crs_audit B q c v ds bs sy w5 h5 ok V HV.out A1 A0 0 c1 k0 k HKK.out _ rfl hR5 HTB.out)
     clear hR5 hI5
     go_wp2_with fail
     refine HCA.out.mono ?_
     rintro e w6 ⟨rfl, ⟨v4, hz4⟩, hk4⟩
     go_wp2
     go_ret
     rw [F.out]
     exact ⟨rfl, ⟨_, hz4⟩, (Kp.of_below hw5).trans hk4⟩
    ·obtain rfl : M = 1 := by have h9 := HKC.out; rw [manyC_vLoss] at h9; omega
     have F := Lib.hid (HLS.out.trans (verb_vLoss (by rw [← HM.out])))
     obtain ⟨g0, g1, g2, g3, g4, g5, g6, g7⟩ := kf_vLoss HV.out
     obtain ⟨ab, ao, rfl, hab, hac⟩ := hI5.cells (by omega)
     have n0 := hac 0 (by omega)
     rw [Nat.add_zero] at n0
     obtain ⟨x, hx0⟩ : ∃ x, x = at0 ns 0 := ⟨_, rfl⟩
     rw [← hx0] at F
     rw [← hx0] at n0
     have hxb : -10000000000 < x ∧ x < 10000000000 := by rw [hx0]; exact at0_bd hbd 0
     clear hx0 hac
     have HCA := Lib.hid (crs_loss B q c v ds bs sy w5 h5 ok V HV.out ab ao c1 x hab n0 A0 k0 k HKK.out HTB.out)
     clear hR5 hI5
     go_wp2_with fail
     refine HCA.out.mono ?_
     rintro e w6 ⟨rfl, ⟨v4, hz4⟩, hk4⟩
     go_wp2
     go_ret
     rw [F.out]
     exact ⟨rfl, ⟨_, hz4⟩, (Kp.of_below hw5).trans hk4⟩
    ·obtain rfl : M = 0 := by have h9 := HKC.out; rw [manyC_vBytes] at h9; omega
     have F := Lib.hid (HLS.out.trans (verb_vBytes (by rw [← HM.out])))
     obtain ⟨g0, g1, g2, g3, g4, g5, g6, g7⟩ := kf_vBytes HV.out
     have qc := h5.db
     have qf := h5.dq.frozen 12
     have rc := h5.dy
     have rf := h5.dq.frozen 13
     obtain ⟨BS, hBS⟩ : ∃ BS, BS = bytesOf bs := ⟨_, rfl⟩
     have hBZ : BS.size = bs.length := by rw [hBS]; rfl
     rw [← hBS] at qc
     have HBS := Lib.hid hBS
     have HBZ := Lib.hid hBZ
     have hBZ1 : BS.size ≤ bs.length := by omega
     have hBZ2 : bs.length ≤ BS.size := by omega
     clear hBS hBZ
     have HIT := Lib.hid (lib_ItoaL (BS.size : Int) (by omega) (by omega) w5 (HTB.out _ (Below.refl _ _)))
     clear hR5 hI5
     go_wp2_with fail
     refine HIT.out.mono ?_
     rintro e w6 ⟨rfl, hb6⟩
     go_wp2
     go_ret
     rw [F.out, HBZ.out]
     exact ⟨rfl, ⟨_, h5.below hb6⟩, (Kp.of_below hw5).trans (Kp.of_below hb6)⟩
   ·have F := Lib.hid (HLS.out.trans (verbD_bad ⟨c, ds, bs, sy⟩ vb ns (fun hh => hg ⟨HKH.out.trans hh.1, by rw [HKC.out, HM.out]; exact hh.2⟩)))
    cases kh with
    | false =>
     clear hg
     have HFA := Lib.hid (ref_wrong 3 w4 (by omega) (by omega) (HT.out _ hw4))
     clear hown ho4 hb4m
     go_wp2_with fail
     refine HFA.out.mono ?_
     rintro e w5 ⟨rfl, hb5⟩
     go_wp2
     go_ret
     rw [F.out]
     exact ⟨rfl, ⟨v, HI.out _ (bel_trans hw4 hb5)⟩, Kp.of_below (bel_trans hw4 hb5)⟩
    | true =>
     have hm0 : (kc != (M : Int)) = true := by rw [bne_iff_ne]; exact fun e => hg ⟨rfl, e⟩
     have hm1 : ¬ kc = (M : Int) := fun e => hg ⟨rfl, e⟩
     clear hg
     have HFA := Lib.hid (ref_wrong 3 w4 (by omega) (by omega) (HT.out _ hw4))
     clear hown ho4 hb4m
     go_wp2_with fail
     refine HFA.out.mono ?_
     rintro e w5 ⟨rfl, hb5⟩
     go_wp2
     go_ret
     rw [F.out]
     exact ⟨rfl, ⟨v, HI.out _ (bel_trans hw4 hb5)⟩, Kp.of_below (bel_trans hw4 hb5)⟩
end Go.Proofs.YtgodgedhddngeaaGreatDoor
