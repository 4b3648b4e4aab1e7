/- The desk's methods, one by one: what stands in memory; step: a walk. -/
import Derived.Test.YtgodgedhddngeaaGreatDoorJrnS
set_option maxRecDepth 100000
set_option maxHeartbeats 16000000
namespace Go.Proofs.YtgodgedhddngeaaGreatDoor
open Go.ChangeShapes Go.WideShapes Go.ChangeAt Go.RowKit Go.Sort Pl
theorem bytesOf_take (l : List UInt8) (k : Nat) : (bytesOf l).extract 0 k = bytesOf (l.take k) := by
 apply ByteArray.ext
 apply Array.toList_inj.1
 rw [Lib.extract_data, bytesOf_data, bytesOf_data]
 rfl
theorem bytesOf_size (l : List UInt8) : (bytesOf l).size = l.length := rfl
theorem But.cell {g : Nat} {w w' : World} (h : But g w w') {p : Addr} (hp : p.block < w.heap.size) (hne : p.block ≠ g) : w'.cell? p = w.cell? p := World.cell?_of_block (h.block _ hp hne)
def deskT (t : TypeId) : Bool := t == 33 || t == 54 || t == 73
structure DeskIn (B : Nat) (w : World) (q sq : Nat) (c : Cfg) (v : Value) (ds : Data) (bs : List UInt8) (sy : Nat) : Prop where
 dq : Blk w q 33 #[.int .i64 c.ci, .int .i64 c.ch, .int .i64 c.co, .int .u64 c.seed, .int .i64 c.batch, .int .i64 c.steps, .int .i64 c.rate, .int .i64 c.decay, .int .i64 c.how, .int .i64 c.keep, .int .i64 c.clip, v, .pointer (some ⟨sq, 0, none⟩)]
 st : Blk w sq 54 #[.int .i64 4096, .string (bytesOf bs), .int .i64 (sy : Nat)]
 data : DataH w B v ds
 bq : B ≤ q
 bs : B ≤ sq
def DeskPost (B q sq : Nat) (x : List UInt8 × DSt) (w : World) (e : Ending) (w' : World) : Prop := e = .returned (.string (bytesOf x.1)) ∧ (∃ v, DeskIn B w' q sq x.2.c v x.2.ds x.2.by_ x.2.sy) ∧ Kp B deskT w w'
section
variable {B q sq : Nat} {w w' : World} {c : Cfg} {v : Value} {ds : Data} {bs : List UInt8} {sy : Nat}
theorem DeskIn.below (h : DeskIn B w q sq c v ds bs sy) (hb : Below w.heap.size w w') : DeskIn B w' q sq c v ds bs sy :=
 ⟨h.dq.below hb h.dq.lt, h.st.below hb h.st.lt, h.data.below hb, h.bq, h.bs⟩
theorem DeskIn.cfg (h : DeskIn B w q sq c v ds bs sy) : w.cell? ⟨q, 0, none⟩ = some (.int .i64 c.ci) ∧ w.cell? ⟨q, 1, none⟩ = some (.int .i64 c.ch) ∧ w.cell? ⟨q, 2, none⟩ = some (.int .i64 c.co) ∧ w.cell? ⟨q, 3, none⟩ = some (.int .u64 c.seed) ∧ w.cell? ⟨q, 4, none⟩ = some (.int .i64 c.batch) ∧ w.cell? ⟨q, 5, none⟩ = some (.int .i64 c.steps) ∧ w.cell? ⟨q, 6, none⟩ = some (.int .i64 c.rate) ∧ w.cell? ⟨q, 7, none⟩ = some (.int .i64 c.decay) ∧ w.cell? ⟨q, 8, none⟩ = some (.int .i64 c.how) ∧ w.cell? ⟨q, 9, none⟩ = some (.int .i64 c.keep) ∧ w.cell? ⟨q, 10, none⟩ = some (.int .i64 c.clip) :=
 ⟨h.dq.cell 0, h.dq.cell 1, h.dq.cell 2, h.dq.cell 3, h.dq.cell 4, h.dq.cell 5, h.dq.cell 6, h.dq.cell 7, h.dq.cell 8, h.dq.cell 9, h.dq.cell 10⟩
theorem DeskIn.dv (h : DeskIn B w q sq c v ds bs sy) : w.cell? ⟨q, 11, none⟩ = some v := h.dq.cell 11
theorem DeskIn.sp (h : DeskIn B w q sq c v ds bs sy) : w.cell? ⟨q, 12, none⟩ = some (.pointer (some ⟨sq, 0, none⟩)) := h.dq.cell 12
theorem DeskIn.ne (h : DeskIn B w q sq c v ds bs sy) : q ≠ sq := fun e => by
 have h1 := h.dq
 have h2 := h.st
 unfold Blk at h1 h2
 rw [e, h2] at h1
 injection h1 with h1
 injection h1 with _ h1 _
 revert h1
 decide
theorem DeskIn.row (h : DeskIn B w q sq c v ds bs sy) {g : Nat} {t : TypeId} {cs : Array Value} (hg : Blk w g t cs) (ht : (t == 73) = false) : v.ownBlock ≠ some g := fun e => by
 obtain ⟨vs, ho, _⟩ := h.data
 rcases ho.2 with ⟨hv, _⟩ | ⟨g', cap, cur, hv, _, hg', _⟩
 ·rw [hv] at e; cases e
 ·rw [hv] at e
  have e : some g' = some g := e
  injection e with e
  subst e
  unfold Blk at hg
  rw [hg] at hg'
  injection hg' with hg'
  injection hg' with _ hg' _
  rw [hg'] at ht
  exact absurd ht (by decide)
theorem DeskIn.store (h : DeskIn B w q sq c v ds bs sy) {bs' : List UInt8} {sy' : Nat} (hb : But sq w w') (hs : Blk w' sq 54 #[.int .i64 4096, .string (bytesOf bs'), .int .i64 (sy' : Nat)]) : DeskIn B w' q sq c v ds bs' sy' := by
 have hk : Kp B (fun t => t == 54) w w' := .of_but hb h.st (by decide) h.bs
 exact ⟨hk.blk h.dq (by decide), hs, h.data.kp hk (by decide) (by decide), h.bq, h.bs⟩
theorem Kp.desk_but (h : DeskIn B w q sq c v ds bs sy) (hb : But sq w w') : Kp B deskT w w' := .of_but hb h.st (by decide) h.bs
end
theorem crs_small {c : Cfg} {ds : Data} (h : c.E = 0) : 0 ≤ crs c ds ∧ crs c ds ≤ 5 := by
 unfold crs crsE
 rw [h]
 simp only [ne_eq, not_true_eq_false, if_false]
 split
 ·omega
 ·split
  ·omega
  ·split <;> omega
theorem ListO.some_ {w : World} {o : Option Nat} {v : Value} {xs : List Int} {q : Nat} {t : TypeId} {cs : Array Value} (h : ListO none w o v xs) (hq : Blk w q t cs) (ht : (t == 3) = false) : ListO (some q) w o v xs := by
 obtain ⟨b, c, cur, e, hB, hs, h1, h2, hi, n1, n2⟩ := h
 refine ⟨b, c, cur, e, hB, hs, h1, h2, hi, fun e2 => ?_, n2⟩
 injection e2 with e2
 subst e2
 unfold Blk at hB hq
 rw [hq] at hB
 injection hB with hB
 injection hB with _ hB _
 rw [hB] at ht
 exact absurd ht (by decide)
theorem line_trim (r : Rec) : bytesOf (Lib.trimSuffix (bytesOf (lineT r)).data.toList (bytesOf [10]).data.toList) = bytesOf (lineT r).dropLast := by
 rw [bytesOf_data, bytesOf_data]
 unfold lineT
 rw [trim_after, List.dropLast_concat]
theorem make_own1 (c : Cfg) (ds : Data) (hC : crs c ds = 0) (s0 : 0 ≤ c.seed) (s1 : c.seed < 18446744073709551616) (D : Option Addr) (n dc : Nat) (w : World) (hd : Duos w D n ds) (k : Nat) (hN : (k : Int) + 1 ≤ c.steps) :
  Calls Tryz.prog 47 #[.agg #[.int .i64 c.ci, .int .i64 c.ch, .int .i64 c.co, .int .u64 c.seed, .int .i64 c.batch, .int .i64 c.steps, .int .i64 c.rate, .int .i64 c.decay, .int .i64 c.how, .int .i64 c.keep, .int .i64 c.clip], .slice D n dc, .int .i64 ((k : Int) + 1)] w fun e w' => ∃ A k', e = .returned (.tuple #[.slice A (k + 1) k', .int .i64 0]) ∧ RecHeldO w.heap.size none w.heap.size (recC c ds) (k + 1) (.slice A (k + 1) k') w' ∧ Below w.heap.size w w' := by
 have h := jrn_Make_own c ds hC s0 s1 D n dc w hd (k + 1) (by omega)
 rw [show ((k + 1 : Nat) : Int) = (k : Int) + 1 from by omega] at h
 exact h
theorem dsk_step (B q sq : Nat) (c : Cfg) (v : Value) (ds : Data) (bs : List UInt8) (sy : Nat) (w : World) (h : DeskIn B w q sq c v ds bs sy) (ok : DSt.Ok ⟨c, ds, bs, sy⟩) (ht : ∀ W, Below B w W → Tabs W) :
  Calls Tryz.prog 23 #[.pointer (some ⟨q, 0, none⟩)] w (DeskPost B q sq (stepD ⟨c, ds, bs, sy⟩) w) := by
 obtain ⟨D, dc, rfl, hd, hdc, hdm⟩ := h.data.duos
 have hb4 : bs.length ≤ 4096 := ok.b
 have hBw : B ≤ w.heap.size := Nat.le_of_lt (Nat.lt_of_le_of_lt h.bq h.dq.lt)
 have HR := sto_Records sq 4096 sy _ w h.st (by rw [bytesOf_size]; omega) (ht w (Below.refl _ _))
 rw [bytesOf_data] at HR
 obtain ⟨k, hk⟩ : ∃ k, k = (beg bs).1.length := ⟨_, rfl⟩
 rw [← hk] at HR
 have hk4 : k ≤ 4096 := by rw [hk]; exact Nat.le_trans (beg_len bs) hb4
 have HK := Lib.hid (show DSt.k ⟨c, ds, bs, sy⟩ = k from hk.symm)
 have HRC := Lib.hid HR
 have HI := Lib.hid (fun W (hb : Below w.heap.size w W) => h.below hb)
 have HD := Lib.hid (fun W (hb : Below w.heap.size w W) => hd.below hb)
 have HT := Lib.hid (fun W (hb : Below w.heap.size w W) => ht W (hb.mono hBw))
 have HTK := Lib.hid (fun W (hb : Kp B deskT w W) => ht W (hb.low hBw))
 have sp := h.sp
 have hql := h.dq.lt
 have hcb := crs_small (ds := ds) ok.c
 have hs0 : 0 ≤ c.seed := ok.s0
 have hs1 : c.seed < 18446744073709551616 := by have : c.seed < 10000000000 := ok.s1; omega
 have hn : ds.length ≤ 9223372036854775806 := by have : ds.length ≤ 16 := ok.n; omega
 have HCE := Lib.hid (show c.E = 0 from ok.c)
 clear hk HR hd ht ok
 obtain ⟨N, hN⟩ : ∃ N, N = ds.length := ⟨_, rfl⟩
 have HN := Lib.hid hN
 rw [← hN] at hdc hn HI HD
 clear hN
 go_enter Tryz.func23, Tryz.ntmps23
 go_wp2_with fail
 refine HRC.out.mono ?_
 rintro e w1 ⟨v1, rfl, hH, hb1⟩
 obtain ⟨A0, k0, rfl, _, _⟩ := Held.slice hH
 have h1 := HI.out _ hb1
 have HS := Lib.hid (fun W (hb : Below w1.heap.size w1 W) => show (W.cell? ⟨q, 0, none⟩ = some (.int .i64 c.ci) ∧ W.cell? ⟨q, 1, none⟩ = some (.int .i64 c.ch) ∧ W.cell? ⟨q, 2, none⟩ = some (.int .i64 c.co) ∧ W.cell? ⟨q, 3, none⟩ = some (.int .u64 c.seed) ∧ W.cell? ⟨q, 4, none⟩ = some (.int .i64 c.batch) ∧ W.cell? ⟨q, 5, none⟩ = some (.int .i64 c.steps) ∧ W.cell? ⟨q, 6, none⟩ = some (.int .i64 c.rate) ∧ W.cell? ⟨q, 7, none⟩ = some (.int .i64 c.decay) ∧ W.cell? ⟨q, 8, none⟩ = some (.int .i64 c.how) ∧ W.cell? ⟨q, 9, none⟩ = some (.int .i64 c.keep) ∧ W.cell? ⟨q, 10, none⟩ = some (.int .i64 c.clip)) ∧ W.cell? ⟨q, 11, none⟩ = some (.slice D N dc) from ⟨(h1.below hb).cfg, (h1.below hb).dv⟩)
 have hd0 : Below w1.heap.size w1 w1.drew := (Below.refl _ _).drew
 have e1 : IntKind.i64.wrap ((k : Int) + 1) = (k : Int) + 1 := wrap_small _ (by omega) (by omega)
 clear HRC hH sp
 by_cases hC : crs c ds = 0
 ·by_cases hst : (k : Int) + 1 ≤ c.steps
  ·have hf := fine hC
   have hgd := (recC_good hf (m := k + 1) (by omega)) k (by omega)
   have HMK := Lib.hid (fun W (hb : Below w1.heap.size w1 W) => make_own1 c ds hC hs0 hs1 D N dc W (HD.out W (hb1.trans (hb.mono hb1.size))) k hst)
   obtain ⟨r, hr⟩ : ∃ r, r = recC c ds k := ⟨_, rfl⟩
   rw [← hr] at hgd
   have HRE := Lib.hid hr
   have hg := hgd.1
   clear hgd
   obtain ⟨_, _, g3, g4, g5, _⟩ := goodR_iff.1 hg
   have HGD := Lib.hid hg
   have hll := line_len hg
   have hl1 : (lineT r).length ≤ 241 := by unfold lineT; rw [List.length_append]; show _ + 1 ≤ _; omega
   have F0 := Lib.hid (show stepD ⟨c, ds, bs, sy⟩ = if 4096 < bs.length + (lineT r).length then (errT 6, ⟨c, ds, bs, sy⟩) else ((lineT r).dropLast, ⟨c, ds, bs ++ lineT r, sy⟩) from by
    unfold stepD
    rw [if_neg (by simpa using hC), if_neg (by rw [HK.out]; show ¬ c.steps < (k : Int) + 1; omega), HK.out, hr])
   have g3a := g3.1
   have g4a := g4.1
   clear hr hg hll hC hst hf g3 g4
   go_upto_region 2 with fail
   go_region_held3 (fun W => (W.cell? ⟨q, 0, none⟩ = some (.int .i64 c.ci) ∧ W.cell? ⟨q, 1, none⟩ = some (.int .i64 c.ch) ∧ W.cell? ⟨q, 2, none⟩ = some (.int .i64 c.co) ∧ W.cell? ⟨q, 3, none⟩ = some (.int .u64 c.seed) ∧ W.cell? ⟨q, 4, none⟩ = some (.int .i64 c.batch) ∧ W.cell? ⟨q, 5, none⟩ = some (.int .i64 c.steps) ∧ W.cell? ⟨q, 6, none⟩ = some (.int .i64 c.rate) ∧ W.cell? ⟨q, 7, none⟩ = some (.int .i64 c.decay) ∧ W.cell? ⟨q, 8, none⟩ = some (.int .i64 c.how) ∧ W.cell? ⟨q, 9, none⟩ = some (.int .i64 c.keep) ∧ W.cell? ⟨q, 10, none⟩ = some (.int .i64 c.clip)) ∧ W.cell? ⟨q, 11, none⟩ = some (.slice D N dc)) (first | (with_reducible exact HS.out _ hd0) | (with_reducible exact HS.out _ hd1) | fail) (first
    | (go_at_call 47; (with_reducible refine (HMK.out _ hd0).mono ?_); rintro e w2 ⟨A', k', rfl, hL, hb2⟩; have hd1 := bel_trans hd0 hb2)
    | fail)
   all_goals
    obtain ⟨ga, rfl, hga⟩ : ∃ g, A' = some ⟨g, 0, none⟩ ∧ w1.heap.size ≤ g := by
     obtain ⟨g, c', hv, h1, _⟩ := hL.form (by omega)
     injection hv with a _ _
     exact ⟨g, a, h1⟩
    have hca : k + 1 ≤ k' := by
     obtain ⟨A2, c2, e2, h1, _⟩ := Held.slice hL
     cases e2
     exact h1
    have hat := Held.at hL (j := k) (by omega)
    rw [← HRE.out] at hat
    obtain ⟨cs, ⟨XV, rfl, hXL, _⟩, hc, xlt, _⟩ := hat
    have hXL0 := hXL
    obtain ⟨xb, xk, _, rfl, _⟩ := hXL0
    have hw2 := bel_trans hb1 hd1
    have h2 := h1.below hd1
    have XI := hXL.ints.1
    obtain ⟨b2, x0, x1, x2, x3, x4⟩ : w2.drew.cell? ⟨q, 12, none⟩ = some (.pointer (some ⟨sq, 0, none⟩)) ∧ w2.drew.cell? ⟨ga, k * 5, none⟩ = some (.int .i64 r.step) ∧ w2.drew.cell? ⟨ga, k * 5 + 1, none⟩ = some (.slice (some ⟨xb, 0, none⟩) r.batch.length xk) ∧ w2.drew.cell? ⟨ga, k * 5 + 2, none⟩ = some (.int .i64 r.rate) ∧ w2.drew.cell? ⟨ga, k * 5 + 3, none⟩ = some (.int .u64 r.root) ∧ w2.drew.cell? ⟨ga, k * 5 + 4, none⟩ = some (.int .u64 r.chain) := ⟨h2.sp, hc 0 (by omega), hc 1 (by omega), hc 2 (by omega), hc 3 (by omega), hc 4 (by omega)⟩
    have HAP := sto_Append sq 4096 sy _ r (some ⟨xb, 0, none⟩) r.batch.length xk w2.drew h2.st (by rw [bytesOf_size]; omega) XI.drew (by omega) g3a g4a (HT.out _ (hw2.trans ((Below.refl _ _).drew.mono hw2.size)))
    have hqs : q ≠ sq := h1.ne
    have hgs : ga ≠ sq := by have h7 := h1.st.lt; omega
    have hq2 := h2.dq.lt
    have z0 : (0 : Int) ≤ (k : Int) := by omega
    have z1 : (k : Int) < (k : Int) + 1 := by omega
    have z2 : k < k + 1 := by omega
    have h2d := h2.below ((Below.refl _ _).drew)
    have hw2d := hw2.trans ((Below.refl _ w2).drew.mono hw2.size)
    clear hL hc HMK HS
    by_cases hfit : 4096 < bs.length + (lineT r).length
    ·have F := Lib.hid (show stepD ⟨c, ds, bs, sy⟩ = (errT 6, ⟨c, ds, bs, sy⟩) from by rw [F0.out, if_pos hfit])
     have hapE : appE 4096 (bytesOf bs) r = 6 ∧ appB 4096 (bytesOf bs) r = bytesOf bs := by
      have hf : appFits 4096 (bytesOf bs) r = false := by unfold appFits; rw [decide_eq_false_iff_not, bytesOf_size]; omega
      refine ⟨?_, ?_⟩
      ·unfold appE; rw [if_pos HGD.out, hf]; rfl
      ·unfold appB; rw [hf]; exact if_neg (fun h => by cases h.2)
     rw [hapE.1, hapE.2] at HAP
     have HAPH := Lib.hid HAP
     clear hapE hfit HAP
     go_upto_region 5 with fail
     go_region_held3 (fun W => W.cell? ⟨q, 12, none⟩ = some (.pointer (some ⟨sq, 0, none⟩)) ∧ W.cell? ⟨ga, k * 5, none⟩ = some (.int .i64 r.step) ∧ W.cell? ⟨ga, k * 5 + 1, none⟩ = some (.slice (some ⟨xb, 0, none⟩) r.batch.length xk) ∧ W.cell? ⟨ga, k * 5 + 2, none⟩ = some (.int .i64 r.rate) ∧ W.cell? ⟨ga, k * 5 + 3, none⟩ = some (.int .u64 r.root) ∧ W.cell? ⟨ga, k * 5 + 4, none⟩ = some (.int .u64 r.chain)) (first | (with_reducible exact ⟨b2, x0, x1, x2, x3, x4⟩) | (with_reducible exact ⟨y, y0, y1, y2, y3, y4⟩) | fail) (first
      | (go_at_call 48; (with_reducible refine HAPH.out.mono ?_); rintro e u ⟨rfl, hB4, hb4⟩; have y := (hb4.cell (p := ⟨q, 12, none⟩) hq2 hqs).trans b2; have y0 := (hb4.cell (p := ⟨ga, k * 5, none⟩) xlt hgs).trans x0; have y1 := (hb4.cell (p := ⟨ga, k * 5 + 1, none⟩) xlt hgs).trans x1; have y2 := (hb4.cell (p := ⟨ga, k * 5 + 2, none⟩) xlt hgs).trans x2; have y3 := (hb4.cell (p := ⟨ga, k * 5 + 3, none⟩) xlt hgs).trans x3; have y4 := (hb4.cell (p := ⟨ga, k * 5 + 4, none⟩) xlt hgs).trans x4)
      | fail)
     all_goals
      have hu := h2d.store hb4 hB4
      have hku := (Kp.of_below hw2d).trans (Kp.desk_but h2d hb4)
      have HFA := Lib.hid (dsk_failed 6 u (by omega) (by omega) (HTK.out _ hku))
      clear HAPH y y0 y1 y2 y3 y4 b2 x0 x1 x2 x3 x4
      go_wp2_with fail
      refine HFA.out.mono ?_
      rintro e w3 ⟨rfl, hb3⟩
      go_wp2
      go_ret
      rw [F.out]
      exact ⟨rfl, ⟨_, hu.below hb3⟩, hku.trans (Kp.of_below hb3)⟩
    ·have F := Lib.hid (show stepD ⟨c, ds, bs, sy⟩ = ((lineT r).dropLast, ⟨c, ds, bs ++ lineT r, sy⟩) from by rw [F0.out, if_neg hfit])
     have hapE : appE 4096 (bytesOf bs) r = 0 ∧ appB 4096 (bytesOf bs) r = bytesOf (bs ++ lineT r) := by
      have hf : appFits 4096 (bytesOf bs) r = true := by unfold appFits; rw [decide_eq_true_eq, bytesOf_size]; omega
      refine ⟨?_, ?_⟩
      ·unfold appE; rw [if_pos HGD.out, hf]; rfl
      ·unfold appB; rw [if_pos ⟨HGD.out, hf⟩, bytesOf_app]
     rw [hapE.1, hapE.2] at HAP
     have HAPH := Lib.hid HAP
     have HTR := Lib.hid (fun W => show Calls Tryz.prog 9 #[.string (bytesOf (lineT r)), .string (bytesOf [10])] W fun e w' => e = .returned (.string (bytesOf (lineT r).dropLast)) ∧ w' = W from by
      have h := Tryz.strings_TrimSuffix (bytesOf (lineT r)) (bytesOf [10]) W (by rw [bytesOf_size]; omega)
      rw [bytesOf_arr, line_trim] at h
      exact h)
     clear hapE hfit HAP
     go_upto_region 5 with fail
     go_region_held3 (fun W => W.cell? ⟨q, 12, none⟩ = some (.pointer (some ⟨sq, 0, none⟩)) ∧ W.cell? ⟨ga, k * 5, none⟩ = some (.int .i64 r.step) ∧ W.cell? ⟨ga, k * 5 + 1, none⟩ = some (.slice (some ⟨xb, 0, none⟩) r.batch.length xk) ∧ W.cell? ⟨ga, k * 5 + 2, none⟩ = some (.int .i64 r.rate) ∧ W.cell? ⟨ga, k * 5 + 3, none⟩ = some (.int .u64 r.root) ∧ W.cell? ⟨ga, k * 5 + 4, none⟩ = some (.int .u64 r.chain)) (first | (with_reducible exact ⟨b2, x0, x1, x2, x3, x4⟩) | (with_reducible exact ⟨y, y0, y1, y2, y3, y4⟩) | fail) (first
      | (go_at_call 48; (with_reducible refine HAPH.out.mono ?_); rintro e u ⟨rfl, hB4, hb4⟩; have y := (hb4.cell (p := ⟨q, 12, none⟩) hq2 hqs).trans b2; have y0 := (hb4.cell (p := ⟨ga, k * 5, none⟩) xlt hgs).trans x0; have y1 := (hb4.cell (p := ⟨ga, k * 5 + 1, none⟩) xlt hgs).trans x1; have y2 := (hb4.cell (p := ⟨ga, k * 5 + 2, none⟩) xlt hgs).trans x2; have y3 := (hb4.cell (p := ⟨ga, k * 5 + 3, none⟩) xlt hgs).trans x3; have y4 := (hb4.cell (p := ⟨ga, k * 5 + 4, none⟩) xlt hgs).trans x4)
      | fail)
     all_goals
      have hu := h2d.store hb4 hB4
      have hku := (Kp.of_below hw2d).trans (Kp.desk_but h2d hb4)
      have hb4' : But sq w2 u := ⟨hb4.os, hb4.tape, hb4.output, hb4.size, hb4.block⟩
      have XIu := ((hXL.some_ h2.st (by decide)).but hb4').ints.1
      have HP := sto_Print r (some ⟨xb, 0, none⟩) r.batch.length xk u XIu (by omega) g3a g4a (HTK.out _ hku)
      rw [show printT r = lineT r from if_pos HGD.out, show printE r = 0 from if_pos HGD.out] at HP
      have HPR := Lib.hid HP
      obtain ⟨T, hT⟩ : ∃ T, T = bytesOf (lineT r) := ⟨_, rfl⟩
      rw [← hT] at HPR HTR
      clear HAPH HP hT y b2 x0 x1 x2 x3 x4
      go_wp2_with fail
      refine HPR.out.mono ?_
      rintro e w3 ⟨rfl, hb3⟩
      go_wp2_with fail
      refine (HTR.out _).mono ?_
      rintro e w4 ⟨rfl, rfl⟩
      go_wp2
      go_ret
      rw [F.out]
      exact ⟨rfl, ⟨_, hu.below hb3⟩, hku.trans (Kp.of_below hb3)⟩
  ·have F := Lib.hid (show stepD ⟨c, ds, bs, sy⟩ = (errT 1, ⟨c, ds, bs, sy⟩) from by
    unfold stepD
    rw [if_neg (by simpa using hC), if_pos (by rw [HK.out]; show c.steps < (k : Int) + 1; omega)])
   have HMK := Lib.hid (fun W (hb : Below w1.heap.size w1 W) => jrn_Make_arg c ds hC hs0 hs1 D N dc W (HD.out W (hb1.trans (hb.mono hb1.size))) ((k : Int) + 1) (by omega))
   have HFA := Lib.hid (fun W (hb : Below w.heap.size w W) => dsk_failed 1 W (by omega) (by omega) (HT.out W hb))
   clear hC hst
   go_upto_region 2 with fail
   go_region_held3 (fun W => (W.cell? ⟨q, 0, none⟩ = some (.int .i64 c.ci) ∧ W.cell? ⟨q, 1, none⟩ = some (.int .i64 c.ch) ∧ W.cell? ⟨q, 2, none⟩ = some (.int .i64 c.co) ∧ W.cell? ⟨q, 3, none⟩ = some (.int .u64 c.seed) ∧ W.cell? ⟨q, 4, none⟩ = some (.int .i64 c.batch) ∧ W.cell? ⟨q, 5, none⟩ = some (.int .i64 c.steps) ∧ W.cell? ⟨q, 6, none⟩ = some (.int .i64 c.rate) ∧ W.cell? ⟨q, 7, none⟩ = some (.int .i64 c.decay) ∧ W.cell? ⟨q, 8, none⟩ = some (.int .i64 c.how) ∧ W.cell? ⟨q, 9, none⟩ = some (.int .i64 c.keep) ∧ W.cell? ⟨q, 10, none⟩ = some (.int .i64 c.clip)) ∧ W.cell? ⟨q, 11, none⟩ = some (.slice D N dc)) (first | (with_reducible exact HS.out _ hd0) | (with_reducible exact HS.out _ hd1) | fail) (first
    | (go_at_call 47; (with_reducible refine (HMK.out _ hd0).mono ?_); rintro e w2 ⟨rfl, hb2⟩; have hd1 := bel_trans hd0 hb2)
    | fail)
   all_goals
    have hw2 := bel_trans hb1 hd1
    go_wp2_with fail
    refine (HFA.out _ hw2).mono ?_
    rintro e w3 ⟨rfl, hb3⟩
    have hw3 := bel_trans hw2 hb3
    go_wp2
    go_ret
    rw [F.out]
    exact ⟨rfl, ⟨_, HI.out _ hw3⟩, Kp.of_below hw3⟩
 ·have F := Lib.hid (show stepD ⟨c, ds, bs, sy⟩ = (errT (crs c ds), ⟨c, ds, bs, sy⟩) from if_pos hC)
  have HMK := Lib.hid (fun W (hb : Below w1.heap.size w1 W) => jrn_Make_crs c ds D N dc W (HD.out W (hb1.trans (hb.mono hb1.size))) hn ((k : Int) + 1) hC)
  have t0 : (crs c ds != 0) = true := by rw [bne_iff_ne]; exact hC
  obtain ⟨x, hx⟩ : ∃ x, x = crs c ds := ⟨_, rfl⟩
  rw [← hx] at F HMK t0 hcb
  have HFA := Lib.hid (fun W (hb : Below w.heap.size w W) => dsk_failed x W (by omega) (by omega) (HT.out W hb))
  clear hC hx
  go_upto_region 2 with fail
  go_region_held3 (fun W => (W.cell? ⟨q, 0, none⟩ = some (.int .i64 c.ci) ∧ W.cell? ⟨q, 1, none⟩ = some (.int .i64 c.ch) ∧ W.cell? ⟨q, 2, none⟩ = some (.int .i64 c.co) ∧ W.cell? ⟨q, 3, none⟩ = some (.int .u64 c.seed) ∧ W.cell? ⟨q, 4, none⟩ = some (.int .i64 c.batch) ∧ W.cell? ⟨q, 5, none⟩ = some (.int .i64 c.steps) ∧ W.cell? ⟨q, 6, none⟩ = some (.int .i64 c.rate) ∧ W.cell? ⟨q, 7, none⟩ = some (.int .i64 c.decay) ∧ W.cell? ⟨q, 8, none⟩ = some (.int .i64 c.how) ∧ W.cell? ⟨q, 9, none⟩ = some (.int .i64 c.keep) ∧ W.cell? ⟨q, 10, none⟩ = some (.int .i64 c.clip)) ∧ W.cell? ⟨q, 11, none⟩ = some (.slice D N dc)) (first | (with_reducible exact HS.out _ hd0) | (with_reducible exact HS.out _ hd1) | fail) (first
   | (go_at_call 47; (with_reducible refine (HMK.out _ hd0).mono ?_); rintro e w2 ⟨rfl, hb2⟩; have hd1 := bel_trans hd0 hb2)
   | fail)
  all_goals
   have hw2 := bel_trans hb1 hd1
   go_wp2_with fail
   refine (HFA.out _ hw2).mono ?_
   rintro e w3 ⟨rfl, hb3⟩
   have hw3 := bel_trans hw2 hb3
   go_wp2
   go_ret
   rw [F.out]
   exact ⟨rfl, ⟨_, HI.out _ hw3⟩, Kp.of_below hw3⟩
end Go.Proofs.YtgodgedhddngeaaGreatDoor
