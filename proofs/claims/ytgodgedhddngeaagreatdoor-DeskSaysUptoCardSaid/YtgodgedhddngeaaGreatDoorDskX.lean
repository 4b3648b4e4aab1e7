/- The reference's line with an example: a walk. -/
import Derived.Test.YtgodgedhddngeaaGreatDoorDskS
import Derived.Maps.Own
import Derived.Maps.OwnOps
import Derived.Maps.OwnSet
set_option maxRecDepth 100000
set_option maxHeartbeats 16000000
namespace Go.Proofs.YtgodgedhddngeaaGreatDoor
open Go.ChangeShapes Go.WideShapes Go.ChangeAt Go.RowKit Go.Sort Pl
theorem BenchIn.row {B q : Nat} {w : World} {c : Cfg} {v : Value} {ds : Data} {bs : List UInt8} {sy : Nat} (h : BenchIn B w q c v ds bs sy) {g : Nat} {t : TypeId} {cs : Array Value} (hg : Blk w g t cs) (ht : (t == 73) = false) : v.ownBlock ≠ some g := fun e => by
 obtain ⟨vs, ho, _⟩ := h.data
 rcases ho.2 with ⟨hv, _⟩ | ⟨g', cap, cur, hv, _, hg', _⟩
 ·rw [hv] at e; cases e
 ·rw [hv] at e
  have e : some g' = some g := e
  injection e with e
  subst e
  unfold Blk at hg
  rw [hg] at hg'
  injection hg' with hg'
  injection hg' with _ hg' _
  rw [hg'] at ht
  exact absurd ht (by decide)
theorem line_data (B q : Nat) (c : Cfg) (v : Value) (ds : Data) (bs : List UInt8) (sy : Nat) (w : World) (h : BenchIn B w q c v ds bs sy) (hn16 : ds.length ≤ 16) (A : Option Addr) (n cw : Nat) (L : List (List UInt8)) (hx : StrsR w A n L) (hn : n ≤ 1000000) (hcw : n ≤ cw) (hz : ∀ x ∈ L, x.length ≤ 4294967280) (V : ByteArray) (hV : V.toList = vData) (ht : ∀ W, Below B w W → Tabs W) :
  Calls Tryz.prog 15 #[.pointer (some ⟨q, 0, none⟩), .string V, .slice A n cw] w (BenchPost B q (moreD ⟨c, ds, bs, sy⟩ L) w) := by
 have hBw : B ≤ w.heap.size := Nat.le_of_lt (Nat.lt_of_le_of_lt h.bq h.dq.lt)
 have HT := Lib.hid (fun W (hb : Below w.heap.size w W) => ht W (hb.mono hBw))
 have kd : (V.toList == [100, 97, 116, 97]) = true := by rw [hV]; rfl
 have HIX := lib_Slash A n cw L w hx hn
 have htw := ht w (Below.refl _ _)
 have hz1 : ∀ k, ∀ x ∈ L.take k, x.length ≤ 4294967280 := fun k x hm => hz x (List.mem_of_mem_take hm)
 have hz2 : ∀ k, ∀ x ∈ L.drop k, x.length ≤ 4294967280 := fun k x hm => hz x (List.mem_of_mem_drop hm)
 unfold slashI at HIX
 have hlen := hx.len
 clear ht hV hz
 cases hsl : slashAt L with
 | none =>
  rw [hsl] at HIX
  have HIX := Lib.hid HIX
  have F := Lib.hid (show moreD ⟨c, ds, bs, sy⟩ L = (errT 3, ⟨c, ds, bs, sy⟩) from by unfold moreD; rw [hsl])
  have HFA := Lib.hid (ref_wrong 3 w (by omega) (by omega) (HT.out _ (Below.refl _ _)))
  clear hsl hlen
  go_enter Tryz.func15, Tryz.ntmps15
  go_wp2_with fail
  refine HIX.out.mono ?_
  rintro e w' ⟨rfl, rfl⟩
  go_wp2_with fail
  refine HFA.out.mono ?_
  rintro e w3 ⟨rfl, hb3⟩
  go_wp2
  go_ret
  rw [F.out]
  exact ⟨rfl, ⟨v, h.below hb3⟩, Kp.of_below hb3⟩
 | some k =>
  rw [hsl] at HIX
  have HIX := Lib.hid HIX
  have hk := slash_lt hsl
  rw [hlen] at hk
  have F0 := Lib.hid (show moreD ⟨c, ds, bs, sy⟩ L = (match numsW (L.take k), numsW (L.drop (k + 1)) with
   | some i, some o => if ds.length = 16 then (errT 2, ⟨c, ds, bs, sy⟩) else (okT, ⟨c, ds ++ [(i, o)], bs, sy⟩)
   | _, _ => (errT 3, ⟨c, ds, bs, sy⟩)) from by unfold moreD; rw [hsl]; rfl)
  have hc1 := hx.cut (i := 0) (m := k) (by omega) (A' := A) (fun _ b off e => by rw [Nat.add_zero]; exact e)
  rw [List.drop_zero] at hc1
  have hlt : (L.drop (k + 1)).take (n - (k + 1)) = L.drop (k + 1) := List.take_of_length_le (by rw [List.length_drop]; omega)
  have hc2 : ∀ A', (0 < n - (k + 1) → ∀ b off, A = some ⟨b, off, none⟩ → A' = some ⟨b, off + (k + 1), none⟩) → StrsR w A' (n - (k + 1)) (L.drop (k + 1)) := fun A' hA' => by
   have h2 := hx.cut (i := k + 1) (m := n - (k + 1)) (by omega) (A' := A') hA'
   rwa [hlt] at h2
  obtain ⟨b0, off0, hA0, _, _⟩ := hx.cells (by omega)
  subst hA0
  have HN1 := Lib.hid (ref_wholes (some ⟨b0, off0, none⟩) k cw (L.take k) w hc1 (by omega) (hz1 k) htw)
  have HN2 := Lib.hid (fun A' hA' W (hb : Below w.heap.size w W) c' => ref_wholes A' (n - (k + 1)) c' (L.drop (k + 1)) W ((hc2 A' hA').below hb) (by omega) (hz2 (k + 1)) (htw.below hb))
  have HI := Lib.hid (fun W (hb : Below w.heap.size w W) => h.below hb)
  have e1 : IntKind.i64.wrap ((k : Int) + 1) = (k : Int) + 1 := wrap_small _ (by omega) (by omega)
  have z1 : (k : Int) ≤ (cw : Int) := by omega
  have z2 : (k : Int) + 1 ≤ (n : Int) := by omega
  have z3 : (n : Int) ≤ (cw : Int) := by omega
  have z4 : (0 : Int) ≤ (k : Int) + 1 := by omega
  have hql := h.dq.lt
  obtain ⟨i0, hi0, jz0, jz1, jz2⟩ := info_parts ex_info
  clear hsl hc1 hc2 hlt hx hz1 hz2 htw
  go_enter Tryz.func15, Tryz.ntmps15
  go_wp2_with fail
  refine HIX.out.mono ?_
  rintro e w' ⟨rfl, rfl⟩
  go_wp2_with fail
  refine HN1.out.mono ?_
  rintro e w3 ⟨v1, rfl, ho1, hb3⟩
  clear HN1 HIX
  go_upto_region 6 with fail
  go_cut [10, 11] (fun a8 a9 wx => MoreR (L.drop (k + 1)) w3 a8 a9 wx)
  case first =>
   by_cases hcap : cw = k + 1
   ·have hnk : n - (k + 1) = 0 := by omega
    have HN3 := HN2.out (some ⟨b0, off0, none⟩) (fun hh => by omega) w3 hb3 0
    rw [hnk] at HN3
    have HN3 := Lib.hid HN3
    subst hcap
    obtain rfl : n = k + 1 := by omega
    clear hnk hlen
    go_wp2_with fail
    refine HN3.out.mono ?_
    rintro e w4 ⟨v2, rfl, ho2, hb4⟩
    go_wp2
    go_meet
    case rel => exact ⟨rfl, ho2, hb4⟩
   ·have HN3 := Lib.hid (HN2.out (some ⟨b0, off0 + (k + 1), none⟩) (fun _ b off e => by cases e; rfl) w3 hb3 (cw - (k + 1)))
    clear hlen
    go_wp2_with fail
    refine HN3.out.mono ?_
    rintro e w4 ⟨v2, rfl, ho2, hb4⟩
    go_wp2
    go_meet
    case rel => exact ⟨rfl, ho2, hb4⟩
  case rest =>
   obtain ⟨rfl, ho2, hb4⟩ := hcut
   obtain ⟨w4, hy⟩ : ∃ y : World, y = wc := ⟨_, rfl⟩
   rw [← hy] at ho2 hb4 ⊢
   have hw4 := bel_trans hb3 hb4
   have h4 := HI.out _ hw4
   have ho1' := own_below ho1 hb4
   unfold numsL at ho1' ho2
   clear hy HN2 ho1 hlen
   have HF3 := Lib.hid (ref_wrong 3 w4 (by omega) (by omega) (HT.out _ hw4))
   have HF2 := Lib.hid (ref_wrong 2 w4 (by omega) (by omega) (HT.out _ hw4))
   cases hn1 : numsW (L.take k) with
   | none =>
    have F := Lib.hid (show moreD ⟨c, ds, bs, sy⟩ L = (errT 3, ⟨c, ds, bs, sy⟩) from by rw [F0.out, hn1])
    clear hn1 ho1' ho2
    rw [show (none : Option (List Int)).isSome = false from rfl]
    go_wp2_with fail
    refine HF3.out.mono ?_
    rintro e w5 ⟨rfl, hb5⟩
    go_wp2
    go_ret
    rw [F.out]
    exact ⟨rfl, ⟨v, h4.below hb5⟩, Kp.of_below (bel_trans hw4 hb5)⟩
   | some i =>
    rw [hn1] at ho1'
    cases hn2 : numsW (L.drop (k + 1)) with
    | none =>
     have F := Lib.hid (show moreD ⟨c, ds, bs, sy⟩ L = (errT 3, ⟨c, ds, bs, sy⟩) from by rw [F0.out, hn1, hn2])
     clear hn1 hn2 ho1' ho2
     rw [show (none : Option (List Int)).isSome = false from rfl, show (some i : Option (List Int)).isSome = true from rfl]
     go_wp2_with fail
     refine HF3.out.mono ?_
     rintro e w5 ⟨rfl, hb5⟩
     go_wp2
     go_ret
     rw [F.out]
     exact ⟨rfl, ⟨v, h4.below hb5⟩, Kp.of_below (bel_trans hw4 hb5)⟩
    | some o =>
     rw [hn2] at ho2
     have F1 := Lib.hid (show moreD ⟨c, ds, bs, sy⟩ L = if ds.length = 16 then (errT 2, ⟨c, ds, bs, sy⟩) else (okT, ⟨c, ds ++ [(i, o)], bs, sy⟩) from by rw [F0.out, hn1, hn2])
     have ha : w4.ownsRow 0 3 1 v1 i.length (i.map (.int .i64)) := own_base ho1' (Nat.zero_le _)
     have hb : w4.ownsRow 0 3 1 u10 o.length (o.map (.int .i64)) := own_base ho2 (Nat.zero_le _)
     clear hn1 hn2 ho1' ho2
     rw [show (some o : Option (List Int)).isSome = true from rfl, show (some i : Option (List Int)).isSome = true from rfl]
     obtain ⟨D, dc, rfl, _, hdc, hdm⟩ := h4.data.duos
     have dv := h4.dv
     obtain ⟨N, hN⟩ : ∃ N, N = ds.length := ⟨_, rfl⟩
     have HN := Lib.hid hN
     rw [← hN] at hdc dv hn16 F1
     clear hN
     by_cases h16 : N = 16
     ·have F := Lib.hid (show moreD ⟨c, ds, bs, sy⟩ L = (errT 2, ⟨c, ds, bs, sy⟩) from by rw [F1.out, if_pos h16])
      have t0 : (16 : Int) ≤ (N : Int) := by omega
      clear h16 ha hb
      go_wp2_with fail
      refine HF2.out.mono ?_
      rintro e w5 ⟨rfl, hb5⟩
      go_wp2
      go_ret
      rw [F.out]
      exact ⟨rfl, ⟨_, h4.below hb5⟩, Kp.of_below (bel_trans hw4 hb5)⟩
     ·have F := Lib.hid (show moreD ⟨c, ds, bs, sy⟩ L = (okT, ⟨c, ds ++ [(i, o)], bs, sy⟩) from by rw [F1.out, if_neg h16])
      have t0 : ¬ (16 : Int) ≤ (N : Int) := by omega
      have t1 : ¬ 16 ≤ N := by omega
      obtain ⟨A1, c1, rfl, _⟩ := own_ints ha
      obtain ⟨A2, c2, rfl, _⟩ := own_ints hb
      have bU : Below w4.heap.size w4 (w4.alloc (.cells #[.slice A1 i.length c1, .slice A2 o.length c2] 73)) := (by repeat (first | exact Below.refl _ _ | assumption | refine bel_drewN ?_ _ | refine Below.drew ?_ | (refine Below.alloc ?_ (by simp <;> omega) _) | (refine Below.setCell ?_ (by simp <;> omega) _)))
      have hU := h4.below bU
      have hNB := Blk.made w4 73 #[.slice A1 i.length c1, .slice A2 o.length c2]
      have haU := own_below ha bU
      have hbU := own_below hb bU
      obtain ⟨vs, hoV, hpV⟩ := hU.data
      have hoV' := hoV
      rw [← HN.out] at hoV
      have hBs : B ≤ w4.heap.size := Nat.le_trans hBw hw4.size
      clear h16 ha hb HF2 HF3
      go_wp2_with (at_builtin; refine wpList_append_lies _ rfl _ _ 30 rfl B 73 i0 (.agg #[.slice none 0 0, .slice none 0 0]) 2 48 Tryz.underlying30 hi0 jz0 jz1 jz2 rfl (by decide) (.slice D N dc) N vs rfl hoV ⟨w4.heap.size, 0, none⟩ 1 1 [.slice A1 i.length c1, .slice A2 o.length c2] rfl rfl (World.news_of_block (cs := #[.slice A1 i.length c1, .slice A2 o.length c2]) hNB) (by simp [Value.oneCell']) (by omega) (by unfold maxLen; omega) (by omega) (by simp <;> omega) (w4.heap.size + 1) (by simp) ?_; intro g1 cap1 w5 hown1 hgrow hgg hlt1; have hqB := hU.dq.grown hgrow (fun e => hU.row hU.dq (by decide) (by rw [← HN.out]; exact e.symm)); have qc : w5.cell? ⟨q, 11, none⟩ = some (.slice D N dc) := (hqB.cell 11).trans (by rw [HN.out]; rfl); have qf : w5.frozen? ⟨q, 11, none⟩ = false := hqB.frozen 11)
      go_ret
      have hgg' : (Value.slice D N dc).ownBlock = some g1 ∨ (w4.alloc (.cells #[.slice A1 i.length c1, .slice A2 o.length c2] 73)).heap.size ≤ g1 := hgg.imp id (fun h => by simp; omega)
      rw [HN.out] at hown1 hgrow hgg'
      have hD := data_push hoV' hpV haU hbU hown1 hgrow hgg'
      have hk5 : Kp B benchT (w4.alloc (.cells #[.slice A1 i.length c1, .slice A2 o.length c2] 73)) w5 := .of_grown hgrow (fun g e => by
       have h3 := hoV'.lt g e
       rcases hoV'.2 with ⟨hv, _⟩ | ⟨g', cap', cur, hv, _, hg', _⟩
       ·rw [hv] at e; cases e
       ·rw [hv] at e
        have e : some g' = some g := e
        injection e with e
        subst e
        exact ⟨h3.1, _, _, _, hg', by decide⟩)
      have hk6 : Kp B (fun t => t == 51) w5 _ := Kp.put (i := 11) (u := .slice (some ⟨g1, 0, none⟩) (ds.length + 1) cap1) hqB (by decide) h.bq
      have hk7 : Kp B benchT w5 _ := Kp.put (i := 11) (u := .slice (some ⟨g1, 0, none⟩) (ds.length + 1) cap1) hqB (by decide) h.bq
      rw [F.out, HN.out]
      exact ⟨rfl, ⟨_, hqB.put 11 _, hD.kp hk6 (by decide) (by decide), h.bq⟩, (Kp.of_below (bel_trans hw4 bU)).trans (hk5.trans hk7)⟩
end Go.Proofs.YtgodgedhddngeaaGreatDoor
namespace Go.Proofs.YtgodgedhddngeaaGreatDoor
open Go.ChangeShapes Go.RowKit Go.Lib Go.Maps Go.ChangeMaps Pl
theorem wpList_insert_own {H : Type} {P : Program} (w : World) {ops : Array Oper} {rest : List Oper} {o : Oper} {a : Act} {Q : Exit → Act → World → Prop}
  (hg : o.guard = none) (m x v : Operand) (t : TypeId) (hop : o.op = Op.insert t m x v)
  (k e : TypeId) (K : Keyed P k) (ht : P.underlying t = some (.map k e)) (R : Value → Option (DataW H × List MemPlace)) (b n : Nat) (D : DataW H)
  (hm : a.eval m = .map (some b)) (hown : w.ownsMap P k R b n D) (hn : n < maxLen) (key val : Value) (kl : Lit) (hx : a.eval x = key) (hv : a.eval v = val) (hkey : keyOf P k key = some kl)
  (d : DataW H) (ps : List MemPlace) (hval : R val = some (d, ps))
  (hK : ∀ w', w'.ownsMap P k R b (n + 1) (D.put kl d) → w.grownBy w' (some b) → wpList P ops Q rest (a.put o.dst undef) w') :
  wpList P ops Q (o :: rest) a w := by
 refine wpList_plain hg fun K' hK' => ?_
 obtain ⟨w', hrun, r1, r2⟩ := hown.update K ht hn hkey hval
 unfold Oper.wp
 simp [execOp, hop, hm, hx, hv, hrun, Result.andThen]
 exact hK' _ _ (hK w' r1 r2)
def manyD : DataW Unit := ([(vConfig, 11), (vStep, 0), (vSync, 0), (vCrash, 1), (vRepair, 0), (vAudit, 0), (vLoss, 1), (vBytes, 0)] : List (List UInt8 × Int)).foldl (fun m p => m.put (.string p.1) (.lit (.int .i64 p.2))) (.map [])
theorem manyD_eq : manyD = .map [(.string vAudit, .lit (.int .i64 0)), (.string vBytes, .lit (.int .i64 0)), (.string vConfig, .lit (.int .i64 11)), (.string vCrash, .lit (.int .i64 1)), (.string vLoss, .lit (.int .i64 1)), (.string vRepair, .lit (.int .i64 0)), (.string vStep, .lit (.int .i64 0)), (.string vSync, .lit (.int .i64 0))] := by rfl
def manyC (v : List UInt8) : Int := if v = vConfig then 11 else if v = vCrash ∨ v = vLoss then 1 else 0
def manyH (v : List UInt8) : Bool := v == vConfig || v == vStep || v == vSync || v == vCrash || v == vRepair || v == vAudit || v == vLoss || v == vBytes
theorem many_at (v : List UInt8) : manyD.atKey (.string v) (.lit (.int .i64 0)) = .lit (.int .i64 (manyC v)) ∧ Maps.has manyD (.string v) = manyH v := by
 rw [manyD_eq]
 by_cases h1 : v = vConfig
 ·subst h1; exact ⟨rfl, rfl⟩
 by_cases h2 : v = vStep
 ·subst h2; exact ⟨rfl, rfl⟩
 by_cases h3 : v = vSync
 ·subst h3; exact ⟨rfl, rfl⟩
 by_cases h4 : v = vCrash
 ·subst h4; exact ⟨rfl, rfl⟩
 by_cases h5 : v = vRepair
 ·subst h5; exact ⟨rfl, rfl⟩
 by_cases h6 : v = vAudit
 ·subst h6; exact ⟨rfl, rfl⟩
 by_cases h7 : v = vLoss
 ·subst h7; exact ⟨rfl, rfl⟩
 by_cases h8 : v = vBytes
 ·subst h8; exact ⟨rfl, rfl⟩
 have e : ∀ x : List UInt8, ¬ v = x → (x == v) = false := fun x h => by simpa using fun h2 : x = v => h h2.symm
 have e2 : ∀ x : List UInt8, ¬ v = x → (v == x) = false := fun x h => by simpa using h
 unfold manyC manyH
 rw [if_neg h1, if_neg (fun h : v = vCrash ∨ v = vLoss => h.elim h4 h7)]
 constructor
 ·simp [DataW.atKey, Lit.sameKey, e _ h1, e _ h2, e _ h3, e _ h4, e _ h5, e _ h6, e _ h7, e _ h8]
 ·simp [Maps.has, Lit.sameKey, e _ h1, e _ h2, e _ h3, e _ h4, e _ h5, e _ h6, e _ h7, e _ h8, e2 _ h1, e2 _ h2, e2 _ h3, e2 _ h4, e2 _ h5, e2 _ h6, e2 _ h7, e2 _ h8]
theorem verbD_bad (d : DSt) (v : List UInt8) (n : List Int) (h : ¬ (manyH v = true ∧ manyC v = (n.length : Int))) : verbD d v n = (errT 3, d) := by
 have hk : ∀ (x : List UInt8) (k : Nat), manyH x = true → manyC x = (k : Int) → ¬ (v = x ∧ n.length = k) := fun x k h1 h2 h3 => h (by rw [h3.1, h3.2]; exact ⟨h1, h2⟩)
 unfold verbD
 rw [if_neg (hk vConfig 11 (by decide) (by decide)), if_neg (hk vStep 0 (by decide) (by decide)), if_neg (hk vSync 0 (by decide) (by decide)), if_neg (hk vCrash 1 (by decide) (by decide)), if_neg (hk vRepair 0 (by decide) (by decide)), if_neg (hk vAudit 0 (by decide) (by decide)), if_neg (hk vLoss 1 (by decide) (by decide)), if_neg (hk vBytes 0 (by decide) (by decide))]
end Go.Proofs.YtgodgedhddngeaaGreatDoor
