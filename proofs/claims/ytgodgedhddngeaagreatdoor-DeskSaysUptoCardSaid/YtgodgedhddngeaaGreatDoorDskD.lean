/- The desk's more: an example told is kept: a walk. -/
import Derived.Test.YtgodgedhddngeaaGreatDoorDskM
set_option maxRecDepth 100000
set_option maxHeartbeats 16000000
namespace Go.Proofs.YtgodgedhddngeaaGreatDoor
open Go.ChangeShapes Go.WideShapes Go.ChangeAt Go.RowKit Go.Sort Pl
theorem own_types {w : World} {b1 b2 : Nat} {e1 e2 : TypeId} {s1 s2 n1 n2 : Nat} {v1 v2 : Value} {x1 x2 : List Value} (h1 : w.ownsRow b1 e1 s1 v1 n1 x1) (h2 : w.ownsRow b2 e2 s2 v2 n2 x2) (hne : e1 ≠ e2) : ∀ k, v2.ownBlock = some k → v1.ownBlock ≠ some k := fun k hk e => by
 rcases h1.2 with ⟨hv, _⟩ | ⟨g1, _, _, hv, _, hg1, _⟩
 ·rw [hv] at e; cases e
 ·rcases h2.2 with ⟨hv2, _⟩ | ⟨g2, _, _, hv2, _, hg2, _⟩
  ·rw [hv2] at hk; cases hk
  ·rw [hv] at e
   rw [hv2] at hk
   have e : some g1 = some k := e
   have hk : some g2 = some k := hk
   injection e with e
   injection hk with hk
   subst e; subst hk
   rw [hg1] at hg2
   injection hg2 with hg2
   injection hg2 with _ hg2 _
   exact hne hg2
theorem duoAt_left {ds : Data} {p : List Int × List Int} {j : Nat} (h : j < ds.length) : duoAt (ds ++ [p]) j = duoAt ds j := by
 unfold duoAt
 rw [List.getElem?_append_left h]
theorem duoAt_last {ds : Data} {p : List Int × List Int} : duoAt (ds ++ [p]) ds.length = p := by
 unfold duoAt
 rw [List.getElem?_append_right (Nat.le_refl _), Nat.sub_self]
 rfl
theorem ex_info : (Tryz.prog.info? 73).map (fun i => (i.zero, i.size, i.bytes)) = some (some (.agg #[.slice none 0 0, .slice none 0 0]), 2, 48) := by kernel_rfl
theorem data_push {u w1 : World} {B g cap : Nat} {v a b : Value} {ds : Data} {i o : List Int} {vs : List Value} (hv : u.ownsRow B 73 2 v ds.length vs) (hp : ∀ j, j < ds.length → ExK u v.ownBlock ((vs.drop (j * 2)).take 2) (duoAt ds j))
  (ha : u.ownsRow 0 3 1 a i.length (i.map (.int .i64))) (hb : u.ownsRow 0 3 1 b o.length (o.map (.int .i64)))
  (hown : (w1).ownsRow B 73 2 (.slice (some ⟨g, 0, none⟩) (ds.length + 1) cap) (ds.length + 1) (vs ++ [a, b])) (hg : u.grownBy w1 v.ownBlock) (hgg : v.ownBlock = some g ∨ u.heap.size ≤ g) :
  DataH w1 B (.slice (some ⟨g, 0, none⟩) (ds.length + 1) cap) (ds ++ [(i, o)]) := by
 have hl : (ds ++ [(i, o)]).length = ds.length + 1 := by rw [List.length_append]; rfl
 unfold DataH
 rw [hl]
 refine Held.push keeps_ex (f := duoAt (ds ++ [(i, o)])) hown hv.1 rfl (fun j hj => by rw [duoAt_left hj]; exact hp j hj) ?_ hg hgg
 rw [duoAt_last]
 exact ⟨a, b, rfl, ⟨ha, own_types hv ha (by decide)⟩, ⟨hb, own_types hv hb (by decide)⟩⟩
theorem idx_slash : ∀ (L : List (List UInt8)) (i : Nat), Lib.idxFromS (L.map bytesOf) (bytesOf [47]) i = match L.findIdx? (· == [47]) with | some k => ((i + k : Nat) : Int) | none => -1
 | [], _ => rfl
 | x :: L, i => by
  have ih := idx_slash L (i + 1)
  rw [List.map_cons, List.findIdx?_cons]
  unfold Lib.idxFromS
  by_cases h : x = [47]
  ·subst h
   rw [if_pos rfl]
   simp
  ·have h1 : ¬ bytesOf x = bytesOf [47] := fun e => h (by
    have := congrArg (fun b => b.data.toList) e
    simp only [bytesOf_data] at this
    exact this)
   have h2 : (x == [47]) = false := by simpa using h
   rw [if_neg h1, ih, h2]
   cases L.findIdx? (· == [47]) with
   | none => rfl
   | some k =>
    simp only [Option.map_some, Bool.false_eq_true, if_false]
    congr 1
    omega
def MoreR (L : List (List UInt8)) (w3 : World) (a b : Value) (wx : World) : Prop := b = .bool (numsW L).isSome ∧ wx.ownsRow w3.heap.size 3 1 a (numsL L).length ((numsL L).map (.int .i64)) ∧ Below w3.heap.size w3 wx
def slashI (L : List (List UInt8)) : Int := match slashAt L with | some k => (k : Int) | none => -1
theorem lib_Slash (A : Option Addr) (n c : Nat) (L : List (List UInt8)) (w : World) (hx : StrsR w A n L) (hn : n ≤ 1000000) :
  Calls Tryz.prog 33 #[.slice A n c, .string (bytesOf [47])] w fun e w' => e = .returned (.int .i64 (slashI L)) ∧ w' = w := by
 have hs : Lib.idxOfS (L.map bytesOf) (bytesOf [47]) = slashI L := by
  unfold Lib.idxOfS slashI slashAt
  rw [idx_slash]
  cases L.findIdx? (· == [47]) with
  | none => rfl
  | some k => simp only [Nat.zero_add]
 rcases Nat.eq_zero_or_pos n with h0 | h0
 ·subst h0
  have hL : L = [] := List.length_eq_zero_iff.1 hx.len
  have h := Tryz.slices_Index_string_empty A c (bytesOf [47]) w
  rw [← hs, hL]
  exact h
 ·obtain ⟨b, off, rfl, hb, hc⟩ := hx.cells h0
  have h := Tryz.slices_Index_string b off n c (L.map bytesOf) (bytesOf [47]) w (by rw [List.length_map, hx.len]; exact Nat.le_refl _) (by omega) (fun j hj => by
   rw [List.length_map, hx.len] at hj
   rw [hc j hj]
   congr 2
   simp only [List.getD_eq_getElem?_getD, List.getElem?_map]
   rw [List.getElem?_eq_getElem (by rw [hx.len]; exact hj)]
   rfl)
  rw [List.take_of_length_le (by rw [List.length_map, hx.len]; exact Nat.le_refl _), hs] at h
  exact h
theorem slash_lt {L : List (List UInt8)} {k : Nat} (h : slashAt L = some k) : k < L.length := by
 unfold slashAt at h
 rw [List.findIdx?_eq_some_iff_getElem] at h
 exact h.1
theorem dsk_more (B q sq : Nat) (c : Cfg) (v : Value) (ds : Data) (bs : List UInt8) (sy : Nat) (w : World) (h : DeskIn B w q sq c v ds bs sy) (hn16 : ds.length ≤ 16) (A : Option Addr) (n cw : Nat) (L : List (List UInt8)) (hx : StrsR w A n L) (hn : n ≤ 1000000) (hcw : n ≤ cw) (ht : ∀ W, Below B w W → Tabs W) :
  Calls Tryz.prog 19 #[.pointer (some ⟨q, 0, none⟩), .slice A n cw] w (DeskPost B q sq (moreD ⟨c, ds, bs, sy⟩ L) w) := by
 have hBw : B ≤ w.heap.size := Nat.le_of_lt (Nat.lt_of_le_of_lt h.bq h.dq.lt)
 have HT := Lib.hid (fun W (hb : Below w.heap.size w W) => ht W (hb.mono hBw))
 have HIX := lib_Slash A n cw L w hx hn
 unfold slashI at HIX
 have hlen := hx.len
 clear ht
 cases hsl : slashAt L with
 | none =>
  rw [hsl] at HIX
  have HIX := Lib.hid HIX
  have F := Lib.hid (show moreD ⟨c, ds, bs, sy⟩ L = (errT 3, ⟨c, ds, bs, sy⟩) from by unfold moreD; rw [hsl])
  have HFA := Lib.hid (dsk_failed 3 w (by omega) (by omega) (HT.out _ (Below.refl _ _)))
  clear hsl hlen
  go_enter Tryz.func19, Tryz.ntmps19
  go_wp2_with fail
  refine HIX.out.mono ?_
  rintro e w' ⟨rfl, rfl⟩
  go_wp2_with fail
  refine HFA.out.mono ?_
  rintro e w3 ⟨rfl, hb3⟩
  go_wp2
  go_ret
  rw [F.out]
  exact ⟨rfl, ⟨v, h.below hb3⟩, Kp.of_below hb3⟩
 | some k =>
  rw [hsl] at HIX
  have HIX := Lib.hid HIX
  have hk := slash_lt hsl
  rw [hlen] at hk
  have F0 := Lib.hid (show moreD ⟨c, ds, bs, sy⟩ L = (match numsW (L.take k), numsW (L.drop (k + 1)) with
   | some i, some o => if ds.length = 16 then (errT 2, ⟨c, ds, bs, sy⟩) else (okT, ⟨c, ds ++ [(i, o)], bs, sy⟩)
   | _, _ => (errT 3, ⟨c, ds, bs, sy⟩)) from by unfold moreD; rw [hsl]; rfl)
  have hc1 := hx.cut (i := 0) (m := k) (by omega) (A' := A) (fun _ b off e => by rw [Nat.add_zero]; exact e)
  rw [List.drop_zero] at hc1
  have hlt : (L.drop (k + 1)).take (n - (k + 1)) = L.drop (k + 1) := List.take_of_length_le (by rw [List.length_drop]; omega)
  have hc2 : ∀ A', (0 < n - (k + 1) → ∀ b off, A = some ⟨b, off, none⟩ → A' = some ⟨b, off + (k + 1), none⟩) → StrsR w A' (n - (k + 1)) (L.drop (k + 1)) := fun A' hA' => by
   have h2 := hx.cut (i := k + 1) (m := n - (k + 1)) (by omega) (A' := A') hA'
   rwa [hlt] at h2
  obtain ⟨b0, off0, hA0, _, _⟩ := hx.cells (by omega)
  subst hA0
  have HN1 := Lib.hid (dsk_numbers (some ⟨b0, off0, none⟩) k cw (L.take k) w hc1 (by omega))
  have HN2 := Lib.hid (fun A' hA' W (hb : Below w.heap.size w W) c' => dsk_numbers A' (n - (k + 1)) c' (L.drop (k + 1)) W ((hc2 A' hA').below hb) (by omega))
  have HI := Lib.hid (fun W (hb : Below w.heap.size w W) => h.below hb)
  have e1 : IntKind.i64.wrap ((k : Int) + 1) = (k : Int) + 1 := wrap_small _ (by omega) (by omega)
  have z1 : (k : Int) ≤ (cw : Int) := by omega
  have z2 : (k : Int) + 1 ≤ (n : Int) := by omega
  have z3 : (n : Int) ≤ (cw : Int) := by omega
  have z4 : (0 : Int) ≤ (k : Int) + 1 := by omega
  have hql := h.dq.lt
  obtain ⟨i0, hi0, hz0, hz1, hz2⟩ := info_parts ex_info
  clear hsl hc1 hc2 hlt hx
  go_enter Tryz.func19, Tryz.ntmps19
  go_wp2_with fail
  refine HIX.out.mono ?_
  rintro e w' ⟨rfl, rfl⟩
  go_wp2_with fail
  refine HN1.out.mono ?_
  rintro e w3 ⟨v1, rfl, ho1, hb3⟩
  clear HN1 HIX
  go_upto_region 5 with fail
  go_cut [8, 9] (fun a8 a9 wx => MoreR (L.drop (k + 1)) w3 a8 a9 wx)
  case first =>
   by_cases hcap : cw = k + 1
   ·have hnk : n - (k + 1) = 0 := by omega
    have HN3 := HN2.out (some ⟨b0, off0, none⟩) (fun hh => by omega) w3 hb3 0
    rw [hnk] at HN3
    have HN3 := Lib.hid HN3
    subst hcap
    obtain rfl : n = k + 1 := by omega
    clear hnk hlen
    go_wp2_with fail
    refine HN3.out.mono ?_
    rintro e w4 ⟨v2, rfl, ho2, hb4⟩
    go_wp2
    go_meet
    case rel => exact ⟨rfl, ho2, hb4⟩
   ·have HN3 := Lib.hid (HN2.out (some ⟨b0, off0 + (k + 1), none⟩) (fun _ b off e => by cases e; rfl) w3 hb3 (cw - (k + 1)))
    clear hlen
    go_wp2_with fail
    refine HN3.out.mono ?_
    rintro e w4 ⟨v2, rfl, ho2, hb4⟩
    go_wp2
    go_meet
    case rel => exact ⟨rfl, ho2, hb4⟩
  case rest =>
   obtain ⟨rfl, ho2, hb4⟩ := hcut
   obtain ⟨w4, hy⟩ : ∃ y : World, y = wc := ⟨_, rfl⟩
   rw [← hy] at ho2 hb4 ⊢
   have hw4 := bel_trans hb3 hb4
   have h4 := HI.out _ hw4
   have ho1' := own_below ho1 hb4
   unfold numsL at ho1' ho2
   clear hy HN2 ho1 hlen
   have HF3 := Lib.hid (dsk_failed 3 w4 (by omega) (by omega) (HT.out _ hw4))
   have HF2 := Lib.hid (dsk_failed 2 w4 (by omega) (by omega) (HT.out _ hw4))
   cases hn1 : numsW (L.take k) with
   | none =>
    have F := Lib.hid (show moreD ⟨c, ds, bs, sy⟩ L = (errT 3, ⟨c, ds, bs, sy⟩) from by rw [F0.out, hn1])
    clear hn1 ho1' ho2
    rw [show (none : Option (List Int)).isSome = false from rfl]
    go_wp2_with fail
    refine HF3.out.mono ?_
    rintro e w5 ⟨rfl, hb5⟩
    go_wp2
    go_ret
    rw [F.out]
    exact ⟨rfl, ⟨v, h4.below hb5⟩, Kp.of_below (bel_trans hw4 hb5)⟩
   | some i =>
    rw [hn1] at ho1'
    cases hn2 : numsW (L.drop (k + 1)) with
    | none =>
     have F := Lib.hid (show moreD ⟨c, ds, bs, sy⟩ L = (errT 3, ⟨c, ds, bs, sy⟩) from by rw [F0.out, hn1, hn2])
     clear hn1 hn2 ho1' ho2
     rw [show (none : Option (List Int)).isSome = false from rfl, show (some i : Option (List Int)).isSome = true from rfl]
     go_wp2_with fail
     refine HF3.out.mono ?_
     rintro e w5 ⟨rfl, hb5⟩
     go_wp2
     go_ret
     rw [F.out]
     exact ⟨rfl, ⟨v, h4.below hb5⟩, Kp.of_below (bel_trans hw4 hb5)⟩
    | some o =>
     rw [hn2] at ho2
     have F1 := Lib.hid (show moreD ⟨c, ds, bs, sy⟩ L = if ds.length = 16 then (errT 2, ⟨c, ds, bs, sy⟩) else (okT, ⟨c, ds ++ [(i, o)], bs, sy⟩) from by rw [F0.out, hn1, hn2])
     have ha : w4.ownsRow 0 3 1 v1 i.length (i.map (.int .i64)) := own_base ho1' (Nat.zero_le _)
     have hb : w4.ownsRow 0 3 1 u8 o.length (o.map (.int .i64)) := own_base ho2 (Nat.zero_le _)
     clear hn1 hn2 ho1' ho2
     rw [show (some o : Option (List Int)).isSome = true from rfl, show (some i : Option (List Int)).isSome = true from rfl]
     obtain ⟨D, dc, rfl, _, hdc, hdm⟩ := h4.data.duos
     have dv := h4.dv
     obtain ⟨N, hN⟩ : ∃ N, N = ds.length := ⟨_, rfl⟩
     have HN := Lib.hid hN
     rw [← hN] at hdc dv hn16 F1
     clear hN
     by_cases h16 : N = 16
     ·have F := Lib.hid (show moreD ⟨c, ds, bs, sy⟩ L = (errT 2, ⟨c, ds, bs, sy⟩) from by rw [F1.out, if_pos h16])
      have t0 : ((N : Int) == 16) = true := by rw [h16]; rfl
      clear h16 ha hb
      go_wp2_with fail
      refine HF2.out.mono ?_
      rintro e w5 ⟨rfl, hb5⟩
      go_wp2
      go_ret
      rw [F.out]
      exact ⟨rfl, ⟨_, h4.below hb5⟩, Kp.of_below (bel_trans hw4 hb5)⟩
     ·have F := Lib.hid (show moreD ⟨c, ds, bs, sy⟩ L = (okT, ⟨c, ds ++ [(i, o)], bs, sy⟩) from by rw [F1.out, if_neg h16])
      have t0 : ((N : Int) == 16) = false := by rw [beq_eq_false_iff_ne]; omega
      have t1 : (N == 16) = false := by rw [beq_eq_false_iff_ne]; exact h16
      obtain ⟨A1, c1, rfl, _⟩ := own_ints ha
      obtain ⟨A2, c2, rfl, _⟩ := own_ints hb
      have bU : Below w4.heap.size w4 (w4.alloc (.cells #[.slice A1 i.length c1, .slice A2 o.length c2] 73)) := (by repeat (first | exact Below.refl _ _ | assumption | refine bel_drewN ?_ _ | refine Below.drew ?_ | (refine Below.alloc ?_ (by simp <;> omega) _) | (refine Below.setCell ?_ (by simp <;> omega) _)))
      have hU := h4.below bU
      have hNB := Blk.made w4 73 #[.slice A1 i.length c1, .slice A2 o.length c2]
      have haU := own_below ha bU
      have hbU := own_below hb bU
      obtain ⟨vs, hoV, hpV⟩ := hU.data
      have hoV' := hoV
      rw [← HN.out] at hoV
      have hBs : B ≤ w4.heap.size := Nat.le_trans hBw hw4.size
      clear h16 ha hb HF2 HF3
      go_wp2_with (at_builtin; refine wpList_append_lies _ rfl _ _ 30 rfl B 73 i0 (.agg #[.slice none 0 0, .slice none 0 0]) 2 48 Tryz.underlying30 hi0 hz0 hz1 hz2 rfl (by decide) (.slice D N dc) N vs rfl hoV ⟨w4.heap.size, 0, none⟩ 1 1 [.slice A1 i.length c1, .slice A2 o.length c2] rfl rfl (World.news_of_block (cs := #[.slice A1 i.length c1, .slice A2 o.length c2]) hNB) (by simp [Value.oneCell']) (by omega) (by unfold maxLen; omega) (by omega) (by simp <;> omega) (w4.heap.size + 1) (by simp) ?_; intro g1 cap1 w5 hown1 hgrow hgg hlt1; have hqB := hU.dq.grown hgrow (fun e => hU.row hU.dq (by decide) (by rw [← HN.out]; exact e.symm)); have qc : w5.cell? ⟨q, 11, none⟩ = some (.slice D N dc) := (hqB.cell 11).trans (by rw [HN.out]; rfl); have qf : w5.frozen? ⟨q, 11, none⟩ = false := hqB.frozen 11)
      go_ret
      have hgg' : (Value.slice D N dc).ownBlock = some g1 ∨ (w4.alloc (.cells #[.slice A1 i.length c1, .slice A2 o.length c2] 73)).heap.size ≤ g1 := hgg.imp id (fun h => by simp; omega)
      rw [HN.out] at hown1 hgrow hgg'
      have hD := data_push hoV' hpV haU hbU hown1 hgrow hgg'
      have hsB := hU.st.grown hgrow (fun e => hU.row hU.st (by decide) e.symm)
      have hk5 : Kp B deskT (w4.alloc (.cells #[.slice A1 i.length c1, .slice A2 o.length c2] 73)) w5 := .of_grown hgrow (fun g e => by
       have h3 := hoV'.lt g e
       rcases hoV'.2 with ⟨hv, _⟩ | ⟨g', cap', cur, hv, _, hg', _⟩
       ·rw [hv] at e; cases e
       ·rw [hv] at e
        have e : some g' = some g := e
        injection e with e
        subst e
        exact ⟨h3.1, _, _, _, hg', by decide⟩)
      have hk6 : Kp B (fun t => t == 33) w5 _ := Kp.put (i := 11) (u := .slice (some ⟨g1, 0, none⟩) (ds.length + 1) cap1) hqB (by decide) h.bq
      have hk7 : Kp B deskT w5 _ := Kp.put (i := 11) (u := .slice (some ⟨g1, 0, none⟩) (ds.length + 1) cap1) hqB (by decide) h.bq
      rw [F.out, HN.out]
      exact ⟨rfl, ⟨_, hqB.put 11 _, hk6.blk hsB (by decide), hD.kp hk6 (by decide) (by decide), h.bq, h.bs⟩, (Kp.of_below (bel_trans hw4 bU)).trans (hk5.trans hk7)⟩
end Go.Proofs.YtgodgedhddngeaaGreatDoor
