/- The law StoreKeeps holds of the given program for every input: its tied card. No condition beyond the tables that the card ties. -/
import Derived.Test.YtblkpibbcapdeaaDoorStoG
import Derived.Test.YtblkpibbcapdeaaDoorStoC
import Derived.Deep.DeepCutAuto
import Derived.Deep.CutBlock
import Derived.Deep.RegionHeld3
namespace Go.Proofs.YtblkpibbcapdeaaDoor
open Go.ChangeShapes Go.WideShapes Go.ChangeAt Go.RowKit Go.Sort Pl

theorem has_of {a b : ByteArray} (h : a.data.toList <+: b.data.toList) : Lib.hasPrefix b.data.toList a.data.toList = true := List.isPrefixOf_iff_prefix.2 h
theorem RecsR.pre2 {w : World} {A : Option Addr} {n k : Nat} {f : Nat → Rec} (h : RecsR w A n (upto f n)) (hk : k ≤ n) : RecsR w A k (upto f k) :=
  ⟨upto_length _ _, fun h0 => by
    obtain ⟨b, off, e, hb, hc⟩ := h.cells (by omega)
    refine ⟨b, off, e, hb, fun j hj => ?_⟩
    have h1 := hc j (by omega)
    rw [recAt_upto _ (by omega)] at h1 ⊢
    exact h1⟩
def zrec : Rec := ⟨0, [], 0, 0, 0⟩
theorem zrec_good : goodR zrec = true := by decide
theorem zrec_line : bytesOf (lineT zrec) = ⟨#[48, 32, 48, 32, 48, 32, 48, 10]⟩ := by
  unfold lineT wordsR zrec
  simp only [List.map_nil]
  rw [show (0 : Int).toNat = 0 from rfl]
  rw [Lib.decDigits_one (by omega)]
  rfl
theorem parse_nil : parse [] = none := by
  cases h : parse [] with
  | none => rfl
  | some p =>
    obtain ⟨x, n⟩ := p
    obtain ⟨_, h1, _, h2⟩ := parse_some h
    simp only [List.length_nil] at h1
    omega
theorem beg_one : (beg (lineT zrec)).1.length = 1 := by
  have h := parse_line zrec_good []
  rw [List.append_nil] at h
  rw [beg_K, begK_step h rfl]
  show List.length _ + 1 = 1
  rw [List.drop_length, begK_end (fun r n h => by rw [parse_nil] at h; cases h)]
  rfl
/-- Two texts one of which begins the other: their beginnings agree as far as both go. -/
theorem beg_agree {a b : List UInt8} (h : a <+: b ∨ b <+: a) {j : Nat} (h1 : j < (beg a).1.length) (h2 : j < (beg b).1.length) : recAt (beg a).1 j = recAt (beg b).1 j := by
  have key : ∀ x y : List UInt8, x <+: y → j < (beg x).1.length → recAt (beg x).1 j = recAt (beg y).1 j := by
    rintro x y ⟨t, rfl⟩ hj
    obtain ⟨u, hu⟩ := beg_prefix x t
    unfold recAt
    rw [← hu, List.getElem?_append_left hj]
  rcases h with h | h
  · exact key a b h h1
  · exact (key b a h h2).symm
theorem extract_pre (s : ByteArray) (n : Nat) : (s.extract 0 n).data.toList <+: s.data.toList := by
  rw [Lib.extract_data]
  exact (List.take_prefix _ _).trans (by rw [List.drop_zero]; exact List.prefix_refl _)
theorem extract_all (s : ByteArray) : s.extract 0 s.size = s := by
  apply ByteArray.ext
  apply Array.toList_inj.1
  rw [Lib.extract_data, List.drop_zero]
  exact List.take_of_length_le (by rw [Array.length_toList]; show s.size ≤ s.size - 0; omega)
theorem app_cases (room : Int) (s : ByteArray) (r : Rec) : (appE room s r = 0 ∧ s.data.toList <+: (appB room s r).data.toList ∧ s.size ≤ (appB room s r).size ∧ ((appB room s r).size : Int) ≤ room) ∨ (appE room s r ≠ 0 ∧ appB room s r = s) := by
  unfold appE appB
  by_cases hg : goodR r = true
  · by_cases hf : appFits room s r = true
    · rw [if_pos hg, if_pos hf, if_pos ⟨hg, hf⟩]
      unfold appFits at hf
      have hf := of_decide_eq_true hf
      have hz : (bytesOf (lineT r)).size = (lineT r).length := rfl
      refine .inl ⟨rfl, ?_, ?_, ?_⟩
      · rw [ByteArray.data_append, Array.toList_append]; exact List.prefix_append _ _
      · rw [ByteArray.size_append]; omega
      · rw [ByteArray.size_append, hz]; omega
    · rw [if_pos hg, if_neg hf, if_neg (fun h => hf h.2)]
      exact .inr ⟨by decide, rfl⟩
  · rw [if_neg hg, if_neg (fun h => hg h.1)]
    exact .inr ⟨by decide, rfl⟩
/-- Lists of records that a region has got so far. -/
def Bag (u : World) (M : Nat) (F : Nat → Rec) (l : List (Option Addr)) : Prop := ∀ a ∈ l, RecsR u a M (upto F M)
theorem Bag.add {u u' : World} {M : Nat} {F : Nat → Rec} {l : List (Option Addr)} {a : Option Addr} (h : Bag u M F l) (hb : Below u.heap.size u u') (ha : RecsR u' a M (upto F M)) : Bag u' M F (a :: l) := fun x hx => by
  rcases List.mem_cons.1 hx with rfl | hx
  · exact ha
  · exact (h x hx).below hb
/-- What a round's call leaves: the store's bytes go on from what they were, or what they were goes on from them. -/
def KeI (H : Nat) (w : World) (q : Nat) (B : ByteArray) (A1 : Option Addr) (N1 : Nat) (F1 : Nat → Rec) (wx : World) : Prop := ∃ (B' : ByteArray) (sy : Nat), (B'.data.toList <+: B.data.toList ∨ B.data.toList <+: B'.data.toList) ∧ sy ≤ B'.size ∧ (B'.size : Int) ≤ 4096 ∧ Blk wx q 68 #[.int .i64 4096, .string B', .int .i64 sy] ∧ Below H w wx ∧ RecsR wx A1 N1 (upto F1 N1)
def KeL (n H : Nat) (w : World) (q : Nat) (jv : Value) (wx : World) : Prop := ∃ p : Nat, p ≤ n ∧ jv = .int .i64 p ∧ ∃ (B : ByteArray) (sy : Nat), sy ≤ B.size ∧ (B.size : Int) ≤ 4096 ∧ Blk wx q 68 #[.int .i64 4096, .string B, .int .i64 sy] ∧ Below H w wx

set_option maxRecDepth 100000 in
set_option maxHeartbeats 4000000 in
theorem storeKeeps_walk (A : Option Addr) (n k : Nat) (xs : List Cal) (keep : Int) (w : World) (hx : CalsR w A n xs) (ht : Tabs w) :
    Calls Tryd.prog 6 #[.slice A n k, .int .i64 keep] w fun e w' => e = .returned (.bool true) ∧ Below w.heap.size w w' := by
  have HN1 := sto_New_ok 100 w (by omega) (by omega)
  obtain ⟨q0, hq0⟩ : ∃ q, q = w.heap.size := ⟨_, rfl⟩
  rw [← hq0] at HN1
  have hq0s : w.heap.size ≤ q0 := by omega
  have HQ0 := Lib.hid hq0
  have HNH := Lib.hid HN1
  have HX := Lib.hid (fun W (h : Below w.heap.size w W) => hx.below h)
  have HT := Lib.hid (fun W (h : Below w.heap.size w W) => ht.below h)
  clear hq0 hx ht HN1
  go_enter Tryd.func6, Tryd.ntmps6
  go_wp2_with fail
  refine HNH.out.mono ?_
  rintro e w1 ⟨rfl, hB1, hb1⟩
  rw [HQ0.out] at hb1
  have HA1 : Calls Tryd.prog 16 #[.pointer (some ⟨q0, 0, none⟩), .agg #[.int .i64 0, .slice none 0 0, .int .i64 0, .int .u64 0, .int .u64 0]] w1 (fun e w' => e = .returned (.int .i64 0) ∧ Blk w' q0 68 #[.int .i64 100, .string ⟨#[48, 32, 48, 32, 48, 32, 48, 10]⟩, .int .i64 0] ∧ But q0 w1 w') := by
    have h := sto_Append q0 100 0 ByteArray.empty zrec none 0 0 w1 hB1 (by decide) (Ints.nil _ _ _) (by omega) (by decide) (by decide) (HT.out _ hb1)
    have hf : appFits 100 ByteArray.empty zrec = true := by
      unfold appFits
      rw [show (lineT zrec).length = 8 from by rw [← show (bytesOf (lineT zrec)).size = (lineT zrec).length from rfl, zrec_line]; rfl]
      decide
    rw [show appE 100 ByteArray.empty zrec = 0 from by unfold appE; rw [if_pos zrec_good, if_pos hf], show appB 100 ByteArray.empty zrec = ⟨#[48, 32, 48, 32, 48, 32, 48, 10]⟩ from by unfold appB; rw [if_pos ⟨zrec_good, hf⟩, zrec_line]; rfl] at h
    exact h
  have HAH := Lib.hid HA1
  have hq1s := hb1.size
  clear HA1 HNH HQ0 hB1
  go_wp2_with fail
  refine HAH.out.mono ?_
  rintro e w2 ⟨rfl, hB2, hb2⟩
  have hw2 := but_low hb1 hb2 hq0s hq1s
  have HBY := Lib.hid (sto_Bytes q0 100 0 _ w2 hB2)
  have HR0 := sto_Records q0 100 0 _ w2 hB2 (by decide) (HT.out _ hw2)
  rw [show (ByteArray.mk #[48, 32, 48, 32, 48, 32, 48, 10]).data.toList = lineT zrec from by rw [← zrec_line, bytesOf_data], beg_one] at HR0
  have HRC := Lib.hid HR0
  clear HAH hB2 hb2 HR0 hb1 hq1s
  go_wp2_with fail
  refine HBY.out.mono ?_
  rintro e w' ⟨rfl, rfl⟩
  clear HBY
  go_wp2_with fail
  refine HRC.out.mono ?_
  rintro e w3 ⟨v, rfl, hH, hb3⟩
  obtain ⟨A0, k0, rfl, _, _⟩ := Held.slice hH
  have hw3 := hw2.trans (hb3.mono hw2.size)
  clear HRC hH hb3 hw2
  by_cases hn : 60 < n
  · have z : (60 : Int) < (n : Int) := by omega
    go_wp2
    go_ret
    exact ⟨rfl, hw3⟩
  · have z : ¬ (60 : Int) < (n : Int) := by omega
    have hnn : n ≤ 60 := by omega
    have HN2 := sto_New_ok 4096 w3 (by omega) (by omega)
    obtain ⟨q, hq⟩ : ∃ q, q = w3.heap.size := ⟨_, rfl⟩
    rw [← hq] at HN2
    have hws : w.heap.size ≤ q := by have := hw3.size; omega
    have HNH := Lib.hid HN2
    have HQ := Lib.hid hq
    clear hn hq HN2
    go_wp2_with fail
    refine HNH.out.mono ?_
    rintro e w4 ⟨rfl, hB4, hb4⟩
    rw [HQ.out] at hb4
    have hw4 := hw3.trans (hb4.mono hw3.size)
    clear HNH HQ hb4 hw3
    go_wp2
    go_loopw [8, 9, 10, 11, 12, 45] (fun _ _ _ _ _ jv wr => KeL n w.heap.size w q jv wr) (fun _ _ _ _ _ jv _ => n - (intOf jv).toNat)
    case atStart => exact ⟨0, by omega, rfl, ByteArray.empty, 0, Nat.le_refl _, by decide, hB4, hw4⟩
    case round =>
      clear hB4 hw4
      obtain ⟨p, hp, rfl, B, sy, hsy, hBr, hBk, hb⟩ := hrel
      by_cases hlt : p < n
      · obtain ⟨xb, xo, XL, xm, xc, rfl, xlt, ⟨x0, x1, x2, x3, x4, x5, x6⟩, XI, xl1, xl2, xr, xch⟩ := (HX.out _ hb).at hlt
        obtain ⟨X, hX⟩ : ∃ X, X = calAt xs p := ⟨_, rfl⟩
        rw [← hX] at x0 x1 x3 x4 x5 x6 XI xr xch
        have z0 : (0 : Int) ≤ (p : Int) := by omega
        have z1 : (p : Int) < (n : Int) := by omega
        have hxm : xm ≤ 9223372036854775807 := by unfold maxLen at xl2; omega
        have bW : Below wr.heap.size wr (wr.alloc (.cells #[.int .i64 X.kind, .int .i64 X.r.step, .slice XL xm xc, .int .i64 X.r.rate, .int .u64 X.r.root, .int .u64 X.r.chain, .int .i64 X.keep] 43)) := (by repeat (first | exact Below.refl _ _ | assumption | refine bel_drewN ?_ _ | refine Below.drew ?_ | (refine Below.alloc ?_ (by simp <;> omega) _) | (refine Below.setCell ?_ (by simp <;> omega) _)))
        have HC := Blk.made wr 43 #[.int .i64 X.kind, .int .i64 X.r.step, .slice XL xm xc, .int .i64 X.r.rate, .int .u64 X.r.root, .int .u64 X.r.chain, .int .i64 X.keep]
        obtain ⟨g, hg⟩ : ∃ g, g = wr.heap.size := ⟨_, rfl⟩
        obtain ⟨y, hy⟩ : ∃ y, y = wr.alloc (.cells #[.int .i64 X.kind, .int .i64 X.r.step, .slice XL xm xc, .int .i64 X.r.rate, .int .u64 X.r.root, .int .u64 X.r.chain, .int .i64 X.keep] 43) := ⟨_, rfl⟩
        have hBy := hBk.below bW hBk.lt
        have hby := hb.trans (bW.mono hb.size)
        rw [← hy] at HC hBy hby
        rw [← hg] at HC
        have XIy := XI.below bW
        rw [← hy] at XIy
        have HY := Lib.hid (show wr.alloc (.cells #[.int .i64 X.kind, .int .i64 X.r.step, .slice XL xm xc, .int .i64 X.r.rate, .int .u64 X.r.root, .int .u64 X.r.chain, .int .i64 X.keep] 43) = y from hy.symm)
        have HG := Lib.hid (show wr.heap.size = g from hg.symm)
        have hqg : q ≠ g := by have := hBk.lt; omega
        have hs : B.size ≤ 4294967280 := by omega
        have HB0 := Lib.hid (sto_Bytes q 4096 sy B y hBy)
        have HR0 := sto_RecordsQ q 4096 sy B y hBy hs (HT.out _ hby)
        obtain ⟨F1, hF1⟩ : ∃ F, F = recAt (beg B.data.toList).1 := ⟨_, rfl⟩
        obtain ⟨N1, hN1⟩ : ∃ N, N = (beg B.data.toList).1.length := ⟨_, rfl⟩
        rw [← hF1, ← hN1] at HR0
        have HF1 := Lib.hid hF1
        have HN1 := Lib.hid hN1
        have HRC := Lib.hid HR0
        clear hX bW hy hg XI hBk hb hF1 hN1 HR0
        go_upto_region 10 with fail
        rw [HY.out, HG.out]
        clear HY HG x0 x1 x2 x3 x4 x5 x6 xlt
        go_wp2_with fail
        refine HB0.out.mono ?_
        rintro e w' ⟨rfl, rfl⟩
        go_wp2_with fail
        refine HRC.out.mono ?_
        rintro e u ⟨v1, rfl, hH1, hbu⟩
        obtain ⟨A1, k1, rfl, hk1, hk2⟩ := Held.slice hH1
        have hqs := hBy.lt
        replace hBy := hBy.below hbu hBy.lt
        replace HC := HC.below hbu HC.lt
        replace hby := hby.trans (hbu.mono hby.size)
        replace XIy := XIy.below hbu
        clear HB0 HRC hbu
        have d0 : u.cell? ⟨g, 0, none⟩ = some (.int .i64 X.kind) := HC.cell 0
        obtain ⟨K, hK⟩ : ∃ K, K = X.kind := ⟨_, rfl⟩
        rw [← hK] at d0
        clear hK
        go_upto_block 2 with fail
        go_cut [11, 12] (fun _ _ wx => KeI w.heap.size w q B A1 N1 F1 wx)
        case first =>
          have HKP := Lib.hid (fun W (h : But q u W) => show RecsR W A1 N1 (upto F1 N1) from (RecHeld.recs (m := some q) (Held.but (fun h2 => RecK.but h2 h) hH1 h hqs)).weak)
          clear d0 hH1
          have hty := HT.out _ hby
          by_cases k0 : K = 0
          · subst k0
            have HAP := sto_Append q 4096 sy B X.r XL xm xc u hBy hs XIy hxm xr xch hty
            have hcs := app_cases 4096 B X.r
            obtain ⟨E, hE⟩ : ∃ E, E = appE 4096 B X.r := ⟨_, rfl⟩
            obtain ⟨B2, hB2⟩ : ∃ B2, B2 = appB 4096 B X.r := ⟨_, rfl⟩
            rw [← hE, ← hB2] at HAP hcs
            have HA := Lib.hid HAP
            obtain ⟨⟨e1, e2, e3, e4, e5⟩, _⟩ := HC.seven
            clear hE hB2 HAP hty
            rcases hcs with ⟨rfl, hpre, hz1, hz2⟩ | ⟨hE, rfl⟩
            · have HPP := Lib.hid hpre
              have HPX := Lib.hid (fun W => show Calls Tryd.prog 23 #[.string B2, .string B] W fun e w' => e = .returned (.bool true) ∧ w' = W from by
                have h := Tryd.strings_HasPrefix B2 B W
                rw [has_of hpre] at h
                exact h)
              have HBX := Lib.hid (fun W h => sto_Bytes q 4096 sy B2 W h)
              go_wp2_with fail
              refine HA.out.mono ?_
              rintro e u2 ⟨rfl, hB2, hb2⟩
              have R2 := HKP.out _ hb2
              have HBY := Lib.hid (HBX.out u2 hB2)
              clear HA HKP HBX hpre e1 e2 e3 e4 e5
              go_wp2_with fail
              refine HBY.out.mono ?_
              rintro e w' ⟨rfl, rfl⟩
              go_wp2_with fail
              refine (HPX.out _).mono ?_
              rintro e w' ⟨rfl, rfl⟩
              go_wp2
              go_meet
              case rel => exact ⟨B2, sy, .inr (HPP.out), by omega, hz2, hB2, but_low hby hb2 hws hby.size, R2⟩
            · have HPX := Lib.hid (fun W => show Calls Tryd.prog 23 #[.string B2, .string B2] W fun e w' => e = .returned (.bool true) ∧ w' = W from by
                have h := Tryd.strings_HasPrefix B2 B2 W
                rw [has_of (List.prefix_refl _)] at h
                exact h)
              have HBX := Lib.hid (fun W h => sto_Bytes q 4096 sy B2 W h)
              have t0 : (E != 0) = true := by rw [bne_iff_ne]; exact hE
              clear hE
              go_wp2_with fail
              refine HA.out.mono ?_
              rintro e u2 ⟨rfl, hB2, hb2⟩
              have R2 := HKP.out _ hb2
              have HBY := Lib.hid (HBX.out u2 hB2)
              clear HA HKP HBX e1 e2 e3 e4 e5
              go_wp2_with fail
              refine HBY.out.mono ?_
              rintro e w' ⟨rfl, rfl⟩
              go_wp2_with fail
              refine HBY.out.mono ?_
              rintro e w' ⟨rfl, rfl⟩
              go_wp2_with fail
              refine (HPX.out _).mono ?_
              rintro e w' ⟨rfl, rfl⟩
              go_wp2
              go_meet
              case rel => exact ⟨B2, sy, .inl (List.prefix_refl _), hsy, hBr, hB2, but_low hby hb2 hws hby.size, R2⟩
          · by_cases k1 : K = 1
            · subst k1
              clear k0
              have HS := Lib.hid (sto_Sync q 4096 sy B u hBy)
              have HCR := Lib.hid (fun W h => show Calls Tryd.prog 18 #[.pointer (some ⟨q, 0, none⟩), .int .i64 keep] W fun e w' => e = .returned (.tuple #[]) ∧ Blk w' q 68 #[.int .i64 4096, .string B, .int .i64 B.size] ∧ But q W w' from by
                have h2 := sto_Crash q 4096 B.size B keep W h hs (Nat.le_refl _)
                rw [show crashN B.size B.size keep = B.size from by unfold crashN; omega, extract_all] at h2
                exact h2)
              have HBX := Lib.hid (fun W h => sto_Bytes q 4096 B.size B W h)
              go_wp2_with fail
              refine HS.out.mono ?_
              rintro e u2 ⟨rfl, hB2, hb2⟩
              have HCS := Lib.hid (HCR.out _ hB2)
              clear HS HCR
              go_wp2_with fail
              refine HCS.out.mono ?_
              rintro e u3 ⟨rfl, hB3, hb3⟩
              have hb4 := hb2.trans hb3
              have R2 := HKP.out _ hb4
              have HBY := Lib.hid (HBX.out _ hB3)
              clear HCS HBX HKP hB2
              go_wp2_with fail
              refine HBY.out.mono ?_
              rintro e w' ⟨rfl, rfl⟩
              go_wp2
              go_meet
              case rel => exact ⟨B, B.size, .inl (List.prefix_refl _), Nat.le_refl _, hBr, hB3, but_low hby hb4 hws hby.size, R2⟩
            · by_cases k2 : K = 2
              · subst k2
                clear k0 k1
                have HS := sto_Crash q 4096 sy B X.keep u hBy hs hsy
                obtain ⟨c1, c2⟩ := crashN_le hsy X.keep
                obtain ⟨C, hC⟩ : ∃ C, C = crashN sy B.size X.keep := ⟨_, rfl⟩
                rw [← hC] at c1 c2 HS
                have n4 : (B.extract 0 C).size = C := by
                  rw [Lib.size_eq, Lib.extract_data, List.length_take, List.length_drop, Array.length_toList]
                  show min (C - 0) (B.size - 0) = C
                  omega
                have hpre := extract_pre B C
                obtain ⟨B2, hB2⟩ : ∃ B2, B2 = B.extract 0 C := ⟨_, rfl⟩
                rw [← hB2] at HS n4 hpre
                have HPX := Lib.hid (fun W => show Calls Tryd.prog 23 #[.string B, .string B2] W fun e w' => e = .returned (.bool true) ∧ w' = W from by
                  have h := Tryd.strings_HasPrefix B B2 W
                  rw [has_of hpre] at h
                  exact h)
                have HBX := Lib.hid (fun W h => sto_Bytes q 4096 C B2 W h)
                obtain ⟨P, hP⟩ : ∃ P, P = X.keep := ⟨_, rfl⟩
                have e6 := HC.seven.2
                rw [← hP] at HS e6
                have HSH := Lib.hid HS
                have HPP := Lib.hid hpre
                have HN4 := Lib.hid n4
                clear hC hP HS hpre hB2 n4
                go_wp2_with fail
                refine HSH.out.mono ?_
                rintro e u2 ⟨rfl, hB3, hb2⟩
                have R2 := HKP.out _ hb2
                have HBY := Lib.hid (HBX.out _ hB3)
                clear HSH HBX HKP e6
                go_wp2_with fail
                refine HBY.out.mono ?_
                rintro e w' ⟨rfl, rfl⟩
                go_wp2_with fail
                refine (HPX.out _).mono ?_
                rintro e w' ⟨rfl, rfl⟩
                go_wp2
                go_meet
                case rel => exact ⟨B2, C, .inl HPP.out, by rw [HN4.out]; exact Nat.le_refl _, by rw [HN4.out]; omega, hB3, but_low hby hb2 hws hby.size, R2⟩
              · by_cases k3 : K = 3
                · subst k3
                  clear k0 k1 k2
                  have HRA := sto_Repair q 4096 sy B u hBy hs hty
                  have hle := beg_le B.data.toList
                  rw [Array.length_toList] at hle
                  have hle : (beg B.data.toList).2 ≤ B.size := hle
                  have hbt := beg_take B.data.toList
                  obtain ⟨C, hC⟩ : ∃ C, C = (beg B.data.toList).2 := ⟨_, rfl⟩
                  rw [← hC] at HRA hle hbt
                  have n4 : (B.extract 0 C).size = C := by
                    rw [Lib.size_eq, Lib.extract_data, List.length_take, List.length_drop, Array.length_toList]
                    show min (C - 0) (B.size - 0) = C
                    omega
                  have hpre := extract_pre B C
                  have hdt : (B.extract 0 C).data.toList = B.data.toList.take C := by rw [Lib.extract_data, List.drop_zero]; rfl
                  rw [← hdt] at hbt
                  obtain ⟨B2, hB2⟩ : ∃ B2, B2 = B.extract 0 C := ⟨_, rfl⟩
                  rw [← hB2] at HRA n4 hpre hbt
                  have hs2 : B2.size ≤ 4294967280 := by omega
                  have hxx : B2.extract 0 C = B2 := by rw [← n4]; exact extract_all B2
                  have HRB := Lib.hid (fun W h hb => show Calls Tryd.prog 20 #[.pointer (some ⟨q, 0, none⟩)] W fun e w' => e = .returned (.int .i64 0) ∧ Blk w' q 68 #[.int .i64 4096, .string B2, .int .i64 C] ∧ But q W w' from by
                    have h2 := sto_Repair q 4096 C B2 W h hs2 (HT.out W hb)
                    rw [hbt, ← hC, hxx, n4, Int.sub_self] at h2
                    exact h2)
                  have HRD := Lib.hid (fun W h hb => show Calls Tryd.prog 22 #[.pointer (some ⟨q, 0, none⟩)] W fun e w' => ∃ v, e = .returned v ∧ RecHeld none W.heap.size F1 N1 v w' ∧ Below W.heap.size W w' from by
                    have h2 := sto_Records q 4096 C B2 W h hs2 (HT.out W hb)
                    rw [hbt, ← HF1.out, ← HN1.out] at h2
                    exact h2)
                  have HSR := Lib.hid (fun A3 k3 W (h : RecsR W A3 N1 (upto F1 N1)) (h1 : RecsR W A1 N1 (upto F1 N1)) => show Calls Tryd.prog 13 #[.slice A3 N1 k3, .slice A1 N1 k1] W fun e w' => e = .returned (.bool true) ∧ Below W.heap.size W w' from by
                    have hl : N1 ≤ 9223372036854775806 := by have := beg_len B.data.toList; rw [Array.length_toList, ← HN1.out] at this; have h2 : N1 ≤ B.size := this; omega
                    have h3 := ref_SameRecords A3 A1 N1 N1 k3 k1 (upto F1 N1) (upto F1 N1) W h h1 hl (fun j hj => .inl (by rw [recAt_upto F1 hj, HF1.out]; exact beg_short _))
                    rw [sameB_self] at h3
                    exact h3)
                  have HPX := Lib.hid (fun W => show Calls Tryd.prog 23 #[.string B, .string B2] W fun e w' => e = .returned (.bool true) ∧ w' = W from by
                    have h := Tryd.strings_HasPrefix B B2 W
                    rw [has_of hpre] at h
                    exact h)
                  have HBX := Lib.hid (fun W h => sto_Bytes q 4096 C B2 W h)
                  have n1 : IntKind.i64.wrap ((B.size : Int) - (C : Int)) = ((B.size : Int) - (C : Int)) := by rw [wrap_small _ (by omega) (by omega)]
                  have HSH := Lib.hid HRA
                  have HPP := Lib.hid hpre
                  clear hC HRA hpre hB2 hbt hdt hxx
                  go_wp2_with fail
                  refine HSH.out.mono ?_
                  rintro e u2 ⟨rfl, hB3, hb2⟩
                  have HBY := Lib.hid (HBX.out _ hB3)
                  have hw2 := but_low hby hb2 hws hby.size
                  have HRE := Lib.hid (HRB.out _ hB3 hw2)
                  clear HSH HRB
                  go_wp2_with fail
                  refine HBY.out.mono ?_
                  rintro e w' ⟨rfl, rfl⟩
                  go_wp2_with fail
                  refine HRE.out.mono ?_
                  rintro e u3 ⟨rfl, hB4, hb3⟩
                  have hb4 := hb2.trans hb3
                  have R3 := HKP.out _ hb4
                  have hw3 := but_low hby hb4 hws hby.size
                  have HRF := Lib.hid (HRD.out _ hB4 hw3)
                  clear HBY HRE HRD hB3 hw2 hb2 hb3
                  go_wp2_with fail
                  refine HRF.out.mono ?_
                  rintro e u4 ⟨v2, rfl, hH4, hb5⟩
                  obtain ⟨A3, k3, rfl, _, _⟩ := Held.slice hH4
                  have R4 := R3.below hb5
                  have hB5 := hB4.below hb5 hB4.lt
                  have hw4 := hw3.trans (hb5.mono hw3.size)
                  have HS4 := Lib.hid (HSR.out A3 k3 u4 (RecHeld.recs hH4).weak R4)
                  clear HRF HSR R3 hH4 hb5
                  go_wp2_with fail
                  refine HS4.out.mono ?_
                  rintro e u5 ⟨rfl, hb6⟩
                  have R5 := R4.below hb6
                  have hB6 := hB5.below hb6 hB5.lt
                  have hw5 := hw4.trans (hb6.mono hw4.size)
                  have HBZ := Lib.hid (HBX.out _ hB6)
                  clear HS4 R4 hB5 hB4 hw4 hw3 HBX HKP
                  go_wp2_with fail
                  refine HBZ.out.mono ?_
                  rintro e w' ⟨rfl, rfl⟩
                  go_wp2_with fail
                  refine (HPX.out _).mono ?_
                  rintro e w' ⟨rfl, rfl⟩
                  go_wp2
                  go_meet
                  case rel => exact ⟨B2, C, .inl HPP.out, by omega, by omega, hB6, hw5, R5⟩
                · have m0 : (K == 0) = false := by simp [k0]
                  have m1 : (K == 1) = false := by simp [k1]
                  have m2 : (K == 2) = false := by simp [k2]
                  have m3 : (K == 3) = false := by simp [k3]
                  have R2 := HKP.out _ (But.refl q u)
                  clear HKP
                  go_wp2
                  go_meet
                  case rel => exact ⟨B, sy, .inl (List.prefix_refl _), hsy, hBr, hBy, hby, R2⟩
        case rest =>
          obtain ⟨B1, sy1, hpre, hsy1, hBr1, hBk1, hb1, R1⟩ := hcut
          obtain ⟨z, hz⟩ : ∃ z, z = wc := ⟨_, rfl⟩
          rw [← hz] at hBk1 hb1 R1 ⊢
          have hs1 : B1.size ≤ 4294967280 := by omega
          obtain ⟨F2, hF2⟩ : ∃ F, F = recAt (beg B1.data.toList).1 := ⟨_, rfl⟩
          obtain ⟨N2, hN2⟩ : ∃ N, N = (beg B1.data.toList).1.length := ⟨_, rfl⟩
          obtain ⟨M, hM⟩ : ∃ M, M = min N1 N2 := ⟨_, rfl⟩
          have hFF : ∀ j, j < M → F2 j = F1 j := fun j hj => by
            rw [hF2, HF1.out]
            exact beg_agree hpre (by rw [← hN2]; omega) (by rw [← HN1.out]; omega)
          have hUU : upto F2 M = upto F1 M := by
            unfold upto
            exact List.map_congr_left (fun j hj => hFF j (List.mem_range.1 hj))
          have hNN : N2 ≤ 4294967280 := by have := beg_len B1.data.toList; rw [Array.length_toList, ← hN2] at this; have h2 : N2 ≤ B1.size := this; omega
          have HRC := Lib.hid (fun W (hb : Below z.heap.size z W) => show Calls Tryd.prog 22 #[.pointer (some ⟨q, 0, none⟩)] W fun e w' => ∃ A k, e = .returned (.slice A N2 k) ∧ N2 ≤ k ∧ k ≤ maxLen ∧ RecsR w' A M (upto F2 M) ∧ Below W.heap.size W w' from by
            have h2 := sto_Records q 4096 sy1 B1 W (hBk1.below hb hBk1.lt) hs1 (HT.out W (hb1.trans (hb.mono hb1.size)))
            rw [← hF2, ← hN2] at h2
            refine h2.mono ?_
            rintro e w' ⟨v, rfl, hH, hb⟩
            obtain ⟨A3, k3, rfl, h3, h4⟩ := Held.slice hH
            exact ⟨A3, k3, rfl, h3, h4, RecsR.pre2 (RecHeld.recs hH).weak (by omega), hb⟩)
          have HSR := Lib.hid (fun A3 k3 W (h : RecsR W A3 M (upto F2 M)) (h1 : RecsR W A1 M (upto F1 M)) => show Calls Tryd.prog 13 #[.slice A3 M k3, .slice A1 M k1] W fun e w' => e = .returned (.bool true) ∧ Below W.heap.size W w' from by
            have h3 := ref_SameRecords A3 A1 M M k3 k1 (upto F2 M) (upto F1 M) W h h1 (by omega) (fun j hj => .inl (by rw [recAt_upto F2 hj, hF2]; exact beg_short _))
            rw [hUU, sameB_self] at h3
            exact h3)
          have R1 := R1.pre2 (k := M) (by omega)
          have m1 : (0 : Int) ≤ (M : Int) := by omega
          have m2 : (M : Int) ≤ (k1 : Int) := by omega
          have m3 : M ≤ N2 := by omega
          have hm : min (N1 : Int) (N2 : Int) = (M : Int) := by omega
          clear hz hF2 hN2 hM hFF hUU hNN d0 hBy hby HC XIy hsy hBr hpre hH1
          go_upto_region 29 with fail
          go_cut [147] (fun v wx => v = .bool false ∧ Below z.heap.size z wx)
          case first =>
            have hcur : Below z.heap.size z z.drew := (Below.refl _ z).drew
            have R1c : RecsR z.drew A1 M (upto F1 M) := R1.below hcur
            have bag : Bag z.drew M F2 [] := fun a ha => by cases ha
            clear R1
            go_region_held3 (fun _ => True) (trivial) (first
              | (go_at_call 22; (with_reducible refine (HRC.out _ hcur).mono ?_); rintro e x ⟨A3, k3, rfl, hk3, hk4, hR, hb⟩; have hcur := hcur.trans (hb.mono hcur.size); have R1c := R1c.below hb; have bag := bag.add hb hR; have hk5 : (M : Int) ≤ (k3 : Int) := (by omega))
              | (go_at_call 13; (refine (HSR.out _ _ _ (bag _ (by simp)) R1c).mono ?_); rintro e x ⟨rfl, hb5⟩; have hcur := hcur.trans (hb5.mono hcur.size))
              | fail)
            all_goals
              go_wp2
              go_meet
              case rel => exact ⟨rfl, hcur⟩
          case rest =>
            obtain ⟨rfl, hb2⟩ := hcut
            have hBk2 := hBk1.below hb2 hBk1.lt
            have hw2 := hb1.trans (hb2.mono hb1.size)
            clear HRC HSR R1 hBk1 hb1 hb2
            go_wp2
            go_roundw
            case rel =>
              have hnew : KeL n w.heap.size w q (.int .i64 ((p : Int) + 1)) wc := ⟨p + 1, by omega, by simp, B1, sy1, hsy1, hBr1, hBk2, hw2⟩
              repeat (first | (exact hnew) | (exact ⟨hnew, rfl⟩) | (apply Exists.intro))
            case measure => simp [intOf]; omega
      · have z1 : ¬ (p : Int) < (n : Int) := by omega
        clear hlt HX
        go_wp2
        go_ret
        exact ⟨rfl, hb⟩
theorem storeKeeps_met (os : Os) : laidMet Tryd.prog Rows.storeKeepsRow.laid ((laidWorld os #[.slice none 0 0, .int .i64 0]).forCall (fun _ _ => 0) ⟨#[], #[.slice none 0 0, .int .i64 0], []⟩).memory :=
  laidMet_of_run' 8 (by kernel_rfl) (by kernel_rfl)
theorem storeKeeps_reads (os : Os) {H : Type} (enc : TypeId × Value → H) : DataW.whole enc Tryd.prog ((laidWorld os #[.slice none 0 0, .int .i64 0]).forCall (fun _ _ => 0) ⟨#[], #[.slice none 0 0, .int .i64 0], []⟩).memory Tryd.f6.params.toList Rows.storeKeepsSpec.vars false (#[.slice none 0 0, .int .i64 0] : Array Value).toList 8 = some ([.nil, .lit (.int .i64 0)], [], []) := by kernel_rfl
set_option maxRecDepth 100000 in
theorem storeKeeps_lifted (os : Os) (started : os.Started) (H : Type) (enc : TypeId × Value → H) (F : Stop.Interp) :
    ReturnsInHanded {} Tryd.checked os 6 .any ((OpenSpec.ofChange Rows.storeKeepsSpec).preRow enc Tryd.prog Tryd.f6 Rows.storeKeepsRow.domain false Rows.storeKeepsRow.laid) (((OpenSpec.ofChange Rows.storeKeepsSpec).at F).post enc Tryd.prog Tryd.f6 false true false false) := by
  refine lift_card0 (fn := Tryd.f6) (s := OpenSpec.ofChange Rows.storeKeepsSpec) started (by kernel_rfl) Tryd.func6
    (witness_row_at (enc := enc) (C := Tryd.checked) false (laidWorld os #[.slice none 0 0, .int .i64 0]) #[.slice none 0 0, .int .i64 0] rfl (by kernel_rfl) (by kernel_rfl) (by kernel_rfl)
      (OpenSpec.preRow_of_cond 8 (storeKeeps_reads os enc) (by kernel_rfl) (fun k hk => by cases hk) (by kernel_rfl) (storeKeeps_met os))) (by kernel_rfl) rfl Tryd.underlying4 rfl ?_ ?_
  · intro ds h
    rw [Tryd.params6] at h
    match ds, h with
    | [d0, d1], _ => rfl
  · intro W args ds ps hA hlt hval hsz ht
    rw [Tryd.params6] at hA hval hsz
    obtain ⟨v0, vs0, d0, ds0, p0, q0, hargs, rfl, rfl, H0, T0⟩ := trodAll_cons hA
    obtain ⟨v1, vs1, d1, ds1, p1, q1, rfl, rfl, rfl, H1, T1⟩ := trodAll_cons T0
    obtain ⟨rfl, rfl, rfl⟩ := trodAll_nil T1
    obtain rfl : args = #[v0, v1] := by cases args; simp_all
    obtain ⟨b0, hv0⟩ := hval 0 37 v0 rfl rfl
    obtain ⟨b1, hv1⟩ := hval 1 3 v1 rfl rfl
    obtain ⟨keep, rfl, _⟩ := arg_int hv1 H1
    obtain ⟨A, n, k, xs, rfl, _, _, hx⟩ := arg_cals (fun _ => rfl) hv0 H0
    exact storeKeeps_walk A n k xs keep W hx ht
theorem storeKeeps_said : Rows.StoreKeepsSaid :=
  OpenClaim.holds_of_cond 6 Tryd.f6 rfl rfl rfl rfl rfl rfl rfl ⟨rfl, rfl, rfl, rfl, rfl⟩ rfl rfl rfl rfl rfl (by kernel_rfl) Tryd.func6 (by kernel_rfl)
    (of_decide_eq_true (by kernel_rfl)) (by unfold Func.isWrapper; first | (rw [if_pos (by decide +kernel)]; kernel_rfl) | (rw [if_neg (by decide +kernel)]; exact ⟨rfl, rfl⟩))
    (fun os started H enc _ F => by rw [OpenClaim.pre_eq_preRow]; exact storeKeeps_lifted os started H enc F)
theorem storeKeeps_plain (f : FuncId) (fn : Func) (hf : Tryd.pinned.checked.prog.funcNamed "lessonbook/coachkeep.StoreKeeps" = some f) (hfn : Tryd.pinned.checked.prog.funcs[f]? = some fn) :
    false = Tryd.pinned.checked.prog.looks [] ∧ ∀ (j : Nat) t, fn.params[j]? = some t → Tryd.pinned.checked.prog.wantsStandIn t = false := by
  obtain rfl : f = 6 := Option.some.inj ((show Tryd.prog.funcNamed "lessonbook/coachkeep.StoreKeeps" = some 6 by kernel_rfl).symm.trans hf) |>.symm
  obtain rfl : fn = Tryd.f6 := (Option.some.inj (Tryd.func6.symm.trans hfn)).symm
  refine ⟨by kernel_rfl, fun j t ht => ?_⟩
  have hall : (Tryd.f6.params.toList.all fun t => Tryd.prog.wantsStandIn t == false) = true := by kernel_rfl
  rw [List.all_eq_true] at hall
  exact eq_of_beq (hall t (Array.mem_toList_iff.2 (Array.mem_of_getElem? ht)))
theorem StoreKeeps_holds : Rows.StoreKeepsCardSaid :=
  Claim7.holds_tied_plain_at .later [] _ _ _ _ storeKeeps_said (fun _ h => by cases h) (by kernel_rfl) (fun _ h => by cases h) storeKeeps_row_tie rfl ⟨rfl, rfl⟩ (by kernel_rfl) rfl storeKeeps_plain (by kernel_rfl)

end Go.Proofs.YtblkpibbcapdeaaDoor
