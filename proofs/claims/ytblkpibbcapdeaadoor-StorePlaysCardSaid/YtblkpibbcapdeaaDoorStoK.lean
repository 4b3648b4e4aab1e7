/- The law StorePlays holds of the given program for every input: its tied card. No condition beyond the tables that the card ties. -/
import Derived.Test.YtblkpibbcapdeaaDoorStoM
import Derived.Test.YtblkpibbcapdeaaDoorStoC
import Derived.Test.YtblkpibbcapdeaaDoorArgR
import Derived.Test.YtblkpibbcapdeaaDoorVecW
import Derived.Deep.DeepCutAuto
import Derived.Deep.CutBlock
namespace Go.Proofs.YtblkpibbcapdeaaDoor
open Go.ChangeShapes Go.WideShapes Go.ChangeAt Go.RowKit Go.Sort Pl

/-- A call of a store. -/
structure Cal where
  kind : Int
  r : Rec
  keep : Int
def Cal.none_ : Cal := ⟨0, Rec.none_, 0⟩
def calAt (cs : List Cal) (j : Nat) : Cal := cs[j]?.getD Cal.none_
/-- Seven cells that read as a call. -/
def CalV (w : World) (cs : List Value) (x : Cal) : Prop := ∃ v u, cs = v :: u ∧ v = .int .i64 x.kind ∧ ∃ r k, u = r ++ [k] ∧ k = .int .i64 x.keep ∧ RecV w r x.r
structure CalsR (w : World) (A : Option Addr) (n : Nat) (xs : List Cal) : Prop where
  len : xs.length = n
  cells : 0 < n → ∃ b off, A = some ⟨b, off, none⟩ ∧ b < w.heap.size ∧ ∀ j, j < n → ∃ cs, CalV w cs (calAt xs j) ∧ ∀ i, i < 7 → w.cell? ⟨b, off + j * 7 + i, none⟩ = cs[i]?
theorem cells_call : Tryd.prog.cellsOf 43 = 7 := by kernel_rfl
theorem calAt_upto (f : Nat → Cal) {n j : Nat} (h : j < n) : calAt (upto f n) j = f j := by
  unfold calAt upto
  rw [List.getElem?_map, List.getElem?_range h]
  rfl
section
variable {H : Type} {enc : TypeId × Value → H} {w : World} {base : Nat} {sp : Nat → Bool} {held : Bool}
set_option maxRecDepth 100000 in
theorem open_cal {fuel : Nat} {cs : List Value} {x : DataW H × List MemPlace} (hsp : ∀ b, sp b = true) (h : DataW.trod enc Tryd.prog w base sp held fuel 43 cs = some x) : ∃ r, CalV w cs r := by
  obtain ⟨xs, n, _, _, hl, hxl, hf⟩ := DataW.trod_struct Tryd.underlying43 h
  rw [cells_call] at hl
  match cs, hl with
  | [c0, c1, c2, c3, c4, c5, c6], _ =>
    obtain ⟨y0, f0⟩ := field_at hf hxl 0 3 0 1 rfl cells_int
    obtain ⟨y1, f1⟩ := field_at hf hxl 1 25 1 5 rfl cells_rec2
    obtain ⟨y2, f2⟩ := field_at hf hxl 2 3 6 1 rfl cells_int
    simp only [List.drop_zero, List.drop_succ_cons, List.take_succ_cons, List.take_zero] at f0 f1 f2
    obtain ⟨s, k0, _, w0⟩ := DataW.trod_int Tryd.underlying3 f0
    obtain ⟨r, hr⟩ := open_rec2 hsp f1
    obtain ⟨t, k2, _, w2⟩ := DataW.trod_int Tryd.underlying3 f2
    simp only [List.cons.injEq, and_true] at k0 k2
    subst k0; subst k2
    exact ⟨⟨s, r, t⟩, _, _, rfl, rfl, _, _, rfl, rfl, hr⟩
theorem open_cals {fuel : Nat} {cs : List Value} {x : DataW H × List MemPlace} (hsp : ∀ b, sp b = true) (h : DataW.trod enc Tryd.prog w base sp held fuel 37 cs = some x) :
    ∃ (A : Option Addr) (n c : Nat) (xs : List Cal), cs = [.slice A n c] ∧ n ≤ c ∧ c ≤ maxLen ∧ CalsR w A n xs := by
  obtain ⟨A, n, c, rfl, h1, h2, h3, h4⟩ := open_rows Tryd.underlying37 cells_call (by omega) hsp h
  rcases Nat.eq_zero_or_pos n with h0 | h0
  · subst h0
    exact ⟨A, 0, c, [], rfl, h1, h2, ⟨rfl, fun h => absurd h (by omega)⟩⟩
  · obtain ⟨b, off, rfl, hb, hr⟩ := h4 h0
    have hch : ∀ i, ∃ r : Cal, i < n → ∃ cs, CalV w cs r ∧ ∀ j, j < 7 → w.cell? ⟨b, off + i * 7 + j, none⟩ = cs[j]? := fun i => by
      by_cases hi : i < n
      · obtain ⟨cs', f', y, _, hc, ht⟩ := hr i hi
        obtain ⟨r, hv⟩ := open_cal hsp ht
        exact ⟨r, fun _ => ⟨cs', hv, hc⟩⟩
      · exact ⟨Cal.none_, fun h => absurd h hi⟩
    obtain ⟨f, hf⟩ := Classical.axiomOfChoice hch
    refine ⟨_, n, c, upto f n, rfl, h1, h2, ⟨upto_length _ _, fun _ => ⟨b, off, rfl, hb, fun j hj => ?_⟩⟩⟩
    rw [calAt_upto f hj]
    exact hf j hj
set_option maxRecDepth 100000 in
theorem arg_cals {r : Reach} {b : Nat} {v : Value} {d : DataW H} {p : List MemPlace} (hsp : ∀ b, sp b = true) (hv : Value.okWide Tryd.prog w r b 37 v) (h : DataW.Trod enc Tryd.prog w base sp held 37 v d p) :
    ∃ (A : Option Addr) (n c : Nat) (xs : List Cal), v = .slice A n c ∧ n ≤ c ∧ c ≤ maxLen ∧ CalsR w A n xs := by
  obtain ⟨A, n, c, rfl⟩ := okWide_slice Tryd.underlying37 hv
  obtain ⟨f, h⟩ := h
  obtain ⟨A', n', c', rs, e, h1, h2, h3⟩ := open_cals hsp h
  have e' : Value.slice A n c = .slice A' n' c' := by simpa [Value.cells] using e
  injection e' with e1 e2 e3
  subst e1; subst e2; subst e3
  exact ⟨A, n, c, rs, rfl, h1, h2, h3⟩
end
theorem CalsR.at {w : World} {A : Option Addr} {n : Nat} {xs : List Cal} (h : CalsR w A n xs) {j : Nat} (hj : j < n) : ∃ b off L m c, A = some ⟨b, off, none⟩ ∧ b < w.heap.size ∧
    (w.cell? ⟨b, off + j * 7, none⟩ = some (.int .i64 (calAt xs j).kind) ∧ w.cell? ⟨b, off + j * 7 + 1, none⟩ = some (.int .i64 (calAt xs j).r.step) ∧ w.cell? ⟨b, off + j * 7 + 2, none⟩ = some (.slice L m c) ∧ w.cell? ⟨b, off + j * 7 + 3, none⟩ = some (.int .i64 (calAt xs j).r.rate) ∧ w.cell? ⟨b, off + j * 7 + 4, none⟩ = some (.int .u64 (calAt xs j).r.root) ∧ w.cell? ⟨b, off + j * 7 + 5, none⟩ = some (.int .u64 (calAt xs j).r.chain) ∧ w.cell? ⟨b, off + j * 7 + 6, none⟩ = some (.int .i64 (calAt xs j).keep)) ∧
    Ints .i64 w L m (calAt xs j).r.batch ∧ m ≤ c ∧ c ≤ maxLen ∧ 0 ≤ (calAt xs j).r.root ∧ 0 ≤ (calAt xs j).r.chain := by
  obtain ⟨b, off, e, hb, hc⟩ := h.cells (by omega)
  obtain ⟨cs, ⟨v, u, rfl, rfl, r, k, rfl, rfl, L, m, c, rfl, hI, h1, h2, _, _, w3, w4, _⟩, hi⟩ := hc j hj
  exact ⟨b, off, L, m, c, e, hb, ⟨hi 0 (by omega), hi 1 (by omega), hi 2 (by omega), hi 3 (by omega), hi 4 (by omega), hi 5 (by omega), hi 6 (by omega)⟩, hI, h1, h2, (wf_u64 w3).1, (wf_u64 w4).1⟩
theorem CalsR.below {w w' : World} {A : Option Addr} {n : Nat} {xs : List Cal} (h : CalsR w A n xs) (hb : Below w.heap.size w w') : CalsR w' A n xs :=
  ⟨h.len, fun hn => by
    obtain ⟨b, off, e, hl, hc⟩ := h.cells hn
    refine ⟨b, off, e, Nat.lt_of_lt_of_le hl hb.size, fun j hj => ?_⟩
    obtain ⟨cs, ⟨v, u, h1, h2, r, k, h3, h4, L, m, c, h5, hI, h6⟩, h7⟩ := hc j hj
    exact ⟨cs, ⟨v, u, h1, h2, r, k, h3, h4, L, m, c, h5, hI.below hb, h6⟩, fun i hi => (hb.cell (p := ⟨b, off + j * 7 + i, none⟩) hl).trans (h7 i hi)⟩⟩
theorem beg_short (l : List UInt8) {j : Nat} : (recAt (beg l).1 j).batch.length ≤ 9223372036854775806 := by
  unfold recAt
  rcases Nat.lt_or_ge j (beg l).1.length with h | h
  · rw [List.getElem?_eq_getElem h]
    have := (goodR_iff.1 (beg_good l _ (List.getElem_mem h))).2.2.2.2.1
    show ((beg l).1[j]).batch.length ≤ _
    omega
  · rw [List.getElem?_eq_none h]
    exact Nat.zero_le _
theorem but_low {g B : Nat} {a b w : World} (h : Below B w a) (hb : But g a b) (hB : B ≤ g) (hs : B ≤ a.heap.size) : Below B w b :=
  ⟨hb.os.trans h.os, hb.tape.trans h.tape, hb.output.trans h.output, Nat.le_trans h.size hb.size, fun k hk => (hb.block k (by omega) (by omega)).trans (h.block k hk)⟩

/-- What the calls keep: the bytes and how many of them stay, the store that says so. -/
def StoI (H : Nat) (w : World) (q : Nat) (room : Int) (bv sv : Value) (wx : World) : Prop := ∃ (B : ByteArray) (sy : Nat), bv = .string B ∧ sv = .int .i64 sy ∧ sy ≤ B.size ∧ (B.size : Int) ≤ room ∧ Blk wx q 68 #[.int .i64 room, .string B, .int .i64 sy] ∧ Below H w wx
def PlI (n H : Nat) (w : World) (q : Nat) (room : Int) (bv sv jv : Value) (wx : World) : Prop := ∃ p : Nat, p ≤ n ∧ jv = .int .i64 p ∧ StoI H w q room bv sv wx
theorem Blk.seven {w : World} {g : Nat} {t : TypeId} {a b c d e f h : Value} (H : Blk w g t #[a, b, c, d, e, f, h]) : (w.cell? ⟨g, 1, none⟩ = some b ∧ w.cell? ⟨g, 2, none⟩ = some c ∧ w.cell? ⟨g, 3, none⟩ = some d ∧ w.cell? ⟨g, 4, none⟩ = some e ∧ w.cell? ⟨g, 5, none⟩ = some f) ∧ w.cell? ⟨g, 6, none⟩ = some h :=
  ⟨⟨H.cell 1, H.cell 2, H.cell 3, H.cell 4, H.cell 5⟩, H.cell 6⟩

set_option maxRecDepth 100000 in
set_option maxHeartbeats 4000000 in
theorem storePlays_walk (room : Int) (A : Option Addr) (n k : Nat) (xs : List Cal) (w : World) (hx : CalsR w A n xs) (ht : Tabs w) :
    Calls Tryd.prog 5 #[.int .i64 room, .slice A n k] w fun e w' => e = .returned (.bool true) ∧ Below w.heap.size w w' := by
  have HIN := Lib.hid (fun W => ref_In room 0 8192 W)
  by_cases hr : 0 ≤ room ∧ room ≤ 8192
  · have hI : inB room 0 8192 = true := by unfold inB; exact decide_eq_true hr
    rw [hI] at HIN
    obtain ⟨r0, r1⟩ := hr
    have HNW := Lib.hid (sto_New_ok room w r0 r1)
    obtain ⟨q, hq⟩ : ∃ q, q = w.heap.size := ⟨_, rfl⟩
    rw [← hq] at HNW
    have HQ := Lib.hid hq
    clear hI hq
    go_enter Tryd.func5, Tryd.ntmps5
    go_wp2_with fail
    refine HNW.out.mono ?_
    rintro e w1 ⟨rfl, hB1, hb1⟩
    rw [HQ.out] at hb1
    clear HNW
    go_wp2_with fail
    refine (HIN.out _).mono ?_
    rintro e w' ⟨rfl, rfl⟩
    by_cases hn : 60 < n
    · have z : (60 : Int) < (n : Int) := by omega
      go_wp2
      go_ret
      exact ⟨rfl, hb1⟩
    · have z : ¬ (60 : Int) < (n : Int) := by omega
      have hnn : n ≤ 60 := by omega
      have hqs : q < w1.heap.size := hB1.lt
      have hws : w.heap.size ≤ q := by rw [HQ.out]; exact Nat.le_refl _
      clear hn
      go_wp2
      go_loopw [7, 8, 10, 11, 12, 13, 14, 15, 16, 45] (fun bv sv _ _ _ _ _ _ _ jv wr => PlI n w.heap.size w q room bv sv jv wr) (fun _ _ _ _ _ _ _ _ _ jv _ => n - (intOf jv).toNat)
      case atStart => exact ⟨0, by omega, rfl, ByteArray.empty, 0, rfl, rfl, Nat.le_refl _, r0, hB1, hb1⟩
      case round =>
        clear hB1 hb1
        obtain ⟨p, hp, rfl, B, sy, rfl, rfl, hsy, hBr, hBk, hb⟩ := hrel
        by_cases hlt : p < n
        · obtain ⟨xb, xo, XL, xm, xc, rfl, xlt, ⟨x0, x1, x2, x3, x4, x5, x6⟩, XI, xl1, xl2, xr, xch⟩ := (hx.below hb).at hlt
          obtain ⟨X, hX⟩ : ∃ X, X = calAt xs p := ⟨_, rfl⟩
          rw [← hX] at x0 x1 x3 x4 x5 x6 XI xr xch
          have z0 : (0 : Int) ≤ (p : Int) := by omega
          have z1 : (p : Int) < (n : Int) := by omega
          have hxm : xm ≤ 9223372036854775807 := by unfold maxLen at xl2; omega
          have bW : Below wr.heap.size wr (wr.alloc (.cells #[.int .i64 X.kind, .int .i64 X.r.step, .slice XL xm xc, .int .i64 X.r.rate, .int .u64 X.r.root, .int .u64 X.r.chain, .int .i64 X.keep] 43)) := (by repeat (first | exact Below.refl _ _ | assumption | refine bel_drewN ?_ _ | refine Below.drew ?_ | (refine Below.alloc ?_ (by simp <;> omega) _) | (refine Below.setCell ?_ (by simp <;> omega) _)))
          have HC := Blk.made wr 43 #[.int .i64 X.kind, .int .i64 X.r.step, .slice XL xm xc, .int .i64 X.r.rate, .int .u64 X.r.root, .int .u64 X.r.chain, .int .i64 X.keep]
          obtain ⟨g, hg⟩ : ∃ g, g = wr.heap.size := ⟨_, rfl⟩
          obtain ⟨y, hy⟩ : ∃ y, y = wr.alloc (.cells #[.int .i64 X.kind, .int .i64 X.r.step, .slice XL xm xc, .int .i64 X.r.rate, .int .u64 X.r.root, .int .u64 X.r.chain, .int .i64 X.keep] 43) := ⟨_, rfl⟩
          have hBy := hBk.below bW hBk.lt
          have hby := hb.trans (bW.mono hb.size)
          rw [← hy] at HC hBy hby
          rw [← hg] at HC
          have XIy := XI.below bW
          rw [← hy] at XIy
          have HY := Lib.hid (show wr.alloc (.cells #[.int .i64 X.kind, .int .i64 X.r.step, .slice XL xm xc, .int .i64 X.r.rate, .int .u64 X.r.root, .int .u64 X.r.chain, .int .i64 X.keep] 43) = y from hy.symm)
          have HG := Lib.hid (show wr.heap.size = g from hg.symm)
          have hqg : q ≠ g := by have := hBk.lt; omega
          have hty := ht.below hby
          clear hX bW hy hg XI hBk hb
          have d0 : y.cell? ⟨g, 0, none⟩ = some (.int .i64 X.kind) := HC.cell 0
          obtain ⟨K, hK⟩ : ∃ K, K = X.kind := ⟨_, rfl⟩
          rw [← hK] at d0
          go_upto_region 10 with fail
          rw [HY.out, HG.out]
          clear HY HG x0 x1 x2 x3 x4 x5 x6 xlt hK
          go_upto_block 2 with fail
          go_cut [7, 8, 11, 12, 13, 14] (fun bv sv _ _ _ _ wx => StoI w.heap.size w q room bv sv wx)
          case first =>
            clear d0 hx
            by_cases k0 : K = 0
            · subst k0
              have HLI := Lib.hid (ref_Line X.r XL xm xc y XIy hxm xr xch)
              obtain ⟨⟨e1, e2, e3, e4, e5⟩, _⟩ := HC.seven
              go_wp2_with fail
              refine HLI.out.mono ?_
              rintro e w1 ⟨rfl, hb1⟩
              replace hBy := hBy.below hb1 hBy.lt
              replace HC := HC.below hb1 HC.lt
              replace hby := hby.trans (hb1.mono hby.size)
              replace XIy := XIy.below hb1
              clear HLI e1 e2 e3 e4 e5 hb1 hty
              have hty := ht.below hby
              have hBs : B.size ≤ 4294967280 := by omega
              have HAP := sto_Append q room sy B X.r XL xm xc
              cases hg : goodR X.r
              · have HA := HAP w1 hBy hBs XIy hxm xr xch hty
                rw [show appE room B X.r = 5 from by unfold appE; rw [hg]; rfl, show appB room B X.r = B from by unfold appB; rw [hg]; rfl] at HA
                have HA := Lib.hid HA
                obtain ⟨⟨e1, e2, e3, e4, e5⟩, _⟩ := HC.seven
                clear hg HAP
                go_wp2_with fail
                refine HA.out.mono ?_
                rintro e w2 ⟨rfl, hB2, hb2⟩
                go_wp2
                go_meet
                case rel => exact ⟨B, sy, rfl, rfl, hsy, hBr, hB2, but_low hby hb2 hws hby.size⟩
              · have HLT := Lib.hid (ref_LineText X.r XL xm xc w1 XIy hg hty)
                have hll := line_len hg
                have hl1 : (lineT X.r).length ≤ 241 := by unfold lineT; rw [List.length_append]; show _ + 1 ≤ _; omega
                have hsz : (bytesOf (lineT X.r)).size = (lineT X.r).length := rfl
                obtain ⟨T, hT⟩ : ∃ T, T = bytesOf (lineT X.r) := ⟨_, rfl⟩
                obtain ⟨L, hL⟩ : ∃ L, L = (lineT X.r).length := ⟨_, rfl⟩
                have hAE := show appE room B X.r = (if appFits room B X.r = true then 0 else 6) from if_pos hg
                have hAB := show appB room B X.r = (if goodR X.r = true ∧ appFits room B X.r = true then B ++ bytesOf (lineT X.r) else B) from rfl
                have hAF := show appFits room B X.r = decide ((B.size : Int) + (lineT X.r).length ≤ room) from rfl
                rw [← hT, ← hL] at hsz
                rw [← hL] at hl1 hAF
                rw [← hT] at hAB HLT
                have n1 : IntKind.i64.wrap ((B.size : Int) + (L : Int)) = (B.size : Int) + (L : Int) := wrap_small _ (by omega) (by omega)
                have HHG := Lib.hid hg
                have HHE := Lib.hid hAE
                have HHB := Lib.hid hAB
                have HHF := Lib.hid hAF
                obtain ⟨⟨e1, e2, e3, e4, e5⟩, _⟩ := HC.seven
                clear hT hL hg hll hAE hAB hAF
                go_wp2_with fail
                refine HLT.out.mono ?_
                rintro e w2 ⟨rfl, hb2⟩
                replace hBy := hBy.below hb2 hBy.lt
                replace HC := HC.below hb2 HC.lt
                replace hby := hby.trans (hb2.mono hby.size)
                replace XIy := XIy.below hb2
                clear HLT e1 e2 e3 e4 e5 hb2 hty
                have hty := ht.below hby
                by_cases hf : (B.size : Int) + (L : Int) ≤ room
                · have HA := HAP w2 hBy hBs XIy hxm xr xch hty
                  have ef : appFits room B X.r = true := by rw [HHF.out]; exact decide_eq_true hf
                  rw [show appE room B X.r = 0 from by rw [HHE.out, if_pos ef], show appB room B X.r = B ++ T from by rw [HHB.out, if_pos ⟨HHG.out, ef⟩]] at HA
                  have HA := Lib.hid HA
                  have n2 : (B ++ T).size = B.size + L := by rw [ByteArray.size_append, hsz]
                  have hs1 : B.size + T.size ≤ 9223372036854775807 := by omega
                  obtain ⟨⟨e1, e2, e3, e4, e5⟩, _⟩ := HC.seven
                  clear HAP ef HHG HHE HHB HHF
                  have g1 : ¬ room < (B.size : Int) + (L : Int) := by omega
                  go_wp2_with fail
                  refine HA.out.mono ?_
                  rintro e w3 ⟨rfl, hB3, hb3⟩
                  go_wp2
                  go_meet
                  case rel => exact ⟨B ++ T, sy, rfl, rfl, by rw [n2]; omega, by rw [n2]; omega, hB3, but_low hby hb3 hws hby.size⟩
                · have HA := HAP w2 hBy hBs XIy hxm xr xch hty
                  have ef : ¬ appFits room B X.r = true := by rw [HHF.out]; exact fun h => hf (of_decide_eq_true h)
                  rw [show appE room B X.r = 6 from by rw [HHE.out, if_neg ef], show appB room B X.r = B from by rw [HHB.out, if_neg (fun h => ef h.2)]] at HA
                  have HA := Lib.hid HA
                  obtain ⟨⟨e1, e2, e3, e4, e5⟩, _⟩ := HC.seven
                  have g1 : room < (B.size : Int) + (L : Int) := by omega
                  clear HAP ef HHG HHE HHB HHF hf
                  go_wp2_with fail
                  refine HA.out.mono ?_
                  rintro e w3 ⟨rfl, hB3, hb3⟩
                  go_wp2
                  go_meet
                  case rel => exact ⟨B, sy, rfl, rfl, hsy, hBr, hB3, but_low hby hb3 hws hby.size⟩
            · by_cases k1 : K = 1
              · subst k1
                clear k0
                have HS := Lib.hid (sto_Sync q room sy B y hBy)
                go_wp2_with fail
                refine HS.out.mono ?_
                rintro e w1 ⟨rfl, hB2, hb2⟩
                go_wp2
                go_meet
                case rel => exact ⟨B, B.size, rfl, rfl, Nat.le_refl _, hBr, hB2, but_low hby hb2 hws (by have := hby.size; omega)⟩
              · by_cases k2 : K = 2
                · subst k2
                  clear k0 k1
                  have HS := sto_Crash q room sy B X.keep y hBy (by omega) hsy
                  obtain ⟨c1, c2⟩ := crashN_le hsy X.keep
                  have n1 : IntKind.i64.wrap ((B.size : Int) - (sy : Int)) = ((B.size : Int) - (sy : Int)) := by rw [wrap_small _ (by omega) (by omega)]
                  have n2 : IntKind.i64.wrap ((sy : Int) + max 0 (min X.keep ((B.size : Int) - (sy : Int)))) = ((crashN sy B.size X.keep : Nat) : Int) := by
                    unfold crashN
                    rw [wrap_small _ (by omega) (by omega)]
                    omega
                  obtain ⟨C, hC⟩ : ∃ C, C = crashN sy B.size X.keep := ⟨_, rfl⟩
                  rw [← hC] at c1 c2 n2 HS
                  have n3 : (C : Int) ≤ (B.size : Int) := by omega
                  have n4 : (B.extract 0 C).size = C := by
                    rw [Lib.size_eq, Lib.extract_data, List.length_take, List.length_drop, Array.length_toList]
                    show min (C - 0) (B.size - 0) = C
                    omega
                  obtain ⟨P, hP⟩ : ∃ P, P = X.keep := ⟨_, rfl⟩
                  have e6 := HC.seven.2
                  rw [← hP] at HS n2 e6
                  have HSH := Lib.hid HS
                  clear hC hP HS
                  go_wp2_with fail
                  refine HSH.out.mono ?_
                  rintro e w1 ⟨rfl, hB2, hb2⟩
                  have e6 : w1.cell? ⟨g, 6, none⟩ = some (.int .i64 P) := (World.cell?_of_block (a := ⟨g, 6, none⟩) (hb2.block g HC.lt (Ne.symm hqg))).trans e6
                  clear HSH
                  go_wp2
                  go_meet
                  case rel => exact ⟨B.extract 0 C, C, rfl, rfl, by rw [n4]; exact Nat.le_refl _, by rw [n4]; omega, hB2, but_low hby hb2 hws hby.size⟩
                · by_cases k3 : K = 3
                  · subst k3
                    clear k0 k1 k2
                    have HB1 := ref_Beginning B y (by omega) hty
                    unfold BegPost at HB1
                    have HR1 := fun W h1 h2 => sto_Repair q room sy B W h1 (by omega) h2
                    have hle := beg_le B.data.toList
                    rw [Array.length_toList] at hle
                    have hle : (beg B.data.toList).2 ≤ B.size := hle
                    obtain ⟨C, hC⟩ : ∃ C, C = (beg B.data.toList).2 := ⟨_, rfl⟩
                    rw [← hC] at hle HB1
                    simp only [← hC] at HR1
                    have n3 : (C : Int) ≤ (B.size : Int) := by omega
                    have n1 : IntKind.i64.wrap ((B.size : Int) - (C : Int)) = ((B.size : Int) - (C : Int)) := by rw [wrap_small _ (by omega) (by omega)]
                    have n4 : (B.extract 0 C).size = C := by
                      rw [Lib.size_eq, Lib.extract_data, List.length_take, List.length_drop, Array.length_toList]
                      show min (C - 0) (B.size - 0) = C
                      omega
                    have HBG := Lib.hid HB1
                    have HRP := Lib.hid HR1
                    clear hC HB1 HR1
                    go_wp2_with fail
                    refine HBG.out.mono ?_
                    rintro e w1 ⟨v1, rfl, _, hb1⟩
                    have hw1 := hby.trans (hb1.mono hby.size)
                    have HRQ := Lib.hid (HRP.out w1 (hBy.below hb1 hBy.lt) (ht.below hw1))
                    clear HBG HRP
                    go_wp2_with fail
                    refine HRQ.out.mono ?_
                    rintro e w2 ⟨rfl, hB2, hb2⟩
                    go_wp2
                    go_meet
                    case rel => exact ⟨B.extract 0 C, C, rfl, rfl, by rw [n4]; exact Nat.le_refl _, by rw [n4]; omega, hB2, but_low hw1 hb2 hws hw1.size⟩
                  · have m0 : (K == 0) = false := by simp [k0]
                    have m1 : (K == 1) = false := by simp [k1]
                    have m2 : (K == 2) = false := by simp [k2]
                    have m3 : (K == 3) = false := by simp [k3]
                    go_wp2
                    go_meet
                    case rel => exact ⟨B, sy, rfl, rfl, hsy, hBr, hBy, hby⟩
          case rest =>
            obtain ⟨B1, sy1, rfl, rfl, hsy1, hBr1, hBk1, hb1⟩ := hcut
            obtain ⟨z, hz⟩ : ∃ z, z = wc := ⟨_, rfl⟩
            rw [← hz] at hBk1 hb1 ⊢
            have hs1 : B1.size ≤ 4294967280 := by omega
            have HLN := Lib.hid (show (beg B1.data.toList).1.length ≤ 9223372036854775806 from by have := beg_len B1.data.toList; rw [Array.length_toList] at this; have h2 : (beg B1.data.toList).1.length ≤ B1.size := this; omega)
            have HSH := Lib.hid (fun j => beg_short B1.data.toList (j := j))
            have HB1 := ref_Beginning B1 z hs1 (ht.below hb1)
            unfold BegPost at HB1
            have HR1 := Lib.hid (fun W h1 h2 => sto_Records q room sy1 B1 W h1 hs1 h2)
            obtain ⟨F, hF⟩ : ∃ F, F = recAt (beg B1.data.toList).1 := ⟨_, rfl⟩
            obtain ⟨N, hN⟩ : ∃ N, N = (beg B1.data.toList).1.length := ⟨_, rfl⟩
            obtain ⟨M, hM⟩ : ∃ M, M = (beg B1.data.toList).2 := ⟨_, rfl⟩
            rw [← hF, ← hN, ← hM] at HB1
            rw [← hF, ← hN] at HR1
            rw [← hN] at HLN
            rw [← hF] at HSH
            have HBG := Lib.hid HB1
            have HT := Lib.hid (fun W (h : Below w.heap.size w W) => ht.below h)
            clear hz hF hN hM HB1 d0 hBy hby HC XIy hty hsy hBr
            go_wp2_with fail
            refine HBG.out.mono ?_
            rintro e w2 ⟨v1, rfl, hH1, hb2⟩
            obtain ⟨A1, k1, rfl, hk1, hk2⟩ := Held.slice hH1
            have hBk2 := hBk1.below hb2 hBk1.lt
            have hw2 := hb1.trans (hb2.mono hb1.size)
            have R1 := hH1.recs.weak
            have HBY := Lib.hid (sto_Bytes q room sy1 B1 w2 hBk2)
            have HRC := Lib.hid (HR1.out w2 hBk2 (HT.out _ hw2))
            have HSR := Lib.hid (fun A3 k3 W (h : RecHeld none w2.heap.size F N (.slice A3 N k3) W) (hb : Below w2.heap.size w2 W) => show Calls Tryd.prog 13 #[.slice A3 N k3, .slice A1 N k1] W fun e w' => e = .returned (.bool true) ∧ Below W.heap.size W w' from by
              have h3 := ref_SameRecords A3 A1 N N k3 k1 (upto F N) (upto F N) W h.recs.weak (R1.below hb) HLN.out (fun j hj => .inl (by rw [recAt_upto F hj]; exact HSH.out j))
              rw [sameB_self] at h3
              exact h3)
            clear HBG HR1 hb2 hH1 R1
            go_wp2_with fail
            refine HBY.out.mono ?_
            rintro e w' ⟨rfl, rfl⟩
            go_wp2_with fail
            refine HRC.out.mono ?_
            rintro e w3 ⟨v2, rfl, hH2, hb3⟩
            obtain ⟨A3, k3, rfl, _, _⟩ := Held.slice hH2
            have HS3 := Lib.hid (HSR.out A3 k3 w3 hH2 hb3)
            have hBk3 := hBk2.below hb3 hBk2.lt
            have hw3 := hw2.trans (hb3.mono hw2.size)
            clear HSR hH2 HRC HBY hb3
            go_wp2_with fail
            refine HS3.out.mono ?_
            rintro e w4 ⟨rfl, hb4⟩
            have hBk4 := hBk3.below hb4 hBk3.lt
            have hw4 := hw3.trans (hb4.mono hw3.size)
            clear HS3
            go_wp2
            go_roundw
            case rel =>
              have hnew : PlI n w.heap.size w q room (.string B1) (.int .i64 sy1) (.int .i64 ((p : Int) + 1)) w4 := ⟨p + 1, by omega, by simp, B1, sy1, rfl, rfl, hsy1, hBr1, hBk4, hw4⟩
              repeat (first | (exact hnew) | (exact ⟨hnew, rfl⟩) | (apply Exists.intro))
            case measure => simp [intOf]; omega
        · have z1 : ¬ (p : Int) < (n : Int) := by omega
          clear hlt hx
          go_wp2
          go_ret
          exact ⟨rfl, hb⟩
  · have hI : inB room 0 8192 = false := by unfold inB; exact decide_eq_false hr
    rw [hI] at HIN
    have HNW := Lib.hid (sto_New_no room w hr)
    clear hr hI hx
    go_enter Tryd.func5, Tryd.ntmps5
    go_wp2_with fail
    refine HNW.out.mono ?_
    rintro e w1 ⟨rfl, hb1⟩
    go_wp2_with fail
    refine (HIN.out _).mono ?_
    rintro e w' ⟨rfl, rfl⟩
    go_wp2_with fail
    refine (HIN.out _).mono ?_
    rintro e w' ⟨rfl, rfl⟩
    go_wp2
    go_ret
    exact ⟨rfl, hb1⟩
theorem storePlays_met (os : Os) : laidMet Tryd.prog Rows.storePlaysRow.laid ((laidWorld os #[.int .i64 0, .slice none 0 0]).forCall (fun _ _ => 0) ⟨#[], #[.int .i64 0, .slice none 0 0], []⟩).memory :=
  laidMet_of_run' 8 (by kernel_rfl) (by kernel_rfl)
theorem storePlays_reads (os : Os) {H : Type} (enc : TypeId × Value → H) : DataW.whole enc Tryd.prog ((laidWorld os #[.int .i64 0, .slice none 0 0]).forCall (fun _ _ => 0) ⟨#[], #[.int .i64 0, .slice none 0 0], []⟩).memory Tryd.f5.params.toList Rows.storePlaysSpec.vars false (#[.int .i64 0, .slice none 0 0] : Array Value).toList 8 = some ([.lit (.int .i64 0), .nil], [], []) := by kernel_rfl
set_option maxRecDepth 100000 in
theorem storePlays_lifted (os : Os) (started : os.Started) (H : Type) (enc : TypeId × Value → H) (F : Stop.Interp) :
    ReturnsInHanded {} Tryd.checked os 5 .any ((OpenSpec.ofChange Rows.storePlaysSpec).preRow enc Tryd.prog Tryd.f5 Rows.storePlaysRow.domain false Rows.storePlaysRow.laid) (((OpenSpec.ofChange Rows.storePlaysSpec).at F).post enc Tryd.prog Tryd.f5 false true false false) := by
  refine lift_card0 (fn := Tryd.f5) (s := OpenSpec.ofChange Rows.storePlaysSpec) started (by kernel_rfl) Tryd.func5
    (witness_row_at (enc := enc) (C := Tryd.checked) false (laidWorld os #[.int .i64 0, .slice none 0 0]) #[.int .i64 0, .slice none 0 0] rfl (by kernel_rfl) (by kernel_rfl) (by kernel_rfl)
      (OpenSpec.preRow_of_cond 8 (storePlays_reads os enc) (by kernel_rfl) (fun k hk => by cases hk) (by kernel_rfl) (storePlays_met os))) (by kernel_rfl) rfl Tryd.underlying4 rfl ?_ ?_
  · intro ds h
    rw [Tryd.params5] at h
    match ds, h with
    | [d0, d1], _ => rfl
  · intro W args ds ps hA hlt hval hsz ht
    rw [Tryd.params5] at hA hval hsz
    obtain ⟨v0, vs0, d0, ds0, p0, q0, hargs, rfl, rfl, H0, T0⟩ := trodAll_cons hA
    obtain ⟨v1, vs1, d1, ds1, p1, q1, rfl, rfl, rfl, H1, T1⟩ := trodAll_cons T0
    obtain ⟨rfl, rfl, rfl⟩ := trodAll_nil T1
    obtain rfl : args = #[v0, v1] := by cases args; simp_all
    obtain ⟨b0, hv0⟩ := hval 0 3 v0 rfl rfl
    obtain ⟨b1, hv1⟩ := hval 1 37 v1 rfl rfl
    obtain ⟨room, rfl, _⟩ := arg_int hv0 H0
    obtain ⟨A, n, k, xs, rfl, _, _, hx⟩ := arg_cals (fun _ => rfl) hv1 H1
    exact storePlays_walk room A n k xs W hx ht
theorem storePlays_said : Rows.StorePlaysSaid :=
  OpenClaim.holds_of_cond 5 Tryd.f5 rfl rfl rfl rfl rfl rfl rfl ⟨rfl, rfl, rfl, rfl, rfl⟩ rfl rfl rfl rfl rfl (by kernel_rfl) Tryd.func5 (by kernel_rfl)
    (of_decide_eq_true (by kernel_rfl)) (by unfold Func.isWrapper; first | (rw [if_pos (by decide +kernel)]; kernel_rfl) | (rw [if_neg (by decide +kernel)]; exact ⟨rfl, rfl⟩))
    (fun os started H enc _ F => by rw [OpenClaim.pre_eq_preRow]; exact storePlays_lifted os started H enc F)
theorem storePlays_plain (f : FuncId) (fn : Func) (hf : Tryd.pinned.checked.prog.funcNamed "lessonbook/coachlaw.StorePlays" = some f) (hfn : Tryd.pinned.checked.prog.funcs[f]? = some fn) :
    false = Tryd.pinned.checked.prog.looks [] ∧ ∀ (j : Nat) t, fn.params[j]? = some t → Tryd.pinned.checked.prog.wantsStandIn t = false := by
  obtain rfl : f = 5 := Option.some.inj ((show Tryd.prog.funcNamed "lessonbook/coachlaw.StorePlays" = some 5 by kernel_rfl).symm.trans hf) |>.symm
  obtain rfl : fn = Tryd.f5 := (Option.some.inj (Tryd.func5.symm.trans hfn)).symm
  refine ⟨by kernel_rfl, fun j t ht => ?_⟩
  have hall : (Tryd.f5.params.toList.all fun t => Tryd.prog.wantsStandIn t == false) = true := by kernel_rfl
  rw [List.all_eq_true] at hall
  exact eq_of_beq (hall t (Array.mem_toList_iff.2 (Array.mem_of_getElem? ht)))
theorem StorePlays_holds : Rows.StorePlaysCardSaid :=
  Claim7.holds_tied_plain_at .later [] _ _ _ _ storePlays_said (fun _ h => by cases h) (by kernel_rfl) (fun _ h => by cases h) storePlays_row_tie rfl ⟨rfl, rfl⟩ (by kernel_rfl) rfl storePlays_plain (by kernel_rfl)

end Go.Proofs.YtblkpibbcapdeaaDoor
