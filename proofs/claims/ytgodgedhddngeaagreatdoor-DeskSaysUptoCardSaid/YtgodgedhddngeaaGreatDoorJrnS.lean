/- Lines and words: the document's LineWords, TextLines; the library's SplitAfter: walks. -/
import Derived.Test.YtgodgedhddngeaaGreatDoorDskN
set_option maxRecDepth 100000
set_option maxHeartbeats 16000000
namespace Go.Proofs.YtgodgedhddngeaaGreatDoor
open Go.RowKit Go.Sort Pl
def fW (ps : List (List UInt8)) : List (List UInt8) := ps.filter fun w => !w.isEmpty
theorem wordsL_f (l : List UInt8) : wordsL l = fW (pieces 32 l) := rfl
theorem fW_take {ps : List (List UInt8)} {q : Nat} {x : List UInt8} (h : ps[q]? = some x) : fW (ps.take (q + 1)) = if x = [] then fW (ps.take q) else fW (ps.take q) ++ [x] := by
 unfold fW
 rw [List.take_add_one, h, List.filter_append]
 by_cases hx : x = []
 ·rw [if_pos hx, hx]
  simp
 ·rw [if_neg hx]
  have : x.isEmpty = false := by simpa using hx
  simp [this]
theorem fW_len (ps : List (List UInt8)) (q : Nat) : (fW (ps.take q)).length ≤ ps.length := by
 unfold fW
 refine Nat.le_trans (List.length_filter_le _ _) ?_
 rw [List.length_take]
 omega
def afterP (c : UInt8) : List (List UInt8) → List (List UInt8)
 | [] => []
 | [p] => [p]
 | p :: q :: r => (p ++ [c]) :: afterP c (q :: r)
theorem afterP_length (c : UInt8) : ∀ ps : List (List UInt8), (afterP c ps).length = ps.length
 | [] => rfl
 | [p] => rfl
 | p :: q :: r => by
  show (afterP c (q :: r)).length + 1 = _
  rw [afterP_length c (q :: r)]
  rfl
theorem afterP_at (c : UInt8) : ∀ (ps : List (List UInt8)) (j : Nat), j < ps.length → (afterP c ps)[j]? = some (if j + 1 < ps.length then ps.getD j [] ++ [c] else ps.getD j [])
 | [], j, h => absurd h (by simp)
 | [p], j, h => by
  obtain rfl : j = 0 := by simp at h; omega
  rfl
 | p :: q :: r, 0, _ => by
  rw [if_pos (by simp)]
  rfl
 | p :: q :: r, j + 1, h => by
  have ih := afterP_at c (q :: r) j (by simpa using h)
  show (afterP c (q :: r))[j]? = _
  rw [ih]
  simp only [List.length_cons, List.getD_cons_succ, Nat.add_lt_add_iff_right]
theorem pieces_free (c : UInt8) : ∀ (l : List UInt8), ∀ p ∈ pieces c l, c ∉ p
 | [], p, h => by
  simp [pieces] at h
  subst h
  simp
 | b :: l, p, h => by
  have ih := pieces_free c l
  obtain ⟨x, ps, hx⟩ := pieces_cons c l
  rw [hx] at ih
  by_cases hb : b = c
  ·have e : pieces c (b :: l) = [] :: x :: ps := by simp [pieces, hb, hx]
   rw [e] at h
   rcases List.mem_cons.1 h with rfl | h
   ·simp
   ·exact ih p h
  ·have e : pieces c (b :: l) = (b :: x) :: ps := by simp [pieces, hb, hx]
   rw [e] at h
   rcases List.mem_cons.1 h with rfl | h
   ·intro hc
    rcases List.mem_cons.1 hc with hc | hc
    ·exact hb hc.symm
    ·exact ih x (by simp) hc
   ·exact ih p (by simp [h])
theorem trim_after (c : UInt8) (p : List UInt8) : Lib.trimSuffix (p ++ [c]) [c] = p := by
 unfold Lib.trimSuffix Lib.hasSuffix
 rw [if_pos (List.isSuffixOf_iff_suffix.2 (List.suffix_append _ _)), List.length_append, List.length_singleton, Nat.add_sub_cancel, List.take_left']
 rfl
theorem trim_free {c : UInt8} {p : List UInt8} (h : c ∉ p) : Lib.trimSuffix p [c] = p := by
 unfold Lib.trimSuffix Lib.hasSuffix
 rw [if_neg]
 intro hs
 obtain ⟨t, ht⟩ := List.isSuffixOf_iff_suffix.1 hs
 exact h (by rw [← ht]; simp)
theorem after_trim (s : List UInt8) {j : Nat} (h : j < (pieces 10 s).length) : Lib.trimSuffix ((afterP 10 (pieces 10 s)).getD j []) [10] = (pieces 10 s).getD j [] := by
 rw [List.getD_eq_getElem?_getD, afterP_at 10 _ _ h, Option.getD_some]
 split
 ·exact trim_after _ _
 ·refine trim_free ?_
  rw [List.getD_eq_getElem?_getD, List.getElem?_eq_getElem h]
  exact pieces_free 10 s _ (List.getElem_mem _)
theorem split_after (c : UInt8) : ∀ (k : Nat) (l : List UInt8), l.count c = k → Lib.splitK [c] 1 k l = afterP c (pieces c l)
 | 0, l, h => by
  rw [pieces_plain (List.count_eq_zero.1 h)]
  rfl
 | k + 1, l, h => by
  have hm : c ∈ l := List.count_pos_iff.1 (by omega)
  obtain ⟨i, hi⟩ : ∃ i, l.findIdx? (· == c) = some i := by
   cases hf : l.findIdx? (· == c) with
   | some i => exact ⟨i, rfl⟩
   | none =>
    rw [List.findIdx?_eq_none_iff] at hf
    have := hf c hm
    simp at this
  have hx := Pl_index_one c l
  rw [hi] at hx
  simp only at hx
  obtain ⟨hlt, htk, hn⟩ := find_at hi
  have e : l = l.take i ++ c :: l.drop (i + 1) := by
   conv => lhs; rw [← List.take_append_drop (i + 1) l, htk]
   simp
  have hc : (l.drop (i + 1)).count c = k := by
   have h4 := h
   rw [e, List.count_append, List.count_eq_zero.2 hn, List.count_cons_self] at h4
   omega
  unfold Lib.splitK
  rw [if_neg (by rw [hx]; simp), hx]
  have ih := split_after c k (l.drop (i + 1)) hc
  obtain ⟨p, ps, hp⟩ := pieces_cons c (l.drop (i + 1))
  rw [Int.toNat_natCast, List.length_singleton, ih, htk]
  conv => rhs; rw [e, pieces_sep _ hn]
  rw [hp]
  rfl
theorem linesL_at (s : List UInt8) {j : Nat} (h : j < (linesL s).length) : (linesL s).getD j [] = (pieces 10 s).getD j [] := by
 unfold linesL at h ⊢
 split
 ·rename_i hl
  rw [if_pos hl, List.length_dropLast] at h
  rw [List.getD_eq_getElem?_getD, List.getD_eq_getElem?_getD, List.dropLast_eq_take, List.getElem?_take, if_pos (by omega)]
 ·rfl
theorem lastNil_iff {ps : List (List UInt8)} {k : Nat} (h : ps.length = k + 1) : lastNil ps = (ps.getD k []).isEmpty := by
 unfold lastNil
 rw [List.getLast?_eq_getElem?, h, Nat.add_sub_cancel, List.getD_eq_getElem?_getD, List.getElem?_eq_getElem (by omega), Option.getD_some]
 cases ps[k] <;> rfl
theorem linesL_take {s : List UInt8} {k : Nat} (h : (pieces 10 s).length = k + 1) : linesL s = (pieces 10 s).take (if ((pieces 10 s).getD k []).isEmpty then k else k + 1) := by
 unfold linesL
 rw [lastNil_iff h]
 split
 ·rw [List.dropLast_eq_take, h, Nat.add_sub_cancel]
 ·rw [← h, List.take_length]
theorem after_last {s : List UInt8} {k : Nat} (h : (pieces 10 s).length = k + 1) : (afterP 10 (pieces 10 s)).getD k [] = (pieces 10 s).getD k [] := by
 rw [List.getD_eq_getElem?_getD, afterP_at 10 _ _ (by omega), Option.getD_some, if_neg (by omega)]
theorem lib_SplitAfter (c : UInt8) (s : ByteArray) (w : World) (hs : s.size ≤ 4294967280) (ht : Tabs w) :
  Calls Tryz.prog 6 #[.string s, .string (bytesOf [c])] w fun e w' => e = .returned (.slice (some ⟨w.heap.size, 0, none⟩) (pieces c s.data.toList).length (pieces c s.data.toList).length) ∧ w' = w.alloc (.cells (((afterP c (pieces c s.data.toList)).map bytesOf).map Value.string).toArray 9) := by
 obtain ⟨m, hm⟩ := ht.most
 have h1 : 1 ≤ (bytesOf [c]).size := Nat.le_refl _
 have hc : Lib.countB s (bytesOf [c]) = s.data.toList.count c := Lib.count_one c s.data.toList
 have hle := Lib.countB_le (bytesOf [c]) h1 s.size s (Nat.le_refl _)
 have hg := Tryz.strings_genSplit s (bytesOf [c]) 1 (-1) (Lib.countB s (bytesOf [c]) + 1) m w (by omega) hm h1 (Nat.le_refl _) (by decide) (by decide) (by rw [if_pos (by decide)]; omega)
 rw [Nat.add_sub_cancel] at hg
 have hp : (Lib.splitB (bytesOf [c]) 1 (Lib.countB s (bytesOf [c])) s).map (·.data.toList) = afterP c (pieces c s.data.toList) := by
  rw [Lib.splitB_data, bytesOf_data, hc]
  exact split_after c _ _ rfl
 have hp2 : Lib.splitB (bytesOf [c]) 1 (Lib.countB s (bytesOf [c])) s = (afterP c (pieces c s.data.toList)).map bytesOf := by
  rw [← hp, List.map_map]
  conv => lhs; rw [← List.map_id (Lib.splitB (bytesOf [c]) 1 (Lib.countB s (bytesOf [c])) s)]
  exact List.map_congr_left fun x _ => (bytesOf_mk x).symm
 have hl := Lib.splitB_all (bytesOf [c]) h1 1 _ s rfl
 rw [hp2, List.length_map, afterP_length] at hl
 have hfull : Lib.cellsOf ((afterP c (pieces c s.data.toList)).map bytesOf) (Lib.countB s (bytesOf [c]) + 1) = (((afterP c (pieces c s.data.toList)).map bytesOf).map Value.string).toArray := by
  rw [← hl]
  have := Lib.cellsOf_full ((afterP c (pieces c s.data.toList)).map bytesOf)
  rw [List.length_map, afterP_length] at this
  exact this
 rw [hp2, hfull, List.length_map, afterP_length, ← hl] at hg
 have HG := Lib.hid hg
 clear hg hfull hl hp2 hp hc hle
 go_enter Tryz.func6, Tryz.ntmps6
 go_wp2_with fail
 refine HG.out.mono ?_
 rintro e w' ⟨rfl, hw⟩
 have HW := Lib.hid hw
 clear hw
 go_wp2
 go_ret
 exact ⟨rfl, HW.out⟩
theorem ref_LineWords (s : ByteArray) (w : World) (hs : s.size ≤ 1000000) :
  Calls Tryz.prog 14 #[.string s] w fun e w' => ∃ v, e = .returned v ∧ w'.ownsRow w.heap.size 9 1 v (wordsL s.data.toList).length (((wordsL s.data.toList).map bytesOf).map Value.string) ∧ Below w.heap.size w w' := by
 obtain ⟨i0, hi0, hz0, hz1, hz2⟩ := info_parts str_info
 have HPC := Lib.hid (ref_Pieces s 32 w (by omega))
 have hcnt := pieces_count 32 s.data.toList
 have hsz : s.data.toList.length = s.size := by rw [Array.length_toList]; rfl
 rw [hsz] at hcnt
 unfold wordsL
 have e0 : ((pieces 32 s.data.toList).filter fun w => !w.isEmpty) = fW (pieces 32 s.data.toList) := rfl
 rw [e0]
 obtain ⟨ps, hps⟩ : ∃ ps, ps = pieces 32 s.data.toList := ⟨_, rfl⟩
 rw [← hps] at HPC hcnt ⊢
 clear hps hsz e0
 go_enter Tryz.func14, Tryz.ntmps14
 go_wp2_with fail
 refine HPC.out.mono ?_
 rintro e w1 ⟨v, rfl, ⟨g, cp, rfl, hown0⟩, hb1⟩
 have HR := Lib.hid (fun W (h : Below w1.heap.size w1 W) => (StrsR.of_own hown0).below h)
 obtain ⟨M, hM⟩ : ∃ M, M = ps.length := ⟨_, rfl⟩
 rw [← hM] at hcnt ⊢
 have HM := Lib.hid hM
 have hb1s := hb1.size
 clear HPC hown0 hM
 go_wp2
 go_loopw [3, 5] (fun ov j wr => ∃ q : Nat, q ≤ M ∧ j = .int .i64 q ∧ wr.ownsRow w1.heap.size 9 1 ov (fW (ps.take q)).length (((fW (ps.take q)).map bytesOf).map Value.string) ∧ Below w1.heap.size w1 wr) (fun _ j _ => M - (intOf j).toNat)
 case atStart => exact ⟨0, by omega, rfl, World.ownsRow_nil _ _ _ _, Below.refl _ _⟩
 case round =>
  obtain ⟨q, hq, rfl, hown, hb⟩ := hrel
  have hbs := hb.size
  by_cases hlt : q < M
  ·have c0 : wr.cell? ⟨g, q, none⟩ = some (.string (bytesOf (ps.getD q []))) := by
    obtain ⟨b', off, e, _, hc⟩ := (HR.out wr hb).cells (by rw [← HM.out]; omega)
    injection e with e
    injection e with e1 e2
    subst e1; subst e2
    have := hc q (by rw [← HM.out]; exact hlt)
    rwa [Nat.zero_add] at this
   obtain ⟨x, hx⟩ : ∃ x, x = ps.getD q [] := ⟨_, rfl⟩
   have hxw : ps[q]? = some x := by rw [hx, List.getD_eq_getElem?_getD, List.getElem?_eq_getElem (by rw [← HM.out]; exact hlt)]; rfl
   have HF := Lib.hid (fW_take hxw)
   have hfl := fW_len ps q
   rw [← HM.out] at hfl
   rw [← hx] at c0
   have z0 : (0 : Int) ≤ (q : Int) := by omega
   have z1 : (q : Int) < (M : Int) := by omega
   by_cases hx0 : x = []
   ·subst hx0
    have G := Lib.hid (show fW (ps.take (q + 1)) = fW (ps.take q) from by rw [HF.out, if_pos rfl])
    have hxs : (bytesOf []).toList = [] := by rw [Lib.toList_data, bytesOf_data]
    clear hx hxw
    go_wp2
    go_roundw
    case rel => exact ⟨q + 1, by omega, by go_num, by rw [G.out]; exact hown, hb⟩
    case measure => simp [intOf]; omega
   ·have G := Lib.hid (show fW (ps.take (q + 1)) = fW (ps.take q) ++ [x] from by rw [HF.out, if_neg hx0])
    obtain ⟨X, hX⟩ : ∃ X, X = bytesOf x := ⟨_, rfl⟩
    have hXe : ¬ X.toList = [] := by rw [hX, Lib.toList_data, bytesOf_data]; exact hx0
    have hXe2 : X.toList.isEmpty = false := by rw [hX, Lib.toList_data, bytesOf_data]; simpa using hx0
    rw [← hX] at c0
    have HXX := Lib.hid hX
    obtain ⟨K, hK⟩ : ∃ K, K = (fW (ps.take q)).length := ⟨_, rfl⟩
    rw [← hK] at hown hfl
    have HK := Lib.hid hK
    clear hx hxw hx0 hX hK
    go_wp2_with (at_builtin; refine wpList_append_own _ rfl _ _ 24 rfl w1.heap.size 9 i0 (.string ByteArray.empty) 1 16 Tryz.underlying24 hi0 hz0 hz1 hz2 rfl (by decide) _ K _ rfl (hown.alloc _) ⟨wr.heap.size, 0, none⟩ 1 1 [.string X] rfl rfl (cell_one_new _ _ _) (by simp [Value.oneCell']) (by unfold maxLen; omega) (by omega) (by simp; omega) ?_; intro v1 v2 hown1 hgrow _)
    have hb3 : Below w1.heap.size w1 v2 := Below.grown (hb.alloc hbs _) hgrow (by simp; omega) (fun y hy => (hown.lt y hy).1)
    rw [show ((fW (ps.take q)).map bytesOf).map Value.string ++ [.string X] = ((fW (ps.take (q + 1))).map bytesOf).map Value.string by rw [G.out, HXX.out]; simp] at hown1
    clear hgrow
    go_roundw
    case rel => exact ⟨q + 1, by omega, by go_num, by rw [show (fW (ps.take (q + 1))).length = K + 1 from by rw [G.out, List.length_append, HK.out]; rfl]; exact hown1, hb3⟩
    case measure => simp [intOf]; omega
  ·obtain rfl : q = M := by omega
   have HOW := Lib.hid hown
   have HT := Lib.hid (show ps.take q = ps from by rw [HM.out, List.take_length])
   clear hown
   go_wp2
   go_ret
   rw [HT.out] at HOW
   exact ⟨_, rfl, own_base HOW.out hb1s, hb1.trans (hb.mono hb1s)⟩
end Go.Proofs.YtgodgedhddngeaaGreatDoor
namespace Go.Proofs.YtgodgedhddngeaaGreatDoor
open Go.ChangeShapes Go.WideShapes Go.ChangeAt Go.RowKit Pl
theorem jrn_Make_arg (c : Cfg) (ds : Data) (hC : crs c ds = 0) (s0 : 0 ≤ c.seed) (s1 : c.seed < 18446744073709551616) (D : Option Addr) (n dc : Nat) (w : World) (hd : Duos w D n ds) (N0 : Int) (hN : ¬ (0 ≤ N0 ∧ N0 ≤ c.steps)) :
  Calls Tryz.prog 47 #[.agg #[.int .i64 c.ci, .int .i64 c.ch, .int .i64 c.co, .int .u64 c.seed, .int .i64 c.batch, .int .i64 c.steps, .int .i64 c.rate, .int .i64 c.decay, .int .i64 c.how, .int .i64 c.keep, .int .i64 c.clip], .slice D n dc, .int .i64 N0] w fun e w' => e = .returned (.tuple #[.slice none 0 0, .int .i64 1]) ∧ Below w.heap.size w w' := by
 have HCK := Lib.hid (fun W (h : Below w.heap.size w W) => jrn_Head_ok c ds hC s0 s1 D n dc W (hd.below h))
 have HB0 := Blk.made w 29 #[.int .i64 c.ci, .int .i64 c.ch, .int .i64 c.co, .int .u64 c.seed, .int .i64 c.batch, .int .i64 c.steps, .int .i64 c.rate, .int .i64 c.decay, .int .i64 c.how, .int .i64 c.keep, .int .i64 c.clip]
 have b0 : Below w.heap.size w (w.alloc (.cells #[.int .i64 c.ci, .int .i64 c.ch, .int .i64 c.co, .int .u64 c.seed, .int .i64 c.batch, .int .i64 c.steps, .int .i64 c.rate, .int .i64 c.decay, .int .i64 c.how, .int .i64 c.keep, .int .i64 c.clip] 29)) := (Below.refl _ _).alloc (Nat.le_refl _) _
 have h4 : ¬ N0 < 0 → c.steps < N0 := by omega
 clear hC hN hd
 by_cases h1 : N0 < 0
 all_goals
  first
   | (have h5 : c.steps < N0 := h4 h1)
   | skip
  clear h4
  go_enter Tryz.func47, Tryz.ntmps47
  go_wp2_with fail
  refine (HCK.out _ b0).mono ?_
  rintro e x1 ⟨rfl, hb1⟩
  have d5 : x1.cell? ⟨w.heap.size, 5, none⟩ = some (.int .i64 c.steps) := (HB0.below hb1 HB0.lt).cell 5
  go_wp2
  go_ret2
  exact ⟨rfl, b0.trans (hb1.mono b0.size)⟩
structure RecW (r : Rec) : Prop where
 st : r.step < 9223372036854775808
 ra : r.rate < 9223372036854775808
 t0 : 0 ≤ r.root
 t1 : r.root < 18446744073709551616
 b : ∀ z ∈ r.batch, z < 9223372036854775808
end Go.Proofs.YtgodgedhddngeaaGreatDoor
