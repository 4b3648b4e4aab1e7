/- The plain law of the desk's head: a given text's answers, and that what follows is not seen. No program in sight. -/
import Derived.Test.YtaeeonnjkplohaaGreatDoorDskQ
namespace Go.Proofs.YtaeeonnjkplohaaGreatDoor
open Go.RowKit Go.Sort Pl

/-! ### What follows is not seen -/
theorem pieces_both (c : UInt8) (b : List UInt8) : ∀ a : List UInt8, pieces c (a ++ c :: b) = pieces c a ++ pieces c b
  | [] => by
    have h := pieces_sep (c := c) (p := []) b (by simp)
    rw [List.nil_append] at h ⊢
    rw [h]
    rfl
  | x :: a => by
    have ih := pieces_both c b a
    show (if x = c then [] :: pieces c (a ++ c :: b) else ((x :: (pieces c (a ++ c :: b)).headD []) :: (pieces c (a ++ c :: b)).tail)) = (if x = c then [] :: pieces c a else ((x :: (pieces c a).headD []) :: (pieces c a).tail)) ++ pieces c b
    rw [ih]
    obtain ⟨p, ps, e⟩ := pieces_cons c a
    rw [e]
    split <;> rfl
theorem lines_both (a b : List UInt8) : ∃ t, linesL (a ++ 10 :: b) = linesL a ++ t := by
  obtain ⟨p, ps, e⟩ := pieces_cons 10 b
  have h1 : ∃ t, linesL (a ++ 10 :: b) = pieces 10 a ++ t := by
    unfold linesL
    rw [pieces_both, e]
    split
    · exact ⟨(p :: ps).dropLast, by rw [List.dropLast_append_of_ne_nil (by simp)]⟩
    · exact ⟨p :: ps, rfl⟩
  obtain ⟨t, ht⟩ := h1
  rw [ht]
  unfold linesL
  split
  · refine ⟨[(pieces 10 a).getLast (pieces_ne 10 a)] ++ t, ?_⟩
    rw [← List.append_assoc, List.dropLast_concat_getLast]
  · exact ⟨t, rfl⟩
theorem goL_more (x : List UInt8 × DSt) (l : List UInt8) : ∃ t, (goL x l).1 = x.1 ++ t := by
  unfold goL
  split
  · exact ⟨[], by simp⟩
  · split
    · exact ⟨[], by simp⟩
    · exact ⟨_, rfl⟩
theorem foldl_more : ∀ (ls : List (List UInt8)) (x : List UInt8 × DSt), ∃ t, (ls.foldl goL x).1 = x.1 ++ t
  | [], x => ⟨[], by simp⟩
  | l :: ls, x => by
    obtain ⟨t, h⟩ := goL_more x l
    obtain ⟨u, h2⟩ := foldl_more ls (goL x l)
    exact ⟨t ++ u, by rw [List.foldl_cons, h2, h, List.append_assoc]⟩
theorem runD_head (a b : List UInt8) (h : ¬ (65536 < (a ++ 10 :: b).length ∨ 200 < (linesL (a ++ 10 :: b)).length)) : ∃ t, runD (a ++ 10 :: b) = runD a ++ t := by
  obtain ⟨t, ht⟩ := lines_both a b
  have ha : ¬ (65536 < a.length ∨ 200 < (linesL a).length) := by
    rw [ht, List.length_append, List.length_append] at h
    omega
  unfold runD
  rw [if_neg h, if_neg ha, ht, List.foldl_append]
  exact foldl_more t _

/-! ### The given text -/
def headC : Cfg := ⟨1, 1, 1, 1, 1, 3, 6554, 0, 0, 0, 0⟩
def headD : Data := [([65536], [131072])]
theorem head_fine : crs headC headD = 0 := by decide +kernel
def headF : Nat → Rec := recC headC headD
def headS (k : Nat) : DSt := ⟨headC, headD, linesK headF k, 0⟩
theorem head_good {m : Nat} (h : m ≤ 3) : GoodTo headF m := recC_good (fine head_fine) (by show (m : Int) ≤ 3; omega)
theorem head_beg {m : Nat} (h : m ≤ 3) : beg (headS m).by_ = (upto headF m, (linesK headF m).length) := beg_all (head_good h)
theorem head_k {m : Nat} (h : m ≤ 3) : (headS m).k = m := by
  unfold DSt.k
  rw [head_beg h, upto, List.length_map, List.length_range]
theorem head_step {m : Nat} (h : m ≤ 2) : stepD (headS m) = ((lineT (headF m)).dropLast, headS (m + 1)) := by
  have hk := head_k (m := m) (by omega)
  have hl := linesK_len (head_good (m := m) (by omega))
  have hg := (head_good (m := m + 1) (by omega) m (by omega)).1
  have hll := line_len hg
  have hl1 : (lineT (headF m)).length ≤ 241 := by unfold lineT; rw [List.length_append]; show _ + 1 ≤ _; omega
  unfold stepD
  rw [hk, if_neg (show ¬ crs (headS m).c (headS m).ds ≠ 0 from fun h => h head_fine), if_neg (show ¬ (headS m).c.steps < (m : Int) + 1 by show ¬ (3 : Int) < _; omega), if_neg (show ¬ 4096 < (headS m).by_.length + (lineT (recC (headS m).c (headS m).ds m)).length by show ¬ 4096 < (linesK headF m).length + (lineT (headF m)).length; omega)]
  refine Prod.ext rfl ?_
  show (⟨headC, headD, linesK headF m ++ lineT (headF m), 0⟩ : DSt) = headS (m + 1)
  rw [← linesK_succ]
  rfl
theorem aud_same {n : Nat} {f g : Nat → Rec} (h : ∀ j, j < n → f j = g j) : audN n f g = n := by
  unfold audN
  rw [List.find?_eq_none.2, Option.getD_none]
  intro j hj
  rw [h j (List.mem_range.1 hj), sameR_self]
  simp
theorem head_audit {m : Nat} (h : m ≤ 3) : auditD (headS m) = Lib.itoa m := by
  have hk := head_k h
  unfold auditD
  rw [hk, if_neg (show ¬ crs (headS m).c (headS m).ds ≠ 0 from fun h => h head_fine), if_neg (show ¬ (headS m).c.steps < (m : Int) by show ¬ (3 : Int) < _; omega), head_beg h]
  show Lib.itoa (audN m (recAt (upto headF m)) headF : Nat) = _
  rw [aud_same (f := recAt (upto headF m)) (g := headF) fun j hj => recAt_upto headF hj]
theorem head_crash (m : Nat) : crashD (headS m) 0 = headS 0 := by
  unfold crashD
  have : crashN (headS m).sy (headS m).by_.length 0 = 0 := by
    unfold crashN
    show 0 + _ = 0
    omega
  rw [this]
  rfl
def headT : List UInt8 := [100, 97, 116, 97, 32, 54, 53, 53, 51, 54, 32, 47, 32, 49, 51, 49, 48, 55, 50, 10, 115, 116, 101, 112, 10, 115, 116, 101, 112, 10, 97, 117, 100, 105, 116, 10, 99, 114, 97, 115, 104, 32, 48, 10, 98, 121, 116, 101, 115, 10, 97, 117, 100, 105, 116, 10]
def w5 : List UInt8 := [54, 53, 53, 51, 54]
def w6 : List UInt8 := [49, 51, 49, 48, 55, 50]
theorem head_lines : linesL headT = [vData ++ [32] ++ w5 ++ [32, 47, 32] ++ w6, vStep, vStep, vAudit, vCrash ++ [32, 48], vBytes, vAudit] := by decide +kernel
theorem head_w0 : wordsL (vData ++ [32] ++ w5 ++ [32, 47, 32] ++ w6) = [vData, w5, [47], w6] := by decide +kernel
theorem head_w1 : wordsL vStep = [vStep] := by decide +kernel
theorem head_w2 : wordsL vAudit = [vAudit] := by decide +kernel
theorem head_w3 : wordsL (vCrash ++ [32, 48]) = [vCrash, [48]] := by decide +kernel
theorem head_w4 : wordsL vBytes = [vBytes] := by decide +kernel
theorem num_w5 : numsW [w5] = some [65536] := by decide +kernel
theorem num_w6 : numsW [w6] = some [131072] := by decide +kernel
theorem num_zero : numsW [[48]] = some [0] := by decide +kernel
theorem head_more : lineD DSt.start vData [w5, [47], w6] = (okT, headS 0) := by
  unfold lineD
  rw [if_pos rfl]
  unfold moreD
  rw [show slashAt [w5, [47], w6] = some 1 from by decide +kernel]
  simp only [List.take_succ_cons, List.take_zero, List.drop_succ_cons, List.drop_zero]
  rw [num_w5, num_w6]
  rfl
theorem verb_step (d : DSt) : lineD d vStep [] = stepD d := by
  unfold lineD
  rw [if_neg (by decide)]
  show verbD d vStep [] = _
  unfold verbD
  rw [if_neg (by decide), if_pos (by decide)]
theorem verb_audit (d : DSt) : lineD d vAudit [] = (auditD d, d) := by
  unfold lineD
  rw [if_neg (by decide)]
  show verbD d vAudit [] = _
  unfold verbD
  rw [if_neg (by decide), if_neg (by decide), if_neg (by decide), if_neg (by decide), if_neg (by decide), if_pos (by decide)]
theorem verb_bytes (d : DSt) : lineD d vBytes [] = (Lib.itoa (d.by_.length : Nat), d) := by
  unfold lineD
  rw [if_neg (by decide)]
  show verbD d vBytes [] = _
  unfold verbD
  rw [if_neg (by decide), if_neg (by decide), if_neg (by decide), if_neg (by decide), if_neg (by decide), if_neg (by decide), if_neg (by decide), if_pos (by decide)]
theorem verb_crash0 (d : DSt) : lineD d vCrash [[48]] = (okT, crashD d 0) := by
  unfold lineD
  rw [if_neg (by decide), num_zero]
  show verbD d vCrash [0] = _
  unfold verbD
  rw [if_neg (by decide), if_neg (by decide), if_neg (by decide), if_pos (by decide)]
  rfl
theorem goL_of {O : List UInt8} {d d' : DSt} {l v an : List UInt8} {w : List (List UInt8)} (hw : wordsL l = v :: w) (hv : v.head? ≠ some 35) (h : lineD d v w = (an, d')) : goL (O, d) l = (O ++ (an ++ [10]), d') := by
  unfold goL
  rw [hw]
  simp only
  rw [if_neg hv, h]
theorem head_run : runD headT = okT ++ [10] ++ ((lineT (headF 0)).dropLast ++ [10]) ++ ((lineT (headF 1)).dropLast ++ [10]) ++ (Lib.itoa (2 : Nat) ++ [10]) ++ (okT ++ [10]) ++ (Lib.itoa (0 : Nat) ++ [10]) ++ (Lib.itoa (0 : Nat) ++ [10]) := by
  unfold runD
  rw [head_lines, if_neg (by decide)]
  simp only [List.foldl_cons, List.foldl_nil]
  have s0 : lineD (headS 0) vStep [] = ((lineT (headF 0)).dropLast, headS 1) := (verb_step _).trans (head_step (by omega))
  have s1 : lineD (headS 1) vStep [] = ((lineT (headF 1)).dropLast, headS 2) := (verb_step _).trans (head_step (by omega))
  have a2 : lineD (headS 2) vAudit [] = (Lib.itoa (2 : Nat), headS 2) := (verb_audit _).trans (by rw [head_audit (by omega)])
  have a0 : lineD (headS 0) vAudit [] = (Lib.itoa (0 : Nat), headS 0) := (verb_audit _).trans (by rw [head_audit (by omega)])
  have k2 : lineD (headS 2) vCrash [[48]] = (okT, headS 0) := (verb_crash0 _).trans (by rw [head_crash])
  have b0 : lineD (headS 0) vBytes [] = (Lib.itoa (0 : Nat), headS 0) := verb_bytes _
  rw [goL_of head_w0 (by decide) head_more, goL_of head_w1 (by decide) s0, goL_of head_w1 (by decide) s1, goL_of head_w2 (by decide) a2, goL_of head_w3 (by decide) k2, goL_of head_w4 (by decide) b0, goL_of head_w2 (by decide) a0]
  rfl
theorem itoa2 : Lib.itoa (2 : Nat) = [50] := by rw [Lib.itoa_nonneg, Lib.decDigits_one (by omega)]; rfl
theorem itoa0 : Lib.itoa (0 : Nat) = [48] := by rw [Lib.itoa_nonneg, Lib.decDigits_one (by omega)]; rfl
theorem head_pieces : pieces 10 (runD headT) = [okT, (lineT (headF 0)).dropLast, (lineT (headF 1)).dropLast, [50], okT, [48], [48], []] := by
  have h0 := line_no10 (headF 0)
  have h1 := line_no10 (headF 1)
  rw [head_run, itoa2, itoa0]
  simp only [List.append_assoc, List.cons_append, List.nil_append]
  rw [pieces_sep _ okT_no10, pieces_sep _ h0, pieces_sep _ h1]
  rfl
theorem dec_6554 : Lib.decDigits 6554 = [54, 53, 53, 52] := by
  have h1 : Lib.decDigits 655 = [54, 53, 53] := by
    rw [Lib.decDigits, dif_neg (by omega), show 655 / 10 = 65 from rfl, Lib.decDigits_two (by omega) (by omega)]
    rfl
  rw [Lib.decDigits, dif_neg (by omega), show 6554 / 10 = 655 from rfl, h1]
  rfl
theorem rate_0 : ratI headC 0 = 6554 := by decide +kernel
theorem rate_1 : ratI headC 1 = 6554 := by decide +kernel
theorem head_front (m : Nat) (hm : m ≤ 1) : ∃ t, (lineT (headF m)).dropLast = [UInt8.ofNat (48 + m), 32, 54, 53, 53, 52, 32] ++ t := by
  have hs : (headF m).step = m := by unfold headF recC recB; rfl
  have hr : (headF m).rate = 6554 := by
    have h0 : (headF m).rate = ratI headC m := by unfold headF recC recB; rfl
    have : m = 0 ∨ m = 1 := by omega
    rw [h0]
    rcases this with rfl | rfl
    · exact rate_0
    · exact rate_1
  generalize headF m = r at hs hr ⊢
  unfold lineT
  rw [List.dropLast_concat]
  unfold wordsR
  rw [hs, hr, show (6554 : Int).toNat = 6554 from rfl, dec_6554, Int.toNat_natCast, Lib.decDigits_one (by omega), List.intercalate_cons_cons, List.intercalate_cons_cons]
  generalize [32].intercalate (Lib.decDigits r.root.toNat :: Lib.decDigits r.chain.toNat :: r.batch.map fun n => Lib.decDigits n.toNat) = z
  exact ⟨z, by simp only [List.cons_append, List.nil_append]⟩
end Go.Proofs.YtaeeonnjkplohaaGreatDoor
