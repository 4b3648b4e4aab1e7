/- The plain law of a course gone on with: the lines of its records, cut and repaired. -/
import Derived.Test.YtgodgedhddngeaaGreatDoorStoM
import Derived.Test.YtgodgedhddngeaaGreatDoorAudS
import Derived.Lib.ItoaLen
namespace Go.Proofs.YtgodgedhddngeaaGreatDoor
open Go.RowKit Go.Sort Pl
def GoodTo (F : Nat → Rec) (m : Nat) : Prop := ∀ j, j < m → goodR (F j) = true ∧ (F j).step = (j : Int)
theorem rootS_lt (s : List Int × List Int) : 0 ≤ rootS s ∧ rootS s < 2305843009213693951 := by
 unfold rootS rootO
 split
 ·unfold rootI pairI
  exact ⟨ofI_lo _ _, ofI_hi _ _⟩
 ·exact ⟨by omega, by omega⟩
theorem recC_good {c : Cfg} {ds : Data} (hf : Fine c ds) {m : Nat} (hm : (m : Int) ≤ c.steps) : GoodTo (recC c ds) m := fun j hj => by
 refine ⟨goodR_iff.2 ⟨?_, ?_, ?_, ?_, ?_, ?_⟩, rfl⟩
 ·have := hf.ok.st
  show (0 : Int) ≤ (j : Int) ∧ (j : Int) ≤ 99
  omega
 ·have hr := rateP_le (decay := c.decay) hf.ok.ra.1 hf.ok.ra.2 hf.ok.st.1 hf.ok.st.2 (step := j) (by omega) (by omega)
  have := hf.ok.ra
  exact ⟨hr.1, Int.le_trans hr.2 this.2⟩
 ·have := rootS_lt (states c ds (j + 1))
  exact this
 ·have h1 := ofI_lo 6 (chW (chainC c ds j) (recB c ds j))
  have h2 := ofI_hi 6 (chW (chainC c ds j) (recB c ds j))
  unfold pS
  exact ⟨h1, by show ofI 6 _ < _; omega⟩
 ·show ((batI c ds j).map _).length ≤ 8
  rw [List.length_map, batI_length]
  have := hf.ok.ba
  omega
 ·intro n hn
  obtain ⟨x, hx, rfl⟩ := List.mem_map.1 (show n ∈ (batI c ds j).map _ from hn)
  have := batI_lt c ds hf.d1 j x hx
  have := hf.d16
  show (0 : Int) ≤ (x : Int) ∧ (x : Int) ≤ 99
  omega
def numD (neg : Bool) (l : List UInt8) : Option Int := if l.length < 1 ∨ 10 < l.length ∨ (l.head? = some 48 ∧ (1 < l.length ∨ neg = true)) then none else if l.all isDig then some (if neg then -(numV l : Int) else numV l) else none
def negW (s : List UInt8) : Bool := s.head? == some 45
def bodyW (s : List UInt8) : List UInt8 := if negW s then s.tail else s
def numW (s : List UInt8) : Option Int := numD (negW s) (bodyW s)
def numsW : List (List UInt8) → Option (List Int)
 | [] => some []
 | w :: ws => match numW w, numsW ws with
  | some n, some ns => some (n :: ns)
  | _, _ => none
theorem numsW_snoc : ∀ (ws : List (List UInt8)) (x : List UInt8), numsW (ws ++ [x]) = match numsW ws, numW x with
  | some ns, some n => some (ns ++ [n])
  | _, _ => none
 | [], x => by
  show (match numW x, numsW [] with | some n, some ns => some (n :: ns) | _, _ => none) = _
  cases numW x <;> rfl
 | w :: ws, x => by
  have ih := numsW_snoc ws x
  show (match numW w, numsW (ws ++ [x]) with | some n, some ns => some (n :: ns) | _, _ => none) = (match (match numW w, numsW ws with | some n, some ns => some (n :: ns) | _, _ => none), numW x with | some ns, some n => some (ns ++ [n]) | _, _ => none)
  rw [ih]
  cases numW w <;> cases numsW ws <;> cases numW x <;> rfl
theorem numsW_none : ∀ {ws : List (List UInt8)} {x : List UInt8}, x ∈ ws → numW x = none → numsW ws = none
 | [], x, h, _ => by cases h
 | w :: ws, x, h, hx => by
  show (match numW w, numsW ws with | some n, some ns => some (n :: ns) | _, _ => none) = none
  rcases List.mem_cons.1 h with rfl | h
  ·rw [hx]
  ·rw [numsW_none h hx]
   cases numW w <;> rfl
theorem numsW_mem : ∀ {ws : List (List UInt8)} {ns : List Int}, numsW ws = some ns → ∀ n ∈ ns, ∃ w ∈ ws, numW w = some n
 | [], ns, h, n, hn => by
  injection h with h
  subst h
  cases hn
 | w :: ws, ns, h, n, hn => by
  unfold numsW at h
  split at h
  ·rename_i m ms h1 h2
   injection h with h
   subst h
   rcases List.mem_cons.1 hn with rfl | hn
   ·exact ⟨w, by simp, h1⟩
   ·obtain ⟨x, hx, e⟩ := numsW_mem h2 n hn
    exact ⟨x, by simp [hx], e⟩
  ·cases h
theorem numD_bd {neg : Bool} {l : List UInt8} {n : Int} (h : numD neg l = some n) : -10000000000 < n ∧ n < 10000000000 := by
 unfold numD at h
 split at h
 ·cases h
 ·rename_i hc
  split at h
  ·rename_i ha
   have hl : l.length ≤ 10 := Nat.le_of_not_lt fun e => hc (.inr (.inl e))
   have hv := numV_lt l ha
   have hp : 10 ^ l.length ≤ 10 ^ 10 := Nat.pow_le_pow_right (by omega) hl
   injection h with h
   subst h
   split <;> omega
  ·cases h
theorem numW_bd {s : List UInt8} {n : Int} (h : numW s = some n) : -10000000000 < n ∧ n < 10000000000 := numD_bd h
theorem numW_itoa (s : List UInt8) (ha : (bodyW s).all isDig = true) (h1 : 1 ≤ (bodyW s).length) (h10 : (bodyW s).length ≤ 10) :
  (Lib.itoa (if negW s then -(numV (bodyW s) : Int) else numV (bodyW s)) = s ↔ numW s = some (if negW s then -(numV (bodyW s) : Int) else numV (bodyW s))) := by
 have hne : bodyW s ≠ [] := by intro e; rw [e] at h1; simp at h1
 unfold numW numD
 cases hn : negW s
 ·have hb : bodyW s = s := by unfold bodyW; rw [hn]; rfl
  rw [hb] at ha h1 h10 hne ⊢
  simp only [Bool.false_eq_true, if_false, or_false]
  rw [Lib.itoa_nonneg]
  constructor
  ·intro e
   rw [if_neg, if_pos ha]
   rintro (h | h | ⟨h, h'⟩)
   ·omega
   ·omega
   ·rcases Nat.eq_zero_or_pos (numV s) with h0 | h0
    ·rw [h0, Lib.decDigits_one (by omega)] at e
     rw [← e] at h'
     simp at h'
    ·exact dec_head _ h0 (by rw [e]; exact h)
  ·intro e
   split at e
   ·cases e
   ·rename_i hc
    refine dec_of s hne ha ?_
    by_cases h2 : 1 < s.length
    ·exact .inr fun e2 => hc (.inr (.inr ⟨e2, h2⟩))
    ·exact .inl (by omega)
 ·have hb : bodyW s = s.tail := by unfold bodyW; rw [hn]; rfl
  have hs : s = 45 :: bodyW s := by
   rw [hb]
   unfold negW at hn
   cases s with
   | nil => simp at hn
   | cons a t =>
    simp only [List.head?_cons, beq_iff_eq, Option.some.injEq] at hn
    rw [hn]
    rfl
  obtain ⟨b, hbb⟩ : ∃ b, b = bodyW s := ⟨_, rfl⟩
  rw [← hbb] at ha h1 h10 hne hs ⊢
  simp only [if_true, or_true, and_true]
  rw [hs]
  rcases Nat.eq_zero_or_pos (numV b) with h0 | h0
  ·have hd : ¬ b.head? ≠ some 48 := fun hd => by
    have := dec_of b hne ha (.inr hd)
    rw [h0, Lib.decDigits_one (by omega)] at this
    rw [← this] at hd
    exact hd rfl
   constructor
   ·intro e
    rw [h0] at e
    exfalso
    have e2 := congrArg List.head? e
    rw [show Lib.itoa (-((0 : Nat) : Int)) = Lib.decDigits 0 from Lib.itoa_nonneg 0, Lib.decDigits_one (by omega)] at e2
    simp at e2
   ·intro e
    rw [if_pos (.inr (.inr (Decidable.not_not.1 hd)))] at e
    cases e
  ·rw [Lib.itoa_neg _ h0]
   constructor
   ·intro e
    injection e with _ e
    rw [if_neg, if_pos ha]
    rintro (h | h | h)
    ·omega
    ·omega
    ·exact dec_head _ h0 (by rw [e]; exact h)
   ·intro e
    split at e
    ·cases e
    ·rename_i hc
     rw [dec_of b hne ha (.inr fun e2 => hc (.inr (.inr e2)))]
theorem numW_bad {s : List UInt8} (h : (bodyW s).all isDig = false ∨ (bodyW s).length < 1 ∨ 10 < (bodyW s).length) : numW s = none := by
 unfold numW numD
 by_cases hc : (bodyW s).length < 1 ∨ 10 < (bodyW s).length ∨ ((bodyW s).head? = some 48 ∧ (1 < (bodyW s).length ∨ negW s = true))
 ·rw [if_pos hc]
 ·rw [if_neg hc]
  rcases h with h | h | h
  ·rw [if_neg (by rw [h]; simp)]
  ·exact absurd (.inl h) hc
  ·exact absurd (.inr (.inl h)) hc
def wordsL (l : List UInt8) : List (List UInt8) := (pieces 32 l).filter fun w => !w.isEmpty
def lastNil (p : List (List UInt8)) : Bool := p.getLast? == some []
def linesL (s : List UInt8) : List (List UInt8) := if lastNil (pieces 10 s) then (pieces 10 s).dropLast else pieces 10 s
theorem wordsL_ne {l w : List UInt8} (h : w ∈ wordsL l) : w ≠ [] := by
 unfold wordsL at h
 rw [List.mem_filter] at h
 intro e
 rw [e] at h
 simp at h
structure DSt where
 c : Cfg
 ds : Data
 by_ : List UInt8
 sy : Nat
def DSt.start : DSt := ⟨⟨1, 1, 1, 1, 1, 3, 6554, 0, 0, 0, 0⟩, [], [], 0⟩
def errT (e : Int) : List UInt8 := [101, 114, 114, 111, 114, 32] ++ Lib.itoa e
def okT : List UInt8 := [111, 107]
def confC (n : List Int) : Cfg := ⟨at0 n 0, at0 n 1, at0 n 2, max (at0 n 3) 0, at0 n 4, at0 n 5, at0 n 6, at0 n 7, at0 n 8, at0 n 9, at0 n 10⟩
def confD (d : DSt) (n : List Int) : List UInt8 × DSt := if (confC n).E = 0 then (okT, { d with c := confC n }) else (errT (confC n).E, d)
def slashAt (w : List (List UInt8)) : Option Nat := w.findIdx? (· == [47])
def moreD (d : DSt) (w : List (List UInt8)) : List UInt8 × DSt :=
 match slashAt w with
 | none => (errT 3, d)
 | some k => match numsW (w.take k), numsW (w.drop (k + 1)) with
  | some i, some o => if d.ds.length = 16 then (errT 2, d) else (okT, { d with ds := d.ds ++ [(i, o)] })
  | _, _ => (errT 3, d)
def DSt.k (d : DSt) : Nat := (beg d.by_).1.length
def stepD (d : DSt) : List UInt8 × DSt :=
 if crs d.c d.ds ≠ 0 then (errT (crs d.c d.ds), d)
 else if d.c.steps < (d.k : Int) + 1 then (errT 1, d)
 else if 4096 < d.by_.length + (lineT (recC d.c d.ds d.k)).length then (errT 6, d)
 else ((lineT (recC d.c d.ds d.k)).dropLast, { d with by_ := d.by_ ++ lineT (recC d.c d.ds d.k) })
def audN (n : Nat) (f g : Nat → Rec) : Nat := ((List.range n).find? fun j => !sameR (f j) (g j)).getD n
def auditD (d : DSt) : List UInt8 :=
 if crs d.c d.ds ≠ 0 then errT (crs d.c d.ds)
 else if d.c.steps < (d.k : Int) then errT 2
 else Lib.itoa (audN d.k (recAt (beg d.by_).1) (recC d.c d.ds) : Nat)
def lossW (c : Cfg) (wt : List Int) (p : List Int × List Int) : Int := lossP c.ch.toNat c.ci.toNat c.co.toNat (shapeP c.ci.toNat c.ch.toNat c.co.toNat wt).a1 (shapeP c.ci.toNat c.ch.toNat c.co.toNat wt).b1 (shapeP c.ci.toNat c.ch.toNat c.co.toNat wt).a2 (shapeP c.ci.toNat c.ch.toNat c.co.toNat wt).b2 p.1 p.2
def lossD (d : DSt) (i : Int) : List UInt8 :=
 if ¬ (0 ≤ i ∧ i < (d.ds.length : Int)) then errT 4
 else if crs d.c d.ds ≠ 0 then errT (crs d.c d.ds)
 else if d.c.steps < (d.k : Int) then errT 1
 else Lib.itoa (lossW d.c (states d.c d.ds d.k).1 (duoAt d.ds i.toNat))
def crashD (d : DSt) (n : Int) : DSt := { d with by_ := d.by_.take (crashN d.sy d.by_.length n), sy := crashN d.sy d.by_.length n }
def repairD (d : DSt) : List UInt8 × DSt := (Lib.itoa ((d.by_.length : Int) - ((beg d.by_).2 : Nat)), { d with by_ := d.by_.take (beg d.by_).2, sy := (beg d.by_).2 })
def vData : List UInt8 := [100, 97, 116, 97]
def vConfig : List UInt8 := [99, 111, 110, 102, 105, 103]
def vStep : List UInt8 := [115, 116, 101, 112]
def vSync : List UInt8 := [115, 121, 110, 99]
def vCrash : List UInt8 := [99, 114, 97, 115, 104]
def vRepair : List UInt8 := [114, 101, 112, 97, 105, 114]
def vAudit : List UInt8 := [97, 117, 100, 105, 116]
def vLoss : List UInt8 := [108, 111, 115, 115]
def vBytes : List UInt8 := [98, 121, 116, 101, 115]
def verbD (d : DSt) (v : List UInt8) (n : List Int) : List UInt8 × DSt :=
 if v = vConfig ∧ n.length = 11 then confD d n
 else if v = vStep ∧ n.length = 0 then stepD d
 else if v = vSync ∧ n.length = 0 then (okT, { d with sy := d.by_.length })
 else if v = vCrash ∧ n.length = 1 then (okT, crashD d (at0 n 0))
 else if v = vRepair ∧ n.length = 0 then repairD d
 else if v = vAudit ∧ n.length = 0 then (auditD d, d)
 else if v = vLoss ∧ n.length = 1 then (lossD d (at0 n 0), d)
 else if v = vBytes ∧ n.length = 0 then (Lib.itoa (d.by_.length : Nat), d)
 else (errT 3, d)
def lineD (d : DSt) (v : List UInt8) (w : List (List UInt8)) : List UInt8 × DSt :=
 if v = vData then moreD d w
 else match numsW w with
  | none => (errT 3, d)
  | some n => verbD d v n
def goL (x : List UInt8 × DSt) (l : List UInt8) : List UInt8 × DSt :=
 match wordsL l with
 | [] => x
 | v :: w => if v.head? = some 35 then x else (x.1 ++ ((lineD x.2 v w).1 ++ [10]), (lineD x.2 v w).2)
def tooT : List UInt8 := [101, 114, 114, 111, 114, 32, 50, 10]
def runD (s : List UInt8) : List UInt8 := if 65536 < s.length ∨ 200 < (linesL s).length then tooT else ((linesL s).foldl goL ([], DSt.start)).1
structure DSt.Ok (d : DSt) : Prop where
 c : d.c.E = 0
 s0 : 0 ≤ d.c.seed
 s1 : d.c.seed < 10000000000
 n : d.ds.length ≤ 16
 b : d.by_.length ≤ 4096
 sy : d.sy ≤ d.by_.length
theorem DSt.Ok.start : DSt.start.Ok := ⟨by decide, by decide, by decide, Nat.zero_le _, Nat.zero_le _, Nat.le_refl _⟩
theorem DSt.Ok.k {d : DSt} (h : d.Ok) : d.k ≤ 4096 := Nat.le_trans (beg_len _) h.b
theorem DSt.Ok.end_ {d : DSt} : (beg d.by_).2 ≤ d.by_.length := beg_le _
theorem at0_bd {n : List Int} (h : ∀ x ∈ n, -10000000000 < x ∧ x < 10000000000) (j : Nat) : -10000000000 < at0 n j ∧ at0 n j < 10000000000 := by
 unfold at0
 rcases Nat.lt_or_ge j n.length with hj | hj
 ·rw [List.getElem?_eq_getElem hj]
  exact h _ (List.getElem_mem _)
 ·rw [List.getElem?_eq_none hj]
  show (-10000000000 : Int) < 0 ∧ (0 : Int) < 10000000000
  omega
theorem verbD_ok {d : DSt} (h : d.Ok) (v : List UInt8) {n : List Int} (hn : ∀ x ∈ n, -10000000000 < x ∧ x < 10000000000) : (verbD d v n).2.Ok := by
 obtain ⟨h1, h2, h3, h4, h5, h6⟩ := h
 unfold verbD
 split
 ·unfold confD
  split
  ·rename_i hE
   have := at0_bd hn 3
   exact ⟨hE, by show 0 ≤ max (at0 n 3) 0; omega, by show max (at0 n 3) 0 < _; omega, h4, h5, h6⟩
  ·exact ⟨h1, h2, h3, h4, h5, h6⟩
 split
 ·unfold stepD
  split
  ·exact ⟨h1, h2, h3, h4, h5, h6⟩
  split
  ·exact ⟨h1, h2, h3, h4, h5, h6⟩
  split
  ·exact ⟨h1, h2, h3, h4, h5, h6⟩
  ·exact ⟨h1, h2, h3, h4, by show (d.by_ ++ _).length ≤ 4096; rw [List.length_append]; omega, by show d.sy ≤ (d.by_ ++ _).length; rw [List.length_append]; omega⟩
 split
 ·exact ⟨h1, h2, h3, h4, h5, Nat.le_refl _⟩
 split
 ·obtain ⟨c1, c2⟩ := crashN_le h6 (at0 n 0)
  exact ⟨h1, h2, h3, h4, by show (d.by_.take _).length ≤ 4096; rw [List.length_take]; omega, by show crashN _ _ _ ≤ (d.by_.take _).length; rw [List.length_take]; omega⟩
 split
 ·have he := beg_le d.by_
  exact ⟨h1, h2, h3, h4, by show (d.by_.take _).length ≤ 4096; rw [List.length_take]; omega, by show (beg d.by_).2 ≤ (d.by_.take _).length; rw [List.length_take]; omega⟩
 split
 ·exact ⟨h1, h2, h3, h4, h5, h6⟩
 split
 ·exact ⟨h1, h2, h3, h4, h5, h6⟩
 split
 ·exact ⟨h1, h2, h3, h4, h5, h6⟩
 ·exact ⟨h1, h2, h3, h4, h5, h6⟩
theorem moreD_ok {d : DSt} (h : d.Ok) (w : List (List UInt8)) : (moreD d w).2.Ok := by
 obtain ⟨h1, h2, h3, h4, h5, h6⟩ := h
 unfold moreD
 split
 ·exact ⟨h1, h2, h3, h4, h5, h6⟩
 ·split
  ·split
   ·exact ⟨h1, h2, h3, h4, h5, h6⟩
   ·exact ⟨h1, h2, h3, by show (d.ds ++ [_]).length ≤ 16; rw [List.length_append, List.length_singleton]; omega, h5, h6⟩
  ·exact ⟨h1, h2, h3, h4, h5, h6⟩
theorem lineD_ok {d : DSt} (h : d.Ok) (v : List UInt8) (w : List (List UInt8)) : (lineD d v w).2.Ok := by
 unfold lineD
 split
 ·exact moreD_ok h w
 ·split
  ·exact h
  ·rename_i n hn
   exact verbD_ok h v fun x hx => by
    obtain ⟨y, _, hy⟩ := numsW_mem hn x hx
    exact numW_bd hy
theorem goL_ok {x : List UInt8 × DSt} (h : x.2.Ok) (l : List UInt8) : (goL x l).2.Ok := by
 unfold goL
 split
 ·exact h
 ·split
  ·exact h
  ·exact lineD_ok h _ _
theorem audN_le (n : Nat) (f g : Nat → Rec) : audN n f g ≤ n := by
 unfold audN
 cases h : (List.range n).find? fun j => !sameR (f j) (g j) with
 | none => exact Nat.le_refl _
 | some k =>
  have := List.mem_range.1 (List.mem_of_find?_eq_some h)
  exact Nat.le_of_lt this
theorem firstBad_aud {n : Nat} {f g : Nat → Rec} {k : Nat} (h : FirstBad n f g k) : k = audN n f g := by
 obtain ⟨h1, h2, h3⟩ := h
 unfold audN
 cases hf : (List.range n).find? fun j => !sameR (f j) (g j) with
 | none =>
  rw [List.find?_eq_none] at hf
  show k = n
  rcases Nat.lt_or_ge k n with hk | hk
  ·have := hf k (List.mem_range.2 hk)
   rw [h3 hk] at this
   simp at this
  ·omega
 | some j =>
  have hj := List.mem_range.1 (List.mem_of_find?_eq_some hf)
  have hb := List.find?_some hf
  show k = j
  rcases Nat.lt_trichotomy k j with hh | hh | hh
  ·have hno := (List.find?_eq_some_iff_append.1 hf).2
   obtain ⟨p1, p2, e, hno⟩ := hno
   exfalso
   have hlen : p1.length = j := by
    have h5 : (List.range n)[p1.length]? = some j := by rw [e]; simp
    rw [List.getElem?_eq_some_iff] at h5
    obtain ⟨h6, h7⟩ := h5
    rw [List.getElem_range] at h7
    exact h7
   have hmem : k ∈ p1 := by
    have h5 : (List.range n)[k]? = some k := List.getElem?_range (by omega)
    rw [e, List.getElem?_append_left (by omega)] at h5
    exact List.mem_of_getElem? h5
   have := hno k hmem
   rw [h3 (by omega)] at this
   simp at this
  ·exact hh
  ·rw [h2 j hh] at hb
   simp at hb
theorem errT_len {e : Int} (h0 : -9223372036854775808 ≤ e) (h1 : e ≤ 9223372036854775807) : (errT e).length ≤ 27 := by
 unfold errT
 rw [List.length_append]
 have := Lib.itoa_length_le e h0 h1
 show 6 + _ ≤ 27
 omega
end Go.Proofs.YtgodgedhddngeaaGreatDoor
namespace Go.Proofs.YtgodgedhddngeaaGreatDoor
open Go.RowKit Pl
structure Kp (B : Nat) (T : TypeId → Bool) (w w' : World) : Prop where
 os : w'.os = w.os
 tape : w'.tape = w.tape
 output : w'.output = w.output
 size : w.heap.size ≤ w'.heap.size
 block : ∀ g, g < w.heap.size → (g < B ∨ ∀ cs t fr, w.heap[g]? = some (.cells cs t fr) → T t = false) → w'.heap[g]? = w.heap[g]?
section
variable {B : Nat} {T : TypeId → Bool} {a w w' : World}
theorem Kp.refl (B : Nat) (T : TypeId → Bool) (w : World) : Kp B T w w := ⟨rfl, rfl, rfl, Nat.le_refl _, fun _ _ _ => rfl⟩
theorem Kp.trans (h : Kp B T a w) (h' : Kp B T w w') : Kp B T a w' :=
 ⟨h'.os.trans h.os, h'.tape.trans h.tape, h'.output.trans h.output, Nat.le_trans h.size h'.size, fun g hg hc => by
  have e := h.block g hg hc
  refine (h'.block g (Nat.lt_of_lt_of_le hg h.size) ?_).trans e
  rcases hc with hc | hc
  ·exact .inl hc
  ·exact .inr fun cs t fr he => hc cs t fr (by rw [← e]; exact he)⟩
theorem Kp.of_below (h : Below w.heap.size w w') : Kp B T w w' := ⟨h.os, h.tape, h.output, h.size, fun g hg _ => h.block g hg⟩
theorem Kp.low (h : Kp B T w w') (hB : B ≤ w.heap.size) : Below B w w' := ⟨h.os, h.tape, h.output, h.size, fun g hg => h.block g (by omega) (.inl hg)⟩
theorem Kp.of_but {q : Nat} {t : TypeId} {cs : Array Value} (hb : But q w w') (hq : Blk w q t cs) (ht : T t = true) (hB : B ≤ q) : Kp B T w w' :=
 ⟨hb.os, hb.tape, hb.output, hb.size, fun g hg hc => hb.block g hg fun e => by
  subst e
  rcases hc with hc | hc
  ·omega
  ·have := hc _ _ _ hq
   rw [ht] at this
   cases this⟩
theorem Kp.put {q i : Nat} {t : TypeId} {cs : Array Value} {u : Value} (hq : Blk w q t cs) (ht : T t = true) (hB : B ≤ q) : Kp B T w (w.setCell ⟨q, i, none⟩ u) := .of_but ((But.refl q w).put i u) hq ht hB
theorem Kp.of_grown {row : Option Nat} (hg : w.grownBy w' row) (hr : ∀ g, row = some g → B ≤ g ∧ ∃ cs t fr, w.heap[g]? = some (.cells cs t fr) ∧ T t = true) : Kp B T w w' :=
 ⟨hg.os, hg.tape, hg.output, hg.size, fun g hg' hc => hg.block g hg' fun e => by
  obtain ⟨h1, cs, t, fr, h2, h3⟩ := hr g e.symm
  rcases hc with hc | hc
  ·omega
  ·have := hc _ _ _ h2
   rw [h3] at this
   cases this⟩
theorem Kp.drew (h : Kp B T a w) : Kp B T a w.drew := ⟨h.os, h.tape, h.output, h.size, h.block⟩
theorem Kp.blk {q : Nat} {t : TypeId} {cs : Array Value} (h : Kp B T w w') (hq : Blk w q t cs) (ht : T t = false) : Blk w' q t cs :=
 (h.block q hq.lt (.inr fun cs' t' fr' e => by
  rw [hq] at e
  injection e with e
  injection e with _ e _
  rw [← e]
  exact ht)).trans hq
theorem Kp.own {e : TypeId} {sz n base : Nat} {v : Value} {xs : List Value} (h : Kp B T w w') (ho : w.ownsRow base e sz v n xs) (ht : T e = false) : w'.ownsRow base e sz v n xs :=
 own_keep ho fun k hk => by
  rcases ho.2 with ⟨hv, _⟩ | ⟨g, cap, cur, hv, hb, hg, _⟩
  ·rw [hv] at hk
   cases hk
  ·rw [hv] at hk
   have hk : some g = some k := hk
   injection hk with hk
   subst hk
   refine h.block g (Array.getElem?_eq_some_iff.1 hg).1 (.inr fun cs' t' fr' e => ?_)
   rw [hg] at e
   injection e with e
   injection e with _ e _
   rw [← e]
   exact ht
end
def ListD (w : World) (o : Option Nat) (v : Value) (xs : List Int) : Prop := w.ownsRow 0 3 1 v xs.length (xs.map (.int .i64)) ∧ ∀ k, v.ownBlock = some k → o ≠ some k
section
variable {w w' : World} {o : Option Nat} {v : Value} {xs : List Int}
theorem ListD.below (h : ListD w o v xs) (hb : Below w.heap.size w w') : ListD w' o v xs := ⟨own_below h.1 hb, h.2⟩
theorem ListD.turn {g : Nat} (h : ListD w o v xs) (hg : w.grownBy w' o) (hgg : o = some g ∨ w.heap.size ≤ g) : ListD w' (some g) v xs := by
 have hlt : ∀ k, v.ownBlock = some k → k < w.heap.size := fun k hk => (h.1.lt k hk).2
 refine ⟨own_keep h.1 fun k hk => hg.block k (hlt k hk) (fun e => h.2 k hk e.symm), fun k hk e => ?_⟩
 injection e with e
 subst e
 rcases hgg with hgg | hgg
 ·exact h.2 _ hk hgg
 ·have := hlt _ hk
  omega
theorem ListD.kp {B : Nat} {T : TypeId → Bool} (h : ListD w o v xs) (hk : Kp B T w w') (ht : T 3 = false) : ListD w' o v xs := ⟨hk.own h.1 ht, h.2⟩
theorem ListD.slice (h : ListD w o v xs) : ∃ A c, v = .slice A xs.length c ∧ Ints .i64 w A xs.length xs ∧ xs.length ≤ c ∧ c ≤ maxLen := by
 rcases h.1.2 with ⟨hv, h0⟩ | ⟨g, cap, cur, hv, hb, hlt, h1, h2, _⟩
 ·refine ⟨none, 0, by rw [hv, h0], ?_, by omega, by unfold maxLen; omega⟩
  have h' := h.1
  rw [hv] at h'
  rw [h0] at h' ⊢
  exact Ints.of_own h' (by rw [h0])
 ·have h' := h.1
  rw [hv] at h'
  exact ⟨_, cap, hv, Ints.of_own h' rfl, h1, h2⟩
end
def ExK (w : World) (o : Option Nat) (cs : List Value) (s : List Int × List Int) : Prop := ∃ a b, cs = [a, b] ∧ ListD w o a s.1 ∧ ListD w o b s.2
theorem keeps_ex : Keeps ExK :=
 ⟨fun h hb => by obtain ⟨a, b, e, h1, h2⟩ := h; exact ⟨a, b, e, h1.below hb, h2.below hb⟩,
  fun h hg hgg => by obtain ⟨a, b, e, h1, h2⟩ := h; exact ⟨a, b, e, h1.turn hg hgg, h2.turn hg hgg⟩⟩
def DataH (w : World) (B : Nat) (v : Value) (ds : Data) : Prop := Held ExK 73 2 B (duoAt ds) ds.length v w
section
variable {w w' : World} {B : Nat} {v : Value} {ds : Data}
theorem DataH.below (h : DataH w B v ds) (hb : Below w.heap.size w w') : DataH w' B v ds := Held.below keeps_ex h hb
theorem DataH.kp {B' : Nat} {T : TypeId → Bool} (h : DataH w B v ds) (hk : Kp B' T w w') (h1 : T 3 = false) (h2 : T 73 = false) : DataH w' B v ds := by
 obtain ⟨vs, ho, hp⟩ := h
 refine ⟨vs, hk.own ho h2, fun j hj => ?_⟩
 obtain ⟨a, b, e, ha, hb⟩ := hp j hj
 exact ⟨a, b, e, ha.kp hk h1, hb.kp hk h1⟩
theorem DataH.nil (w : World) (B : Nat) : DataH w B (.slice none 0 0) [] := Held.zero
theorem DataH.duos (h : DataH w B v ds) : ∃ D c, v = .slice D ds.length c ∧ Duos w D ds.length ds ∧ ds.length ≤ c ∧ c ≤ maxLen := by
 obtain ⟨D, c, hv, h1, h2⟩ := Held.slice h
 refine ⟨D, c, hv, ⟨rfl, fun hn => ?_⟩, h1, h2⟩
 obtain ⟨g, c', hv', hB, hg, _⟩ := Held.form h hn
 rw [hv] at hv'
 injection hv' with e1 _ e3
 subst e1; subst e3; subst hv
 refine ⟨g, 0, rfl, hg, fun j hj => ?_⟩
 obtain ⟨cs, ⟨a, b, rfl, ha, hb⟩, hc, _, _⟩ := Held.at h hj
 obtain ⟨A1, c1, rfl, i1, l1, m1⟩ := ha.slice
 obtain ⟨A2, c2, rfl, i2, l2, m2⟩ := hb.slice
 rw [Nat.zero_add]
 exact ⟨A1, _, c1, A2, _, c2, hc 0 (by omega), hc 1 (by omega), i1, i2, l1, m1, l2, m2⟩
end
end Go.Proofs.YtgodgedhddngeaaGreatDoor
