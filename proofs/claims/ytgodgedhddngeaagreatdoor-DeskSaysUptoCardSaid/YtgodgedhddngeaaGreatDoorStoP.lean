/- The plain law of the store: lines told and read, beginnings of bytes. No program in sight. -/
import Derived.Test.YtgodgedhddngeaaGreatDoorFixW
import Derived.Lib.ItoaNum
import Derived.Lib.SplitLaws
namespace Go.Proofs.YtgodgedhddngeaaGreatDoor
open Go.RowKit Pl Go.Lib
def pieces (c : UInt8) : List UInt8 → List (List UInt8)
 | [] => [[]]
 | b :: l => if b = c then [] :: pieces c l else ((b :: (pieces c l).headD []) :: (pieces c l).tail)
theorem pieces_ne (c : UInt8) (l : List UInt8) : pieces c l ≠ [] := by
 cases l with
 | nil => simp [pieces]
 | cons b l => unfold pieces; split <;> simp
theorem pieces_cons (c : UInt8) (l : List UInt8) : ∃ p ps, pieces c l = p :: ps := by
 cases h : pieces c l with
 | nil => exact absurd h (pieces_ne c l)
 | cons p ps => exact ⟨p, ps, rfl⟩
theorem pieces_snoc (c b : UInt8) : ∀ l : List UInt8, pieces c (l ++ [b]) = if b = c then pieces c l ++ [[]] else (pieces c l).dropLast ++ [(pieces c l).getLast (pieces_ne c l) ++ [b]]
 | [] => by
  by_cases h : b = c
  ·simp [pieces, h]
  ·simp [pieces, h]
 | x :: l => by
  have ih := pieces_snoc c b l
  obtain ⟨p, ps, hp⟩ := pieces_cons c l
  by_cases h : b = c
  ·rw [if_pos h] at ih ⊢
   by_cases hx : x = c
   ·simp [pieces, hx, ih]
   ·simp [pieces, hx, ih, hp]
  ·rw [if_neg h] at ih ⊢
   by_cases hx : x = c
   ·have e1 : pieces c (x :: l) = [] :: pieces c l := by simp [pieces, hx]
    have e2 : pieces c (x :: l ++ [b]) = [] :: pieces c (l ++ [b]) := by simp [pieces, hx]
    simp only [e1, e2, ih, hp]
    simp [List.dropLast, List.getLast_cons]
   ·have e1 : pieces c (x :: l) = (x :: p) :: ps := by simp [pieces, hx, hp]
    have e2 : pieces c (x :: l ++ [b]) = ((x :: (pieces c (l ++ [b])).headD []) :: (pieces c (l ++ [b])).tail) := by simp [pieces, hx]
    simp only [e1, e2, ih, hp]
    cases ps with
    | nil => simp
    | cons q qs => simp [List.dropLast, List.getLast_cons]
theorem pieces_join (c : UInt8) : ∀ l : List UInt8, [c].intercalate (pieces c l) = l
 | [] => by simp [pieces, List.intercalate]
 | b :: l => by
  have ih := pieces_join c l
  obtain ⟨p, ps, hp⟩ := pieces_cons c l
  rw [hp] at ih
  by_cases h : b = c
  ·have e : pieces c (b :: l) = [] :: p :: ps := by simp [pieces, h, hp]
   rw [e]
   subst h
   conv => rhs; rw [← ih]
   simp [List.intercalate]
  ·have e : pieces c (b :: l) = (b :: p) :: ps := by simp [pieces, h, hp]
   rw [e]
   conv => rhs; rw [← ih]
   cases ps with
   | nil => simp [List.intercalate]
   | cons q qs => simp [List.intercalate]
theorem pieces_plain {c : UInt8} : ∀ {p : List UInt8}, c ∉ p → pieces c p = [p]
 | [], _ => rfl
 | b :: p, h => by
  have h1 : b ≠ c := fun e => h (by simp [e])
  have h2 : c ∉ p := fun e => h (by simp [e])
  simp [pieces, h1, pieces_plain h2]
theorem pieces_sep {c : UInt8} : ∀ {p : List UInt8} (l : List UInt8), c ∉ p → pieces c (p ++ c :: l) = p :: pieces c l
 | [], l, _ => by simp [pieces]
 | b :: p, l, h => by
  have h1 : b ≠ c := fun e => h (by simp [e])
  have h2 : c ∉ p := fun e => h (by simp [e])
  simp [pieces, h1, pieces_sep l h2]
theorem pieces_of_join {c : UInt8} : ∀ (w : List (List UInt8)), w ≠ [] → (∀ p ∈ w, c ∉ p) → pieces c ([c].intercalate w) = w
 | [], h, _ => absurd rfl h
 | [p], _, h => by
  have := h p (by simp)
  simp [List.intercalate, pieces_plain this]
 | p :: q :: r, _, h => by
  have ih := pieces_of_join (c := c) (q :: r) (by simp) (fun x hx => h x (by simp at hx ⊢; right; exact hx))
  have e : [c].intercalate (p :: q :: r) = p ++ c :: [c].intercalate (q :: r) := by simp [List.intercalate]
  rw [e, pieces_sep _ (h p (by simp)), ih]
theorem Pl_index_one (c : UInt8) : ∀ l : List UInt8, index l [c] = match l.findIdx? (· == c) with | some i => (i : Int) | none => -1
 | [] => rfl
 | b :: l => by
  have ih := Pl_index_one c l
  unfold index
  rw [List.findIdx?_cons]
  by_cases h : b = c
  ·subst h; simp [List.isPrefixOf]
  ·have h2 : ([c].isPrefixOf (b :: l)) = false := by simp [List.isPrefixOf, Ne.symm h]
   have h3 : (b == c) = false := by simpa using h
   rw [h2, h3, ih]
   cases hf : l.findIdx? (· == c) with
   | none => simp
   | some i =>
    simp only [Option.map_some]
    rw [if_neg (by simp), if_neg (by simp)]
    simp
theorem split_pieces (c : UInt8) : ∀ (k : Nat) (l : List UInt8), l.count c = k → splitK [c] 0 k l = pieces c l
 | 0, l, h => by
  rw [pieces_plain (List.count_eq_zero.1 h)]
  rfl
 | k + 1, l, h => by
  have hm : c ∈ l := List.count_pos_iff.1 (by omega)
  obtain ⟨i, hi⟩ : ∃ i, l.findIdx? (· == c) = some i := by
   cases hf : l.findIdx? (· == c) with
   | some i => exact ⟨i, rfl⟩
   | none =>
    rw [List.findIdx?_eq_none_iff] at hf
    have := hf c hm
    simp at this
  have hx := Pl_index_one c l
  rw [hi] at hx
  simp only at hx
  rw [List.findIdx?_eq_some_iff_getElem] at hi
  obtain ⟨hlt, h1, h2⟩ := hi
  have e : l = l.take i ++ c :: l.drop (i + 1) := by
   have h3 : l[i] = c := by simpa using h1
   conv => lhs; rw [← List.take_append_drop i l]
   rw [List.drop_eq_getElem_cons hlt, h3]
  have hn : c ∉ l.take i := fun hc => by
   obtain ⟨j, hj, e⟩ := List.mem_iff_getElem.1 hc
   rw [List.length_take] at hj
   have := h2 j (by omega)
   rw [List.getElem_take] at e
   simp [e] at this
  have hc : (l.drop (i + 1)).count c = k := by
   have h4 := h
   rw [e, List.count_append, List.count_eq_zero.2 hn, List.count_cons_self] at h4
   omega
  unfold splitK
  rw [if_neg (by rw [hx]; simp), hx]
  have ih := split_pieces c k (l.drop (i + 1)) hc
  conv => rhs; rw [e, pieces_sep _ hn]
  simp only [Int.toNat_natCast, Nat.add_zero, List.length_singleton]
  rw [ih]
def isDig (b : UInt8) : Bool := decide (48 ≤ b.toNat) && decide (b.toNat ≤ 57)
def numV (l : List UInt8) : Nat := l.foldl (fun n b => 10 * n + (b.toNat - 48)) 0
def numO (l : List UInt8) : Option Nat := if l.length < 1 ∨ 19 < l.length ∨ (l.head? = some 48 ∧ 1 < l.length) then none else if l.all isDig then some (numV l) else none
theorem numV_snoc (l : List UInt8) (b : UInt8) : numV (l ++ [b]) = 10 * numV l + (b.toNat - 48) := by
 unfold numV
 rw [List.foldl_append]
 rfl
theorem digB_of (d : Nat) (h : d < 10) : (UInt8.ofNat (48 + d)).toNat = 48 + d := by
 simp; omega
theorem dig_eta {b : UInt8} (h : isDig b = true) : UInt8.ofNat (48 + (b.toNat - 48)) = b := by
 unfold isDig at h
 simp only [Bool.and_eq_true, decide_eq_true_eq] at h
 apply UInt8.toNat_inj.1
 rw [digB_of _ (by omega)]
 omega
theorem dec_dig : ∀ (n : Nat), ∀ b ∈ decDigits n, isDig b = true := by
 intro n
 induction n using Nat.strongRecOn with
 | _ n ih =>
  intro b hb
  by_cases h : n < 10
  ·rw [decDigits_one h, List.mem_singleton] at hb
   subst hb
   unfold isDig
   rw [digB_of _ h]
   simp
   omega
  ·rw [decDigits, dif_neg h, List.mem_append, List.mem_singleton] at hb
   rcases hb with hb | rfl
   ·exact ih (n / 10) (by omega) b hb
   ·unfold isDig
    rw [digB_of _ (by omega)]
    simp
    omega
theorem head_app {p q : List UInt8} (h : p ≠ []) : (p ++ q).head? = p.head? := by cases p <;> simp at h ⊢
theorem dec_val (n : Nat) : numV (decDigits n) = n := by
 induction n using Nat.strongRecOn with
 | _ n ih =>
  by_cases h : n < 10
  ·rw [decDigits_one h]
   show 10 * 0 + _ = n
   rw [digB_of _ h]
   omega
  ·rw [decDigits, dif_neg h, numV_snoc, ih (n / 10) (by omega), digB_of _ (by omega)]
   omega
theorem dec_ne (n : Nat) : decDigits n ≠ [] := by
 rw [decDigits]
 split <;> simp
theorem dec_head (n : Nat) (h : 0 < n) : (decDigits n).head? ≠ some 48 := by
 induction n using Nat.strongRecOn with
 | _ n ih =>
  by_cases h10 : n < 10
  ·rw [decDigits_one h10]
   intro e
   have e2 := congrArg (fun x => x.map UInt8.toNat) e
   simp only [List.head?_cons, Option.map_some, Option.some.injEq] at e2
   rw [digB_of _ h10] at e2
   simp at e2
   omega
  ·rw [decDigits, dif_neg h10, head_app (dec_ne _)]
   exact ih (n / 10) (by omega) (by omega)
theorem dec_len (n : Nat) (h : n < 10 ^ 19) : 1 ≤ (decDigits n).length ∧ (decDigits n).length ≤ 19 := by
 rw [decDigits_length]
 refine ⟨nDigits_pos n, ?_⟩
 have aux : ∀ k m : Nat, m < 10 ^ (k + 1) → nDigits m ≤ k + 1 := by
  intro k
  induction k with
  | zero => intro m hm; rw [nDigits_small (by simpa using hm)]; omega
  | succ k ih =>
   intro m hm
   by_cases h10 : m < 10
   ·rw [nDigits_small h10]; omega
   ·rw [nDigits_big h10]
    have := ih (m / 10) (by rw [Nat.pow_succ] at hm; omega)
    omega
 exact aux 18 n h
theorem numV_lt : ∀ (l : List UInt8), l.all isDig = true → numV l < 10 ^ l.length := by
 intro l
 induction hl : l.length generalizing l with
 | zero =>
  intro _
  rw [List.length_eq_zero_iff.1 hl]
  decide
 | succ k ih =>
  intro h
  obtain ⟨p, b, rfl⟩ : ∃ p b, l = p ++ [b] := ⟨l.dropLast, l.getLast (by intro e; simp [e] at hl), (List.dropLast_concat_getLast _).symm⟩
  rw [List.all_append] at h
  simp only [List.all_cons, List.all_nil, Bool.and_true, Bool.and_eq_true] at h
  rw [List.length_append, List.length_singleton] at hl
  have := ih p (by omega) h.1
  have h2 := h.2
  unfold isDig at h2
  simp only [Bool.and_eq_true, decide_eq_true_eq] at h2
  rw [numV_snoc, Nat.pow_succ]
  omega
theorem dec_of : ∀ (l : List UInt8), l ≠ [] → l.all isDig = true → (l.length = 1 ∨ l.head? ≠ some 48) → decDigits (numV l) = l := by
 intro l
 induction hl : l.length generalizing l with
 | zero => intro h; exact absurd (List.length_eq_zero_iff.1 hl) h
 | succ k ih =>
  intro hne h hh
  obtain ⟨p, b, rfl⟩ : ∃ p b, l = p ++ [b] := ⟨l.dropLast, l.getLast hne, (List.dropLast_concat_getLast _).symm⟩
  rw [List.all_append] at h
  simp only [List.all_cons, List.all_nil, Bool.and_true, Bool.and_eq_true] at h
  rw [List.length_append, List.length_singleton] at hl
  have hb := h.2
  have hb2 := hb
  unfold isDig at hb2
  simp only [Bool.and_eq_true, decide_eq_true_eq] at hb2
  rw [numV_snoc]
  by_cases hp : p = []
  ·subst hp
   show decDigits (10 * 0 + _) = _
   rw [show 10 * 0 + (b.toNat - 48) = b.toNat - 48 by omega, decDigits_one (by omega), dig_eta hb]
   rfl
  ·have hpl : 0 < p.length := List.length_pos_iff.2 hp
   rw [head_app hp] at hh
   have hh2 : p.head? ≠ some 48 := by
    rcases hh with hh | hh
    ·omega
    ·exact hh
   have ihp := ih p (by omega) hp h.1 (.inr hh2)
   have hpos : 0 < numV p := by
    rcases Nat.eq_zero_or_pos (numV p) with h0 | h0
    ·rw [h0] at ihp
     rw [← ihp] at hh2
     exact absurd (by rw [decDigits_one (by omega)]; rfl) hh2
    ·exact h0
   rw [decDigits, dif_neg (by omega), show (10 * numV p + (b.toNat - 48)) / 10 = numV p by omega, show (10 * numV p + (b.toNat - 48)) % 10 = b.toNat - 48 by omega, ihp, dig_eta hb]
theorem numO_some {l : List UInt8} {n : Nat} (h : numO l = some n) : l = decDigits n ∧ n < 10 ^ 19 := by
 unfold numO at h
 split at h
 ·cases h
 ·rename_i hc
  split at h
  ·rename_i ha
   injection h with h
   have hl1 : ¬ l.length < 1 := fun e => hc (.inl e)
   have hl2 : ¬ 19 < l.length := fun e => hc (.inr (.inl e))
   subst h
   refine ⟨(dec_of l (by rintro rfl; simp at hl1) ha ?_).symm, Nat.lt_of_lt_of_le (numV_lt l ha) (Nat.pow_le_pow_right (by omega) (by omega))⟩
   by_cases h1 : 1 < l.length
   ·exact .inr fun e => hc (.inr (.inr ⟨e, h1⟩))
   ·exact .inl (by omega)
  ·cases h
theorem numO_dec {n : Nat} (h : n < 10 ^ 19) : numO (decDigits n) = some n := by
 unfold numO
 have hl := dec_len n h
 rw [if_neg, if_pos (List.all_eq_true.2 (dec_dig n)), dec_val]
 rintro (h1 | h1 | ⟨h1, h2⟩)
 ·omega
 ·omega
 ·rcases Nat.eq_zero_or_pos n with h0 | h0
  ·subst h0
   rw [decDigits_one (by omega)] at h2
   simp at h2
  ·exact dec_head n h0 h1
def pS : Int := 2305843009213693951
def goodR (r : Rec) : Bool := decide (0 ≤ r.step) && decide (r.step ≤ 99) && decide (0 ≤ r.rate) && decide (r.rate ≤ 2147483647) && decide (0 ≤ r.root) && decide (r.root < pS) && decide (0 ≤ r.chain) && decide (r.chain < pS) && decide (r.batch.length ≤ 8) && r.batch.all fun n => decide (0 ≤ n) && decide (n ≤ 99)
def wordsR (r : Rec) : List (List UInt8) := decDigits r.step.toNat :: decDigits r.rate.toNat :: decDigits r.root.toNat :: decDigits r.chain.toNat :: r.batch.map fun n => decDigits n.toNat
def lineT (r : Rec) : List UInt8 := [32].intercalate (wordsR r) ++ [10]
theorem goodR_iff {r : Rec} : goodR r = true ↔ (0 ≤ r.step ∧ r.step ≤ 99) ∧ (0 ≤ r.rate ∧ r.rate ≤ 2147483647) ∧ (0 ≤ r.root ∧ r.root < pS) ∧ (0 ≤ r.chain ∧ r.chain < pS) ∧ r.batch.length ≤ 8 ∧ ∀ n ∈ r.batch, 0 ≤ n ∧ n ≤ 99 := by
 unfold goodR
 simp only [Bool.and_eq_true, decide_eq_true_eq, List.all_eq_true]
 exact ⟨fun h => ⟨⟨h.1.1.1.1.1.1.1.1.1, h.1.1.1.1.1.1.1.1.2⟩, ⟨h.1.1.1.1.1.1.1.2, h.1.1.1.1.1.1.2⟩, ⟨h.1.1.1.1.1.2, h.1.1.1.1.2⟩, ⟨h.1.1.1.2, h.1.1.2⟩, h.1.2, h.2⟩,
  fun h => ⟨⟨⟨⟨⟨⟨⟨⟨⟨h.1.1, h.1.2⟩, h.2.1.1⟩, h.2.1.2⟩, h.2.2.1.1⟩, h.2.2.1.2⟩, h.2.2.2.1.1⟩, h.2.2.2.1.2⟩, h.2.2.2.2.1⟩, h.2.2.2.2.2⟩⟩
def recOf (ns : List Nat) : Rec := ⟨(ns[0]?.getD 0 : Nat), (ns.drop 4).map fun (n : Nat) => (n : Int), (ns[1]?.getD 0 : Nat), (ns[2]?.getD 0 : Nat), (ns[3]?.getD 0 : Nat)⟩
def numsO : List (List UInt8) → Option (List Nat)
 | [] => some []
 | w :: ws => match numO w, numsO ws with
  | some n, some ns => some (n :: ns)
  | _, _ => none
def parse (s : List UInt8) : Option (Rec × Nat) :=
 match s.findIdx? (· == 10) with
 | none => none
 | some e => match numsO (pieces 32 (s.take e)) with
  | none => none
  | some ns => if 4 ≤ ns.length ∧ goodR (recOf ns) = true then some (recOf ns, e + 1) else none
theorem numsO_some : ∀ {ws : List (List UInt8)} {ns : List Nat}, numsO ws = some ns → ws = ns.map decDigits ∧ ∀ n ∈ ns, n < 10 ^ 19
 | [], ns, h => by
  injection h with h
  subst h
  exact ⟨rfl, fun n hn => by cases hn⟩
 | w :: ws, ns, h => by
  unfold numsO at h
  split at h
  ·rename_i n ms h1 h2
   injection h with h
   subst h
   obtain ⟨a, b⟩ := numO_some h1
   obtain ⟨c, d⟩ := numsO_some h2
   refine ⟨by rw [List.map_cons, ← a, ← c], fun m hm => ?_⟩
   rcases List.mem_cons.1 hm with rfl | hm
   ·exact b
   ·exact d m hm
  ·cases h
theorem numsO_map : ∀ {ns : List Nat}, (∀ n ∈ ns, n < 10 ^ 19) → numsO (ns.map decDigits) = some ns
 | [], _ => rfl
 | n :: ns, h => by
  rw [List.map_cons]
  unfold numsO
  rw [numO_dec (h n (by simp)), numsO_map fun m hm => h m (by simp [hm])]
theorem dec_no (c : UInt8) (hc : isDig c = false) (n : Nat) : c ∉ decDigits n := fun h => by
 have := dec_dig n c h
 rw [hc] at this
 cases this
theorem wordsR_recOf {ns : List Nat} (h : 4 ≤ ns.length) : wordsR (recOf ns) = ns.map decDigits := by
 match ns, h with
 | a :: b :: c :: d :: r, _ =>
  unfold wordsR recOf
  simp [List.map_map, Function.comp_def]
def numsR (r : Rec) : List Nat := r.step.toNat :: r.rate.toNat :: r.root.toNat :: r.chain.toNat :: r.batch.map Int.toNat
theorem wordsR_nums (r : Rec) : wordsR r = (numsR r).map decDigits := by
 unfold wordsR numsR
 simp [List.map_map, Function.comp_def]
theorem numsR_ok {r : Rec} (h : goodR r = true) : ∀ n ∈ numsR r, n < 10 ^ 19 := by
 obtain ⟨h1, h2, h3, h4, h5, h6⟩ := goodR_iff.1 h
 unfold pS at h3 h4
 intro n hn
 unfold numsR at hn
 simp only [List.mem_cons, List.mem_map] at hn
 rcases hn with rfl | rfl | rfl | rfl | ⟨m, hm, rfl⟩
 ·omega
 ·omega
 ·omega
 ·omega
 ·have := h6 m hm
  omega
theorem recOf_nums {r : Rec} (h : goodR r = true) : recOf (numsR r) = r := by
 obtain ⟨h1, h2, h3, h4, h5, h6⟩ := goodR_iff.1 h
 obtain ⟨st, ba, ra, ro, ch⟩ := r
 simp only at h1 h2 h3 h4 h5 h6
 unfold recOf numsR
 simp only [List.getElem?_cons_zero, List.getElem?_cons_succ, Option.getD_some, List.drop_succ_cons, List.drop_zero, List.map_map]
 congr 1
 ·omega
 ·conv => rhs; rw [← List.map_id ba]
  refine List.map_congr_left fun n hn => ?_
  have := h6 n hn
  simp only [Function.comp_apply, id]
  omega
 ·omega
 ·omega
 ·omega
theorem mem_join {c b : UInt8} : ∀ {w : List (List UInt8)}, b ≠ c → (∀ p ∈ w, b ∉ p) → b ∉ [c].intercalate w
 | [], _, _ => by simp [List.intercalate]
 | [p], _, h => by simpa [List.intercalate] using h p (by simp)
 | p :: q :: r, hb, h => by
  have e : [c].intercalate (p :: q :: r) = p ++ c :: [c].intercalate (q :: r) := by simp [List.intercalate]
  rw [e]
  intro hm
  rcases List.mem_append.1 hm with hm | hm
  ·exact h p (by simp) hm
  ·rcases List.mem_cons.1 hm with rfl | hm
   ·exact hb rfl
   ·exact mem_join hb (fun x hx => h x (by simp at hx ⊢; right; exact hx)) hm
theorem body_no (r : Rec) : (10 : UInt8) ∉ [32].intercalate (wordsR r) := by
 rw [wordsR_nums]
 refine mem_join (by decide) fun p hp => ?_
 obtain ⟨n, _, rfl⟩ := List.mem_map.1 hp
 exact dec_no 10 (by decide) n
theorem findIdx_first {b : UInt8} {p s : List UInt8} (h : b ∉ p) : (p ++ b :: s).findIdx? (· == b) = some p.length := by
 rw [List.findIdx?_eq_some_iff_getElem]
 refine ⟨by simp, by simp, fun j hj => ?_⟩
 rw [List.getElem_append_left (by omega)]
 simp only [beq_iff_eq]
 intro e
 exact h (e ▸ List.getElem_mem _)
theorem find_at {b : UInt8} {s : List UInt8} {e : Nat} (h : s.findIdx? (· == b) = some e) : e < s.length ∧ s.take (e + 1) = s.take e ++ [b] ∧ b ∉ s.take e := by
 rw [List.findIdx?_eq_some_iff_getElem] at h
 obtain ⟨hlt, h1, h2⟩ := h
 refine ⟨hlt, ?_, fun hc => ?_⟩
 ·have h3 : s[e] = b := by simpa using h1
  rw [List.take_succ_eq_append_getElem hlt, h3]
 ·obtain ⟨j, hj, e2⟩ := List.mem_iff_getElem.1 hc
  rw [List.length_take] at hj
  have := h2 j (by omega)
  rw [List.getElem_take] at e2
  simp [e2] at this
theorem parse_line {r : Rec} (h : goodR r = true) (s : List UInt8) : parse (lineT r ++ s) = some (r, (lineT r).length) := by
 unfold parse lineT
 rw [List.append_assoc, List.singleton_append, findIdx_first (body_no r)]
 simp only [List.take_left']
 rw [pieces_of_join _ (by unfold wordsR; simp) (fun p hp => by
  rw [wordsR_nums] at hp
  obtain ⟨n, _, rfl⟩ := List.mem_map.1 hp
  exact dec_no 32 (by decide) n), wordsR_nums, numsO_map (numsR_ok h)]
 simp only
 rw [recOf_nums h, if_pos ⟨by unfold numsR; simp, h⟩]
 simp
theorem parse_some {s : List UInt8} {x : Rec} {n : Nat} (h : parse s = some (x, n)) : goodR x = true ∧ n ≤ s.length ∧ lineT x = s.take n ∧ 1 ≤ n := by
 unfold parse at h
 split at h
 ·cases h
 ·rename_i e he
  split at h
  ·cases h
  ·rename_i ns hns
   split at h
   ·rename_i hc
    injection h with h
    injection h with h1 h2
    subst h1 h2
    obtain ⟨f1, f2, f3⟩ := find_at he
    obtain ⟨g1, g2⟩ := numsO_some hns
    refine ⟨hc.2, by omega, ?_, by omega⟩
    unfold lineT
    rw [wordsR_recOf hc.1, ← g1, pieces_join]
    rw [f2]
   ·cases h
theorem parse_more {s : List UInt8} {x : Rec} {n : Nat} (h : parse s = some (x, n)) (t : List UInt8) : parse (s ++ t) = some (x, n) := by
 obtain ⟨h1, h2, h3, _⟩ := parse_some h
 have e : s ++ t = lineT x ++ (s.drop n ++ t) := by rw [h3, ← List.append_assoc, List.take_append_drop]
 have hl : (lineT x).length = n := by rw [h3, List.length_take]; omega
 rw [e, parse_line h1, hl]
def begF : Nat → List UInt8 → Nat → List Rec → Nat → List Rec × Nat
 | 0, _, _, out, at_ => (out, at_)
 | f + 1, s, k, out, at_ => match parse s with
  | none => (out, at_)
  | some (r, n) => if r.step = (k : Int) then begF f (s.drop n) (k + 1) (out ++ [r]) (at_ + n) else (out, at_)
def beg (s : List UInt8) : List Rec × Nat := begF (s.length + 1) s 0 [] 0
theorem begF_fuel : ∀ (f g : Nat) (s : List UInt8) (k : Nat) (out : List Rec) (a : Nat), s.length < f → s.length < g → begF f s k out a = begF g s k out a
 | 0, _, _, _, _, _, h, _ => by omega
 | _ + 1, 0, _, _, _, _, _, h => by omega
 | f + 1, g + 1, s, k, out, a, h1, h2 => by
  unfold begF
  cases hp : parse s with
  | none => rfl
  | some p =>
   obtain ⟨r, n⟩ := p
   obtain ⟨_, h3, _, h4⟩ := parse_some hp
   simp only
   split
   ·exact begF_fuel f g _ _ _ _ (by rw [List.length_drop]; omega) (by rw [List.length_drop]; omega)
   ·rfl
def begK (s : List UInt8) (k : Nat) : List Rec × Nat := begF (s.length + 1) s k [] 0
theorem begF_out : ∀ (f : Nat) (s : List UInt8) (k : Nat) (out : List Rec) (a : Nat), begF f s k out a = (out ++ (begF f s k [] 0).1, a + (begF f s k [] 0).2)
 | 0, _, _, _, _ => by simp [begF]
 | f + 1, s, k, out, a => by
  unfold begF
  cases hp : parse s with
  | none => simp
  | some p =>
   obtain ⟨r, n⟩ := p
   simp only
   split
   ·rw [begF_out f _ _ (out ++ [r]) (a + n), begF_out f _ _ ([] ++ [r]) (0 + n)]
    simp [List.append_assoc, Nat.add_assoc]
   ·simp
theorem begK_step {s : List UInt8} {k : Nat} {r : Rec} {n : Nat} (h : parse s = some (r, n)) (hs : r.step = (k : Int)) : begK s k = (r :: (begK (s.drop n) (k + 1)).1, n + (begK (s.drop n) (k + 1)).2) := by
 obtain ⟨_, h3, _, h4⟩ := parse_some h
 unfold begK
 conv => lhs; unfold begF
 rw [h]
 simp only
 rw [if_pos hs, begF_out, begF_fuel s.length ((s.drop n).length + 1) _ _ _ _ (by rw [List.length_drop]; omega) (by omega)]
 simp
theorem begK_end {s : List UInt8} {k : Nat} (h : ∀ r n, parse s = some (r, n) → r.step ≠ (k : Int)) : begK s k = ([], 0) := by
 unfold begK begF
 cases hp : parse s with
 | none => rfl
 | some p =>
  obtain ⟨r, n⟩ := p
  simp only
  rw [if_neg (h r n hp)]
theorem beg_K (s : List UInt8) : beg s = begK s 0 := rfl
theorem begK_cases (s : List UInt8) (k : Nat) : (begK s k = ([], 0) ∧ ∀ r n, parse s = some (r, n) → r.step ≠ (k : Int)) ∨ ∃ r n, parse s = some (r, n) ∧ r.step = (k : Int) ∧ 1 ≤ n ∧ n ≤ s.length ∧ begK s k = (r :: (begK (s.drop n) (k + 1)).1, n + (begK (s.drop n) (k + 1)).2) := by
 cases hp : parse s with
 | none => exact .inl ⟨begK_end (fun r n h => by rw [hp] at h; cases h), fun r n h => (by cases h)⟩
 | some p =>
  obtain ⟨r, n⟩ := p
  by_cases hs : r.step = (k : Int)
  ·obtain ⟨_, h3, _, h4⟩ := parse_some hp
   exact .inr ⟨r, n, rfl, hs, h4, h3, begK_step hp hs⟩
  ·have h0 : ∀ r' n', some (r, n) = some (r', n') → r'.step ≠ (k : Int) := fun r' n' h => by
    injection h with h
    injection h with h1 h2
    subst h1
    exact hs
   exact .inl ⟨begK_end fun r' n' h => h0 r' n' (by rw [← hp, h]), h0⟩
theorem begK_laws : ∀ (m : Nat) (s : List UInt8) (k : Nat), s.length ≤ m → (begK s k).2 ≤ s.length ∧ (∀ j, j < (begK s k).1.length → (recAt (begK s k).1 j).step = ((k + j : Nat) : Int)) ∧ (∀ x ∈ (begK s k).1, goodR x = true) ∧ (∀ t, (begK s k).1 <+: (begK (s ++ t) k).1) ∧ begK (s.take (begK s k).2) k = begK s k ∧ s.take (begK s k).2 = ((begK s k).1.map lineT).flatten
 | 0, s, k, hm => by
  obtain rfl : s = [] := List.length_eq_zero_iff.1 (by omega)
  have e : begK [] k = ([], 0) := rfl
  rw [e]
  exact ⟨Nat.le_refl _, fun j hj => absurd hj (by simp), fun x hx => (by cases hx), fun t => List.nil_prefix, e, rfl⟩
 | m + 1, s, k, hm => by
  rcases begK_cases s k with ⟨e, _⟩ | ⟨r, n, hp, hs, h1, h2, e⟩
  ·rw [e]
   exact ⟨Nat.zero_le _, fun j hj => absurd hj (by simp), fun x hx => (by cases hx), fun t => List.nil_prefix, rfl, rfl⟩
  ·obtain ⟨i1, i2, i3, i4, i5, i6⟩ := begK_laws m (s.drop n) (k + 1) (by rw [List.length_drop]; omega)
   obtain ⟨g1, _, g3, _⟩ := parse_some hp
   rw [List.length_drop] at i1
   have hl : (lineT r).length = n := by rw [g3, List.length_take]; omega
   rw [e]
   refine ⟨?_, ?_, ?_, ?_, ?_, ?_⟩
   ·show n + (begK (s.drop n) (k + 1)).2 ≤ s.length
    omega
   ·intro j hj
    cases j with
    | zero => exact hs
    | succ j =>
     show (recAt (begK (s.drop n) (k + 1)).1 j).step = _
     rw [i2 j (by simpa using hj)]
     omega
   ·intro x hx
    rcases List.mem_cons.1 hx with rfl | hx
    ·exact g1
    ·exact i3 x hx
   ·intro t
    rw [begK_step (parse_more hp t) hs, List.drop_append, show n - s.length = 0 by omega, List.drop_zero]
    exact (List.cons_prefix_cons).2 ⟨rfl, i4 t⟩
   ·have e2 : s.take (n + (begK (s.drop n) (k + 1)).2) = lineT r ++ (s.drop n).take (begK (s.drop n) (k + 1)).2 := by
     rw [g3, List.take_add]
    show begK (s.take (n + (begK (s.drop n) (k + 1)).2)) k = (r :: (begK (s.drop n) (k + 1)).1, n + (begK (s.drop n) (k + 1)).2)
    rw [e2, begK_step (parse_line g1 _) hs, List.drop_left, i5, hl]
   ·show s.take (n + (begK (s.drop n) (k + 1)).2) = ((r :: (begK (s.drop n) (k + 1)).1).map lineT).flatten
    rw [List.take_add, i6, List.map_cons, List.flatten_cons, g3]
theorem beg_le (s : List UInt8) : (beg s).2 ≤ s.length := (begK_laws _ s 0 (Nat.le_refl _)).1
end Go.Proofs.YtgodgedhddngeaaGreatDoor
