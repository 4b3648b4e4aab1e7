/- Plain laws about digests: sums, products, powers by the prime 2^61 - 1; the mix. No program in sight. -/
namespace Go.Proofs.Ytgfidgepplfcbaa.Pl

def P61 : Nat := 2305843009213693951
theorem P61_pos : 0 < P61 := by decide
def addP (a b : Nat) : Nat := (a % P61 + b % P61) % P61
def mulP (a b : Nat) : Nat := (a % P61) * (b % P61) % P61
theorem addP_lt (a b : Nat) : addP a b < P61 := Nat.mod_lt _ P61_pos
theorem mulP_lt (a b : Nat) : mulP a b < P61 := Nat.mod_lt _ P61_pos
theorem addP_mod_l (a b : Nat) : addP (a % P61) b = addP a b := by unfold addP; rw [Nat.mod_mod]
theorem addP_mod_r (a b : Nat) : addP a (b % P61) = addP a b := by unfold addP; rw [Nat.mod_mod]
theorem mulP_mod_l (a b : Nat) : mulP (a % P61) b = mulP a b := by unfold mulP; rw [Nat.mod_mod]
theorem mulP_mod_r (a b : Nat) : mulP a (b % P61) = mulP a b := by unfold mulP; rw [Nat.mod_mod]
theorem addP_eq (a b : Nat) : addP a b = (a + b) % P61 := by unfold addP; rw [← Nat.add_mod]
theorem mulP_comm (a b : Nat) : mulP a b = mulP b a := by unfold mulP; rw [Nat.mul_comm]
theorem addP_comm (a b : Nat) : addP a b = addP b a := by unfold addP; rw [Nat.add_comm]
/-- The 17th power. -/
def sqP (a : Nat) : Nat := mulP a a
def pow17 (a : Nat) : Nat := mulP (sqP (sqP (sqP (sqP a)))) a
theorem pow17_lt (a : Nat) : pow17 a < P61 := mulP_lt _ _

/-- One turn of the mix. -/
def turnP (i : Nat) (s : Nat × Nat × Nat) : Nat × Nat × Nat :=
  (addP (addP (pow17 (addP s.1 i)) (addP (pow17 (addP s.2.1 (2 * i))) (pow17 (addP s.2.2 (3 * i))))) (pow17 (addP s.1 i)),
   addP (addP (pow17 (addP s.1 i)) (addP (pow17 (addP s.2.1 (2 * i))) (pow17 (addP s.2.2 (3 * i))))) (pow17 (addP s.2.1 (2 * i))),
   addP (addP (pow17 (addP s.1 i)) (addP (pow17 (addP s.2.1 (2 * i))) (pow17 (addP s.2.2 (3 * i))))) (pow17 (addP s.2.2 (3 * i))))
/-- The first k turns, numbered from 1 on. -/
def turnsP : Nat → Nat × Nat × Nat → Nat × Nat × Nat
  | 0, s => s
  | k + 1, s => turnP (k + 1) (turnsP k s)
def mixP (s : Nat × Nat × Nat) : Nat × Nat × Nat := turnsP 6 s
/-- Behind the first k numbers of a list. -/
def ofN (s : Nat × Nat × Nat) (l : List Nat) : Nat → Nat × Nat × Nat
  | 0 => mixP s
  | k + 1 => mixP (addP (ofN s l k).1 (l[k]?.getD 0), (ofN s l k).2)
def ofP (kind : Nat) (l : List Nat) : Nat := (ofN (kind % P61, l.length, 1) l l.length).2.1
def pairP (a b : Nat) : Nat := ofP 3 [a, b]
def wordP (a b : Nat) : Nat := ofP 2 [a, b]

theorem turnP_lt (i : Nat) (s : Nat × Nat × Nat) : (turnP i s).1 < P61 ∧ (turnP i s).2.1 < P61 ∧ (turnP i s).2.2 < P61 := ⟨addP_lt _ _, addP_lt _ _, addP_lt _ _⟩
theorem mixP_lt (s : Nat × Nat × Nat) : (mixP s).1 < P61 ∧ (mixP s).2.1 < P61 ∧ (mixP s).2.2 < P61 := turnP_lt 6 _
theorem ofN_lt (s : Nat × Nat × Nat) (l : List Nat) (k : Nat) : (ofN s l k).1 < P61 ∧ (ofN s l k).2.1 < P61 ∧ (ofN s l k).2.2 < P61 := by
  cases k with
  | zero => exact mixP_lt _
  | succ k => exact mixP_lt _
theorem ofP_lt (kind : Nat) (l : List Nat) : ofP kind l < P61 := (ofN_lt _ _ _).2.1
/-- A digest looks at numbers by the prime alone. -/
theorem ofN_congr (s : Nat × Nat × Nat) (l m : List Nat) (k : Nat) (h : ∀ i, i < k → (l[i]?.getD 0) % P61 = (m[i]?.getD 0) % P61) : ofN s l k = ofN s m k := by
  induction k with
  | zero => rfl
  | succ k ih =>
    simp only [ofN]
    rw [ih (fun i hi => h i (by omega)), ← addP_mod_r _ (l[k]?.getD 0), ← addP_mod_r _ (m[k]?.getD 0), h k (by omega)]
theorem ofP_mod (kind : Nat) (l : List Nat) : ofP kind (l.map (· % P61)) = ofP kind l := by
  unfold ofP
  rw [List.length_map]
  rw [ofN_congr _ (l.map (· % P61)) l l.length (fun i _ => by
    rw [List.getElem?_map]
    cases l[i]? with
    | none => rfl
    | some n => simp)]

/-- Doubled, bit by bit, as the document's own text reckons a product. -/
def dbl (a b : Nat) : Nat → Nat
  | 0 => 0
  | k + 1 => if b / 2 ^ (60 - k) % 2 = 1 then ((dbl a b k + dbl a b k) % P61 + a) % P61 else (dbl a b k + dbl a b k) % P61
theorem dbl_lt (a b k : Nat) : dbl a b k < P61 := by
  cases k with
  | zero => exact P61_pos
  | succ k => unfold dbl; split <;> exact Nat.mod_lt _ P61_pos
theorem dbl_eq (a b k : Nat) (hk : k ≤ 61) : dbl a b k = a * (b / 2 ^ (61 - k) % 2 ^ k) % P61 := by
  induction k with
  | zero => simp [dbl, Nat.mod_one]
  | succ k ih =>
    have e1 : 61 - k = (60 - k) + 1 := by omega
    have e2 : 61 - (k + 1) = 60 - k := by omega
    rw [e2]
    have hb : b / 2 ^ (60 - k) % 2 ^ (k + 1) = 2 * (b / 2 ^ (61 - k) % 2 ^ k) + b / 2 ^ (60 - k) % 2 := by
      rw [e1, Nat.pow_succ 2 (60 - k), ← Nat.div_div_eq_div_mul, Nat.pow_succ, Nat.mul_comm (2 ^ k) 2, Nat.mod_mul]
      omega
    have ih' := ih (by omega)
    have h2 : (dbl a b k + dbl a b k) % P61 = a * (2 * (b / 2 ^ (61 - k) % 2 ^ k)) % P61 := by
      rw [ih', ← Nat.add_mod, ← Nat.two_mul, ← Nat.mul_assoc, Nat.mul_comm 2 a, Nat.mul_assoc]
    unfold dbl
    rw [h2, hb]
    split
    · rename_i h
      rw [h, Nat.mod_add_mod]
      congr 1
    · rename_i h
      have h0 : b / 2 ^ (60 - k) % 2 = 0 := by omega
      rw [h0, Nat.add_zero]
theorem dbl_mul (a b : Nat) (hb : b < P61) : dbl a b 61 = a * b % P61 := by
  rw [dbl_eq a b 61 (by omega)]
  have : b < 2 ^ 61 := Nat.lt_trans hb (by decide)
  rw [show 61 - 61 = 0 from rfl, Nat.pow_zero, Nat.div_one, Nat.mod_eq_of_lt this]
end Go.Proofs.Ytgfidgepplfcbaa.Pl
