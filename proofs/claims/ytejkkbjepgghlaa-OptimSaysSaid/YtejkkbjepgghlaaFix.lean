/- Plain laws about numbers with a fixed point: clamp, sums, differences, rounded products and quotients. No program in sight. -/
namespace Go.Proofs.Ytejkkbjepgghlaa.Pl

/-- What is from -Most to Most stays; else the nearer bound. -/
def clamp (n : Int) : Int := if n < -2147483647 then -2147483647 else if n > 2147483647 then 2147483647 else n
theorem clamp_lo (n : Int) : -2147483647 ≤ clamp n := by unfold clamp; split <;> (try split) <;> omega
theorem clamp_hi (n : Int) : clamp n ≤ 2147483647 := by unfold clamp; split <;> (try split) <;> omega
theorem clamp_id {n : Int} (h : -2147483647 ≤ n) (h' : n ≤ 2147483647) : clamp n = n := by unfold clamp; rw [if_neg (by omega), if_neg (by omega)]
theorem clamp_clamp (n : Int) : clamp (clamp n) = clamp n := clamp_id (clamp_lo n) (clamp_hi n)
theorem clamp_neg (n : Int) : clamp (-n) = -clamp n := by unfold clamp; split <;> split <;> (try split) <;> (try split) <;> omega
theorem clamp_mono {m n : Int} (h : m ≤ n) : clamp m ≤ clamp n := by unfold clamp; split <;> split <;> (try split) <;> (try split) <;> omega
theorem clamp_iff (n : Int) : clamp n = n ↔ -2147483647 ≤ n ∧ n ≤ 2147483647 :=
  ⟨fun h => by have a := clamp_lo n; have b := clamp_hi n; omega, fun h => clamp_id h.1 h.2⟩

/-- The rounded quotient, of a divisor above 0: to the nearest, of two as near to the even one. -/
def rnd (n d : Int) : Int := if d < 2 * (n % d) ∨ (2 * (n % d) = d ∧ n / d % 2 = 1) then n / d + 1 else n / d

def IsRnd (n d q : Int) : Prop := 2 * (n - q * d) ≤ d ∧ -d ≤ 2 * (n - q * d) ∧ ((2 * (n - q * d) = d ∨ 2 * (n - q * d) = -d) → q % 2 = 0)

theorem rnd_is (n d : Int) (hd : 0 < d) : IsRnd n d (rnd n d) := by
  have h0 := Int.emod_nonneg n (show d ≠ 0 by omega)
  have h1 := Int.emod_lt_of_pos n hd
  have h2 : n = d * (n / d) + n % d := (Int.mul_ediv_add_emod n d).symm
  unfold rnd IsRnd
  generalize hq : n / d = q at *
  generalize hr : n % d = r at *
  have e1 : n - q * d = r := by rw [h2, Int.mul_comm d q]; omega
  have e2 : n - (q + 1) * d = r - d := by rw [Int.add_mul, Int.one_mul]; omega
  split
  · rename_i h
    rw [e2]
    refine ⟨by omega, by omega, ?_⟩
    intro h3
    rcases h with h | h <;> omega
  · rename_i h
    rw [e1]
    refine ⟨by omega, by omega, ?_⟩
    intro h3
    omega

theorem IsRnd.le {n m d p q : Int} (hd : 0 < d) (h : n ≤ m) (hp : IsRnd n d p) (hq : IsRnd m d q) : p ≤ q := by
  obtain ⟨a1, a2, a3⟩ := hp
  obtain ⟨b1, b2, b3⟩ := hq
  rcases Int.lt_or_le q p with hlt | hle
  · exfalso
    have h1 : (q + 1) * d ≤ p * d := Int.mul_le_mul_of_nonneg_right (by omega) (by omega)
    rw [Int.add_mul, Int.one_mul] at h1
    have e1 : 2 * (n - p * d) = -d := by omega
    have e2 : 2 * (m - q * d) = d := by omega
    have e3 : p * d = (q + 1) * d := by rw [Int.add_mul, Int.one_mul]; omega
    have e4 : p = q + 1 := Int.eq_of_mul_eq_mul_right (by omega) e3
    have c1 := a3 (.inr e1)
    have c2 := b3 (.inl e2)
    omega
  · exact hle
theorem IsRnd.uniq {n d p q : Int} (hd : 0 < d) (hp : IsRnd n d p) (hq : IsRnd n d q) : p = q :=
  Int.le_antisymm (hp.le hd (Int.le_refl _) hq) (hq.le hd (Int.le_refl _) hp)
theorem IsRnd.neg {n d q : Int} (h : IsRnd n d q) : IsRnd (-n) d (-q) := by
  obtain ⟨a, b, c⟩ := h
  have e : -n - -q * d = -(n - q * d) := by rw [Int.neg_mul]; omega
  unfold IsRnd
  rw [e]
  refine ⟨by omega, by omega, ?_⟩
  intro h3
  have := c (by omega)
  omega
theorem rnd_neg (n d : Int) (hd : 0 < d) : rnd (-n) d = -rnd n d := (rnd_is _ _ hd).uniq hd (rnd_is _ _ hd).neg
theorem rnd_mono {m n d : Int} (hd : 0 < d) (h : m ≤ n) : rnd m d ≤ rnd n d := (rnd_is _ _ hd).le hd h (rnd_is _ _ hd)
theorem rnd_mul (n d : Int) (hd : 0 < d) : rnd (n * d) d = n := (rnd_is _ _ hd).uniq hd ⟨by omega, by omega, fun h => by omega⟩
theorem rnd_zero (d : Int) (hd : 0 < d) : rnd 0 d = 0 := by have h := rnd_mul 0 d hd; rwa [Int.zero_mul] at h

/-- As the document's own text reckons it: without signs, and then the sign. -/
def near0 (n d : Int) : Int := if n - n / d * d < (n / d + 1) * d - n ∨ (n - n / d * d = (n / d + 1) * d - n ∧ n / d % 2 = 0) then n / d else n / d + 1
theorem near0_eq (n d : Int) : near0 n d = rnd n d := by
  have h2 : n = d * (n / d) + n % d := (Int.mul_ediv_add_emod n d).symm
  have e1 : n - n / d * d = n % d := by rw [Int.mul_comm (n / d) d]; omega
  have e2 : (n / d + 1) * d - n = d - n % d := by rw [Int.add_mul, Int.one_mul, Int.mul_comm (n / d) d]; omega
  unfold near0 rnd
  rw [e1, e2]
  split <;> split <;> omega

def addF (a b : Int) : Int := clamp (clamp a + clamp b)
def subF (a b : Int) : Int := clamp (clamp a - clamp b)
def mulF (a b : Int) : Int := clamp (rnd (clamp a * clamp b) 65536)
def divF (a b : Int) : Int := clamp (if clamp b < 0 then rnd (-(clamp a * 65536)) (-clamp b) else rnd (clamp a * 65536) (clamp b))

theorem addF_comm (a b : Int) : addF a b = addF b a := by unfold addF; rw [Int.add_comm]
theorem mulF_comm (a b : Int) : mulF a b = mulF b a := by unfold mulF; rw [Int.mul_comm]
theorem addF_lo (a b : Int) : -2147483647 ≤ addF a b := clamp_lo _
theorem addF_hi (a b : Int) : addF a b ≤ 2147483647 := clamp_hi _
theorem subF_lo (a b : Int) : -2147483647 ≤ subF a b := clamp_lo _
theorem subF_hi (a b : Int) : subF a b ≤ 2147483647 := clamp_hi _
theorem mulF_lo (a b : Int) : -2147483647 ≤ mulF a b := clamp_lo _
theorem mulF_hi (a b : Int) : mulF a b ≤ 2147483647 := clamp_hi _
theorem divF_lo (a b : Int) : -2147483647 ≤ divF a b := clamp_lo _
theorem divF_hi (a b : Int) : divF a b ≤ 2147483647 := clamp_hi _
theorem clamp_addF (a b : Int) : clamp (addF a b) = addF a b := clamp_clamp _
theorem clamp_mulF (a b : Int) : clamp (mulF a b) = mulF a b := clamp_clamp _
theorem clamp_subF (a b : Int) : clamp (subF a b) = subF a b := clamp_clamp _
theorem mulF_clamp_l (a b : Int) : mulF (clamp a) b = mulF a b := by unfold mulF; rw [clamp_clamp]
theorem mulF_clamp_r (a b : Int) : mulF a (clamp b) = mulF a b := by unfold mulF; rw [clamp_clamp]
theorem addF_clamp_l (a b : Int) : addF (clamp a) b = addF a b := by unfold addF; rw [clamp_clamp]
theorem addF_clamp_r (a b : Int) : addF a (clamp b) = addF a b := by unfold addF; rw [clamp_clamp]
theorem subF_anti (a b : Int) : subF a b = -subF b a := by unfold subF; rw [← clamp_neg]; congr 1; omega
theorem addF_neg (a b : Int) : addF (-a) (-b) = -addF a b := by
  unfold addF
  rw [clamp_neg a, clamp_neg b, ← clamp_neg (clamp a + clamp b)]; congr 1; omega
theorem subF_add (a b : Int) : addF a (-clamp b) = subF a b := by unfold addF subF; rw [clamp_neg, clamp_clamp]; rfl
theorem subF_self (a : Int) : subF a a = 0 := by unfold subF; rw [Int.sub_self]; rfl
theorem mulF_neg (a b : Int) : mulF (-a) b = -mulF a b := by
  unfold mulF
  rw [clamp_neg, Int.neg_mul, rnd_neg _ _ (by omega), clamp_neg]
theorem mulF_neg_r (a b : Int) : mulF a (-b) = -mulF a b := by rw [mulF_comm, mulF_neg, mulF_comm]
theorem mulF_one {a : Int} (h : clamp a = a) : mulF a 65536 = a := by
  unfold mulF
  rw [show clamp 65536 = 65536 from rfl, rnd_mul _ _ (by omega), clamp_clamp, h]
theorem mulF_zero_l (b : Int) : mulF 0 b = 0 := by
  unfold mulF
  rw [show clamp 0 = 0 from rfl, Int.zero_mul]; rfl
theorem mulF_zero_r (a : Int) : mulF a 0 = 0 := by rw [mulF_comm, mulF_zero_l]
theorem addF_zero_r {a : Int} (h : clamp a = a) : addF a 0 = a := by
  unfold addF; rw [show clamp 0 = 0 from rfl, Int.add_zero, clamp_clamp, h]
theorem addF_mono {a b : Int} (h : a ≤ b) (c : Int) : addF a c ≤ addF b c := by
  unfold addF; exact clamp_mono (by have := clamp_mono h; omega)
theorem mulF_mono {a b c : Int} (h : a ≤ b) (hc : 0 ≤ c) : mulF a c ≤ mulF b c := by
  unfold mulF
  have h1 := clamp_mono h
  have h2 : 0 ≤ clamp c := by have := clamp_mono hc; rwa [show clamp 0 = 0 from rfl] at this
  exact clamp_mono (rnd_mono (by omega) (Int.mul_le_mul_of_nonneg_right h1 h2))
theorem mulF_nonneg {a b : Int} (ha : 0 ≤ a) (hb : 0 ≤ b) : 0 ≤ mulF a b := by
  have h := mulF_mono (a := 0) (b := a) ha hb
  rwa [mulF_zero_l] at h
theorem mulF_sq (a : Int) : 0 ≤ mulF a a := by
  unfold mulF
  have h : 0 ≤ clamp a * clamp a := by
    rcases Int.le_total 0 (clamp a) with h | h
    · exact Int.mul_nonneg h h
    · exact Int.mul_nonneg_of_nonpos_of_nonpos h h
  have h2 := rnd_mono (d := 65536) (by omega) h
  rw [rnd_zero _ (by omega)] at h2
  have h3 := clamp_mono h2
  rwa [show clamp 0 = 0 from rfl] at h3
theorem divF_neg (a b : Int) (hb : clamp b ≠ 0) : divF (-a) b = -divF a b := by
  unfold divF
  rw [← clamp_neg (if clamp b < 0 then _ else _), clamp_neg a]
  congr 1
  split
  · rw [← rnd_neg _ _ (by omega), Int.neg_mul]
  · rw [← rnd_neg _ _ (by omega), Int.neg_mul]

/-- A product is nearest to what it would be. -/
theorem mulF_near (a b : Int) (h1 : mulF a b ≠ 2147483647) (h2 : mulF a b ≠ -2147483647) : IsRnd (clamp a * clamp b) 65536 (mulF a b) := by
  have h := rnd_is (clamp a * clamp b) 65536 (by omega)
  have e : mulF a b = rnd (clamp a * clamp b) 65536 := by
    unfold mulF at h1 h2 ⊢
    generalize rnd (clamp a * clamp b) 65536 = x at *
    unfold clamp at *
    split at h1
    · omega
    · split at h1
      · omega
      · rw [if_neg (by omega), if_neg (by omega)]
  rw [e]; exact h

theorem mul_bounds (a b : Int) : -4611686014132420609 ≤ clamp a * clamp b ∧ clamp a * clamp b ≤ 4611686014132420609 := by
  have a1 := clamp_lo a
  have a2 := clamp_hi a
  have b1 := clamp_lo b
  have b2 := clamp_hi b
  generalize clamp a = x at *
  generalize clamp b = y at *
  have h1 : 0 ≤ (2147483647 - x) * (2147483647 - y) := Int.mul_nonneg (by omega) (by omega)
  have h2 : 0 ≤ (2147483647 + x) * (2147483647 + y) := Int.mul_nonneg (by omega) (by omega)
  have h3 : 0 ≤ (2147483647 - x) * (2147483647 + y) := Int.mul_nonneg (by omega) (by omega)
  have h4 : 0 ≤ (2147483647 + x) * (2147483647 - y) := Int.mul_nonneg (by omega) (by omega)
  simp only [Int.sub_mul, Int.add_mul, Int.mul_sub, Int.mul_add] at h1 h2 h3 h4
  omega
theorem rnd_bounds (n d : Int) (hd : 0 < d) (B : Int) (hB : 0 ≤ B) (h1 : -B ≤ n) (h2 : n ≤ B) : -B ≤ rnd n d ∧ rnd n d ≤ B := by
  have hm : B ≤ B * d := by have := Int.mul_le_mul_of_nonneg_left (show (1 : Int) ≤ d by omega) hB; omega
  have e1 : rnd n d ≤ rnd (B * d) d := rnd_mono hd (by omega)
  have e2 : rnd (-B * d) d ≤ rnd n d := rnd_mono hd (by rw [Int.neg_mul]; omega)
  rw [rnd_mul _ _ hd] at e1 e2
  exact ⟨e2, e1⟩
end Go.Proofs.Ytejkkbjepgghlaa.Pl
