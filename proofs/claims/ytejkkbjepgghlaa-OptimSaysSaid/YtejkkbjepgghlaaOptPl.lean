/- Plain laws about how a step is taken: rates, what is clipped, steps. No program in sight. -/
import Derived.Test.YtejkkbjepgghlaaVecPl
namespace Go.Proofs.Ytejkkbjepgghlaa.Pl

/-- The greatest of the first k numbers, clamped, without signs. -/
def highN (g : List Int) : Nat → Int
  | 0 => 0
  | k + 1 => max (highN g k) (max (clamp (at0 g k)) (-clamp (at0 g k)))
theorem highN_nonneg (g : List Int) (k : Nat) : 0 ≤ highN g k := by
  induction k with
  | zero => exact Int.le_refl _
  | succ k ih => simp only [highN]; omega
theorem highN_le (g : List Int) (k : Nat) : highN g k ≤ 2147483647 := by
  induction k with
  | zero => show (0 : Int) ≤ _; omega
  | succ k ih =>
    simp only [highN]
    have a := clamp_lo (at0 g k)
    have b := clamp_hi (at0 g k)
    omega
theorem highN_neg (g : List Int) (k : Nat) : highN (g.map fun n => -clamp n) k = highN g k := by
  induction k with
  | zero => rfl
  | succ k ih =>
    simp only [highN]
    rw [ih, at0_map (fun n => -clamp n) rfl, clamp_neg, clamp_clamp]
    omega
theorem highN_clamp (g : List Int) (k : Nat) : clamp (highN g k) = highN g k := clamp_id (by have := highN_nonneg g k; omega) (highN_le g k)

def clipL (g : List Int) (most : Int) : List Int :=
  if most = 0 ∨ highN g g.length ≤ most then upto (fun k => clamp (at0 g k)) g.length
  else upto (fun k => mulF (at0 g k) (divF most (highN g g.length))) g.length
theorem clipL_length (g : List Int) (most : Int) : (clipL g most).length = g.length := by unfold clipL; split <;> simp [upto_length]

theorem divF_nonneg {a b : Int} (ha : 0 ≤ a) (hb : 0 < b) : 0 ≤ divF a b := by
  unfold divF
  have h1 : 0 < clamp b := by
    have := clamp_mono (show 1 ≤ b by omega)
    rw [show clamp 1 = 1 from rfl] at this; omega
  have h2 : 0 ≤ clamp a := by have := clamp_mono ha; rwa [show clamp 0 = 0 from rfl] at this
  rw [if_neg (by omega)]
  have h3 := rnd_mono h1 (show 0 ≤ clamp a * 65536 by omega)
  rw [rnd_zero _ h1] at h3
  have h4 := clamp_mono h3
  rwa [show clamp 0 = 0 from rfl] at h4
theorem divF_le_one {a b : Int} (hb : 0 < clamp b) (h : clamp a ≤ clamp b) : divF a b ≤ 65536 := by
  unfold divF
  rw [if_neg (by omega)]
  have h1 : clamp a * 65536 ≤ 65536 * clamp b := by omega
  have h2 := rnd_mono hb h1
  rw [rnd_mul _ _ hb] at h2
  have h3 := clamp_mono h2
  rwa [show clamp 65536 = 65536 from rfl] at h3

/-- What is taken by a part, from 0 to One, isn't more. -/
theorem mulF_part {r p : Int} (hr : 0 ≤ r) (hc : clamp r = r) (hp : 0 ≤ p) (hp1 : p ≤ 65536) : 0 ≤ mulF r p ∧ mulF r p ≤ r := by
  refine ⟨mulF_nonneg hr hp, ?_⟩
  have h := mulF_mono (c := r) hp1 hr
  rw [mulF_comm p r, mulF_comm 65536 r, mulF_one hc] at h
  exact h

def rateP (decay rate steps step : Int) : Int := if decay = 0 then rate else mulF rate (divF (steps - step) steps)
theorem rateP_le {decay rate steps step : Int} (h0 : 0 ≤ rate) (h1 : rate ≤ 2147483647) (h2 : 1 ≤ steps) (h3 : steps ≤ 40) (h4 : 0 ≤ step) (h5 : step ≤ steps - 1) :
    0 ≤ rateP decay rate steps step ∧ rateP decay rate steps step ≤ rate := by
  unfold rateP
  split
  · omega
  · have e1 : clamp steps = steps := clamp_id (by omega) (by omega)
    have e2 : clamp (steps - step) = steps - step := clamp_id (by omega) (by omega)
    exact mulF_part h0 (clamp_id (by omega) h1) (divF_nonneg (by omega) (by omega)) (divF_le_one (by omega) (by omega))

theorem clipL_at (g : List Int) (most : Int) {k : Nat} (h : k < g.length) :
    at0 (clipL g most) k = if most = 0 ∨ highN g g.length ≤ most then clamp (at0 g k) else mulF (at0 g k) (divF most (highN g g.length)) := by
  unfold clipL
  split <;> rw [at0_upto _ h]
theorem clipL_neg (g : List Int) (most : Int) {k : Nat} (h : k < g.length) : at0 (clipL (g.map fun n => -clamp n) most) k = -at0 (clipL g most) k := by
  rw [clipL_at _ _ (by simpa using h), clipL_at _ _ h, List.length_map, highN_neg, at0_map (fun n => -clamp n) rfl]
  split
  · rw [clamp_neg, clamp_clamp]
  · rw [mulF_neg, mulF_clamp_l]
theorem clipL_mono (g : List Int) (most : Int) (h0 : 0 ≤ most) {j k : Nat} (hj : j < g.length) (hk : k < g.length) (h : clamp (at0 g j) ≤ clamp (at0 g k)) :
    at0 (clipL g most) j ≤ at0 (clipL g most) k := by
  rw [clipL_at _ _ hj, clipL_at _ _ hk]
  split
  · exact h
  · have hp : 0 < highN g g.length := by have := highN_nonneg g g.length; omega
    rw [← mulF_clamp_l (at0 g j), ← mulF_clamp_l (at0 g k)]
    exact mulF_mono h (divF_nonneg h0 hp)
theorem clipL_pos (g : List Int) (most : Int) (h0 : 0 ≤ most) {k : Nat} (hk : k < g.length) (h : 0 ≤ clamp (at0 g k)) : 0 ≤ at0 (clipL g most) k := by
  rw [clipL_at _ _ hk]
  split
  · exact h
  · have hp : 0 < highN g g.length := by have := highN_nonneg g g.length; omega
    rw [← mulF_clamp_l (at0 g k)]
    exact mulF_nonneg h (divF_nonneg h0 hp)
theorem clipL_nonpos (g : List Int) (most : Int) (h0 : 0 ≤ most) {k : Nat} (hk : k < g.length) (h : clamp (at0 g k) ≤ 0) : at0 (clipL g most) k ≤ 0 := by
  rw [clipL_at _ _ hk]
  split
  · exact h
  · have hp : 0 < highN g g.length := by have := highN_nonneg g g.length; omega
    rw [← mulF_clamp_l (at0 g k)]
    have := mulF_mono h (divF_nonneg h0 hp)
    rwa [mulF_zero_l] at this

/-- One number's step: M, and the weight behind it. -/
def moveP (how keep mv g : Int) : Int := if how = 1 then addF (mulF keep mv) g else clamp g
def movesL (how keep : Int) (mv g : List Int) : List Int := if how = 1 then upto (fun k => moveP how keep (at0 mv k) (at0 g k)) g.length else mv
def weightsL (how keep rate : Int) (wt mv g : List Int) : List Int := upto (fun k => subF (at0 wt k) (mulF rate (moveP how keep (at0 mv k) (at0 g k)))) g.length
theorem weightsL_zero (how keep : Int) (wt mv g : List Int) (hl : wt.length = g.length) (hok : okL wt = true) : weightsL how keep 0 wt mv g = wt := by
  unfold weightsL
  rw [← hl]
  conv => rhs; rw [← upto_at0 wt]
  congr 1
  funext k
  rw [mulF_zero_l]
  unfold subF
  rw [show clamp 0 = 0 from rfl, Int.sub_zero, clamp_clamp, okL_at0 hok]
end Go.Proofs.Ytejkkbjepgghlaa.Pl
