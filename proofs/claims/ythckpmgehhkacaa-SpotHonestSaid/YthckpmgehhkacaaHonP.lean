/- A chunk that is told of a list opens, with its path, to the list's root: plainly. -/
import Derived.Test.YthckpmgehhkacaaSpot
namespace Go.Proofs.Ythckpmgehhkacaa
open Go.RowKit Pl

theorem opens_honest (xs : List Int) (n : Nat) (hl : xs.length = n) (h1 : 1 ≤ n) (h2 : n ≤ 200) (k : Nat) (hk : k < (n + 3) / 4) :
    pathE n k = 0 ∧ opensE k n (pathO xs k).length (chunkO xs k).length = 0 ∧ opensO (rootO xs) k n (chunkO xs k) (pathO xs k) = true := by
  have hlv : lvE n = 0 := by unfold lvE; rw [if_neg (by omega), if_neg (by omega)]
  have hp : pathE n k = 0 := by
    unfold pathE
    rw [if_neg (by simp [hlv]), if_pos (inB_iffT.2 (by omega))]
  have hpo : pathO xs k = wayI (leavesI xs) k := by unfold pathO; rw [hl, if_pos hp]; simp
  have hco : chunkO xs k = (xs.drop (4 * k)).take 4 := by unfold chunkO; rw [hl, if_pos hp]; simp
  have hLL : (leavesI xs).length = (n + 3) / 4 := by rw [leavesI_length, hl]
  have hpl : (pathO xs k).length = deepP k ((n + 3) / 4) := by rw [hpo, wayI_length, hLL]
  have hcl : (chunkO xs k).length = min 4 (n - 4 * k) := by rw [hco, List.length_take, List.length_drop, hl]
  have hb : climbB (k : Int) (n : Int) := ⟨⟨by omega, by omega⟩, by omega, by omega⟩
  have hce : climbE k n (pathO xs k).length = 0 := by
    unfold climbE
    rw [if_pos hb, if_pos (by rw [hpl]; simp)]
  have hoe : opensE k n (pathO xs k).length (chunkO xs k).length = 0 := by
    unfold opensE
    rw [if_neg (by simp [hce]), if_neg (by rw [hcl]; simp; omega)]
  have hleaf : at0 (leavesI (chunkO xs k)) 0 = at0 (leavesI xs) k := by
    unfold leavesI
    rw [at0_upto _ (by rw [hcl]; omega), at0_upto _ (by rw [hl]; exact hk)]
    unfold leafI
    rw [Nat.mul_zero, List.drop_zero, List.take_of_length_le (by rw [hcl]; omega), hco]
  have hup := upI_way (leavesI xs) k (by rw [hLL]; exact hk)
  rw [hLL] at hup
  have hclimb : climbO k n (at0 (leavesI xs) k) (pathO xs k) = rootI xs := by
    unfold climbO
    rw [if_pos hce, hpo]
    simp only [Int.toNat_natCast]
    rw [hup]
    unfold rootI
    rw [hl]
  have hro : rootO xs = rootI xs := by unfold rootO; rw [hl, if_pos hlv]
  refine ⟨hp, hoe, ?_⟩
  unfold opensO
  rw [hoe, hleaf, hclimb, hro]
  have b1 : 0 ≤ rootI xs := by unfold rootI pairI; exact ofI_lo _ _
  have b2 : rootI xs < 2305843009213693951 := by unfold rootI pairI; exact ofI_hi _ _
  rw [Int.emod_eq_of_lt b1 b2]
  simp
end Go.Proofs.Ythckpmgehhkacaa
