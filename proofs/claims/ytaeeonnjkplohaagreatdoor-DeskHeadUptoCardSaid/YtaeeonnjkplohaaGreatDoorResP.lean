/- The plain law of a course gone on with: the lines of its records, cut and repaired. -/
import Derived.Test.YtaeeonnjkplohaaGreatDoorStoM
import Derived.Test.YtaeeonnjkplohaaGreatDoorJrnA
import Derived.Test.YtaeeonnjkplohaaGreatDoorRecW
import Derived.Test.YtaeeonnjkplohaaGreatDoorArgs
import Derived.Test.YtaeeonnjkplohaaGreatDoorTreeW
import Derived.Test.YtaeeonnjkplohaaGreatDoorDrawW
import Derived.Test.YtaeeonnjkplohaaGreatDoorWhole
import Derived.Deep.DeepCutAuto
import Derived.Deep.CutBlock
import Derived.Outline
import Derived.StillTailTactics
import Derived.BigRegion
import Derived.ChangeAlike
namespace Go.Proofs.YtaeeonnjkplohaaGreatDoor
open Go.RowKit Go.Sort Pl

/-- The lines of the first m records. -/
def linesK (F : Nat → Rec) (m : Nat) : List UInt8 := ((upto F m).map lineT).flatten
theorem linesK_succ (F : Nat → Rec) (m : Nat) : linesK F (m + 1) = linesK F m ++ lineT (F m) := by
  unfold linesK
  rw [upto_succ, List.map_append, List.flatten_append]
  simp
/-- Records that may be told, the j-th of step j. -/
def GoodTo (F : Nat → Rec) (m : Nat) : Prop := ∀ j, j < m → goodR (F j) = true ∧ (F j).step = (j : Int)
theorem GoodTo.le {F : Nat → Rec} {m k : Nat} (h : GoodTo F m) (hk : k ≤ m) : GoodTo F k := fun j hj => h j (by omega)
theorem linesK_len {F : Nat → Rec} : ∀ {m : Nat}, GoodTo F m → (linesK F m).length ≤ 241 * m
  | 0, _ => Nat.zero_le _
  | m + 1, h => by
    rw [linesK_succ, List.length_append]
    have h1 := linesK_len (h.le (Nat.le_succ m))
    have h2 := line_len (h m (by omega)).1
    have h3 : (lineT (F m)).length = ([32].intercalate (wordsR (F m))).length + 1 := by unfold lineT; rw [List.length_append]; rfl
    omega
/-- Lines from the k-th on. -/
theorem begK_lines (F : Nat → Rec) (t : List UInt8) : ∀ (d k : Nat), GoodTo F (k + d) → begK (((List.range' k d).map fun j => lineT (F j)).flatten ++ t) k = ((List.range' k d).map F ++ (begK t (k + d)).1, (((List.range' k d).map fun j => lineT (F j)).flatten).length + (begK t (k + d)).2)
  | 0, k, _ => by simp
  | d + 1, k, h => by
    have ih := begK_lines F t d (k + 1) (fun j hj => h j (by omega))
    obtain ⟨g1, g2⟩ := h k (by omega)
    rw [List.range'_succ, List.map_cons, List.flatten_cons, List.map_cons, List.append_assoc]
    rw [begK_step (parse_line g1 _) g2, List.drop_left, ih, show k + 1 + d = k + (d + 1) by omega, List.length_append]
    simp [Nat.add_assoc]
theorem linesK_range (F : Nat → Rec) (m : Nat) : linesK F m = (((List.range' 0 m).map fun j => lineT (F j)).flatten) := by
  unfold linesK upto
  rw [List.map_map, ← List.range_eq_range']
  rfl
theorem beg_lines {F : Nat → Rec} {m : Nat} (h : GoodTo F m) (t : List UInt8) : beg (linesK F m ++ t) = (upto F m ++ (begK t m).1, (linesK F m).length + (begK t m).2) := by
  rw [beg_K, linesK_range, begK_lines F t m 0 (by rw [Nat.zero_add]; exact h), Nat.zero_add]
  congr 2
  unfold upto
  rw [List.range_eq_range']
theorem begK_nil (k : Nat) : begK [] k = ([], 0) := rfl
theorem beg_all {F : Nat → Rec} {m : Nat} (h : GoodTo F m) : beg (linesK F m) = (upto F m, (linesK F m).length) := by
  have := beg_lines h []
  rw [List.append_nil, begK_nil, List.append_nil] at this
  exact this
theorem rootS_lt (s : List Int × List Int) : 0 ≤ rootS s ∧ rootS s < 2305843009213693951 := by
  unfold rootS rootO
  split
  · unfold rootI pairI
    exact ⟨ofI_lo _ _, ofI_hi _ _⟩
  · exact ⟨by omega, by omega⟩
theorem recC_good {c : Cfg} {ds : Data} (hf : Fine c ds) {m : Nat} (hm : (m : Int) ≤ c.steps) : GoodTo (recC c ds) m := fun j hj => by
  refine ⟨goodR_iff.2 ⟨?_, ?_, ?_, ?_, ?_, ?_⟩, rfl⟩
  · have := hf.ok.st
    show (0 : Int) ≤ (j : Int) ∧ (j : Int) ≤ 99
    omega
  · have hr := rateP_le (decay := c.decay) hf.ok.ra.1 hf.ok.ra.2 hf.ok.st.1 hf.ok.st.2 (step := j) (by omega) (by omega)
    have := hf.ok.ra
    exact ⟨hr.1, Int.le_trans hr.2 this.2⟩
  · have := rootS_lt (states c ds (j + 1))
    exact this
  · have h1 := ofI_lo 6 (chW (chainC c ds j) (recB c ds j))
    have h2 := ofI_hi 6 (chW (chainC c ds j) (recB c ds j))
    unfold pS
    exact ⟨h1, by show ofI 6 _ < _; omega⟩
  · show ((batI c ds j).map _).length ≤ 8
    rw [List.length_map, batI_length]
    have := hf.ok.ba
    omega
  · intro n hn
    obtain ⟨x, hx, rfl⟩ := List.mem_map.1 (show n ∈ (batI c ds j).map _ from hn)
    have := batI_lt c ds hf.d1 j x hx
    have := hf.d16
    show (0 : Int) ≤ (x : Int) ∧ (x : Int) ≤ 99
    omega
end Go.Proofs.YtaeeonnjkplohaaGreatDoor
