/- Lists of records held against each other: walks. -/
import Derived.Test.YtblkpibbcapdeaaRecW
namespace Go.Proofs.Ytblkpibbcapdeaa
open Go.RowKit Pl

def sameB (n m : Nat) (rs ss : List Rec) : Bool := (n == m) && (List.range n).all fun j => sameR (recAt rs j) (recAt ss j)
theorem sameB_true {n m : Nat} {rs ss : List Rec} (h : n = m) (ha : ∀ j, j < n → sameR (recAt rs j) (recAt ss j) = true) : sameB n m rs ss = true := by
  unfold sameB
  rw [Bool.and_eq_true, beq_iff_eq, List.all_eq_true]
  exact ⟨h, fun j hj => ha j (List.mem_range.1 hj)⟩
theorem sameB_no {n m : Nat} {rs ss : List Rec} (h : n ≠ m) : sameB n m rs ss = false := by
  unfold sameB
  rw [beq_eq_false_iff_ne.2 h]; rfl
theorem sameB_at {n m : Nat} {rs ss : List Rec} {k : Nat} (hk : k < n) (h : sameR (recAt rs k) (recAt ss k) = false) : sameB n m rs ss = false := by
  cases hb : sameB n m rs ss
  · rfl
  · unfold sameB at hb
    rw [Bool.and_eq_true, List.all_eq_true] at hb
    rw [hb.2 k (List.mem_range.2 hk)] at h
    cases h

theorem RecHeld.pre {m : Option Nat} {B : Nat} {f : Nat → Rec} {k : Nat} {A : Option Addr} {c : Nat} {w : World} (h : RecHeld m B f k (.slice A k c) w) {j : Nat} (hj : j ≤ k) {A' : Option Addr} (hA : 0 < j → A' = A) : RecsK w A' j (upto f j) := by
  refine ⟨upto_length _ _, fun hj0 => ?_⟩
  obtain ⟨b, off, e, hb, hc⟩ := (RecHeld.recs h).cells (by omega)
  refine ⟨b, off, (hA hj0).trans e, hb, fun i hi => ?_⟩
  obtain ⟨cs, h1, h2⟩ := hc i (by omega)
  rw [recAt_upto f (by omega)] at h1
  rw [recAt_upto f hi]
  exact ⟨cs, h1, h2⟩
theorem sameB_self (n : Nat) (rs : List Rec) : sameB n n rs rs = true := sameB_true rfl fun _ _ => sameR_self _
theorem recs_at (c : Cfg) (ds : Data) {w : World} {A : Option Addr} {N : Nat} (h : RecsK w A N (upto (recC c ds) N)) {q : Nat} (hq : q < N) : ∃ b off L k, A = some ⟨b, off, none⟩ ∧ b < w.heap.size ∧
    (w.cell? ⟨b, off + q * 5, none⟩ = some (.int .i64 q) ∧ w.cell? ⟨b, off + q * 5 + 1, none⟩ = some (.slice L c.batch.toNat k) ∧ w.cell? ⟨b, off + q * 5 + 2, none⟩ = some (.int .i64 (ratI c q)) ∧ w.cell? ⟨b, off + q * 5 + 3, none⟩ = some (.int .u64 (rootS (states c ds (q + 1)))) ∧ w.cell? ⟨b, off + q * 5 + 4, none⟩ = some (.int .u64 (chainC c ds (q + 1)))) ∧
    Ints .i64 w L c.batch.toNat ((batI c ds q).map fun (n : Nat) => (n : Int)) ∧ c.batch.toNat ≤ k := by
  obtain ⟨b, off, L, k, e, hb, ⟨h0, h1, h2, h3, h4⟩, hI, hk, _⟩ := h.at hq
  rw [recAt_upto _ hq] at h0 h1 h2 h3 h4 hI hk
  have hl : (recC c ds q).batch.length = c.batch.toNat := by
    show ((batI c ds q).map _).length = _
    rw [List.length_map, batI_length]
  rw [hl] at h1 hI hk
  exact ⟨b, off, L, k, e, hb, ⟨h0, h1, h2, h3, h4⟩, hI, hk⟩
theorem recC_short (c : Cfg) (ds : Data) (hb : c.batch ≤ 8) {n j : Nat} (hj : j < n) : (recAt (upto (recC c ds) n) j).batch.length ≤ 9223372036854775806 := by
  rw [recAt_upto _ hj]
  show ((batI c ds j).map _).length ≤ _
  rw [List.length_map, batI_length]
  omega

end Go.Proofs.Ytblkpibbcapdeaa
