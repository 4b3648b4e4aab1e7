/- Plain laws about search by halves. No program in sight. -/
import Derived.Test.YtblkpibbcapdeaaPl
import Derived.Test.YtblkpibbcapdeaaFixW
import Derived.Test.YtblkpibbcapdeaaMem
import Derived.OwnWalk
import Derived.LoopTactic
import Derived.WalkSmall
namespace Go.Proofs.Ytblkpibbcapdeaa.Pl

/-- By halves: from low (the same there, or -1) and high (not the same there); how often it was asked. -/
def bisN (same : Nat → Bool) : Nat → Int → Int → Int → Int × Int
  | 0, _, high, asks => (high, asks)
  | f + 1, low, high, asks => if high ≤ low + 1 then (high, asks) else
      if same (low + (high - low) / 2).toNat then bisN same f (low + (high - low) / 2) high (asks + 1) else bisN same f low (low + (high - low) / 2) (asks + 1)
def findP (same : Nat → Bool) (n : Nat) : Int × Int := if same (n - 1) then (n, 1) else bisN same n (-1) (n - 1) 1

theorem bisN_done (same : Nat → Bool) (f : Nat) (low high asks : Int) (h : high ≤ low + 1) : bisN same f low high asks = (high, asks) := by
  cases f with
  | zero => rfl
  | succ f => rw [bisN, if_pos h]
theorem bisN_yes (same : Nat → Bool) (f : Nat) (low high asks : Int) (h : ¬ high ≤ low + 1) (hs : same (low + (high - low) / 2).toNat = true) :
    bisN same (f + 1) low high asks = bisN same f (low + (high - low) / 2) high (asks + 1) := by rw [bisN, if_neg h, if_pos hs]
theorem bisN_no (same : Nat → Bool) (f : Nat) (low high asks : Int) (h : ¬ high ≤ low + 1) (hs : same (low + (high - low) / 2).toNat = false) :
    bisN same (f + 1) low high asks = bisN same f low (low + (high - low) / 2) (asks + 1) := by rw [bisN, if_neg h, if_neg (by rw [hs]; simp)]

/-- Where it is found that they part, they part, and just ahead they didn't. -/
theorem bisN_place (same : Nat → Bool) (f : Nat) : ∀ (low high asks : Int), -1 ≤ low → low < high → high - low ≤ f → (low = -1 ∨ same low.toNat = true) → same high.toNat = false →
    0 ≤ (bisN same f low high asks).1 ∧ (bisN same f low high asks).1 ≤ high ∧ same (bisN same f low high asks).1.toNat = false ∧
      ((bisN same f low high asks).1 = 0 ∨ same ((bisN same f low high asks).1 - 1).toNat = true) := by
  induction f with
  | zero => intro low high asks h1 h2 h3; omega
  | succ f ih =>
    intro low high asks h1 h2 h3 h4 h5
    by_cases hd : high ≤ low + 1
    · rw [bisN_done _ _ _ _ _ hd]
      refine ⟨by dsimp only; omega, Int.le_refl _, h5, ?_⟩
      rcases h4 with h4 | h4
      · left; dsimp only; omega
      · right; dsimp only; rw [show high - 1 = low by omega]; exact h4
    · cases hs : same (low + (high - low) / 2).toNat
      · rw [bisN_no _ _ _ _ _ hd hs]
        have := ih low (low + (high - low) / 2) (asks + 1) h1 (by omega) (by omega) h4 hs
        exact ⟨this.1, by omega, this.2.2⟩
      · rw [bisN_yes _ _ _ _ _ hd hs]
        have := ih (low + (high - low) / 2) high (asks + 1) (by omega) (by omega) (by omega) (.inr hs) h5
        exact ⟨this.1, by omega, this.2.2⟩
/-- It isn't asked often. -/
theorem bisN_asks (same : Nat → Bool) (j : Nat) : ∀ (f : Nat) (low high asks : Int), low < high → high - low ≤ 2 ^ j → asks ≤ (bisN same f low high asks).2 ∧ (bisN same f low high asks).2 ≤ asks + j := by
  induction j with
  | zero =>
    intro f low high asks h1 h2
    rw [bisN_done _ _ _ _ _ (by omega)]
    exact ⟨Int.le_refl _, by dsimp only; omega⟩
  | succ j ih =>
    intro f low high asks h1 h2
    cases f with
    | zero => exact ⟨Int.le_refl _, by simp only [bisN]; omega⟩
    | succ f =>
      have hp : (2 : Int) ^ (j + 1) = 2 ^ j * 2 := by rw [Int.pow_succ]
      by_cases hd : high ≤ low + 1
      · rw [bisN_done _ _ _ _ _ hd]
        exact ⟨Int.le_refl _, by dsimp only; omega⟩
      · cases hs : same (low + (high - low) / 2).toNat
        · rw [bisN_no _ _ _ _ _ hd hs]
          have := ih f low (low + (high - low) / 2) (asks + 1) (by omega) (by omega)
          omega
        · rw [bisN_yes _ _ _ _ _ hd hs]
          have := ih f (low + (high - low) / 2) high (asks + 1) (by omega) (by omega)
          omega

theorem findP_place (same : Nat → Bool) (n : Nat) (hn : 0 < n) : 0 ≤ (findP same n).1 ∧ (findP same n).1 ≤ n ∧
    ((findP same n).1 = n → same (n - 1) = true) ∧ ((findP same n).1 ≠ n → same (findP same n).1.toNat = false ∧ ((findP same n).1 = 0 ∨ same ((findP same n).1 - 1).toNat = true)) := by
  unfold findP
  cases hs : same (n - 1)
  · rw [if_neg (by simp)]
    have h := bisN_place same n (-1) (n - 1) 1 (by omega) (by omega) (by omega) (.inl rfl) (by rw [show ((n : Int) - 1).toNat = n - 1 by omega]; exact hs)
    exact ⟨h.1, by omega, fun e => by omega, fun _ => h.2.2⟩
  · rw [if_pos rfl]
    exact ⟨by dsimp only; omega, by dsimp only; omega, fun _ => rfl, fun h => absurd rfl h⟩
theorem findP_asks (same : Nat → Bool) (n j : Nat) (hn : 0 < n) (hj : n ≤ 2 ^ j) : 1 ≤ (findP same n).2 ∧ (findP same n).2 ≤ 1 + j := by
  unfold findP
  cases hs : same (n - 1)
  · rw [if_neg (by simp)]
    exact bisN_asks same j n (-1) (n - 1) 1 (by omega) (by have : ((n : Nat) : Int) ≤ ((2 ^ j : Nat) : Int) := by exact_mod_cast hj
                                                           rw [Int.natCast_pow] at this; simpa using this)
  · rw [if_pos rfl]
    exact ⟨by dsimp only; omega, by dsimp only; omega⟩
end Go.Proofs.Ytblkpibbcapdeaa.Pl

/- What audit.Find computes: a search by halves, by a function that counts: walks, each function once. -/
namespace Go.Proofs.Ytblkpibbcapdeaa
open Go.RowKit Pl

/-- The slice of n records at A has these chains. -/
structure Chains (w : World) (A : Option Addr) (n : Nat) (xs : List Int) : Prop where
  len : xs.length = n
  cells : 0 < n → ∃ b off, A = some ⟨b, off, none⟩ ∧ b < w.heap.size ∧ ∀ j, j < n → w.cell? ⟨b, off + j * 5 + 4, none⟩ = some (.int .u64 (at0 xs j))
theorem Chains.below {w w' : World} {A : Option Addr} {n : Nat} {xs : List Int} (h : Chains w A n xs) (hb : Below w.heap.size w w') : Chains w' A n xs :=
  ⟨h.len, fun hn => by
    obtain ⟨b, off, e, hbl, hc⟩ := h.cells hn
    exact ⟨b, off, e, Nat.lt_of_lt_of_le hbl hb.size, fun j hj => (hb.cell (p := ⟨b, off + j * 5 + 4, none⟩) hbl).trans (hc j hj)⟩⟩

/-- Are the chains at place i the same? -/
def sameC (xs ys : List Int) (i : Nat) : Bool := at0 xs i == at0 ys i

/-- What Find's own variables hold, q being how often it was asked; what was there stands. -/
structure FW (w : World) (A B : Option Addr) (n c d : Nat) (q : Int) (wr : World) : Prop where
  asks : wr.cell? ⟨w.heap.size + 2, 0, none⟩ = some (.int .i64 q)
  free : wr.frozen? ⟨w.heap.size + 2, 0, none⟩ = false
  a : wr.cell? ⟨w.heap.size, 0, none⟩ = some (.slice A n c)
  b : wr.cell? ⟨w.heap.size + 1, 0, none⟩ = some (.slice B n d)
  below : Below w.heap.size w wr
theorem FW.step {w : World} {A B : Option Addr} {n c d : Nat} {q : Int} {wr : World} (h : FW w A B n c d q wr) (k : Nat) : FW w A B n c d (q + 1) ((wr.setCell ⟨w.heap.size + 2, 0, none⟩ (.int .i64 (q + 1))).drewN k) where
  asks := World.cell?_setCell_same' _ _ _ (by rw [h.asks]; rfl)
  free := by
    show (wr.setCell _ _).frozen? _ = false
    rw [World.frozen?_setCell]; exact h.free
  a := by
    show (wr.setCell _ _).cell? _ = _
    rw [World.cell?_setCell_other _ _ _ _ (by intro h; injection h with h; omega)]; exact h.a
  b := by
    show (wr.setCell _ _).cell? _ = _
    rw [World.cell?_setCell_other _ _ _ _ (by intro h; injection h with h; omega)]; exact h.b
  below := bel_drewN (h.below.setCell (by simp) _) _

end Go.Proofs.Ytblkpibbcapdeaa
