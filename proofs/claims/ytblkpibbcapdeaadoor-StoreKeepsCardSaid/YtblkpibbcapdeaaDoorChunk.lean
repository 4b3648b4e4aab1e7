/- slices.Chunk, an iterator over the pieces of a slice: what it hands to the loop's body, piece by piece. -/
import Derived.RangeFuncBox
import Derived.RangeFuncNested
import Derived.RangeFuncBound
import Derived.RangeFuncCalls
import Derived.RangeFuncLeaves
import Derived.Shelf.Abstract
import Derived.Shelf.RegionOpen
import Derived.OwnWalkIn
import Derived.TacticsInMore
import Derived.LoopNIn
import Derived.LoopIn
import Derived.Sort.QuietIn
import Derived.Test.YtblkpibbcapdeaaDoorFixW
import Derived.Test.YtblkpibbcapdeaaDoorMem
import Derived.OrdersHeld
import Derived.OrdersIn
namespace Go.Proofs.YtblkpibbcapdeaaDoor
open Go.RowKit Go.Shelf Pl

attribute [local go_sem] Oper.semAt_some

/-- A piece of n numbers: where it begins, how many it has. -/
abbrev Piece (n m : Nat) := { x : Nat × Nat // x.1 + x.2 ≤ n ∧ 1 ≤ x.2 ∧ x.2 ≤ m }
def pieceV (b off : Nat) {n m : Nat} (x : Piece n m) : Value := .slice (some ⟨b, off + x.1.1, none⟩) x.1.2 x.1.2
/-- Are these the pieces of m, one behind the other, from the first on? -/
def Cut (n m : Nat) (l : List (Piece n m)) : Prop := ∀ i (h : i < l.length), l[i].1.1 = i * m ∧ l[i].1.2 = min m (n - i * m)

/-- The two boxes that the closure reads hold what they held. -/
def KC (Bs Bk : Nat) (W W' : World) : Prop := W'.cell? ⟨Bs, 0, none⟩ = W.cell? ⟨Bs, 0, none⟩ ∧ W'.cell? ⟨Bk, 0, none⟩ = W.cell? ⟨Bk, 0, none⟩
theorem KC.refl (Bs Bk : Nat) (W : World) : KC Bs Bk W W := ⟨rfl, rfl⟩
theorem KC.trans {Bs Bk : Nat} {A B C : World} (h : KC Bs Bk A B) (h' : KC Bs Bk B C) : KC Bs Bk A C := ⟨h'.1.trans h.1, h'.2.trans h.2⟩
theorem KC.drewN {Bs Bk : Nat} {A B : World} (h : KC Bs Bk A B) (k : Nat) : KC Bs Bk A (B.drewN k) := h
theorem KC.put {Bs Bk : Nat} (W : World) (l : Nat) (o' : Obj) (h1 : Bs ≠ l) (h2 : Bk ≠ l) : KC Bs Bk W (W.putObj l o') := by
  have h : ∀ b, b ≠ l → (W.putObj l o').cell? ⟨b, 0, none⟩ = W.cell? ⟨b, 0, none⟩ := fun b hb => World.cell?_of_block (by simp [World.putObj, Ne.symm hb])
  exact ⟨h _ h1, h _ h2⟩

theorem Cut.snoc {n m : Nat} {l : List (Piece n m)} (h : Cut n m l) (x : Piece n m) {s : Nat} (hs : s = l.length * m) (hx : x.1.1 = s ∧ x.1.2 = min m (n - s)) : Cut n m (l ++ [x]) := by
  intro i hi
  rw [List.length_append, List.length_singleton] at hi
  rcases Nat.lt_or_ge i l.length with h1 | h1
  · rw [List.getElem_append_left h1]; exact h i h1
  · obtain rfl : i = l.length := by omega
    rw [List.getElem_concat_length rfl, ← hs]
    exact hx

end Go.Proofs.YtblkpibbcapdeaaDoor

/- A region that draws its order, in the body of a loop over an iterator: what holds of it outside of any round holds in the round. No program in sight. -/
namespace Go.Proofs.YtblkpibbcapdeaaDoor
open Go.RowKit

section
variable {n l : Nat} {P : Program} {ops : Array Oper} {Q : Exit → Act → World → Prop} {md : Region.Mode}

theorem rowsIn_wide {r : String} {args : Array Value} {w : World} {R : Value → World → Prop} (h : Rows P r args w R) : RowsIn (Fence.wide.inRound l) n P r args w R := fun c cs _ => by
  obtain ⟨v, w', hr, hs⟩ := h c cs
  exact ⟨v, w', hr, stepsIn_wide.2 hs⟩

theorem wpOpIn_of {i : Nat} {K K' : Act → World → Prop} {a : Act} {w : World} (hnd : ∀ o, ops[i]? = some o → ∀ c, o.op ≠ .defer c) (hlo : ¬ LetsOut Q) (hK : ∀ a w, K a w → K' a w)
    (h : wpOp P ops Q i K a w) : wpOpIn (Fence.wide.inRound l) n P ops Q i K' a w := by
  unfold wpOp at h
  unfold wpOpIn
  cases ho : ops[i]? with
  | none => simp only [ho] at h; exact hK _ _ h
  | some o =>
    simp only [ho] at h
    show (if Region.wanted o (yielded ops a.tmps) = true then _ else _)
    by_cases hw : Region.wanted o (yielded ops a.tmps) = true
    · rw [if_pos hw] at h ⊢
      rcases h with h | h
      · refine ⟨fun f _ => trivial, ?_⟩
        rw [Oper.semAt_eq _ _ _ (hnd o ho)]
        unfold Oper.wp at h
        generalize (execOp a.eval o).run P w = r at *
        cases r with
        | ok x w' =>
          cases x <;> simp only [Oper.upon, Oper.uponIn] at h ⊢
          case value v => exact hK _ _ h
          case skip => exact hK _ _ h
          case defer d => exact hK _ _ h
          case enter f args =>
            refine ⟨fun h => by simp [Fence.wide] at h, CallsIn.inRound l (callsIn_wide.2 (h.mono fun e w'' he => ?_))⟩
            cases e <;> first | exact hK _ _ he | exact he
          case row r args => exact ⟨fun h => by simp [Fence.wide] at h, (rowsIn_wide h).mono fun v w'' he => hK _ _ he⟩
        | halt x w' => cases x <;> simp only [Oper.upon, Oper.uponIn] at h ⊢ <;> exact h
      · exact absurd h.2 hlo
    · rw [if_neg hw] at h ⊢
      exact ⟨fun f _ => trivial, hK _ _ h⟩

theorem wpAnyIn_of (hnd : ∀ (i : Nat) (o : Oper), ops[i]? = some o → ∀ c, o.op ≠ .defer c) (hlo : ¬ LetsOut Q) : ∀ (fuel : Nat) (listed : Array Bool) (a : Act) (w : World), wpAny P md ops Q fuel listed a w →
    wpAnyIn (Fence.wide.inRound l) n P md ops Q fuel listed a w
  | 0, _, _, _, h => h
  | fuel + 1, _, _, _, h => ⟨h.1, fun i hi => wpOpIn_of (hnd i) hlo (fun a' w' h' => wpAnyIn_of hnd hlo fuel _ a' w' h') (h.2 i hi)⟩

/-- A region that draws, in a round: the walk over its orders, outside of any round. -/
theorem wpIn_region_of {id : Nat} {a : Act} {w : World} (hm : P.follows .mixedOrders = true) (hnd : (ops.all fun o => match o.op with | .defer _ => false | _ => true) = true) (hlo : ¬ LetsOut Q)
    (h : wpAny P .any ops Q ops.size (Array.replicate ops.size false) a w.drew) : (Code.region id ops true).wpIn (Fence.wide.inRound l) n P Q a w := by
  refine wpIn_region_any hm (wpAnyIn_of (fun i o ho c hc => ?_) hlo _ _ _ _ h)
  rw [Array.all_eq_true] at hnd
  obtain ⟨hi, rfl⟩ := Array.getElem?_eq_some_iff.1 ho
  have := hnd i hi
  rw [hc] at this
  exact absurd this (by simp)
end
end Go.Proofs.YtblkpibbcapdeaaDoor
