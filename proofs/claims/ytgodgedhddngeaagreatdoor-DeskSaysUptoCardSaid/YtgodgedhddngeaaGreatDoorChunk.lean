/- slices.Chunk, an iterator over the pieces of a slice: what it hands to the loop's body, piece by piece. -/
import Derived.Test.YtgodgedhddngeaaGreatDoorFixW
import Derived.RangeFuncBox
import Derived.RangeFuncNested
import Derived.RangeFuncBound
import Derived.RangeFuncCalls
import Derived.RangeFuncLeaves
import Derived.Shelf.Abstract
import Derived.Shelf.RegionOpen
import Derived.OwnWalkIn
import Derived.TacticsInMore
import Derived.LoopNIn
import Derived.LoopIn
import Derived.Sort.QuietIn
import Derived.OrdersHeld
import Derived.OrdersIn
set_option maxRecDepth 100000
set_option maxHeartbeats 16000000
namespace Go.Proofs.YtgodgedhddngeaaGreatDoor
open Go.RowKit Go.Shelf Pl
attribute [local go_sem] Oper.semAt_some
abbrev Piece (n m : Nat) := { x : Nat × Nat // x.1 + x.2 ≤ n ∧ 1 ≤ x.2 ∧ x.2 ≤ m }
def pieceV (b off : Nat) {n m : Nat} (x : Piece n m) : Value := .slice (some ⟨b, off + x.1.1, none⟩) x.1.2 x.1.2
def Cut (n m : Nat) (l : List (Piece n m)) : Prop := ∀ i (h : i < l.length), l[i].1.1 = i * m ∧ l[i].1.2 = min m (n - i * m)
def KC (Bs Bk : Nat) (W W' : World) : Prop := W'.cell? ⟨Bs, 0, none⟩ = W.cell? ⟨Bs, 0, none⟩ ∧ W'.cell? ⟨Bk, 0, none⟩ = W.cell? ⟨Bk, 0, none⟩
theorem KC.refl (Bs Bk : Nat) (W : World) : KC Bs Bk W W := ⟨rfl, rfl⟩
theorem KC.trans {Bs Bk : Nat} {A B C : World} (h : KC Bs Bk A B) (h' : KC Bs Bk B C) : KC Bs Bk A C := ⟨h'.1.trans h.1, h'.2.trans h.2⟩
theorem KC.put {Bs Bk : Nat} (W : World) (l : Nat) (o' : Obj) (h1 : Bs ≠ l) (h2 : Bk ≠ l) : KC Bs Bk W (W.putObj l o') := by
 have h : ∀ b, b ≠ l → (W.putObj l o').cell? ⟨b, 0, none⟩ = W.cell? ⟨b, 0, none⟩ := fun b hb => World.cell?_of_block (by simp [World.putObj, Ne.symm hb])
 exact ⟨h _ h1, h _ h2⟩
theorem Cut.snoc {n m : Nat} {l : List (Piece n m)} (h : Cut n m l) (x : Piece n m) {s : Nat} (hs : s = l.length * m) (hx : x.1.1 = s ∧ x.1.2 = min m (n - s)) : Cut n m (l ++ [x]) := by
 intro i hi
 rw [List.length_append, List.length_singleton] at hi
 rcases Nat.lt_or_ge i l.length with h1 | h1
 ·rw [List.getElem_append_left h1]; exact h i h1
 ·obtain rfl : i = l.length := by omega
  rw [List.getElem_concat_length rfl, ← hs]
  exact hx
theorem chunk_in (nn : Nat) (hnn : 1 ≤ nn) (l Bs Bk b off len cap m : Nat) (hm : 1 ≤ m) (hm4 : m ≤ 4) (hlen : len ≤ 200) (hcap : len ≤ cap)
  (J Jx : List (Piece len m) → World → Prop) (hJd : ∀ pre W k, J pre W → J pre (W.drewN k))
  (hY : ∀ (pre : List (Piece len m)) (x : Piece len m) W, J pre W → pre.length < len → YieldAt Fence.wide (nn - 1) Tryz.prog l #[pieceV b off x] W fun e W' =>
   (e = .returned (.bool true) ∧ J (pre ++ [x]) W' ∧ KC Bs Bk W W') ∨ (e = .returned (.bool false) ∧ Jx (pre ++ [x]) W'))
  (W : World) (hBs : W.cell? ⟨Bs, 0, none⟩ = some (.slice (some ⟨b, off, none⟩) len cap)) (hBk : W.cell? ⟨Bk, 0, none⟩ = some (.int .i64 m)) (h0 : J [] W) :
  CallsIn Fence.wide nn Tryz.prog 204 #[.func (.yield l) #[] #[], .pointer (some ⟨Bs, 0, none⟩), .pointer (some ⟨Bk, 0, none⟩)] W fun e W' => (∃ v, e = .returned v) ∧
   ((∃ ys, (Cut len m ys ∧ len ≤ ys.length * m) ∧ J ys W') ∨ (∃ pre, Cut len m pre ∧ Jx pre W')) := by
 refine callsIn_of_wp Tryz.func204 rfl trivial ?_ rfl
 simp only [Tryz.ntmps204, List.size_toArray, List.length_cons, List.length_nil, Nat.reduceAdd, Nat.reduceSub, Array.replicate_succ, Array.replicate_zero, List.push_toArray, List.append_toArray, List.nil_append, List.cons_append]
 gi_wp2
 gi_loopw [4] (fun i wr => ∃ (ys : List (Piece len m)) (s : Nat), s = ys.length * m ∧ s < len + m ∧ i = .int .i64 (s : Int) ∧ Cut len m ys ∧ J ys wr ∧ KC Bs Bk W wr) (fun i _ => len - (intOf i).toNat)
 case atStart => exact ⟨[], 0, by simp, by omega, rfl, fun i h => absurd h (by simp), h0, KC.refl _ _ _⟩
 case round =>
  obtain ⟨ys, s, hs, hs2, rfl, hcut, hJs, hnx⟩ := hrel
  have c1 := hnx.1.trans hBs
  have c2 := hnx.2.trans hBk
  have HS := Lib.hid hs
  have HC := Lib.hid hcut
  clear hs hcut
  have hln : s < len → ys.length < len := fun h => by
   have := HS.out
   have : ys.length * 1 ≤ ys.length * m := Nat.mul_le_mul_left _ hm
   omega
  have z1 : (0 : Int) ≤ (s : Int) := Int.natCast_nonneg _
  by_cases hlt : s < len
  ·have hl1 := hln hlt
   clear hln
   have z2 : (s : Int) < (len : Int) := by omega
   by_cases hfull : m ≤ len - s
   ·have i1 : (m : Int) ≤ ((len - s : Nat) : Int) := by omega
    gi_wp2
    gi_quiet (fail)
    obtain ⟨fn, tmps, assign, body, hy, hR⟩ := hY ys ⟨(s, m), by omega, hm, Nat.le_refl _⟩ (wr.drewN nq) (hJd _ _ _ hJs) hl1
    dsimp only [pieceV] at hy hR
    gi_wp2
    refine hR.mono ?_
    rintro e W3 (⟨rfl, hJ3, hk3⟩ | ⟨rfl, hJx3⟩)
    ·have d1 := hk3.2.trans c2
     gi_wp2
     go_roundw
     case rel => exact ⟨_, s + m, by rw [List.length_append, List.length_singleton, Nat.add_mul, Nat.one_mul, ← HS.out], by omega, by go_num, Cut.snoc HC.out _ HS.out (by dsimp only; omega), hJ3, hnx.trans hk3⟩
     case measure => simp [intOf]; omega
    ·gi_wp2
     refine bodyPost_ret (results_none rfl _ _ _) rfl ?_
     exact ⟨⟨_, rfl⟩, .inr ⟨_, Cut.snoc HC.out _ HS.out (by dsimp only; omega), hJx3⟩⟩
   ·have i1 : ((len - s : Nat) : Int) < (m : Int) := by omega
    gi_wp2
    gi_quiet (fail)
    obtain ⟨fn, tmps, assign, body, hy, hR⟩ := hY ys ⟨(s, len - s), by dsimp only; omega, by dsimp only; omega, by dsimp only; omega⟩ (wr.drewN nq) (hJd _ _ _ hJs) hl1
    dsimp only [pieceV] at hy hR
    gi_wp2
    refine hR.mono ?_
    rintro e W3 (⟨rfl, hJ3, hk3⟩ | ⟨rfl, hJx3⟩)
    ·have d1 := hk3.2.trans c2
     gi_wp2
     go_roundw
     case rel => exact ⟨_, s + m, by rw [List.length_append, List.length_singleton, Nat.add_mul, Nat.one_mul, ← HS.out], by omega, by go_num, Cut.snoc HC.out _ HS.out (by dsimp only; omega), hJ3, hnx.trans hk3⟩
     case measure => simp [intOf]; omega
    ·gi_wp2
     refine bodyPost_ret (results_none rfl _ _ _) rfl ?_
     exact ⟨⟨_, rfl⟩, .inr ⟨_, Cut.snoc HC.out _ HS.out (by dsimp only; omega), hJx3⟩⟩
  ·gi_wp2
   go_end0
   exact ⟨⟨_, rfl⟩, .inl ⟨_, ⟨HC.out, by rw [← HS.out]; omega⟩, hJs⟩⟩
theorem chunk_made (A : Option Addr) (n c m : Nat) (hm : 1 ≤ m) (w : World) :
  Calls Tryz.prog 178 #[.slice A n c, .int .i64 m] w fun e w' => e = .returned (.func (.func 204) #[] #[.pointer (some ⟨w.heap.size, 0, none⟩), .pointer (some ⟨w.heap.size + 1, 0, none⟩)]) ∧
   w' = (w.alloc (.cells #[.slice A n c] 56)).alloc (.cells #[.int .i64 m] 3) := by
 have hmf : ∀ (fn : Fn) (first cap : Array Value) (w : World), (Instr.makeFunc fn first cap).run Tryz.prog w = .ok (.func fn first cap) w := fun _ _ _ _ => rfl
 have h1 : ((m : Int) < 1) = False := by simp; omega
 go_enter Tryz.func178, Tryz.ntmps178
 go_wp2
 go_ret
 exact ⟨rfl, rfl⟩
theorem chunk_stops (nn : Nat) (hnn : 1 ≤ nn) (Bs Bk b off len cap m : Nat) (hm : 1 ≤ m) (hm4 : m ≤ 4) (hlen : len ≤ 200) (hcap : len ≤ cap) (w : World) (hbs : Bs < w.heap.size) (hbk : Bk < w.heap.size)
  (hBs : w.cell? ⟨Bs, 0, none⟩ = some (.slice (some ⟨b, off, none⟩) len cap)) (hBk : w.cell? ⟨Bk, 0, none⟩ = some (.int .i64 m)) :
  SeqStopsK Fence.wide nn Tryz.prog 204 #[.pointer (some ⟨Bs, 0, none⟩), .pointer (some ⟨Bk, 0, none⟩)] (fun x : Piece len m => #[pieceV b off x]) (KC Bs Bk) (fun ys => Cut len m ys ∧ len ≤ ys.length * m) (Cut len m) len w :=
 fun l J Jx W hW hJ _ hY h0 => by
  have c1 := (hW.cell (p := ⟨Bs, 0, none⟩) hbs).trans hBs
  have c2 := (hW.cell (p := ⟨Bk, 0, none⟩) hbk).trans hBk
  refine chunk_in nn hnn l Bs Bk b off len cap m hm hm4 hlen hcap J Jx (fun pre W k h => hJ pre W (W.drewN k) none h ⟨rfl, rfl, rfl, Nat.le_refl _, fun _ _ _ => rfl⟩ (by simp)) hY W c1 c2 h0
end Go.Proofs.YtgodgedhddngeaaGreatDoor
namespace Go.Proofs.YtgodgedhddngeaaGreatDoor
open Go.RowKit
section
variable {n l : Nat} {P : Program} {ops : Array Oper} {Q : Exit → Act → World → Prop} {md : Region.Mode}
theorem rowsIn_wide {r : String} {args : Array Value} {w : World} {R : Value → World → Prop} (h : Rows P r args w R) : RowsIn (Fence.wide.inRound l) n P r args w R := fun c cs _ => by
 obtain ⟨v, w', hr, hs⟩ := h c cs
 exact ⟨v, w', hr, stepsIn_wide.2 hs⟩
theorem wpOpIn_of {i : Nat} {K K' : Act → World → Prop} {a : Act} {w : World} (hnd : ∀ o, ops[i]? = some o → ∀ c, o.op ≠ .defer c) (hlo : ¬ LetsOut Q) (hK : ∀ a w, K a w → K' a w)
  (h : wpOp P ops Q i K a w) : wpOpIn (Fence.wide.inRound l) n P ops Q i K' a w := by
 unfold wpOp at h
 unfold wpOpIn
 cases ho : ops[i]? with
 | none => simp only [ho] at h; exact hK _ _ h
 | some o =>
  simp only [ho] at h
  show (if Region.wanted o (yielded ops a.tmps) = true then _ else _)
  by_cases hw : Region.wanted o (yielded ops a.tmps) = true
  ·rw [if_pos hw] at h ⊢
   rcases h with h | h
   ·refine ⟨fun f _ => trivial, ?_⟩
    rw [Oper.semAt_eq _ _ _ (hnd o ho)]
    unfold Oper.wp at h
    generalize (execOp a.eval o).run P w = r at *
    cases r with
    | ok x w' =>
     cases x <;> simp only [Oper.upon, Oper.uponIn] at h ⊢
     case value v => exact hK _ _ h
     case skip => exact hK _ _ h
     case defer d => exact hK _ _ h
     case enter f args =>
      refine ⟨fun h => by simp [Fence.wide] at h, CallsIn.inRound l (callsIn_wide.2 (h.mono fun e w'' he => ?_))⟩
      cases e <;> first | exact hK _ _ he | exact he
     case row r args => exact ⟨fun h => by simp [Fence.wide] at h, (rowsIn_wide h).mono fun v w'' he => hK _ _ he⟩
    | halt x w' => cases x <;> simp only [Oper.upon, Oper.uponIn] at h ⊢ <;> exact h
   ·exact absurd h.2 hlo
  ·rw [if_neg hw] at h ⊢
   exact ⟨fun f _ => trivial, hK _ _ h⟩
theorem wpAnyIn_of (hnd : ∀ (i : Nat) (o : Oper), ops[i]? = some o → ∀ c, o.op ≠ .defer c) (hlo : ¬ LetsOut Q) : ∀ (fuel : Nat) (listed : Array Bool) (a : Act) (w : World), wpAny P md ops Q fuel listed a w →
  wpAnyIn (Fence.wide.inRound l) n P md ops Q fuel listed a w
 | 0, _, _, _, h => h
 | fuel + 1, _, _, _, h => ⟨h.1, fun i hi => wpOpIn_of (hnd i) hlo (fun a' w' h' => wpAnyIn_of hnd hlo fuel _ a' w' h') (h.2 i hi)⟩
theorem wpIn_region_of {id : Nat} {a : Act} {w : World} (hm : P.follows .mixedOrders = true) (hnd : (ops.all fun o => match o.op with | .defer _ => false | _ => true) = true) (hlo : ¬ LetsOut Q)
  (h : wpAny P .any ops Q ops.size (Array.replicate ops.size false) a w.drew) : (Code.region id ops true).wpIn (Fence.wide.inRound l) n P Q a w := by
 refine wpIn_region_any hm (wpAnyIn_of (fun i o ho c hc => ?_) hlo _ _ _ _ h)
 rw [Array.all_eq_true] at hnd
 obtain ⟨hi, rfl⟩ := Array.getElem?_eq_some_iff.1 ho
 have := hnd i hi
 rw [hc] at this
 exact absurd this (by simp)
end
end Go.Proofs.YtgodgedhddngeaaGreatDoor
