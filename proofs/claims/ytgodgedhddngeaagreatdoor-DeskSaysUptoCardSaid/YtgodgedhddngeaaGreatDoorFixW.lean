/- Words for memory: a slice that reads as a list of numbers; that what was there stays. No program in sight. -/
import Derived.Test.YtgodgedhddngeaaGreatDoorPl
import Derived.Test.YtgodgedhddngeaaGreatDoorRows
import Derived.Below
import Derived.Laws.OwnMore
import Derived.Deep.AppendLies
import Derived.Deep.Draws
import Derived.ChangeArms
import Derived.OpenShut
import Derived.Laws.Rows
import Derived.Deep.Slices
import Derived.WalkKit
import Derived.ProofKit
import Derived.ChangeCalls
import Derived.SizedLaws
import Derived.JoinedCond
import Derived.Deep.CondSized
import Derived.WalkSpells
import Derived.WalkLawsBesides
import Derived.Deep.QuietTactic
import Derived.Lib.Hide
import Derived.BigQuiet
set_option maxHeartbeats 16000000
namespace Go.Proofs.YtgodgedhddngeaaGreatDoor
open Go.RowKit Pl
structure Ints (k : IntKind) (w : World) (A : Option Addr) (n : Nat) (xs : List Int) : Prop where
 len : xs.length = n
 cells : 0 < n → ∃ b off, A = some ⟨b, off, none⟩ ∧ b < w.heap.size ∧ ∀ j, j < n → w.cell? ⟨b, off + j, none⟩ = some (.int k (at0 xs j))
section
variable {k : IntKind} {w w' : World} {A : Option Addr} {n : Nat} {xs : List Int}
theorem Ints.keep (h : Ints k w A n xs) (hs : w.heap.size ≤ w'.heap.size) (hk : ∀ p : Addr, p.block < w.heap.size → w'.cell? p = w.cell? p) : Ints k w' A n xs :=
 ⟨h.len, fun hn => by
  obtain ⟨b, off, e, hb, hc⟩ := h.cells hn
  exact ⟨b, off, e, by omega, fun j hj => (hk ⟨b, off + j, none⟩ hb).trans (hc j hj)⟩⟩
theorem Ints.below (h : Ints k w A n xs) (hb : Below w.heap.size w w') : Ints k w' A n xs := h.keep hb.size fun _ hp => hb.cell hp
theorem Ints.drewN (h : Ints k w A n xs) (m : Nat) : Ints k (w.drewN m) A n xs := ⟨h.len, h.cells⟩
theorem Ints.drew (h : Ints k w A n xs) : Ints k w.drew A n xs := ⟨h.len, h.cells⟩
theorem Ints.alloc (h : Ints k w A n xs) (o : Obj) : Ints k (w.alloc o) A n xs := h.below ((Below.refl _ _).alloc (Nat.le_refl _) o)
theorem Ints.nil (k : IntKind) (w : World) (A : Option Addr) : Ints k w A 0 [] := ⟨rfl, fun h => absurd h (by omega)⟩
theorem Ints.of_own {base : Nat} {e : TypeId} {c : Nat} (h : w.ownsRow base e 1 (.slice A n c) n (xs.map (.int k))) (hl : xs.length = n) : Ints k w A n xs := by
 refine ⟨hl, fun hn => ?_⟩
 obtain ⟨g, cap, hv, _, hlt⟩ := h.form hn
 have hA : A = some ⟨g, 0, none⟩ := by injection hv
 subst hA
 refine ⟨g, 0, rfl, hlt, fun j hj => ?_⟩
 have hc := h.cells (g := g) rfl j (.int k (at0 xs j)) (by rw [List.getElem?_map, List.getElem?_eq_getElem (by omega), Option.map_some, at0_getElem _ _ (by omega)])
 rw [Go.WideShapes.add_plain] at hc
 exact hc
theorem Ints.cut (h : Ints k w A n xs) {i m : Nat} (hi : i + m ≤ n) {A' : Option Addr} (hA : 0 < m → ∀ b off, A = some ⟨b, off, none⟩ → A' = some ⟨b, off + i, none⟩) : Ints k w A' m ((xs.drop i).take m) := by
 refine ⟨by rw [List.length_take, List.length_drop, h.len]; omega, fun hm => ?_⟩
 obtain ⟨b, off, e, hb, hc⟩ := h.cells (by omega)
 refine ⟨b, off + i, hA hm b off e, hb, fun j hj => ?_⟩
 rw [Nat.add_assoc, hc (i + j) (by omega)]
 unfold at0
 rw [List.getElem?_take, if_pos hj, List.getElem?_drop]
end
theorem own_drewN {w : World} {base : Nat} {e : TypeId} {size : Nat} {v : Value} {n : Nat} {xs : List Value} (h : w.ownsRow base e size v n xs) (k : Nat) : (w.drewN k).ownsRow base e size v n xs := h
theorem own_drew {w : World} {base : Nat} {e : TypeId} {size : Nat} {v : Value} {n : Nat} {xs : List Value} (h : w.ownsRow base e size v n xs) : w.drew.ownsRow base e size v n xs := h
theorem bel_drewN {B : Nat} {a w : World} (h : Below B a w) (n : Nat) : Below B a (w.drewN n) := ⟨h.os, h.tape, h.output, h.size, h.block⟩
def Quiet (w w' : World) : Prop := ∃ k, w' = w.drewN k
theorem Quiet.refl (w : World) : Quiet w w := ⟨0, rfl⟩
theorem Quiet.drewN (w : World) (k : Nat) : Quiet w (w.drewN k) := ⟨k, rfl⟩
theorem Quiet.trans {a b c : World} (h : Quiet a b) (h' : Quiet b c) : Quiet a c := by
 obtain ⟨k, rfl⟩ := h
 obtain ⟨m, rfl⟩ := h'
 exact ⟨k + m, by rw [World.drewN_drewN]⟩
theorem Quiet.step {a b : World} (h : Quiet a b) (k : Nat) : Quiet a (b.drewN k) := h.trans ⟨k, rfl⟩
theorem Quiet.cell {a b : World} (h : Quiet a b) (p : Addr) : b.cell? p = a.cell? p := by
 obtain ⟨k, rfl⟩ := h
 rfl
theorem Quiet.size {a b : World} (h : Quiet a b) : b.heap.size = a.heap.size := by
 obtain ⟨k, rfl⟩ := h
 rfl
theorem Quiet.below {a b : World} (h : Quiet a b) : Below a.heap.size a b := by
 obtain ⟨k, rfl⟩ := h
 exact ⟨rfl, rfl, rfl, Nat.le_refl _, fun _ _ => rfl⟩
theorem Ints.quiet {k : IntKind} {w w' : World} {A : Option Addr} {n : Nat} {xs : List Int} (h : Ints k w A n xs) (hq : Quiet w w') : Ints k w' A n xs := h.below hq.below
theorem bel_trans {a b c : World} (h : Below a.heap.size a b) (h' : Below b.heap.size b c) : Below a.heap.size a c := h.trans (h'.mono h.size)
theorem own_ints {k : IntKind} {w : World} {base : Nat} {e : TypeId} {v : Value} {n : Nat} {xs : List Int} (h : w.ownsRow base e 1 v n (xs.map (.int k))) : ∃ A c, v = .slice A n c ∧ Ints k w A n xs := by
 have hl : xs.length = n := by have := h.1; rw [List.length_map] at this; omega
 have h' := h
 rcases h.2 with ⟨rfl, rfl⟩ | ⟨g, cap, cur, rfl, _⟩
 ·exact ⟨none, 0, rfl, by rw [List.eq_nil_of_length_eq_zero hl]; exact Ints.nil _ _ _⟩
 ·exact ⟨_, cap, rfl, Ints.of_own h' hl⟩
theorem own_quiet {w w' : World} {base : Nat} {e : TypeId} {size : Nat} {v : Value} {n : Nat} {xs : List Value} (h : w.ownsRow base e size v n xs) (hq : Quiet w w') : w'.ownsRow base e size v n xs := by
 obtain ⟨k, rfl⟩ := hq
 exact h
theorem Quiet.after {B : Nat} {a b c : World} (h : Below B a b) (hq : Quiet b c) : Below B a c := by
 obtain ⟨k, rfl⟩ := hq
 exact bel_drewN h k
section
variable {H : Type} {enc : TypeId × Value → H} {P : Program} {w : World} {base : Nat} {sp : Nat → Bool} {held : Bool}
end
end Go.Proofs.YtgodgedhddngeaaGreatDoor
namespace Go.Proofs.YtgodgedhddngeaaGreatDoor
open Go.RowKit
def Blk (w : World) (g : Nat) (t : TypeId) (cs : Array Value) : Prop := w.heap[g]? = some (.cells cs t (0, 0))
section
variable {w w' : World} {g : Nat} {t : TypeId} {cs : Array Value}
theorem Blk.lt (h : Blk w g t cs) : g < w.heap.size := (Array.getElem?_eq_some_iff.1 h).1
theorem Blk.cell (h : Blk w g t cs) (i : Nat) : w.cell? ⟨g, i, none⟩ = cs[i]? := cell_of_row w g i cs t (0, 0) h
theorem Blk.frozen (h : Blk w g t cs) (i : Nat) : w.frozen? ⟨g, i, none⟩ = false := frozen_of_row w g i cs t h
theorem Blk.made (w : World) (t : TypeId) (cs : Array Value) : Blk (w.alloc (.cells cs t)) w.heap.size t cs := heap_alloc_new w _
theorem Blk.made' (w : World) (t : TypeId) (cs : Array Value) {g : Nat} (h : w.heap.size = g) : Blk (w.alloc (.cells cs t)) g t cs := by subst h; exact heap_alloc_new w _
theorem Blk.drewN (h : Blk w g t cs) (n : Nat) : Blk (w.drewN n) g t cs := h
theorem Blk.quiet (h : Blk w g t cs) (hq : Quiet w w') : Blk w' g t cs := by obtain ⟨k, rfl⟩ := hq; exact h
theorem Blk.below {B : Nat} (h : Blk w g t cs) (hb : Below B w w') (hg : g < B) : Blk w' g t cs := (hb.block g hg).trans h
theorem Blk.alloc (h : Blk w g t cs) (o : Obj) : Blk (w.alloc o) g t cs := h.below ((Below.refl w.heap.size w).alloc (Nat.le_refl _) o) h.lt
theorem Blk.put (h : Blk w g t cs) (i : Nat) (u : Value) : Blk (w.setCell ⟨g, i, none⟩ u) g t (cs.setIfInBounds i u) := heap_setCell_same w g i cs t u h
theorem Blk.far (h : Blk w g t cs) {p : Addr} (hp : g ≠ p.block) (u : Value) : Blk (w.setCell p u) g t cs := (heap_setCell_other w p g u hp).trans h
theorem Blk.grown {row : Option Nat} (h : Blk w g t cs) (hb : w.grownBy w' row) (hg : some g ≠ row) : Blk w' g t cs := (hb.block g h.lt hg).trans h
end
section
variable {a w w1 : World} {o : Obj} {k : Nat} {row : Option Nat}
theorem Blk.grownD {g : Nat} {t : TypeId} {cs : Array Value} (h : Blk w g t cs) (hg : ((w.drewN k).alloc o).grownBy w1 row) (hne : some g ≠ row) : Blk w1 g t cs := ((h.drewN k).alloc o).grown hg hne
theorem bel_grownD {B : Nat} (h : Below B a w) (hB : B ≤ w.heap.size) (hg : ((w.drewN k).alloc o).grownBy w1 row) (hr : ∀ x, row = some x → B ≤ x) : Below B a w1 :=
 Below.grown ((bel_drewN h k).alloc hB o) hg (by simp; exact Nat.le_succ_of_le hB) hr
theorem own_allocD {base : Nat} {e : TypeId} {size n : Nat} {v : Value} {xs : List Value} (h : w.ownsRow base e size v n xs) (k : Nat) (o : Obj) : ((w.drewN k).alloc o).ownsRow base e size v n xs := (own_drewN h k).alloc o
end
theorem own_far {w : World} {base : Nat} {e : TypeId} {size n : Nat} {v : Value} {xs : List Value} (h : w.ownsRow base e size v n xs) {p : Addr} (hp : p.block < base) (u : Value) : (w.setCell p u).ownsRow base e size v n xs := ownsRow_setCell_below h hp u
open Pl in
theorem Ints.made (w : World) (xs : List Int) (n : Nat) (hn : xs.length = n) (cs : Array Value) (hc : cs = (xs.map (Value.int .i64)).toArray) {g : Nat} (hg : w.heap.size = g) (t : TypeId) : Ints .i64 (w.alloc (.cells cs t)) (some ⟨g, 0, none⟩) n xs := by
 subst hc; subst hg
 refine ⟨hn, fun _ => ⟨w.heap.size, 0, rfl, by simp, fun j hj => ?_⟩⟩
 rw [(Blk.made w t _).cell (0 + j), Nat.zero_add, List.getElem?_toArray, List.getElem?_map, List.getElem?_eq_getElem (by omega), Option.map_some, at0_getElem _ _ (by omega)]
end Go.Proofs.YtgodgedhddngeaaGreatDoor
namespace Go.Proofs.YtgodgedhddngeaaGreatDoor
open Go.RowKit Pl
section
variable {H : Type} {enc : TypeId × Value → H} {P : Program} {w : World} {base : Nat} {sp : Nat → Bool} {held : Bool}
end
structure Rec where
 step : Int
 batch : List Int
 rate : Int
 root : Int
 chain : Int
def Rec.none_ : Rec := ⟨0, [], 0, 0, 0⟩
def recAt (rs : List Rec) (j : Nat) : Rec := rs[j]?.getD Rec.none_
theorem recAt_upto (f : Nat → Rec) {k n : Nat} (h : k < n) : recAt (upto f n) k = f k := by
 unfold recAt upto
 rw [List.getElem?_map, List.getElem?_range h]; rfl
end Go.Proofs.YtgodgedhddngeaaGreatDoor
namespace Go.Proofs.YtgodgedhddngeaaGreatDoor
open Go.ChangeShapes Go.WideShapes Go.ChangeAt Go.RowKit Go.ChangeAt
theorem own : ownKnob Tryz.prog.godebug = none := by kernel_rfl
theorem laidOut : laidOutB Tryz.prog = true := by kernel_rfl
section
variable {H : Type} {enc : TypeId × Value → H} {P : Program}
theorem trodAll_below (hl : laidOutB P = true) {W W' : World} (hb : Below W.heap.size W W') :
  ∀ {ts : List TypeId} {vs : List Value} {ds : List (DataW H)} {ps : List MemPlace}, (ts.all fun t => P.readableRec t && decide (t < P.types.size)) = true →
   DataW.TrodAll enc P W 0 (fun _ => true) true ts vs ds ps → (∀ x ∈ ps, x.block < W.heap.size) → DataW.TrodAll enc P W' 0 (fun b => decide (b < W.heap.size)) true ts vs ds ps
 | [], [], [], _, _, h, _ => h
 | [], _ :: _, _, _, _, h, _ => h.elim
 | [], [], _ :: _, _, _, h, _ => h.elim
 | _ :: _, [], _, _, _, h, _ => h.elim
 | _ :: _, _ :: _, [], _, _, h, _ => h.elim
 | t :: ts, v :: vs, d :: ds, ps, hr, h, hlt => by
  obtain ⟨p, q, h1, h2, rfl⟩ := h
  simp only [List.all_cons, Bool.and_eq_true, decide_eq_true_eq] at hr
  exact ⟨p, q, Below.trod hl hr.1.1 hr.1.2 h1 hb (fun x hx => hlt x (List.mem_append_left _ hx)), trodAll_below hl hb (by simpa using hr.2) h2 (fun x hx => hlt x (List.mem_append_right _ hx)), rfl⟩
theorem post_true {f : Func} {s : ChangeSpec} {W W' : World} {args : Array Value} {ds gs : List (DataW H)} {before : List MemPlace} {tb : TypeId}
  (hl : laidOutB P = true) (hts : (f.params.toList.all fun t => P.readableRec t && decide (t < P.types.size)) = true) (htb : f.resultTypes = #[tb]) (hbool : P.underlying tb = some .bool)
  (hv : s.vars = []) (hsp : s.fn H (ds ++ gs) = { results := [.lit (.bool true)], args := ds })
  (hW : DataW.Whole enc P f.params.toList s.vars false W args.toList ds gs before) (hb : Below W.heap.size W W') :
  s.post enc P f false true false false W args (.bool true) W' := by
 have hlt : ∀ p ∈ before, p.block < W.heap.size := fun p hp => hW.lt p hp
 obtain ⟨p, q, hA, hV, rfl, hfz, hnd⟩ := hW
 have hV' := hV
 rw [hv] at hV
 obtain ⟨rfl, rfl⟩ := trodVars_none hV
 refine ⟨ds, [], p ++ [], [], p, [], ⟨p, [], hA, hV', rfl, hfz, hnd⟩, ?_, ?_, ?_, hb.frame _, fun h => by cases h⟩
 ·rw [hsp, htb]
  exact trodAll_cons_mk (shut_bool hbool _) trodAll_mk0
 ·rw [hsp]
  exact trodAll_below hl hb hts hA (fun x hx => hlt x (by simpa using hx))
 ·rw [hsp, hv]
  rfl
end
end Go.Proofs.YtgodgedhddngeaaGreatDoor
namespace Go.Proofs.YtgodgedhddngeaaGreatDoor
open Go.ChangeShapes Go.WideShapes Go.RowKit Pl
section
variable {H : Type} {enc : TypeId × Value → H} {w : World} {base : Nat} {sp : Nat → Bool} {held : Bool}
structure Cfg where
 (ci ch co seed batch steps rate decay how keep clip : Int)
end
end Go.Proofs.YtgodgedhddngeaaGreatDoor
namespace Go.Proofs.YtgodgedhddngeaaGreatDoor
open Go.ChangeShapes Go.WideShapes Go.ChangeAt Go.RowKit Pl
theorem bulk_bound {H : Type} {l : List (DataW H)} (hk : Rows.uptoSmall H l = true) : Rows.uptoBulkAll l ≤ 1048576 := of_decide_eq_true hk
section
variable {H : Type} {enc : TypeId × Value → H} {w : World} {base : Nat} {sp : Nat → Bool} {held : Bool}
end
end Go.Proofs.YtgodgedhddngeaaGreatDoor
namespace Go.Proofs.YtgodgedhddngeaaGreatDoor
open Go.RowKit Pl
theorem ret_int {k : IntKind} {a b : Int} (h : a = b) : Ending.returned (.int k a) = .returned (.int k b) := by rw [h]
theorem ret_bool {a b : Bool} (h : a = b) : Ending.returned (.bool a) = .returned (.bool b) := by rw [h]
theorem fix_Clamp (n : Int) (w : World) : Calls Tryz.prog 125 #[.int .i64 n] w fun e w' => e = .returned (.int .i64 (clamp n)) ∧ w = w' := by
 go_enter Tryz.func125, Tryz.ntmps125
 go_wp2
 all_goals
  go_ret
  refine ⟨ret_int ?_, rfl⟩
  unfold clamp
  repeat' split
  all_goals first | rfl | omega
theorem ref_Clamp (n : Int) (w : World) : Calls Tryz.prog 142 #[.int .i64 n] w fun e w' => e = .returned (.int .i64 (clamp n)) ∧ w = w' := by
 go_enter Tryz.func142, Tryz.ntmps142
 go_wp2
 all_goals
  go_ret
  refine ⟨ret_int ?_, rfl⟩
  unfold clamp
  repeat' split
  all_goals first | rfl | omega
theorem fix_Add (a b : Int) (w : World) : Calls Tryz.prog 175 #[.int .i64 a, .int .i64 b] w fun e w' => e = .returned (.int .i64 (addF a b)) ∧ w = w' := by
 have a1 := clamp_lo a
 have a2 := clamp_hi a
 have b1 := clamp_lo b
 have b2 := clamp_hi b
 go_enter Tryz.func175, Tryz.ntmps175
 go_wp2_with (go_at_call 125; refine (fix_Clamp _ _).mono ?_; rintro e w' ⟨rfl, rfl⟩)
 go_ret
 exact ⟨rfl, rfl⟩
theorem fix_Sub (a b : Int) (w : World) : Calls Tryz.prog 135 #[.int .i64 a, .int .i64 b] w fun e w' => e = .returned (.int .i64 (subF a b)) ∧ w = w' := by
 have a1 := clamp_lo a
 have a2 := clamp_hi a
 have b1 := clamp_lo b
 have b2 := clamp_hi b
 go_enter Tryz.func135, Tryz.ntmps135
 go_wp2_with (go_at_call 125; refine (fix_Clamp _ _).mono ?_; rintro e w' ⟨rfl, rfl⟩)
 go_ret
 exact ⟨rfl, rfl⟩
theorem fix_rounded (n d : Int) (hd : 0 < d) (hd' : d ≤ 2147483647) (hn : -4611686014132420609 ≤ n) (hn' : n ≤ 4611686014132420609) (w : World) :
  Calls Tryz.prog 196 #[.int .i64 n, .int .i64 d] w fun e w' => e = .returned (.int .i64 (rnd n d)) ∧ ∃ k, w' = w.drewN k := by
 have m1 := Int.emod_nonneg n (show d ≠ 0 by omega)
 have m2 := Int.emod_lt_of_pos n hd
 have q1 : -4611686014132420609 ≤ n / d := by
  have := Int.ediv_le_ediv hd hn
  have h2 : -4611686014132420609 ≤ -4611686014132420609 / d := by
   rw [Int.le_ediv_iff_mul_le hd]; omega
  omega
 have q2 : n / d ≤ 4611686014132420609 := by
  have : n / d < 4611686014132420610 := by rw [Int.ediv_lt_iff_lt_mul hd]; omega
  omega
 by_cases h0 : 0 ≤ n
 ·by_cases hr : d < 2 * (n % d)
  ·go_enter Tryz.func196, Tryz.ntmps196
   go_wp2
   go_quiet (fail)
   go_wp2
   go_ret
   refine ⟨ret_int ?_, _, rfl⟩
   unfold rnd; rw [if_pos (by omega)]
  ·by_cases he : 2 * (n % d) = d
   ·have he1 : (2 * (n % d) == d) = true := by rw [beq_iff_eq]; exact he
    by_cases hb : n / d % 2 = 1
    ·have hb1 := and_one_yes hb
     have he2 := Lib.hid he
     clear he
     go_enter Tryz.func196, Tryz.ntmps196
     go_wp2
     go_quiet (fail)
     go_wp2
     go_ret
     refine ⟨ret_int ?_, _, rfl⟩
     unfold rnd; rw [if_pos (by have := he2.out; omega)]
    ·have hb1 := and_one_no hb
     have he2 := Lib.hid he
     clear he
     go_enter Tryz.func196, Tryz.ntmps196
     go_wp2
     go_quiet (fail)
     go_wp2
     go_ret
     refine ⟨ret_int ?_, _, rfl⟩
     unfold rnd; rw [if_neg (by have := he2.out; omega)]
   ·go_enter Tryz.func196, Tryz.ntmps196
    go_wp2
    go_quiet (fail)
    go_wp2
    go_ret
    refine ⟨ret_int ?_, _, rfl⟩
    unfold rnd; rw [if_neg (by omega)]
 ·have hn0 : n < 0 := by omega
  have t1 := Int.lt_tmod_of_pos n hd
  have t2 : n.tmod d ≤ 0 := by
   have := Int.tmod_nonneg (a := -n) d (by omega)
   rw [Int.neg_tmod] at this; omega
  by_cases ht : n.tmod d < 0
  ·obtain ⟨e1, e2⟩ := tdiv_low hd ht
   have E1 := Lib.hid e1
   have E2 := Lib.hid e2
   have u1 : -4611686014132420609 ≤ n.tdiv d - 1 := by omega
   have u2 : n.tdiv d - 1 ≤ 4611686014132420609 := by omega
   by_cases hr : d < 2 * (n.tmod d + d)
   ·clear e1 e2 q1 q2 m1 m2
    go_enter Tryz.func196, Tryz.ntmps196
    go_wp2
    go_quiet (fail)
    go_wp2
    go_ret
    refine ⟨ret_int ?_, _, rfl⟩
    unfold rnd; rw [if_pos (by have := E2.out; omega), E1.out]; omega
   ·by_cases he : 2 * (n.tmod d + d) = d
    ·have he1 : (2 * (n.tmod d + d) == d) = true := by rw [beq_iff_eq]; exact he
     by_cases hb : (n.tdiv d - 1) % 2 = 1
     ·have hb1 := and_one_yes hb
      have he2 := Lib.hid he
      clear he e1 e2 q1 q2 m1 m2
      go_enter Tryz.func196, Tryz.ntmps196
      go_wp2
      go_quiet (fail)
      go_wp2
      go_ret
      refine ⟨ret_int ?_, _, rfl⟩
      unfold rnd; rw [if_pos (by have := E2.out; have := E1.out; have := he2.out; omega), E1.out]; omega
     ·have hb1 := and_one_no hb
      have he2 := Lib.hid he
      clear he e1 e2 q1 q2 m1 m2
      go_enter Tryz.func196, Tryz.ntmps196
      go_wp2
      go_quiet (fail)
      go_wp2
      go_ret
      refine ⟨ret_int ?_, _, rfl⟩
      unfold rnd; rw [if_neg (by have := E2.out; have := E1.out; have := he2.out; omega), E1.out]
    ·clear e1 e2 q1 q2 m1 m2
     go_enter Tryz.func196, Tryz.ntmps196
     go_wp2
     go_quiet (fail)
     go_wp2
     go_ret
     refine ⟨ret_int ?_, _, rfl⟩
     unfold rnd; rw [if_neg (by have := E2.out; have := E1.out; omega), E1.out]
  ·obtain ⟨e1, e2⟩ := tdiv_even (n := n) hd (by omega)
   have E1 := Lib.hid e1
   have E2 := Lib.hid e2
   have u1 : -4611686014132420609 ≤ n.tdiv d := by omega
   have u2 : n.tdiv d ≤ 4611686014132420609 := by omega
   clear e1 e2 q1 q2 m1 m2
   go_enter Tryz.func196, Tryz.ntmps196
   go_wp2
   go_quiet (fail)
   go_wp2
   go_ret
   refine ⟨ret_int ?_, _, rfl⟩
   unfold rnd; rw [if_neg (by have := E2.out; omega), E1.out]
theorem fix_Mul (a b : Int) (w : World) : Calls Tryz.prog 171 #[.int .i64 a, .int .i64 b] w fun e w' => e = .returned (.int .i64 (mulF a b)) ∧ ∃ k, w' = w.drewN k := by
 obtain ⟨h1, h2⟩ := mul_bounds a b
 go_enter Tryz.func171, Tryz.ntmps171
 go_wp2_with (first | (go_at_call 125; refine (fix_Clamp _ _).mono ?_; rintro e w' ⟨rfl, rfl⟩) | (go_at_call 196; refine (fix_rounded _ _ (by omega) (by omega) (by omega) (by omega) _).mono ?_; rintro e w' ⟨rfl, k, rfl⟩))
 go_ret
 exact ⟨rfl, _, rfl⟩
theorem fix_Div_neg (a b : Int) (hb : clamp b < 0) (w : World) : Calls Tryz.prog 170 #[.int .i64 a, .int .i64 b] w fun e w' => e = .returned (.tuple #[.int .i64 (divF a b), .int .i64 0]) ∧ ∃ k, w' = w.drewN k := by
 have a1 := clamp_lo a
 have a2 := clamp_hi a
 have b1 := clamp_lo b
 have hb0 : (clamp b == 0) = false := beq_eq_false_iff_ne.2 (by omega)
 go_enter Tryz.func170, Tryz.ntmps170
 go_wp2_with (first | (go_at_call 125; refine (fix_Clamp _ _).mono ?_; rintro e w' ⟨rfl, rfl⟩) | (go_at_call 196; refine (fix_rounded _ _ (by omega) (by omega) (by omega) (by omega) _).mono ?_; rintro e w' ⟨rfl, k, rfl⟩))
 go_ret2
 refine ⟨?_, _, rfl⟩
 unfold divF
 rw [if_pos hb]
 rfl
theorem fix_Div_pos (a b : Int) (hb : 0 < clamp b) (w : World) : Calls Tryz.prog 170 #[.int .i64 a, .int .i64 b] w fun e w' => e = .returned (.tuple #[.int .i64 (divF a b), .int .i64 0]) ∧ ∃ k, w' = w.drewN k := by
 have a1 := clamp_lo a
 have a2 := clamp_hi a
 have b1 := clamp_hi b
 have hb0 : (clamp b == 0) = false := beq_eq_false_iff_ne.2 (by omega)
 go_enter Tryz.func170, Tryz.ntmps170
 go_wp2_with (first | (go_at_call 125; refine (fix_Clamp _ _).mono ?_; rintro e w' ⟨rfl, rfl⟩) | (go_at_call 196; refine (fix_rounded _ _ (by omega) (by omega) (by omega) (by omega) _).mono ?_; rintro e w' ⟨rfl, k, rfl⟩))
 go_ret2
 refine ⟨?_, _, rfl⟩
 unfold divF
 rw [if_neg (by omega)]
 rfl
theorem fix_Div_ok (a b : Int) (hb : clamp b ≠ 0) (w : World) : Calls Tryz.prog 170 #[.int .i64 a, .int .i64 b] w fun e w' => e = .returned (.tuple #[.int .i64 (divF a b), .int .i64 0]) ∧ ∃ k, w' = w.drewN k := by
 rcases Int.lt_or_le (clamp b) 0 with h | h
 ·exact fix_Div_neg a b h w
 ·exact fix_Div_pos a b (by omega) w
theorem ref_Add (a b : Int) (w : World) : Calls Tryz.prog 104 #[.int .i64 a, .int .i64 b] w fun e w' => e = .returned (.int .i64 (addF a b)) ∧ w = w' := by
 have a1 := clamp_lo a
 have a2 := clamp_hi a
 have b1 := clamp_lo b
 have b2 := clamp_hi b
 go_enter Tryz.func104, Tryz.ntmps104
 go_wp2_with (go_at_call 142; refine (ref_Clamp _ _).mono ?_; rintro e w' ⟨rfl, rfl⟩)
 go_ret
 exact ⟨rfl, rfl⟩
theorem ref_Sub (a b : Int) (w : World) : Calls Tryz.prog 103 #[.int .i64 a, .int .i64 b] w fun e w' => e = .returned (.int .i64 (subF a b)) ∧ w = w' := by
 have b1 := clamp_lo b
 have b2 := clamp_hi b
 go_enter Tryz.func103, Tryz.ntmps103
 go_wp2_with (first | (go_at_call 142; refine (ref_Clamp _ _).mono ?_; rintro e w' ⟨rfl, rfl⟩) | (go_at_call 104; refine (ref_Add _ _ _).mono ?_; rintro e w' ⟨rfl, rfl⟩))
 go_ret
 exact ⟨by rw [← subF_add]; rfl, rfl⟩
theorem ref_nearest_pos (n d : Int) (hd : 0 < d) (hd' : d ≤ 2147483647) (hn : 0 ≤ n) (hn' : n ≤ 4611686014132420609) (w : World) :
  Calls Tryz.prog 157 #[.int .i64 n, .int .i64 d] w fun e w' => e = .returned (.int .i64 (rnd n d)) ∧ ∃ k, w' = w.drewN k := by
 have m1 := Int.emod_nonneg n (show d ≠ 0 by omega)
 have m2 := Int.emod_lt_of_pos n hd
 have q1 := Int.ediv_nonneg hn (show 0 ≤ d by omega)
 have q2 : n / d ≤ 4611686014132420609 := by
  have : n / d < 4611686014132420610 := by rw [Int.ediv_lt_iff_lt_mul hd]; omega
  omega
 have h2 : n = d * (n / d) + n % d := (Int.mul_ediv_add_emod n d).symm
 have e1 : n - n / d * d = n % d := by rw [Int.mul_comm (n / d) d]; omega
 have e2 : (n / d + 1) * d - n = d - n % d := by rw [Int.add_mul, Int.one_mul, Int.mul_comm (n / d) d]; omega
 have p1 : 0 ≤ n - n / d * d := by omega
 have p2 : 0 ≤ n / d * d := by
  have := Int.mul_nonneg q1 (show 0 ≤ d by omega)
  omega
 have p3 : 0 ≤ (n / d + 1) * d - n := by omega
 have p4 : (n / d + 1) * d ≤ 4611686016279904256 := by omega
 have p5 : n - n / d * d ≤ 2147483647 := by omega
 have p6 : n / d * d ≤ 4611686014132420609 := by omega
 have p7 : (n / d + 1) * d - n ≤ 2147483647 := by omega
 have p8 : 0 ≤ (n / d + 1) * d := by omega
 have F := Lib.hid (near0_eq n d)
 clear h2 e1 e2
 go_enter Tryz.func157, Tryz.ntmps157
 go_wp2_with fail
 all_goals
  go_ret
  refine ⟨ret_int ?_, 0, rfl⟩
  rw [← F.out]
  unfold near0
  try simp only [beq_iff_eq, beq_eq_false_iff_ne, ne_eq] at *
  first | rw [if_pos (by omega)] | rw [if_neg (by omega)]
theorem ref_nearest (n d : Int) (hd : 0 < d) (hd' : d ≤ 2147483647) (hn0 : -4611686014132420609 ≤ n) (hn' : n ≤ 4611686014132420609) (w : World) :
  Calls Tryz.prog 157 #[.int .i64 n, .int .i64 d] w fun e w' => e = .returned (.int .i64 (rnd n d)) ∧ ∃ k, w' = w.drewN k := by
 rcases Int.lt_or_le n 0 with h | h
 ·obtain ⟨b1, b2⟩ := rnd_bounds (-n) d hd 4611686014132420609 (by omega) (by omega) (by omega)
  go_enter Tryz.func157, Tryz.ntmps157
  go_wp2_with (go_at_call 157; refine (ref_nearest_pos _ _ hd hd' (by omega) (by omega) _).mono ?_; rintro e w' ⟨rfl, k, rfl⟩)
  go_ret
  exact ⟨ret_int (by rw [rnd_neg _ _ hd]; omega), _, rfl⟩
 ·exact ref_nearest_pos n d hd hd' h hn' w
theorem ref_Mul (a b : Int) (w : World) : Calls Tryz.prog 105 #[.int .i64 a, .int .i64 b] w fun e w' => e = .returned (.int .i64 (mulF a b)) ∧ ∃ k, w' = w.drewN k := by
 obtain ⟨h1, h2⟩ := mul_bounds a b
 go_enter Tryz.func105, Tryz.ntmps105
 go_wp2_with (first | (go_at_call 142; refine (ref_Clamp _ _).mono ?_; rintro e w' ⟨rfl, rfl⟩) | (go_at_call 157; refine (ref_nearest _ _ (by omega) (by omega) (by omega) (by omega) _).mono ?_; rintro e w' ⟨rfl, k, rfl⟩))
 go_ret
 exact ⟨rfl, _, rfl⟩
theorem ref_Div (a b : Int) (hb : clamp b ≠ 0) (w : World) : Calls Tryz.prog 152 #[.int .i64 a, .int .i64 b] w fun e w' => e = .returned (.int .i64 (divF a b)) ∧ ∃ k, w' = w.drewN k := by
 have a1 := clamp_lo a
 have a2 := clamp_hi a
 have b1 := clamp_lo b
 have b2 := clamp_hi b
 rcases Int.lt_or_le (clamp b) 0 with h | h
 ·go_enter Tryz.func152, Tryz.ntmps152
  go_wp2_with (first | (go_at_call 142; refine (ref_Clamp _ _).mono ?_; rintro e w' ⟨rfl, rfl⟩) | (go_at_call 157; refine (ref_nearest _ _ (by omega) (by omega) (by omega) (by omega) _).mono ?_; rintro e w' ⟨rfl, k, rfl⟩))
  go_ret
  refine ⟨ret_int ?_, _, rfl⟩
  unfold divF
  rw [if_pos h, show -(clamp a * 65536) = -clamp a * 65536 by omega]
 ·go_enter Tryz.func152, Tryz.ntmps152
  go_wp2_with (first | (go_at_call 142; refine (ref_Clamp _ _).mono ?_; rintro e w' ⟨rfl, rfl⟩) | (go_at_call 157; refine (ref_nearest _ _ (by omega) (by omega) (by omega) (by omega) _).mono ?_; rintro e w' ⟨rfl, k, rfl⟩))
  go_ret
  refine ⟨ret_int ?_, _, rfl⟩
  unfold divF
  rw [if_neg (by omega)]
end Go.Proofs.YtgodgedhddngeaaGreatDoor
