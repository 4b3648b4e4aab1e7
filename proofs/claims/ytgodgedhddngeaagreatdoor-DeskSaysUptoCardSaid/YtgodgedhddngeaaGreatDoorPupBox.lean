/- Slices of structs that a call keeps for itself, each with a list or two in blocks of their own: states, records. -/
import Derived.Test.YtgodgedhddngeaaGreatDoorDigW
import Derived.ChangeMaps5
set_option maxRecDepth 100000
set_option maxHeartbeats 16000000
namespace Go.Proofs.YtgodgedhddngeaaGreatDoor
open Go.RowKit Pl
theorem ints_grown {k : IntKind} {w w' : World} {A : Option Addr} {n : Nat} {xs : List Int} {row : Option Nat} (h : Ints k w A n xs) (hg : w.grownBy w' row) (hne : ∀ b off, A = some ⟨b, off, none⟩ → row ≠ some b) : Ints k w' A n xs :=
 ⟨h.len, fun hn => by
  obtain ⟨b, off, e, hb, hc⟩ := h.cells hn
  exact ⟨b, off, e, Nat.lt_of_lt_of_le hb hg.size, fun j hj => (World.cell?_of_block (a := ⟨b, off + j, none⟩) (hg.block b hb (fun x => hne b off e x.symm))).trans (hc j hj)⟩⟩
def ListV (m : Option Nat) (w : World) (o : Option Nat) (v : Value) (xs : List Int) : Prop :=
 ∃ A c, v = .slice A xs.length c ∧ Ints .i64 w A xs.length xs ∧ xs.length ≤ c ∧ c ≤ maxLen ∧ ∀ b off s, A = some ⟨b, off, s⟩ → m ≠ some b ∧ o ≠ some b ∧ b < w.heap.size
section
variable {m : Option Nat} {w w' : World} {o : Option Nat} {v : Value} {xs : List Int}
theorem ListV.below (h : ListV m w o v xs) (hb : Below w.heap.size w w') : ListV m w' o v xs := by
 obtain ⟨A, c, rfl, hi, h1, h2, hne⟩ := h
 exact ⟨A, c, rfl, hi.below hb, h1, h2, fun b off s e => ⟨(hne b off s e).1, (hne b off s e).2.1, Nat.lt_of_lt_of_le (hne b off s e).2.2 hb.size⟩⟩
theorem ListV.turn {g : Nat} (h : ListV m w o v xs) (hg : w.grownBy w' o) (hgg : o = some g ∨ w.heap.size ≤ g) : ListV m w' (some g) v xs := by
 obtain ⟨A, c, rfl, hi, h1, h2, hne⟩ := h
 refine ⟨A, c, rfl, ints_grown hi hg (fun b off e => (hne b off none e).2.1), h1, h2, fun b off s e => ?_⟩
 obtain ⟨n0, n1, n2⟩ := hne b off s e
 refine ⟨n0, fun e2 => ?_, Nat.lt_of_lt_of_le n2 hg.size⟩
 injection e2 with e2
 subst e2
 rcases hgg with h | h
 ·exact n1 h
 ·omega
theorem ListV.but {q : Nat} (h : ListV (some q) w o v xs) (hb : But q w w') : ListV (some q) w' o v xs := by
 obtain ⟨A, c, rfl, hi, h1, h2, hne⟩ := h
 refine ⟨A, c, rfl, ⟨hi.len, fun hn => ?_⟩, h1, h2, fun b off s e => ⟨(hne b off s e).1, (hne b off s e).2.1, Nat.lt_of_lt_of_le (hne b off s e).2.2 hb.size⟩⟩
 obtain ⟨b, off, e, hl, hc⟩ := hi.cells hn
 have hq : b ≠ q := fun h => (hne b off none e).1 (by rw [h])
 exact ⟨b, off, e, Nat.lt_of_lt_of_le hl hb.size, fun j hj => (World.cell?_of_block (a := ⟨b, off + j, none⟩) (hb.block b hl hq)).trans (hc j hj)⟩
theorem ListV.own {B n : Nat} {e : TypeId} {A : Option Addr} {c : Nat} (h : w.ownsRow B e 1 (.slice A n c) n (xs.map (.int .i64))) (hl : xs.length = n) (ho : ∀ b, B ≤ b → b < w.heap.size → m ≠ some b ∧ o ≠ some b) : ListV m w o (.slice A n c) xs := by
 subst hl
 have h' := h
 rcases h.2 with ⟨hv, h0⟩ | ⟨g, cap, cur, hv, hb, hlt, h1, h2, _⟩
 ·injection hv with a1 a2 a3
  subst a1; subst a3
  exact ⟨none, 0, rfl, Ints.of_own h' rfl, by omega, by unfold maxLen; omega, fun b off s e => by cases e⟩
 ·injection hv with a1 a2 a3
  subst a1; subst a3
  have hg := (Array.getElem?_eq_some_iff.1 hlt).1
  exact ⟨_, _, rfl, Ints.of_own h' rfl, h1, h2, fun b off s e => by cases e; exact ⟨(ho _ hb hg).1, (ho _ hb hg).2, hg⟩⟩
theorem ListV.any (h : ListV m w o v xs) : ListV none w none v xs := by
 obtain ⟨A, c, e, hi, h1, h2, hne⟩ := h
 exact ⟨A, c, e, hi, h1, h2, fun b off s e => ⟨by simp, by simp, (hne b off s e).2.2⟩⟩
theorem ListV.drop (h : ListV m w o v xs) : ListV none w o v xs := by
 obtain ⟨A, c, e, hi, h1, h2, hne⟩ := h
 exact ⟨A, c, e, hi, h1, h2, fun b off s e => ⟨by simp, (hne b off s e).2⟩⟩
end
structure Keeps {α : Type} (K : World → Option Nat → List Value → α → Prop) : Prop where
 below : ∀ {w w' : World} {o : Option Nat} {cs : List Value} {x : α}, K w o cs x → Below w.heap.size w w' → K w' o cs x
 turn : ∀ {w w' : World} {o : Option Nat} {cs : List Value} {x : α} {g : Nat}, K w o cs x → w.grownBy w' o → (o = some g ∨ w.heap.size ≤ g) → K w' (some g) cs x
def Held {α : Type} (K : World → Option Nat → List Value → α → Prop) (e : TypeId) (sz B : Nat) (f : Nat → α) (k : Nat) (v : Value) (w : World) : Prop :=
 ∃ vs, w.ownsRow B e sz v k vs ∧ ∀ j, j < k → K w v.ownBlock ((vs.drop (j * sz)).take sz) (f j)
section
variable {α : Type} {K : World → Option Nat → List Value → α → Prop} {e : TypeId} {sz B : Nat} {f : Nat → α} {k : Nat} {v : Value} {w w' : World}
theorem Held.zero : Held K e sz B f 0 (.slice none 0 0) w := ⟨[], World.ownsRow_nil _ _ _ _, fun j hj => absurd hj (by omega)⟩
theorem Held.below (hK : Keeps K) (h : Held K e sz B f k v w) (hb : Below w.heap.size w w') : Held K e sz B f k v w' := by
 obtain ⟨vs, ho, hp⟩ := h
 exact ⟨vs, own_below ho hb, fun j hj => hK.below (hp j hj) hb⟩
theorem Held.push (hK : Keeps K) {g cap : Nat} {vs cs : List Value} (hown : w'.ownsRow B e sz (.slice (some ⟨g, 0, none⟩) (k + 1) cap) (k + 1) (vs ++ cs)) (hl : vs.length = k * sz) (hs : cs.length = sz)
  (hp : ∀ j, j < k → K w v.ownBlock ((vs.drop (j * sz)).take sz) (f j)) (hx : K w v.ownBlock cs (f k)) (hg : w.grownBy w' v.ownBlock) (hgg : v.ownBlock = some g ∨ w.heap.size ≤ g) :
  Held K e sz B f (k + 1) (.slice (some ⟨g, 0, none⟩) (k + 1) cap) w' := by
 refine ⟨_, hown, fun j hj => ?_⟩
 by_cases h : j < k
 ·have h2 : (j + 1) * sz ≤ k * sz := Nat.mul_le_mul_right _ h
  rw [Nat.add_mul] at h2
  rw [List.drop_append_of_le_length (by omega), List.take_append_of_le_length (by rw [List.length_drop]; omega)]
  exact hK.turn (hp j h) hg hgg
 ·obtain rfl : j = k := by omega
  rw [← hl, List.drop_left, List.take_of_length_le (by omega)]
  exact hK.turn hx hg hgg
theorem Held.one (hK : Keeps K) {cs : Array Value} (hB : B ≤ w.heap.size) (hs : cs.size = sz) (hx : K w (some w.heap.size) cs.toList (f 0)) : Held K e sz B f 1 (.slice (some ⟨w.heap.size, 0, none⟩) 1 1) (w.alloc (.cells cs e)) := by
 refine ⟨cs.toList, World.ownsRow_lit w cs 1 hB (by decide) (by rw [hs, Nat.one_mul]), fun j hj => ?_⟩
 obtain rfl : j = 0 := by omega
 rw [Nat.zero_mul, List.drop_zero, List.take_of_length_le (by simp; omega)]
 exact hK.below hx ((Below.refl _ _).alloc (Nat.le_refl _) _)
theorem Held.at {g c : Nat} (h : Held K e sz B f k (.slice (some ⟨g, 0, none⟩) k c) w) {j : Nat} (hj : j < k) : ∃ cs, K w (some g) cs (f j) ∧ (∀ i, i < sz → w.cell? ⟨g, j * sz + i, none⟩ = cs[i]?) ∧ g < w.heap.size ∧ B ≤ g := by
 obtain ⟨vs, ho, hp⟩ := h
 refine ⟨_, hp j hj, fun i hi => ?_, (ho.lt g rfl).2, (ho.lt g rfl).1⟩
 have h2 : (j + 1) * sz ≤ k * sz := Nat.mul_le_mul_right _ hj
 rw [Nat.add_mul] at h2
 rw [ho.cellAt _ (by omega), List.getElem?_take, if_pos hi, List.getElem?_drop]
theorem Held.form (h : Held K e sz B f k v w) (hk : 0 < k) : ∃ g c, v = .slice (some ⟨g, 0, none⟩) k c ∧ B ≤ g ∧ g < w.heap.size ∧ k ≤ c ∧ c ≤ maxLen := by
 obtain ⟨vs, ho, _⟩ := h
 rcases ho.2 with ⟨_, h0⟩ | ⟨g, cap, cur, hv, hb, hg, h1, h2, _⟩
 ·omega
 ·exact ⟨g, cap, hv, hb, (Array.getElem?_eq_some_iff.1 hg).1, h1, h2⟩
theorem Held.but {q : Nat} (hK : ∀ {o : Option Nat} {cs : List Value} {x : α}, K w o cs x → K w' o cs x) (h : Held K e sz B f k v w) (hb : But q w w') (hq : q < B) : Held K e sz B f k v w' := by
 obtain ⟨vs, ho, hp⟩ := h
 exact ⟨vs, own_but ho hb hq, fun j hj => hK (hp j hj)⟩
theorem Held.imp {K' : World → Option Nat → List Value → α → Prop} (hK : ∀ {o : Option Nat} {cs : List Value} {x : α}, K w o cs x → K' w o cs x) (h : Held K e sz B f k v w) : Held K' e sz B f k v w := by
 obtain ⟨vs, ho, hp⟩ := h
 exact ⟨vs, ho, fun j hj => hK (hp j hj)⟩
theorem Held.base {B' : Nat} (h : Held K e sz B f k v w) (hB : B' ≤ B) : Held K e sz B' f k v w := by
 obtain ⟨vs, ho, hp⟩ := h
 exact ⟨vs, own_base ho hB, hp⟩
theorem Held.lt (h : Held K e sz B f k v w) (b : Nat) (hb : v.ownBlock = some b) : B ≤ b ∧ b < w.heap.size := by
 obtain ⟨vs, ho, _⟩ := h
 exact ho.lt b hb
theorem Held.slice (h : Held K e sz B f k v w) : ∃ A c, v = .slice A k c ∧ k ≤ c ∧ c ≤ maxLen := by
 obtain ⟨vs, ho, _⟩ := h
 rcases ho.2 with ⟨hv, h0⟩ | ⟨g, cap, cur, hv, hb, hg, h1, h2, _⟩
 ·exact ⟨none, 0, by rw [hv, h0], by omega, by unfold maxLen; omega⟩
 ·exact ⟨_, cap, hv, h1, h2⟩
end
def StK (m : Option Nat) (w : World) (o : Option Nat) (cs : List Value) (s : List Int × List Int) : Prop := ∃ a b, cs = [a, b] ∧ ListV m w o a s.1 ∧ ListV m w o b s.2
theorem keeps_st (m : Option Nat) : Keeps (StK m) :=
 ⟨fun h hb => by obtain ⟨a, b, e, h1, h2⟩ := h; exact ⟨a, b, e, h1.below hb, h2.below hb⟩,
  fun h hg hgg => by obtain ⟨a, b, e, h1, h2⟩ := h; exact ⟨a, b, e, h1.turn hg hgg, h2.turn hg hgg⟩⟩
theorem StK.but {q : Nat} {w w' : World} {o : Option Nat} {cs : List Value} {s : List Int × List Int} (h : StK (some q) w o cs s) (hb : But q w w') : StK (some q) w' o cs s := by
 obtain ⟨a, b, e, h1, h2⟩ := h; exact ⟨a, b, e, h1.but hb, h2.but hb⟩
theorem StK.drop {m : Option Nat} {w : World} {o : Option Nat} {cs : List Value} {s : List Int × List Int} (h : StK m w o cs s) : StK none w o cs s := by
 obtain ⟨a, b, e, h1, h2⟩ := h; exact ⟨a, b, e, h1.drop, h2.drop⟩
def RecK (m : Option Nat) (w : World) (o : Option Nat) (cs : List Value) (r : Rec) : Prop := ∃ b, cs = [.int .i64 r.step, b, .int .i64 r.rate, .int .u64 r.root, .int .u64 r.chain] ∧ ListV m w o b r.batch
theorem keeps_rec (m : Option Nat) : Keeps (RecK m) :=
 ⟨fun h hb => by obtain ⟨b, e, h1⟩ := h; exact ⟨b, e, h1.below hb⟩,
  fun h hg hgg => by obtain ⟨b, e, h1⟩ := h; exact ⟨b, e, h1.turn hg hgg⟩⟩
theorem RecK.but {q : Nat} {w w' : World} {o : Option Nat} {cs : List Value} {r : Rec} (h : RecK (some q) w o cs r) (hb : But q w w') : RecK (some q) w' o cs r := by
 obtain ⟨b, e, h1⟩ := h; exact ⟨b, e, h1.but hb⟩
theorem RecK.drop {m : Option Nat} {w : World} {o : Option Nat} {cs : List Value} {r : Rec} (h : RecK m w o cs r) : RecK none w o cs r := by
 obtain ⟨b, e, h1⟩ := h; exact ⟨b, e, h1.drop⟩
theorem RecK.any {m : Option Nat} {w : World} {o : Option Nat} {cs : List Value} {r : Rec} (h : RecK m w o cs r) : RecK none w none cs r := by obtain ⟨b, e, h1⟩ := h; exact ⟨b, e, h1.any⟩
abbrev StHeld (m : Option Nat) (B : Nat) (f : Nat → List Int × List Int) (k : Nat) (v : Value) (w : World) : Prop := Held (StK m) 106 2 B f k v w
abbrev RecHeld (m : Option Nat) (B : Nat) (f : Nat → Rec) (k : Nat) (v : Value) (w : World) : Prop := Held (RecK m) 90 5 B f k v w
structure RecsK (w : World) (A : Option Addr) (n : Nat) (rs : List Rec) : Prop where
 len : rs.length = n
 cells : 0 < n → ∃ b off, A = some ⟨b, off, none⟩ ∧ b < w.heap.size ∧ ∀ j, j < n → ∃ cs, RecK none w none cs (recAt rs j) ∧ ∀ i, i < 5 → w.cell? ⟨b, off + j * 5 + i, none⟩ = cs[i]?
theorem RecHeld.recs {m : Option Nat} {B : Nat} {f : Nat → Rec} {k : Nat} {A : Option Addr} {c : Nat} {w : World} (h : RecHeld m B f k (.slice A k c) w) : RecsK w A k (upto f k) := by
 refine ⟨upto_length _ _, fun hk => ?_⟩
 obtain ⟨g, c', hv, h1, h2, _⟩ := h.form hk
 injection hv with a1 a2 a3
 subst a1; subst a3
 refine ⟨g, 0, rfl, h2, fun j hj => ?_⟩
 obtain ⟨cs, hc, hi, _⟩ := h.at hj
 rw [recAt_upto f hj]
 exact ⟨cs, hc.any, fun i hi' => by rw [Nat.zero_add]; exact hi i hi'⟩
theorem StHeld.duos {m : Option Nat} {B : Nat} {f : Nat → List Int × List Int} {k g c : Nat} {w : World} (h : StHeld m B f k (.slice (some ⟨g, 0, none⟩) k c) w) {j : Nat} (hj : j < k) :
  ∃ A1 c1 A2 c2, w.cell? ⟨g, j * 2, none⟩ = some (.slice A1 (f j).1.length c1) ∧ w.cell? ⟨g, j * 2 + 1, none⟩ = some (.slice A2 (f j).2.length c2) ∧ Ints .i64 w A1 (f j).1.length (f j).1 ∧ Ints .i64 w A2 (f j).2.length (f j).2 ∧
   (f j).1.length ≤ c1 ∧ (f j).2.length ≤ c2 ∧ g < w.heap.size := by
 obtain ⟨cs, ⟨a, b, rfl, ⟨A1, c1, rfl, i1, l1, _⟩, ⟨A2, c2, rfl, i2, l2, _⟩⟩, hc, hg, _⟩ := h.at hj
 exact ⟨A1, c1, A2, c2, hc 0 (by omega), hc 1 (by omega), i1, i2, l1, l2, hg⟩
def likeR (a b : Rec) : Bool := (a.step == b.step) && (a.rate == b.rate) && (a.root == b.root) && decide (a.batch = b.batch)
def sameR (a b : Rec) : Bool := likeR a b && (a.chain == b.chain)
theorem eq_any2 {A B : Option Addr} {n m c d : Nat} {xs ys : List Int} {r : Bool} (hr : decide (xs = ys) = r) {w : World} (hx : Ints .i64 w A n xs) (hy : Ints .i64 w B m ys) (hn : n ≤ 9223372036854775806 ∨ m ≤ 9223372036854775806) :
  Calls Tryz.prog 83 #[.slice A n c, .slice B m d] w fun e w' => e = .returned (.bool r) ∧ Quiet w w' := by
 rw [← hr]
 by_cases h : n = m
 ·exact equalI_any A B n c d m xs ys w hx hy (by omega)
 ·rw [decide_eq_false (p := xs = ys) (fun e => h (by rw [← hx.len, ← hy.len, e]))]
  exact equalI_no A B n c d m w h
theorem ref_Like (a b : Rec) (A B : Option Addr) (n k m d : Nat) (w : World) (ha : Ints .i64 w A n a.batch) (hb : Ints .i64 w B m b.batch) (hn : n ≤ 9223372036854775806 ∨ m ≤ 9223372036854775806) :
  Calls Tryz.prog 101 #[.agg #[.int .i64 a.step, .slice A n k, .int .i64 a.rate, .int .u64 a.root, .int .u64 a.chain], .agg #[.int .i64 b.step, .slice B m d, .int .i64 b.rate, .int .u64 b.root, .int .u64 b.chain]] w fun e w' => e = .returned (.bool (likeR a b)) ∧ Below w.heap.size w w' := by
 have bw : Below w.heap.size w ((w.alloc (.cells #[.int .i64 a.step, .slice A n k, .int .i64 a.rate, .int .u64 a.root, .int .u64 a.chain] 90)).alloc (.cells #[.int .i64 b.step, .slice B m d, .int .i64 b.rate, .int .u64 b.root, .int .u64 b.chain] 90)) := (by repeat (first | exact Below.refl _ _ | assumption | refine bel_drewN ?_ _ | refine Below.drew ?_ | (refine Below.alloc ?_ (by simp <;> omega) _) | (refine Below.setCell ?_ (by simp <;> omega) _)))
 have HE := Lib.hid (fun r (hr : decide (a.batch = b.batch) = r) => eq_any2 (c := k) (d := d) hr ((ha.alloc (.cells #[.int .i64 a.step, .slice A n k, .int .i64 a.rate, .int .u64 a.root, .int .u64 a.chain] 90)).alloc (.cells #[.int .i64 b.step, .slice B m d, .int .i64 b.rate, .int .u64 b.root, .int .u64 b.chain] 90)) ((hb.alloc (.cells #[.int .i64 a.step, .slice A n k, .int .i64 a.rate, .int .u64 a.root, .int .u64 a.chain] 90)).alloc (.cells #[.int .i64 b.step, .slice B m d, .int .i64 b.rate, .int .u64 b.root, .int .u64 b.chain] 90)) hn)
 clear ha hb hn
 cases qstep : (a.step == b.step)
 ·have F := Lib.hid (show likeR a b = false by unfold likeR; simp [beq_eq_false_iff_ne.1 qstep])
  go_enter Tryz.func101, Tryz.ntmps101
  go_wp2
  go_ret
  rw [F.out]
  exact ⟨rfl, bw⟩
 ·have estep := beq_iff_eq.1 qstep
  cases qrate : (a.rate == b.rate)
  ·have F := Lib.hid (show likeR a b = false by unfold likeR; simp [estep, beq_eq_false_iff_ne.1 qrate])
   clear estep
   go_enter Tryz.func101, Tryz.ntmps101
   go_wp2
   go_ret
   rw [F.out]
   exact ⟨rfl, bw⟩
  ·have erate := beq_iff_eq.1 qrate
   cases qroot : (a.root == b.root)
   ·have F := Lib.hid (show likeR a b = false by unfold likeR; simp [estep, erate, beq_eq_false_iff_ne.1 qroot])
    clear estep
    clear erate
    go_enter Tryz.func101, Tryz.ntmps101
    go_wp2
    go_ret
    rw [F.out]
    exact ⟨rfl, bw⟩
   ·have eroot := beq_iff_eq.1 qroot
    cases qb : decide (a.batch = b.batch)
    ·have HQ := Lib.hid (HE.out false qb)
     have F := Lib.hid (show likeR a b = false by unfold likeR; simp [estep, erate, eroot, of_decide_eq_false qb])
     clear estep
     clear erate
     clear eroot
     go_enter Tryz.func101, Tryz.ntmps101
     go_wp2_with fail
     refine HQ.out.mono ?_
     rintro e w1 ⟨rfl, q, rfl⟩
     go_wp2
     go_ret
     rw [F.out]
     exact ⟨rfl, bel_drewN bw q⟩
    ·have HQ := Lib.hid (HE.out true qb)
     have F := Lib.hid (show likeR a b = true by unfold likeR; simp [estep, erate, eroot, of_decide_eq_true qb])
     clear estep
     clear erate
     clear eroot
     go_enter Tryz.func101, Tryz.ntmps101
     go_wp2_with fail
     refine HQ.out.mono ?_
     rintro e w1 ⟨rfl, q, rfl⟩
     go_wp2
     go_ret
     rw [F.out]
     exact ⟨rfl, bel_drewN bw q⟩
theorem aud_like (a b : Rec) (A B : Option Addr) (n k m d : Nat) (w : World) (ha : Ints .i64 w A n a.batch) (hb : Ints .i64 w B m b.batch) (hn : n ≤ 9223372036854775806 ∨ m ≤ 9223372036854775806) :
  Calls Tryz.prog 52 #[.agg #[.int .i64 a.step, .slice A n k, .int .i64 a.rate, .int .u64 a.root, .int .u64 a.chain], .agg #[.int .i64 b.step, .slice B m d, .int .i64 b.rate, .int .u64 b.root, .int .u64 b.chain]] w fun e w' => e = .returned (.bool (likeR a b)) ∧ Below w.heap.size w w' := by
 have bw : Below w.heap.size w ((w.alloc (.cells #[.int .i64 a.step, .slice A n k, .int .i64 a.rate, .int .u64 a.root, .int .u64 a.chain] 90)).alloc (.cells #[.int .i64 b.step, .slice B m d, .int .i64 b.rate, .int .u64 b.root, .int .u64 b.chain] 90)) := (by repeat (first | exact Below.refl _ _ | assumption | refine bel_drewN ?_ _ | refine Below.drew ?_ | (refine Below.alloc ?_ (by simp <;> omega) _) | (refine Below.setCell ?_ (by simp <;> omega) _)))
 have HE := Lib.hid (fun r (hr : decide (a.batch = b.batch) = r) => eq_any2 (c := k) (d := d) hr ((ha.alloc (.cells #[.int .i64 a.step, .slice A n k, .int .i64 a.rate, .int .u64 a.root, .int .u64 a.chain] 90)).alloc (.cells #[.int .i64 b.step, .slice B m d, .int .i64 b.rate, .int .u64 b.root, .int .u64 b.chain] 90)) ((hb.alloc (.cells #[.int .i64 a.step, .slice A n k, .int .i64 a.rate, .int .u64 a.root, .int .u64 a.chain] 90)).alloc (.cells #[.int .i64 b.step, .slice B m d, .int .i64 b.rate, .int .u64 b.root, .int .u64 b.chain] 90)) hn)
 clear ha hb hn
 cases qstep : (a.step == b.step)
 ·have F := Lib.hid (show likeR a b = false by unfold likeR; simp [beq_eq_false_iff_ne.1 qstep])
  go_enter Tryz.func52, Tryz.ntmps52
  go_wp2
  go_ret
  rw [F.out]
  exact ⟨rfl, bw⟩
 ·have estep := beq_iff_eq.1 qstep
  cases qb : decide (a.batch = b.batch)
  ·have HQ := Lib.hid (HE.out false qb)
   have F := Lib.hid (show likeR a b = false by unfold likeR; simp [estep, of_decide_eq_false qb])
   clear estep
   go_enter Tryz.func52, Tryz.ntmps52
   go_wp2_with fail
   refine HQ.out.mono ?_
   rintro e w1 ⟨rfl, q, rfl⟩
   go_wp2
   go_ret
   rw [F.out]
   exact ⟨rfl, bel_drewN bw q⟩
  ·have HQ := Lib.hid (HE.out true qb)
   cases qrate : (a.rate == b.rate)
   ·have F := Lib.hid (show likeR a b = false by unfold likeR; simp [estep, of_decide_eq_true qb, beq_eq_false_iff_ne.1 qrate])
    clear estep
    go_enter Tryz.func52, Tryz.ntmps52
    go_wp2_with fail
    refine HQ.out.mono ?_
    rintro e w1 ⟨rfl, q, rfl⟩
    go_wp2
    go_ret
    rw [F.out]
    exact ⟨rfl, bel_drewN bw q⟩
   ·have erate := beq_iff_eq.1 qrate
    cases qroot : (a.root == b.root)
    ·have F := Lib.hid (show likeR a b = false by unfold likeR; simp [estep, of_decide_eq_true qb, erate, beq_eq_false_iff_ne.1 qroot])
     clear estep
     clear erate
     go_enter Tryz.func52, Tryz.ntmps52
     go_wp2_with fail
     refine HQ.out.mono ?_
     rintro e w1 ⟨rfl, q, rfl⟩
     go_wp2
     go_ret
     rw [F.out]
     exact ⟨rfl, bel_drewN bw q⟩
    ·have eroot := beq_iff_eq.1 qroot
     have F := Lib.hid (show likeR a b = true by unfold likeR; simp [estep, of_decide_eq_true qb, erate, eroot])
     clear estep
     clear erate
     clear eroot
     go_enter Tryz.func52, Tryz.ntmps52
     go_wp2_with fail
     refine HQ.out.mono ?_
     rintro e w1 ⟨rfl, q, rfl⟩
     go_wp2
     go_ret
     rw [F.out]
     exact ⟨rfl, bel_drewN bw q⟩
def RecAt (w : World) (b o : Nat) (A : Option Addr) (k : Nat) (r : Rec) : Prop := w.cell? ⟨b, o, none⟩ = some (.int .i64 r.step) ∧ w.cell? ⟨b, o + 1, none⟩ = some (.slice A r.batch.length k) ∧ w.cell? ⟨b, o + 2, none⟩ = some (.int .i64 r.rate) ∧ w.cell? ⟨b, o + 3, none⟩ = some (.int .u64 r.root) ∧ w.cell? ⟨b, o + 4, none⟩ = some (.int .u64 r.chain)
structure RecsR (w : World) (A : Option Addr) (n : Nat) (rs : List Rec) : Prop where
 len : rs.length = n
 cells : 0 < n → ∃ b off, A = some ⟨b, off, none⟩ ∧ b < w.heap.size ∧ ∀ j, j < n → ∃ L k, RecAt w b (off + j * 5) L k (recAt rs j) ∧ Ints .i64 w L (recAt rs j).batch.length (recAt rs j).batch ∧ (recAt rs j).batch.length ≤ k ∧ k ≤ maxLen
theorem RecAt.below {w w' : World} {b o : Nat} {A : Option Addr} {k : Nat} {r : Rec} (h : RecAt w b o A k r) (hb : Below w.heap.size w w') (hl : b < w.heap.size) : RecAt w' b o A k r := by
 obtain ⟨h0, h1, h2, h3, h4⟩ := h
 exact ⟨(hb.cell (p := ⟨b, o, none⟩) hl).trans h0, (hb.cell (p := ⟨b, o + 1, none⟩) hl).trans h1, (hb.cell (p := ⟨b, o + 2, none⟩) hl).trans h2, (hb.cell (p := ⟨b, o + 3, none⟩) hl).trans h3, (hb.cell (p := ⟨b, o + 4, none⟩) hl).trans h4⟩
theorem RecsR.below {w w' : World} {A : Option Addr} {n : Nat} {rs : List Rec} (h : RecsR w A n rs) (hb : Below w.heap.size w w') : RecsR w' A n rs :=
 ⟨h.len, fun hn => by
  obtain ⟨b, off, e, hl, hc⟩ := h.cells hn
  refine ⟨b, off, e, Nat.lt_of_lt_of_le hl hb.size, fun j hj => ?_⟩
  obtain ⟨L, k, h1, h2, h3⟩ := hc j hj
  exact ⟨L, k, h1.below hb hl, h2.below hb, h3⟩⟩
theorem RecsR.at {w : World} {A : Option Addr} {n : Nat} {rs : List Rec} (h : RecsR w A n rs) {j : Nat} (hj : j < n) : ∃ b off L k, A = some ⟨b, off, none⟩ ∧ b < w.heap.size ∧ RecAt w b (off + j * 5) L k (recAt rs j) ∧ Ints .i64 w L (recAt rs j).batch.length (recAt rs j).batch ∧ (recAt rs j).batch.length ≤ k ∧ k ≤ maxLen := by
 obtain ⟨b, off, e, hb, hc⟩ := h.cells (by omega)
 obtain ⟨L, k, h1, h2, h3⟩ := hc j hj
 exact ⟨b, off, L, k, e, hb, h1, h2, h3⟩
theorem RecsK.weak {w : World} {A : Option Addr} {n : Nat} {rs : List Rec} (h : RecsK w A n rs) : RecsR w A n rs :=
 ⟨h.len, fun hn => by
  obtain ⟨b, off, e, hb, hc⟩ := h.cells hn
  refine ⟨b, off, e, hb, fun j hj => ?_⟩
  obtain ⟨cs, ⟨v, rfl, L, k, rfl, hI, h1, h2, _⟩, hi⟩ := hc j hj
  exact ⟨L, k, ⟨hi 0 (by omega), hi 1 (by omega), hi 2 (by omega), hi 3 (by omega), hi 4 (by omega)⟩, hI, h1, h2⟩⟩
end Go.Proofs.YtgodgedhddngeaaGreatDoor
namespace Go.Proofs.YtgodgedhddngeaaGreatDoor
open Go.ChangeShapes Go.WideShapes Go.ChangeAt Go.RowKit Pl
section
variable {H : Type} {enc : TypeId × Value → H} {w : World} {base : Nat} {sp : Nat → Bool} {held : Bool}
theorem arg_string_upto {r : Reach} {b : Nat} {v : Value} {d : DataW H} {p : List MemPlace} (hv : Value.okWide Tryz.prog w r b 9 v) (h : DataW.Trod enc Tryz.prog w base sp held 9 v d p) :
  ∃ s : ByteArray, v = .string s ∧ s.size + 1 ≤ Rows.uptoBulk d := by
 obtain ⟨s, rfl, rfl, _, _⟩ := ChangeMaps.open_string Tryz.underlying9 hv h
 refine ⟨s, rfl, ?_⟩
 simp only [Rows.uptoBulk, Array.length_toList]
 exact Nat.le_refl _
end
end Go.Proofs.YtgodgedhddngeaaGreatDoor
namespace Go.Proofs.YtgodgedhddngeaaGreatDoor
open Go.RowKit Pl
theorem Blk.pup {w : World} {g : Nat} {t : TypeId} {a0 a1 a2 a3 a4 a5 a6 a7 : Value} (h : Blk w g t #[a0, a1, a2, a3, a4, a5, a6, a7]) :
  w.cell? ⟨g, 0, none⟩ = some a0 ∧ w.cell? ⟨g, 1, none⟩ = some a1 ∧ w.cell? ⟨g, 2, none⟩ = some a2 ∧ w.cell? ⟨g, 3, none⟩ = some a3 ∧ w.cell? ⟨g, 4, none⟩ = some a4 ∧ w.cell? ⟨g, 5, none⟩ = some a5 ∧ w.cell? ⟨g, 6, none⟩ = some a6 ∧ w.cell? ⟨g, 7, none⟩ = some a7 :=
 ⟨h.cell 0, h.cell 1, h.cell 2, h.cell 3, h.cell 4, h.cell 5, h.cell 6, h.cell 7⟩
theorem Blk.pupz {w : World} {g : Nat} {t : TypeId} {a0 a1 a2 a3 a4 a5 a6 a7 : Value} (h : Blk w g t #[a0, a1, a2, a3, a4, a5, a6, a7]) :
  w.frozen? ⟨g, 0, none⟩ = false ∧ w.frozen? ⟨g, 1, none⟩ = false ∧ w.frozen? ⟨g, 2, none⟩ = false ∧ w.frozen? ⟨g, 3, none⟩ = false ∧ w.frozen? ⟨g, 4, none⟩ = false ∧ w.frozen? ⟨g, 5, none⟩ = false ∧ w.frozen? ⟨g, 6, none⟩ = false ∧ w.frozen? ⟨g, 7, none⟩ = false :=
 ⟨h.frozen 0, h.frozen 1, h.frozen 2, h.frozen 3, h.frozen 4, h.frozen 5, h.frozen 6, h.frozen 7⟩
def PupBox (w : World) (g : Nat) (P : Pup) : Prop :=
 ∃ A1 k1 A2 k2 B1 d1 B2 d2, Blk w g 102 #[.int .i64 P.r1, .int .i64 P.c1, .slice A1 P.a1.length k1, .int .i64 P.r2, .int .i64 P.c2, .slice A2 P.a2.length k2, .slice B1 P.b1.length d1, .slice B2 P.b2.length d2] ∧
  Ints .i64 w A1 P.a1.length P.a1 ∧ Ints .i64 w A2 P.a2.length P.a2 ∧ Ints .i64 w B1 P.b1.length P.b1 ∧ Ints .i64 w B2 P.b2.length P.b2
end Go.Proofs.YtgodgedhddngeaaGreatDoor
