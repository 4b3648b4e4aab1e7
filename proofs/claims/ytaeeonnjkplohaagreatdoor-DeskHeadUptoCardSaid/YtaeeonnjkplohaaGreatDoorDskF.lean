/- What a desk's methods keep of memory, told by the blocks' types; examples that a desk keeps. -/
import Derived.Test.YtaeeonnjkplohaaGreatDoorTrs
namespace Go.Proofs.YtaeeonnjkplohaaGreatDoor
open Go.RowKit Pl

/-- Every block below B, and every block that holds none of the types T, stands as it stood. -/
structure Kp (B : Nat) (T : TypeId → Bool) (w w' : World) : Prop where
  os : w'.os = w.os
  tape : w'.tape = w.tape
  output : w'.output = w.output
  size : w.heap.size ≤ w'.heap.size
  block : ∀ g, g < w.heap.size → (g < B ∨ ∀ cs t fr, w.heap[g]? = some (.cells cs t fr) → T t = false) → w'.heap[g]? = w.heap[g]?
section
variable {B : Nat} {T : TypeId → Bool} {a w w' : World}
theorem Kp.refl (B : Nat) (T : TypeId → Bool) (w : World) : Kp B T w w := ⟨rfl, rfl, rfl, Nat.le_refl _, fun _ _ _ => rfl⟩
theorem Kp.trans (h : Kp B T a w) (h' : Kp B T w w') : Kp B T a w' :=
  ⟨h'.os.trans h.os, h'.tape.trans h.tape, h'.output.trans h.output, Nat.le_trans h.size h'.size, fun g hg hc => by
    have e := h.block g hg hc
    refine (h'.block g (Nat.lt_of_lt_of_le hg h.size) ?_).trans e
    rcases hc with hc | hc
    · exact .inl hc
    · exact .inr fun cs t fr he => hc cs t fr (by rw [← e]; exact he)⟩
theorem Kp.of_below (h : Below w.heap.size w w') : Kp B T w w' := ⟨h.os, h.tape, h.output, h.size, fun g hg _ => h.block g hg⟩
theorem Kp.low (h : Kp B T w w') (hB : B ≤ w.heap.size) : Below B w w' := ⟨h.os, h.tape, h.output, h.size, fun g hg => h.block g (by omega) (.inl hg)⟩
theorem Kp.of_but {q : Nat} {t : TypeId} {cs : Array Value} (hb : But q w w') (hq : Blk w q t cs) (ht : T t = true) (hB : B ≤ q) : Kp B T w w' :=
  ⟨hb.os, hb.tape, hb.output, hb.size, fun g hg hc => hb.block g hg fun e => by
    subst e
    rcases hc with hc | hc
    · omega
    · have := hc _ _ _ hq
      rw [ht] at this
      cases this⟩
theorem Kp.put {q i : Nat} {t : TypeId} {cs : Array Value} {u : Value} (hq : Blk w q t cs) (ht : T t = true) (hB : B ≤ q) : Kp B T w (w.setCell ⟨q, i, none⟩ u) := .of_but ((But.refl q w).put i u) hq ht hB
theorem Kp.of_grown {row : Option Nat} (hg : w.grownBy w' row) (hr : ∀ g, row = some g → B ≤ g ∧ ∃ cs t fr, w.heap[g]? = some (.cells cs t fr) ∧ T t = true) : Kp B T w w' :=
  ⟨hg.os, hg.tape, hg.output, hg.size, fun g hg' hc => hg.block g hg' fun e => by
    obtain ⟨h1, cs, t, fr, h2, h3⟩ := hr g e.symm
    rcases hc with hc | hc
    · omega
    · have := hc _ _ _ h2
      rw [h3] at this
      cases this⟩
theorem Kp.drew (h : Kp B T a w) : Kp B T a w.drew := ⟨h.os, h.tape, h.output, h.size, h.block⟩
theorem Kp.blk {q : Nat} {t : TypeId} {cs : Array Value} (h : Kp B T w w') (hq : Blk w q t cs) (ht : T t = false) : Blk w' q t cs :=
  (h.block q hq.lt (.inr fun cs' t' fr' e => by
    rw [hq] at e
    injection e with e
    injection e with _ e _
    rw [← e]
    exact ht)).trans hq
theorem Kp.own {e : TypeId} {sz n base : Nat} {v : Value} {xs : List Value} (h : Kp B T w w') (ho : w.ownsRow base e sz v n xs) (ht : T e = false) : w'.ownsRow base e sz v n xs :=
  own_keep ho fun k hk => by
    rcases ho.2 with ⟨hv, _⟩ | ⟨g, cap, cur, hv, hb, hg, _⟩
    · rw [hv] at hk
      cases hk
    · rw [hv] at hk
      have hk : some g = some k := hk
      injection hk with hk
      subst hk
      refine h.block g (Array.getElem?_eq_some_iff.1 hg).1 (.inr fun cs' t' fr' e => ?_)
      rw [hg] at e
      injection e with e
      injection e with _ e _
      rw [← e]
      exact ht
end
/-- A list that a desk keeps, in another block than o. -/
def ListD (w : World) (o : Option Nat) (v : Value) (xs : List Int) : Prop := w.ownsRow 0 3 1 v xs.length (xs.map (.int .i64)) ∧ ∀ k, v.ownBlock = some k → o ≠ some k
section
variable {w w' : World} {o : Option Nat} {v : Value} {xs : List Int}
theorem ListD.below (h : ListD w o v xs) (hb : Below w.heap.size w w') : ListD w' o v xs := ⟨own_below h.1 hb, h.2⟩
theorem ListD.turn {g : Nat} (h : ListD w o v xs) (hg : w.grownBy w' o) (hgg : o = some g ∨ w.heap.size ≤ g) : ListD w' (some g) v xs := by
  have hlt : ∀ k, v.ownBlock = some k → k < w.heap.size := fun k hk => (h.1.lt k hk).2
  refine ⟨own_keep h.1 fun k hk => hg.block k (hlt k hk) (fun e => h.2 k hk e.symm), fun k hk e => ?_⟩
  injection e with e
  subst e
  rcases hgg with hgg | hgg
  · exact h.2 _ hk hgg
  · have := hlt _ hk
    omega
theorem ListD.kp {B : Nat} {T : TypeId → Bool} (h : ListD w o v xs) (hk : Kp B T w w') (ht : T 3 = false) : ListD w' o v xs := ⟨hk.own h.1 ht, h.2⟩
theorem ListD.slice (h : ListD w o v xs) : ∃ A c, v = .slice A xs.length c ∧ Ints .i64 w A xs.length xs ∧ xs.length ≤ c ∧ c ≤ maxLen := by
  rcases h.1.2 with ⟨hv, h0⟩ | ⟨g, cap, cur, hv, hb, hlt, h1, h2, _⟩
  · refine ⟨none, 0, by rw [hv, h0], ?_, by omega, by unfold maxLen; omega⟩
    have h' := h.1
    rw [hv] at h'
    rw [h0] at h' ⊢
    exact Ints.of_own h' (by rw [h0])
  · have h' := h.1
    rw [hv] at h'
    exact ⟨_, cap, hv, Ints.of_own h' rfl, h1, h2⟩
end
/-- An example's two cells. -/
def ExK (w : World) (o : Option Nat) (cs : List Value) (s : List Int × List Int) : Prop := ∃ a b, cs = [a, b] ∧ ListD w o a s.1 ∧ ListD w o b s.2
theorem keeps_ex : Keeps ExK :=
  ⟨fun h hb => by obtain ⟨a, b, e, h1, h2⟩ := h; exact ⟨a, b, e, h1.below hb, h2.below hb⟩,
   fun h hg hgg => by obtain ⟨a, b, e, h1, h2⟩ := h; exact ⟨a, b, e, h1.turn hg hgg, h2.turn hg hgg⟩⟩
/-- The examples that a desk keeps. -/
def DataH (w : World) (B : Nat) (v : Value) (ds : Data) : Prop := Held ExK 53 2 B (duoAt ds) ds.length v w
section
variable {w w' : World} {B : Nat} {v : Value} {ds : Data}
theorem DataH.below (h : DataH w B v ds) (hb : Below w.heap.size w w') : DataH w' B v ds := Held.below keeps_ex h hb
theorem DataH.kp {B' : Nat} {T : TypeId → Bool} (h : DataH w B v ds) (hk : Kp B' T w w') (h1 : T 3 = false) (h2 : T 53 = false) : DataH w' B v ds := by
  obtain ⟨vs, ho, hp⟩ := h
  refine ⟨vs, hk.own ho h2, fun j hj => ?_⟩
  obtain ⟨a, b, e, ha, hb⟩ := hp j hj
  exact ⟨a, b, e, ha.kp hk h1, hb.kp hk h1⟩
theorem DataH.nil (w : World) (B : Nat) : DataH w B (.slice none 0 0) [] := Held.zero
theorem DataH.duos (h : DataH w B v ds) : ∃ D c, v = .slice D ds.length c ∧ Duos w D ds.length ds ∧ ds.length ≤ c ∧ c ≤ maxLen := by
  obtain ⟨D, c, hv, h1, h2⟩ := Held.slice h
  refine ⟨D, c, hv, ⟨rfl, fun hn => ?_⟩, h1, h2⟩
  obtain ⟨g, c', hv', hB, hg, _⟩ := Held.form h hn
  rw [hv] at hv'
  injection hv' with e1 _ e3
  subst e1; subst e3; subst hv
  refine ⟨g, 0, rfl, hg, fun j hj => ?_⟩
  obtain ⟨cs, ⟨a, b, rfl, ha, hb⟩, hc, _, _⟩ := Held.at h hj
  obtain ⟨A1, c1, rfl, i1, l1, m1⟩ := ha.slice
  obtain ⟨A2, c2, rfl, i2, l2, m2⟩ := hb.slice
  rw [Nat.zero_add]
  exact ⟨A1, _, c1, A2, _, c2, hc 0 (by omega), hc 1 (by omega), i1, i2, l1, m1, l2, m2⟩
end
end Go.Proofs.YtaeeonnjkplohaaGreatDoor
