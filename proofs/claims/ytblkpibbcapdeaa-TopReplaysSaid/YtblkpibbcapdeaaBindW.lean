/- Lists of lists in memory; coachkeep.pairs: a walk. -/
import Derived.Test.YtblkpibbcapdeaaBindP
import Derived.Deep.AppendLies
import Derived.Deep.RegionHeld3
namespace Go.Proofs.Ytblkpibbcapdeaa
open Go.RowKit Pl

theorem Ints.fresh {k : IntKind} {w : World} {ad : Addr} {n : Nat} {xs : List Int} (h : Ints k w (some ad) n xs) : ∀ j u, (xs.map (Value.int k))[j]? = some u → w.cell? (ad.add j) = some u := by
  intro j u hu
  rw [List.getElem?_map] at hu
  have hj : j < xs.length := by
    rcases Nat.lt_or_ge j xs.length with h | h
    · exact h
    · rw [List.getElem?_eq_none h] at hu; cases hu
  rw [List.getElem?_eq_getElem hj, Option.map_some] at hu
  cases hu
  obtain ⟨b, off, e, hb, hc⟩ := h.cells (by rw [← h.len]; omega)
  cases e
  rw [Go.WideShapes.add_plain, hc j (by rw [← h.len]; exact hj), at0_getElem _ _ hj]
theorem Ints.grown {k : IntKind} {w w' : World} {A : Option Addr} {n : Nat} {xs : List Int} {row : Option Nat} (h : Ints k w A n xs) (hg : w.grownBy w' row) (hne : ∀ b off, A = some ⟨b, off, none⟩ → row ≠ some b) : Ints k w' A n xs :=
  ⟨h.len, fun hn => by
    obtain ⟨b, off, e, hb, hc⟩ := h.cells hn
    exact ⟨b, off, e, Nat.lt_of_lt_of_le hb hg.size, fun j hj => (World.cell?_of_block (a := ⟨b, off + j, none⟩) (hg.block b hb (fun x => hne b off e x.symm))).trans (hc j hj)⟩⟩

theorem blk_eq {a x n c : Nat} (h : (Value.slice (some ⟨a, 0, none⟩) n c).ownBlock = some x) : a = x := Option.some.inj h
theorem gg_le {a H g n c : Nat} (h : (Value.slice (some ⟨a, 0, none⟩) n c).ownBlock = some g ∨ g = H) (hH : a ≤ H) : a ≤ g := by
  rcases h with h | h
  · exact Nat.le_of_eq (Option.some.inj h)
  · omega
/-- A list that stands in a block of its own, other than that of o. -/
def Part (w : World) (o : Option Nat) (v : Value) (xs : List Int) : Prop :=
  ∃ b s, v = .slice (some ⟨b, 0, none⟩) xs.length s ∧ Ints .u64 w (some ⟨b, 0, none⟩) xs.length xs ∧ xs.length ≤ s ∧ o ≠ some b ∧ b < w.heap.size
theorem Part.below {w w' : World} {o : Option Nat} {v : Value} {xs : List Int} (h : Part w o v xs) (hb : Below w.heap.size w w') : Part w' o v xs := by
  obtain ⟨b, s, rfl, hi, hs, hne, hlt⟩ := h
  exact ⟨b, s, rfl, hi.below hb, hs, hne, Nat.lt_of_lt_of_le hlt hb.size⟩
theorem Part.own {w : World} {B g cap n : Nat} {o : Option Nat} {xs : List Int} (h : w.ownsRow B 22 1 (.slice (some ⟨g, 0, none⟩) n cap) n (xs.map (.int .u64))) (hl : xs.length = n) (hc : n ≤ cap) (ho : o ≠ some g) : Part w o (.slice (some ⟨g, 0, none⟩) n cap) xs := by
  subst hl
  exact ⟨g, cap, rfl, Ints.of_own h rfl, hc, ho, (h.lt g rfl).2⟩
/-- k lists that the call keeps in a slice of its own. -/
def Heaps (B : Nat) (row : Nat → List Int) (k : Nat) (v : Value) (w : World) : Prop :=
  ∃ vs, w.ownsRow B 69 1 v k vs ∧ ∀ j, j < k → Part w v.ownBlock (vs[j]?.getD undef) (row j)
theorem Heaps.below {B : Nat} {row : Nat → List Int} {k : Nat} {v : Value} {w w' : World} (h : Heaps B row k v w) (hb : Below w.heap.size w w') : Heaps B row k v w' := by
  obtain ⟨vs, ho, hp⟩ := h
  exact ⟨vs, own_below ho hb, fun j hj => (hp j hj).below hb⟩
theorem Heaps.push {B : Nat} {row : Nat → List Int} {k g cap : Nat} {v x : Value} {vs : List Value} {w w' : World} (hown : w'.ownsRow B 69 1 (.slice (some ⟨g, 0, none⟩) (k + 1) cap) (k + 1) (vs ++ [x])) (hl : vs.length = k)
    (hp : ∀ j, j < k → Part w v.ownBlock (vs[j]?.getD undef) (row j)) (hx : Part w v.ownBlock x (row k)) (hg : w.grownBy w' v.ownBlock) (hgg : v.ownBlock = some g ∨ g = w.heap.size) : Heaps B row (k + 1) (.slice (some ⟨g, 0, none⟩) (k + 1) cap) w' := by
  have turn : ∀ u xs, Part w v.ownBlock u xs → Part w' (some g) u xs := by
    intro u xs h
    obtain ⟨b, s, rfl, hi, hs, hne, hlt⟩ := h
    refine ⟨b, s, rfl, hi.grown hg (fun b' off e => by cases e; exact hne), hs, fun e => ?_, Nat.lt_of_lt_of_le hlt hg.size⟩
    injection e with e
    subst e
    rcases hgg with h1 | h1
    · exact hne h1
    · omega
  refine ⟨_, hown, fun j hj => ?_⟩
  by_cases h : j < k
  · rw [List.getElem?_append_left (by omega)]
    exact turn _ _ (hp j h)
  · obtain rfl : j = k := by omega
    rw [List.getElem?_append_right (by omega), hl, Nat.sub_self]
    exact turn _ _ hx
theorem Heaps.one {B : Nat} {row : Nat → List Int} {x : Value} {w : World} (hB : B ≤ w.heap.size) (hx : Part w (some w.heap.size) x (row 0)) (o : Obj) (ho : o = .cells #[x] 69) : Heaps B row 1 (.slice (some ⟨w.heap.size, 0, none⟩) 1 1) (w.alloc o) := by
  subst ho
  refine ⟨[x], World.ownsRow_lit w #[x] 1 hB (by decide) rfl, fun j hj => ?_⟩
  obtain rfl : j = 0 := by omega
  exact hx.below ((Below.refl _ _).alloc (Nat.le_refl _) _)
theorem Heaps.len {B : Nat} {row : Nat → List Int} {k : Nat} {v : Value} {w : World} (h : Heaps B row k v w) : ∃ vs, vs.length = k ∧ w.ownsRow B 69 1 v k vs ∧ ∀ j, j < k → Part w v.ownBlock (vs[j]?.getD undef) (row j) := by
  obtain ⟨vs, ho, hp⟩ := h
  have := ho.1
  exact ⟨vs, by omega, ho, hp⟩
/-- What pairs hands back. -/
def PairsR (w : World) (row : Nat → List Int) (k : Nat) (e : Ending) (w' : World) : Prop :=
  ∃ g c, e = .returned (.slice (some ⟨g, 0, none⟩) k c) ∧ Heaps w.heap.size row k (.slice (some ⟨g, 0, none⟩) k c) w' ∧ Below w.heap.size w w'

theorem u64s_info : (Try.prog.info? 69).map (fun i => (i.zero, i.size, i.bytes)) = some (some (.slice none 0 0), 1, 24) := by kernel_rfl
theorem bool_info : (Try.prog.info? 4).map (fun i => (i.zero, i.size, i.bytes)) = some (some (.bool false), 1, 1) := by kernel_rfl
def rightV (ts : List (Bool × Nat × Nat)) : List Value := ts.map fun t => .bool t.1
theorem rightV_snoc (ts : List (Bool × Nat × Nat)) (t : Bool × Nat × Nat) : rightV (ts ++ [t]) = rightV ts ++ [.bool t.1] := by simp [rightV]
/-- The turns, from the root down: so many are told. -/
def SideR (i n : Nat) (a b : Value) (k : Nat) (o : Value) (w wr : World) : Prop :=
  ∃ (ts : List (Bool × Nat × Nat)) (i' n' : Nat), waysP i n = ts ++ waysP i' n' ∧ ts.length = k ∧ 1 ≤ n' ∧ n' + k ≤ n ∧ i' ≤ i ∧ a = .int .i64 i' ∧ b = .int .i64 n' ∧ wr.ownsRow w.heap.size 4 1 o k (rightV ts) ∧ Below w.heap.size w wr
theorem rightV_at (ts : List (Bool × Nat × Nat)) {j : Nat} (h : j < ts.length) : (rightV ts)[ts.length - 1 - j]? = some (.bool (rightB ts j)) := by
  unfold rightV rightB
  rw [List.getElem?_map, List.getElem?_eq_getElem (by omega)]
  rfl

theorem pairs_mid {wr wX wA : World} {hp h3 gA capA B k : Nat} {P0 P1 : Int} {xs : List Int} {u : Value} {vs : List Value} (bX : Below wr.heap.size wr wX) (hX : wX.heap.size = h3) (hp1 : wr.heap.size ≤ hp) (hp2 : hp < h3) (BP : Blk wX hp 22 #[.int .u64 P0, .int .u64 P1]) (RE : xs = [3, P0, P1])
    (hownV : wr.ownsRow B 69 1 u k vs) (hownA : wA.ownsRow wr.heap.size 22 1 (.slice (some ⟨gA, 0, none⟩) 3 capA) 3 [.int .u64 3, .int .u64 P0, .int .u64 P1])
    (hgrowA : (wX.alloc (.cells #[.int .u64 3] 22)).grownBy wA (Value.slice (some ⟨h3, 0, none⟩) 1 1).ownBlock) (hggA : (Value.slice (some ⟨h3, 0, none⟩) 1 1).ownBlock = some gA ∨ gA = h3 + 1) :
    h3 ≤ gA ∧ Below wr.heap.size wr wA ∧ h3 + 1 ≤ wA.heap.size ∧ Blk wA hp 22 #[.int .u64 P0, .int .u64 P1] ∧ Part wA u.ownBlock (.slice (some ⟨gA, 0, none⟩) 3 capA) xs ∧
      (wA.alloc (.cells #[.slice (some ⟨gA, 0, none⟩) 3 capA] 69)).ownsRow B 69 1 u k vs := by
  have GA := gg_le hggA (by omega)
  have sA := hgrowA.size
  have e1 : (wX.alloc (.cells #[.int .u64 3] 22)).heap.size = h3 + 1 := by simp [hX]
  rw [e1] at sA
  have bA : Below wr.heap.size wr wA := Below.grown (bX.alloc bX.size _) hgrowA (by rw [e1]; omega) (fun x hx => by have := blk_eq hx; omega)
  refine ⟨GA, bA, sA, (BP.alloc _).grown hgrowA (fun h => by have := blk_eq h.symm; omega), ?_, own_below hownV (bA.alloc (by omega) _)⟩
  subst RE
  exact Part.own hownA rfl (own_capT hownA) (fun h => by have := (hownV.lt _ h).2; omega)
theorem pairs_end {w wr wA wB : World} {hp gA capA gB capB k L rg rc : Nat} {P0 P1 : Int} {row : Nat → List Int} {u : Value} {vs rs : List Value} (hvl : vs.length = k) (hownV : wr.ownsRow w.heap.size 69 1 u k vs) (hpV : ∀ j, j < k → Part wr u.ownBlock (vs[j]?.getD undef) (row j))
    (hb6 : Below w.heap.size w wr) (hownR : wr.ownsRow w.heap.size 4 1 (.slice (some ⟨rg, 0, none⟩) L rc) L rs) (hneR : (Value.slice (some ⟨rg, 0, none⟩) L rc).ownBlock = none ∨ (Value.slice (some ⟨rg, 0, none⟩) L rc).ownBlock ≠ u.ownBlock)
    (bA : Below wr.heap.size wr wA) (hp1 : wr.heap.size ≤ hp) (BPA : Blk wA hp 22 #[.int .u64 P0, .int .u64 P1]) (PA : Part wA u.ownBlock (.slice (some ⟨gA, 0, none⟩) 3 capA) (row k))
    (hownB : wB.ownsRow w.heap.size 69 1 (.slice (some ⟨gB, 0, none⟩) (k + 1) capB) (k + 1) (vs ++ [.slice (some ⟨gA, 0, none⟩) 3 capA])) (hgrowB : (wA.alloc (.cells #[.slice (some ⟨gA, 0, none⟩) 3 capA] 69)).grownBy wB u.ownBlock) (hggB : u.ownBlock = some gB ∨ gB = wA.heap.size + 1) :
    Heaps w.heap.size row (k + 1) (.slice (some ⟨gB, 0, none⟩) (k + 1) capB) wB ∧ Blk wB hp 22 #[.int .u64 P0, .int .u64 P1] ∧ Below w.heap.size w wB ∧ wB.ownsRow w.heap.size 4 1 (.slice (some ⟨rg, 0, none⟩) L rc) L rs ∧
      ((Value.slice (some ⟨rg, 0, none⟩) L rc).ownBlock = none ∨ (Value.slice (some ⟨rg, 0, none⟩) L rc).ownBlock ≠ (Value.slice (some ⟨gB, 0, none⟩) (k + 1) capB).ownBlock) := by
  have s1 := bA.size
  have s2 := hb6.size
  have e1 : (wA.alloc (.cells #[.slice (some ⟨gA, 0, none⟩) 3 capA] 69)).heap.size = wA.heap.size + 1 := by simp
  have bX := bA.alloc s1 (.cells #[.slice (some ⟨gA, 0, none⟩) 3 capA] 69)
  refine ⟨Heaps.push hownB hvl (fun j hj => (hpV j hj).below bX) (PA.below ((Below.refl _ _).alloc (Nat.le_refl _) _)) hgrowB (by rw [e1]; exact hggB), (BPA.alloc _).grown hgrowB (fun h => by have := (hownV.lt _ h.symm).2; omega),
    Below.grown (bel_trans hb6 bX) hgrowB (by rw [e1]; omega) (fun x hx => (hownV.lt x hx).1), (own_below hownR bX).kept hgrowB hneR, .inr fun h => ?_⟩
  have h1 : rg = gB := Option.some.inj h
  rcases hggB with h2 | h2
  · rcases hneR with h4 | h4
    · cases h4
    · exact h4 (by rw [h2, ← h1]; rfl)
  · have := (hownR.lt rg rfl).2
    omega

end Go.Proofs.Ytblkpibbcapdeaa
