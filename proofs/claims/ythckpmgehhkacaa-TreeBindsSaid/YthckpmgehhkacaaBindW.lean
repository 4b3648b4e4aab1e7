/- Lists of lists in memory; coachkeep.pairs: a walk. -/
import Derived.Test.YthckpmgehhkacaaBindP
import Derived.Deep.AppendLies
import Derived.Deep.RegionHeld3
namespace Go.Proofs.Ythckpmgehhkacaa
open Go.RowKit Pl

theorem Ints.fresh {k : IntKind} {w : World} {ad : Addr} {n : Nat} {xs : List Int} (h : Ints k w (some ad) n xs) : ∀ j u, (xs.map (Value.int k))[j]? = some u → w.cell? (ad.add j) = some u := by
  intro j u hu
  rw [List.getElem?_map] at hu
  have hj : j < xs.length := by
    rcases Nat.lt_or_ge j xs.length with h | h
    · exact h
    · rw [List.getElem?_eq_none h] at hu; cases hu
  rw [List.getElem?_eq_getElem hj, Option.map_some] at hu
  cases hu
  obtain ⟨b, off, e, hb, hc⟩ := h.cells (by rw [← h.len]; omega)
  cases e
  rw [Go.WideShapes.add_plain, hc j (by rw [← h.len]; exact hj), at0_getElem _ _ hj]
theorem Ints.grown {k : IntKind} {w w' : World} {A : Option Addr} {n : Nat} {xs : List Int} {row : Option Nat} (h : Ints k w A n xs) (hg : w.grownBy w' row) (hne : ∀ b off, A = some ⟨b, off, none⟩ → row ≠ some b) : Ints k w' A n xs :=
  ⟨h.len, fun hn => by
    obtain ⟨b, off, e, hb, hc⟩ := h.cells hn
    exact ⟨b, off, e, Nat.lt_of_lt_of_le hb hg.size, fun j hj => (World.cell?_of_block (a := ⟨b, off + j, none⟩) (hg.block b hb (fun x => hne b off e x.symm))).trans (hc j hj)⟩⟩

theorem blk_eq {a x n c : Nat} (h : (Value.slice (some ⟨a, 0, none⟩) n c).ownBlock = some x) : a = x := Option.some.inj h
theorem gg_le {a H g n c : Nat} (h : (Value.slice (some ⟨a, 0, none⟩) n c).ownBlock = some g ∨ g = H) (hH : a ≤ H) : a ≤ g := by
  rcases h with h | h
  · exact Nat.le_of_eq (Option.some.inj h)
  · omega
/-- A list that stands in a block of its own, other than that of o. -/
def Part (w : World) (o : Option Nat) (v : Value) (xs : List Int) : Prop :=
  ∃ b s, v = .slice (some ⟨b, 0, none⟩) xs.length s ∧ Ints .u64 w (some ⟨b, 0, none⟩) xs.length xs ∧ xs.length ≤ s ∧ o ≠ some b ∧ b < w.heap.size
theorem Part.below {w w' : World} {o : Option Nat} {v : Value} {xs : List Int} (h : Part w o v xs) (hb : Below w.heap.size w w') : Part w' o v xs := by
  obtain ⟨b, s, rfl, hi, hs, hne, hlt⟩ := h
  exact ⟨b, s, rfl, hi.below hb, hs, hne, Nat.lt_of_lt_of_le hlt hb.size⟩
theorem Part.own {w : World} {B g cap n : Nat} {o : Option Nat} {xs : List Int} (h : w.ownsRow B 22 1 (.slice (some ⟨g, 0, none⟩) n cap) n (xs.map (.int .u64))) (hl : xs.length = n) (hc : n ≤ cap) (ho : o ≠ some g) : Part w o (.slice (some ⟨g, 0, none⟩) n cap) xs := by
  subst hl
  exact ⟨g, cap, rfl, Ints.of_own h rfl, hc, ho, (h.lt g rfl).2⟩
/-- k lists that the call keeps in a slice of its own. -/
def Heaps (B : Nat) (row : Nat → List Int) (k : Nat) (v : Value) (w : World) : Prop :=
  ∃ vs, w.ownsRow B 24 1 v k vs ∧ ∀ j, j < k → Part w v.ownBlock (vs[j]?.getD undef) (row j)
theorem Heaps.below {B : Nat} {row : Nat → List Int} {k : Nat} {v : Value} {w w' : World} (h : Heaps B row k v w) (hb : Below w.heap.size w w') : Heaps B row k v w' := by
  obtain ⟨vs, ho, hp⟩ := h
  exact ⟨vs, own_below ho hb, fun j hj => (hp j hj).below hb⟩
theorem Heaps.push {B : Nat} {row : Nat → List Int} {k g cap : Nat} {v x : Value} {vs : List Value} {w w' : World} (hown : w'.ownsRow B 24 1 (.slice (some ⟨g, 0, none⟩) (k + 1) cap) (k + 1) (vs ++ [x])) (hl : vs.length = k)
    (hp : ∀ j, j < k → Part w v.ownBlock (vs[j]?.getD undef) (row j)) (hx : Part w v.ownBlock x (row k)) (hg : w.grownBy w' v.ownBlock) (hgg : v.ownBlock = some g ∨ g = w.heap.size) : Heaps B row (k + 1) (.slice (some ⟨g, 0, none⟩) (k + 1) cap) w' := by
  have turn : ∀ u xs, Part w v.ownBlock u xs → Part w' (some g) u xs := by
    intro u xs h
    obtain ⟨b, s, rfl, hi, hs, hne, hlt⟩ := h
    refine ⟨b, s, rfl, hi.grown hg (fun b' off e => by cases e; exact hne), hs, fun e => ?_, Nat.lt_of_lt_of_le hlt hg.size⟩
    injection e with e
    subst e
    rcases hgg with h1 | h1
    · exact hne h1
    · omega
  refine ⟨_, hown, fun j hj => ?_⟩
  by_cases h : j < k
  · rw [List.getElem?_append_left (by omega)]
    exact turn _ _ (hp j h)
  · obtain rfl : j = k := by omega
    rw [List.getElem?_append_right (by omega), hl, Nat.sub_self]
    exact turn _ _ hx
theorem Heaps.one {B : Nat} {row : Nat → List Int} {x : Value} {w : World} (hB : B ≤ w.heap.size) (hx : Part w (some w.heap.size) x (row 0)) (o : Obj) (ho : o = .cells #[x] 24) : Heaps B row 1 (.slice (some ⟨w.heap.size, 0, none⟩) 1 1) (w.alloc o) := by
  subst ho
  refine ⟨[x], World.ownsRow_lit w #[x] 1 hB (by decide) rfl, fun j hj => ?_⟩
  obtain rfl : j = 0 := by omega
  exact hx.below ((Below.refl _ _).alloc (Nat.le_refl _) _)
theorem Heaps.len {B : Nat} {row : Nat → List Int} {k : Nat} {v : Value} {w : World} (h : Heaps B row k v w) : ∃ vs, vs.length = k ∧ w.ownsRow B 24 1 v k vs ∧ ∀ j, j < k → Part w v.ownBlock (vs[j]?.getD undef) (row j) := by
  obtain ⟨vs, ho, hp⟩ := h
  have := ho.1
  exact ⟨vs, by omega, ho, hp⟩
/-- What pairs hands back. -/
def PairsR (w : World) (row : Nat → List Int) (k : Nat) (e : Ending) (w' : World) : Prop :=
  ∃ g c, e = .returned (.slice (some ⟨g, 0, none⟩) k c) ∧ Heaps w.heap.size row k (.slice (some ⟨g, 0, none⟩) k c) w' ∧ Below w.heap.size w w'

theorem u64s_info : (Try.prog.info? 24).map (fun i => (i.zero, i.size, i.bytes)) = some (some (.slice none 0 0), 1, 24) := by kernel_rfl
theorem bool_info : (Try.prog.info? 4).map (fun i => (i.zero, i.size, i.bytes)) = some (some (.bool false), 1, 1) := by kernel_rfl
def rightV (ts : List (Bool × Nat × Nat)) : List Value := ts.map fun t => .bool t.1
theorem rightV_snoc (ts : List (Bool × Nat × Nat)) (t : Bool × Nat × Nat) : rightV (ts ++ [t]) = rightV ts ++ [.bool t.1] := by simp [rightV]
/-- The turns, from the root down: so many are told. -/
def SideR (i n : Nat) (a b : Value) (k : Nat) (o : Value) (w wr : World) : Prop :=
  ∃ (ts : List (Bool × Nat × Nat)) (i' n' : Nat), waysP i n = ts ++ waysP i' n' ∧ ts.length = k ∧ 1 ≤ n' ∧ n' + k ≤ n ∧ i' ≤ i ∧ a = .int .i64 i' ∧ b = .int .i64 n' ∧ wr.ownsRow w.heap.size 4 1 o k (rightV ts) ∧ Below w.heap.size w wr
theorem rightV_at (ts : List (Bool × Nat × Nat)) {j : Nat} (h : j < ts.length) : (rightV ts)[ts.length - 1 - j]? = some (.bool (rightB ts j)) := by
  unfold rightV rightB
  rw [List.getElem?_map, List.getElem?_eq_getElem (by omega)]
  rfl

theorem pairs_mid {wr wX wA : World} {hp h3 gA capA B k : Nat} {P0 P1 : Int} {xs : List Int} {u : Value} {vs : List Value} (bX : Below wr.heap.size wr wX) (hX : wX.heap.size = h3) (hp1 : wr.heap.size ≤ hp) (hp2 : hp < h3) (BP : Blk wX hp 22 #[.int .u64 P0, .int .u64 P1]) (RE : xs = [3, P0, P1])
    (hownV : wr.ownsRow B 24 1 u k vs) (hownA : wA.ownsRow wr.heap.size 22 1 (.slice (some ⟨gA, 0, none⟩) 3 capA) 3 [.int .u64 3, .int .u64 P0, .int .u64 P1])
    (hgrowA : (wX.alloc (.cells #[.int .u64 3] 22)).grownBy wA (Value.slice (some ⟨h3, 0, none⟩) 1 1).ownBlock) (hggA : (Value.slice (some ⟨h3, 0, none⟩) 1 1).ownBlock = some gA ∨ gA = h3 + 1) :
    h3 ≤ gA ∧ Below wr.heap.size wr wA ∧ h3 + 1 ≤ wA.heap.size ∧ Blk wA hp 22 #[.int .u64 P0, .int .u64 P1] ∧ Part wA u.ownBlock (.slice (some ⟨gA, 0, none⟩) 3 capA) xs ∧
      (wA.alloc (.cells #[.slice (some ⟨gA, 0, none⟩) 3 capA] 24)).ownsRow B 24 1 u k vs := by
  have GA := gg_le hggA (by omega)
  have sA := hgrowA.size
  have e1 : (wX.alloc (.cells #[.int .u64 3] 22)).heap.size = h3 + 1 := by simp [hX]
  rw [e1] at sA
  have bA : Below wr.heap.size wr wA := Below.grown (bX.alloc bX.size _) hgrowA (by rw [e1]; omega) (fun x hx => by have := blk_eq hx; omega)
  refine ⟨GA, bA, sA, (BP.alloc _).grown hgrowA (fun h => by have := blk_eq h.symm; omega), ?_, own_below hownV (bA.alloc (by omega) _)⟩
  subst RE
  exact Part.own hownA rfl (own_capT hownA) (fun h => by have := (hownV.lt _ h).2; omega)
theorem pairs_end {w wr wA wB : World} {hp gA capA gB capB k L rg rc : Nat} {P0 P1 : Int} {row : Nat → List Int} {u : Value} {vs rs : List Value} (hvl : vs.length = k) (hownV : wr.ownsRow w.heap.size 24 1 u k vs) (hpV : ∀ j, j < k → Part wr u.ownBlock (vs[j]?.getD undef) (row j))
    (hb6 : Below w.heap.size w wr) (hownR : wr.ownsRow w.heap.size 4 1 (.slice (some ⟨rg, 0, none⟩) L rc) L rs) (hneR : (Value.slice (some ⟨rg, 0, none⟩) L rc).ownBlock = none ∨ (Value.slice (some ⟨rg, 0, none⟩) L rc).ownBlock ≠ u.ownBlock)
    (bA : Below wr.heap.size wr wA) (hp1 : wr.heap.size ≤ hp) (BPA : Blk wA hp 22 #[.int .u64 P0, .int .u64 P1]) (PA : Part wA u.ownBlock (.slice (some ⟨gA, 0, none⟩) 3 capA) (row k))
    (hownB : wB.ownsRow w.heap.size 24 1 (.slice (some ⟨gB, 0, none⟩) (k + 1) capB) (k + 1) (vs ++ [.slice (some ⟨gA, 0, none⟩) 3 capA])) (hgrowB : (wA.alloc (.cells #[.slice (some ⟨gA, 0, none⟩) 3 capA] 24)).grownBy wB u.ownBlock) (hggB : u.ownBlock = some gB ∨ gB = wA.heap.size + 1) :
    Heaps w.heap.size row (k + 1) (.slice (some ⟨gB, 0, none⟩) (k + 1) capB) wB ∧ Blk wB hp 22 #[.int .u64 P0, .int .u64 P1] ∧ Below w.heap.size w wB ∧ wB.ownsRow w.heap.size 4 1 (.slice (some ⟨rg, 0, none⟩) L rc) L rs ∧
      ((Value.slice (some ⟨rg, 0, none⟩) L rc).ownBlock = none ∨ (Value.slice (some ⟨rg, 0, none⟩) L rc).ownBlock ≠ (Value.slice (some ⟨gB, 0, none⟩) (k + 1) capB).ownBlock) := by
  have s1 := bA.size
  have s2 := hb6.size
  have e1 : (wA.alloc (.cells #[.slice (some ⟨gA, 0, none⟩) 3 capA] 24)).heap.size = wA.heap.size + 1 := by simp
  have bX := bA.alloc s1 (.cells #[.slice (some ⟨gA, 0, none⟩) 3 capA] 24)
  refine ⟨Heaps.push hownB hvl (fun j hj => (hpV j hj).below bX) (PA.below ((Below.refl _ _).alloc (Nat.le_refl _) _)) hgrowB (by rw [e1]; exact hggB), (BPA.alloc _).grown hgrowB (fun h => by have := (hownV.lt _ h.symm).2; omega),
    Below.grown (bel_trans hb6 bX) hgrowB (by rw [e1]; omega) (fun x hx => (hownV.lt x hx).1), (own_below hownR bX).kept hgrowB hneR, .inr fun h => ?_⟩
  have h1 : rg = gB := Option.some.inj h
  rcases hggB with h2 | h2
  · rcases hneR with h4 | h4
    · cases h4
    · exact h4 (by rw [h2, ← h1]; rfl)
  · have := (hownR.lt rg rfl).2
    omega

set_option maxRecDepth 100000 in
set_option maxHeartbeats 4000000 in
theorem keep_pairs (i n : Nat) (C D : Option Addr) (m L cc dc : Nat) (chunk path : List Int) (w : World) (hx : Ints .i64 w C m chunk) (hp : Ints .u64 w D L path) (hu : U64 path) (m1 : 1 ≤ m) (m4 : m ≤ 4) (h1 : 1 ≤ n) (hn : n ≤ 200) (hi : i < (n + 3) / 4) (hL : L = deepP i ((n + 3) / 4)) :
    Calls Try.prog 17 #[.int .i64 i, .int .i64 n, .slice C m cc, .slice D L dc] w (PairsR w (rowR (waysP i ((n + 3) / 4)) n chunk path) (L + 2)) := by
  obtain ⟨i0, hi0, hz0, hz1, hz2⟩ := info_parts u64_info
  obtain ⟨l0, hl0, lz0, lz1, lz2⟩ := info_parts u64s_info
  obtain ⟨b0, hb0, bz0, bz1, bz2⟩ := info_parts bool_info
  have U := u64_len (n := n) (by omega)
  obtain ⟨M, hM⟩ : ∃ M, M = (n + 3) / 4 := ⟨_, rfl⟩
  have hMi : ((n : Int) + 3) / 4 = (M : Int) := by omega
  have hMt : ((n : Int) + 3).tdiv 4 = (M : Int) := by rw [Int.tdiv_eq_ediv_of_nonneg (by omega)]; exact hMi
  have M1 : 1 ≤ M ∧ M ≤ 50 := by omega
  rw [← hM] at hi hL ⊢
  have bd := deepP_le M i (by omega)
  rw [← hL] at bd
  have HXL := Lib.hid hx.len
  have HNL := Lib.hid (show (numL chunk).length = m by rw [numL_length, HXL.out])
  have HNU := Lib.hid (fun W (q : Ints .i64 W C m chunk) => dig_Numbers_ok C m cc chunk W q (by omega))
  have hlu := numL_u64 chunk
  have HOF := Lib.hid (fun A c W (q : Ints .u64 W A m (numL chunk)) => show Calls Try.prog 69 #[.int .u64 4, .slice A m c] W fun e w' => e = .returned (.tuple #[.int .u64 (leafR chunk), .int .i64 0]) ∧ Below W.heap.size W w' from by
    have h := dig_Of 4 A m c (numL chunk) W (by omega) (by omega) q hlu
    have e1 : ofE (numL chunk) = 0 := if_neg (by rw [HNL.out]; omega)
    have e2 : ofO 4 (numL chunk) = leafR chunk := if_neg (by rw [HNL.out]; omega)
    rw [e1, e2] at h
    exact h)
  have HTL := Lib.hid (show (waysP i M).length = L from hL.symm)
  clear hL hM
  go_enter Try.func17, Try.ntmps17
  go_wp2_with fail
  refine (HNU.out _ hx).mono ?_
  rintro e w1 ⟨S, sc, rfl, ho1, hb1⟩
  rw [HNL.out] at ho1 ⊢
  obtain ⟨q, qc, hS, _, _⟩ := ho1.form (by omega)
  obtain ⟨rfl, rfl⟩ : S = some ⟨q, 0, none⟩ ∧ sc = qc := by injection hS with a _ c; exact ⟨a, c⟩
  clear hS
  have I1 := Ints.of_own ho1 HNL.out
  have hlen : ((numL chunk).map (Value.int .u64)).length = m * 1 := by rw [List.length_map, HNL.out, Nat.mul_one]
  have hown4 : (w1.alloc (.cells #[.int .u64 4] 22)).ownsRow w1.heap.size 22 1 (.slice (some ⟨w1.heap.size, 0, none⟩) 1 1) 1 [.int .u64 4] := World.ownsRow_lit w1 #[.int .u64 4] 1 (Nat.le_refl _) (by decide) rfl
  have hnw := (I1.alloc (.cells #[.int .u64 4] 22)).fresh
  go_wp2_with (at_builtin; (refine wpList_append_lies _ rfl _ _ 24 rfl w1.heap.size 22 i0 (.int .u64 0) 1 8 Try.underlying24 hi0 hz0 hz1 hz2 rfl (by decide) (.slice (some ⟨w1.heap.size, 0, none⟩) 1 1) 1 [.int .u64 4] rfl hown4 ⟨q, 0, none⟩ m sc ((numL chunk).map (.int .u64)) rfl hlen hnw (ints_oneCell _ _) (by omega) (by unfold maxLen; omega) (by omega) (by simp) (w1.heap.size + 1) (by simp) ?_; intro g cap w2 hown2 hgrow hgg hlt2))
  have hg0 : w1.heap.size ≤ g := by
    rcases hgg with h | h
    · exact Nat.le_of_eq (Option.some.inj h)
    · omega
  have hne0 : (some w2.heap.size : Option Nat) ≠ some g := fun h => by injection h with h; omega
  have hb2 : Below w1.heap.size w1 w2 := Below.grown ((Below.refl _ _).alloc (Nat.le_refl _) _) hgrow (by simp) (fun x hx => Nat.le_of_eq (Option.some.inj hx))
  have hnum : [Value.int .u64 4] ++ (numL chunk).map (.int .u64) = (4 :: numL chunk).map (.int .u64) := rfl
  rw [hnum] at hown2
  have hP0 : Part w2 (some w2.heap.size) (.slice (some ⟨g, 0, none⟩) (1 + m) cap) (rowR (waysP i M) n chunk path 0) := Part.own hown2 (by rw [rowR_zero, List.length_cons, HNL.out, Nat.add_comm]) (own_capT hown2) hne0
  have hQ0 := Heaps.one (B := w.heap.size) (row := rowR (waysP i M) n chunk path) (by have := hb1.size; have := hb2.size; omega) hP0 (.cells #[.slice (some ⟨g, 0, none⟩) (1 + m) cap] 24) rfl
  obtain ⟨g2, hg2⟩ : ∃ g2, g2 = w2.heap.size := ⟨_, rfl⟩
  rw [← hg2] at hQ0
  have J1 := I1.below (hb2.alloc hb2.size (.cells #[.slice (some ⟨g, 0, none⟩) (1 + m) cap] 24))
  have hB3 : Below w.heap.size w (w2.alloc (.cells #[.slice (some ⟨g, 0, none⟩) (1 + m) cap] 24)) := (bel_trans hb1 hb2).alloc (by have := hb1.size; have := hb2.size; omega) _
  obtain ⟨W3, hW3⟩ : ∃ W3, W3 = w2.alloc (.cells #[.slice (some ⟨g, 0, none⟩) (1 + m) cap] 24) := ⟨_, rfl⟩
  rw [← hW3] at hQ0 J1 hB3
  clear hP0 hown2 hgrow hgg hlt2 hown4 hnw hlen I1 ho1
  go_wp2_with fail
  rw [← hW3, ← hg2]
  refine (HOF.out _ _ _ J1).mono ?_
  rintro e w3 ⟨rfl, hb3⟩
  have hQ1 := hQ0.below hb3
  have hB4 := bel_trans hB3 hb3
  clear hQ0 hB3 hb3 J1 hW3 hg2 hb1 hb2 hg0 hne0 hnum
  go_wp2
  go_loopw [14, 15, 16, 17] (fun o a b _ wr => ∃ k, SideR i M a b k o w3 wr) (fun _ _ b _ _ => (intOf b).toNat)
  case atStart => exact ⟨0, [], i, M, rfl, rfl, M1.1, by omega, Nat.le_refl _, rfl, rfl, World.ownsRow_nil _ _ _ _, Below.refl _ _⟩
  case round =>
    obtain ⟨k, ts, i', n', hw, hk, hn1, hnk, hii, rfl, rfl, hown, hb⟩ := hrel
    have hbs := hb.size
    have HW := Lib.hid hw
    have HK := Lib.hid hk
    clear hw hk
    by_cases h2 : n' ≤ 1
    · have E := Lib.hid (show waysP i M = ts by rw [HW.out, waysP_one i' h2, List.append_nil])
      rw [E.out] at hQ1 HTL
      rw [← HK.out] at hown
      have hkL : ts.length = L := HTL.out
      rw [hkL] at hown
      have hQ2 := hQ1.below hb
      have hB5 := bel_trans hB4 hb
      clear HW hn1 hnk hii
      have HCU := Lib.hid (climbI_u64 ts path (leafR chunk) ⟨ofI_lo _ _, Int.lt_trans (ofI_hi _ _) (by decide)⟩)
      have hg3 : g2 < w3.heap.size := by
        obtain ⟨vs, ho, _⟩ := hQ1
        exact (ho.lt g2 rfl).2
      have hne1 : u14.ownBlock = none ∨ u14.ownBlock ≠ (Value.slice (some ⟨g2, 0, none⟩) 1 1).ownBlock := by
        right
        intro h
        have := (hown.lt g2 h).1
        omega
      have hown' : wr.ownsRow w.heap.size 4 1 u14 L (rightV ts) := own_base hown (by have := hB4.size; omega)
      clear hQ1 hB4 hown
      go_wp2
      go_loopw [11, 12, 18, 19, 20, 65] (fun h x _ _ _ j wr' => ∃ k : Nat, k ≤ L ∧ j = .int .i64 k ∧ x = .int .u64 (climbI ts path (leafR chunk) k) ∧ Heaps w.heap.size (rowR ts n chunk path) (k + 1) h wr' ∧ wr'.ownsRow w.heap.size 4 1 u14 L (rightV ts) ∧ (u14.ownBlock = none ∨ u14.ownBlock ≠ h.ownBlock) ∧ Below w.heap.size w wr') (fun _ _ _ _ _ j _ => L - (intOf j).toNat)
      case atStart => exact ⟨0, by omega, rfl, rfl, hQ2, hown', hne1, hB5⟩
      case round =>
        obtain ⟨k', hk', rfl, rfl, hQ3, hownR, hneR, hb6⟩ := hrel
        have hs6 := hb6.size
        obtain ⟨vs, hvl, hownV, hpV⟩ := hQ3.len
        have hOB : ∀ z, u11.ownBlock = some z → z < wr.heap.size := fun z hz => (hownV.lt z hz).2
        by_cases hlt : k' < L
        · obtain ⟨b, off, rfl, _, hcl⟩ := (hp.below hb6).cells (by omega)
          have g1 := hcl k' hlt
          obtain ⟨rg, rc, hS, _, _⟩ := hownR.form (by omega)
          subst hS
          have g2' := hownR.cellAt (L - 1 - k') (by omega)
          rw [← hkL, rightV_at ts (by omega), hkL] at g2'
          have gx := hu k'
          have gy := HCU.out k'
          obtain ⟨r, hr⟩ : ∃ r, r = rightB ts k' := ⟨_, rfl⟩
          obtain ⟨x, hxx⟩ : ∃ x, x = at0 path k' := ⟨_, rfl⟩
          obtain ⟨y, hyy⟩ : ∃ y, y = climbI ts path (leafR chunk) k' := ⟨_, rfl⟩
          obtain ⟨xm, hxm⟩ : ∃ xm, x % 2305843009213693951 = xm := ⟨_, rfl⟩
          have gm : 0 ≤ xm ∧ xm < 18446744073709551616 := by omega
          have RB := Lib.hid hr
          have YE := Lib.hid hyy
          have XE := Lib.hid (show at0 path k' % 2305843009213693951 = xm by rw [← hxx]; exact hxm)
          rw [← hr] at g2'
          rw [← hxx] at g1 gx
          rw [← hyy] at gy ⊢
          clear hr hxx hyy hcl
          have k0 : (0 : Int) ≤ (k' : Int) := by omega
          have k1 : (k' : Int) < (L : Int) := by omega
          have k2 : (0 : Int) ≤ (L : Int) - 1 - (k' : Int) := by omega
          have k3 : (L : Int) - 1 - (k' : Int) < (L : Int) := by omega
          have hxt : x.tmod 2305843009213693951 = xm := by rw [Int.tmod_eq_emod_of_nonneg gx.1]; exact hxm
          cases r
          · have BP : Blk (wr.alloc (.cells #[.int .u64 y, .int .u64 xm] 22)) (wr.heap.size) 22 #[.int .u64 y, .int .u64 xm] := Blk.made' _ _ _ (by simp)
            have BP2 := BP.alloc (.cells #[.int .u64 3] 22)
            have O3 : ((wr.alloc (.cells #[.int .u64 y, .int .u64 xm] 22)).alloc (.cells #[.int .u64 3] 22)).ownsRow wr.heap.size 22 1 (.slice (some ⟨wr.heap.size + 1, 0, none⟩) 1 1) 1 [.int .u64 3] := by
              have h := World.ownsRow_lit (base := wr.heap.size) (e := 22) (size := 1) (wr.alloc (.cells #[.int .u64 y, .int .u64 xm] 22)) #[.int .u64 3] 1 (by simp <;> omega) (by decide) rfl
              rw [show (wr.alloc (.cells #[.int .u64 y, .int .u64 xm] 22)).heap.size = wr.heap.size + 1 by simp] at h
              exact h
            have RE := Lib.hid (show rowR ts n chunk path (k' + 1) = [3, y, xm] by rw [rowR_turn n chunk path (by omega)]; unfold turnR; rw [← RB.out, ← YE.out, ← XE.out]; rfl)
            have CE := Lib.hid (show climbI ts path (leafR chunk) (k' + 1) = pairI y xm by rw [climbI_succ, ← RB.out, ← YE.out]; show pairI _ _ = _; rw [← XE.out, pairI_mod_r (hu k').1])
            go_wp2_with (first
              | (at_builtin; refine wpList_append_lies _ rfl _ _ 24 rfl wr.heap.size 22 i0 (.int .u64 0) 1 8 Try.underlying24 hi0 hz0 hz1 hz2 rfl (by decide) (.slice (some ⟨wr.heap.size + 1, 0, none⟩) 1 1) 1 [.int .u64 3] rfl O3 ⟨wr.heap.size, 0, none⟩ 2 2 [.int .u64 y, .int .u64 xm] rfl rfl (World.news_of_block (cs := #[.int .u64 y, .int .u64 xm]) BP2) (by simp [Value.oneCell']) (by omega) (by decide) (by omega) (by simp <;> omega) (wr.heap.size + 2) (by simp) ?_; intro gA capA wA hownA hgrowA hggA hltA; obtain ⟨GA, bA, sA, BPA, PA, OV⟩ := pairs_mid ((Below.refl _ _).alloc (Nat.le_refl _) _) (by simp) (by omega) (by omega) BP RE.out hownV hownA hgrowA hggA)
              | (at_builtin; refine wpList_append_lies _ rfl _ _ 29 rfl w.heap.size 24 l0 (.slice none 0 0) 1 24 Try.underlying29 hl0 lz0 lz1 lz2 rfl (by decide) u11 (k' + 1) vs rfl OV ⟨wA.heap.size, 0, none⟩ 1 1 [.slice (some ⟨gA, 0, none⟩) 3 capA] rfl rfl (World.news_of_block (cs := #[.slice (some ⟨gA, 0, none⟩) 3 capA]) (Blk.made _ _ _)) (by simp [Value.oneCell']) (by omega) (by unfold maxLen; omega) (by omega) (by simp <;> omega) (wA.heap.size + 1) (by simp) ?_; intro gB capB wB hownB hgrowB hggB hltB))
            obtain ⟨hQ4, BPB, bB, OR, NR⟩ := pairs_end hvl hownV hpV hb6 hownR hneR bA (by omega) BPA PA hownB hgrowB hggB
            have hltB2 := BPB.lt
            have p0 := BPB.cell 0
            have p1 := BPB.cell 1
            clear BP BP2 O3 GA bA BPA PA OV hownA hgrowA hggA hltA hownB hgrowB hggB BPB hownV hpV hOB
            go_region_held3 (fun W => W.cell? ⟨wr.heap.size, 0, none⟩ = some (.int .u64 y) ∧ W.cell? ⟨wr.heap.size, 1, none⟩ = some (.int .u64 xm))
              (first | (with_reducible exact ⟨p0, p1⟩) | (with_reducible exact ⟨y0, y1⟩) | go_keep) (first
              | (go_at_call 70; refine (dig_Pair y xm _ gy.1 gy.2 gm.1 gm.2).mono ?_; rintro e wC ⟨rfl, hbC⟩; have y0 := (hbC.cell (p := ⟨wr.heap.size, 0, none⟩) hltB2).trans p0; have y1 := (hbC.cell (p := ⟨wr.heap.size, 1, none⟩) hltB2).trans p1)
              | fail)
            have hbD := bel_trans ((Below.refl _ _).drew) hbC
            go_wp2
            go_roundw
            case rel => exact ⟨k' + 1, by omega, by go_num, by rw [CE.out], hQ4.below hbD, own_below OR hbD, NR, bel_trans bB hbD⟩
            case measure => simp [intOf]; omega
          · have BP : Blk ((wr.alloc (.cells #[.int .u64 y, .int .u64 xm] 22)).alloc (.cells #[.int .u64 xm, .int .u64 y] 22)) (wr.heap.size + 1) 22 #[.int .u64 xm, .int .u64 y] := Blk.made' _ _ _ (by simp)
            have BP2 := BP.alloc (.cells #[.int .u64 3] 22)
            have O3 : (((wr.alloc (.cells #[.int .u64 y, .int .u64 xm] 22)).alloc (.cells #[.int .u64 xm, .int .u64 y] 22)).alloc (.cells #[.int .u64 3] 22)).ownsRow wr.heap.size 22 1 (.slice (some ⟨wr.heap.size + 2, 0, none⟩) 1 1) 1 [.int .u64 3] := by
              have h := World.ownsRow_lit (base := wr.heap.size) (e := 22) (size := 1) ((wr.alloc (.cells #[.int .u64 y, .int .u64 xm] 22)).alloc (.cells #[.int .u64 xm, .int .u64 y] 22)) #[.int .u64 3] 1 (by simp <;> omega) (by decide) rfl
              rw [show ((wr.alloc (.cells #[.int .u64 y, .int .u64 xm] 22)).alloc (.cells #[.int .u64 xm, .int .u64 y] 22)).heap.size = wr.heap.size + 2 by simp] at h
              exact h
            have RE := Lib.hid (show rowR ts n chunk path (k' + 1) = [3, xm, y] by rw [rowR_turn n chunk path (by omega)]; unfold turnR; rw [← RB.out, ← YE.out, ← XE.out]; rfl)
            have CE := Lib.hid (show climbI ts path (leafR chunk) (k' + 1) = pairI xm y by rw [climbI_succ, ← RB.out, ← YE.out]; show pairI _ _ = _; rw [← XE.out, pairI_mod_l (hu k').1])
            go_wp2_with (first
              | (at_builtin; refine wpList_append_lies _ rfl _ _ 24 rfl wr.heap.size 22 i0 (.int .u64 0) 1 8 Try.underlying24 hi0 hz0 hz1 hz2 rfl (by decide) (.slice (some ⟨wr.heap.size + 2, 0, none⟩) 1 1) 1 [.int .u64 3] rfl O3 ⟨wr.heap.size + 1, 0, none⟩ 2 2 [.int .u64 xm, .int .u64 y] rfl rfl (World.news_of_block (cs := #[.int .u64 xm, .int .u64 y]) BP2) (by simp [Value.oneCell']) (by omega) (by decide) (by omega) (by simp <;> omega) (wr.heap.size + 3) (by simp) ?_; intro gA capA wA hownA hgrowA hggA hltA; obtain ⟨GA, bA, sA, BPA, PA, OV⟩ := pairs_mid (((Below.refl _ _).alloc (Nat.le_refl _) _).alloc (by simp) _) (by simp) (by omega) (by omega) BP RE.out hownV hownA hgrowA hggA)
              | (at_builtin; refine wpList_append_lies _ rfl _ _ 29 rfl w.heap.size 24 l0 (.slice none 0 0) 1 24 Try.underlying29 hl0 lz0 lz1 lz2 rfl (by decide) u11 (k' + 1) vs rfl OV ⟨wA.heap.size, 0, none⟩ 1 1 [.slice (some ⟨gA, 0, none⟩) 3 capA] rfl rfl (World.news_of_block (cs := #[.slice (some ⟨gA, 0, none⟩) 3 capA]) (Blk.made _ _ _)) (by simp [Value.oneCell']) (by omega) (by unfold maxLen; omega) (by omega) (by simp <;> omega) (wA.heap.size + 1) (by simp) ?_; intro gB capB wB hownB hgrowB hggB hltB))
            obtain ⟨hQ4, BPB, bB, OR, NR⟩ := pairs_end hvl hownV hpV hb6 hownR hneR bA (by omega) BPA PA hownB hgrowB hggB
            have hltB2 := BPB.lt
            have p0 := BPB.cell 0
            have p1 := BPB.cell 1
            clear BP BP2 O3 GA bA BPA PA OV hownA hgrowA hggA hltA hownB hgrowB hggB BPB hownV hpV hOB
            go_region_held3 (fun W => W.cell? ⟨wr.heap.size + 1, 0, none⟩ = some (.int .u64 xm) ∧ W.cell? ⟨wr.heap.size + 1, 1, none⟩ = some (.int .u64 y))
              (first | (with_reducible exact ⟨p0, p1⟩) | (with_reducible exact ⟨y0, y1⟩) | go_keep) (first
              | (go_at_call 70; refine (dig_Pair xm y _ gm.1 gm.2 gy.1 gy.2).mono ?_; rintro e wC ⟨rfl, hbC⟩; have y0 := (hbC.cell (p := ⟨wr.heap.size + 1, 0, none⟩) hltB2).trans p0; have y1 := (hbC.cell (p := ⟨wr.heap.size + 1, 1, none⟩) hltB2).trans p1)
              | fail)
            have hbD := bel_trans ((Below.refl _ _).drew) hbC
            go_wp2
            go_roundw
            case rel => exact ⟨k' + 1, by omega, by go_num, by rw [CE.out], hQ4.below hbD, own_below OR hbD, NR, bel_trans bB hbD⟩
            case measure => simp [intOf]; omega
        · obtain rfl : L = k' := by omega
          have RE := rowR_last ts n chunk path
          rw [hkL] at RE
          obtain ⟨y, hyy⟩ : ∃ y, y = climbI ts path (leafR chunk) L := ⟨_, rfl⟩
          rw [← hyy] at RE ⊢
          have PX : Part ((wr.alloc (.cells #[.int .u64 3, .int .u64 n, .int .u64 y] 22)).alloc (.cells #[.slice (some ⟨wr.heap.size, 0, none⟩) 3 3] 24)) u11.ownBlock (.slice (some ⟨wr.heap.size, 0, none⟩) 3 3) (rowR ts n chunk path (L + 1)) := by
            have h := World.ownsRow_lit (base := 0) (e := 22) (size := 1) wr #[.int .u64 3, .int .u64 n, .int .u64 y] 3 (Nat.zero_le _) (by decide) rfl
            refine Part.below (Part.own (xs := rowR ts n chunk path (L + 1)) (by rw [RE]; exact h) (congrArg List.length RE) (Nat.le_refl _) (fun h => by have := hOB _ h; omega)) ((Below.refl _ _).alloc (Nat.le_refl _) _)
          have bX : Below wr.heap.size wr ((wr.alloc (.cells #[.int .u64 3, .int .u64 n, .int .u64 y] 22)).alloc (.cells #[.slice (some ⟨wr.heap.size, 0, none⟩) 3 3] 24)) := ((Below.refl _ _).alloc (Nat.le_refl _) _).alloc (by simp) _
          have OV := own_below hownV bX
          clear RE hyy
          go_wp2_with (at_builtin; refine wpList_append_lies _ rfl _ _ 29 rfl w.heap.size 24 l0 (.slice none 0 0) 1 24 Try.underlying29 hl0 lz0 lz1 lz2 rfl (by decide) u11 (L + 1) vs rfl OV ⟨wr.heap.size + 1, 0, none⟩ 1 1 [.slice (some ⟨wr.heap.size, 0, none⟩) 3 3] rfl rfl (World.news_of_block (cs := #[.slice (some ⟨wr.heap.size, 0, none⟩) 3 3]) (t := 24) (fr := (0, 0)) (Blk.made' _ _ _ (by simp))) (by simp [Value.oneCell']) (by omega) (by unfold maxLen; omega) (by omega) (by simp <;> omega) (wr.heap.size + 1 + 1) (by simp) ?_; intro gB capB wB hownB hgrowB hggB hltB)
          have hQ4 := Heaps.push hownB hvl (fun j hj => (hpV j hj).below bX) PX hgrowB (by simpa using hggB)
          have bB : Below w.heap.size w wB := Below.grown (bel_trans hb6 bX) hgrowB (by simp <;> omega) (fun x hx => (hownV.lt x hx).1)
          go_ret
          exact ⟨gB, capB, rfl, by rw [E.out]; exact hQ4, bB⟩
    · have a1 := half_lt (n := n') (by omega)
      have a2 := half_pos n'
      have E := Lib.hid (waysP_more i' (n := n') (by omega))
      go_wp2
      rw [show decide ((n' : Int) > 1) = true from decide_eq_true (by omega)]
      go_loop [17] (fun h => ∃ p : Nat, 1 ≤ p ∧ p < n' ∧ IsP2 p ∧ h = .int .i64 p) (fun h => n' - (intOf h).toNat)
      case atStart => exact ⟨1, by omega, by omega, .one, rfl⟩
      case round =>
        obtain ⟨p, hp1, hp2, hp, rfl⟩ := hrel
        by_cases hlt : 2 * p < n'
        · go_wp2
          go_round
          case rel => exact ⟨p * 2, by omega, by omega, hp.dbl, by go_num⟩
          case measure => simp [intOf]; omega
        · have hpe := hp.half hp2 (by omega)
          rw [hpe] at E
          obtain ⟨v, hv⟩ : ∃ v : Nat, (n' : Int) - (p : Int) = (v : Int) := ⟨n' - p, by omega⟩
          have V := Lib.hid (show n' - p = v by omega)
          have v0 : 1 ≤ v := by omega
          have v2 : v < n' := by omega
          clear hp hpe a1 a2
          by_cases hc : p ≤ i'
          · obtain ⟨u, huu⟩ : ∃ u : Nat, (i' : Int) - (p : Int) = (u : Int) := ⟨i' - p, by omega⟩
            have Q := Lib.hid (show i' - p = u by omega)
            have q1 : u ≤ i' := by omega
            have E2 := Lib.hid (show waysP i' n' = (true, p, v) :: waysP u v by rw [E.out, if_pos hc, V.out, Q.out])
            have n3 : v + (k + 1) ≤ M := by omega
            go_wp2_with (at_builtin; refine wpList_append_own _ rfl _ _ 117 rfl w3.heap.size 4 b0 (.bool false) 1 1 Try.underlying117 hb0 bz0 bz1 bz2 rfl (by decide) u14 k _ rfl (hown.alloc _) ⟨wr.heap.size, 0, none⟩ 1 1 [.bool true] rfl rfl (World.news_of_block (cs := #[.bool true]) (t := 4) (fr := (0, 0)) (Blk.made _ _ _)) (by simp [Value.oneCell']) (by unfold maxLen; omega) (by omega) (by simp <;> omega) ?_; intro v1 w1 hown1 hgrow _)
            have hb1 : Below w3.heap.size w3 w1 := Below.grown (hb.alloc hbs _) hgrow (by simp <;> omega) (fun x hx => (hown.lt x hx).1)
            clear hgrow hv huu
            go_roundw
            case rel => exact ⟨k + 1, ts ++ [(true, p, v)], u, v, by rw [HW.out, E2.out, List.append_assoc]; rfl, by rw [List.length_append, HK.out]; rfl, v0, n3, by omega, rfl, rfl, by rw [rightV_snoc]; exact hown1, hb1⟩
            case measure => simp [intOf]; omega
          · have E2 := Lib.hid (show waysP i' n' = (false, p, v) :: waysP i' p by rw [E.out, if_neg hc, V.out])
            have n3 : p + (k + 1) ≤ M := by omega
            go_wp2_with (at_builtin; refine wpList_append_own _ rfl _ _ 117 rfl w3.heap.size 4 b0 (.bool false) 1 1 Try.underlying117 hb0 bz0 bz1 bz2 rfl (by decide) u14 k _ rfl (hown.alloc _) ⟨wr.heap.size, 0, none⟩ 1 1 [.bool false] rfl rfl (World.news_of_block (cs := #[.bool false]) (t := 4) (fr := (0, 0)) (Blk.made _ _ _)) (by simp [Value.oneCell']) (by unfold maxLen; omega) (by omega) (by simp <;> omega) ?_; intro v1 w1 hown1 hgrow _)
            have hb1 : Below w3.heap.size w3 w1 := Below.grown (hb.alloc hbs _) hgrow (by simp <;> omega) (fun x hx => (hown.lt x hx).1)
            clear hgrow hv
            go_roundw
            case rel => exact ⟨k + 1, ts ++ [(false, p, v)], i', p, by rw [HW.out, E2.out, List.append_assoc]; rfl, by rw [List.length_append, HK.out]; rfl, by omega, n3, hii, rfl, rfl, by rw [rightV_snoc]; exact hown1, hb1⟩
            case measure => simp [intOf]; omega
end Go.Proofs.Ythckpmgehhkacaa
