/- All that is digested for a list's root, plainly: two unlike lists as long, of one root, tell two unlike lists of which the same is made. -/
import Derived.Test.YtblkpibbcapdeaaBindP
import Derived.Test.YtblkpibbcapdeaaTrs
import Derived.Test.YtblkpibbcapdeaaBindL
import Derived.Test.YtblkpibbcapdeaaTreeL
import Derived.Deep.RegionHeld3
import Derived.Test.YtblkpibbcapdeaaJrnA
import Derived.Test.YtblkpibbcapdeaaSameS
import Derived.Test.YtblkpibbcapdeaaAudF
import Derived.Test.YtblkpibbcapdeaaSpotJ
namespace Go.Proofs.Ytblkpibbcapdeaa
open Go.RowKit Pl

/-- Somewhere unlike lists make the same. -/
def collZ (u v : List (List Int)) : Bool := (u.zip v).any fun p => !decide (p.1 = p.2) && (madeI p.1 == madeI p.2)
theorem collZ_append {u1 v1 u2 v2 : List (List Int)} (h : u1.length = v1.length) : collZ (u1 ++ u2) (v1 ++ v2) = (collZ u1 v1 || collZ u2 v2) := by
  unfold collZ
  rw [List.zip_append h, List.any_append]
theorem collZ_one {a b : List Int} (h : a ≠ b) (hm : madeI a = madeI b) : collZ [a] [b] = true := by
  unfold collZ
  simp [h, hm]
theorem collZ_at {u v : List (List Int)} {i : Nat} {a b : List Int} (hu : u[i]? = some a) (hv : v[i]? = some b) (h : a ≠ b) (hm : madeI a = madeI b) : collZ u v = true := by
  unfold collZ
  rw [List.any_eq_true]
  refine ⟨(a, b), List.mem_of_getElem? (i := i) ?_, ?_⟩
  · rw [List.getElem?_zip_eq_some]
    exact ⟨hu, hv⟩
  · simp [h, hm]
theorem collZ_false {u v : List (List Int)} (h : ∀ (i : Nat) a b, u[i]? = some a → v[i]? = some b → a ≠ b → madeI a ≠ madeI b) : collZ u v = false := by
  unfold collZ
  rw [List.any_eq_false]
  rintro ⟨a, b⟩ hm
  obtain ⟨i, hi⟩ := List.mem_iff_getElem?.1 hm
  rw [List.getElem?_zip_eq_some] at hi
  obtain ⟨h1, h2⟩ := hi
  by_cases e : a = b
  · simp [e]
  · simp [e, h i a b h1 h2 e]

/-- What is digested for a tree, in order. -/
def grownR : Nat → List Int → List (List Int)
  | 0, _ => []
  | f + 1, l => if l.length ≤ 1 then [] else grownR f (l.take (half l.length)) ++ grownR f (l.drop (half l.length)) ++ [[3, treeI (l.take (half l.length)), treeI (l.drop (half l.length))]]
theorem grownR_one {f : Nat} {l : List Int} (h : l.length ≤ 1) : grownR f l = [] := by
  cases f with
  | zero => rfl
  | succ f => rw [grownR, if_pos h]
theorem grownR_more {f : Nat} {l : List Int} (h : 2 ≤ l.length) : grownR (f + 1) l = grownR f (l.take (half l.length)) ++ grownR f (l.drop (half l.length)) ++ [[3, treeI (l.take (half l.length)), treeI (l.drop (half l.length))]] := by rw [grownR, if_neg (by omega)]
theorem grownR_length : ∀ (f : Nat) (l : List Int), l.length ≤ f → 1 ≤ l.length → (grownR f l).length + 1 = l.length
  | 0, l, h, h1 => by omega
  | f + 1, l, h, h1 => by
    by_cases h2 : l.length ≤ 1
    · rw [grownR_one h2]; simp; omega
    · have a := half_pos l.length
      have b := half_lt (n := l.length) (by omega)
      have e1 := grownR_length f (l.take (half l.length)) (by rw [List.length_take]; omega) (by rw [List.length_take]; omega)
      have e2 := grownR_length f (l.drop (half l.length)) (by rw [List.length_drop]; omega) (by rw [List.length_drop]; omega)
      rw [grownR_more (by omega), List.length_append, List.length_append, List.length_singleton]
      rw [List.length_take] at e1
      rw [List.length_drop] at e2
      omega
theorem grown_binds : ∀ (f : Nat) (l m : List Int), l.length ≤ f → 1 ≤ l.length → l.length = m.length → treeI l = treeI m → l = m ∨ collZ (grownR f l) (grownR f m) = true
  | 0, l, m, h, h1, _, _ => by omega
  | f + 1, l, m, h, h1, hl, ht => by
    by_cases h2 : l.length ≤ 1
    · left
      have e1 : l.length = 1 := by omega
      rw [treeI_one e1, treeI_one (by omega)] at ht
      refine list_ext_at0 hl fun j hj => ?_
      obtain rfl : j = 0 := by omega
      exact ht
    · have a := half_pos l.length
      have b := half_lt (n := l.length) (by omega)
      rw [treeI_more (by omega), treeI_more (l := m) (by omega), ← hl] at ht
      rw [grownR_more (by omega), grownR_more (l := m) (by omega), ← hl]
      have t1 : (l.take (half l.length)).length = (m.take (half l.length)).length := by rw [List.length_take, List.length_take, hl]
      have t2 : (l.drop (half l.length)).length = (m.drop (half l.length)).length := by rw [List.length_drop, List.length_drop, hl]
      have g1 : (grownR f (l.take (half l.length))).length = (grownR f (m.take (half l.length))).length := by
        have x1 := grownR_length f (l.take (half l.length)) (by rw [List.length_take]; omega) (by rw [List.length_take]; omega)
        have x2 := grownR_length f (m.take (half l.length)) (by rw [← t1, List.length_take]; omega) (by rw [← t1, List.length_take]; omega)
        omega
      have g2 : (grownR f (l.drop (half l.length))).length = (grownR f (m.drop (half l.length))).length := by
        have x1 := grownR_length f (l.drop (half l.length)) (by rw [List.length_drop]; omega) (by rw [List.length_drop]; omega)
        have x2 := grownR_length f (m.drop (half l.length)) (by rw [← t2, List.length_drop]; omega) (by rw [← t2, List.length_drop]; omega)
        omega
      rw [collZ_append (by rw [List.length_append, List.length_append, g1, g2]), collZ_append g1]
      by_cases hd : treeI (l.take (half l.length)) = treeI (m.take (half l.length)) ∧ treeI (l.drop (half l.length)) = treeI (m.drop (half l.length))
      · rcases grown_binds f _ _ (by rw [List.length_take]; omega) (by rw [List.length_take]; omega) t1 hd.1 with i1 | i1
        · rcases grown_binds f _ _ (by rw [List.length_drop]; omega) (by rw [List.length_drop]; omega) t2 hd.2 with i2 | i2
          · left
            rw [← List.take_append_drop (half l.length) l, i1, i2, List.take_append_drop]
          · right; rw [i2]; simp
        · right; rw [i1]; simp
      · right
        rw [collZ_one (a := [3, treeI (l.take (half l.length)), treeI (l.drop (half l.length))]) (b := [3, treeI (m.take (half l.length)), treeI (m.drop (half l.length))]) (fun e => hd (by simpa using e)) ht]
        simp
/-- What is digested for the leaves. -/
def chunksR (xs : List Int) : List (List Int) := upto (fun j => 4 :: numL ((xs.drop (4 * j)).take 4)) ((xs.length + 3) / 4)
/-- All that is digested for a list's root, in order. -/
def toldR (xs : List Int) : List (List Int) := chunksR xs ++ grownR ((xs.length + 3) / 4) (leavesI xs) ++ [[3, (xs.length : Int), treeI (leavesI xs)]]
theorem chunksR_length (xs : List Int) : (chunksR xs).length = (xs.length + 3) / 4 := upto_length _ _
theorem toldR_length {xs : List Int} (h : 1 ≤ xs.length) : (toldR xs).length = 2 * ((xs.length + 3) / 4) := by
  have := grownR_length ((xs.length + 3) / 4) (leavesI xs) (by rw [leavesI_length]; omega) (by rw [leavesI_length]; omega)
  rw [leavesI_length] at this
  unfold toldR
  rw [List.length_append, List.length_append, chunksR_length, List.length_singleton]
  omega
theorem numI_inj {x y : Int} (hx : clamp x = x) (hy : clamp y = y) (h : numI x = numI y) : x = y := by
  have a := (clamp_iff x).1 hx
  have b := (clamp_iff y).1 hy
  unfold numI at h
  rw [if_neg (by omega), if_neg (by omega), if_neg (by omega), if_neg (by omega)] at h
  omega
theorem numL_at0 {xs : List Int} {k : Nat} (h : k < xs.length) : at0 (numL xs) k = numI (at0 xs k) := by
  unfold numL at0 upto
  rw [List.getElem?_map, List.getElem?_range h]
  rfl
theorem numL_inj {a b : List Int} (ha : okL a = true) (hb : okL b = true) (hl : a.length = b.length) (h : numL a = numL b) : a = b := by
  refine list_ext_at0 hl fun j hj => numI_inj (okL_at0 ha j) (okL_at0 hb j) ?_
  rw [← numL_at0 hj, ← numL_at0 (by omega), h]
theorem upto_at {α : Type} {f : Nat → α} {n k : Nat} (h : k < n) : (upto f n)[k]? = some (f k) := by
  unfold upto
  rw [List.getElem?_map, List.getElem?_range h]
  rfl
theorem told_binds {xs ys : List Int} (hl : xs.length = ys.length) (h1 : 1 ≤ xs.length) (ox : okL xs = true) (oy : okL ys = true) (hne : xs ≠ ys) (hr : rootI xs = rootI ys) : collZ (toldR xs) (toldR ys) = true := by
  unfold toldR
  have c1 : (chunksR xs).length = (chunksR ys).length := by rw [chunksR_length, chunksR_length, hl]
  have n1 : (leavesI xs).length = (leavesI ys).length := by rw [leavesI_length, leavesI_length, hl]
  have g1 : (grownR ((xs.length + 3) / 4) (leavesI xs)).length = (grownR ((ys.length + 3) / 4) (leavesI ys)).length := by
    have x1 := grownR_length ((xs.length + 3) / 4) (leavesI xs) (by rw [leavesI_length]; omega) (by rw [leavesI_length]; omega)
    have x2 := grownR_length ((ys.length + 3) / 4) (leavesI ys) (by rw [leavesI_length]; omega) (by rw [leavesI_length]; omega)
    omega
  rw [collZ_append (by rw [List.length_append, List.length_append, c1, g1]), collZ_append c1]
  unfold rootI at hr
  by_cases ht : treeI (leavesI xs) = treeI (leavesI ys)
  · rcases grown_binds ((xs.length + 3) / 4) (leavesI xs) (leavesI ys) (by rw [leavesI_length]; omega) (by rw [leavesI_length]; omega) n1 ht with h2 | h2
    · have hj : ∃ j, j < (xs.length + 3) / 4 ∧ (xs.drop (4 * j)).take 4 ≠ (ys.drop (4 * j)).take 4 := by
        apply Classical.byContradiction
        intro hno
        refine hne (list_ext_at0 hl fun j hj => ?_)
        have h3 : (xs.drop (4 * (j / 4))).take 4 = (ys.drop (4 * (j / 4))).take 4 := Classical.byContradiction fun hc => hno ⟨j / 4, by omega, hc⟩
        have h4 : at0 ((xs.drop (4 * (j / 4))).take 4) (j % 4) = at0 ((ys.drop (4 * (j / 4))).take 4) (j % 4) := by rw [h3]
        rw [at0_take (by omega), at0_take (by omega), at0_drop, at0_drop, show 4 * (j / 4) + j % 4 = j by omega] at h4
        exact h4
      obtain ⟨j, hj, hd⟩ := hj
      have hm : leafI xs j = leafI ys j := by
        have h5 : at0 (leavesI xs) j = at0 (leavesI ys) j := by rw [h2]
        unfold leavesI at h5
        unfold at0 at h5
        rw [upto_at hj, upto_at (by omega)] at h5
        exact h5
      have : collZ (chunksR xs) (chunksR ys) = true := by
        refine collZ_at (i := j) (upto_at hj) (upto_at (by omega)) (fun e => hd ?_) hm
        have e2 : numL ((xs.drop (4 * j)).take 4) = numL ((ys.drop (4 * j)).take 4) := by simpa using e
        exact numL_inj (okL_take (okL_drop ox _) _) (okL_take (okL_drop oy _) _) (by rw [List.length_take, List.length_take, List.length_drop, List.length_drop, hl]) e2
      rw [this]
      rfl
    · rw [← hl, h2]
      simp
  · rw [collZ_one (a := [3, (xs.length : Int), treeI (leavesI xs)]) (b := [3, (ys.length : Int), treeI (leavesI ys)]) (fun e => ht (by simpa using (by simpa using e : _ ∧ _).2)) hr]
    simp
end Go.Proofs.Ytblkpibbcapdeaa

/- coachtop.made, grown: walks. -/
namespace Go.Proofs.Ytblkpibbcapdeaa
open Go.RowKit Pl

set_option maxRecDepth 100000 in
set_option maxHeartbeats 2000000 in
theorem top_made (A : Option Addr) (n c : Nat) (xs : List Int) (w : World) (hx : Ints .u64 w A n xs) (hu : U64 xs) (h2 : 2 ≤ n) (hn : n ≤ 200) (hc : n ≤ c) :
    Calls Try.prog 29 #[.slice A n c] w fun e w' => e = .returned (.int .u64 (madeI xs)) ∧ Below w.heap.size w w' := by
  have hl := hx.len
  obtain ⟨b, off, rfl, hbl, hcl⟩ := hx.cells (by omega)
  have g0 := hcl 0 (by omega)
  rw [Nat.add_zero] at g0
  have hx1 : Ints .u64 w (some ⟨b, off + 1, none⟩) (n - 1) (xs.drop 1) := by
    have h := hx.cut (i := 1) (m := n - 1) (by omega) (A' := some ⟨b, off + 1, none⟩) (fun _ b' off' e => by cases e; rfl)
    rwa [List.take_of_length_le (by rw [List.length_drop]; omega)] at h
  have HOF := Lib.hid (fun W (q : Ints .u64 W (some ⟨b, off + 1, none⟩) (n - 1) (xs.drop 1)) => show Calls Try.prog 32 #[.int .u64 (at0 xs 0), .slice (some ⟨b, off + 1, none⟩) (n - 1) (c - 1)] W fun e w' => e = .returned (.tuple #[.int .u64 (madeI xs), .int .i64 0]) ∧ Below W.heap.size W w' from by
    have h := dig_Of (at0 xs 0) (some ⟨b, off + 1, none⟩) (n - 1) (c - 1) (xs.drop 1) W (hu 0).1 (hu 0).2 q (hu.drop 1)
    have e1 : ofE (xs.drop 1) = 0 := if_neg (by rw [List.length_drop]; omega)
    have e2 : ofO (at0 xs 0) (xs.drop 1) = madeI xs := if_neg (by rw [List.length_drop]; omega)
    rw [e1, e2] at h
    exact h)
  obtain ⟨h0, hh0⟩ : ∃ h0, h0 = at0 xs 0 := ⟨_, rfl⟩
  rw [← hh0] at g0 HOF
  clear hh0 hcl hx hl
  have hc1 : ¬ c = 1 := by omega
  have hk1 : (1 : Int) ≤ (n : Int) := by omega
  have hk2 : (n : Int) ≤ (c : Int) := by omega
  have hk3 : (0 : Int) < (n : Int) := by omega
  have hk4 : 0 < n := by omega
  have hk5 : ¬ n = 0 := by omega
  have hk6 : 1 ≤ n := by omega
  go_enter Try.func29, Try.ntmps29
  go_wp2_with fail
  go_region_held3 (fun W => W.cell? ⟨b, off, none⟩ = some (.int .u64 h0)) (first | exact g0 | exact y0 | go_keep) (first
    | (go_at_call 32; (with_reducible refine (HOF.out _ (hx1.drew)).mono ?_); rintro e u1 ⟨rfl, hb1⟩; have y0 := (hb1.cell (p := ⟨b, off, none⟩) hbl).trans g0)
    | fail)
  all_goals
    go_wp2
    go_ret
    exact ⟨rfl, bel_trans ((Below.refl _ _).drew) hb1⟩

/-- All blocks but one, and but a slice's own row, are as they were. -/
structure Shy (p : Nat) (o : Option Nat) (w w' : World) : Prop where
  os : w'.os = w.os
  tape : w'.tape = w.tape
  output : w'.output = w.output
  size : w.heap.size ≤ w'.heap.size
  block : ∀ k, k < w.heap.size → k ≠ p → o ≠ some k → w'.heap[k]? = w.heap[k]?
/-- A row is the one that was, or a new one. -/
def RowOn (o o' : Option Nat) (H : Nat) : Prop := o' = o ∨ ∃ g, o' = some g ∧ H ≤ g
section
variable {p : Nat} {o o' o'' : Option Nat} {w w' w'' : World}
theorem Shy.refl (p : Nat) (o : Option Nat) (w : World) : Shy p o w w := ⟨rfl, rfl, rfl, Nat.le_refl _, fun _ _ _ _ => rfl⟩
theorem Shy.below (h : Shy p o w w') (hb : Below w'.heap.size w' w'') : Shy p o w w'' :=
  ⟨hb.os.trans h.os, hb.tape.trans h.tape, hb.output.trans h.output, Nat.le_trans h.size hb.size, fun k hk h1 h2 => (hb.block k (Nat.lt_of_lt_of_le hk h.size)).trans (h.block k hk h1 h2)⟩
theorem Shy.trans (h : Shy p o w w') (h' : Shy p o' w' w'') (hr : RowOn o o' w.heap.size) : Shy p o w w'' :=
  ⟨h'.os.trans h.os, h'.tape.trans h.tape, h'.output.trans h.output, Nat.le_trans h.size h'.size, fun k hk h1 h2 => (h'.block k (Nat.lt_of_lt_of_le hk h.size) h1 (fun e => by
    rcases hr with rfl | ⟨g, rfl, hg⟩
    · exact h2 e
    · cases e; omega)).trans (h.block k hk h1 h2)⟩
theorem RowOn.trans {H H' : Nat} (h : RowOn o o' H) (h' : RowOn o' o'' H') (hH : H ≤ H') : RowOn o o'' H := by
  rcases h' with rfl | ⟨g, rfl, hg⟩
  · exact h
  · exact .inr ⟨g, rfl, by omega⟩
theorem RowOn.ne {H b : Nat} (h : RowOn o o' H) (h1 : o ≠ some b) (h2 : b < H) : o' ≠ some b := by
  rcases h with rfl | ⟨g, rfl, hg⟩
  · exact h1
  · intro e
    cases e
    omega
theorem RowOn.refl (o : Option Nat) (H : Nat) : RowOn o o H := .inl rfl
theorem Shy.cell (h : Shy p o w w') {a : Addr} (ha : a.block < w.heap.size) (h1 : a.block ≠ p) (h2 : o ≠ some a.block) : w'.cell? a = w.cell? a := World.cell?_of_block (h.block _ ha h1 h2)
theorem Ints.shy {k : IntKind} {A : Option Addr} {n : Nat} {xs : List Int} (hi : Ints k w A n xs) (h : Shy p o w w') (hA : ∀ b off, A = some ⟨b, off, none⟩ → b ≠ p ∧ o ≠ some b) : Ints k w' A n xs :=
  ⟨hi.len, fun h0 => by
    obtain ⟨b, off, e, hb, hc⟩ := hi.cells h0
    exact ⟨b, off, e, Nat.lt_of_lt_of_le hb h.size, fun j hj => (h.cell (a := ⟨b, off + j, none⟩) hb (hA b off e).1 (hA b off e).2).trans (hc j hj)⟩⟩
end
/-- A list in a block of its own, neither p nor that of o. -/
def PartQ (w : World) (p : Nat) (o : Option Nat) (v : Value) (xs : List Int) : Prop :=
  ∃ b s, v = .slice (some ⟨b, 0, none⟩) xs.length s ∧ Ints .u64 w (some ⟨b, 0, none⟩) xs.length xs ∧ xs.length ≤ s ∧ o ≠ some b ∧ b ≠ p ∧ b < w.heap.size
theorem PartQ.below {w w' : World} {p : Nat} {o : Option Nat} {v : Value} {xs : List Int} (h : PartQ w p o v xs) (hb : Below w.heap.size w w') : PartQ w' p o v xs := by
  obtain ⟨b, s, rfl, hi, hs, n1, n2, hlt⟩ := h
  exact ⟨b, s, rfl, hi.below hb, hs, n1, n2, Nat.lt_of_lt_of_le hlt hb.size⟩
/-- A box that holds a slice of lists, all the call's own. -/
def OutQ (w : World) (p : Nat) (rows : List (List Int)) (v : Value) : Prop :=
  ∃ vs, Blk w p 65 #[v] ∧ w.ownsRow (p + 1) 69 1 v rows.length vs ∧ ∀ j, j < rows.length → PartQ w p v.ownBlock (vs[j]?.getD undef) (rows[j]?.getD [])
theorem OutQ.below {w w' : World} {p : Nat} {rows : List (List Int)} {v : Value} (h : OutQ w p rows v) (hb : Below w.heap.size w w') : OutQ w' p rows v := by
  obtain ⟨vs, hB, ho, hp⟩ := h
  exact ⟨vs, hB.below hb hB.lt, own_below ho hb, fun j hj => (hp j hj).below hb⟩
/-- One list more: append, and the store into the box. -/
theorem OutQ.push {w w1 : World} {p g cap : Nat} {rows : List (List Int)} {v x : Value} {vs : List Value} {xs : List Int} {o : Obj} (hB : Blk w p 65 #[v]) (ho : w.ownsRow (p + 1) 69 1 v rows.length vs) (hp : ∀ j, j < rows.length → PartQ w p v.ownBlock (vs[j]?.getD undef) (rows[j]?.getD []))
    (hx : PartQ w p v.ownBlock x xs) (hown : w1.ownsRow (p + 1) 69 1 (.slice (some ⟨g, 0, none⟩) (rows.length + 1) cap) (rows.length + 1) (vs ++ [x])) (hg : (w.alloc o).grownBy w1 v.ownBlock) (hgg : v.ownBlock = some g ∨ w.heap.size < g) :
    OutQ (w1.setCell ⟨p, 0, none⟩ (.slice (some ⟨g, 0, none⟩) (rows.length + 1) cap)) p (rows ++ [xs]) (.slice (some ⟨g, 0, none⟩) (rows.length + 1) cap) ∧
      Shy p v.ownBlock w (w1.setCell ⟨p, 0, none⟩ (.slice (some ⟨g, 0, none⟩) (rows.length + 1) cap)) ∧ RowOn v.ownBlock (some g) w.heap.size ∧ Blk w1 p 65 #[v] := by
  have hvl := ho.1
  rw [Nat.mul_one] at hvl
  have hgs := hg.size
  have e1 : (w.alloc o).heap.size = w.heap.size + 1 := by simp
  rw [e1] at hgs
  have hop : v.ownBlock ≠ some p := fun e => by have := (ho.lt p e).1; omega
  have blk : ∀ k, k < w.heap.size → v.ownBlock ≠ some k → w1.heap[k]? = w.heap[k]? := fun k hk hne => (hg.block k (by rw [e1]; omega) (fun e => hne e.symm)).trans (((Below.refl w.heap.size w).alloc (Nat.le_refl _) o).block k hk)
  have hBt := (But.refl p w1).put 0 (.slice (some ⟨g, 0, none⟩) (rows.length + 1) cap)
  have hB1 : Blk w1 p 65 #[v] := (blk p hB.lt hop).trans hB
  have hgp : g ≠ p := by
    have := (hown.lt g rfl).1
    omega
  have keep : ∀ {u : Value} {ys : List Int}, PartQ w p v.ownBlock u ys → PartQ (w1.setCell ⟨p, 0, none⟩ (.slice (some ⟨g, 0, none⟩) (rows.length + 1) cap)) p (some g) u ys := fun h => by
    obtain ⟨b, s, rfl, hi, hs, n1, n2, hlt⟩ := h
    refine ⟨b, s, rfl, ⟨hi.len, fun h0 => ?_⟩, hs, fun e => ?_, n2, by simp; omega⟩
    · obtain ⟨b', off, e, hb', hc⟩ := hi.cells h0
      cases e
      exact ⟨b, 0, rfl, by simp; omega, fun j hj => (World.cell?_of_block (a := ⟨b, 0 + j, none⟩) ((hBt.block b (by omega) n2).trans (blk b hlt n1))).trans (hc j hj)⟩
    · injection e with e
      subst e
      rcases hgg with h | h
      · exact n1 h
      · omega
  refine ⟨⟨vs ++ [x], ?_, ?_, fun j hj => ?_⟩, ⟨?_, ?_, ?_, ?_, fun k hk h1 h2 => ?_⟩, ?_, hB1⟩
  · exact hB1.put 0 _
  · rw [List.length_append]
    exact own_far hown (p := ⟨p, 0, none⟩) (by simp) _
  · rw [List.length_append, List.length_singleton] at hj
    by_cases h : j < rows.length
    · rw [List.getElem?_append_left (by omega), List.getElem?_append_left h]
      exact keep (hp j h)
    · obtain rfl : j = rows.length := by omega
      rw [List.getElem?_append_right (by omega), List.getElem?_append_right (by omega), hvl, Nat.sub_self]
      exact keep hx
  · exact hBt.os.trans (hg.os.trans rfl)
  · exact hBt.tape.trans (hg.tape.trans rfl)
  · exact hBt.output.trans (hg.output.trans rfl)
  · have := hBt.size
    omega
  · exact (hBt.block k (by omega) h1).trans (blk k hk h2)
  · rcases hgg with h | h
    · exact .inl h.symm
    · exact .inr ⟨g, rfl, by omega⟩

theorem Shy.blk {p : Nat} {o : Option Nat} {w w' : World} {g : Nat} {t : TypeId} {cs : Array Value} (hb : Blk w g t cs) (h : Shy p o w w') (h1 : g ≠ p) (h2 : o ≠ some g) : Blk w' g t cs := (h.block g hb.lt h1 h2).trans hb
theorem OutQ.box {w : World} {p : Nat} {rows : List (List Int)} {v : Value} (h : OutQ w p rows v) : Blk w p 65 #[v] := by
  obtain ⟨_, hB, _⟩ := h
  exact hB
theorem OutQ.row {w : World} {p : Nat} {rows : List (List Int)} {v : Value} (h : OutQ w p rows v) : ∀ b, v.ownBlock = some b → p + 1 ≤ b ∧ b < w.heap.size := by
  obtain ⟨_, _, ho, _⟩ := h
  exact ho.lt
theorem u64_three {a b c : Int} (w : World) : Ints .u64 (w.alloc (.cells #[.int .u64 a, .int .u64 b, .int .u64 c] 22)) (some ⟨w.heap.size, 0, none⟩) 3 [a, b, c] :=
  ⟨rfl, fun _ => ⟨w.heap.size, 0, rfl, by simp, fun j hj => by
    rw [(Blk.made w 22 _).cell (0 + j)]
    match j, hj with
    | 0, _ => rfl
    | 1, _ => rfl
    | 2, _ => rfl⟩⟩

set_option maxRecDepth 100000 in
set_option maxHeartbeats 8000000 in
theorem top_grown (f : Nat) : ∀ (A : Option Addr) (n c : Nat) (xs : List Int) (p : Nat) (rows : List (List Int)) (v : Value) (w : World), n ≤ f → 1 ≤ n → n ≤ c → rows.length + n ≤ 200 → Ints .u64 w A n xs → (∀ b off, A = some ⟨b, off, none⟩ → b ≠ p ∧ v.ownBlock ≠ some b) → U64 xs → OutQ w p rows v →
    Calls Try.prog 50 #[.slice A n c, .pointer (some ⟨p, 0, none⟩)] w fun e w' => ∃ v', e = .returned (.int .u64 (treeI xs)) ∧ OutQ w' p (rows ++ grownR f xs) v' ∧ Shy p v.ownBlock w w' ∧ RowOn v.ownBlock v'.ownBlock w.heap.size := by
  induction f with
  | zero => intro A n c xs p rows v w h1 h2; omega
  | succ f ih =>
    intro A n c xs p rows v w hf h1 hc hn hx hA hu hQ
    obtain ⟨i0, hi0, hz0, hz1, hz2⟩ := info_parts u64_info
    obtain ⟨l0, hl0, lz0, lz1, lz2⟩ := info_parts u64s_info
    obtain ⟨b, off, rfl, hb, hcl⟩ := hx.cells (by omega)
    have hl := hx.len
    by_cases h2 : n = 1
    · subst h2
      have g := hcl 0 (by omega)
      have E := Lib.hid (treeI_one hl)
      have G := Lib.hid (grownR_one (f := f + 1) (l := xs) (by omega))
      rw [Nat.add_zero] at g
      clear hcl hl ih
      go_enter Try.func50, Try.ntmps50
      go_wp2_with fail
      go_ret
      exact ⟨v, ret_int E.out.symm, by rw [G.out, List.append_nil]; exact hQ, Shy.refl _ _ _, RowOn.refl _ _⟩
    · have a1 := half_lt (n := n) (by omega)
      have a2 := half_pos n
      have E := Lib.hid (treeI_more (l := xs) (by omega))
      have G := Lib.hid (grownR_more (f := f) (l := xs) (by omega))
      have HP2 := Lib.hid (fun (q : Nat) (h : IsP2 q) h1 h2 => IsP2.half (n := n) h h1 h2)
      rw [hl] at E G
      obtain ⟨k, hk⟩ : ∃ k, k = half n := ⟨_, rfl⟩
      rw [← hk] at E G a1 a2 HP2
      have k0 : (0 : Int) ≤ (k : Int) := by omega
      have k1 : (k : Int) ≤ (n : Int) := by omega
      have k2 : (k : Int) ≤ (c : Int) := by omega
      have k3 : ¬ c = k := by omega
      have k4 : ¬ (c : Int) = (k : Int) := by omega
      have hne := hA b off rfl
      have L1 : (grownR f (xs.take k)).length + 1 = k := by
        have := grownR_length f (xs.take k) (by rw [List.length_take]; omega) (by rw [List.length_take]; omega)
        rw [List.length_take] at this
        omega
      have T1 := Lib.hid (fun W (q : Ints .u64 W (some ⟨b, off, none⟩) n xs) (hQW : OutQ W p rows v) => ih (some ⟨b, off, none⟩) k c (xs.take k) p rows v W (by omega) (by omega) (by omega) (by omega) (by
        have := q.cut (i := 0) (m := k) (by omega) (A' := some ⟨b, off, none⟩) (fun _ b' o' e => by injection e with e; injection e with e1 e2; subst e1; subst e2; rfl)
        rwa [List.drop_zero] at this) (fun b' off' e => by cases e; exact hne) (hu.take _) hQW)
      have T2 := Lib.hid (fun W v1 (q : Ints .u64 W (some ⟨b, off, none⟩) n xs) (hQW : OutQ W p (rows ++ grownR f (xs.take k)) v1) (hn1 : v1.ownBlock ≠ some b) => ih (some ⟨b, off + k, none⟩) (n - k) (c - k) (xs.drop k) p (rows ++ grownR f (xs.take k)) v1 W (by omega) (by omega) (by omega) (by rw [List.length_append]; omega) (by
        have := q.cut (i := k) (m := n - k) (by omega) (A' := some ⟨b, off + k, none⟩) (fun _ b' o' e => by injection e with e; injection e with e1 e2; subst e1; subst e2; rfl)
        rwa [List.take_of_length_le (by rw [List.length_drop, q.len]; exact Nat.le_refl _)] at this) (fun b' off' e => by cases e; exact ⟨hne.1, hn1⟩) (hu.drop _) hQW)
      have b1 := treeI_u64 (hu.take k) (by rw [List.length_take]; omega)
      have b2 := treeI_u64 (hu.drop k) (by rw [List.length_drop]; omega)
      have L2 : (grownR f (xs.drop k)).length + 1 = n - k := by
        have := grownR_length f (xs.drop k) (by rw [List.length_drop]; omega) (by rw [List.length_drop]; omega)
        rw [List.length_drop] at this
        omega
      obtain ⟨r1, hr1⟩ : ∃ r, r = grownR f (xs.take k) := ⟨_, rfl⟩
      obtain ⟨r2, hr2⟩ : ∃ r, r = grownR f (xs.drop k) := ⟨_, rfl⟩
      obtain ⟨q1, hq1⟩ : ∃ q, q = treeI (xs.take k) := ⟨_, rfl⟩
      obtain ⟨q2, hq2⟩ : ∃ q, q = treeI (xs.drop k) := ⟨_, rfl⟩
      rw [← hr1] at T1 T2 L1 G
      rw [← hr2] at T2 L2 G
      rw [← hq1] at T1 b1 E G
      rw [← hq2] at T2 b2 E G
      have HMD := Lib.hid (fun A c W (q : Ints .u64 W A 3 [3, q1, q2]) (h3 : 3 ≤ c) => top_made A 3 c [3, q1, q2] W q (.three (by omega) b1 b2) (by omega) (by omega) h3)
      rw [show madeI [3, q1, q2] = pairI q1 q2 from rfl, ← E.out] at HMD
      have HG := Lib.hid (show rows ++ grownR (f + 1) xs = (rows ++ r1 ++ r2) ++ [[3, q1, q2]] by rw [G.out]; simp [List.append_assoc])
      clear hr1 hr2 hq1 hq2 hl hcl ih hA G E hu b1 b2 hk
      go_enter Try.func50, Try.ntmps50
      go_wp2
      go_loopw [5] (fun j wr => ∃ q : Nat, 1 ≤ q ∧ q < n ∧ IsP2 q ∧ j = .int .i64 q ∧ wr = w) (fun j _ => n - (intOf j).toNat)
      case atStart => exact ⟨1, by omega, by omega, .one, rfl, rfl⟩
      case round =>
        obtain ⟨q, hp1, hp2, hp, rfl, rfl⟩ := hrel
        by_cases hlt : 2 * q < n
        · go_wp2
          go_roundw
          case rel => exact ⟨q * 2, by omega, by omega, hp.dbl, by go_num, trivial⟩
          case measure => simp [intOf]; omega
        · obtain rfl : q = k := (HP2.out q hp hp2 (by omega)).symm
          clear HP2
          have hQd : OutQ wr.drew p rows v := hQ.below ((Below.refl _ _).drew)
          go_upto_region 6 with fail
          go_region_held3 (fun _ => True) (trivial) (first
            | (go_at_call 50; (with_reducible refine (T1.out _ hx.drew hQd).mono ?_); rintro e u1 ⟨v1, rfl, Q1, S1, R1⟩; have hx1 : Ints .u64 u1 (some ⟨b, off, none⟩) n xs := hx.drew.shy S1 (fun b' off' e => by cases e; exact hne); have hn1 : v1.ownBlock ≠ some b := R1.ne hne.2 hb)
            | (go_at_call 50; (with_reducible refine (T2.out _ _ hx1 Q1 hn1).mono ?_); rintro e u2 ⟨v2, rfl, Q2, S2, R2⟩)
            | fail)
          have S12 : Shy p v.ownBlock wr u2 := by
            have h0 : Shy p v.ownBlock wr wr.drew := ⟨rfl, rfl, rfl, Nat.le_refl _, fun _ _ _ _ => rfl⟩
            exact (h0.trans S1 (RowOn.refl _ _)).trans S2 R1
          have R12 : RowOn v.ownBlock v2.ownBlock wr.heap.size := R1.trans R2 S1.size
          clear S1 S2 R1 R2 Q1 hx1 hn1 hQd
          obtain ⟨R3, hR3⟩ : ∃ R3, R3 = rows ++ r1 ++ r2 := ⟨_, rfl⟩
          have hR3l : R3.length + 1 ≤ 400 := by rw [hR3, List.length_append, List.length_append]; omega
          rw [← hR3] at Q2 HG
          clear hR3
          have bX : Below u2.heap.size u2 (u2.alloc (.cells #[.int .u64 3, .int .u64 q1, .int .u64 q2] 22)) := (Below.refl _ _).alloc (Nat.le_refl _) _
          have IK := u64_three (a := 3) (b := q1) (c := q2) u2
          have QX := Q2.below bX
          have hsX : (u2.alloc (.cells #[.int .u64 3, .int .u64 q1, .int .u64 q2] 22)).heap.size = u2.heap.size + 1 := by simp
          have hrow2 := Q2.row
          have hpl := Q2.box.lt
          have hnu : v2.ownBlock ≠ some u2.heap.size := fun e => by have := (hrow2 _ e).2; omega
          obtain ⟨Z, hZ⟩ : ∃ Z, Z = u2.alloc (.cells #[.int .u64 3, .int .u64 q1, .int .u64 q2] 22) := ⟨_, rfl⟩
          rw [← hZ] at bX IK QX hsX
          have HZ := Lib.hid hZ
          clear hZ
          have hPK : PartQ Z p v2.ownBlock (.slice (some ⟨u2.heap.size, 0, none⟩) 3 3) [3, q1, q2] := ⟨u2.heap.size, 3, rfl, IK, Nat.le_refl _, hnu, by omega, by omega⟩
          obtain ⟨vs, hBp, hoV, hpV⟩ := QX
          have y0 : Z.cell? ⟨p, 0, none⟩ = some v2 := hBp.cell 0
          have z0 := hBp.frozen 0
          have S3 := S12.below bX
          have hZs := bX.size
          have huw := S12.size
          clear Q2 S12 bX hrow2 hsX
          go_upto_region 7 with fail
          rw [← HZ.out]
          go_wp2_with (at_builtin; refine wpList_append_lies _ rfl _ _ 65 rfl (p + 1) 69 l0 (.slice none 0 0) 1 24 Try.underlying65 hl0 lz0 lz1 lz2 rfl (by decide) v2 R3.length vs rfl (hoV.alloc _) ⟨Z.heap.size, 0, none⟩ 1 1 [.slice (some ⟨u2.heap.size, 0, none⟩) 3 3] rfl rfl (World.news_of_block (cs := #[.slice (some ⟨u2.heap.size, 0, none⟩) 3 3]) (Blk.made _ _ _)) (by simp [Value.oneCell']) (by omega) (by unfold maxLen; omega) (by omega) (by simp <;> omega) (Z.heap.size + 1) (by simp) ?_; intro gB capB wB hownB hgrowB hggB hltB; obtain ⟨QF, SF, RF, hB1⟩ := OutQ.push hBp hoV hpV hPK hownB hgrowB (hggB.imp id (fun h => by omega)); have y1 : wB.cell? ⟨p, 0, none⟩ = some v2 := hB1.cell 0; have z1 := hB1.frozen 0; have hlp := hB1.lt)
          have I3 := IK.shy SF (fun b' off' e => by cases e; exact ⟨by omega, hnu⟩)
          refine (HMD.out _ _ _ I3 (Nat.le_refl _)).mono ?_
          rintro e wF ⟨rfl, hbF⟩
          go_wp2
          go_ret
          refine ⟨.slice (some ⟨gB, 0, none⟩) (R3.length + 1) capB, rfl, ?_, ((S3.trans SF R12).below hbF), R12.trans (o'' := some gB) RF (by omega)⟩
          rw [HG.out]
          exact QF.below hbF
end Go.Proofs.Ytblkpibbcapdeaa

/- coachtop.told: what its round keeps. -/
namespace Go.Proofs.Ytblkpibbcapdeaa
open Go.RowKit Go.Shelf Pl

theorem obj_of_cell {w : World} {a : Addr} {u : Value} (h : w.cell? a = some u) : ∃ ob, w.heap[a.block]? = some ob ∧ ob.isCells = true := by
  unfold World.cell? at h
  split at h
  · exact ⟨_, by assumption, rfl⟩
  · cases h
theorem own_obj {w : World} {base : Nat} {e : TypeId} {size n : Nat} {v : Value} {xs : List Value} (h : w.ownsRow base e size v n xs) {b : Nat} (hb : v.ownBlock = some b) : ∃ ob, w.heap[b]? = some ob ∧ ob.isCells = true := by
  rcases h.2 with ⟨rfl, _⟩ | ⟨g, cap, cur, rfl, _, hg, _⟩
  · cases hb
  · cases hb
    exact ⟨_, hg, rfl⟩
theorem PartQ.keep {w w' : World} {p : Nat} {o : Option Nat} {v : Value} {xs : List Int} (h : PartQ w p o v xs) (hs : w.heap.size ≤ w'.heap.size) (hk : ∀ b, v.ownBlock = some b → ∀ ob, w.heap[b]? = some ob → ob.isCells = true → w'.heap[b]? = w.heap[b]?) : PartQ w' p o v xs := by
  obtain ⟨b, s, rfl, hi, hs', n1, n2, hlt⟩ := h
  refine ⟨b, s, rfl, ⟨hi.len, fun h0 => ?_⟩, hs', n1, n2, by omega⟩
  obtain ⟨b', off, e, hb', hc⟩ := hi.cells h0
  cases e
  have c0 := hc 0 h0
  obtain ⟨ob, o1, o2⟩ := obj_of_cell c0
  have hh := hk b rfl ob o1 o2
  exact ⟨b, 0, rfl, by omega, fun j hj => (World.cell?_of_block (a := ⟨b, 0 + j, none⟩) hh).trans (hc j hj)⟩
theorem PartQ.blk {w : World} {p : Nat} {o : Option Nat} {v : Value} {xs : List Int} (h : PartQ w p o v xs) : ∃ b, v.ownBlock = some b ∧ b < w.heap.size ∧ o ≠ some b := by
  obtain ⟨b, s, rfl, _, _, n1, _, hlt⟩ := h
  exact ⟨b, rfl, hlt, n1⟩
theorem PartQ.turn {w : World} {p : Nat} {o o' : Option Nat} {v : Value} {xs : List Int} (h : PartQ w p o v xs) (h' : ∀ b, v.ownBlock = some b → o' ≠ some b) : PartQ w p o' v xs := by
  obtain ⟨b, s, rfl, hi, hs', _, n2, hlt⟩ := h
  exact ⟨b, s, rfl, hi, hs', h' b rfl, n2, hlt⟩

/-- A box with its lists, the row's cells named. -/
def OutV (w : World) (p : Nat) (rows : List (List Int)) (v : Value) (vs : List Value) : Prop :=
  Blk w p 65 #[v] ∧ w.ownsRow (p + 1) 69 1 v rows.length vs ∧ ∀ j, j < rows.length → PartQ w p v.ownBlock (vs[j]?.getD undef) (rows[j]?.getD [])
/-- A box with its lists, and none of them in a block of o. -/
def OutF (w : World) (p : Nat) (rows : List (List Int)) (v : Value) (o : Nat → Prop) : Prop :=
  ∃ vs, OutV w p rows v vs ∧ ∀ b, o b → b < w.heap.size ∧ b ≠ p ∧ v.ownBlock ≠ some b ∧ ∀ j, j < rows.length → (vs[j]?.getD undef).ownBlock ≠ some b
theorem OutF.q {w : World} {p : Nat} {rows : List (List Int)} {v : Value} {o : Nat → Prop} (h : OutF w p rows v o) : OutQ w p rows v := by
  obtain ⟨vs, h, _⟩ := h
  exact ⟨vs, h⟩
theorem OutQ.f {w : World} {p : Nat} {rows : List (List Int)} {v : Value} (h : OutQ w p rows v) : OutF w p rows v (fun _ => False) := by
  obtain ⟨vs, h⟩ := h
  exact ⟨vs, h, fun b e => e.elim⟩
theorem OutF.apart {w : World} {p : Nat} {rows : List (List Int)} {v : Value} {o : Nat → Prop} (h : OutF w p rows v o) : ∀ b, o b → v.ownBlock ≠ some b := by
  obtain ⟨vs, _, h⟩ := h
  exact fun b e => (h b e).2.2.1
/-- Other blocks have been changed, or grown anew. -/
theorem OutF.keep {w w' : World} {p : Nat} {rows : List (List Int)} {v : Value} {o o' : Nat → Prop} (h : OutF w p rows v o) (hs : w.heap.size ≤ w'.heap.size) (hk : ∀ k, ¬ o k → ∀ ob, w.heap[k]? = some ob → ob.isCells = true → w'.heap[k]? = w.heap[k]?)
    (hr : ∀ b, o' b → (o b ∨ w.heap.size ≤ b) ∧ b < w'.heap.size) : OutF w' p rows v o' := by
  obtain ⟨vs, ⟨hB, ho, hp⟩, ha⟩ := h
  have hop : ∀ b, v.ownBlock = some b → ¬ o b := fun b e e' => (ha b e').2.2.1 e
  refine ⟨vs, ⟨(hk p (fun e => (ha p e).2.1 rfl) _ hB rfl).trans hB, own_keep ho (fun k e => ?_), fun j hj => (hp j hj).keep hs (fun b e ob h1 h2 => hk b (fun e' => (ha b e').2.2.2 j hj e) ob h1 h2)⟩, fun b e => ?_⟩
  · obtain ⟨ob, h1, h2⟩ := own_obj ho e
    exact hk k (hop k e) ob h1 h2
  · obtain ⟨h1, h2⟩ := hr b e
    refine ⟨h2, ?_⟩
    rcases h1 with h1 | h1
    · exact (ha b h1).2
    · refine ⟨by have := hB.lt; omega, fun e => by have := (ho.lt _ e).2; omega, fun j hj e => ?_⟩
      obtain ⟨b, hb, hlt, _⟩ := (hp j hj).blk
      rw [hb] at e
      cases e
      omega
/-- One list more, apart from the blocks of o2. -/
theorem OutF.push {w w1 : World} {p g cap : Nat} {rows : List (List Int)} {v x : Value} {vs : List Value} {xs : List Int} {o : Obj} {o2 : Nat → Prop} (hV : OutV w p rows v vs) (ha : ∀ b, o2 b → b < w.heap.size ∧ b ≠ p ∧ v.ownBlock ≠ some b ∧ ∀ j, j < rows.length → (vs[j]?.getD undef).ownBlock ≠ some b)
    (hx : PartQ w p v.ownBlock x xs) (hxo : ∀ b, o2 b → x.ownBlock ≠ some b) (hown : w1.ownsRow (p + 1) 69 1 (.slice (some ⟨g, 0, none⟩) (rows.length + 1) cap) (rows.length + 1) (vs ++ [x])) (hg : (w.alloc o).grownBy w1 v.ownBlock) (hgg : v.ownBlock = some g ∨ w.heap.size < g) :
    OutF (w1.setCell ⟨p, 0, none⟩ (.slice (some ⟨g, 0, none⟩) (rows.length + 1) cap)) p (rows ++ [xs]) (.slice (some ⟨g, 0, none⟩) (rows.length + 1) cap) o2 ∧
      Shy p v.ownBlock w (w1.setCell ⟨p, 0, none⟩ (.slice (some ⟨g, 0, none⟩) (rows.length + 1) cap)) ∧ RowOn v.ownBlock (some g) w.heap.size ∧ Blk w1 p 65 #[v] := by
  obtain ⟨hB, ho, hp⟩ := hV
  obtain ⟨h1, h2, h3, h4⟩ := OutQ.push hB ho hp hx hown hg hgg
  have hvl := ho.1
  rw [Nat.mul_one] at hvl
  obtain ⟨vs', g1, g2, g3⟩ := h1
  have hgp : p < g := by have := (hown.lt g rfl).1; omega
  have e2 : vs' = vs ++ [x] := by
    have e3 := own_far hown (p := ⟨p, 0, none⟩) (Nat.lt_succ_self p) (.slice (some ⟨g, 0, none⟩) (rows.length + 1) cap)
    rw [List.length_append, List.length_singleton] at g2
    rcases g2.2 with ⟨hh, _⟩ | ⟨_, _, cur, hh, _, hg2, _, _, _, ht2⟩
    · cases hh
    · cases hh
      rcases e3.2 with ⟨hh, _⟩ | ⟨_, _, cur', hh, _, hg3, _, _, _, ht3⟩
      · cases hh
      · cases hh
        rw [hg2] at hg3
        cases hg3
        exact ht2.symm.trans ht3
  subst e2
  refine ⟨⟨_, ⟨g1, g2, g3⟩, fun b e => ?_⟩, h2, h3, h4⟩
  obtain ⟨a1, a2, a3, a4⟩ := ha b e
  refine ⟨Nat.lt_of_lt_of_le a1 h2.size, a2, fun e' => ?_, fun j hj => ?_⟩
  · injection e' with e'
    have e' : g = b := e'
    subst e'
    rcases hgg with h | h
    · exact a3 h
    · omega
  · rw [List.length_append, List.length_singleton] at hj
    by_cases h : j < rows.length
    · rw [List.getElem?_append_left (by omega)]
      exact a4 j h
    · obtain rfl : j = rows.length := by omega
      rw [List.getElem?_append_right (by omega), hvl, Nat.sub_self]
      exact hxo b e

theorem RowOn.lift {o o' : Option Nat} {H H' : Nat} (h : RowOn o o' H) (hh : H' ≤ H) : RowOn o o' H' := by
  rcases h with h | ⟨g, h1, h2⟩
  · exact .inl h
  · exact .inr ⟨g, h1, by omega⟩
/-- What a round of told finds: the boxes, the leaves, the lists. -/
structure ToldI (w W : World) (p : Nat) (v0 : Value) (rows : List (List Int)) (ls : List Int) (v vo : Value) : Prop where
  box : Blk W w.heap.size 67 #[.pointer (some ⟨p, 0, none⟩)]
  lv : Blk W (w.heap.size + 1) 69 #[v]
  own : W.ownsRow (w.heap.size + 4) 22 1 v ls.length (ls.map (Value.int .u64))
  out : OutF W p rows vo (fun b => b = w.heap.size + 1 ∨ v.ownBlock = some b)
  ron : RowOn v0.ownBlock vo.ownBlock (w.heap.size + 4)
  shy : Shy p v0.ownBlock w W
  size : w.heap.size + 4 ≤ W.heap.size
section
variable {w W W' : World} {p : Nat} {v0 v vo : Value} {rows : List (List Int)} {ls : List Int}
theorem ToldI.kept (h : ToldI w W p v0 rows ls v vo) {row : Option Nat} (hg : W.grownBy W' row) (hr : ∀ r, row = some r → w.heap.size + 4 ≤ r ∧ ∃ o : Obj, W.heap[r]? = some o ∧ o.isCells = false) : ToldI w W' p v0 rows ls v vo := by
  have hk : ∀ (k : Nat) (ob : Obj), W.heap[k]? = some ob → ob.isCells = true → W'.heap[k]? = W.heap[k]? := fun k ob h1 h2 => hg.block k (Array.getElem?_eq_some_iff.1 h1).1 (fun e => by
    obtain ⟨_, ob', h3, h4⟩ := hr k e.symm
    rw [h1] at h3
    cases h3
    rw [h2] at h4
    cases h4)
  refine ⟨(hk _ _ h.box rfl).trans h.box, (hk _ _ h.lv rfl).trans h.lv, own_keep h.own (fun k e => ?_), h.out.keep hg.size (fun k _ ob h1 h2 => hk k ob h1 h2) (fun b e => ⟨.inl e, by
    have := hg.size
    rcases e with e | e
    · have := h.size; omega
    · have := (h.own.lt b e).2; omega⟩), h.ron, ⟨hg.os.trans h.shy.os, hg.tape.trans h.shy.tape, hg.output.trans h.shy.output, Nat.le_trans h.shy.size hg.size, fun k hk' h1 h2 => (hg.block k (by have := h.size; omega) (fun e => by have := (hr k e.symm).1; omega)).trans (h.shy.block k hk' h1 h2)⟩, Nat.le_trans h.size hg.size⟩
  obtain ⟨ob, h1, h2⟩ := own_obj h.own e
  exact hk k ob h1 h2
theorem ToldI.below (h : ToldI w W p v0 rows ls v vo) (hb : Below W.heap.size W W') : ToldI w W' p v0 rows ls v vo :=
  h.kept (row := none) ⟨hb.os, hb.tape, hb.output, hb.size, fun k hk _ => hb.block k hk⟩ (fun r e => by cases e)
/-- What a change of one box and one row keeps of all that is no cells. -/
theorem Shy.keeps {B : Nat} {o : Option Nat} (h : Shy p o W W') (hp : ∃ ob : Obj, W.heap[p]? = some ob ∧ ob.isCells = true) (ho : ∀ b, o = some b → ∃ ob : Obj, W.heap[b]? = some ob ∧ ob.isCells = true) : KeepsFrom B W W' :=
  ⟨h.size, fun k o' _ hk hf => (h.block k (Array.getElem?_eq_some_iff.1 hk).1 (fun e => by
    subst e
    obtain ⟨ob, h1, h2⟩ := hp
    rw [hk] at h1; cases h1; rw [hf] at h2; cases h2) (fun e => by
    obtain ⟨ob, h1, h2⟩ := ho k e
    rw [hk] at h1; cases h1; rw [hf] at h2; cases h2)).trans hk⟩
/-- A leaf more. -/
theorem ToldI.leaf {w1 : World} {g cap : Nat} {q : Int} {o : Obj} (h : ToldI w W p v0 rows ls v vo) (hown : w1.ownsRow (w.heap.size + 4) 22 1 (.slice (some ⟨g, 0, none⟩) (ls.length + 1) cap) (ls.length + 1) (ls.map (Value.int .u64) ++ [.int .u64 q]))
    (hg : (W.alloc o).grownBy w1 v.ownBlock) (hgg : v.ownBlock = some g ∨ W.heap.size < g) :
    ToldI w (w1.setCell ⟨w.heap.size + 1, 0, none⟩ (.slice (some ⟨g, 0, none⟩) (ls.length + 1) cap)) p v0 rows (ls ++ [q]) (.slice (some ⟨g, 0, none⟩) (ls.length + 1) cap) vo ∧
      Shy (w.heap.size + 1) v.ownBlock W (w1.setCell ⟨w.heap.size + 1, 0, none⟩ (.slice (some ⟨g, 0, none⟩) (ls.length + 1) cap)) ∧ Blk w1 (w.heap.size + 1) 69 #[v] := by
  have hsz := h.size
  have hgs := hg.size
  have e1 : (W.alloc o).heap.size = W.heap.size + 1 := by simp
  rw [e1] at hgs
  have blk : ∀ k, k < W.heap.size → v.ownBlock ≠ some k → w1.heap[k]? = W.heap[k]? := fun k hk hne => (hg.block k (by rw [e1]; omega) (fun e => hne e.symm)).trans (((Below.refl W.heap.size W).alloc (Nat.le_refl _) o).block k hk)
  have hvn : ∀ k, k < w.heap.size + 4 → v.ownBlock ≠ some k := fun k hk e => by have := (h.own.lt k e).1; omega
  have hB1 : Blk w1 (w.heap.size + 1) 69 #[v] := (blk _ (by omega) (hvn _ (by omega))).trans h.lv
  have hBt := (But.refl (w.heap.size + 1) w1).put 0 (.slice (some ⟨g, 0, none⟩) (ls.length + 1) cap)
  have hgl := hown.lt g rfl
  have S : Shy (w.heap.size + 1) v.ownBlock W (w1.setCell ⟨w.heap.size + 1, 0, none⟩ (.slice (some ⟨g, 0, none⟩) (ls.length + 1) cap)) :=
    ⟨hBt.os.trans (hg.os.trans rfl), hBt.tape.trans (hg.tape.trans rfl), hBt.output.trans (hg.output.trans rfl), by have := hBt.size; omega, fun k hk h1 h2 => (hBt.block k (by omega) h1).trans (blk k hk h2)⟩
  have hro : RowOn v.ownBlock (some g) W.heap.size := by
    rcases hgg with h | h
    · exact .inl h.symm
    · exact .inr ⟨g, rfl, by omega⟩
  refine ⟨⟨(S.block _ (by omega) (by omega) (hvn _ (by omega))).trans h.box, hB1.put 0 _, ?_, ?_, h.ron, ⟨S.os.trans h.shy.os, S.tape.trans h.shy.tape, S.output.trans h.shy.output, Nat.le_trans h.shy.size S.size, fun k hk h1 h2 => (S.block k (by omega) (by omega) (hvn _ (by omega))).trans (h.shy.block k hk h1 h2)⟩, Nat.le_trans hsz S.size⟩, S, hB1⟩
  · rw [List.length_append, List.length_singleton, List.map_append]
    exact own_far hown (p := ⟨w.heap.size + 1, 0, none⟩) (show w.heap.size + 1 < w.heap.size + 4 by omega) _
  · refine h.out.keep S.size (fun k hk ob h1 _ => ?_) (fun b e => ?_)
    · exact S.block k (Array.getElem?_eq_some_iff.1 h1).1 (fun e => hk (.inl e)) (fun e => hk (.inr e))
    · have := S.size
      rcases e with e | e
      · exact ⟨.inl (.inl e), by omega⟩
      · injection e with e
        have e : g = b := e
        subst e
        refine ⟨?_, by simpa using hgl.2⟩
        rcases hgg with h | h
        · exact .inl (.inr h)
        · exact .inr (by omega)
/-- A list more. -/
theorem ToldI.list {w1 : World} {g cap : Nat} {x : Value} {xs : List Int} {vs : List Value} {o : Obj} (h : ToldI w W p v0 rows ls v vo) (hp : p < w.heap.size) (hv0 : ∀ b, v0.ownBlock = some b → b < w.heap.size) (hV : OutV W p rows vo vs) (ha : ∀ b, (b = w.heap.size + 1 ∨ v.ownBlock = some b) → b < W.heap.size ∧ b ≠ p ∧ vo.ownBlock ≠ some b ∧ ∀ j, j < rows.length → (vs[j]?.getD undef).ownBlock ≠ some b)
    (hx : PartQ W p vo.ownBlock x xs) (hxo : ∀ b, (b = w.heap.size + 1 ∨ v.ownBlock = some b) → x.ownBlock ≠ some b) (hown : w1.ownsRow (p + 1) 69 1 (.slice (some ⟨g, 0, none⟩) (rows.length + 1) cap) (rows.length + 1) (vs ++ [x])) (hg : (W.alloc o).grownBy w1 vo.ownBlock) (hgg : vo.ownBlock = some g ∨ W.heap.size < g) :
    ToldI w (w1.setCell ⟨p, 0, none⟩ (.slice (some ⟨g, 0, none⟩) (rows.length + 1) cap)) p v0 (rows ++ [xs]) ls v (.slice (some ⟨g, 0, none⟩) (rows.length + 1) cap) ∧
      Shy p vo.ownBlock W (w1.setCell ⟨p, 0, none⟩ (.slice (some ⟨g, 0, none⟩) (rows.length + 1) cap)) ∧ Blk w1 p 65 #[vo] := by
  obtain ⟨hO, S, hR, hB1⟩ := OutF.push hV ha hx hxo hown hg hgg
  have hsz := h.size
  have hvo : ∀ b, vo.ownBlock = some b → b < w.heap.size ∨ w.heap.size + 4 ≤ b := fun b e => by
    rcases h.ron with h1 | ⟨g', h1, h2⟩
    · exact .inl (hv0 b (h1.symm.trans e))
    · rw [h1] at e
      cases e
      exact .inr h2
  refine ⟨⟨(S.block _ (by omega) (by omega) (fun e => by have := hvo _ e; omega)).trans h.box, (S.block _ (by omega) (by omega) (fun e => by have := hvo _ e; omega)).trans h.lv, own_keep h.own (fun k e => S.block k (h.own.lt k e).2 (by have := (h.own.lt k e).1; omega) (ha k (.inr e)).2.2.1), hO, h.ron.trans (o'' := some g) hR hsz, h.shy.trans S (RowOn.lift h.ron (by omega)), Nat.le_trans hsz S.size⟩, S, hB1⟩
end
end Go.Proofs.Ytblkpibbcapdeaa

/- coachtop.told: the walk. -/
namespace Go.Proofs.Ytblkpibbcapdeaa
open Go.RowKit Go.Shelf Pl

attribute [local go_sem] Oper.semAt_some

/-- An append of what lies there, inside a fence: where its row lies. -/
theorem wpListIn_append_lies {F : Fence} {n0 : Nat} {P : Program} (w : World) {ops : Array Oper} {rest : List Oper} {o : Oper} {a : Act} {Q : Exit → Act → World → Prop} (hgd : o.guard = none) (s x : Operand) (t : TypeId)
    (hop : o.op = .call { callee := .builtin .append, args := #[s, x], argTypes := #[t, t] })
    (base : Nat) (e : TypeId) (i : TypeInfo) (z : Value) (size bytes : Nat) (ht : P.underlying t = some (.slice e)) (hi : P.info? e = some i) (hz : i.zero = some z)
    (hsize : i.size = size) (hby : i.bytes = bytes) (hzs : z.cells.size = size) (hsz : 0 < size)
    (v : Value) (n : Nat) (xs : List Value) (hs : a.eval s = v) (hown : w.ownsRow base e size v n xs)
    (ad : Addr) (m c : Nat) (news : List Value) (hx : a.eval x = .slice (some ad) m c) (hl : news.length = m * size) (hnews : ∀ j u, news[j]? = some u → w.cell? (ad.add j) = some u) (h1 : ∀ u ∈ news, u.oneCell' = true)
    (hm : 0 < m) (h63 : n + m ≤ maxLen) (hbytes : (n + m) * bytes ≤ 140737488355328) (hbase : base ≤ w.heap.size) (H : Nat) (hH : w.heap.size = H)
    (h : ∀ g cap w', w'.ownsRow base e size (.slice (some ⟨g, 0, none⟩) (n + m) cap) (n + m) (xs ++ news) → w.grownBy w' v.ownBlock → (v.ownBlock = some g ∨ g = H) → g < w'.heap.size → wpListIn F n0 P ops Q rest (a.put o.dst (.slice (some ⟨g, 0, none⟩) (n + m) cap)) w') :
    wpListIn F n0 P ops Q (o :: rest) a w := by
  refine wpListIn_plain hgd fun K hK' => ?_
  obtain ⟨g, cap, w', hrun, h2, h3, h4, h5⟩ := run_append_lies (P := P) w t o.type base e i z size bytes ht hi hz hsize hby hzs hsz v n xs hown ad m c news hl hnews h1 hm h63 hbytes hbase H hH
  unfold Oper.wpIn
  refine ⟨?_, ?_⟩
  · simp [Oper.about, hop, resolve, Target.leads, Sem.run_pure]
  · rw [Oper.semAt_plain F _ _ (by rw [hop]; intro c hc'; cases hc')]
    simp [execOp, hop, resolve, invoke, builtin, hs, hx, hrun, Result.andThen]
    exact hK' _ _ (h g cap w' h2 h3 h4 h5)

theorem cut_rows {n : Nat} {l : List (Piece n 4)} (hcut : Cut n 4 l) (hle : n ≤ l.length * 4) (xs : List Int) (hx : xs.length = n) :
    (l.map fun x => 4 :: numL ((xs.drop x.1.1).take x.1.2)) = chunksR xs := by
  have h1 : l.length = (n + 3) / 4 := by
    rcases Nat.eq_zero_or_pos l.length with h | h
    · omega
    · obtain ⟨e, _⟩ := hcut (l.length - 1) (by omega)
      have := l[l.length - 1].2
      omega
  apply List.ext_getElem
  · rw [List.length_map, chunksR_length, hx]; exact h1
  · intro i hi hi'
    rw [List.length_map] at hi
    obtain ⟨e1, e2⟩ := hcut i hi
    rw [List.getElem_map, e1, e2, piece_take hx]
    simp [chunksR, upto, Nat.mul_comm]

theorem OutQ.putD {w : World} {p D : Nat} {rows : List (List Int)} {v : Value} {o : Obj} (o' : Obj) (h : OutQ w p rows v) (hD : w.heap[D]? = some o) (ho : o.isCells = false) : OutQ (w.putObj D o') p rows v := by
  have hg := grownBy_putObj' w D o'
  exact (h.f.keep hg.size (fun k _ ob h1 h2 => hg.block k (Array.getElem?_eq_some_iff.1 h1).1 (fun e => by
    injection e with e
    subst e
    rw [hD] at h1; cases h1; rw [ho] at h2; cases h2)) (fun b e => (e : False).elim)).q
theorem Shy.putD {w W : World} {p D : Nat} {o : Option Nat} (o' : Obj) (h : Shy p o w W) (hD : w.heap.size ≤ D) : Shy p o w (W.putObj D o') := by
  have hg := grownBy_putObj' W D o'
  exact ⟨hg.os.trans h.os, hg.tape.trans h.tape, hg.output.trans h.output, Nat.le_trans h.size hg.size, fun k hk h1 h2 => (hg.block k (Nat.lt_of_lt_of_le hk h.size) (fun e => by injection e with e; omega)).trans (h.block k hk h1 h2)⟩
section
variable {W W' W'' : World} {B H : Nat}
theorem kq_below (hB : H + 4 ≤ W.heap.size) (h : Below W.heap.size W W') : KeepsFrom B W W' ∧ KC (H + 2) (H + 3) W W' :=
  ⟨below_keeps h, h.cell (p := ⟨H + 2, 0, none⟩) (show H + 2 < W.heap.size by omega), h.cell (p := ⟨H + 3, 0, none⟩) (show H + 3 < W.heap.size by omega)⟩
theorem kq_shy {p : Nat} {o : Option Nat} (h : Shy p o W W') (hB : H + 4 ≤ W.heap.size) (hp : ∃ ob : Obj, W.heap[p]? = some ob ∧ ob.isCells = true) (ho : ∀ b, o = some b → ∃ ob : Obj, W.heap[b]? = some ob ∧ ob.isCells = true) (h2 : ∀ k, k = H + 2 ∨ k = H + 3 → k ≠ p ∧ o ≠ some k) : KeepsFrom B W W' ∧ KC (H + 2) (H + 3) W W' :=
  ⟨h.keeps hp ho, h.cell (a := ⟨H + 2, 0, none⟩) (show H + 2 < W.heap.size by omega) (h2 _ (.inl rfl)).1 (h2 _ (.inl rfl)).2, h.cell (a := ⟨H + 3, 0, none⟩) (show H + 3 < W.heap.size by omega) (h2 _ (.inr rfl)).1 (h2 _ (.inr rfl)).2⟩
theorem kq_trans (h : KeepsFrom B W W' ∧ KC (H + 2) (H + 3) W W') (h' : KeepsFrom B W' W'' ∧ KC (H + 2) (H + 3) W' W'') : KeepsFrom B W W'' ∧ KC (H + 2) (H + 3) W W'' := ⟨h.1.trans h'.1, h.2.trans h'.2⟩
end

set_option maxRecDepth 100000 in
set_option maxHeartbeats 6000000 in
theorem top_told (A : Option Addr) (n cap : Nat) (xs : List Int) (p : Nat) (rows : List (List Int)) (v0 : Value) (w : World) (hx : Ints .i64 w A n xs) (hn1 : 1 ≤ n) (hn2 : n ≤ 200) (hcap : n ≤ cap) (hrl : rows.length ≤ 50)
    (hA : ∀ b off, A = some ⟨b, off, none⟩ → b ≠ p ∧ v0.ownBlock ≠ some b) (hQ : OutQ w p rows v0) :
    Calls Try.prog 27 #[.slice A n cap, .pointer (some ⟨p, 0, none⟩)] w fun e w' => ∃ v', e = .returned (.int .u64 (rootI xs)) ∧ OutQ w' p (rows ++ toldR xs) v' ∧ Shy p v0.ownBlock w w' ∧ RowOn v0.ownBlock v'.ownBlock w.heap.size := by
  obtain ⟨i0, hi0, hz0, hz1, hz2⟩ := info_parts u64_info
  obtain ⟨l0, hl0, lz0, lz1, lz2⟩ := info_parts u64s_info
  obtain ⟨b, off, rfl, hbl, hcx⟩ := hx.cells hn1
  clear hcx
  have hp : p < w.heap.size := hQ.box.lt
  have hv0 : ∀ b, v0.ownBlock = some b → b < w.heap.size := fun b e => (hQ.row b e).2
  refine (callsIn_wide (n := 5)).1 ?_
  refine callsIn_of_wp_marks Try.func27 rfl trivial ?_ rfl
  simp only [Try.ntmps27, List.size_toArray, List.length_cons, List.length_nil, Nat.reduceAdd, Nat.reduceSub, Array.replicate_succ, Array.replicate_zero, List.push_toArray, List.append_toArray, List.nil_append, List.cons_append]
  gi_wp2_with fail
  refine ⟨trivial, (callsIn_wide.2 (chunk_made _ n cap 4 (by omega) _)).mono ?_⟩
  rintro e w3 ⟨rfl, rfl⟩
  gi_wp2_with fail
  obtain ⟨W4, hW4⟩ : ∃ W4, W4 = ((((w.alloc (.cells #[.pointer (some ⟨p, 0, none⟩)] 67)).alloc (.cells #[.slice none 0 0] 69)).alloc (.cells #[.slice (some ⟨b, off, none⟩) n cap] 26)).alloc (.cells #[.int .i64 4] 3)) := ⟨_, rfl⟩
  rw [← hW4]
  have hB4 : Below w.heap.size w W4 := by rw [hW4]; exact (((((Below.refl w.heap.size w).alloc (Nat.le_refl _) _).alloc (by simp) _).alloc (by simp; omega) _).alloc (by simp; omega) _)
  have g1 : W4.cell? ⟨w.heap.size + 2, 0, none⟩ = some (.slice (some ⟨b, off, none⟩) n cap) := by rw [hW4]; exact ((Blk.made' _ _ _ (by simp)).alloc _).cell 0
  have g2 : W4.cell? ⟨w.heap.size + 3, 0, none⟩ = some (.int .i64 4) := by rw [hW4]; exact (Blk.made' _ _ _ (by simp)).cell 0
  have hs4 : W4.heap.size = w.heap.size + 4 := by rw [hW4]; simp
  have bH : Blk W4 w.heap.size 67 #[.pointer (some ⟨p, 0, none⟩)] := by rw [hW4]; exact (((Blk.made _ _ _).alloc _).alloc _).alloc _
  have bL : Blk W4 (w.heap.size + 1) 69 #[.slice none 0 0] := by rw [hW4]; exact ((Blk.made' _ _ _ (by simp)).alloc _).alloc _
  have I0 : ToldI w W4 p v0 rows [] (.slice none 0 0) v0 := ⟨bH, bL, World.ownsRow_nil _ _ _ _, hQ.f.keep hB4.size (fun k _ ob h1 _ => hB4.block k (Array.getElem?_eq_some_iff.1 h1).1) (fun b e => by
    rcases e with e | e
    · exact ⟨.inr (by omega), by omega⟩
    · cases e), RowOn.refl _ _, (Shy.refl _ _ _).below hB4, by omega⟩
  clear hW4 bH bL hQ
  refine wpIn_rangeFunc_ownG rfl (by omega) (gf := 68) (lb := #[.pointer (some ⟨w.heap.size + 2, 0, none⟩), .pointer (some ⟨w.heap.size + 3, 0, none⟩)]) rfl trivial (enters_of Try.func68 (by kernel_rfl) rfl)
    (chunk_stops 4 (by omega) (w.heap.size + 2) (w.heap.size + 3) b off n cap 4 (by omega) (by omega) (by omega) hcap _ (by omega) (by omega) g1 g2) KC.trans (fun W l o o' hl _ _ _ => KC.put W l o' (by omega) (by omega)) (Below.refl _ _) (fun _ => rfl)
    (fun pre W => ∃ v vo, ToldI w W p v0 (rows ++ pre.map fun x : Piece n 4 => 4 :: numL ((xs.drop x.1.1).take x.1.2)) (pre.map fun x : Piece n 4 => ofI 4 (numL ((xs.drop x.1.1).take x.1.2))) v vo)
    (fun _ _ _ => False) ?hI (fun _ _ _ _ _ hs _ _ => hs) ?h0 ?a1 ?assign ?body ?done ?stop
  case assign =>
    intro l x W K hK
    gi_wp2
    exact hK
  case hI =>
    rintro pre X Y row ⟨v, vo, hI⟩ hg hrow
    rw [hs4] at hrow
    exact ⟨v, vo, hI.kept hg hrow⟩
  case h0 => exact ⟨_, _, by rw [List.map_nil, List.map_nil, List.append_nil]; exact I0⟩
  case body =>
    rintro l pre x W ⟨v, vo, hI⟩ hlt
    obtain ⟨⟨px, pm⟩, hp1, hp2, hp3⟩ := x
    dsimp only at hp1 hp2 hp3
    obtain ⟨R1, hR1⟩ : ∃ R, R = rows ++ pre.map fun x : Piece n 4 => 4 :: numL ((xs.drop x.1.1).take x.1.2) := ⟨_, rfl⟩
    obtain ⟨L1, hL1⟩ : ∃ R, R = pre.map fun x : Piece n 4 => ofI 4 (numL ((xs.drop x.1.1).take x.1.2)) := ⟨_, rfl⟩
    rw [← hR1, ← hL1] at hI
    have hR1l : R1.length ≤ 400 := by rw [hR1, List.length_append, List.length_map]; omega
    have hL1l : L1.length ≤ 200 := by rw [hL1, List.length_map]; omega
    have HR1 := Lib.hid hR1
    have HL1 := Lib.hid hL1
    clear hR1 hL1
    have hrow' : Ints .i64 W (some ⟨b, off + px, none⟩) pm ((xs.drop px).take pm) := (hx.shy hI.shy hA).cut (i := px) (m := pm) hp1 (fun _ b' o' e => by injection e with e; injection e with e1 e2; subst e1; subst e2; rfl)
    have HD := Lib.hid (dig_Numbers_ok _ pm pm _ W hrow' (by omega))
    have hl := hrow'.len
    clear hrow'
    obtain ⟨q, hq⟩ : ∃ q, q = numL ((xs.drop px).take pm) := ⟨_, rfl⟩
    have hqu : U64 q := by rw [hq]; exact numL_u64 _
    have hql : q.length = pm := by rw [hq, numL_length, hl]
    rw [← hq] at HD
    have HQ := Lib.hid hq
    clear hq hl
    gi_wp2_with fail
    dsimp only [pieceV]
    refine ⟨trivial, CallsIn.inRound l ((callsIn_wide.2 HD.out).mono ?_)⟩
    rintro e w1 ⟨S, sc, rfl, hown, hb1⟩
    rw [hql] at hown ⊢
    obtain ⟨a, ac, hS, _, _⟩ := hown.form (by omega)
    obtain ⟨rfl, rfl⟩ : S = some ⟨a, 0, none⟩ ∧ sc = ac := by injection hS with a _ c; exact ⟨a, c⟩
    clear hS
    have I1 := Ints.of_own hown hql
    have hlen : (q.map (Value.int .u64)).length = pm * 1 := by rw [List.length_map, hql, Nat.mul_one]
    have hown4 : (w1.alloc (.cells #[.int .u64 4] 22)).ownsRow w1.heap.size 22 1 (.slice (some ⟨w1.heap.size, 0, none⟩) 1 1) 1 [.int .u64 4] := World.ownsRow_lit w1 #[.int .u64 4] 1 (Nat.le_refl _) (by decide) rfl
    have hnw := (I1.alloc (.cells #[.int .u64 4] 22)).fresh
    have hvl := hI.out.q.row
    have hll := hI.own.lt
    have HI := Lib.hid hI
    have HQU := Lib.hid hqu
    clear hI hqu
    gi_wp2_with (gi_at_builtin; refine wpListIn_append_lies _ rfl _ _ 69 rfl w1.heap.size 22 i0 (.int .u64 0) 1 8 Try.underlying69 hi0 hz0 hz1 hz2 rfl (by decide) (.slice (some ⟨w1.heap.size, 0, none⟩) 1 1) 1 [.int .u64 4] rfl hown4 ⟨a, 0, none⟩ pm sc (q.map (.int .u64)) rfl hlen hnw (ints_oneCell _ _) (by omega) (by unfold maxLen; omega) (by omega) (by simp) (w1.heap.size + 1) (by simp) ?_; intro g gc w2 hown2 hgrow hgg hlt2)
    have hg0 : w1.heap.size ≤ g := by
      rcases hgg with h | h
      · exact Nat.le_of_eq (Option.some.inj h)
      · omega
    have hb2 : Below w1.heap.size w1 w2 := Below.grown ((Below.refl _ _).alloc (Nat.le_refl _) _) hgrow (by simp) (fun x hx => Nat.le_of_eq (Option.some.inj hx))
    have hWs := HI.out.size
    have hgW : W.heap.size ≤ g := Nat.le_trans hb1.size hg0
    have hWw : Below W.heap.size W w2 := bel_trans hb1 hb2
    have I2 := HI.out.below hWw.drew
    have hnum : [Value.int .u64 4] ++ q.map (.int .u64) = (4 :: q).map (.int .u64) := rfl
    rw [hnum] at hown2
    obtain ⟨K1, hK1⟩ : ∃ K1, K1 = 4 :: q := ⟨_, rfl⟩
    have hK1l : K1.length = 1 + pm := by rw [hK1, List.length_cons, hql, Nat.add_comm]
    have hK1u : U64 K1 := by rw [hK1]; exact .cons (by omega) (by omega) HQU.out
    rw [← hK1] at hown2
    have HK1 := Lib.hid hK1
    clear hnum hK1 hown hown4 hnw hlen I1 hgrow hgg HI hb1 hb2
    have hcap2 := own_capT hown2
    rw [← hK1l] at hown2 hcap2 ⊢
    have IK := Ints.of_own hown2 rfl
    have hKl : 2 ≤ K1.length ∧ K1.length ≤ 5 := by omega
    clear hK1l hql
    have hbx : Blk w2.drew w.heap.size 67 #[.pointer (some ⟨p, 0, none⟩)] := I2.box
    obtain ⟨vs, hV, ha⟩ := I2.out
    have hbp : Blk w2.drew p 65 #[vo] := hV.1
    have hpx : PartQ w2.drew p vo.ownBlock (.slice (some ⟨g, 0, none⟩) K1.length gc) K1 := ⟨g, gc, rfl, IK.drew, hcap2, fun e => by have := hvl _ e; omega, by omega, hlt2⟩
    have IKd := IK.drew
    have hgp : g ≠ p ∧ vo.ownBlock ≠ some g := ⟨by omega, fun e => by have := hvl _ e; omega⟩
    have hxo : ∀ b, (b = w.heap.size + 1 ∨ v.ownBlock = some b) → (Value.slice (some ⟨g, 0, none⟩) K1.length gc).ownBlock ≠ some b := fun b h e => by
      injection e with e
      have e : g = b := e
      rcases h with h | h
      · omega
      · have := hll _ h; omega
    have hzs : w2.drew.heap.size = w2.heap.size := rfl
    gi_wp2_with fail
    obtain ⟨Z, hZ⟩ : ∃ Z, Z = w2.drew := ⟨_, rfl⟩
    have HZ := Lib.hid hZ
    have QW := kq_below (B := W4.heap.size) (H := w.heap.size) hWs hWw.drew
    rw [← hZ] at I2 hbx hV ha hbp hpx IKd QW
    clear hZ hzs
    have HMD := Lib.hid (fun W (q : Ints .u64 W (some ⟨g, 0, none⟩) K1.length K1) => top_made (some ⟨g, 0, none⟩) K1.length gc K1 W q hK1u hKl.1 (by omega) hcap2)
    obtain ⟨mk, hmk⟩ : ∃ mk, mk = madeI K1 := ⟨_, rfl⟩
    rw [← hmk] at HMD
    have HMK := Lib.hid hmk
    clear hmk
    have s0 : Z.cell? ⟨w.heap.size, 0, none⟩ = some (.pointer (some ⟨p, 0, none⟩)) := hbx.cell 0
    have y0 : Z.cell? ⟨p, 0, none⟩ = some vo := hbp.cell 0
    have s5 : (Z.alloc (.cells #[.slice (some ⟨g, 0, none⟩) K1.length gc] 69)).cell? ⟨w.heap.size, 0, none⟩ = some (.pointer (some ⟨p, 0, none⟩)) := (hbx.alloc _).cell 0
    have y5 : (Z.alloc (.cells #[.slice (some ⟨g, 0, none⟩) K1.length gc] 69)).cell? ⟨p, 0, none⟩ = some vo := (hbp.alloc _).cell 0
    have hbxl := hbx.lt
    have hbpl := hbp.lt
    have hvon : ∀ k, w.heap.size ≤ k → k < w.heap.size + 4 → vo.ownBlock ≠ some k := fun k k1 k2 e => by
      rcases I2.ron with h1 | ⟨g', h1, h2⟩
      · have := hv0 _ (h1.symm.trans e); omega
      · rw [h1] at e; injection e with e; omega
    have hvn : vo.ownBlock ≠ some w.heap.size := fun e => by
      rcases I2.ron with h1 | ⟨g', h1, h2⟩
      · have := hv0 _ (h1.symm.trans e); omega
      · rw [h1] at e; injection e with e; omega
    refine wpIn_region_of (by kernel_rfl) (by kernel_rfl) (by rintro ⟨_, _, h⟩; exact h) (wpAny_of_held (S := fun X => X.cell? ⟨w.heap.size, 0, none⟩ = some (.pointer (some ⟨p, 0, none⟩))) _ _ _ _ ?_)
    rw [← HZ.out]
    refine wpAnyH_take (i := 0) (v := .pointer (some ⟨p, 0, none⟩)) rfl (by kernel_rfl) (by kernel_rfl) (by kernel_rfl) (fun _ _ _ h => h) (Or.inl ⟨by rfl, ?_⟩) s0 ?_
    · intro X hX
      go_simp
    simp only [Act.put]
    refine wpAnyH_take (i := 1) (v := .pointer (some ⟨p, 0, none⟩)) rfl (by kernel_rfl) (by kernel_rfl) (by kernel_rfl) (fun _ _ _ h => h) (Or.inl ⟨by rfl, ?_⟩) s0 ?_
    · intro X hX
      go_simp
    simp only [Act.put]
    refine wpAnyH_take (i := 2) (v := .pointer (some ⟨p, 0, none⟩)) rfl (by kernel_rfl) (by kernel_rfl) (by kernel_rfl) (fun _ _ _ h => h) (Or.inl ⟨by rfl, ?_⟩) s0 ?_
    · intro X hX
      go_simp
    simp only [Act.put]
    refine wpAnyH_take (i := 4) (v := .slice (some ⟨g, 0, none⟩) K1.length gc) rfl (by kernel_rfl) (by kernel_rfl) (by kernel_rfl) (fun _ _ _ h => h) (Or.inl ⟨by rfl, ?_⟩) s0 ?_
    · intro X hX
      go_simp
    simp only [Act.put]
    refine wpAnyH_ready (rs := [3, 5]) (by kernel_rfl) (by simp) ?_
    refine AllReadyH.cons rfl (fun K hK => ?_) (AllReadyH.cons rfl (fun K hK => ?_) AllReadyH.nil)
    go_simp
    refine hK.out _ _ s0 (fun _ => ?_)
    clear hK K
    refine wpAnyH_ready (rs := [5]) (by kernel_rfl) (by simp) ?_
    refine AllReadyH.cons rfl (fun K hK => ?_) AllReadyH.nil
    go_simp
    refine hK.out _ _ s5 (fun _ => ?_)
    clear hK K
    rotate_left
    go_simp
    refine hK.out _ _ s5 (fun _ => ?_)
    clear hK K
    refine wpAnyH_ready (rs := [3]) (by kernel_rfl) (by simp) ?_
    refine AllReadyH.cons rfl (fun K hK => ?_) AllReadyH.nil
    go_simp
    refine hK.out _ _ s5 (fun _ => ?_)
    clear hK K
    all_goals
      refine wpAnyH_ready (rs := [6]) (by kernel_rfl) (by simp) ?_
      refine AllReadyH.cons rfl (fun K hK => ?_) AllReadyH.nil
      refine step_append_lies _ (by rfl) _ _ _ (by rfl) (p + 1) 69 l0 (.slice none 0 0) 1 24 Try.underlying65 hl0 lz0 lz1 lz2 rfl (by omega) vo R1.length vs (by rfl) (by exact hV.2.1.alloc _) ⟨Z.heap.size, 0, none⟩ 1 1 [.slice (some ⟨g, 0, none⟩) K1.length gc] (by rfl) (by rfl) (World.news_of_block (cs := #[.slice (some ⟨g, 0, none⟩) K1.length gc]) (Blk.made _ _ _)) (by simp [Value.oneCell']) (by omega) (by unfold maxLen; omega) (by omega) (by simp; omega) (Z.heap.size + 1) (by simp) ?_
      intro gg cp w5 hown5 hgrow5 hat5 hlt5
      obtain ⟨J, SJ, hB5⟩ := I2.list hp hv0 hV ha hpx hxo hown5 hgrow5 (hat5.imp id (fun h => by omega))
      have s6 : w5.cell? ⟨w.heap.size, 0, none⟩ = some (.pointer (some ⟨p, 0, none⟩)) := (World.cell?_of_block (hgrow5.block w.heap.size (by simp; omega) (fun e => hvn e.symm))).trans s5
      have y6 : w5.cell? ⟨p, 0, none⟩ = some vo := hB5.cell 0
      have z6 := hB5.frozen 0
      refine hK.out _ _ s6 (fun _ => ?_)
      clear hK K
      refine wpAnyH_ready (rs := [7]) (by kernel_rfl) (by simp) ?_
      refine AllReadyH.cons rfl (fun K hK => ?_) AllReadyH.nil
      go_simp
      refine hK.out _ _ s6 (fun _ => ?_)
      clear hK K
      refine wpAnyH_ready (rs := [8]) (by kernel_rfl) (by simp) ?_
      refine AllReadyH.cons rfl (fun K hK => ?_) AllReadyH.nil
      go_simp
      refine hK.out _ _ (J.box.cell 0) (fun _ => ?_)
      clear hK K
      refine wpAnyH_done (by kernel_rfl) ?_ _
      have Q1 := kq_shy (B := W4.heap.size) (H := w.heap.size) SJ I2.size ⟨_, hbp, rfl⟩ (fun b e => own_obj hV.2.1 e) (fun k hk => ⟨by omega, hvon k (by omega) (by omega)⟩)
      have IKX := IKd.shy SJ (fun b' off' e => by cases e; exact hgp)
      obtain ⟨X, hX⟩ : ∃ X, X = w5.setCell ⟨p, 0, none⟩ (.slice (some ⟨gg, 0, none⟩) (R1.length + 1) cp) := ⟨_, rfl⟩
      rw [← hX] at J Q1 IKX ⊢
      clear hX SJ hB5 y6 z6 s6
      have JX := J.below (Below.refl X.heap.size X).drew
      have cX : X.drew.cell? ⟨w.heap.size + 1, 0, none⟩ = some v := JX.lv.cell 0
      have QX := kq_below (B := W4.heap.size) (H := w.heap.size) J.size (Below.refl X.heap.size X).drew
      gi_wp2_with fail
      refine wpIn_region_of (by kernel_rfl) (by kernel_rfl) (by rintro ⟨_, _, h⟩; exact h) (wpAny_of_held (S := fun _ => True) _ _ _ _ ?_)
      refine wpAnyH_take (i := 1) (v := .slice (some ⟨g, 0, none⟩) K1.length gc) rfl (by kernel_rfl) (by kernel_rfl) (by kernel_rfl) (fun _ _ _ h => h) (Or.inl ⟨by rfl, ?_⟩) trivial ?_
      · intro X hX
        go_simp
      simp only [Act.put]
      refine wpAnyH_ready (rs := [0, 2]) (by kernel_rfl) (by simp) ?_
      refine AllReadyH.cons rfl (fun K hK => ?_) (AllReadyH.cons rfl (fun K hK => ?_) AllReadyH.nil)
      -- the leaves are read first
      go_simp
      refine hK.out _ _ trivial (fun _ => ?_)
      clear hK K
      refine wpAnyH_ready (rs := [2]) (by kernel_rfl) (by simp) ?_
      refine AllReadyH.cons rfl (fun K hK => ?_) AllReadyH.nil
      go_simp
      go_at_call 29
      refine (HMD.out _ IKX.drew).mono ?_
      rintro e w6 ⟨rfl, hb6⟩
      go_simp
      refine hK.out _ _ trivial (fun _ => ?_)
      clear hK K
      refine wpAnyH_ready (rs := [3]) (by kernel_rfl) (by simp) ?_
      refine AllReadyH.cons rfl (fun K hK => ?_) AllReadyH.nil
      go_simp
      refine hK.out _ _ trivial (fun _ => ?_)
      clear hK K
      rotate_left
      -- the digest is made first
      go_simp
      go_at_call 29
      refine (HMD.out _ IKX.drew).mono ?_
      rintro e w6 ⟨rfl, hb6⟩
      have c6 : w6.cell? ⟨w.heap.size + 1, 0, none⟩ = some v := (JX.below hb6).lv.cell 0
      have c7 : (w6.alloc (.cells #[.int .u64 mk] 22)).cell? ⟨w.heap.size + 1, 0, none⟩ = some v := ((JX.below hb6).lv.alloc _).cell 0
      go_simp
      refine hK.out _ _ trivial (fun _ => ?_)
      clear hK K
      refine wpAnyH_ready (rs := [0, 3]) (by kernel_rfl) (by simp) ?_
      refine AllReadyH.cons rfl (fun K hK => ?_) (AllReadyH.cons rfl (fun K hK => ?_) AllReadyH.nil)
      go_simp
      refine hK.out _ _ trivial (fun _ => ?_)
      clear hK K
      refine wpAnyH_ready (rs := [3]) (by kernel_rfl) (by simp) ?_
      refine AllReadyH.cons rfl (fun K hK => ?_) AllReadyH.nil
      go_simp
      refine hK.out _ _ trivial (fun _ => ?_)
      clear hK K
      rotate_left
      go_simp
      refine hK.out _ _ trivial (fun _ => ?_)
      clear hK K
      refine wpAnyH_ready (rs := [0]) (by kernel_rfl) (by simp) ?_
      refine AllReadyH.cons rfl (fun K hK => ?_) AllReadyH.nil
      go_simp
      refine hK.out _ _ trivial (fun _ => ?_)
      clear hK K
      all_goals
        refine wpAnyH_ready (rs := [4]) (by kernel_rfl) (by simp) ?_
        refine AllReadyH.cons rfl (fun K hK => ?_) AllReadyH.nil
        have J6 := JX.below hb6
        refine step_append_lies _ (by rfl) _ _ _ (by rfl) (w.heap.size + 4) 22 i0 (.int .u64 0) 1 8 Try.underlying69 hi0 hz0 hz1 hz2 rfl (by omega) v L1.length (L1.map (.int .u64)) (by rfl) (by exact J6.own.alloc _) ⟨w6.heap.size, 0, none⟩ 1 1 [.int .u64 mk] (by rfl) (by rfl) (World.news_of_block (cs := #[.int .u64 mk]) (Blk.made _ _ _)) (by simp [Value.oneCell']) (by omega) (by unfold maxLen; omega) (by omega) (by have := J6.size; simp; omega) (w6.heap.size + 1) (by simp) ?_
        intro gl cl w7 hown7 hgrow7 hat7 hlt7
        obtain ⟨JL, SL, hB7⟩ := J6.leaf hown7 hgrow7 (hat7.imp id (fun h => by omega))
        have Q2 := kq_shy (B := W4.heap.size) (H := w.heap.size) SL J6.size ⟨_, J6.lv, rfl⟩ (fun b e => own_obj J6.own e) (fun k hk => ⟨by omega, fun e => by have := (J6.own.lt _ e).1; omega⟩)
        have y7 : w7.cell? ⟨w.heap.size + 1, 0, none⟩ = some v := hB7.cell 0
        have z7 := hB7.frozen 0
        have Q6 := kq_below (B := W4.heap.size) (H := w.heap.size) JX.size hb6
        refine hK.out _ _ trivial (fun _ => ?_)
        clear hK K
        refine wpAnyH_ready (rs := [5]) (by kernel_rfl) (by simp) ?_
        refine AllReadyH.cons rfl (fun K hK => ?_) AllReadyH.nil
        go_simp
        refine hK.out _ _ trivial (fun _ => ?_)
        clear hK K
        refine wpAnyH_done (by kernel_rfl) ?_ _
        have QA := kq_trans QW (kq_trans Q1 (kq_trans QX (kq_trans Q6 Q2)))
        refine ⟨QA.1, QA.2, .slice (some ⟨gl, 0, none⟩) (L1.length + 1) cl, .slice (some ⟨gg, 0, none⟩) (R1.length + 1) cp, ?_⟩
        rw [List.map_append, List.map_append, ← List.append_assoc, ← HR1.out, ← HL1.out, List.map_cons, List.map_cons, List.map_nil, List.map_nil]
        dsimp only
        rw [← HQ.out, ← HK1.out]
        have : ofI 4 q = mk := by rw [HMK.out, HK1.out]; rfl
        rw [this]
        exact JL
  case done =>
    rintro D zs W hD ⟨hcut, hle⟩ ⟨v, vo, hI⟩ hK
    rw [hs4] at hD
    rw [cut_rows hcut hle xs hx.len, cut_leaves hcut hle xs hx.len] at hI
    clear hcut hle
    have hll : (leavesI xs).length = (n + 3) / 4 := by rw [leavesI_length, hx.len]
    have hrr : (chunksR xs).length = (n + 3) / 4 := by rw [chunksR_length, hx.len]
    have HR := Lib.hid (show rows ++ toldR xs = (rows ++ chunksR xs ++ grownR ((n + 3) / 4) (leavesI xs)) ++ [[3, (n : Int), treeI (leavesI xs)]] by unfold toldR; rw [hx.len]; simp [List.append_assoc])
    have HT := Lib.hid (show rootI xs = pairI n (treeI (leavesI xs)) by unfold rootI; rw [hx.len])
    have hgl2 := grownR_length ((n + 3) / 4) (leavesI xs) (by omega) (by omega)
    obtain ⟨m4, hm4⟩ : ∃ m, m = (n + 3) / 4 := ⟨_, rfl⟩
    rw [← hm4] at hll hrr HR hgl2
    have hm4b : 1 ≤ m4 ∧ m4 ≤ 50 := by omega
    clear hm4
    have hown := hI.own
    rw [hll] at hown hgl2
    obtain ⟨gl, cl, rfl, _, _⟩ := hown.form (by omega)
    have IL := Ints.of_own hown hll
    have hcl := own_capT hown
    have hap := hI.out.apart
    have hglb := hI.own.lt gl rfl
    have htu := treeI_u64 (leavesI_u64 xs) (by omega)
    have HG := Lib.hid (fun W' (q : Ints .u64 W' (some ⟨gl, 0, none⟩) m4 (leavesI xs)) (hq : OutQ W' p (rows ++ chunksR xs) vo) => top_grown m4 (some ⟨gl, 0, none⟩) m4 cl (leavesI xs) p (rows ++ chunksR xs) vo W' (Nat.le_refl _) (by omega) hcl (by rw [List.length_append, hrr]; omega) q (fun b' off' e => by cases e; exact ⟨by omega, hap gl (.inr rfl)⟩) (leavesI_u64 xs) hq)
    obtain ⟨tq, htq⟩ : ∃ t, t = treeI (leavesI xs) := ⟨_, rfl⟩
    obtain ⟨r2, hr2⟩ : ∃ r, r = grownR m4 (leavesI xs) := ⟨_, rfl⟩
    obtain ⟨r1, hr1⟩ : ∃ r, r = rows ++ chunksR xs := ⟨_, rfl⟩
    have hr1l : r1.length ≤ 100 := by rw [hr1, List.length_append, hrr]; omega
    rw [← htq] at HG HR HT htu
    rw [← hr2] at HG HR hgl2
    rw [← hr1] at HG HR hI
    obtain ⟨R2, hR2⟩ : ∃ R, R = r1 ++ r2 := ⟨_, rfl⟩
    have hR2l : R2.length ≤ 200 := by rw [hR2, List.length_append]; omega
    rw [← hR2] at HG HR
    clear htq hr2 hr1 hrr hll hown hR2
    have HMD := Lib.hid (fun A c W (q : Ints .u64 W A 3 [3, (n : Int), tq]) (h3 : 3 ≤ c) => top_made A 3 c [3, (n : Int), tq] W q (.three (by omega) (by omega) htu) (by omega) (by omega) h3)
    rw [show madeI [3, (n : Int), tq] = pairI n tq from rfl, ← HT.out] at HMD
    have c0 : W.cell? ⟨w.heap.size, 0, none⟩ = some (.pointer (some ⟨p, 0, none⟩)) := hI.box.cell 0
    have c1 : W.cell? ⟨w.heap.size + 1, 0, none⟩ = some (.slice (some ⟨gl, 0, none⟩) m4 cl) := hI.lv.cell 0
    have hvon : ∀ k, w.heap.size ≤ k → k < w.heap.size + 4 → vo.ownBlock ≠ some k := fun k k1 k2 e => by
      rcases hI.ron with h1 | ⟨g', h1, h2⟩
      · have := hv0 _ (h1.symm.trans e); omega
      · rw [h1] at e; injection e with e; omega
    have hvD : vo.ownBlock ≠ some D := fun e => by
      obtain ⟨vs, ⟨_, ho, _⟩, _⟩ := hI.out
      obtain ⟨ob, h1, h2⟩ := own_obj ho e
      rw [hK] at h1; cases h1; cases h2
    have hDl := (Array.getElem?_eq_some_iff.1 hK).1
    have hWs := hI.size
    gi_wp2_with fail
    refine ⟨trivial, (callsIn_wide.2 (HG.out _ IL hI.out.q)).mono ?_⟩
    rintro e u1 ⟨v1, rfl, Q1, S1, R1⟩
    gi_wp2_with fail
    have hub := S1.size
    have cu : u1.cell? ⟨w.heap.size, 0, none⟩ = some (.pointer (some ⟨p, 0, none⟩)) := (S1.cell (a := ⟨w.heap.size, 0, none⟩) (show w.heap.size < W.heap.size by omega) (show w.heap.size ≠ p by omega) (hvon w.heap.size (Nat.le_refl _) (by omega))).trans c0
    have kD : u1.heap[D]? = some (.deferred (some [])) := (S1.block D hDl (by omega) hvD).trans hK
    have bX : Below u1.heap.size u1 (u1.alloc (.cells #[.int .u64 3, .int .u64 n, .int .u64 tq] 22)).drew := ((Below.refl _ _).alloc (Nat.le_refl _) _).drew
    have IK := (u64_three (a := 3) (b := (n : Int)) (c := tq) u1).drew
    have hnu : v1.ownBlock ≠ some u1.heap.size := fun e => by have := (Q1.row _ e).2; omega
    have QX := Q1.below bX
    have hv1n : v1.ownBlock ≠ some w.heap.size := fun e => by
      rcases R1 with h1 | ⟨g', h1, h2⟩
      · exact hvon w.heap.size (Nat.le_refl _) (by omega) (h1.symm.trans e)
      · rw [h1] at e; injection e with e; omega
    have hsX : u1.heap.size < (u1.alloc (.cells #[.int .u64 3, .int .u64 n, .int .u64 tq] 22)).drew.heap.size := by simp
    obtain ⟨Z, hZ⟩ : ∃ Z, Z = (u1.alloc (.cells #[.int .u64 3, .int .u64 n, .int .u64 tq] 22)).drew := ⟨_, rfl⟩
    rw [← hZ] at bX IK QX hsX
    have HZ := Lib.hid hZ
    clear hZ
    have hpK : PartQ Z p v1.ownBlock (.slice (some ⟨u1.heap.size, 0, none⟩) 3 3) [3, (n : Int), tq] := ⟨u1.heap.size, 3, rfl, IK, Nat.le_refl _, hnu, by omega, hsX⟩
    obtain ⟨vs, hBp, hoV, hpV⟩ := QX
    have s0 : Z.cell? ⟨w.heap.size, 0, none⟩ = some (.pointer (some ⟨p, 0, none⟩)) := (bX.cell (p := ⟨w.heap.size, 0, none⟩) (show w.heap.size < u1.heap.size by omega)).trans cu
    have y0 : Z.cell? ⟨p, 0, none⟩ = some v1 := hBp.cell 0
    have s5 : (Z.alloc (.cells #[.slice (some ⟨u1.heap.size, 0, none⟩) 3 3] 69)).cell? ⟨w.heap.size, 0, none⟩ = some (.pointer (some ⟨p, 0, none⟩)) := (World.cell?_alloc_some _ _ _ (by rw [s0]; rfl)).trans s0
    have y5 : (Z.alloc (.cells #[.slice (some ⟨u1.heap.size, 0, none⟩) 3 3] 69)).cell? ⟨p, 0, none⟩ = some v1 := (hBp.alloc _).cell 0
    have kZ : Z.heap[D]? = some (.deferred (some [])) := (bX.block D (by omega)).trans kD
    have hv1D : v1.ownBlock ≠ some D := fun e => by
      obtain ⟨ob, h1, h2⟩ := own_obj hoV e
      rw [kZ] at h1; cases h1; cases h2
    have hzs := bX.size
    refine wpIn_wide.2 (wp_region_noPanic (wp_region_held (S := fun X => X.cell? ⟨w.heap.size, 0, none⟩ = some (.pointer (some ⟨p, 0, none⟩))) (by kernel_rfl) ?_))
    show wpAnyH _ _ _ _ _ _ _ _ (World.drew _)
    rw [← HZ.out]
    refine wpAnyH_take (i := 0) (v := .pointer (some ⟨p, 0, none⟩)) rfl (by kernel_rfl) (by kernel_rfl) (by kernel_rfl) (fun _ _ _ h => h) (Or.inl ⟨by rfl, ?_⟩) s0 ?_
    · intro X hX
      go_simp
    simp only [Act.put]
    refine wpAnyH_take (i := 1) (v := .pointer (some ⟨p, 0, none⟩)) rfl (by kernel_rfl) (by kernel_rfl) (by kernel_rfl) (fun _ _ _ h => h) (Or.inl ⟨by rfl, ?_⟩) s0 ?_
    · intro X hX
      go_simp
    simp only [Act.put]
    refine wpAnyH_take (i := 2) (v := .pointer (some ⟨p, 0, none⟩)) rfl (by kernel_rfl) (by kernel_rfl) (by kernel_rfl) (fun _ _ _ h => h) (Or.inl ⟨by rfl, ?_⟩) s0 ?_
    · intro X hX
      go_simp
    simp only [Act.put]
    refine wpAnyH_take (i := 4) (v := .slice (some ⟨u1.heap.size, 0, none⟩) 3 3) rfl (by kernel_rfl) (by kernel_rfl) (by kernel_rfl) (fun _ _ _ h => h) (Or.inl ⟨by rfl, ?_⟩) s0 ?_
    · intro X hX
      go_simp
    simp only [Act.put]
    refine wpAnyH_ready (rs := [3, 5]) (by kernel_rfl) (by simp) ?_
    refine AllReadyH.cons rfl (fun K hK => ?_) (AllReadyH.cons rfl (fun K hK => ?_) AllReadyH.nil)
    go_simp
    refine hK.out _ _ s0 (fun _ => ?_)
    clear hK K
    refine wpAnyH_ready (rs := [5]) (by kernel_rfl) (by simp) ?_
    refine AllReadyH.cons rfl (fun K hK => ?_) AllReadyH.nil
    go_simp
    refine hK.out _ _ s5 (fun _ => ?_)
    clear hK K
    rotate_left
    go_simp
    refine hK.out _ _ s5 (fun _ => ?_)
    clear hK K
    refine wpAnyH_ready (rs := [3]) (by kernel_rfl) (by simp) ?_
    refine AllReadyH.cons rfl (fun K hK => ?_) AllReadyH.nil
    go_simp
    refine hK.out _ _ s5 (fun _ => ?_)
    clear hK K
    all_goals
      refine wpAnyH_ready (rs := [6]) (by kernel_rfl) (by simp) ?_
      refine AllReadyH.cons rfl (fun K hK => ?_) AllReadyH.nil
      refine step_append_lies _ (by rfl) _ _ _ (by rfl) (p + 1) 69 l0 (.slice none 0 0) 1 24 Try.underlying65 hl0 lz0 lz1 lz2 rfl (by omega) v1 R2.length vs (by rfl) (by exact hoV.alloc _) ⟨Z.heap.size, 0, none⟩ 1 1 [.slice (some ⟨u1.heap.size, 0, none⟩) 3 3] (by rfl) (by rfl) (World.news_of_block (cs := #[.slice (some ⟨u1.heap.size, 0, none⟩) 3 3]) (Blk.made _ _ _)) (by simp [Value.oneCell']) (by omega) (by unfold maxLen; omega) (by omega) (by simp; omega) (Z.heap.size + 1) (by simp) ?_
      intro gg cp w5 hown5 hgrow5 hat5 hlt5
      obtain ⟨QF, SF, RF, hB5⟩ := OutQ.push hBp hoV hpV hpK hown5 hgrow5 (hat5.imp id (fun h => by omega))
      have s6 : w5.cell? ⟨w.heap.size, 0, none⟩ = some (.pointer (some ⟨p, 0, none⟩)) := (World.cell?_of_block (hgrow5.block w.heap.size (by simp; omega) (fun e => hv1n e.symm))).trans s5
      have y6 : w5.cell? ⟨p, 0, none⟩ = some v1 := hB5.cell 0
      have z6 := hB5.frozen 0
      have s8 : (w5.setCell ⟨p, 0, none⟩ (.slice (some ⟨gg, 0, none⟩) (R2.length + 1) cp)).cell? ⟨w.heap.size, 0, none⟩ = some (.pointer (some ⟨p, 0, none⟩)) := (SF.cell (a := ⟨w.heap.size, 0, none⟩) (show w.heap.size < Z.heap.size by omega) (show w.heap.size ≠ p by omega) hv1n).trans s0
      have kF := (SF.block D (by omega) (by omega) hv1D).trans kZ
      have IKF := IK.shy SF (fun b' off' e => by cases e; exact ⟨by omega, hnu⟩)
      refine hK.out _ _ s6 (fun _ => ?_)
      clear hK K
      refine wpAnyH_ready (rs := [7]) (by kernel_rfl) (by simp) ?_
      refine AllReadyH.cons rfl (fun K hK => ?_) AllReadyH.nil
      go_simp
      refine hK.out _ _ s6 (fun _ => ?_)
      clear hK K
      refine wpAnyH_ready (rs := [8]) (by kernel_rfl) (by simp) ?_
      refine AllReadyH.cons rfl (fun K hK => ?_) AllReadyH.nil
      go_simp
      refine hK.out _ _ s8 (fun _ => ?_)
      clear hK K
      refine wpAnyH_done (by kernel_rfl) (NoPanic.normal ?_) _
      gi_wp2_with fail
      refine ⟨trivial, (callsIn_wide.2 (HMD.out _ _ _ IKF (Nat.le_refl _))).mono ?_⟩
      rintro e uF ⟨rfl, hbF⟩
      gi_wp2
      have kFF := (hbF.block D (by have := SF.size; omega)).trans kF
      refine ⟨by simp, .inl ⟨_, _, rfl, run_takeDeferred kFF, ?_⟩⟩
      have hRR : RowOn v0.ownBlock (some gg) w.heap.size := ((RowOn.lift hI.ron (by omega)).trans R1 (by omega)).trans RF (by omega)
      have hSS : Shy p v0.ownBlock w uF := (((hI.shy.trans S1 (RowOn.lift hI.ron (by omega))).below bX).trans SF ((RowOn.lift hI.ron (by omega)).trans R1 (by omega))).below hbF
      refine ⟨_, results_tmp rfl _ _ _, .slice (some ⟨gg, 0, none⟩) (R2.length + 1) cp, rfl, ?_, hSS.putD _ (by omega), hRR⟩
      rw [HR.out]
      exact (QF.below hbF).putD _ kFF rfl
  case stop =>
    rintro D c pre W _ _ h _
    exact h.elim
end Go.Proofs.Ytblkpibbcapdeaa

/- coachtop.twoRoots: the walk. -/
namespace Go.Proofs.Ytblkpibbcapdeaa
open Go.RowKit Pl

theorem grownR_rows : ∀ (f : Nat) (l : List Int), l.length ≤ f → 1 ≤ l.length → U64 l → ∀ r ∈ grownR f l, r.length = 3 ∧ U64 r
  | 0, l, h, h1, _ => by omega
  | f + 1, l, h, h1, hu => by
    intro r hr
    by_cases h2 : l.length ≤ 1
    · rw [grownR_one h2] at hr
      cases hr
    · have a := half_pos l.length
      have b := half_lt (n := l.length) (by omega)
      rw [grownR_more (by omega), List.mem_append, List.mem_append] at hr
      rcases hr with (hr | hr) | hr
      · exact grownR_rows f _ (by rw [List.length_take]; omega) (by rw [List.length_take]; omega) (hu.take _) r hr
      · exact grownR_rows f _ (by rw [List.length_drop]; omega) (by rw [List.length_drop]; omega) (hu.drop _) r hr
      · rw [List.mem_singleton] at hr
        subst hr
        exact ⟨rfl, .three (by omega) (treeI_u64 (hu.take _) (by rw [List.length_take]; omega)) (treeI_u64 (hu.drop _) (by rw [List.length_drop]; omega))⟩
theorem toldR_rows {xs : List Int} (h1 : 1 ≤ xs.length) (h2 : xs.length ≤ 200) : ∀ r ∈ toldR xs, (2 ≤ r.length ∧ r.length ≤ 5) ∧ U64 r := by
  intro r hr
  unfold toldR at hr
  rw [List.mem_append, List.mem_append] at hr
  rcases hr with (hr | hr) | hr
  · unfold chunksR upto at hr
    rw [List.mem_map] at hr
    obtain ⟨j, hj, rfl⟩ := hr
    rw [List.mem_range] at hj
    refine ⟨?_, .cons (by omega) (by omega) (numL_u64 _)⟩
    rw [List.length_cons, numL_length, List.length_take, List.length_drop]
    omega
  · have := grownR_rows _ _ (by rw [leavesI_length]; omega) (by rw [leavesI_length]; omega) (leavesI_u64 xs) r hr
    exact ⟨by omega, this.2⟩
  · rw [List.mem_singleton] at hr
    subst hr
    exact ⟨⟨by simp, by simp⟩, .three (by omega) (by omega) (treeI_u64 (leavesI_u64 xs) (by rw [leavesI_length]; omega))⟩
/-- Row j of what is told. -/
def rowT (xs : List Int) (j : Nat) : List Int := (toldR xs)[j]?.getD []
theorem rowT_ok {xs : List Int} (h1 : 1 ≤ xs.length) (h2 : xs.length ≤ 200) {j : Nat} (hj : j < (toldR xs).length) : (2 ≤ (rowT xs j).length ∧ (rowT xs j).length ≤ 5) ∧ U64 (rowT xs j) := by
  have e : rowT xs j = (toldR xs)[j] := by unfold rowT; rw [List.getElem?_eq_getElem hj]; rfl
  rw [e]
  exact toldR_rows h1 h2 _ (List.getElem_mem hj)
theorem told_wants {xs ys : List Int} (hl : xs.length = ys.length) (h1 : 1 ≤ xs.length) (ox : okL xs = true) (oy : okL ys = true) (hne : xs ≠ ys) (hr : rootI xs = rootI ys) (hall : ∀ j, j < (toldR xs).length → rowT xs j ≠ rowT ys j → madeI (rowT xs j) ≠ madeI (rowT ys j)) : False := by
  have h := told_binds hl h1 ox oy hne hr
  rw [collZ_false (fun i a b ha hb hne => ?_)] at h
  · cases h
  · have := hall i (List.getElem?_eq_some_iff.1 ha).1
    unfold rowT at this
    rw [ha, hb] at this
    exact this hne

/-- Another box, of a slice, has been changed. -/
theorem OutQ.other {w w' : World} {p q : Nat} {rows : List (List Int)} {v : Value} {t : TypeId} {A : Option Addr} {n c : Nat} (h : OutQ w p rows v) (hS : Shy q none w w') (hq : Blk w q t #[.slice A n c]) (hne : p ≠ q) (hv : v.ownBlock ≠ some q) (hr : ∀ r ∈ rows, 1 ≤ r.length) : OutQ w' p rows v := by
  obtain ⟨vs, hB, ho, hp⟩ := h
  refine ⟨vs, (hS.block p hB.lt hne (by simp)).trans hB, own_keep ho (fun k e => hS.block k (ho.lt k e).2 (fun e' => hv (e' ▸ e)) (by simp)), fun j hj => (hp j hj).keep hS.size (fun b e ob h1 h2 => hS.block b (Array.getElem?_eq_some_iff.1 h1).1 (fun e' => ?_) (by simp))⟩
  subst e'
  obtain ⟨b', s, hb, hi, _⟩ := hp j hj
  have h3 := hr (rows[j]?.getD []) (by rw [List.getElem?_eq_getElem hj]; exact List.getElem_mem hj)
  obtain ⟨b2, off, e2, _, hc⟩ := hi.cells h3
  rw [hb] at e
  cases e
  cases e2
  have c0 := hc 0 h3
  rw [Nat.zero_add, hq.cell 0] at c0
  cases c0
/-- Row j: its cell, and its numbers. -/
theorem OutQ.at {w : World} {p : Nat} {rows : List (List Int)} {v : Value} (h : OutQ w p rows v) (h0 : 0 < rows.length) : ∃ g cap, v = .slice (some ⟨g, 0, none⟩) rows.length cap ∧ Blk w p 65 #[v] ∧ g < w.heap.size ∧ ∀ j, j < rows.length → ∃ b s, w.cell? ⟨g, j, none⟩ = some (.slice (some ⟨b, 0, none⟩) (rows[j]?.getD []).length s) ∧ Ints .u64 w (some ⟨b, 0, none⟩) (rows[j]?.getD []).length (rows[j]?.getD []) ∧ (rows[j]?.getD []).length ≤ s ∧ b < w.heap.size := by
  obtain ⟨vs, hB, ho, hp⟩ := h
  have hl := ho.1
  obtain ⟨g, cap, rfl, _, hg⟩ := ho.form h0
  refine ⟨g, cap, rfl, hB, hg, fun j hj => ?_⟩
  obtain ⟨b, s, e, hi, hs, _, _, hb⟩ := hp j hj
  refine ⟨b, s, ?_, hi, hs, hb⟩
  have hc := ho.cellAt j (by omega)
  rw [List.getElem?_eq_getElem (by omega), Option.getD_some] at e
  rw [hc, ← e, List.getElem?_eq_getElem (by omega)]
end Go.Proofs.Ytblkpibbcapdeaa

/- coachtop.twoRoots: the walk. -/
namespace Go.Proofs.Ytblkpibbcapdeaa
open Go.RowKit Pl

set_option maxRecDepth 100000 in
set_option maxHeartbeats 4000000 in
/-- Two unlike states of one root: somewhere unlike lists make the same. -/
theorem top_twoRoots (A1 A2 B1 B2 : Option Addr) (n1 n2 m1 m2 c1 c2 d1 d2 N : Nat) (a1 a2 b1 b2 : List Int) (w : World) (i1 : Ints .i64 w A1 n1 a1) (i2 : Ints .i64 w A2 n2 a2) (j1 : Ints .i64 w B1 m1 b1) (j2 : Ints .i64 w B2 m2 b2) (h1 : n1 + n2 = N) (h2 : m1 + m2 = N) (hN1 : 1 ≤ N) (hN2 : N ≤ 200)
    (oa : okL (a1 ++ a2) = true) (ob : okL (b1 ++ b2) = true) (hne : a1 ++ a2 ≠ b1 ++ b2) (hr : rootI (a1 ++ a2) = rootI (b1 ++ b2)) :
    Calls Try.prog 14 #[.agg #[.slice A1 n1 c1, .slice A2 n2 c2], .agg #[.slice B1 m1 d1, .slice B2 m2 d2]] w fun e w' => e = .returned (.bool true) ∧ Below w.heap.size w w' := by
  have bw : Below w.heap.size w ((w.alloc (.cells #[.slice A1 n1 c1, .slice A2 n2 c2] 28)).alloc (.cells #[.slice B1 m1 d1, .slice B2 m2 d2] 28)) := (by repeat (first | exact Below.refl _ _ | assumption | refine bel_drewN ?_ _ | refine Below.drew ?_ | (refine Below.alloc ?_ (by simp <;> omega) _) | (refine Below.setCell ?_ (by simp <;> omega) _)))
  have HB := Blk.made' (w.alloc (.cells #[.slice A1 n1 c1, .slice A2 n2 c2] 28)) 28 #[.slice B1 m1 d1, .slice B2 m2 d2] (g := w.heap.size + 1) (by simp)
  have hs2 : ((w.alloc (.cells #[.slice A1 n1 c1, .slice A2 n2 c2] 28)).alloc (.cells #[.slice B1 m1 d1, .slice B2 m2 d2] 28)).heap.size = w.heap.size + 2 := by simp
  have HS2 := Lib.hid hs2
  have la : (a1 ++ a2).length = N := by rw [List.length_append, i1.len, i2.len, h1]
  have lb : (b1 ++ b2).length = N := by rw [List.length_append, j1.len, j2.len, h2]
  have HCA := Lib.hid (fun W (h : Below w.heap.size w W) g k (hg : W.heap.size = g) => cat_fine A1 A2 n1 c1 n2 c2 a1 a2 W (i1.below h) (i2.below h) (by omega) g k hg N h1)
  have HCB := Lib.hid (fun W (h : Below w.heap.size w W) g k (hg : W.heap.size = g) => cat_fine B1 B2 m1 d1 m2 d2 b1 b2 W (j1.below h) (j2.below h) (by omega) g k hg N h2)
  obtain ⟨x, hx⟩ : ∃ x, x = a1 ++ a2 := ⟨_, rfl⟩
  obtain ⟨y, hy⟩ : ∃ y, y = b1 ++ b2 := ⟨_, rfl⟩
  rw [← hx] at la oa hne hr HCA
  rw [← hy] at lb ob hne hr HCB
  have HW := Lib.hid (told_wants (la.trans lb.symm) (by omega) oa ob hne hr)
  have lx : (toldR x).length = 2 * ((N + 3) / 4) := by rw [toldR_length (by omega), la]
  have ly : (toldR y).length = 2 * ((N + 3) / 4) := by rw [toldR_length (by omega), lb]
  have HXR := Lib.hid (fun j (h : j < (toldR x).length) => rowT_ok (xs := x) (by omega) (by omega) h)
  have HYR := Lib.hid (fun j (h : j < (toldR y).length) => rowT_ok (xs := y) (by omega) (by omega) h)
  have HXW := Lib.hid (toldR_rows (xs := x) (by omega) (by omega))
  have HT : ∀ (z : List Int), z.length = N → ∀ (A : Option Addr) (s : Nat) (p : Nat) (W : World), Ints .i64 W A N z → N ≤ s → (∀ b off, A = some ⟨b, off, none⟩ → b ≠ p) → Blk W p 65 #[.slice none 0 0] → Calls Try.prog 27 #[.slice A N s, .pointer (some ⟨p, 0, none⟩)] W fun e w' => ∃ v', e = .returned (.int .u64 (rootI z)) ∧ OutQ w' p (toldR z) v' ∧ Shy p none W w' ∧ RowOn none v'.ownBlock W.heap.size := fun z _ A s p W q hs hA hB => by
    have h := top_told A N s z p [] (.slice none 0 0) W q hN1 hN2 hs (by simp) (fun b off e => ⟨hA b off e, by simp [Value.ownBlock]⟩) ⟨[], hB, World.ownsRow_nil _ _ _ _, fun j hj => absurd hj (by simp)⟩
    rw [List.nil_append] at h
    exact h
  have HT' := Lib.hid HT
  obtain ⟨M, hM⟩ : ∃ M, M = 2 * ((N + 3) / 4) := ⟨_, rfl⟩
  rw [← hM] at lx ly
  have hMb : 1 ≤ M ∧ M ≤ 102 := by omega
  clear hM i1 i2 j1 j2 h1 h2 oa ob hne HT hx hy hs2
  go_enter Try.func14, Try.ntmps14
  go_wp2_with fail
  refine (HCA.out _ bw _ _ (by simp)).mono ?_
  rintro e w1 ⟨X, sx, rfl, I1, hsx, hb1⟩
  have bw0 : Below w.heap.size w (((w.alloc (.cells #[.slice A1 n1 c1, .slice A2 n2 c2] 28)).alloc (.cells #[.slice B1 m1 d1, .slice B2 m2 d2] 28)).alloc (.cells #[.slice A1 n1 c1, .slice A2 n2 c2] 26)) := bw.alloc (by rw [HS2.out]; omega) _
  have bw1 : Below w.heap.size w w1 := bw0.trans (hb1.mono bw0.size)
  have HB1 := (HB.alloc (.cells #[.slice A1 n1 c1, .slice A2 n2 c2] 26)).below hb1 (by simp)
  have q0 := HB1.cell 0
  have q1 := HB1.cell 1
  have hw1 : w.heap.size + 3 ≤ w1.heap.size := by have := hb1.size; simpa using this
  clear HB
  go_wp2_with fail
  refine (HCB.out _ bw1 _ _ rfl).mono ?_
  rintro e w2 ⟨Y, sy, rfl, I2, hsy, hb2⟩
  have b12 : Below w1.heap.size w1 w2 := Below.trans ((Below.refl _ _).alloc (Nat.le_refl _) _) (hb2.mono (by simp))
  have bw2 := bw1.trans (b12.mono bw1.size)
  have I1' := I1.below b12
  clear hb1 hb2 I1 b12 bw0 bw1 q0 q1 HB1 HCA HCB HS2
  have nX : ∀ b off, X = some ⟨b, off, none⟩ → b < w2.heap.size := fun b off e => by
    obtain ⟨b', off', e', hb', _⟩ := I1'.cells (by omega)
    rw [e] at e'; cases e'; exact hb'
  have nY : ∀ b off, Y = some ⟨b, off, none⟩ → b < w2.heap.size := fun b off e => by
    obtain ⟨b', off', e', hb', _⟩ := I2.cells (by omega)
    rw [e] at e'; cases e'; exact hb'
  obtain ⟨W, hW⟩ : ∃ W, W = (w2.alloc (.cells #[.slice none 0 0] 65)).alloc (.cells #[.slice none 0 0] 65) := ⟨_, rfl⟩
  have BA : Blk W w2.heap.size 65 #[.slice none 0 0] := by rw [hW]; exact (Blk.made _ _ _).alloc _
  have BB : Blk W (w2.heap.size + 1) 65 #[.slice none 0 0] := by rw [hW]; exact Blk.made' _ _ _ (by simp)
  have b2W : Below w2.heap.size w2 W := by rw [hW]; exact ((Below.refl _ _).alloc (Nat.le_refl _) _).alloc (by simp) _
  have hWs : W.heap.size = w2.heap.size + 2 := by rw [hW]; simp
  have HWx := Lib.hid hW
  clear hW
  have IX := I1'.below b2W
  have IY := I2.below b2W
  have bW := bw2.trans (b2W.mono bw2.size)
  have hw2 := bw2.size
  clear I1' I2 b2W
  go_wp2_with fail
  rw [← HWx.out]
  refine (HT'.out x la X sx w2.heap.size W IX hsx (fun b off e => Nat.ne_of_lt (nX b off e)) BA).mono ?_
  rintro e u1 ⟨va, rfl, QA, SA, RA⟩
  have BB1 : Blk u1 (w2.heap.size + 1) 65 #[.slice none 0 0] := SA.blk BB (by omega) (by simp)
  have IY1 := IY.shy SA (fun b off e => ⟨Nat.ne_of_lt (nY b off e), by simp⟩)
  have hu1 := SA.size
  go_wp2_with fail
  refine (HT'.out y lb Y sy (w2.heap.size + 1) u1 IY1 hsy (fun b off e => by have := nY b off e; omega) BB1).mono ?_
  rintro e u2 ⟨vb, rfl, QB, SB, RB⟩
  have QA2 := QA.other SB BB1 (by omega) (fun e => by
    rcases RA with h1 | ⟨g', h1, h2⟩
    · rw [h1] at e; cases e
    · rw [h1] at e; injection e with e; omega) (fun r hr => by have := (HXW.out r hr).1; omega)
  have hu2 := SB.size
  have bu2 : Below w.heap.size w u2 := ⟨SB.os.trans (SA.os.trans bW.os), SB.tape.trans (SA.tape.trans bW.tape), SB.output.trans (SA.output.trans bW.output), by omega, fun k hk => (SB.block k (by omega) (by omega) (by simp)).trans ((SA.block k (by omega) (by omega) (by simp)).trans (bW.block k hk))⟩
  clear QA SA SB RA RB BB1 IY1 IX IY BA BB bW HT' nX nY hsx hsy HWx
  clear hr
  obtain ⟨ga, sa, rfl, BA, hga, hrA⟩ := QA2.at (by omega)
  obtain ⟨gb, sb, rfl, BB, hgb, hrB⟩ := QB.at (by omega)
  have HA := Lib.hid (fun (W : World) (h : Below u2.heap.size u2 W) j (hj : j < M) => show ∃ b s, W.cell? ⟨ga, j, none⟩ = some (.slice (some ⟨b, 0, none⟩) (rowT x j).length s) ∧ Ints .u64 W (some ⟨b, 0, none⟩) (rowT x j).length (rowT x j) ∧ (rowT x j).length ≤ s from by
    obtain ⟨b, s, q1, q2, q3, _⟩ := hrA j (by omega)
    exact ⟨b, s, (h.cell (p := ⟨ga, j, none⟩) hga).trans q1, q2.below h, q3⟩)
  have HB := Lib.hid (fun (W : World) (h : Below u2.heap.size u2 W) j (hj : j < M) => show ∃ b s, W.cell? ⟨gb, j, none⟩ = some (.slice (some ⟨b, 0, none⟩) (rowT y j).length s) ∧ Ints .u64 W (some ⟨b, 0, none⟩) (rowT y j).length (rowT y j) ∧ (rowT y j).length ≤ s from by
    obtain ⟨b, s, q1, q2, q3, _⟩ := hrB j (by omega)
    exact ⟨b, s, (h.cell (p := ⟨gb, j, none⟩) hgb).trans q1, q2.below h, q3⟩)
  rw [lx] at BA HW HXR
  rw [ly] at BB HYR
  obtain ⟨ra, hra⟩ : ∃ ra, ra = rowT x := ⟨_, rfl⟩
  obtain ⟨rb, hrb⟩ : ∃ rb, rb = rowT y := ⟨_, rfl⟩
  rw [← hra] at HA HXR HW
  rw [← hrb] at HB HYR HW
  have yA := BA.cell 0
  have yB := BB.cell 0
  have M1 : (0 : Int) < (M : Int) := by omega
  have M2 : 0 < M := by omega
  have M3 : ¬ M = 0 := by omega
  clear hra hrb hrA hrB lx ly la lb HXW QA2 QB hu1 hWs hw2 hw1
  go_wp2
  go_loopw [11, 40] (fun _ j wr => ∃ r : Nat, r ≤ M ∧ j = .int .i64 r ∧ (∀ i, i < r → ra i ≠ rb i → madeI (ra i) ≠ madeI (rb i)) ∧ Below u2.heap.size u2 wr) (fun _ j _ => M - (intOf j).toNat)
  case atStart => exact ⟨0, by omega, rfl, fun i hi => absurd hi (by omega), Below.refl _ _⟩
  case round =>
    obtain ⟨r, hrM, rfl, hall, hbr⟩ := hrel
    have HALL := Lib.hid hall
    clear hall
    by_cases hlt : r < M
    · obtain ⟨a0, s0, c0, I0, l0⟩ := HA.out _ hbr r hlt
      obtain ⟨a1, s1, c1, I1, l1⟩ := HB.out _ hbr r hlt
      have z0 := (HXR.out r hlt).1
      have z1 := (HYR.out r hlt).1
      have k0 : (0 : Int) ≤ (r : Int) := by omega
      have k1 : (r : Int) < (M : Int) := by omega
      have e0 := (hbr.cell (p := ⟨w2.heap.size, 0, none⟩) BA.lt).trans yA
      have e1 := (hbr.cell (p := ⟨w2.heap.size + 1, 0, none⟩) BB.lt).trans yB
      have hga' : ga < wr.heap.size := Nat.lt_of_lt_of_le hga hbr.size
      have hgb' : gb < wr.heap.size := Nat.lt_of_lt_of_le hgb hbr.size
      have hpa' : w2.heap.size < wr.heap.size := Nat.lt_of_lt_of_le BA.lt hbr.size
      have hpb' : w2.heap.size + 1 < wr.heap.size := Nat.lt_of_lt_of_le BB.lt hbr.size
      by_cases h1 : ra r = rb r
      · have HEQ := Lib.hid (fun W (h1' : Ints .u64 W (some ⟨a0, 0, none⟩) (ra r).length (ra r)) (h2 : Ints .u64 W (some ⟨a1, 0, none⟩) (rb r).length (rb r)) => equalU_told (c := s0) (d := s1) (decide_eq_true h1) h1' h2 (by omega))
        have H1 := Lib.hid h1
        clear h1
        go_wp2_with fail
        go_quiet ((go_at_call 28; exact Calls.quiet_of (HEQ.out _ (I0.drewN _) (I1.drewN _))))
        go_wp2
        go_roundw
        case rel =>
          refine ⟨r + 1, by omega, by go_num, fun i hi hn => ?_, bel_trans hbr (drewN_below _)⟩
          by_cases hir : i = r
          · subst hir; exact absurd H1.out hn
          · exact HALL.out i (by omega) hn
        case measure => simp [intOf]; omega
      · have HEQ := Lib.hid (fun W (h1' : Ints .u64 W (some ⟨a0, 0, none⟩) (ra r).length (ra r)) (h2 : Ints .u64 W (some ⟨a1, 0, none⟩) (rb r).length (rb r)) => equalU_told (c := s0) (d := s1) (decide_eq_false h1) h1' h2 (by omega))
        have HMA := Lib.hid (fun W (q' : Ints .u64 W (some ⟨a0, 0, none⟩) (ra r).length (ra r)) => top_made _ _ s0 (ra r) W q' (HXR.out r hlt).2 z0.1 (by omega) l0)
        have HMB := Lib.hid (fun W (q' : Ints .u64 W (some ⟨a1, 0, none⟩) (rb r).length (rb r)) => top_made _ _ s1 (rb r) W q' (HYR.out r hlt).2 z1.1 (by omega) l1)
        have H1 := Lib.hid h1
        clear h1
        obtain ⟨mx, hmx⟩ : ∃ mx, mx = madeI (ra r) := ⟨_, rfl⟩
        obtain ⟨my, hmy⟩ : ∃ my, my = madeI (rb r) := ⟨_, rfl⟩
        rw [← hmx] at HMA
        rw [← hmy] at HMB
        have MX := Lib.hid hmx
        have MY := Lib.hid hmy
        clear hmx hmy
        go_wp2_with fail
        go_region_held3 (fun W => W.cell? ⟨w2.heap.size, 0, none⟩ = some (.slice (some ⟨ga, 0, none⟩) M sa) ∧ W.cell? ⟨w2.heap.size + 1, 0, none⟩ = some (.slice (some ⟨gb, 0, none⟩) M sb) ∧ W.cell? ⟨ga, r, none⟩ = some (.slice (some ⟨a0, 0, none⟩) (ra r).length s0) ∧ W.cell? ⟨gb, r, none⟩ = some (.slice (some ⟨a1, 0, none⟩) (rb r).length s1)) (first | (with_reducible exact ⟨e0, e1, c0, c1⟩) | (with_reducible exact ⟨x0, x1, y0, y1⟩) | (with_reducible exact ⟨x2, x3, y2, y3⟩) | (with_reducible exact ⟨x4, x5, y4, y5⟩) | go_keep) (first
          | (go_at_call 28; (with_reducible refine (HEQ.out _ (I0.drew) (I1.drew)).mono ?_); rintro e u2 ⟨rfl, hq1⟩; have x0 := (hq1.cell ⟨w2.heap.size, 0, none⟩).trans e0; have x1 := (hq1.cell ⟨w2.heap.size + 1, 0, none⟩).trans e1; have y0 := (hq1.cell ⟨ga, r, none⟩).trans c0; have y1 := (hq1.cell ⟨gb, r, none⟩).trans c1; have hq6 : Below wr.heap.size wr u2 := Quiet.after ((Below.refl _ _).drew) hq1)
          | (go_at_call 29; (with_reducible refine (HMA.out _ (I0.below hq6)).mono ?_); rintro e u3 ⟨rfl, hb7⟩; have hq7 := bel_trans hq6 hb7; have x2 := (hq7.cell (p := ⟨w2.heap.size, 0, none⟩) hpa').trans e0; have x3 := (hq7.cell (p := ⟨w2.heap.size + 1, 0, none⟩) hpb').trans e1; have y2 := (hq7.cell (p := ⟨ga, r, none⟩) hga').trans c0; have y3 := (hq7.cell (p := ⟨gb, r, none⟩) hgb').trans c1)
          | (go_at_call 29; (with_reducible refine (HMB.out _ (I1.below hq7)).mono ?_); rintro e u4 ⟨rfl, hb8⟩; have hq8 := bel_trans hq7 hb8; have x4 := (hq8.cell (p := ⟨w2.heap.size, 0, none⟩) hpa').trans e0; have x5 := (hq8.cell (p := ⟨w2.heap.size + 1, 0, none⟩) hpb').trans e1; have y4 := (hq8.cell (p := ⟨ga, r, none⟩) hga').trans c0; have y5 := (hq8.cell (p := ⟨gb, r, none⟩) hgb').trans c1)
          | fail)
        have hb15' := bel_trans bu2 (bel_trans hbr hq8)
        by_cases hm : mx = my
        · have tm : (mx == my) = true := beq_iff_eq.2 hm
          go_wp2
          go_ret
          exact ⟨rfl, hb15'⟩
        · have tm : (mx == my) = false := beq_eq_false_iff_ne.2 hm
          have HM := Lib.hid hm
          clear hm
          go_wp2
          go_roundw
          case rel =>
            refine ⟨r + 1, by omega, by go_num, fun i hi hn => ?_, bel_trans hbr hq8⟩
            by_cases hir : i = r
            · subst hir; rw [← MX.out, ← MY.out]; exact HM.out
            · exact HALL.out i (by omega) hn
          case measure => simp [intOf]; omega
    · obtain rfl : M = r := by omega
      exact (HW.out HALL.out).elim
end Go.Proofs.Ytblkpibbcapdeaa

/- What a state that holds for a step, and whose record is not the course's, comes to. -/
namespace Go.Proofs.Ytblkpibbcapdeaa
open Go.RowKit Pl

theorem replays_other {c : Cfg} {ds : Data} {s : List Int × List Int} {k : Nat} {x : Int} {r : Rec} (hh : holdsB c ds s k x r = true) (hl : likeR r (recC c ds k) = false) : s ≠ states c ds k := by
  rintro rfl
  unfold holdsB at hh
  simp only [Bool.and_eq_true, beq_iff_eq, decide_eq_true_eq] at hh
  obtain ⟨⟨⟨⟨_, h1⟩, h2⟩, h3⟩, h4⟩ := hh
  rw [← states_succ] at h4
  have : likeR r (recC c ds k) = true := by
    unfold likeR recC recB
    simp [h1, h2, h3, h4]
  rw [this] at hl
  cases hl
theorem replays_root {c : Cfg} {ds : Data} {s : List Int × List Int} {k : Nat} {x : Int} {r : Rec} (hh : holdsB c ds s k x r = true) (h0 : 0 ≤ x) (h1 : x < 2305843009213693951) : rootS s = x := by
  unfold holdsB at hh
  simp only [Bool.and_eq_true, beq_iff_eq, decide_eq_true_eq] at hh
  rw [hh.1.1.1.1]
  omega
theorem sameS_ne {s t : List Int × List Int} (h : s ≠ t) : sameS s t = false := by
  unfold sameS
  rw [Bool.and_eq_false_iff, decide_eq_false_iff_not, decide_eq_false_iff_not]
  rcases s with ⟨a, b⟩
  rcases t with ⟨a', b'⟩
  by_cases e : a = a'
  · right
    rintro rfl
    exact h (by rw [e])
  · exact .inl e
theorem cat_ne {a b a' b' : List Int} (hl : a.length = a'.length) (h : (a, b) ≠ (a', b')) : a ++ b ≠ a' ++ b' := fun e => by
  obtain ⟨e1, e2⟩ := List.append_inj e hl
  exact h (by rw [e1, e2])
theorem rootS_I {c : Cfg} (h : c.Ok) {s : List Int × List Int} (hf : fits c s = true) : rootS s = rootI (s.1 ++ s.2) := by
  obtain ⟨h1, h2, _⟩ := fits_iff.1 hf
  have n1 := h.n1
  have n40 := h.n40
  unfold rootS rootO
  rw [List.length_append, h1, h2, if_pos (by unfold lvE; rw [if_neg (by omega), if_neg (by omega)])]
theorem rootS_hi (s : List Int × List Int) : 0 ≤ rootS s ∧ rootS s < 2305843009213693951 := by
  unfold rootS rootO
  split
  · unfold rootI pairI
    exact ⟨ofI_lo _ _, ofI_hi _ _⟩
  · exact ⟨by omega, by omega⟩
end Go.Proofs.Ytblkpibbcapdeaa
