/- What the document's own text computes of products with a matrix: a walk. -/
import Derived.Test.YtflljldlfgpimaaRefLine
namespace Go.Proofs.Ytflljldlfgpimaa
open Go.RowKit Pl

theorem own_below {w w' : World} {base : Nat} {e : TypeId} {size : Nat} {v : Value} {n : Nat} {xs : List Value} (h : w.ownsRow base e size v n xs) (hb : Below w.heap.size w w') : w'.ownsRow base e size v n xs := by
  refine ⟨h.1, ?_⟩
  rcases h.2 with hn | ⟨g, cap, cur, rfl, hg, hc, rest⟩
  · exact .inl hn
  · exact .inr ⟨g, cap, cur, rfl, hg, (hb.block g (Array.getElem?_eq_some_iff.1 hc).1).trans hc, rest⟩

/-- A slice of the call's own with numbers: the one result. -/
def Own1 (w : World) (xs : List Int) (e : Ending) (w' : World) : Prop :=
  ∃ A c, e = .returned (.slice A xs.length c) ∧ w'.ownsRow w.heap.size 3 1 (.slice A xs.length c) xs.length (xs.map (.int .i64)) ∧ Below w.heap.size w w'
theorem own_one {w w' : World} {xs : List Int} {v : Value} {n : Nat} (hl : xs.length = n) (h : w'.ownsRow w.heap.size 3 1 v n (xs.map (.int .i64))) (hb : Below w.heap.size w w') : Own1 w xs (.returned v) w' := by
  subst hl
  obtain ⟨A, c, rfl, _⟩ := own_ints h
  exact ⟨A, c, rfl, h, hb⟩

theorem ref_line_row (r c k : Nat) (A : Option Addr) (n cap : Nat) (xs : List Int) (w : World) (hx : Ints .i64 w A n xs) (hr : 1 ≤ r ∧ r ≤ 4) (hc : 1 ≤ c ∧ c ≤ 4) (hn : n = r * c) (hk : k < r) :
    Calls Try.prog 72 #[(.agg #[.int .i64 r, .int .i64 c, .slice A n cap]), .int .i64 k, .bool false] w fun e w' => ∃ l cp, e = .returned (.slice l c cp) ∧ Ints .i64 w' l c (rowL xs c k) ∧ Below w.heap.size w w' :=
  (ref_line r c k A n cap xs false w hx hr hc hn (fun h => by first | exact hk | exact absurd h (by decide)) (fun h => by first | exact hk | exact absurd h (by decide))).mono fun e w' ⟨l, cp, he, ho, hb⟩ => ⟨l, cp, he, Ints.of_own ho (upto_length _ _), hb⟩

set_option maxRecDepth 100000 in
set_option maxHeartbeats 2000000 in
theorem ref_Times_row (r c : Nat) (A B : Option Addr) (n cap d : Nat) (xs ys : List Int) (w : World) (hx : Ints .i64 w A n xs) (hy : Ints .i64 w B c ys) (hr : 1 ≤ r ∧ r ≤ 4) (hc : 1 ≤ c ∧ c ≤ 4) (hn : n = r * c) :
    Calls Try.prog 43 #[(.agg #[.int .i64 r, .int .i64 c, .slice A n cap]), .slice B c d, .bool false] w (Own1 w (mulL xs r c ys)) := by
  obtain ⟨i0, hi0, hz0, hz1, hz2⟩ := info_parts int_info
  have hM := MatBox.new w r c A n cap
  have hx' := hx.alloc (.cells #[.int .i64 r, .int .i64 c, .slice A n cap] 48)
  have hy' := hy.alloc (.cells #[.int .i64 r, .int .i64 c, .slice A n cap] 48)
  have HN := Lib.hid hn
  clear hn hx hy
  go_enter Try.func43, Try.ntmps43
  go_wp2
  go_loopw [7, 9] (fun o i wr => ∃ k : Nat, k ≤ r ∧ i = .int .i64 k ∧ wr.ownsRow (w.heap.size + 1) 3 1 o k ((upto (fun k => dotN (rowL xs c k) ys c) k).map (.int .i64)) ∧ Below (w.heap.size + 1) (w.alloc (.cells #[.int .i64 r, .int .i64 c, .slice A n cap] 48)) wr) (fun _ i _ => r - (intOf i).toNat)
  case atStart => exact ⟨0, Nat.zero_le _, rfl, World.ownsRow_nil _ _ _ _, Below.refl _ _⟩
  case round =>
    obtain ⟨k, hk, rfl, hown, hb⟩ := hrel
    obtain ⟨q0, q1, q2⟩ := hM.below hb (by omega)
    by_cases hlt : k < r
    · have hxr := hx'.below (by simpa using hb)
      have hyr := hy'.below (by simpa using hb)
      have hbs := hb.size
      simp at hbs
      go_wp2_with (first
        | (go_at_call 72; refine (ref_line_row r c k A n cap xs _ hxr hr hc HN.out hlt).mono ?_; rintro e w1 ⟨l, cp, rfl, hI, hb1⟩; have hyq := hyr.below hb1; have hown1 := own_below hown hb1; have hbw := hb.trans (hb1.mono hbs))
        | (go_at_call 27; refine (ref_Dot l B _ cp d _ _ ys _ hI hyq (Nat.le_refl _) (by omega)).mono ?_; rintro e w2 ⟨rfl, hq2⟩; have hown2 := own_quiet hown1 hq2; have hbq := Quiet.after hbw hq2; have hbz := hbq.size; simp at hbz)
        | (at_builtin; refine wpList_append_own _ rfl _ _ 31 rfl (w.heap.size + 1) 3 i0 (.int .i64 0) 1 8 Try.underlying31 hi0 hz0 hz1 hz2 rfl (by decide) u7 k _ rfl (hown2.alloc _) ⟨w2.heap.size, 0, none⟩ 1 1 [.int .i64 (dotN (rowL xs c k) ys c)] rfl rfl (cell_one_new _ _ _) (by simp [Value.oneCell']) (by unfold maxLen; omega) (by omega) (by simp; omega) ?_; intro v1 w3 hown3 hgrow _))
      have hb2 := Below.grown (B := w.heap.size + 1) (hbq.alloc (by omega) _) hgrow (by simp; omega) (fun x hx => (hown2.lt x hx).1)
      rw [← List.map_singleton, ← List.map_append, ← upto_succ (fun k => dotN (rowL xs c k) ys c)] at hown3
      clear hgrow
      go_roundw
      case rel => exact ⟨k + 1, by omega, by go_num, hown3, hb2⟩
      case measure => simp [intOf]; omega
    · have hkk : k = r := by omega
      go_wp2
      go_ret
      rw [hkk] at hown
      exact own_one (upto_length _ _) (own_base hown (by omega)) (((Below.refl _ _).alloc (Nat.le_refl _) _).trans (hb.mono (by omega)))

theorem ref_line_col (r c k : Nat) (A : Option Addr) (n cap : Nat) (xs : List Int) (w : World) (hx : Ints .i64 w A n xs) (hr : 1 ≤ r ∧ r ≤ 4) (hc : 1 ≤ c ∧ c ≤ 4) (hn : n = r * c) (hk : k < c) :
    Calls Try.prog 72 #[(.agg #[.int .i64 r, .int .i64 c, .slice A n cap]), .int .i64 k, .bool true] w fun e w' => ∃ l cp, e = .returned (.slice l r cp) ∧ Ints .i64 w' l r (colL xs c r k) ∧ Below w.heap.size w w' :=
  (ref_line r c k A n cap xs true w hx hr hc hn (fun h => by first | exact hk | exact absurd h (by decide)) (fun h => by first | exact hk | exact absurd h (by decide))).mono fun e w' ⟨l, cp, he, ho, hb⟩ => ⟨l, cp, he, Ints.of_own ho (upto_length _ _), hb⟩

set_option maxRecDepth 100000 in
set_option maxHeartbeats 2000000 in
theorem ref_Times_col (r c : Nat) (A B : Option Addr) (n cap d : Nat) (xs ys : List Int) (w : World) (hx : Ints .i64 w A n xs) (hy : Ints .i64 w B r ys) (hr : 1 ≤ r ∧ r ≤ 4) (hc : 1 ≤ c ∧ c ≤ 4) (hn : n = r * c) :
    Calls Try.prog 43 #[(.agg #[.int .i64 r, .int .i64 c, .slice A n cap]), .slice B r d, .bool true] w (Own1 w (backL xs r c ys)) := by
  obtain ⟨i0, hi0, hz0, hz1, hz2⟩ := info_parts int_info
  have hM := MatBox.new w r c A n cap
  have hx' := hx.alloc (.cells #[.int .i64 r, .int .i64 c, .slice A n cap] 48)
  have hy' := hy.alloc (.cells #[.int .i64 r, .int .i64 c, .slice A n cap] 48)
  have HN := Lib.hid hn
  clear hn hx hy
  go_enter Try.func43, Try.ntmps43
  go_wp2
  go_loopw [7, 9] (fun o i wr => ∃ k : Nat, k ≤ c ∧ i = .int .i64 k ∧ wr.ownsRow (w.heap.size + 1) 3 1 o k ((upto (fun k => dotN (colL xs c r k) ys r) k).map (.int .i64)) ∧ Below (w.heap.size + 1) (w.alloc (.cells #[.int .i64 r, .int .i64 c, .slice A n cap] 48)) wr) (fun _ i _ => c - (intOf i).toNat)
  case atStart => exact ⟨0, Nat.zero_le _, rfl, World.ownsRow_nil _ _ _ _, Below.refl _ _⟩
  case round =>
    obtain ⟨k, hk, rfl, hown, hb⟩ := hrel
    obtain ⟨q0, q1, q2⟩ := hM.below hb (by omega)
    by_cases hlt : k < c
    · have hxr := hx'.below (by simpa using hb)
      have hyr := hy'.below (by simpa using hb)
      have hbs := hb.size
      simp at hbs
      go_wp2_with (first
        | (go_at_call 72; refine (ref_line_col r c k A n cap xs _ hxr hr hc HN.out hlt).mono ?_; rintro e w1 ⟨l, cp, rfl, hI, hb1⟩; have hyq := hyr.below hb1; have hown1 := own_below hown hb1; have hbw := hb.trans (hb1.mono hbs))
        | (go_at_call 27; refine (ref_Dot l B _ cp d _ _ ys _ hI hyq (Nat.le_refl _) (by omega)).mono ?_; rintro e w2 ⟨rfl, hq2⟩; have hown2 := own_quiet hown1 hq2; have hbq := Quiet.after hbw hq2; have hbz := hbq.size; simp at hbz)
        | (at_builtin; refine wpList_append_own _ rfl _ _ 31 rfl (w.heap.size + 1) 3 i0 (.int .i64 0) 1 8 Try.underlying31 hi0 hz0 hz1 hz2 rfl (by decide) u7 k _ rfl (hown2.alloc _) ⟨w2.heap.size, 0, none⟩ 1 1 [.int .i64 (dotN (colL xs c r k) ys r)] rfl rfl (cell_one_new _ _ _) (by simp [Value.oneCell']) (by unfold maxLen; omega) (by omega) (by simp; omega) ?_; intro v1 w3 hown3 hgrow _))
      have hb2 := Below.grown (B := w.heap.size + 1) (hbq.alloc (by omega) _) hgrow (by simp; omega) (fun x hx => (hown2.lt x hx).1)
      rw [← List.map_singleton, ← List.map_append, ← upto_succ (fun k => dotN (colL xs c r k) ys r)] at hown3
      clear hgrow
      go_roundw
      case rel => exact ⟨k + 1, by omega, by go_num, hown3, hb2⟩
      case measure => simp [intOf]; omega
    · have hkk : k = c := by omega
      go_wp2
      go_ret
      rw [hkk] at hown
      exact own_one (upto_length _ _) (own_base hown (by omega)) (((Below.refl _ _).alloc (Nat.le_refl _) _).trans (hb.mono (by omega)))

end Go.Proofs.Ytflljldlfgpimaa
