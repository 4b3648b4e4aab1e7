/- tree.Climb and tree.Path: walks. -/
import Derived.Test.YtcfmjpcbiomdbaaTreeW
import Derived.StillTailTactics
import Derived.Test.YtcfmjpcbiomdbaaDrawW
import Derived.BigRegion
import Derived.ChangeAlike
namespace Go.Proofs.Ytcfmjpcbiomdbaa
open Go.RowKit Pl

/-- One step up: whether it goes right. -/
def stepI (r : Bool) (x y : Int) : Int := if r then pairI x y else pairI y x
/-- The last turns first: up from the leaf, k of them. -/
def climbI (ts : List (Bool × Nat × Nat)) (path : List Int) (leaf : Int) : Nat → Int
  | 0 => leaf
  | k + 1 => stepI (ts[ts.length - 1 - k]?.getD (false, 0, 0)).1 (at0 path k) (climbI ts path leaf k)
theorem climbI_u64 (ts : List (Bool × Nat × Nat)) (path : List Int) (leaf : Int) (h : 0 ≤ leaf ∧ leaf < 18446744073709551616) (k : Nat) : 0 ≤ climbI ts path leaf k ∧ climbI ts path leaf k < 18446744073709551616 := by
  cases k with
  | zero => exact h
  | succ k =>
    unfold climbI stepI
    split
    · have := pairI_bd (at0 path k) (climbI ts path leaf k); omega
    · have := pairI_bd (climbI ts path leaf k) (at0 path k); omega
theorem climbI_congr (ts ts' : List (Bool × Nat × Nat)) (path path' : List Int) (leaf : Int) (k : Nat) (h : ∀ j, j < k → (ts[ts.length - 1 - j]?.getD (false, 0, 0)) = (ts'[ts'.length - 1 - j]?.getD (false, 0, 0)) ∧ at0 path j = at0 path' j) : climbI ts path leaf k = climbI ts' path' leaf k := by
  induction k with
  | zero => rfl
  | succ k ih =>
    unfold climbI
    rw [(h k (by omega)).1, (h k (by omega)).2, ih (fun j hj => h j (by omega))]
theorem climbI_up (ts : List (Bool × Nat × Nat)) (path : List Int) (leaf : Int) (h : ts.length = path.length) : climbI ts path leaf ts.length = upG ts path.reverse leaf := by
  induction ts generalizing path with
  | nil =>
    match path, h with
    | [], _ => rfl
  | cons t ts ih =>
    rw [List.length_cons] at h
    rw [rev_last (m := ts.length) (by omega)]
    unfold upG
    rw [← ih (path.take ts.length) (by rw [List.length_take]; omega)]
    rw [List.length_cons]
    conv => lhs; unfold climbI
    have e1 : ((t :: ts)[(t :: ts).length - 1 - ts.length]?.getD (false, 0, 0)) = t := by
      rw [List.length_cons, show ts.length + 1 - 1 - ts.length = 0 by omega]; rfl
    have e2 : climbI (t :: ts) path leaf ts.length = climbI ts (path.take ts.length) leaf ts.length := by
      apply climbI_congr
      intro j hj
      constructor
      · rw [List.length_cons, show ts.length + 1 - 1 - j = (ts.length - 1 - j) + 1 by omega]; rfl
      · rw [at0_take hj]
    rw [e1, e2]
    rfl

theorem turnsV_right (ts : List (Bool × Nat × Nat)) {j : Nat} (h : j < ts.length) : (turnsV ts)[j * 3]? = some (.bool (ts[j]?.getD (false, 0, 0)).1) := by
  have := turnsV_at ts h 0 (by omega)
  rw [Nat.add_zero] at this
  rw [this, List.getElem?_eq_getElem h]; rfl
end Go.Proofs.Ytcfmjpcbiomdbaa

/- slices.Reverse over a list of the call's own; tree.Path: walks. -/
namespace Go.Proofs.Ytcfmjpcbiomdbaa
open Go.RowKit Pl

/-- k exchanges from both ends. -/
def revK (xs : List Int) (k : Nat) : List Int := upto (fun j => if j < k ∨ xs.length ≤ j + k then at0 xs (xs.length - 1 - j) else at0 xs j) xs.length
theorem revK_length (xs : List Int) (k : Nat) : (revK xs k).length = xs.length := upto_length _ _
theorem revK_zero (xs : List Int) : revK xs 0 = xs := by
  apply list_ext_at0 (revK_length _ _)
  intro j hj
  rw [revK_length] at hj
  unfold revK
  rw [at0_upto _ hj, if_neg (by omega)]
theorem at0_set (xs : List Int) (i j : Nat) (v : Int) : at0 (xs.set i v) j = if i = j ∧ j < xs.length then v else at0 xs j := by
  unfold at0
  rw [List.getElem?_set]
  split
  · rename_i h
    subst h
    by_cases h2 : i < xs.length
    · simp [h2]
    · simp [h2]
  · rename_i h
    rw [if_neg (by omega)]
theorem revK_step (xs : List Int) (k : Nat) (h : 2 * k + 1 < xs.length) :
    ((revK xs k).set k (at0 xs (xs.length - 1 - k))).set (xs.length - 1 - k) (at0 xs k) = revK xs (k + 1) := by
  apply list_ext_at0 (by rw [List.length_set, List.length_set, revK_length, revK_length])
  intro j hj
  rw [List.length_set, List.length_set, revK_length] at hj
  rw [at0_set, at0_set, List.length_set, revK_length]
  unfold revK
  rw [at0_upto _ hj, at0_upto _ hj]
  by_cases h1 : xs.length - 1 - k = j
  · rw [if_pos ⟨h1, hj⟩, if_pos (by omega), ← h1, show xs.length - 1 - (xs.length - 1 - k) = k by omega]
  · rw [if_neg (by omega)]
    by_cases h2 : k = j
    · rw [if_pos ⟨h2, hj⟩, if_pos (by omega), h2]
    · rw [if_neg (by omega)]
      by_cases h3 : j < k ∨ xs.length ≤ j + k
      · rw [if_pos h3, if_pos (by omega)]
      · rw [if_neg h3, if_neg (by omega)]
theorem revK_end (xs : List Int) (k : Nat) (h : xs.length ≤ 2 * k + 1) : revK xs k = xs.reverse := by
  apply list_ext_at0 (by rw [revK_length, List.length_reverse])
  intro j hj
  rw [revK_length] at hj
  unfold revK
  rw [at0_upto _ hj]
  have e : at0 xs.reverse j = at0 xs (xs.length - 1 - j) := by
    unfold at0
    rw [List.getElem?_reverse hj]
  rw [e]
  by_cases h3 : j < k ∨ xs.length ≤ j + k
  · rw [if_pos h3]
  · rw [if_neg h3, show xs.length - 1 - j = j by omega]
theorem revK_at (xs : List Int) (k j : Nat) (h : ¬ (j < k ∨ xs.length ≤ j + k)) (hj : j < xs.length) : at0 (revK xs k) j = at0 xs j := by
  unfold revK
  rw [at0_upto _ hj, if_neg h]

set_option maxRecDepth 100000 in
set_option maxHeartbeats 2000000 in
theorem sl_Reverse (g n c : Nat) (xs : List Int) (base : Nat) (w : World) (hown : w.ownsRow base 22 1 (.slice (some ⟨g, 0, none⟩) n c) n (xs.map (.int .u64))) (hl : xs.length = n) (hn : n ≤ 1000000) :
    Calls Try.prog 108 #[.slice (some ⟨g, 0, none⟩) n c] w fun e w' => e = .returned (.tuple #[]) ∧ w'.ownsRow base 22 1 (.slice (some ⟨g, 0, none⟩) n c) n (xs.reverse.map (.int .u64)) ∧ Below base w w' := by
  have hg := (hown.lt g rfl).1
  go_enter Try.func108, Try.ntmps108
  go_wp2
  go_loopw [2, 3] (fun i j wr => ∃ k : Nat, 2 * k ≤ n + 1 ∧ i = .int .i64 k ∧ j = .int .i64 ((n : Int) - 1 - k) ∧ wr.ownsRow base 22 1 (.slice (some ⟨g, 0, none⟩) n c) n ((revK xs k).map (.int .u64)) ∧ Below base w wr) (fun i _ _ => n - (intOf i).toNat)
  case atStart => exact ⟨0, by omega, rfl, by simp, by rw [revK_zero]; exact hown, Below.refl _ _⟩
  case round =>
    obtain ⟨k, hk, rfl, rfl, ho, hb⟩ := hrel
    by_cases hlt : 2 * k + 1 < n
    · have HS := Lib.hid (revK_step xs k (by omega))
      rw [hl] at HS
      have c1 := ho.cellAt k (by omega)
      have c2 := ho.cellAt (n - 1 - k) (by omega)
      rw [List.getElem?_map, List.getElem?_eq_getElem (by rw [revK_length]; omega), Option.map_some, ← at0_getElem, revK_at xs k _ (by omega) (by omega)] at c1 c2
      have z1 := ho.frozenAt k
      have z2 := ho.frozenAt (n - 1 - k)
      obtain ⟨x, hx⟩ : ∃ x, x = at0 xs k := ⟨_, rfl⟩
      obtain ⟨y, hy⟩ : ∃ y, y = at0 xs (n - 1 - k) := ⟨_, rfl⟩
      rw [← hx] at c1 HS
      rw [← hy] at c2 HS
      have HT := Lib.hid (show ((wr.setCell ⟨g, k, none⟩ (.int .u64 y)).setCell ⟨g, n - 1 - k, none⟩ (.int .u64 x)).ownsRow base 22 1 (.slice (some ⟨g, 0, none⟩) n c) n ((revK xs (k + 1)).map (.int .u64)) by
        have h1 := (ho.stored k (.int .u64 y)).1
        have h2 := (h1.stored (n - 1 - k) (.int .u64 x)).1
        rw [← List.map_set, ← List.map_set, HS.out] at h2
        exact h2)
      have hb2 := (hb.setCell (p := ⟨g, k, none⟩) hg (.int .u64 y)).setCell (p := ⟨g, n - 1 - k, none⟩) hg (.int .u64 x)
      have l1 : (k : Int) < (n : Int) := by omega
      have l2 : (n : Int) - 1 - (k : Int) < (n : Int) := by omega
      have l3 : (0 : Int) ≤ (n : Int) - 1 - (k : Int) := by omega
      have l4 : ¬ k = n - 1 - k := by omega
      clear hx hy ho hb hown hl
      go_wp2
      go_region
      all_goals
        go_wp2
        go_roundw
        case rel => exact ⟨k + 1, by omega, by go_num, by congr 1; omega, own_drewN HT.out 1, bel_drewN hb2 1⟩
        case measure => simp [intOf]; omega
    · have E := Lib.hid (revK_end xs k (by omega))
      rw [E.out] at ho
      go_wp2
      go_end0
      exact ⟨rfl, ho, hb⟩

set_option maxHeartbeats 1000000 in
theorem sl_Reverse0 (A : Option Addr) (c : Nat) (w : World) :
    Calls Try.prog 108 #[.slice A 0 c] w fun e w' => e = .returned (.tuple #[]) ∧ w = w' := by
  go_enter Try.func108, Try.ntmps108
  go_wp2
  go_loop [2, 3] (fun i j => i = .int .i64 0 ∧ j = .int .i64 (-1)) (fun _ _ => 0)
  case atStart => exact ⟨rfl, rfl⟩
  case round =>
    obtain ⟨rfl, rfl⟩ := hrel
    go_wp2
    go_end0
    exact ⟨rfl, rfl⟩
theorem sl_Reverse_any (v : Value) (n : Nat) (xs : List Int) (base : Nat) (w : World) (hown : w.ownsRow base 22 1 v n (xs.map (.int .u64))) (hl : xs.length = n) (hn : n ≤ 1000000) :
    Calls Try.prog 108 #[v] w fun e w' => e = .returned (.tuple #[]) ∧ w'.ownsRow base 22 1 v n (xs.reverse.map (.int .u64)) ∧ Below base w w' := by
  rcases Nat.eq_zero_or_pos n with h | h
  · subst h
    obtain rfl : xs = [] := List.eq_nil_of_length_eq_zero hl
    obtain ⟨A, c, rfl⟩ := own_slice hown
    exact (sl_Reverse0 A c w).mono fun e w' ⟨he, hw⟩ => ⟨he, by rw [← hw]; exact hown, by rw [← hw]; exact Below.refl _ _⟩
  · obtain ⟨g, c, rfl, _, _⟩ := hown.form h
    exact sl_Reverse g n c xs base w hown hl hn
end Go.Proofs.Ytcfmjpcbiomdbaa

/- tree.Path: a walk. -/
namespace Go.Proofs.Ytcfmjpcbiomdbaa
open Go.RowKit Pl

/-- On the way down: the leaves that are left, what stands beside the turns so far. -/
def PathR (w : World) (ts : List (Bool × Nat × Nat)) (D : List Int) (k : Nat) (xv ov : Value) (wr : World) : Prop :=
  ∃ (i' n' c' b off : Nat) (l pre : List Int), ts.drop k = waysP i' n' ∧ l.length = n' ∧ 1 ≤ n' ∧ n' ≤ 50 ∧ n' ≤ c' ∧ U64 l ∧ pre.length = k ∧ D = pre ++ downI (ts.drop k) l ∧ xv = .slice (some ⟨b, off, none⟩) n' c' ∧
    Ints .u64 w (some ⟨b, off, none⟩) n' l ∧ wr.ownsRow w.heap.size 22 1 ov k (pre.map (.int .u64)) ∧ Below w.heap.size w wr
theorem ways_cells (ts : List (Bool × Nat × Nat)) {k i' n' : Nat} (h : ts.drop k = waysP i' n') (h2 : 2 ≤ n') :
    k < ts.length ∧ ∃ r : Bool, (r = true ↔ half n' ≤ i') ∧ ts[k]? = some (r, half n', n' - half n') ∧ ts.drop (k + 1) = if r then waysP (i' - half n') (n' - half n') else waysP i' (half n') := by
  rw [waysP_more i' h2] at h
  have hk : k < ts.length := by
    rcases Nat.lt_or_ge k ts.length with hlt | hge
    · exact hlt
    · rw [List.drop_eq_nil_of_le hge] at h
      split at h <;> simp at h
  refine ⟨hk, ?_⟩
  rw [List.drop_eq_getElem_cons hk] at h
  by_cases hc : half n' ≤ i'
  · rw [if_pos hc] at h
    injection h with h1 h3
    exact ⟨true, by simp [hc], by rw [List.getElem?_eq_getElem hk, h1], by rw [h3]; rfl⟩
  · rw [if_neg hc] at h
    injection h with h1 h3
    exact ⟨false, by simp [hc], by rw [List.getElem?_eq_getElem hk, h1], by rw [h3]; rfl⟩
theorem turnsV_cells (ts : List (Bool × Nat × Nat)) {k p m : Nat} {r : Bool} (h : ts[k]? = some (r, p, m)) :
    (turnsV ts)[k * 3]? = some (.bool r) ∧ (turnsV ts)[k * 3 + 1]? = some (.int .i64 (p : Nat)) ∧ (turnsV ts)[k * 3 + 2]? = some (.int .i64 (m : Nat)) := by
  obtain ⟨hk, e⟩ := List.getElem?_eq_some_iff.1 h
  have a := turnsV_at ts hk 0 (by omega)
  have b := turnsV_at ts hk 1 (by omega)
  have c := turnsV_at ts hk 2 (by omega)
  rw [e] at a b c
  exact ⟨a, b, c⟩

set_option maxRecDepth 100000 in
set_option maxHeartbeats 4000000 in
theorem tree_Path_ok (A : Option Addr) (n c i : Nat) (xs : List Int) (w : World) (hx : Ints .i64 w A n xs) (hn1 : 1 ≤ n) (hn2 : n ≤ 200) (hc : n ≤ c) (hi : i < (n + 3) / 4) :
    Calls Try.prog 81 #[.slice A n c, .int .i64 i] w (OwnU w (wayI (leavesI xs) i) 0) := by
  obtain ⟨i0, hi0, hz0, hz1, hz2⟩ := info_parts u64_info
  have HL := Lib.hid (tree_Leaves_ok A n c xs w hx hn1 hn2 hc)
  have HN0 : (leavesI xs).length = (n + 3) / 4 := by rw [leavesI_length, hx.len]
  obtain ⟨m, hm⟩ : ∃ m, m = (n + 3) / 4 := ⟨_, rfl⟩
  rw [← hm] at HN0 hi
  have m1 : 1 ≤ m ∧ m ≤ 50 := by omega
  have hu := leavesI_u64 xs
  obtain ⟨lv, hlv⟩ : ∃ lv, lv = leavesI xs := ⟨_, rfl⟩
  rw [← hlv] at HL HN0 hu ⊢
  have HN := Lib.hid HN0
  have HT := Lib.hid (fun W => tree_turns i m W (by omega) (by omega) (by omega))
  have HW := Lib.hid (show wayI lv i = (downI (waysP i m) lv).reverse by unfold wayI; rw [HN.out])
  have hd0 : ¬ (i : Int) ≥ (m : Int) := by omega
  have HD := Lib.hid (downI_length (waysP i m) lv)
  have bd := deepP_le m i (by omega)
  unfold deepP at bd
  obtain ⟨ts, hts⟩ : ∃ ts, ts = waysP i m := ⟨_, rfl⟩
  have HTS := Lib.hid hts
  rw [← hts] at HT HW HD bd
  obtain ⟨D, hD⟩ : ∃ D, D = downI ts lv := ⟨_, rfl⟩
  have HDD := Lib.hid hD
  rw [← hD] at HW HD
  clear hm HN0 hlv hts hD
  go_enter Try.func81, Try.ntmps81
  go_wp2_with fail
  refine HL.out.mono ?_
  rintro e w1 ⟨S, sc, rfl, hown, hb1⟩
  rw [HN.out] at hown ⊢
  have hcap : m ≤ sc := own_capT hown
  obtain ⟨g0, cp0, hS0, hg0, _⟩ := hown.form (by omega)
  obtain ⟨rfl, rfl⟩ : S = some ⟨g0, 0, none⟩ ∧ sc = cp0 := by injection hS0 with a _ c; exact ⟨a, c⟩
  clear hS0
  have hI := Ints.of_own hown HN.out
  go_wp2_with fail
  refine (HT.out _).mono ?_
  rintro e w2 ⟨T, tc, rfl, hto, hb2⟩
  obtain ⟨L, hL⟩ : ∃ L, L = ts.length := ⟨_, rfl⟩
  have HTL := Lib.hid hL.symm
  rw [← hL] at hto bd HD ⊢
  have hI2 := hI.below hb2
  clear hL
  go_wp2
  go_loopw [6, 8, 10, 34] (fun xv ov _ j wr => ∃ k : Nat, k ≤ L ∧ j = .int .i64 k ∧ PathR w2 ts D k xv ov wr) (fun _ _ _ j _ => L - (intOf j).toNat)
  case atStart => exact ⟨0, by omega, rfl, ⟨i, m, sc, g0, 0, lv, [], HTS.out, HN.out, m1.1, m1.2, hcap, hu, rfl, HDD.out, rfl, hI2, World.ownsRow_nil _ _ _ _, Below.refl _ _⟩⟩
  case round =>
    clear hI hI2 hown
    obtain ⟨k, hk, rfl, ⟨i', n', c', b, off, l, pre, hd, hln, n1, n2, hcc, hlu, hpl, hDD, rfl, hx2, hov, hb3⟩⟩ := hrel
    have hxl := hx2.below hb3
    have hbs := hb3.size
    by_cases hlt : k < L
    · have h2 : 2 ≤ n' := by
        rcases Nat.lt_or_ge n' 2 with h | h
        · rw [waysP_one i' (by omega)] at hd
          have := List.drop_eq_nil_iff.1 hd
          rw [HTL.out] at this
          omega
        · exact h
      obtain ⟨hkl, r, hr, hat, hnx⟩ := ways_cells ts hd h2
      have a1 := half_lt h2
      have a2 := half_pos n'
      have DC := Lib.hid (show downI (ts.drop k) l = (if r then treeI (l.take (half n')) else treeI (l.drop (half n'))) :: downI (ts.drop (k + 1)) (if r then l.drop (half n') else l.take (half n')) by
        obtain ⟨hk', e'⟩ := List.getElem?_eq_some_iff.1 hat
        rw [List.drop_eq_getElem_cons hk', e']
        cases r <;> simp [downI])
      obtain ⟨p, hp⟩ : ∃ p, p = half n' := ⟨_, rfl⟩
      rw [← hp] at hr hat hnx a1 a2 DC
      obtain ⟨q, hq⟩ : ∃ q, q = n' - p := ⟨_, rfl⟩
      rw [← hq] at hat hnx
      obtain ⟨t0, t1, t2⟩ := turnsV_cells ts hat
      obtain ⟨g, cp, hS, _, hgl⟩ := hto.form (by omega)
      obtain ⟨rfl, rfl⟩ : T = some ⟨g, 0, none⟩ ∧ tc = cp := by injection hS with a _ c; exact ⟨a, c⟩
      have hto2 := own_below hto hb3
      have g0' := (hto2.cellAt (k * 3) (by omega)).trans t0
      have g1' := (hto2.cellAt (k * 3 + 1) (by omega)).trans t1
      have g2' := (hto2.cellAt (k * 3 + 2) (by omega)).trans t2
      have HNX := Lib.hid hnx
      have HPL := Lib.hid hpl
      have HDK := Lib.hid hDD
      have HQ := Lib.hid hq
      have HLN := Lib.hid hln
      have kl : k ≤ 1000 := by omega
      have ql : 1 ≤ q := by omega
      have k0 : (0 : Int) ≤ (k : Int) := by omega
      have k1 : (k : Int) < (L : Int) := by omega
      clear hS t0 t1 t2 hat hkl hd hp hr hnx hpl hDD hto2 hq hln HTL
      cases r
      · go_wp2
        obtain ⟨z, hz⟩ : ∃ z, z = wr.alloc (.cells #[.bool false, .int .i64 p, .int .i64 q] 147) := ⟨_, rfl⟩
        rw [← hz]
        have bz : z.cell? ⟨wr.heap.size, 1, none⟩ = some (.int .i64 p) := by rw [hz]; exact (Blk.made _ _ _).cell 1
        have zl : wr.heap.size < z.heap.size := by rw [hz]; simp
        have hxz : Ints .u64 z (some ⟨b, off, none⟩) n' l := by rw [hz]; exact hxl.alloc _
        have hoz : z.ownsRow w2.heap.size 22 1 u8 k (pre.map (.int .u64)) := by rw [hz]; exact hov.alloc _
        have hbz : Below w2.heap.size w2 z := by rw [hz]; exact hb3.alloc hbs _
        have ne : some wr.heap.size ≠ u8.ownBlock := fun h => by have := (hov.lt _ h.symm).2; omega
        have neb : ∀ x, u8.ownBlock = some x → w2.heap.size ≤ x := fun x h => (hov.lt x h).1
        have T := Lib.hid (fun W (y : Ints .u64 W (some ⟨b, off, none⟩) n' l) => tree_tree n' (some ⟨b, off + p, none⟩) (n' - p) (c' - p) (l.drop p) W (by omega) (by omega) (by omega) (by omega) (cut_hi (by omega) y) (hlu.drop _))
        have gx := treeI_u64 (hlu.drop p) (by rw [List.length_drop, HLN.out]; omega)
        obtain ⟨x, hxx⟩ : ∃ x, x = treeI (l.drop p) := ⟨_, rfl⟩
        rw [← hxx] at T gx
        have DN := Lib.hid (show D = (pre ++ [x]) ++ downI (ts.drop (k + 1)) (l.take p) by
          rw [HDK.out, DC.out, hxx, List.append_assoc]; rfl)
        have p0 : (0 : Int) ≤ (p : Int) := by omega
        have p1 : (p : Int) ≤ (n' : Int) := by omega
        have p2 : (p : Int) ≤ (c' : Int) := by omega
        have p3 : ¬ c' = p := by omega
        have p4 : ¬ (c' : Int) = (p : Int) := by omega
        clear hz hxl hov g0' g1' g2' hxx HDK DC
        go_region_held3 (fun W => W.cell? ⟨wr.heap.size, 1, none⟩ = some (.int .i64 p)) (first | exact bz | exact f0 | exact f1 _ | exact f2 | go_keep) (first
          | (go_at_call 94; (with_reducible refine (T.out _ (hxz.drew)).mono ?_); rintro e u1 ⟨rfl, hb4⟩; have hb5 : Below z.heap.size z u1 := bel_trans ((Below.refl _ _).drew) hb4; have f0 : u1.cell? ⟨wr.heap.size, 1, none⟩ = some (.int .i64 p) := (hb5.cell (p := ⟨wr.heap.size, 1, none⟩) zl).trans bz; have f1 : ∀ o, (u1.alloc o).cell? ⟨wr.heap.size, 1, none⟩ = some (.int .i64 p) := fun o => (((Below.refl u1.heap.size u1).alloc (Nat.le_refl _) o).cell (p := ⟨wr.heap.size, 1, none⟩) (Nat.lt_of_lt_of_le zl hb5.size)).trans f0; have F1 : ∀ o, (u1.alloc o).ownsRow w2.heap.size 22 1 u8 k (pre.map (.int .u64)) := fun o => (own_below hoz hb5).alloc o; have hb6 : Below w2.heap.size w2 u1 := hbz.trans (hb5.mono hbz.size); have hs6 := hb6.size; have F2 : ∀ o, w2.heap.size ≤ (u1.alloc o).heap.size := fun o => (by simp; omega); have F3 : k + 1 ≤ maxLen := (by unfold maxLen; omega); have F4 : (k + 1) * 8 ≤ 140737488355328 := (by omega))
          | ((refine step_append_lies _ (by rfl) _ _ _ (by rfl) w2.heap.size 22 i0 _ 1 8 Try.underlying82 hi0 hz0 hz1 hz2 rfl (by omega) u8 k _ (by rfl) (F1 _) ⟨u1.heap.size, 0, none⟩ 1 1 [.int .u64 x] (by rfl) (by rfl) (World.news_of_block (cs := #[.int .u64 x]) (t := 22) (fr := (0, 0)) (heap_alloc_new _ _)) (by simp [Value.oneCell']) (by omega) F3 F4 (F2 _) (u1.heap.size + 1) (by simp) ?_); intro gg cp' w4 hown1 hgrow hat hlt1; have f2 : w4.cell? ⟨wr.heap.size, 1, none⟩ = some (.int .i64 p) := (World.cell?_of_block (hgrow.block wr.heap.size (by have := hb5.size; simp; omega) ne)).trans (f1 _))
          | fail)
        have hb7 : Below w2.heap.size w2 w4 := Below.grown (hb6.alloc hs6 _) hgrow (by simp; omega) neb
        have hown1' : w4.ownsRow w2.heap.size 22 1 (.slice (some ⟨gg, 0, none⟩) (k + 1) cp') (k + 1) ((pre ++ [x]).map (.int .u64)) := by rw [List.map_append]; exact hown1
        clear hgrow hat hlt1 bz f0 f1 f2 F1 F2 F3 F4 p4
        go_wp2
        go_roundw
        case rel => exact ⟨k + 1, by omega, by go_num, ⟨i', p, c', b, off, l.take p, pre ++ [x], by rw [HNX.out]; rfl, by rw [List.length_take, HLN.out]; omega, by omega, by omega, by omega, hlu.take _, by rw [List.length_append, HPL.out]; rfl, DN.out, rfl, cut_lo (by omega) hx2, hown1', hb7⟩⟩
        case measure => simp [intOf]; omega
      · go_wp2
        obtain ⟨z, hz⟩ : ∃ z, z = wr.alloc (.cells #[.bool true, .int .i64 p, .int .i64 q] 147) := ⟨_, rfl⟩
        rw [← hz]
        have bz : z.cell? ⟨wr.heap.size, 1, none⟩ = some (.int .i64 p) := by rw [hz]; exact (Blk.made _ _ _).cell 1
        have zl : wr.heap.size < z.heap.size := by rw [hz]; simp
        have hxz : Ints .u64 z (some ⟨b, off, none⟩) n' l := by rw [hz]; exact hxl.alloc _
        have hoz : z.ownsRow w2.heap.size 22 1 u8 k (pre.map (.int .u64)) := by rw [hz]; exact hov.alloc _
        have hbz : Below w2.heap.size w2 z := by rw [hz]; exact hb3.alloc hbs _
        have ne : some wr.heap.size ≠ u8.ownBlock := fun h => by have := (hov.lt _ h.symm).2; omega
        have neb : ∀ x, u8.ownBlock = some x → w2.heap.size ≤ x := fun x h => (hov.lt x h).1
        have T := Lib.hid (fun W (y : Ints .u64 W (some ⟨b, off, none⟩) n' l) => tree_tree n' (some ⟨b, off, none⟩) p c' (l.take p) W (by omega) (by omega) (by omega) (by omega) (cut_lo (by omega) y) (hlu.take _))
        have gx := treeI_u64 (hlu.take p) (by rw [List.length_take, HLN.out]; omega)
        obtain ⟨x, hxx⟩ : ∃ x, x = treeI (l.take p) := ⟨_, rfl⟩
        rw [← hxx] at T gx
        have DN := Lib.hid (show D = (pre ++ [x]) ++ downI (ts.drop (k + 1)) (l.drop p) by
          rw [HDK.out, DC.out, hxx, List.append_assoc]; rfl)
        have p0 : (0 : Int) ≤ (p : Int) := by omega
        have p1 : (p : Int) ≤ (n' : Int) := by omega
        have p2 : (p : Int) ≤ (c' : Int) := by omega
        have p3 : ¬ c' = p := by omega
        have p4 : ¬ (c' : Int) = (p : Int) := by omega
        clear hz hxl hov g0' g1' g2' hxx HDK DC
        go_region_held3 (fun W => W.cell? ⟨wr.heap.size, 1, none⟩ = some (.int .i64 p)) (first | exact bz | exact f0 | exact f1 _ | exact f2 | go_keep) (first
          | (go_at_call 94; (with_reducible refine (T.out _ (hxz.drew)).mono ?_); rintro e u1 ⟨rfl, hb4⟩; have hb5 : Below z.heap.size z u1 := bel_trans ((Below.refl _ _).drew) hb4; have f0 : u1.cell? ⟨wr.heap.size, 1, none⟩ = some (.int .i64 p) := (hb5.cell (p := ⟨wr.heap.size, 1, none⟩) zl).trans bz; have f1 : ∀ o, (u1.alloc o).cell? ⟨wr.heap.size, 1, none⟩ = some (.int .i64 p) := fun o => (((Below.refl u1.heap.size u1).alloc (Nat.le_refl _) o).cell (p := ⟨wr.heap.size, 1, none⟩) (Nat.lt_of_lt_of_le zl hb5.size)).trans f0; have F1 : ∀ o, (u1.alloc o).ownsRow w2.heap.size 22 1 u8 k (pre.map (.int .u64)) := fun o => (own_below hoz hb5).alloc o; have hb6 : Below w2.heap.size w2 u1 := hbz.trans (hb5.mono hbz.size); have hs6 := hb6.size; have F2 : ∀ o, w2.heap.size ≤ (u1.alloc o).heap.size := fun o => (by simp; omega); have F3 : k + 1 ≤ maxLen := (by unfold maxLen; omega); have F4 : (k + 1) * 8 ≤ 140737488355328 := (by omega))
          | ((refine step_append_lies _ (by rfl) _ _ _ (by rfl) w2.heap.size 22 i0 _ 1 8 Try.underlying82 hi0 hz0 hz1 hz2 rfl (by omega) u8 k _ (by rfl) (F1 _) ⟨u1.heap.size, 0, none⟩ 1 1 [.int .u64 x] (by rfl) (by rfl) (World.news_of_block (cs := #[.int .u64 x]) (t := 22) (fr := (0, 0)) (heap_alloc_new _ _)) (by simp [Value.oneCell']) (by omega) F3 F4 (F2 _) (u1.heap.size + 1) (by simp) ?_); intro gg cp' w4 hown1 hgrow hat hlt1; have f2 : w4.cell? ⟨wr.heap.size, 1, none⟩ = some (.int .i64 p) := (World.cell?_of_block (hgrow.block wr.heap.size (by have := hb5.size; simp; omega) ne)).trans (f1 _))
          | fail)
        have hb7 : Below w2.heap.size w2 w4 := Below.grown (hb6.alloc hs6 _) hgrow (by simp; omega) neb
        have hown1' : w4.ownsRow w2.heap.size 22 1 (.slice (some ⟨gg, 0, none⟩) (k + 1) cp') (k + 1) ((pre ++ [x]).map (.int .u64)) := by rw [List.map_append]; exact hown1
        clear hgrow hat hlt1 bz f0 f1 f2 F1 F2 F3 F4 p4
        go_wp2
        go_roundw
        case rel => exact ⟨k + 1, by omega, by go_num, ⟨i' - p, n' - p, c' - p, b, off + p, l.drop p, pre ++ [x], by rw [HNX.out, HQ.out]; rfl, by rw [List.length_drop, HLN.out], by omega, by omega, by omega, hlu.drop _, by rw [List.length_append, HPL.out]; rfl, DN.out, rfl, cut_hi (by omega) hx2, hown1', hb7⟩⟩
        case measure => simp [intOf]; omega
    · obtain rfl : L = k := by omega
      have hdn : ts.drop L = [] := List.drop_eq_nil_of_le (by rw [HTL.out]; exact Nat.le_refl _)
      have HR := Lib.hid (show wayI lv i = pre.reverse by rw [HW.out, hDD, hdn]; simp [downI])
      have HRL := Lib.hid (show (wayI lv i).length = L by rw [HR.out, List.length_reverse, hpl])
      clear hd hdn hDD
      go_wp2_with fail
      refine (sl_Reverse_any u8 L pre w2.heap.size wr hov hpl (by omega)).mono ?_
      rintro e w5 ⟨rfl, hown5, hb5⟩
      go_wp2
      go_ret2
      have hww := bel_trans hb1 hb2
      exact ownU_res HRL.out (by rw [HR.out]; exact own_base hown5 hww.size) (hww.trans ((hb3.trans hb5).mono hww.size))
end Go.Proofs.Ytcfmjpcbiomdbaa

/- What tree.Path and tree.Climb answer, right or wrong: walks. -/
namespace Go.Proofs.Ytcfmjpcbiomdbaa
open Go.RowKit Pl

theorem inB_iffT {n lo hi : Int} : inB n lo hi = true ↔ lo ≤ n ∧ n ≤ hi := by unfold inB; exact decide_eq_true_iff

set_option maxRecDepth 100000 in
set_option maxHeartbeats 2000000 in
/-- What Path answers, right or wrong. -/
theorem tree_Path_any (A : Option Addr) (n c : Nat) (i : Int) (xs : List Int) (w : World) (hx : Ints .i64 w A n xs) (hc : n ≤ c) (hm : n ≤ 9223372036854775807) :
    Calls Try.prog 81 #[.slice A n c, .int .i64 i] w (OwnU w (pathO xs i) (pathE n i)) := by
  by_cases h : lvE n = 0
  · obtain ⟨h1, h2⟩ := lvE_ok h
    by_cases hI : inB i 0 (((n + 3) / 4 : Nat) - 1 : Int) = true
    · obtain ⟨i1, i2⟩ := inB_iffT.1 hI
      have hE : pathE n i = 0 := by unfold pathE; rw [if_neg (by simp [h]), if_pos hI]
      obtain ⟨k, rfl⟩ : ∃ k : Nat, i = (k : Int) := ⟨i.toNat, by omega⟩
      rw [hE, show pathO xs (k : Int) = wayI (leavesI xs) k from if_pos (by rw [hx.len]; exact hE)]
      exact tree_Path_ok A n c k xs w hx h1 h2 hc (by omega)
    · have hE : pathE n i = 1 := by unfold pathE; rw [if_neg (by simp [h]), if_neg hI]
      rw [hE, show pathO xs i = [] from if_neg (by rw [hx.len, hE]; decide)]
      have hI' : i < 0 ∨ ((n + 3) / 4 : Nat) ≤ i := by
        by_cases h0 : i < 0
        · exact .inl h0
        · exact .inr (by
            by_cases hl : ((n + 3) / 4 : Nat) ≤ i
            · exact hl
            · exact absurd (inB_iffT.2 ⟨by omega, by omega⟩) hI)
      have HL := Lib.hid (tree_Leaves_ok A n c xs w hx h1 h2 hc)
      have HN0 : (leavesI xs).length = (n + 3) / 4 := by rw [leavesI_length, hx.len]
      have HN := Lib.hid HN0
      obtain ⟨m, hm'⟩ : ∃ m, m = (n + 3) / 4 := ⟨_, rfl⟩
      rw [← hm'] at HN hI'
      obtain ⟨lv, hlv⟩ : ∃ lv, lv = leavesI xs := ⟨_, rfl⟩
      rw [← hlv] at HL HN
      clear h hI hE HN0 hm' hlv
      rcases hI' with h0 | h0
      · go_enter Try.func81, Try.ntmps81
        go_wp2_with fail
        refine HL.out.mono ?_
        rintro e w1 ⟨S, sc, rfl, hown, hb1⟩
        rw [HN.out]
        go_wp2
        go_ret2
        exact ⟨none, 0, rfl, World.ownsRow_nil _ _ _ _, hb1⟩
      · go_enter Try.func81, Try.ntmps81
        go_wp2_with fail
        refine HL.out.mono ?_
        rintro e w1 ⟨S, sc, rfl, hown, hb1⟩
        rw [HN.out]
        have h1 : ¬ i < 0 := by omega
        go_wp2
        go_ret2
        exact ⟨none, 0, rfl, World.ownsRow_nil _ _ _ _, hb1⟩
  · have hE : pathE n i = lvE n := by unfold pathE; rw [if_pos h]
    rw [hE, show pathO xs i = [] from if_neg (by rw [hx.len, hE]; exact h)]
    have HL := Lib.hid (tree_Leaves_no A n c w h hm)
    obtain ⟨x, hxx⟩ : ∃ x, x = lvE n := ⟨_, rfl⟩
    rw [← hxx] at HL h ⊢
    have t : (x != 0) = true := by rw [bne_iff_ne]; exact h
    clear h hxx hE
    go_enter Try.func81, Try.ntmps81
    go_wp2_with fail
    refine HL.out.mono ?_
    rintro e w1 ⟨rfl, rfl⟩
    go_wp2
    go_ret2
    exact ⟨none, 0, rfl, World.ownsRow_nil _ _ _ _, Below.refl _ _⟩

/-- Is it a leaf of a list that may be? -/
def climbB (i n : Int) : Prop := (1 ≤ n ∧ n ≤ 200) ∧ 0 ≤ i ∧ i < (n + 3) / 4
instance (i n : Int) : Decidable (climbB i n) := by unfold climbB; infer_instance
def climbE (i n : Int) (L : Nat) : Int := if climbB i n then (if L = deepP i.toNat ((n.toNat + 3) / 4) then 0 else 5) else 1
def climbO (i n leaf : Int) (path : List Int) : Int := if climbE i n path.length = 0 then pairI n (upI i.toNat ((n.toNat + 3) / 4) leaf path) else 0
end Go.Proofs.Ytcfmjpcbiomdbaa
