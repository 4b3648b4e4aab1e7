/- The law VecSays holds of the given program for every input. No condition. -/
import Derived.Test.YtflljldlfgpimaaFrame
import Derived.Test.YtflljldlfgpimaaVecW2
import Derived.Test.YtflljldlfgpimaaRefVec
namespace Go.Proofs.Ytflljldlfgpimaa
open Go.ChangeShapes Go.WideShapes Go.ChangeAt Go.RowKit Pl

set_option maxRecDepth 100000 in
set_option maxHeartbeats 1500000 in
/-- More than 200 numbers in a. -/
theorem vecSays_1 (A B : Option Addr) (n c m d : Nat) (x : Int) (xs ys : List Int) (w : World) (hx : Ints .i64 w A n xs) (hy : Ints .i64 w B m ys) (h : 200 < n) :
    Calls Try.prog 9 #[.slice A n c, .slice B m d, .int .i64 x] w fun e w' => e = .returned (.bool true) ∧ Below w.heap.size w w' := by
  have e0 : pairE xs ys = 2 := pairE_no (by rw [hx.len]; exact .inl h)
  have H1 := fun W => vec_Dot_no A B n c m d xs ys W hx.len hy.len (by rw [e0]; decide)
  have H2 := fun W => vec_Sum_no A B n c m d xs ys W hx.len hy.len (by rw [e0]; decide)
  rw [e0] at H1 H2
  have H1' := Lib.hid H1
  have H2' := Lib.hid H2
  clear e0 H1 H2
  go_enter Try.func9, Try.ntmps9
  go_wp2_with (first
    | (go_at_call 28; refine (H1'.out _).mono ?_; rintro e w1 ⟨rfl, hb1⟩)
    | (go_at_call 29; refine (H2'.out _).mono ?_; rintro e w2 ⟨rfl, hb2⟩)
    | (go_at_call 30; refine (vec_Times_no A n c x _ h).mono ?_; rintro e w3 ⟨rfl, hb3⟩)
    | (go_at_call 31; refine (equalI_len none none 0 0 0 [] [] _ (Ints.nil _ _ _) (Ints.nil _ _ _) (by omega)).mono ?_; rintro e w4 ⟨rfl, k, rfl⟩))
  go_ret
  exact ⟨rfl, bel_drewN (bel_trans (bel_trans hb1 hb2) hb3) _⟩

set_option maxRecDepth 100000 in
set_option maxHeartbeats 1500000 in
/-- More than 200 numbers in b alone. -/
theorem vecSays_2 (A B : Option Addr) (n c m d : Nat) (x : Int) (xs ys : List Int) (w : World) (hx : Ints .i64 w A n xs) (hy : Ints .i64 w B m ys) (hn : n ≤ 200) (hm : 200 < m) :
    Calls Try.prog 9 #[.slice A n c, .slice B m d, .int .i64 x] w fun e w' => e = .returned (.bool true) ∧ Below w.heap.size w w' := by
  have e0 : pairE xs ys = 2 := pairE_no (by rw [hy.len]; exact .inr hm)
  have H1 := fun W => vec_Dot_no A B n c m d xs ys W hx.len hy.len (by rw [e0]; decide)
  have H2 := fun W => vec_Sum_no A B n c m d xs ys W hx.len hy.len (by rw [e0]; decide)
  rw [e0] at H1 H2
  have H1' := Lib.hid H1
  have H2' := Lib.hid H2
  clear e0 H1 H2
  obtain ⟨i0, hi0, hz0, hz1, hz2⟩ := info_parts int_info
  go_enter Try.func9, Try.ntmps9
  go_wp2
  go_loopw [11, 14, 62] (fun o _ i wr => ∃ j : Nat, j ≤ n ∧ i = .int .i64 j ∧ wr.ownsRow w.heap.size 3 1 o j ((upto (fun j => mulF (at0 xs j) x) j).map (.int .i64)) ∧ Below w.heap.size w wr) (fun _ _ i _ => n - (intOf i).toNat)
  case atStart => exact ⟨0, Nat.zero_le _, rfl, World.ownsRow_nil _ _ _ _, Below.refl _ _⟩
  case round =>
    obtain ⟨j, hk, rfl, hown, hb⟩ := hrel
    by_cases hlt : j < n
    · obtain ⟨b, off, rfl, hbl, hc⟩ := hx.cells (by omega)
      have g1 := (hb.cell (p := ⟨b, off + j, none⟩) hbl).trans (hc j hlt)
      have hbs := hb.size
      clear hc
      go_wp2_with (first
        | (go_at_call 26; refine (ref_Mul _ _ _).mono ?_; rintro e w2 ⟨rfl, hq2⟩; have hown2 := own_quiet hown hq2; have hbq := Quiet.after hb hq2)
        | (at_builtin; refine wpList_append_own _ rfl _ _ 31 rfl w.heap.size 3 i0 (.int .i64 0) 1 8 Try.underlying31 hi0 hz0 hz1 hz2 rfl (by decide) u11 j _ rfl (hown2.alloc _) ⟨w2.heap.size, 0, none⟩ 1 1 [.int .i64 (mulF (at0 xs j) x)] rfl rfl (cell_one_new _ _ _) (by simp [Value.oneCell']) (by unfold maxLen; omega) (by omega) (by have := hbq.size; simp; omega) ?_; intro v1 w1 hown1 hgrow _))
      have hb2 : Below w.heap.size w w1 := Below.grown (hbq.alloc hbq.size _) hgrow (by have := hbq.size; simp; omega) (fun x hx => (hown.lt x hx).1)
      rw [← List.map_singleton, ← List.map_append, ← upto_succ (fun j => mulF (at0 xs j) x)] at hown1
      clear hgrow
      go_roundw
      case rel => exact ⟨j + 1, by omega, by go_num, hown1, hb2⟩
      case measure => simp [intOf]; omega
    · obtain rfl : n = j := by omega
      obtain ⟨A1, c1, rfl, hI⟩ := own_ints hown
      have hT : upto (fun j => mulF (at0 xs j) x) n = timesL xs x := by unfold timesL; rw [hx.len]
      rw [hT] at hI
      have hlT := timesL_length xs x
      rw [hx.len] at hlT
      have HL := Lib.hid hlT
      clear hT hown hlT
      go_wp2_with (first
        | (go_at_call 28; refine (H1'.out _).mono ?_; rintro e w1 ⟨rfl, hb1⟩)
        | (go_at_call 29; refine (H2'.out _).mono ?_; rintro e w2 ⟨rfl, hb2⟩; have hbw := bel_trans hb1 hb2)
        | (go_at_call 30; refine (vec_Times_ok A n c x xs _ ((hx.below hb).below hbw) hn).mono ?_; rintro e w3 ⟨A2, c2, rfl, hown3, hb3⟩; have hbz := bel_trans hbw hb3; have hI2 := hI.below hbz; have hI3 := Ints.of_own hown3 rfl))
      refine (equalI_len none none 0 0 0 [] [] _ (Ints.nil _ _ _) (Ints.nil _ _ _) (by omega)).mono ?_
      rintro e w4 ⟨rfl, k, rfl⟩
      go_wp2_with fail
      refine (equalI_any A2 A1 _ _ _ _ _ _ _ (hI3.drewN _) (hI2.drewN _) (by rw [HL.out]; omega)).mono ?_
      rintro e w5 ⟨rfl, k', rfl⟩
      rw [decide_eq_true rfl]
      go_wp2
      go_ret
      exact ⟨rfl, bel_drewN (hb.trans (hbz.mono hb.size)) _⟩

set_option maxRecDepth 100000 in
set_option maxHeartbeats 1500000 in
/-- As many as may be, but not as long. -/
theorem vecSays_3 (A B : Option Addr) (n c m d : Nat) (x : Int) (xs ys : List Int) (w : World) (hx : Ints .i64 w A n xs) (hy : Ints .i64 w B m ys) (hn : n ≤ 200) (hm : m ≤ 200) (hnm : n ≠ m) :
    Calls Try.prog 9 #[.slice A n c, .slice B m d, .int .i64 x] w fun e w' => e = .returned (.bool true) ∧ Below w.heap.size w w' := by
  have e0 : pairE xs ys = 5 := pairE_form (by rw [hx.len, hy.len]; omega) (by rw [hx.len, hy.len]; exact hnm)
  have H1 := fun W => vec_Dot_no A B n c m d xs ys W hx.len hy.len (by rw [e0]; decide)
  have H2 := fun W => vec_Sum_no A B n c m d xs ys W hx.len hy.len (by rw [e0]; decide)
  rw [e0] at H1 H2
  have H1' := Lib.hid H1
  have H2' := Lib.hid H2
  clear e0 H1 H2
  have hl1 : ((n : Int) != (m : Int)) = true := by rw [bne_iff_ne]; omega
  clear hnm
  obtain ⟨i0, hi0, hz0, hz1, hz2⟩ := info_parts int_info
  go_enter Try.func9, Try.ntmps9
  go_wp2
  go_loopw [11, 14, 62] (fun o _ i wr => ∃ j : Nat, j ≤ n ∧ i = .int .i64 j ∧ wr.ownsRow w.heap.size 3 1 o j ((upto (fun j => mulF (at0 xs j) x) j).map (.int .i64)) ∧ Below w.heap.size w wr) (fun _ _ i _ => n - (intOf i).toNat)
  case atStart => exact ⟨0, Nat.zero_le _, rfl, World.ownsRow_nil _ _ _ _, Below.refl _ _⟩
  case round =>
    obtain ⟨j, hk, rfl, hown, hb⟩ := hrel
    by_cases hlt : j < n
    · obtain ⟨b, off, rfl, hbl, hc⟩ := hx.cells (by omega)
      have g1 := (hb.cell (p := ⟨b, off + j, none⟩) hbl).trans (hc j hlt)
      have hbs := hb.size
      clear hc
      go_wp2_with (first
        | (go_at_call 26; refine (ref_Mul _ _ _).mono ?_; rintro e w2 ⟨rfl, hq2⟩; have hown2 := own_quiet hown hq2; have hbq := Quiet.after hb hq2)
        | (at_builtin; refine wpList_append_own _ rfl _ _ 31 rfl w.heap.size 3 i0 (.int .i64 0) 1 8 Try.underlying31 hi0 hz0 hz1 hz2 rfl (by decide) u11 j _ rfl (hown2.alloc _) ⟨w2.heap.size, 0, none⟩ 1 1 [.int .i64 (mulF (at0 xs j) x)] rfl rfl (cell_one_new _ _ _) (by simp [Value.oneCell']) (by unfold maxLen; omega) (by omega) (by have := hbq.size; simp; omega) ?_; intro v1 w1 hown1 hgrow _))
      have hb2 : Below w.heap.size w w1 := Below.grown (hbq.alloc hbq.size _) hgrow (by have := hbq.size; simp; omega) (fun x hx => (hown.lt x hx).1)
      rw [← List.map_singleton, ← List.map_append, ← upto_succ (fun j => mulF (at0 xs j) x)] at hown1
      clear hgrow
      go_roundw
      case rel => exact ⟨j + 1, by omega, by go_num, hown1, hb2⟩
      case measure => simp [intOf]; omega
    · obtain rfl : n = j := by omega
      obtain ⟨A1, c1, rfl, hI⟩ := own_ints hown
      have hT : upto (fun j => mulF (at0 xs j) x) n = timesL xs x := by unfold timesL; rw [hx.len]
      rw [hT] at hI
      have hlT := timesL_length xs x
      rw [hx.len] at hlT
      have HL := Lib.hid hlT
      clear hT hown hlT
      go_wp2_with (first
        | (go_at_call 28; refine (H1'.out _).mono ?_; rintro e w1 ⟨rfl, hb1⟩)
        | (go_at_call 29; refine (H2'.out _).mono ?_; rintro e w2 ⟨rfl, hb2⟩; have hbw := bel_trans hb1 hb2)
        | (go_at_call 30; refine (vec_Times_ok A n c x xs _ ((hx.below hb).below hbw) hn).mono ?_; rintro e w3 ⟨A2, c2, rfl, hown3, hb3⟩; have hbz := bel_trans hbw hb3; have hI2 := hI.below hbz; have hI3 := Ints.of_own hown3 rfl))
      refine (equalI_len none none 0 0 0 [] [] _ (Ints.nil _ _ _) (Ints.nil _ _ _) (by omega)).mono ?_
      rintro e w4 ⟨rfl, k, rfl⟩
      go_wp2_with fail
      refine (equalI_any A2 A1 _ _ _ _ _ _ _ (hI3.drewN _) (hI2.drewN _) (by rw [HL.out]; omega)).mono ?_
      rintro e w5 ⟨rfl, k', rfl⟩
      rw [decide_eq_true rfl]
      go_wp2
      go_ret
      exact ⟨rfl, bel_drewN (hb.trans (hbz.mono hb.size)) _⟩

set_option maxRecDepth 100000 in
set_option maxHeartbeats 1500000 in
/-- As long as each other: the sums that the law itself makes. -/
theorem vecSays_4 (A B : Option Addr) (n c d : Nat) (x : Int) (xs ys : List Int) (w : World) (hx : Ints .i64 w A n xs) (hy : Ints .i64 w B n ys) (hn : n ≤ 200) :
    Calls Try.prog 9 #[.slice A n c, .slice B n d, .int .i64 x] w fun e w' => e = .returned (.bool true) ∧ Below w.heap.size w w' := by
  obtain ⟨i0, hi0, hz0, hz1, hz2⟩ := info_parts int_info
  go_enter Try.func9, Try.ntmps9
  go_wp2_with (go_at_call 27; refine (ref_Dot A B n c d n xs ys _ hx hy (by omega) (by omega)).mono ?_; rintro e w0 ⟨rfl, hq0⟩; have hx0 := hx.quiet hq0; have hy0 := hy.quiet hq0)
  go_loopw [10, 12, 26] (fun o _ i wr => ∃ k : Nat, k ≤ n ∧ i = .int .i64 k ∧ wr.ownsRow w0.heap.size 3 1 o k ((upto (fun k => addF (at0 xs k) (at0 ys k)) k).map (.int .i64)) ∧ Below w0.heap.size w0 wr) (fun _ _ i _ => n - (intOf i).toNat)
  case atStart => exact ⟨0, Nat.zero_le _, rfl, World.ownsRow_nil _ _ _ _, Below.refl _ _⟩
  case round =>
    obtain ⟨k, hk, rfl, hown, hb⟩ := hrel
    by_cases hlt : k < n
    · obtain ⟨b, off, rfl, hbl, hc⟩ := hx0.cells (by omega)
      obtain ⟨b', off', rfl, hbl', hc'⟩ := hy0.cells (by omega)
      have g1 := (hb.cell (p := ⟨b, off + k, none⟩) hbl).trans (hc k hlt)
      have g2 := (hb.cell (p := ⟨b', off' + k, none⟩) hbl').trans (hc' k hlt)
      have z1 : (0 : Int) ≤ (k : Int) := Int.natCast_nonneg _
      have z2 : (k : Int) < (n : Int) := by omega
      have ne1 : u10.ownBlock ≠ some b := fun h => by have := (hown.lt b h).1; omega
      have ne2 : u10.ownBlock ≠ some b' := fun h => by have := (hown.lt b' h).1; omega
      have hbs := hb.size
      clear hc hc'
      go_wp2
      go_region_held3 (fun w' => w'.cell? ⟨b, off + k, none⟩ = some (.int .i64 (at0 xs k)) ∧ w'.cell? ⟨b', off' + k, none⟩ = some (.int .i64 (at0 ys k)))
        (first
          | go_keep
          | (go_split_ands
             refine ⟨?_, ?_⟩
             · (rw [hgrow.cell_far _ (by simp; omega) (Ne.symm ne1)]; assumption)
             · (rw [hgrow.cell_far _ (by simp; omega) (Ne.symm ne2)]; assumption)))
        (first
          | (go_at_call 23; refine (ref_Add _ _ _).mono ?_; rintro e w' ⟨rfl, rfl⟩)
          | (refine step_append_lies _ (by rfl) _ _ _ (by rfl) w0.heap.size 3 i0 _ 1 8 Try.underlying31 hi0 hz0 hz1 hz2 rfl (by omega) u10 k _ (by rfl) (by exact (hown.alloc _).drew)
              ⟨wr.heap.size, 0, none⟩ 1 1 [.int .i64 (addF (at0 xs k) (at0 ys k))] (by rfl) (by rfl) (World.news_of_block (cs := #[.int .i64 (addF (at0 xs k) (at0 ys k))]) (t := 3) (fr := (0, 0)) (heap_alloc_new wr _)) (by simp [Value.oneCell'])
              (by omega) (by unfold maxLen; omega) (by omega) (by simp; omega) (wr.heap.size + 1) (by simp) ?_; intro gg cap w1 hown1 hgrow hat hlt1))
      have hb2 : Below w0.heap.size w0 w1 := Below.grown (hb.alloc hbs _).drew hgrow (by simp; omega) (fun x hx => (hown.lt x hx).1)
      rw [← List.map_singleton, ← List.map_append, ← upto_succ (fun k => addF (at0 xs k) (at0 ys k))] at hown1
      clear hgrow hat hlt1 ne1 ne2 g1 g2
      go_wp2
      go_roundw
      case rel => exact ⟨k + 1, by omega, by go_num, hown1, hb2⟩
      case measure => simp [intOf]; omega
    · obtain rfl : n = k := by omega
      obtain ⟨A1, c1, rfl, hI⟩ := own_ints hown
      have hT : upto (fun k => addF (at0 xs k) (at0 ys k)) n = sumL xs ys := by unfold sumL; rw [hx.len]
      rw [hT] at hI
      clear hT hown
      obtain ⟨wo, rfl⟩ : ∃ wo : World, wo = wr := ⟨_, rfl⟩
      have hxo := hx0.below hb
      have hyo := hy0.below hb
      have hbo := bel_trans hq0.below hb
      clear hb
      go_wp2
      go_loopw [11, 14, 62] (fun o _ i wr => ∃ j : Nat, j ≤ n ∧ i = .int .i64 j ∧ wr.ownsRow wo.heap.size 3 1 o j ((upto (fun j => mulF (at0 xs j) x) j).map (.int .i64)) ∧ Below wo.heap.size wo wr) (fun _ _ i _ => n - (intOf i).toNat)
      case atStart => exact ⟨0, Nat.zero_le _, rfl, World.ownsRow_nil _ _ _ _, Below.refl _ _⟩
      case round =>
        obtain ⟨j, hk, rfl, hown, hb⟩ := hrel
        by_cases hlt : j < n
        · obtain ⟨b, off, rfl, hbl, hc⟩ := hxo.cells (by omega)
          have g1 := (hb.cell (p := ⟨b, off + j, none⟩) hbl).trans (hc j hlt)
          have hbs := hb.size
          clear hc
          go_wp2_with (first
            | (go_at_call 26; refine (ref_Mul _ _ _).mono ?_; rintro e w2 ⟨rfl, hq2⟩; have hown2 := own_quiet hown hq2; have hbq := Quiet.after hb hq2)
            | (at_builtin; refine wpList_append_own _ rfl _ _ 31 rfl wo.heap.size 3 i0 (.int .i64 0) 1 8 Try.underlying31 hi0 hz0 hz1 hz2 rfl (by decide) u11 j _ rfl (hown2.alloc _) ⟨w2.heap.size, 0, none⟩ 1 1 [.int .i64 (mulF (at0 xs j) x)] rfl rfl (cell_one_new _ _ _) (by simp [Value.oneCell']) (by unfold maxLen; omega) (by omega) (by have := hbq.size; simp; omega) ?_; intro v1 w1 hown1 hgrow _))
          have hb2 : Below wo.heap.size wo w1 := Below.grown (hbq.alloc hbq.size _) hgrow (by have := hbq.size; simp; omega) (fun x hx => (hown.lt x hx).1)
          rw [← List.map_singleton, ← List.map_append, ← upto_succ (fun j => mulF (at0 xs j) x)] at hown1
          clear hgrow
          go_roundw
          case rel => exact ⟨j + 1, by omega, by go_num, hown1, hb2⟩
          case measure => simp [intOf]; omega
        · obtain rfl : n = j := by omega
          obtain ⟨A2, c2, rfl, hI'⟩ := own_ints hown
          have hT : upto (fun j => mulF (at0 xs j) x) n = timesL xs x := by unfold timesL; rw [hx.len]
          rw [hT] at hI'
          clear hT hown
          have hlS := Lib.hid ((sumL_length xs ys).trans hx.len)
          have hlT := Lib.hid ((timesL_length xs x).trans hx.len)
          have hX := hxo.below hb
          have hY := hyo.below hb
          have hS := hI.below hb
          have hbw := bel_trans hbo hb
          clear hb hbo hxo hyo hI hq0 hx0 hy0
          go_wp2_with fail
          refine (vec_Dot_ok A B n c d xs ys _ hX hY hn).mono ?_
          rintro e v1 ⟨rfl, b1⟩
          go_wp2_with fail
          refine (vec_Sum_ok A B n c d xs ys _ (hX.below b1) (hY.below b1) hn).mono ?_
          rintro e v2 ⟨A3, c3, rfl, o2, b2⟩
          have b12 := bel_trans b1 b2
          have I3 := Ints.of_own o2 rfl
          go_wp2_with fail
          refine (vec_Times_ok A n c x xs _ (hX.below b12) hn).mono ?_
          rintro e v3 ⟨A4, c4, rfl, o3, b3⟩
          have b123 := bel_trans b12 b3
          have I4 := Ints.of_own o3 rfl
          have I3' := I3.below b3
          have S3 := hS.below b123
          have T3 := hI'.below b123
          clear o2 o3 b1 b2 b3 b12 I3 hS hI'
          go_wp2_with fail
          refine (equalI_any A3 A1 _ _ _ _ _ _ _ I3' S3 (by rw [hlS.out]; omega)).mono ?_
          rintro e v4 ⟨rfl, k, rfl⟩
          rw [decide_eq_true rfl]
          go_wp2_with fail
          refine (equalI_any A4 A2 _ _ _ _ _ _ _ (I4.drewN _) (T3.drewN _) (by rw [hlT.out]; omega)).mono ?_
          rintro e v5 ⟨rfl, k', rfl⟩
          rw [decide_eq_true rfl]
          go_wp2
          go_ret
          exact ⟨rfl, bel_drewN (bel_trans hbw b123) _⟩

theorem vecSays_walk (A B : Option Addr) (n c m d : Nat) (x : Int) (xs ys : List Int) (w : World) (hx : Ints .i64 w A n xs) (hy : Ints .i64 w B m ys) :
    Calls Try.prog 9 #[.slice A n c, .slice B m d, .int .i64 x] w fun e w' => e = .returned (.bool true) ∧ Below w.heap.size w w' := by
  by_cases h1 : 200 < n
  · exact vecSays_1 A B n c m d x xs ys w hx hy h1
  · by_cases h2 : 200 < m
    · exact vecSays_2 A B n c m d x xs ys w hx hy (by omega) h2
    · by_cases h3 : n = m
      · subst h3
        exact vecSays_4 A B n c d x xs ys w hx hy (by omega)
      · exact vecSays_3 A B n c m d x xs ys w hx hy (by omega) (by omega) h3

theorem cells_int : Try.prog.cellsOf 3 = 1 := by kernel_rfl

set_option maxRecDepth 100000 in
theorem vecSays_lifted (os : Os) (started : os.Started) (H : Type) (enc : TypeId × Value → H) :
    ReturnsInHanded {} Try.checked os 9 .any (Rows.vecSaysSpec.pre6 enc Try.prog Try.f9 Rows.vecSaysRow.domain false) (Rows.vecSaysSpec.post enc Try.prog Try.f9 false true false false) := by
  refine lift_law (fn := Try.f9) started (by kernel_rfl) Try.func9
    (ChangeSpec.witness6 (enc := enc) (C := Try.checked) false ⟨#[], #[.slice none 0 0, .slice none 0 0, .int .i64 0], []⟩ 8 (by kernel_rfl) (by kernel_rfl) (by kernel_rfl) (by kernel_rfl)) (by kernel_rfl) rfl Try.underlying4 rfl ?_ ?_
  · intro ds h
    rw [Try.params9] at h
    match ds, h with
    | [d0, d1, d2], _ => rfl
  · intro W args ds ps hA hlt hval hsz
    rw [Try.params9] at hA hval hsz
    obtain ⟨v0, vs0, d0, ds0, p0, q0, hargs, rfl, rfl, h0, r0⟩ := trodAll_cons hA
    obtain ⟨v1, vs1, d1, ds1, p1, q1, rfl, rfl, rfl, h1, r1⟩ := trodAll_cons r0
    obtain ⟨v2, vs2, d2, ds2, p2, q2, rfl, rfl, rfl, h2, r2⟩ := trodAll_cons r1
    obtain ⟨rfl, rfl, rfl⟩ := trodAll_nil r2
    obtain rfl : args = #[v0, v1, v2] := by cases args; simp_all
    obtain ⟨b0, hv0⟩ := hval 0 31 v0 rfl rfl
    obtain ⟨b1, hv1⟩ := hval 1 31 v1 rfl rfl
    obtain ⟨b2, hv2⟩ := hval 2 3 v2 rfl rfl
    obtain ⟨A0, n0, c0, rfl⟩ := okWide_slice Try.underlying31 hv0
    obtain ⟨A1, n1, c1, rfl⟩ := okWide_slice Try.underlying31 hv1
    obtain ⟨f0, h0⟩ := h0
    obtain ⟨f1, h1⟩ := h1
    obtain ⟨A0', n0', c0', xs, e0, I0, _, _, _, _⟩ := open_Ints (k := .i64) Try.underlying31 Try.underlying3 cells_int (fun _ => rfl) h0
    obtain ⟨A1', n1', c1', ys, e1, I1, _, _, _, _⟩ := open_Ints (k := .i64) Try.underlying31 Try.underlying3 cells_int (fun _ => rfl) h1
    simp only [Value.cells, List.cons.injEq, and_true, Value.slice.injEq] at e0 e1
    obtain ⟨rfl, rfl, rfl⟩ := e0
    obtain ⟨rfl, rfl, rfl⟩ := e1
    obtain ⟨a2, rfl, rfl, rfl, w2⟩ := open_int Try.underlying3 hv2 h2
    exact vecSays_walk A0 A1 n0 c0 n1 c1 a2 xs ys W I0 I1
theorem VecSays_holds : Rows.VecSaysSaid :=
  OpenClaim.holds_of_wide 9 Try.f9 rfl rfl rfl rfl rfl rfl rfl ⟨rfl, rfl, rfl, rfl, rfl⟩ rfl rfl rfl rfl rfl (by kernel_rfl) Try.func9 (by kernel_rfl)
    (of_decide_eq_true (by kernel_rfl)) (by unfold Func.isWrapper; first | (rw [if_pos (by decide +kernel)]; kernel_rfl) | (rw [if_neg (by decide +kernel)]; exact ⟨rfl, rfl⟩))
    (fun os started H enc _ => vecSays_lifted os started H enc)

end Go.Proofs.Ytflljldlfgpimaa
