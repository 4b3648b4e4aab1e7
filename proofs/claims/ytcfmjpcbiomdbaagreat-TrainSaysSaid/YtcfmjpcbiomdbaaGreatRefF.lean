/- What comes out of a pupil: the document's own Forward, Fits, Loss: walks. -/
import Derived.Test.YtcfmjpcbiomdbaaGreatPupL
import Derived.Test.YtcfmjpcbiomdbaaGreatRefPup
import Derived.Deep.RegionLaw
namespace Go.Proofs.YtcfmjpcbiomdbaaGreat
open Go.RowKit Pl

theorem hidL_at (H I : Nat) (a1 b1 x : List Int) {k : Nat} (hk : k < H) : at0 (hidL H I a1 b1 x) k = max (addF (dotN (rowL a1 I k) x I) (at0 b1 k)) 0 := by
  unfold hidL reluL
  rw [at0_upto _ (by rw [sumL_length, mulL_length]; exact hk)]
  unfold sumL
  rw [at0_upto _ (by rw [mulL_length]; exact hk)]
  unfold mulL
  rw [at0_upto _ hk]
theorem outpL_at (H I O : Nat) (a1 b1 a2 b2 x : List Int) {k : Nat} (hk : k < O) : at0 (outpL H I O a1 b1 a2 b2 x) k = addF (dotN (rowL a2 H k) (hidL H I a1 b1 x) H) (at0 b2 k) := by
  unfold outpL sumL
  rw [at0_upto _ (by rw [mulL_length]; exact hk)]
  unfold mulL
  rw [at0_upto _ hk]

theorem own_sliceR {w : World} {base : Nat} {e : TypeId} {v : Value} {n : Nat} {xs : List Value} (h : w.ownsRow base e 1 v n xs) : ∃ A c, v = .slice A n c := by
  rcases h.2 with ⟨rfl, h0⟩ | ⟨g, cap, cur, rfl, _⟩
  · subst h0
    exact ⟨none, 0, rfl⟩
  · exact ⟨_, cap, rfl⟩
theorem ref_lineR (r c k : Nat) (A : Option Addr) (n cap : Nat) (xs : List Int) (w : World) (hx : Ints .i64 w A n xs) (hr : 1 ≤ r ∧ r ≤ 4) (hc : 1 ≤ c ∧ c ≤ 4) (hn : n = r * c) (hk : k < r) :
    Calls Tryz.prog 50 #[(.agg #[.int .i64 r, .int .i64 c, .slice A n cap]), .int .i64 k, .bool false] w fun e w' => ∃ l cp, e = .returned (.slice l c cp) ∧ Ints .i64 w' l c (rowL xs c k) ∧ Below w.heap.size w w' :=
  (ref_line r c k A n cap xs false w hx hr hc hn (fun h => by first | exact hk | exact absurd h (by decide)) (fun h => by first | exact hk | exact absurd h (by decide))).mono fun e w' ⟨l, cp, he, ho, hb⟩ => ⟨l, cp, he, Ints.of_own ho (upto_length _ _), hb⟩
theorem ref_lineC (r c k : Nat) (A : Option Addr) (n cap : Nat) (xs : List Int) (w : World) (hx : Ints .i64 w A n xs) (hr : 1 ≤ r ∧ r ≤ 4) (hc : 1 ≤ c ∧ c ≤ 4) (hn : n = r * c) (hk : k < c) :
    Calls Tryz.prog 50 #[(.agg #[.int .i64 r, .int .i64 c, .slice A n cap]), .int .i64 k, .bool true] w fun e w' => ∃ l cp, e = .returned (.slice l r cp) ∧ Ints .i64 w' l r (colL xs c r k) ∧ Below w.heap.size w w' :=
  (ref_line r c k A n cap xs true w hx hr hc hn (fun h => by first | exact hk | exact absurd h (by decide)) (fun h => by first | exact hk | exact absurd h (by decide))).mono fun e w' ⟨l, cp, he, ho, hb⟩ => ⟨l, cp, he, Ints.of_own ho (upto_length _ _), hb⟩
set_option maxRecDepth 100000 in
set_option maxHeartbeats 6000000 in
theorem ref_Forward (H I O : Nat) (A1 : Option Addr) (n1 k1 : Nat) (a1 : List Int) (A2 : Option Addr) (n2 k2 : Nat) (a2 : List Int) (B1 : Option Addr) (d1 : Nat) (b1 : List Int) (B2 : Option Addr) (d2 : Nat) (b2 : List Int) (X : Option Addr) (xc : Nat) (x : List Int) (w : World)
    (i1 : Ints .i64 w A1 n1 a1) (i2 : Ints .i64 w A2 n2 a2) (j1 : Ints .i64 w B1 H b1) (j2 : Ints .i64 w B2 O b2) (ix : Ints .i64 w X I x) (hH : 1 ≤ H ∧ H ≤ 4) (hI : 1 ≤ I ∧ I ≤ 4) (hO : 1 ≤ O ∧ O ≤ 4) (e1 : n1 = H * I) (e2 : n2 = O * H) :
    Calls Tryz.prog 47 #[.agg #[.int .i64 H, .int .i64 I, .slice A1 n1 k1, .int .i64 O, .int .i64 H, .slice A2 n2 k2, .slice B1 H d1, .slice B2 O d2], .slice X I xc] w (Fwd w H O (hidL H I a1 b1 x) (outpL H I O a1 b1 a2 b2 x)) := by
  obtain ⟨i0, hi0, hz0, hz1, hz2⟩ := info_parts int_info
  obtain ⟨W0, hW0⟩ : ∃ W0, W0 = w.alloc (.cells #[.int .i64 H, .int .i64 I, .slice A1 n1 k1, .int .i64 O, .int .i64 H, .slice A2 n2 k2, .slice B1 H d1, .slice B2 O d2] 68) := ⟨_, rfl⟩
  have HB : Blk W0 w.heap.size 68 #[.int .i64 H, .int .i64 I, .slice A1 n1 k1, .int .i64 O, .int .i64 H, .slice A2 n2 k2, .slice B1 H d1, .slice B2 O d2] := by rw [hW0]; exact Blk.made _ _ _
  have bw : Below w.heap.size w W0 := by rw [hW0]; exact (Below.refl _ _).alloc (Nat.le_refl _) _
  have L1 := Lib.hid (fun W k (hk : k < H) (q : Ints .i64 W A1 n1 a1) => ref_lineR H I k A1 n1 k1 a1 W q hH hI e1 hk)
  have L2 := Lib.hid (fun W k (hk : k < O) (q : Ints .i64 W A2 n2 a2) => ref_lineR O H k A2 n2 k2 a2 W q hO hH e2 hk)
  have HH := Lib.hid (fun k hk => hidL_at H I a1 b1 x (k := k) hk)
  have HO := Lib.hid (fun k hk => outpL_at H I O a1 b1 a2 b2 x (k := k) hk)
  have HHL := Lib.hid (hidL_length H I a1 b1 x)
  have HYL := Lib.hid (outpL_length H I O a1 b1 a2 b2 x)
  obtain ⟨hs, hhs⟩ : ∃ hs, hs = hidL H I a1 b1 x := ⟨_, rfl⟩
  rw [← hhs] at HH HO HHL ⊢
  obtain ⟨ys, hys⟩ : ∃ ys, ys = outpL H I O a1 b1 a2 b2 x := ⟨_, rfl⟩
  rw [← hys] at HO HYL ⊢
  have i1' := i1.below bw
  have i2' := i2.below bw
  have j1' := j1.below bw
  have j2' := j2.below bw
  have ix' := ix.below bw
  have lt := HB.lt
  clear e1 e2 hhs hys i1 i2 j1 j2 ix
  go_enter Tryz.func47, Tryz.ntmps47
  go_wp2
  rw [← hW0]
  clear hW0
  go_loopw [6, 8, 9] (fun o i _ wr => ∃ k : Nat, k ≤ H ∧ i = .int .i64 k ∧ wr.ownsRow W0.heap.size 3 1 o k ((upto (at0 hs) k).map (.int .i64)) ∧ Below W0.heap.size W0 wr) (fun _ i _ _ => H - (intOf i).toNat)
  case atStart => exact ⟨0, Nat.zero_le _, rfl, World.ownsRow_nil _ _ _ _, Below.refl _ _⟩
  case round =>
    obtain ⟨k, hk, rfl, hown, hb⟩ := hrel
    have hbs := hb.size
    have HBr := HB.below hb lt
    by_cases hlt : k < H
    · obtain ⟨bb, fo, hB1, hbl, hcl⟩ := (j1'.below hb).cells (by omega)
      subst hB1
      have g1 := hcl k hlt
      have hbk := hbl
      obtain ⟨f0, f1, f2, f3, f4, f5, f6, f7⟩ := HBr.pup
      have hltr := HBr.lt
      obtain ⟨bk, hbkk⟩ : ∃ bk, bk = at0 b1 k := ⟨_, rfl⟩
      have HK := Lib.hid (HH.out k hlt)
      rw [← hbkk] at g1 HK
      have HS := Lib.hid (fun W (h : Below wr.heap.size wr W) => (show W.cell? ⟨w.heap.size, 0, none⟩ = some (.int .i64 H) ∧ W.cell? ⟨w.heap.size, 1, none⟩ = some (.int .i64 I) ∧ W.cell? ⟨w.heap.size, 2, none⟩ = some (.slice A1 n1 k1) ∧ W.cell? ⟨w.heap.size, 6, none⟩ = some (.slice (some ⟨bb, fo, none⟩) H d1) ∧ W.cell? ⟨bb, fo + k, none⟩ = some (.int .i64 bk) from
        ⟨(h.cell (p := ⟨w.heap.size, 0, none⟩) hltr).trans f0, (h.cell (p := ⟨w.heap.size, 1, none⟩) hltr).trans f1, (h.cell (p := ⟨w.heap.size, 2, none⟩) hltr).trans f2, (h.cell (p := ⟨w.heap.size, 6, none⟩) hltr).trans f6, (h.cell (p := ⟨bb, fo + k, none⟩) hbl).trans g1⟩))
      have LL := Lib.hid (fun W (q : Ints .i64 W A1 n1 a1) => L1.out W k hlt q)
      have i1r := i1'.below hb
      have ixr := ix'.below hb
      have k0 : (0 : Int) ≤ (k : Int) := by omega
      have k1' : (k : Int) < (H : Int) := by omega
      clear hcl hbkk
      go_wp2
      go_region_held3 (fun W => W.cell? ⟨w.heap.size, 0, none⟩ = some (.int .i64 H) ∧ W.cell? ⟨w.heap.size, 1, none⟩ = some (.int .i64 I) ∧ W.cell? ⟨w.heap.size, 2, none⟩ = some (.slice A1 n1 k1) ∧ W.cell? ⟨w.heap.size, 6, none⟩ = some (.slice (some ⟨bb, fo, none⟩) H d1) ∧ W.cell? ⟨bb, fo + k, none⟩ = some (.int .i64 bk))
        (first | exact HS.out _ ((Below.refl _ _).drew) | exact HS.out _ (bel_drewN hB1 _) | exact HS.out _ hB1 | go_keep)
        (first
          | (go_at_call 50; (with_reducible refine (LL.out _ (i1r.drew)).mono ?_); rintro e u1 ⟨l, cp, rfl, hIl, hb1⟩; have hB1 : Below wr.heap.size wr u1 := bel_trans ((Below.refl _ _).drew) hb1)
          | (go_at_call 49; (refine (ref_Dot l X I cp xc I _ x _ hIl (ixr.below hB1) (Nat.le_refl _) (by omega)).mono ?_); rintro e u2 ⟨rfl, q2, rfl⟩)
          | (go_at_call 32; (refine (ref_Add _ _ _).mono ?_); rintro e u3 ⟨rfl, rfl⟩)
          | fail)
      have hB2 : Below W0.heap.size W0 u1 := hb.trans (hB1.mono hbs)
      have hbs2 := hB2.size
      have hown2 := own_below hown hB1
      have F := Lib.hid (show upto (at0 hs) (k + 1) = upto (at0 hs) k ++ [at0 hs k] from upto_succ _ _)
      obtain ⟨y, hy⟩ : ∃ y, y = addF (dotN (rowL a1 I k) x I) bk := ⟨_, rfl⟩
      rw [← hy] at HK
      rw [← hy]
      clear hy f0 f1 f2 f3 f4 f5 f6 f7 g1 hIl
      obtain ⟨v, hv⟩ : ∃ v, v = max y 0 := ⟨_, rfl⟩
      rw [show at0 hs k = v by rw [HK.out]; exact hv.symm] at F
      by_cases hy0 : y < 0
      · obtain rfl : v = 0 := by omega
        clear hv
        go_wp2_with (at_builtin; refine wpList_append_own _ rfl _ _ 26 rfl W0.heap.size 3 i0 (.int .i64 0) 1 8 Tryz.underlying26 hi0 hz0 hz1 hz2 rfl (by decide) u6 k _ rfl ((own_drewN hown2 _).alloc _) ⟨u1.heap.size, 0, none⟩ 1 1 [.int .i64 0] rfl rfl (cell_one_new _ _ _) (by simp [Value.oneCell']) (by unfold maxLen; omega) (by omega) (by simp; omega) ?_; intro v1 w3 hown3 hgrow _)
        have hb3 : Below W0.heap.size W0 w3 := Below.grown ((bel_drewN hB2 _).alloc hbs2 _) hgrow (by simp; omega) (fun x hx => (hown.lt x hx).1)
        rw [← List.map_singleton, ← List.map_append, ← F.out] at hown3
        clear hgrow
        go_roundw
        case rel => exact ⟨k + 1, by omega, by go_num, hown3, hb3⟩
        case measure => simp [intOf]; omega
      · obtain rfl : v = y := by omega
        clear hv
        go_wp2_with (at_builtin; refine wpList_append_own _ rfl _ _ 26 rfl W0.heap.size 3 i0 (.int .i64 0) 1 8 Tryz.underlying26 hi0 hz0 hz1 hz2 rfl (by decide) u6 k _ rfl ((own_drewN hown2 _).alloc _) ⟨u1.heap.size, 0, none⟩ 1 1 [.int .i64 v] rfl rfl (cell_one_new _ _ _) (by simp [Value.oneCell']) (by unfold maxLen; omega) (by omega) (by simp; omega) ?_; intro v1 w3 hown3 hgrow _)
        have hb3 : Below W0.heap.size W0 w3 := Below.grown ((bel_drewN hB2 _).alloc hbs2 _) hgrow (by simp; omega) (fun x hx => (hown.lt x hx).1)
        rw [← List.map_singleton, ← List.map_append, ← F.out] at hown3
        clear hgrow
        go_roundw
        case rel => exact ⟨k + 1, by omega, by go_num, hown3, hb3⟩
        case measure => simp [intOf]; omega
    · obtain rfl : H = k := by omega
      rw [show upto (at0 hs) H = hs by rw [← HHL.out]; exact upto_at0 hs] at hown
      obtain ⟨S, s, rfl⟩ := own_sliceR hown
      have IH := Ints.of_own hown HHL.out
      obtain ⟨f0, f1, f2, f3, f4, f5, f6, f7⟩ := HBr.pup
      obtain ⟨wa, hwa⟩ : ∃ wa : World, wa = wr := ⟨_, rfl⟩
      go_wp2
      rw [← hwa] at hown hb hbs HBr IH f0 f1 f2 f3 f4 f5 f6 f7 ⊢
      clear hwa hlt
      have i2a := i2'.below hb
      have j2a := j2'.below hb
      have lta := HBr.lt
      go_loopw [7, 10] (fun o i wr => ∃ k : Nat, k ≤ O ∧ i = .int .i64 k ∧ wr.ownsRow wa.heap.size 3 1 o k ((upto (at0 ys) k).map (.int .i64)) ∧ Below wa.heap.size wa wr) (fun _ i _ => O - (intOf i).toNat)
      case atStart => exact ⟨0, Nat.zero_le _, rfl, World.ownsRow_nil _ _ _ _, Below.refl _ _⟩
      case round =>
        clear f0 f1 f2 f3 f4 f5 f6 f7
        obtain ⟨k, hk, rfl, hown2, hb2⟩ := hrel
        have hbs2 := hb2.size
        have HB2 := HBr.below hb2 lta
        by_cases hlt : k < O
        · obtain ⟨bb, fo, hB2, hbl, hcl⟩ := (j2a.below hb2).cells (by omega)
          subst hB2
          have g1 := hcl k hlt
          obtain ⟨f0, f1, f2, f3, f4, f5, f6, f7⟩ := HB2.pup
          have hltr := HB2.lt
          obtain ⟨bk, hbkk⟩ : ∃ bk, bk = at0 b2 k := ⟨_, rfl⟩
          have HK := Lib.hid (HO.out k hlt)
          rw [← hbkk] at g1 HK
          have HS := Lib.hid (fun W (h : Below wr.heap.size wr W) => (show W.cell? ⟨w.heap.size, 3, none⟩ = some (.int .i64 O) ∧ W.cell? ⟨w.heap.size, 4, none⟩ = some (.int .i64 H) ∧ W.cell? ⟨w.heap.size, 5, none⟩ = some (.slice A2 n2 k2) ∧ W.cell? ⟨w.heap.size, 7, none⟩ = some (.slice (some ⟨bb, fo, none⟩) O d2) ∧ W.cell? ⟨bb, fo + k, none⟩ = some (.int .i64 bk) from
            ⟨(h.cell (p := ⟨w.heap.size, 3, none⟩) hltr).trans f3, (h.cell (p := ⟨w.heap.size, 4, none⟩) hltr).trans f4, (h.cell (p := ⟨w.heap.size, 5, none⟩) hltr).trans f5, (h.cell (p := ⟨w.heap.size, 7, none⟩) hltr).trans f7, (h.cell (p := ⟨bb, fo + k, none⟩) hbl).trans g1⟩))
          have LL := Lib.hid (fun W (q : Ints .i64 W A2 n2 a2) => L2.out W k hlt q)
          have i2r := i2a.below hb2
          have ihr := IH.below hb2
          have k0 : (0 : Int) ≤ (k : Int) := by omega
          have k1' : (k : Int) < (O : Int) := by omega
          obtain ⟨y, hy⟩ : ∃ y, y = at0 ys k := ⟨_, rfl⟩
          rw [← hy] at HK
          have F := Lib.hid (show upto (at0 ys) (k + 1) = upto (at0 ys) k ++ [y] by rw [hy]; exact upto_succ _ _)
          have ne2 : some w.heap.size ≠ u7.ownBlock := fun h => by have := (hown2.lt _ h.symm).1; omega
          have hbla : bb < wa.heap.size := by
            obtain ⟨b', o', e', hl', _⟩ := j2a.cells (by omega)
            injection e' with e'
            injection e' with e1' _
            omega
          have ne3 : some bb ≠ u7.ownBlock := fun h => by have := (hown2.lt _ h.symm).1; omega
          have neb : ∀ x, u7.ownBlock = some x → wa.heap.size ≤ x := fun x h => (hown2.lt x h).1
          clear hcl hbkk hy
          go_wp2
          go_region_held3 (fun W => W.cell? ⟨w.heap.size, 3, none⟩ = some (.int .i64 O) ∧ W.cell? ⟨w.heap.size, 4, none⟩ = some (.int .i64 H) ∧ W.cell? ⟨w.heap.size, 5, none⟩ = some (.slice A2 n2 k2) ∧ W.cell? ⟨w.heap.size, 7, none⟩ = some (.slice (some ⟨bb, fo, none⟩) O d2) ∧ W.cell? ⟨bb, fo + k, none⟩ = some (.int .i64 bk))
            (first | exact HS.out _ ((Below.refl _ _).drew) | exact HS.out _ (bel_drewN hB1 _) | exact HS.out _ hB1 | exact HS.out _ (hBA _) | exact f2 | go_keep)
            (first
              | (go_at_call 50; (with_reducible refine (LL.out _ (i2r.drew)).mono ?_); rintro e u1 ⟨l, cp, rfl, hIl, hb1⟩; have hB1 : Below wr.heap.size wr u1 := bel_trans ((Below.refl _ _).drew) hb1)
              | (go_at_call 49; (refine (ref_Dot l S H cp s H _ hs _ hIl (ihr.below hB1) (Nat.le_refl _) (by omega)).mono ?_); rintro e u2 ⟨rfl, q2, rfl⟩)
              | (go_at_call 32; (refine (ref_Add _ _ _).mono ?_); rintro e u3 ⟨rfl, rfl⟩; rw [← HK.out]; have hBD : Below wr.heap.size wr (u1.drewN q2) := bel_drewN hB1 _; have hBA : ∀ o, Below wr.heap.size wr ((u1.drewN q2).alloc o) := fun o => hBD.alloc hBD.size o; have F1 : ∀ o, ((u1.drewN q2).alloc o).ownsRow wa.heap.size 3 1 u7 k ((upto (at0 ys) k).map (.int .i64)) := fun o => (own_drewN (own_below hown2 hB1) _).alloc o; have hs1 := hBD.size; have F2 : ∀ o, wa.heap.size ≤ ((u1.drewN q2).alloc o).heap.size := fun o => (by simp at hs1 ⊢; omega); have F3 : k + 1 ≤ maxLen := (by unfold maxLen; omega); have F4 : (k + 1) * 8 ≤ 140737488355328 := (by omega))
              | ((refine step_append_lies _ (by rfl) _ _ _ (by rfl) wa.heap.size 3 i0 _ 1 8 Tryz.underlying26 hi0 hz0 hz1 hz2 rfl (by omega) u7 k _ (by rfl) (F1 _) ⟨u1.heap.size, 0, none⟩ 1 1 [.int .i64 y] (by rfl) (by rfl) (World.news_of_block (cs := #[.int .i64 y]) (t := 3) (fr := (0, 0)) (heap_alloc_new _ _)) (by simp [Value.oneCell']) (by omega) F3 F4 (F2 _) (u1.heap.size + 1) (by simp) ?_); intro gg cp' w4 hown4 hgrow hat hlt1; have hcf : ∀ b i, b < wr.heap.size → some b ≠ u7.ownBlock → w4.cell? ⟨b, i, none⟩ = wr.cell? ⟨b, i, none⟩ := (fun b i hb' hn => (World.cell?_of_block (hgrow.block b (by simp at hs1 ⊢; omega) hn)).trans ((hBA _).cell (p := ⟨b, i, none⟩) hb')); have f2 := And.intro ((hcf _ 3 hltr ne2).trans f3) (And.intro ((hcf _ 4 hltr ne2).trans f4) (And.intro ((hcf _ 5 hltr ne2).trans f5) (And.intro ((hcf _ 7 hltr ne2).trans f7) ((hcf _ (fo + k) hbl ne3).trans g1)))))
              | fail)
          have hb5 : Below wa.heap.size wa w4 := Below.grown ((hb2.trans (hBD.mono hbs2)).alloc (by simp at hs1 ⊢; omega) _) hgrow (by simp at hs1 ⊢; omega) neb
          rw [← List.map_singleton, ← List.map_append, ← F.out] at hown4
          clear hgrow hat hlt1 hcf f2 HS F1 F2 F3 F4 hBA
          go_wp2
          go_roundw
          case rel => exact ⟨k + 1, by omega, by go_num, hown4, hb5⟩
          case measure => simp [intOf]; omega
        · obtain rfl : O = k := by omega
          rw [show upto (at0 ys) O = ys by rw [← HYL.out]; exact upto_at0 ys] at hown2
          obtain ⟨T, tt, rfl⟩ := own_sliceR hown2
          obtain ⟨f0, f1, f2, f3, f4, f5, f6, f7⟩ := HB2.pup
          have hw0 := bw.size
          go_wp2
          go_ret2
          exact ⟨_, _, _, _, rfl, own_base (own_below hown hb2) hw0, own_base hown2 (Nat.le_trans hw0 hbs), bw.trans ((hb.trans (hb2.mono hbs)).mono hw0)⟩


end Go.Proofs.YtcfmjpcbiomdbaaGreat
