/- What the document's own Batch computes: a walk. -/
import Derived.Test.YtgodgedhddngeaaGreatDoorDrawW
import Derived.Test.YtgodgedhddngeaaGreatDoorPupC
set_option maxRecDepth 100000
set_option maxHeartbeats 16000000
namespace Go.Proofs.YtgodgedhddngeaaGreatDoor
open Go.RowKit Pl
def LastR (w : World) (seed n : Nat) (last order out : Value) (wr : World) : Prop :=
 (last = .int .i64 (-1) ∧ order = .slice none 0 0) ∨ ∃ L g c : Nat, last = .int .i64 L ∧ order = .slice (some ⟨g, 0, none⟩) n c ∧ wr.ownsRow w.heap.size 3 1 order n (vN (shufP seed L n)) ∧ out.ownBlock ≠ some g
theorem ref_Batch (seed : Int) (size n step : Nat) (w : World) (h0 : 0 ≤ seed) (h1 : seed < 18446744073709551616) (hs : 1 ≤ size) (hs' : size ≤ 8) (hn : 1 ≤ n) (hn' : n ≤ 16) (ht : step ≤ 39) :
  Calls Tryz.prog 148 #[.int .u64 seed, .int .i64 size, .int .i64 n, .int .i64 step] w fun e w' => ∃ A c, e = .returned (.slice A size c) ∧ w'.ownsRow w.heap.size 3 1 (.slice A size c) size (vN (batchP seed.toNat size n step)) ∧ Below w.heap.size w w' := by
 obtain ⟨i0, hi0, hz0, hz1, hz2⟩ := info_parts int_info
 obtain ⟨p, hp⟩ : ∃ p, p = step * size := ⟨_, rfl⟩
 have hp312 : p ≤ 312 := by rw [hp]; exact Nat.mul_le_mul ht hs'
 have e1 : (step : Int) * (size : Int) = (p : Int) := by rw [hp]; simp
 have HP := Lib.hid hp
 clear hp
 go_enter Tryz.func148, Tryz.ntmps148
 go_wp2
 go_loopw [9, 10, 11, 12] (fun o la od i wr => ∃ k : Nat, k ≤ size ∧ i = .int .i64 k ∧ wr.ownsRow w.heap.size 3 1 o k (vN (batK seed.toNat size n step k)) ∧ Below w.heap.size w wr ∧ LastR w seed.toNat n la od o wr) (fun _ _ _ i _ => size - (intOf i).toNat)
 case atStart => exact ⟨0, by omega, rfl, World.ownsRow_nil _ _ _ _, Below.refl _ _, .inl ⟨rfl, rfl⟩⟩
 case round =>
  obtain ⟨k, hk, rfl, hown, hb, hLR⟩ := hrel
  have hbs := hb.size
  by_cases hlt : k < size
  ·obtain ⟨t, ht⟩ : ∃ t, t = p + k := ⟨_, rfl⟩
   have et : (p : Int) + (k : Int) = (t : Int) := by rw [ht]; simp
   obtain ⟨a, ha⟩ : ∃ a, a = t / n := ⟨_, rfl⟩
   obtain ⟨b, hb'⟩ : ∃ b, b = t % n := ⟨_, rfl⟩
   have F := Lib.hid (show vN (batK seed.toNat size n step (k + 1)) = vN (batK seed.toNat size n step k) ++ [.int .i64 (atN (shufP seed.toNat a n) b : Nat)] by
    rw [batK_succ, vN_snoc, ← HP.out, ← ht, ha, hb']; rfl)
   have r1 : (t : Int).tdiv (n : Int) = (a : Int) := by rw [ha]; rfl
   have r2 : (t : Int).tmod (n : Int) = (b : Int) := by rw [hb']; rfl
   have r3 : (t : Int) / (n : Int) = (a : Int) := by rw [ha]; rfl
   have r4 : (t : Int) % (n : Int) = (b : Int) := by rw [hb']; rfl
   have hbn : b < n := by rw [hb']; exact Nat.mod_lt _ hn
   have hat : a ≤ t := by rw [ha]; exact Nat.div_le_self _ _
   have ha1000 : a ≤ 1000 := by omega
   have ht1000 : t ≤ 1000 := by omega
   have zb : (0 : Int) ≤ (b : Int) := Int.natCast_nonneg _
   have zb' : (b : Int) < (n : Int) := by omega
   have zn : ¬ n = 0 := by omega
   have hw1 := IntWalk.i64_in (a : Int) (by omega)
   have hw2 := IntWalk.i64_in (b : Int) (by omega)
   have HSH := Lib.hid (fun W => ref_Shuffle seed a n W h0 h1 ha1000 hn hn')
   have HT := Lib.hid ht
   clear ha hb' ht
   rcases hLR with ⟨rfl, rfl⟩ | ⟨L, g, c, rfl, rfl, ho, hne⟩
   ·have hd : ((a : Int) != -1) = true := by rw [bne_iff_ne]; omega
    go_wp2
    go_region_law (first
     | (go_simp; go_at_call 189; refine (HSH.out _).mono ?_; rintro e w2 ⟨g2, c2, rfl, ho2, hb2⟩; have hown2 := own_below (own_drew hown) hb2; have hb3 := hb.drew.trans (hb2.mono (show w.heap.size ≤ wr.drew.heap.size from hbs)); have hne2 : u9.ownBlock ≠ some g2 := (fun h => by have q1 := (hown.lt _ h).2; have q2 : wr.heap.size ≤ g2 := (ho2.lt g2 rfl).1; omega); have ho2 := own_base ho2 (show w.heap.size ≤ wr.drew.heap.size from hbs)))
    have hc2 := ho2.cellAt b (by omega)
    rw [vN_at _ (by rw [shufP_length]; exact hbn)] at hc2
    have hs3 := hb3.size
    have hgl := (ho2.lt g2 rfl).2
    go_wp2_with (at_builtin; refine wpList_append_lies _ rfl _ _ 56 rfl w.heap.size 3 i0 (.int .i64 0) 1 8 Tryz.underlying56 hi0 hz0 hz1 hz2 rfl (by decide) u9 k _ rfl (hown2.alloc _) ⟨w2.heap.size, 0, none⟩ 1 1 [.int .i64 (atN (shufP seed.toNat a n) b : Nat)] rfl rfl (cell_one_new _ _ _) (by simp [Value.oneCell']) (by decide) (by unfold maxLen; omega) (by omega) (by simp; omega) (w2.heap.size + 1) (by simp) ?_; intro gg cp w3 hown3 hgrow hat hlt3)
    have hb4 : Below w.heap.size w w3 := Below.grown (hb3.alloc hs3 _) hgrow (by simp; omega) (fun x hx => (hown.lt x hx).1)
    have ho3 := (ho2.alloc (.cells #[.int .i64 (atN (shufP seed.toNat a n) b : Nat)] 3)).kept hgrow (.inr (fun e => hne2 e.symm))
    have hne3 : (Value.slice (some ⟨gg, 0, none⟩) (k + 1) cp).ownBlock ≠ some g2 := by
     intro e
     have e' : gg = g2 := by injection e
     rcases hat with h | h
     ·exact hne2 (h.trans e)
     ·omega
    rw [← F.out] at hown3
    clear hgrow hw1 hw2 hat
    go_roundw
    case rel => exact ⟨k + 1, by omega, by go_num, hown3, hb4, .inr ⟨a, g2, c2, rfl, rfl, ho3, hne3⟩⟩
    case measure => simp [intOf]; omega
   ·by_cases hL : L = a
    ·subst hL
     have hd : ((L : Int) != (L : Int)) = false := bne_self_eq_false _
     have hc2 := ho.cellAt b (by omega)
     rw [vN_at _ (by rw [shufP_length]; exact hbn)] at hc2
     have hs3 := hb.size
     have hgl := (ho.lt g rfl).2
     go_wp2_with (at_builtin; refine wpList_append_lies _ rfl _ _ 56 rfl w.heap.size 3 i0 (.int .i64 0) 1 8 Tryz.underlying56 hi0 hz0 hz1 hz2 rfl (by decide) u9 k _ rfl (hown.alloc _) ⟨wr.heap.size, 0, none⟩ 1 1 [.int .i64 (atN (shufP seed.toNat L n) b : Nat)] rfl rfl (cell_one_new _ _ _) (by simp [Value.oneCell']) (by decide) (by unfold maxLen; omega) (by omega) (by simp; omega) (wr.heap.size + 1) (by simp) ?_; intro gg cp w3 hown3 hgrow hat hlt3)
     have hb4 : Below w.heap.size w w3 := Below.grown (hb.alloc hs3 _) hgrow (by simp; omega) (fun x hx => (hown.lt x hx).1)
     have ho3 := (ho.alloc (.cells #[.int .i64 (atN (shufP seed.toNat L n) b : Nat)] 3)).kept hgrow (.inr (fun e => hne e.symm))
     have hne3 : (Value.slice (some ⟨gg, 0, none⟩) (k + 1) cp).ownBlock ≠ some g := by
      intro e
      have e' : gg = g := by injection e
      rcases hat with h | h
      ·exact hne (h.trans e)
      ·omega
     rw [← F.out] at hown3
     clear hgrow hw1 hw2 hat
     go_roundw
     case rel => exact ⟨k + 1, by omega, by go_num, hown3, hb4, .inr ⟨L, g, c, rfl, rfl, ho3, hne3⟩⟩
     case measure => simp [intOf]; omega
    ·have hd : ((a : Int) != (L : Int)) = true := by rw [bne_iff_ne]; omega
     clear ho hne
     go_wp2
     go_region_law (first
      | (go_simp; go_at_call 189; refine (HSH.out _).mono ?_; rintro e w2 ⟨g2, c2, rfl, ho2, hb2⟩; have hown2 := own_below (own_drew hown) hb2; have hb3 := hb.drew.trans (hb2.mono (show w.heap.size ≤ wr.drew.heap.size from hbs)); have hne2 : u9.ownBlock ≠ some g2 := (fun h => by have q1 := (hown.lt _ h).2; have q2 : wr.heap.size ≤ g2 := (ho2.lt g2 rfl).1; omega); have ho2 := own_base ho2 (show w.heap.size ≤ wr.drew.heap.size from hbs)))
     have hc2 := ho2.cellAt b (by omega)
     rw [vN_at _ (by rw [shufP_length]; exact hbn)] at hc2
     have hs3 := hb3.size
     have hgl := (ho2.lt g2 rfl).2
     go_wp2_with (at_builtin; refine wpList_append_lies _ rfl _ _ 56 rfl w.heap.size 3 i0 (.int .i64 0) 1 8 Tryz.underlying56 hi0 hz0 hz1 hz2 rfl (by decide) u9 k _ rfl (hown2.alloc _) ⟨w2.heap.size, 0, none⟩ 1 1 [.int .i64 (atN (shufP seed.toNat a n) b : Nat)] rfl rfl (cell_one_new _ _ _) (by simp [Value.oneCell']) (by decide) (by unfold maxLen; omega) (by omega) (by simp; omega) (w2.heap.size + 1) (by simp) ?_; intro gg cp w3 hown3 hgrow hat hlt3)
     have hb4 : Below w.heap.size w w3 := Below.grown (hb3.alloc hs3 _) hgrow (by simp; omega) (fun x hx => (hown.lt x hx).1)
     have ho3 := (ho2.alloc (.cells #[.int .i64 (atN (shufP seed.toNat a n) b : Nat)] 3)).kept hgrow (.inr (fun e => hne2 e.symm))
     have hne3 : (Value.slice (some ⟨gg, 0, none⟩) (k + 1) cp).ownBlock ≠ some g2 := by
      intro e
      have e' : gg = g2 := by injection e
      rcases hat with h | h
      ·exact hne2 (h.trans e)
      ·omega
     rw [← F.out] at hown3
     clear hgrow hw1 hw2 hat
     go_roundw
     case rel => exact ⟨k + 1, by omega, by go_num, hown3, hb4, .inr ⟨a, g2, c2, rfl, rfl, ho3, hne3⟩⟩
     case measure => simp [intOf]; omega
  ·obtain rfl : size = k := by omega
   obtain ⟨A, c, rfl⟩ := own_slice hown
   clear hLR
   go_wp2
   go_ret
   exact ⟨A, c, rfl, hown, hb⟩
theorem hidL_at (H I : Nat) (a1 b1 x : List Int) {k : Nat} (hk : k < H) : at0 (hidL H I a1 b1 x) k = max (addF (dotN (rowL a1 I k) x I) (at0 b1 k)) 0 := by
 unfold hidL reluL
 rw [at0_upto _ (by rw [sumL_length, mulL_length]; exact hk)]
 unfold sumL
 rw [at0_upto _ (by rw [mulL_length]; exact hk)]
 unfold mulL
 rw [at0_upto _ hk]
theorem outpL_at (H I O : Nat) (a1 b1 a2 b2 x : List Int) {k : Nat} (hk : k < O) : at0 (outpL H I O a1 b1 a2 b2 x) k = addF (dotN (rowL a2 H k) (hidL H I a1 b1 x) H) (at0 b2 k) := by
 unfold outpL sumL
 rw [at0_upto _ (by rw [mulL_length]; exact hk)]
 unfold mulL
 rw [at0_upto _ hk]
theorem own_sliceR {w : World} {base : Nat} {e : TypeId} {v : Value} {n : Nat} {xs : List Value} (h : w.ownsRow base e 1 v n xs) : ∃ A c, v = .slice A n c := by
 rcases h.2 with ⟨rfl, h0⟩ | ⟨g, cap, cur, rfl, _⟩
 ·subst h0
  exact ⟨none, 0, rfl⟩
 ·exact ⟨_, cap, rfl⟩
theorem ref_lineR (r c k : Nat) (A : Option Addr) (n cap : Nat) (xs : List Int) (w : World) (hx : Ints .i64 w A n xs) (hr : 1 ≤ r ∧ r ≤ 4) (hc : 1 ≤ c ∧ c ≤ 4) (hn : n = r * c) (hk : k < r) :
  Calls Tryz.prog 156 #[(.agg #[.int .i64 r, .int .i64 c, .slice A n cap]), .int .i64 k, .bool false] w fun e w' => ∃ l cp, e = .returned (.slice l c cp) ∧ Ints .i64 w' l c (rowL xs c k) ∧ Below w.heap.size w w' :=
 (ref_line r c k A n cap xs false w hx hr hc hn (fun h => by first | exact hk | exact absurd h (by decide)) (fun h => by first | exact hk | exact absurd h (by decide))).mono fun e w' ⟨l, cp, he, ho, hb⟩ => ⟨l, cp, he, Ints.of_own ho (upto_length _ _), hb⟩
theorem ref_lineC (r c k : Nat) (A : Option Addr) (n cap : Nat) (xs : List Int) (w : World) (hx : Ints .i64 w A n xs) (hr : 1 ≤ r ∧ r ≤ 4) (hc : 1 ≤ c ∧ c ≤ 4) (hn : n = r * c) (hk : k < c) :
  Calls Tryz.prog 156 #[(.agg #[.int .i64 r, .int .i64 c, .slice A n cap]), .int .i64 k, .bool true] w fun e w' => ∃ l cp, e = .returned (.slice l r cp) ∧ Ints .i64 w' l r (colL xs c r k) ∧ Below w.heap.size w w' :=
 (ref_line r c k A n cap xs true w hx hr hc hn (fun h => by first | exact hk | exact absurd h (by decide)) (fun h => by first | exact hk | exact absurd h (by decide))).mono fun e w' ⟨l, cp, he, ho, hb⟩ => ⟨l, cp, he, Ints.of_own ho (upto_length _ _), hb⟩
theorem ref_Forward (H I O : Nat) (A1 : Option Addr) (n1 k1 : Nat) (a1 : List Int) (A2 : Option Addr) (n2 k2 : Nat) (a2 : List Int) (B1 : Option Addr) (d1 : Nat) (b1 : List Int) (B2 : Option Addr) (d2 : Nat) (b2 : List Int) (X : Option Addr) (xc : Nat) (x : List Int) (w : World)
  (i1 : Ints .i64 w A1 n1 a1) (i2 : Ints .i64 w A2 n2 a2) (j1 : Ints .i64 w B1 H b1) (j2 : Ints .i64 w B2 O b2) (ix : Ints .i64 w X I x) (hH : 1 ≤ H ∧ H ≤ 4) (hI : 1 ≤ I ∧ I ≤ 4) (hO : 1 ≤ O ∧ O ≤ 4) (e1 : n1 = H * I) (e2 : n2 = O * H) :
  Calls Tryz.prog 102 #[.agg #[.int .i64 H, .int .i64 I, .slice A1 n1 k1, .int .i64 O, .int .i64 H, .slice A2 n2 k2, .slice B1 H d1, .slice B2 O d2], .slice X I xc] w (Fwd w H O (hidL H I a1 b1 x) (outpL H I O a1 b1 a2 b2 x)) := by
 obtain ⟨i0, hi0, hz0, hz1, hz2⟩ := info_parts int_info
 obtain ⟨W0, hW0⟩ : ∃ W0, W0 = w.alloc (.cells #[.int .i64 H, .int .i64 I, .slice A1 n1 k1, .int .i64 O, .int .i64 H, .slice A2 n2 k2, .slice B1 H d1, .slice B2 O d2] 102) := ⟨_, rfl⟩
 have HB : Blk W0 w.heap.size 102 #[.int .i64 H, .int .i64 I, .slice A1 n1 k1, .int .i64 O, .int .i64 H, .slice A2 n2 k2, .slice B1 H d1, .slice B2 O d2] := by rw [hW0]; exact Blk.made _ _ _
 have bw : Below w.heap.size w W0 := by rw [hW0]; exact (Below.refl _ _).alloc (Nat.le_refl _) _
 have L1 := Lib.hid (fun W k (hk : k < H) (q : Ints .i64 W A1 n1 a1) => ref_lineR H I k A1 n1 k1 a1 W q hH hI e1 hk)
 have L2 := Lib.hid (fun W k (hk : k < O) (q : Ints .i64 W A2 n2 a2) => ref_lineR O H k A2 n2 k2 a2 W q hO hH e2 hk)
 have HH := Lib.hid (fun k hk => hidL_at H I a1 b1 x (k := k) hk)
 have HO := Lib.hid (fun k hk => outpL_at H I O a1 b1 a2 b2 x (k := k) hk)
 have HHL := Lib.hid (hidL_length H I a1 b1 x)
 have HYL := Lib.hid (outpL_length H I O a1 b1 a2 b2 x)
 obtain ⟨hs, hhs⟩ : ∃ hs, hs = hidL H I a1 b1 x := ⟨_, rfl⟩
 rw [← hhs] at HH HO HHL ⊢
 obtain ⟨ys, hys⟩ : ∃ ys, ys = outpL H I O a1 b1 a2 b2 x := ⟨_, rfl⟩
 rw [← hys] at HO HYL ⊢
 have i1' := i1.below bw
 have i2' := i2.below bw
 have j1' := j1.below bw
 have j2' := j2.below bw
 have ix' := ix.below bw
 have lt := HB.lt
 clear e1 e2 hhs hys i1 i2 j1 j2 ix
 go_enter Tryz.func102, Tryz.ntmps102
 go_wp2
 rw [← hW0]
 clear hW0
 go_loopw [6, 8, 9] (fun o i _ wr => ∃ k : Nat, k ≤ H ∧ i = .int .i64 k ∧ wr.ownsRow W0.heap.size 3 1 o k ((upto (at0 hs) k).map (.int .i64)) ∧ Below W0.heap.size W0 wr) (fun _ i _ _ => H - (intOf i).toNat)
 case atStart => exact ⟨0, Nat.zero_le _, rfl, World.ownsRow_nil _ _ _ _, Below.refl _ _⟩
 case round =>
  obtain ⟨k, hk, rfl, hown, hb⟩ := hrel
  have hbs := hb.size
  have HBr := HB.below hb lt
  by_cases hlt : k < H
  ·obtain ⟨bb, fo, hB1, hbl, hcl⟩ := (j1'.below hb).cells (by omega)
   subst hB1
   have g1 := hcl k hlt
   have hbk := hbl
   obtain ⟨f0, f1, f2, f3, f4, f5, f6, f7⟩ := HBr.pup
   have hltr := HBr.lt
   obtain ⟨bk, hbkk⟩ : ∃ bk, bk = at0 b1 k := ⟨_, rfl⟩
   have HK := Lib.hid (HH.out k hlt)
   rw [← hbkk] at g1 HK
   have HS := Lib.hid (fun W (h : Below wr.heap.size wr W) => (show W.cell? ⟨w.heap.size, 0, none⟩ = some (.int .i64 H) ∧ W.cell? ⟨w.heap.size, 1, none⟩ = some (.int .i64 I) ∧ W.cell? ⟨w.heap.size, 2, none⟩ = some (.slice A1 n1 k1) ∧ W.cell? ⟨w.heap.size, 6, none⟩ = some (.slice (some ⟨bb, fo, none⟩) H d1) ∧ W.cell? ⟨bb, fo + k, none⟩ = some (.int .i64 bk) from
    ⟨(h.cell (p := ⟨w.heap.size, 0, none⟩) hltr).trans f0, (h.cell (p := ⟨w.heap.size, 1, none⟩) hltr).trans f1, (h.cell (p := ⟨w.heap.size, 2, none⟩) hltr).trans f2, (h.cell (p := ⟨w.heap.size, 6, none⟩) hltr).trans f6, (h.cell (p := ⟨bb, fo + k, none⟩) hbl).trans g1⟩))
   have LL := Lib.hid (fun W (q : Ints .i64 W A1 n1 a1) => L1.out W k hlt q)
   have i1r := i1'.below hb
   have ixr := ix'.below hb
   have k0 : (0 : Int) ≤ (k : Int) := by omega
   have k1' : (k : Int) < (H : Int) := by omega
   clear hcl hbkk
   go_wp2
   go_region_held3 (fun W => W.cell? ⟨w.heap.size, 0, none⟩ = some (.int .i64 H) ∧ W.cell? ⟨w.heap.size, 1, none⟩ = some (.int .i64 I) ∧ W.cell? ⟨w.heap.size, 2, none⟩ = some (.slice A1 n1 k1) ∧ W.cell? ⟨w.heap.size, 6, none⟩ = some (.slice (some ⟨bb, fo, none⟩) H d1) ∧ W.cell? ⟨bb, fo + k, none⟩ = some (.int .i64 bk))
    (first | exact HS.out _ ((Below.refl _ _).drew) | exact HS.out _ (bel_drewN hB1 _) | exact HS.out _ hB1 | go_keep)
    (first
     | (go_at_call 156; (with_reducible refine (LL.out _ (i1r.drew)).mono ?_); rintro e u1 ⟨l, cp, rfl, hIl, hb1⟩; have hB1 : Below wr.heap.size wr u1 := bel_trans ((Below.refl _ _).drew) hb1)
     | (go_at_call 155; (refine (ref_Dot l X I cp xc I _ x _ hIl (ixr.below hB1) (Nat.le_refl _) (by omega)).mono ?_); rintro e u2 ⟨rfl, q2, rfl⟩)
     | (go_at_call 104; (refine (ref_Add _ _ _).mono ?_); rintro e u3 ⟨rfl, rfl⟩)
     | fail)
   have hB2 : Below W0.heap.size W0 u1 := hb.trans (hB1.mono hbs)
   have hbs2 := hB2.size
   have hown2 := own_below hown hB1
   have F := Lib.hid (show upto (at0 hs) (k + 1) = upto (at0 hs) k ++ [at0 hs k] from upto_succ _ _)
   obtain ⟨y, hy⟩ : ∃ y, y = addF (dotN (rowL a1 I k) x I) bk := ⟨_, rfl⟩
   rw [← hy] at HK
   rw [← hy]
   clear hy f0 f1 f2 f3 f4 f5 f6 f7 g1 hIl
   obtain ⟨v, hv⟩ : ∃ v, v = max y 0 := ⟨_, rfl⟩
   rw [show at0 hs k = v by rw [HK.out]; exact hv.symm] at F
   by_cases hy0 : y < 0
   ·obtain rfl : v = 0 := by omega
    clear hv
    go_wp2_with (at_builtin; refine wpList_append_own _ rfl _ _ 56 rfl W0.heap.size 3 i0 (.int .i64 0) 1 8 Tryz.underlying56 hi0 hz0 hz1 hz2 rfl (by decide) u6 k _ rfl ((own_drewN hown2 _).alloc _) ⟨u1.heap.size, 0, none⟩ 1 1 [.int .i64 0] rfl rfl (cell_one_new _ _ _) (by simp [Value.oneCell']) (by unfold maxLen; omega) (by omega) (by simp; omega) ?_; intro v1 w3 hown3 hgrow _)
    have hb3 : Below W0.heap.size W0 w3 := Below.grown ((bel_drewN hB2 _).alloc hbs2 _) hgrow (by simp; omega) (fun x hx => (hown.lt x hx).1)
    rw [← List.map_singleton, ← List.map_append, ← F.out] at hown3
    clear hgrow
    go_roundw
    case rel => exact ⟨k + 1, by omega, by go_num, hown3, hb3⟩
    case measure => simp [intOf]; omega
   ·obtain rfl : v = y := by omega
    clear hv
    go_wp2_with (at_builtin; refine wpList_append_own _ rfl _ _ 56 rfl W0.heap.size 3 i0 (.int .i64 0) 1 8 Tryz.underlying56 hi0 hz0 hz1 hz2 rfl (by decide) u6 k _ rfl ((own_drewN hown2 _).alloc _) ⟨u1.heap.size, 0, none⟩ 1 1 [.int .i64 v] rfl rfl (cell_one_new _ _ _) (by simp [Value.oneCell']) (by unfold maxLen; omega) (by omega) (by simp; omega) ?_; intro v1 w3 hown3 hgrow _)
    have hb3 : Below W0.heap.size W0 w3 := Below.grown ((bel_drewN hB2 _).alloc hbs2 _) hgrow (by simp; omega) (fun x hx => (hown.lt x hx).1)
    rw [← List.map_singleton, ← List.map_append, ← F.out] at hown3
    clear hgrow
    go_roundw
    case rel => exact ⟨k + 1, by omega, by go_num, hown3, hb3⟩
    case measure => simp [intOf]; omega
  ·obtain rfl : H = k := by omega
   rw [show upto (at0 hs) H = hs by rw [← HHL.out]; exact upto_at0 hs] at hown
   obtain ⟨S, s, rfl⟩ := own_sliceR hown
   have IH := Ints.of_own hown HHL.out
   obtain ⟨f0, f1, f2, f3, f4, f5, f6, f7⟩ := HBr.pup
   obtain ⟨wa, hwa⟩ : ∃ wa : World, wa = wr := ⟨_, rfl⟩
   go_wp2
   rw [← hwa] at hown hb hbs HBr IH f0 f1 f2 f3 f4 f5 f6 f7 ⊢
   clear hwa hlt
   have i2a := i2'.below hb
   have j2a := j2'.below hb
   have lta := HBr.lt
   go_loopw [7, 10] (fun o i wr => ∃ k : Nat, k ≤ O ∧ i = .int .i64 k ∧ wr.ownsRow wa.heap.size 3 1 o k ((upto (at0 ys) k).map (.int .i64)) ∧ Below wa.heap.size wa wr) (fun _ i _ => O - (intOf i).toNat)
   case atStart => exact ⟨0, Nat.zero_le _, rfl, World.ownsRow_nil _ _ _ _, Below.refl _ _⟩
   case round =>
    clear f0 f1 f2 f3 f4 f5 f6 f7
    obtain ⟨k, hk, rfl, hown2, hb2⟩ := hrel
    have hbs2 := hb2.size
    have HB2 := HBr.below hb2 lta
    by_cases hlt : k < O
    ·obtain ⟨bb, fo, hB2, hbl, hcl⟩ := (j2a.below hb2).cells (by omega)
     subst hB2
     have g1 := hcl k hlt
     obtain ⟨f0, f1, f2, f3, f4, f5, f6, f7⟩ := HB2.pup
     have hltr := HB2.lt
     obtain ⟨bk, hbkk⟩ : ∃ bk, bk = at0 b2 k := ⟨_, rfl⟩
     have HK := Lib.hid (HO.out k hlt)
     rw [← hbkk] at g1 HK
     have HS := Lib.hid (fun W (h : Below wr.heap.size wr W) => (show W.cell? ⟨w.heap.size, 3, none⟩ = some (.int .i64 O) ∧ W.cell? ⟨w.heap.size, 4, none⟩ = some (.int .i64 H) ∧ W.cell? ⟨w.heap.size, 5, none⟩ = some (.slice A2 n2 k2) ∧ W.cell? ⟨w.heap.size, 7, none⟩ = some (.slice (some ⟨bb, fo, none⟩) O d2) ∧ W.cell? ⟨bb, fo + k, none⟩ = some (.int .i64 bk) from
      ⟨(h.cell (p := ⟨w.heap.size, 3, none⟩) hltr).trans f3, (h.cell (p := ⟨w.heap.size, 4, none⟩) hltr).trans f4, (h.cell (p := ⟨w.heap.size, 5, none⟩) hltr).trans f5, (h.cell (p := ⟨w.heap.size, 7, none⟩) hltr).trans f7, (h.cell (p := ⟨bb, fo + k, none⟩) hbl).trans g1⟩))
     have LL := Lib.hid (fun W (q : Ints .i64 W A2 n2 a2) => L2.out W k hlt q)
     have i2r := i2a.below hb2
     have ihr := IH.below hb2
     have k0 : (0 : Int) ≤ (k : Int) := by omega
     have k1' : (k : Int) < (O : Int) := by omega
     obtain ⟨y, hy⟩ : ∃ y, y = at0 ys k := ⟨_, rfl⟩
     rw [← hy] at HK
     have F := Lib.hid (show upto (at0 ys) (k + 1) = upto (at0 ys) k ++ [y] by rw [hy]; exact upto_succ _ _)
     have ne2 : some w.heap.size ≠ u7.ownBlock := fun h => by have := (hown2.lt _ h.symm).1; omega
     have hbla : bb < wa.heap.size := by
      obtain ⟨b', o', e', hl', _⟩ := j2a.cells (by omega)
      injection e' with e'
      injection e' with e1' _
      omega
     have ne3 : some bb ≠ u7.ownBlock := fun h => by have := (hown2.lt _ h.symm).1; omega
     have neb : ∀ x, u7.ownBlock = some x → wa.heap.size ≤ x := fun x h => (hown2.lt x h).1
     clear hcl hbkk hy
     go_wp2
     go_region_held3 (fun W => W.cell? ⟨w.heap.size, 3, none⟩ = some (.int .i64 O) ∧ W.cell? ⟨w.heap.size, 4, none⟩ = some (.int .i64 H) ∧ W.cell? ⟨w.heap.size, 5, none⟩ = some (.slice A2 n2 k2) ∧ W.cell? ⟨w.heap.size, 7, none⟩ = some (.slice (some ⟨bb, fo, none⟩) O d2) ∧ W.cell? ⟨bb, fo + k, none⟩ = some (.int .i64 bk))
      (first | exact HS.out _ ((Below.refl _ _).drew) | exact HS.out _ (bel_drewN hB1 _) | exact HS.out _ hB1 | exact HS.out _ (hBA _) | exact f2 | go_keep)
      (first
       | (go_at_call 156; (with_reducible refine (LL.out _ (i2r.drew)).mono ?_); rintro e u1 ⟨l, cp, rfl, hIl, hb1⟩; have hB1 : Below wr.heap.size wr u1 := bel_trans ((Below.refl _ _).drew) hb1)
       | (go_at_call 155; (refine (ref_Dot l S H cp s H _ hs _ hIl (ihr.below hB1) (Nat.le_refl _) (by omega)).mono ?_); rintro e u2 ⟨rfl, q2, rfl⟩)
       | (go_at_call 104; (refine (ref_Add _ _ _).mono ?_); rintro e u3 ⟨rfl, rfl⟩; rw [← HK.out]; have hBD : Below wr.heap.size wr (u1.drewN q2) := bel_drewN hB1 _; have hBA : ∀ o, Below wr.heap.size wr ((u1.drewN q2).alloc o) := fun o => hBD.alloc hBD.size o; have F1 : ∀ o, ((u1.drewN q2).alloc o).ownsRow wa.heap.size 3 1 u7 k ((upto (at0 ys) k).map (.int .i64)) := fun o => (own_drewN (own_below hown2 hB1) _).alloc o; have hs1 := hBD.size; have F2 : ∀ o, wa.heap.size ≤ ((u1.drewN q2).alloc o).heap.size := fun o => (by simp at hs1 ⊢; omega); have F3 : k + 1 ≤ maxLen := (by unfold maxLen; omega); have F4 : (k + 1) * 8 ≤ 140737488355328 := (by omega))
       | ((refine step_append_lies _ (by rfl) _ _ _ (by rfl) wa.heap.size 3 i0 _ 1 8 Tryz.underlying56 hi0 hz0 hz1 hz2 rfl (by omega) u7 k _ (by rfl) (F1 _) ⟨u1.heap.size, 0, none⟩ 1 1 [.int .i64 y] (by rfl) (by rfl) (World.news_of_block (cs := #[.int .i64 y]) (t := 3) (fr := (0, 0)) (heap_alloc_new _ _)) (by simp [Value.oneCell']) (by omega) F3 F4 (F2 _) (u1.heap.size + 1) (by simp) ?_); intro gg cp' w4 hown4 hgrow hat hlt1; have hcf : ∀ b i, b < wr.heap.size → some b ≠ u7.ownBlock → w4.cell? ⟨b, i, none⟩ = wr.cell? ⟨b, i, none⟩ := (fun b i hb' hn => (World.cell?_of_block (hgrow.block b (by simp at hs1 ⊢; omega) hn)).trans ((hBA _).cell (p := ⟨b, i, none⟩) hb')); have f2 := And.intro ((hcf _ 3 hltr ne2).trans f3) (And.intro ((hcf _ 4 hltr ne2).trans f4) (And.intro ((hcf _ 5 hltr ne2).trans f5) (And.intro ((hcf _ 7 hltr ne2).trans f7) ((hcf _ (fo + k) hbl ne3).trans g1)))))
       | fail)
     have hb5 : Below wa.heap.size wa w4 := Below.grown ((hb2.trans (hBD.mono hbs2)).alloc (by simp at hs1 ⊢; omega) _) hgrow (by simp at hs1 ⊢; omega) neb
     rw [← List.map_singleton, ← List.map_append, ← F.out] at hown4
     clear hgrow hat hlt1 hcf f2 HS F1 F2 F3 F4 hBA
     go_wp2
     go_roundw
     case rel => exact ⟨k + 1, by omega, by go_num, hown4, hb5⟩
     case measure => simp [intOf]; omega
    ·obtain rfl : O = k := by omega
     rw [show upto (at0 ys) O = ys by rw [← HYL.out]; exact upto_at0 ys] at hown2
     obtain ⟨T, tt, rfl⟩ := own_sliceR hown2
     obtain ⟨f0, f1, f2, f3, f4, f5, f6, f7⟩ := HB2.pup
     have hw0 := bw.size
     go_wp2
     go_ret2
     exact ⟨_, _, _, _, rfl, own_base (own_below hown hb2) hw0, own_base hown2 (Nat.le_trans hw0 hbs), bw.trans ((hb.trans (hb2.mono hbs)).mono hw0)⟩
theorem ref_Loss (H I O : Nat) (A1 : Option Addr) (n1 k1 : Nat) (a1 : List Int) (A2 : Option Addr) (n2 k2 : Nat) (a2 : List Int) (B1 : Option Addr) (d1 : Nat) (b1 : List Int) (B2 : Option Addr) (d2 : Nat) (b2 : List Int) (X : Option Addr) (xc : Nat) (x : List Int) (T : Option Addr) (tc : Nat) (t : List Int) (w : World)
  (i1 : Ints .i64 w A1 n1 a1) (i2 : Ints .i64 w A2 n2 a2) (j1 : Ints .i64 w B1 H b1) (j2 : Ints .i64 w B2 O b2) (ix : Ints .i64 w X I x) (it : Ints .i64 w T O t) (hH : 1 ≤ H ∧ H ≤ 4) (hI : 1 ≤ I ∧ I ≤ 4) (hO : 1 ≤ O ∧ O ≤ 4) (e1 : n1 = H * I) (e2 : n2 = O * H) :
  Calls Tryz.prog 66 #[.agg #[.int .i64 H, .int .i64 I, .slice A1 n1 k1, .int .i64 O, .int .i64 H, .slice A2 n2 k2, .slice B1 H d1, .slice B2 O d2], .agg #[.slice X I xc, .slice T O tc]] w
   fun e w' => e = .returned (.int .i64 (lossP H I O a1 b1 a2 b2 x t)) ∧ Below w.heap.size w w' := by
 obtain ⟨W0, hW0⟩ : ∃ W0, W0 = (w.alloc (.cells #[.int .i64 H, .int .i64 I, .slice A1 n1 k1, .int .i64 O, .int .i64 H, .slice A2 n2 k2, .slice B1 H d1, .slice B2 O d2] 102)).alloc (.cells #[.slice X I xc, .slice T O tc] 73) := ⟨_, rfl⟩
 have HB : Blk W0 w.heap.size 102 #[.int .i64 H, .int .i64 I, .slice A1 n1 k1, .int .i64 O, .int .i64 H, .slice A2 n2 k2, .slice B1 H d1, .slice B2 O d2] := by rw [hW0]; exact (Blk.made _ _ _).alloc _
 have HX : Blk W0 (w.heap.size + 1) 73 #[.slice X I xc, .slice T O tc] := by rw [hW0]; exact Blk.made' _ _ _ (by simp)
 have bw : Below w.heap.size w W0 := by rw [hW0]; exact ((Below.refl _ _).alloc (Nat.le_refl _) _).alloc (by simp) _
 have HF := Lib.hid (ref_Forward H I O A1 n1 k1 a1 A2 n2 k2 a2 B1 d1 b1 B2 d2 b2 X xc x W0 (i1.below bw) (i2.below bw) (j1.below bw) (j2.below bw) (ix.below bw) hH hI hO e1 e2)
 have HYL := Lib.hid (outpL_length H I O a1 b1 a2 b2 x)
 have HG := Lib.hid (show lossP H I O a1 b1 a2 b2 x t = dotN (offL (outpL H I O a1 b1 a2 b2 x) t) (offL (outpL H I O a1 b1 a2 b2 x) t) O from rfl)
 obtain ⟨ys, hys⟩ : ∃ ys, ys = outpL H I O a1 b1 a2 b2 x := ⟨_, rfl⟩
 rw [← hys] at HYL HG HF
 have HD := Lib.hid (fun k (hk : k < O) => show at0 (offL ys t) k = subF (at0 ys k) (at0 t k) by unfold offL; rw [at0_upto _ (by rw [HYL.out]; exact hk)])
 obtain ⟨ds, hds⟩ : ∃ ds, ds = offL ys t := ⟨_, rfl⟩
 rw [← hds] at HG HD
 obtain ⟨f0, f1, f2, f3, f4, f5, f6, f7⟩ := HB.pup
 obtain ⟨⟨x0, x1⟩, _⟩ := HX.two'
 clear e1 e2 hys hds
 go_enter Tryz.func66, Tryz.ntmps66
 go_wp2_with fail
 rw [← hW0]
 clear hW0
 refine HF.out.mono ?_
 rintro e w1 ⟨S, s, Y, yc, rfl, _, OY, hb1⟩
 have IY := Ints.of_own OY HYL.out
 have bw1 := bw.trans (hb1.mono bw.size)
 have IT := it.below bw1
 have HX1 := HX.below hb1 HX.lt
 clear f0 f1 f2 f3 f4 f5 f6 f7 x0 x1 HB HX OY
 go_wp2
 go_loopw [7, 8, 9] (fun o i _ wr => ∃ k : Nat, k ≤ O ∧ i = .int .i64 k ∧ o = .int .i64 (dotN ds ds k) ∧ Quiet w1 wr) (fun _ i _ _ => O - (intOf i).toNat)
 case atStart => exact ⟨0, Nat.zero_le _, rfl, rfl, Quiet.refl _⟩
 case round =>
  obtain ⟨k, hk, rfl, rfl, hq⟩ := hrel
  by_cases hlt : k < O
  ·obtain ⟨b, fo, rfl, _, hcl⟩ := (IY.quiet hq).cells (by omega)
   obtain ⟨b', fo', rfl, _, hcl'⟩ := (IT.quiet hq).cells (by omega)
   have g1 := hcl k hlt
   have g2 := hcl' k hlt
   obtain ⟨⟨x0, x1⟩, _⟩ := (HX1.quiet hq).two'
   have E := Lib.hid (show dotN ds ds (k + 1) = addF (dotN ds ds k) (mulF (at0 ds k) (at0 ds k)) from rfl)
   have HDK := Lib.hid (HD.out k hlt)
   have k0 : (0 : Int) ≤ (k : Int) := by omega
   have k1' : (k : Int) < (O : Int) := by omega
   obtain ⟨p, hp⟩ : ∃ p, p = at0 ys k := ⟨_, rfl⟩
   obtain ⟨q, hq'⟩ : ∃ q, q = at0 t k := ⟨_, rfl⟩
   rw [← hp] at g1 HDK
   rw [← hq'] at g2 HDK
   clear hcl hcl' hp hq'
   go_wp2
   go_quiet ((go_at_call 103; exact Calls.quiet_of ((ref_Sub _ _ _).mono fun _ _ ⟨he, hw⟩ => ⟨he, 0, hw.symm⟩)))
   rw [← HDK.out]
   go_wp2_with fail
   refine (ref_Mul _ _ _).mono ?_
   rintro e w2 ⟨rfl, q2, rfl⟩
   go_wp2_with (go_at_call 104; refine (ref_Add _ _ _).mono ?_; rintro e w3 ⟨rfl, rfl⟩)
   go_roundw
   case rel => exact ⟨k + 1, by omega, by go_num, by rw [E.out], by first | exact (hq.step _).step _ | exact hq.step _⟩
   case measure => simp [intOf]; omega
  ·obtain rfl : O = k := by omega
   go_wp2
   go_ret
   exact ⟨ret_int HG.out.symm, hq.after bw1⟩
end Go.Proofs.YtgodgedhddngeaaGreatDoor
