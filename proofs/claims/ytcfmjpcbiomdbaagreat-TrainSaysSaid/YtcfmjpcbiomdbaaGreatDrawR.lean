/- What the document's own Batch computes: a walk. -/
import Derived.Test.YtcfmjpcbiomdbaaGreatDrawW
namespace Go.Proofs.YtcfmjpcbiomdbaaGreat
open Go.RowKit Pl

/-- The order that was drawn last; none yet. -/
def LastR (w : World) (seed n : Nat) (last order out : Value) (wr : World) : Prop :=
  (last = .int .i64 (-1) ∧ order = .slice none 0 0) ∨ ∃ L g c : Nat, last = .int .i64 L ∧ order = .slice (some ⟨g, 0, none⟩) n c ∧ wr.ownsRow w.heap.size 3 1 order n (vN (shufP seed L n)) ∧ out.ownBlock ≠ some g

set_option maxRecDepth 100000 in
set_option maxHeartbeats 4000000 in
theorem ref_Batch (seed : Int) (size n step : Nat) (w : World) (h0 : 0 ≤ seed) (h1 : seed < 18446744073709551616) (hs : 1 ≤ size) (hs' : size ≤ 8) (hn : 1 ≤ n) (hn' : n ≤ 16) (ht : step ≤ 39) :
    Calls Tryz.prog 27 #[.int .u64 seed, .int .i64 size, .int .i64 n, .int .i64 step] w fun e w' => ∃ A c, e = .returned (.slice A size c) ∧ w'.ownsRow w.heap.size 3 1 (.slice A size c) size (vN (batchP seed.toNat size n step)) ∧ Below w.heap.size w w' := by
  obtain ⟨i0, hi0, hz0, hz1, hz2⟩ := info_parts int_info
  obtain ⟨p, hp⟩ : ∃ p, p = step * size := ⟨_, rfl⟩
  have hp312 : p ≤ 312 := by rw [hp]; exact Nat.mul_le_mul ht hs'
  have e1 : (step : Int) * (size : Int) = (p : Int) := by rw [hp]; simp
  have HP := Lib.hid hp
  clear hp
  go_enter Tryz.func27, Tryz.ntmps27
  go_wp2
  go_loopw [9, 10, 11, 12] (fun o la od i wr => ∃ k : Nat, k ≤ size ∧ i = .int .i64 k ∧ wr.ownsRow w.heap.size 3 1 o k (vN (batK seed.toNat size n step k)) ∧ Below w.heap.size w wr ∧ LastR w seed.toNat n la od o wr) (fun _ _ _ i _ => size - (intOf i).toNat)
  case atStart => exact ⟨0, by omega, rfl, World.ownsRow_nil _ _ _ _, Below.refl _ _, .inl ⟨rfl, rfl⟩⟩
  case round =>
    obtain ⟨k, hk, rfl, hown, hb, hLR⟩ := hrel
    have hbs := hb.size
    by_cases hlt : k < size
    · obtain ⟨t, ht⟩ : ∃ t, t = p + k := ⟨_, rfl⟩
      have et : (p : Int) + (k : Int) = (t : Int) := by rw [ht]; simp
      obtain ⟨a, ha⟩ : ∃ a, a = t / n := ⟨_, rfl⟩
      obtain ⟨b, hb'⟩ : ∃ b, b = t % n := ⟨_, rfl⟩
      have F := Lib.hid (show vN (batK seed.toNat size n step (k + 1)) = vN (batK seed.toNat size n step k) ++ [.int .i64 (atN (shufP seed.toNat a n) b : Nat)] by
        rw [batK_succ, vN_snoc, ← HP.out, ← ht, ha, hb']; rfl)
      have r1 : (t : Int).tdiv (n : Int) = (a : Int) := by rw [ha]; rfl
      have r2 : (t : Int).tmod (n : Int) = (b : Int) := by rw [hb']; rfl
      have r3 : (t : Int) / (n : Int) = (a : Int) := by rw [ha]; rfl
      have r4 : (t : Int) % (n : Int) = (b : Int) := by rw [hb']; rfl
      have hbn : b < n := by rw [hb']; exact Nat.mod_lt _ hn
      have hat : a ≤ t := by rw [ha]; exact Nat.div_le_self _ _
      have ha1000 : a ≤ 1000 := by omega
      have ht1000 : t ≤ 1000 := by omega
      have zb : (0 : Int) ≤ (b : Int) := Int.natCast_nonneg _
      have zb' : (b : Int) < (n : Int) := by omega
      have zn : ¬ n = 0 := by omega
      have hw1 := IntWalk.i64_in (a : Int) (by omega)
      have hw2 := IntWalk.i64_in (b : Int) (by omega)
      have HSH := Lib.hid (fun W => ref_Shuffle seed a n W h0 h1 ha1000 hn hn')
      have HT := Lib.hid ht
      clear ha hb' ht
      rcases hLR with ⟨rfl, rfl⟩ | ⟨L, g, c, rfl, rfl, ho, hne⟩
      · have hd : ((a : Int) != -1) = true := by rw [bne_iff_ne]; omega
        go_wp2
        go_region_law (first
          | (go_simp; go_at_call 45; refine (HSH.out _).mono ?_; rintro e w2 ⟨g2, c2, rfl, ho2, hb2⟩; have hown2 := own_below (own_drew hown) hb2; have hb3 := hb.drew.trans (hb2.mono (show w.heap.size ≤ wr.drew.heap.size from hbs)); have hne2 : u9.ownBlock ≠ some g2 := (fun h => by have q1 := (hown.lt _ h).2; have q2 : wr.heap.size ≤ g2 := (ho2.lt g2 rfl).1; omega); have ho2 := own_base ho2 (show w.heap.size ≤ wr.drew.heap.size from hbs)))
        have hc2 := ho2.cellAt b (by omega)
        rw [vN_at _ (by rw [shufP_length]; exact hbn)] at hc2
        have hs3 := hb3.size
        have hgl := (ho2.lt g2 rfl).2
        go_wp2_with (at_builtin; refine wpList_append_lies _ rfl _ _ 26 rfl w.heap.size 3 i0 (.int .i64 0) 1 8 Tryz.underlying26 hi0 hz0 hz1 hz2 rfl (by decide) u9 k _ rfl (hown2.alloc _) ⟨w2.heap.size, 0, none⟩ 1 1 [.int .i64 (atN (shufP seed.toNat a n) b : Nat)] rfl rfl (cell_one_new _ _ _) (by simp [Value.oneCell']) (by decide) (by unfold maxLen; omega) (by omega) (by simp; omega) (w2.heap.size + 1) (by simp) ?_; intro gg cp w3 hown3 hgrow hat hlt3)
        have hb4 : Below w.heap.size w w3 := Below.grown (hb3.alloc hs3 _) hgrow (by simp; omega) (fun x hx => (hown.lt x hx).1)
        have ho3 := (ho2.alloc (.cells #[.int .i64 (atN (shufP seed.toNat a n) b : Nat)] 3)).kept hgrow (.inr (fun e => hne2 e.symm))
        have hne3 : (Value.slice (some ⟨gg, 0, none⟩) (k + 1) cp).ownBlock ≠ some g2 := by
          intro e
          have e' : gg = g2 := by injection e
          rcases hat with h | h
          · exact hne2 (h.trans e)
          · omega
        rw [← F.out] at hown3
        clear hgrow hw1 hw2 hat
        go_roundw
        case rel => exact ⟨k + 1, by omega, by go_num, hown3, hb4, .inr ⟨a, g2, c2, rfl, rfl, ho3, hne3⟩⟩
        case measure => simp [intOf]; omega
      · by_cases hL : L = a
        · subst hL
          have hd : ((L : Int) != (L : Int)) = false := bne_self_eq_false _
          have hc2 := ho.cellAt b (by omega)
          rw [vN_at _ (by rw [shufP_length]; exact hbn)] at hc2
          have hs3 := hb.size
          have hgl := (ho.lt g rfl).2
          go_wp2_with (at_builtin; refine wpList_append_lies _ rfl _ _ 26 rfl w.heap.size 3 i0 (.int .i64 0) 1 8 Tryz.underlying26 hi0 hz0 hz1 hz2 rfl (by decide) u9 k _ rfl (hown.alloc _) ⟨wr.heap.size, 0, none⟩ 1 1 [.int .i64 (atN (shufP seed.toNat L n) b : Nat)] rfl rfl (cell_one_new _ _ _) (by simp [Value.oneCell']) (by decide) (by unfold maxLen; omega) (by omega) (by simp; omega) (wr.heap.size + 1) (by simp) ?_; intro gg cp w3 hown3 hgrow hat hlt3)
          have hb4 : Below w.heap.size w w3 := Below.grown (hb.alloc hs3 _) hgrow (by simp; omega) (fun x hx => (hown.lt x hx).1)
          have ho3 := (ho.alloc (.cells #[.int .i64 (atN (shufP seed.toNat L n) b : Nat)] 3)).kept hgrow (.inr (fun e => hne e.symm))
          have hne3 : (Value.slice (some ⟨gg, 0, none⟩) (k + 1) cp).ownBlock ≠ some g := by
            intro e
            have e' : gg = g := by injection e
            rcases hat with h | h
            · exact hne (h.trans e)
            · omega
          rw [← F.out] at hown3
          clear hgrow hw1 hw2 hat
          go_roundw
          case rel => exact ⟨k + 1, by omega, by go_num, hown3, hb4, .inr ⟨L, g, c, rfl, rfl, ho3, hne3⟩⟩
          case measure => simp [intOf]; omega
        · have hd : ((a : Int) != (L : Int)) = true := by rw [bne_iff_ne]; omega
          clear ho hne
          go_wp2
          go_region_law (first
            | (go_simp; go_at_call 45; refine (HSH.out _).mono ?_; rintro e w2 ⟨g2, c2, rfl, ho2, hb2⟩; have hown2 := own_below (own_drew hown) hb2; have hb3 := hb.drew.trans (hb2.mono (show w.heap.size ≤ wr.drew.heap.size from hbs)); have hne2 : u9.ownBlock ≠ some g2 := (fun h => by have q1 := (hown.lt _ h).2; have q2 : wr.heap.size ≤ g2 := (ho2.lt g2 rfl).1; omega); have ho2 := own_base ho2 (show w.heap.size ≤ wr.drew.heap.size from hbs)))
          have hc2 := ho2.cellAt b (by omega)
          rw [vN_at _ (by rw [shufP_length]; exact hbn)] at hc2
          have hs3 := hb3.size
          have hgl := (ho2.lt g2 rfl).2
          go_wp2_with (at_builtin; refine wpList_append_lies _ rfl _ _ 26 rfl w.heap.size 3 i0 (.int .i64 0) 1 8 Tryz.underlying26 hi0 hz0 hz1 hz2 rfl (by decide) u9 k _ rfl (hown2.alloc _) ⟨w2.heap.size, 0, none⟩ 1 1 [.int .i64 (atN (shufP seed.toNat a n) b : Nat)] rfl rfl (cell_one_new _ _ _) (by simp [Value.oneCell']) (by decide) (by unfold maxLen; omega) (by omega) (by simp; omega) (w2.heap.size + 1) (by simp) ?_; intro gg cp w3 hown3 hgrow hat hlt3)
          have hb4 : Below w.heap.size w w3 := Below.grown (hb3.alloc hs3 _) hgrow (by simp; omega) (fun x hx => (hown.lt x hx).1)
          have ho3 := (ho2.alloc (.cells #[.int .i64 (atN (shufP seed.toNat a n) b : Nat)] 3)).kept hgrow (.inr (fun e => hne2 e.symm))
          have hne3 : (Value.slice (some ⟨gg, 0, none⟩) (k + 1) cp).ownBlock ≠ some g2 := by
            intro e
            have e' : gg = g2 := by injection e
            rcases hat with h | h
            · exact hne2 (h.trans e)
            · omega
          rw [← F.out] at hown3
          clear hgrow hw1 hw2 hat
          go_roundw
          case rel => exact ⟨k + 1, by omega, by go_num, hown3, hb4, .inr ⟨a, g2, c2, rfl, rfl, ho3, hne3⟩⟩
          case measure => simp [intOf]; omega
    · obtain rfl : size = k := by omega
      obtain ⟨A, c, rfl⟩ := own_slice hown
      clear hLR
      go_wp2
      go_ret
      exact ⟨A, c, rfl, hown, hb⟩
end Go.Proofs.YtcfmjpcbiomdbaaGreat
