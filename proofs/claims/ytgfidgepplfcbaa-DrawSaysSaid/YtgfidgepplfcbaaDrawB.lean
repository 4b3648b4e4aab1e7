/- What draw.Shuffle, draw.Batch and the document's own Batch compute: walks, each function once. -/
import Derived.Test.YtgfidgepplfcbaaDrawW
import Derived.Deep.AppendLies
import Derived.Deep.RegionLaw
import Derived.IntWalk
namespace Go.Proofs.Ytgfidgepplfcbaa
open Go.RowKit Pl

/-- Numbers of the call's own beside an error. -/
def OwnNT (w : World) (n : Nat) (l : List Nat) (x : Int) (e : Ending) (w' : World) : Prop :=
  ∃ A c, e = .returned (.tuple #[.slice A n c, .int .i64 x]) ∧ w'.ownsRow w.heap.size 3 1 (.slice A n c) n (vN l) ∧ Below w.heap.size w w'
/-- The first k of a batch. -/
def batK (seed size n step k : Nat) : List Nat := (List.range k).map fun k => comesP seed n (step * size + k)
theorem batK_length (seed size n step k : Nat) : (batK seed size n step k).length = k := by simp [batK]
theorem batK_succ (seed size n step k : Nat) : batK seed size n step (k + 1) = batK seed size n step k ++ [comesP seed n (step * size + k)] := by simp [batK, List.range_succ]
theorem own_slice {w : World} {base : Nat} {e : TypeId} {v : Value} {n : Nat} {xs : List Value} (h : w.ownsRow base e 1 v n xs) : ∃ A c, v = .slice A n c := by
  rcases h.2 with ⟨rfl, rfl⟩ | ⟨g, cap, cur, rfl, _⟩
  · exact ⟨none, 0, rfl⟩
  · exact ⟨_, cap, rfl⟩

set_option maxHeartbeats 1000000 in
theorem draw_Shuffle_ok (seed : Int) (epoch n : Nat) (w : World) (h0 : 0 ≤ seed) (h1 : seed < 18446744073709551616) (he : epoch ≤ 1000) (hn : 1 ≤ n) (hn' : n ≤ 16) :
    Calls Try.prog 48 #[.int .u64 seed, .int .i64 epoch, .int .i64 n] w (OwnNT w n (shufP seed.toNat epoch n) 0) := by
  go_enter Try.func48, Try.ntmps48
  go_wp2_with (go_at_call 99; refine (draw_shuffle seed epoch n _ h0 h1 he hn hn').mono ?_; rintro e w1 ⟨g, c, rfl, ho, hb⟩)
  go_ret2
  exact ⟨_, c, rfl, ho, hb⟩
set_option maxHeartbeats 1000000 in
theorem draw_Shuffle_no (seed epoch n : Int) (w : World) (hbad : ¬ ((1 ≤ n ∧ n ≤ 16) ∧ (0 ≤ epoch ∧ epoch ≤ 1000))) :
    Calls Try.prog 48 #[.int .u64 seed, .int .i64 epoch, .int .i64 n] w fun e w' => e = .returned (.tuple #[.slice none 0 0, .int .i64 1]) ∧ w = w' := by
  have hcs : n < 1 ∨ 16 < n ∨ (1 ≤ n ∧ n ≤ 16 ∧ epoch < 0) ∨ (1 ≤ n ∧ n ≤ 16 ∧ 0 ≤ epoch ∧ 1000 < epoch) := by omega
  clear hbad
  rcases hcs with h | h | ⟨h, h', h''⟩ | ⟨h, h', h'', h3⟩
  all_goals
    go_enter Try.func48, Try.ntmps48
    go_wp2
    go_ret2
    exact ⟨rfl, rfl⟩
set_option maxHeartbeats 1000000 in
theorem draw_Batch_no (seed size n step : Int) (w : World) (hbad : ¬ ((1 ≤ size ∧ size ≤ 8) ∧ (1 ≤ n ∧ n ≤ 16) ∧ (0 ≤ step ∧ step ≤ 39))) :
    Calls Try.prog 49 #[.int .u64 seed, .int .i64 size, .int .i64 n, .int .i64 step] w fun e w' => e = .returned (.tuple #[.slice none 0 0, .int .i64 1]) ∧ w = w' := by
  have hcs : size < 1 ∨ 8 < size ∨ (1 ≤ size ∧ size ≤ 8 ∧ n < 1) ∨ (1 ≤ size ∧ size ≤ 8 ∧ 1 ≤ n ∧ 16 < n) ∨ (1 ≤ size ∧ size ≤ 8 ∧ 1 ≤ n ∧ n ≤ 16 ∧ step < 0) ∨ (1 ≤ size ∧ size ≤ 8 ∧ 1 ≤ n ∧ n ≤ 16 ∧ 0 ≤ step ∧ 40 ≤ step) := by omega
  clear hbad
  rcases hcs with h | h | ⟨h, h', h''⟩ | ⟨h, h', h'', h3⟩ | ⟨h, h', h'', h3, h4⟩ | ⟨h, h', h'', h3, h4, h5⟩
  all_goals
    go_enter Try.func49, Try.ntmps49
    go_wp2
    go_ret2
    exact ⟨rfl, rfl⟩

set_option maxRecDepth 100000 in
set_option maxHeartbeats 2000000 in
theorem draw_Batch_ok (seed : Int) (size n step : Nat) (w : World) (h0 : 0 ≤ seed) (h1 : seed < 18446744073709551616) (hs : 1 ≤ size) (hs' : size ≤ 8) (hn : 1 ≤ n) (hn' : n ≤ 16) (ht : step ≤ 39) :
    Calls Try.prog 49 #[.int .u64 seed, .int .i64 size, .int .i64 n, .int .i64 step] w (OwnNT w size (batchP seed.toNat size n step) 0) := by
  obtain ⟨i0, hi0, hz0, hz1, hz2⟩ := info_parts int_info
  obtain ⟨p, hp⟩ : ∃ p, p = step * size := ⟨_, rfl⟩
  have hp312 : p ≤ 312 := by rw [hp]; exact Nat.mul_le_mul ht hs'
  have e1 : (step : Int) * (size : Int) = (p : Int) := by rw [hp]; simp
  have e2 : ((step : Int) + 1) * (size : Int) = (p : Int) + (size : Int) := by rw [Int.add_mul, e1, Int.one_mul]
  have HP := Lib.hid hp
  clear hp
  go_enter Try.func49, Try.ntmps49
  go_wp2
  go_loopw [10, 11] (fun o i wr => ∃ k : Nat, k ≤ size ∧ i = .int .i64 ((p : Int) + (k : Int)) ∧ wr.ownsRow w.heap.size 3 1 o k (vN (batK seed.toNat size n step k)) ∧ Below w.heap.size w wr) (fun _ i _ => p + size - (intOf i).toNat)
  case atStart => exact ⟨0, by omega, by go_num, World.ownsRow_nil _ _ _ _, Below.refl _ _⟩
  case round =>
    obtain ⟨k, hk, rfl, hown, hb⟩ := hrel
    have hbs := hb.size
    by_cases hlt : k < size
    · obtain ⟨t, ht⟩ : ∃ t, t = p + k := ⟨_, rfl⟩
      have et : (p : Int) + (k : Int) = (t : Int) := by rw [ht]; simp
      obtain ⟨a, ha⟩ : ∃ a, a = t / n := ⟨_, rfl⟩
      obtain ⟨b, hb'⟩ : ∃ b, b = t % n := ⟨_, rfl⟩
      have F := Lib.hid (show vN (batK seed.toNat size n step (k + 1)) = vN (batK seed.toNat size n step k) ++ [.int .i64 (atN (shufP seed.toNat a n) b : Nat)] by
        rw [batK_succ, vN_snoc, ← HP.out, ← ht, ha, hb']; rfl)
      have r1 : (t : Int).tdiv (n : Int) = (a : Int) := by rw [ha]; rfl
      have r2 : (t : Int).tmod (n : Int) = (b : Int) := by rw [hb']; rfl
      have r3 : (t : Int) / (n : Int) = (a : Int) := by rw [ha]; rfl
      have r4 : (t : Int) % (n : Int) = (b : Int) := by rw [hb']; rfl
      have hbn : b < n := by rw [hb']; exact Nat.mod_lt _ hn
      have hat : a ≤ t := by rw [ha]; exact Nat.div_le_self _ _
      have ha1000 : a ≤ 1000 := by omega
      have zb : (0 : Int) ≤ (b : Int) := Int.natCast_nonneg _
      have zb' : (b : Int) < (n : Int) := by omega
      have zn : ¬ n = 0 := by omega
      have hw1 := IntWalk.i64_in (a : Int) (by omega)
      have hw2 := IntWalk.i64_in (b : Int) (by omega)
      have HSH := Lib.hid (fun W => draw_shuffle seed a n W h0 h1 ha1000 hn hn')
      have tl : (t : Int) < (p : Int) + (size : Int) := by omega
      have HT := Lib.hid ht
      rw [et]
      clear ha hb' ht
      go_wp2
      go_region_law (first
        | (go_simp; go_at_call 99; refine (HSH.out _).mono ?_; rintro e w2 ⟨g, c, rfl, ho2, hb2⟩; have hc2 := ho2.cellAt b (by omega); rw [vN_at _ (by rw [shufP_length]; exact hbn)] at hc2; have hown2 := own_below (own_drew hown) hb2; have hb3 := hb.drew.trans (hb2.mono (show w.heap.size ≤ wr.drew.heap.size from hbs)); have hs3 := hb3.size)
        | (refine step_append_lies _ (by rfl) _ _ _ (by rfl) w.heap.size 3 i0 _ 1 8 Try.underlying22 hi0 hz0 hz1 hz2 rfl (by omega) u10 k _ (by rfl) (by exact hown2.alloc _) ⟨w2.heap.size, 0, none⟩ 1 1 [.int .i64 (atN (shufP seed.toNat a n) b : Nat)] (by rfl) (by rfl) (World.news_of_block (cs := #[.int .i64 (atN (shufP seed.toNat a n) b : Nat)]) (t := 3) (fr := (0, 0)) (heap_alloc_new _ _)) (by simp [Value.oneCell']) (by omega) (by unfold maxLen; omega) (by omega) (by simp; omega) (w2.heap.size + 1) (by simp) ?_; intro gg cp w3 hown3 hgrow hat hlt3))
      all_goals
        have hb4 : Below w.heap.size w w3 := Below.grown (hb3.alloc hs3 _) hgrow (by simp; omega) (fun x hx => (hown.lt x hx).1)
        rw [← F.out] at hown3
        clear hgrow hw1 hw2 hat
        go_wp2
        go_roundw
        case rel => exact ⟨k + 1, by omega, by have := HT.out; go_num, hown3, hb4⟩
        case measure => have := HT.out; simp [intOf]; omega
    · obtain rfl : size = k := by omega
      obtain ⟨A, c, rfl⟩ := own_slice hown
      go_wp2
      go_ret2
      exact ⟨A, c, rfl, hown, hb⟩
end Go.Proofs.Ytgfidgepplfcbaa
