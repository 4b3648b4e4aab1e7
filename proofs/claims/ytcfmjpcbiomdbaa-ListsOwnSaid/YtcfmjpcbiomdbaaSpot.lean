/- What spot.Opens and spot.Chunk answer, right or wrong, as total functions. Walks. -/
import Derived.Test.YtcfmjpcbiomdbaaTreeS
import Derived.Test.YtcfmjpcbiomdbaaPupD
namespace Go.Proofs.Ytcfmjpcbiomdbaa
open Go.RowKit Pl

def opensE (i n : Int) (L m : Nat) : Int := if climbE i n L ≠ 0 then climbE i n L else if (m : Int) ≠ min 4 (n - 4 * i) then 5 else 0
def opensO (root i n : Int) (chunk path : List Int) : Bool := decide (opensE i n path.length chunk.length = 0) && (climbO i n (at0 (leavesI chunk) 0) path == root % 2305843009213693951)
theorem climbE_ok {i n : Int} {L : Nat} (h : climbE i n L = 0) : climbB i n ∧ L = deepP i.toNat ((n.toNat + 3) / 4) := by
  unfold climbE at h
  by_cases hb : climbB i n
  · rw [if_pos hb] at h
    by_cases hL : L = deepP i.toNat ((n.toNat + 3) / 4)
    · exact ⟨hb, hL⟩
    · rw [if_neg hL] at h; omega
  · rw [if_neg hb] at h; omega


theorem own_le {w : World} {base n c : Nat} {e : TypeId} {A : Option Addr} {xs : List Value} (h : w.ownsRow base e 1 (.slice A n c) n xs) : n ≤ c := by
  rcases h.2 with ⟨hv, h0⟩ | ⟨g, cap, cur, hv, _, _, h1, _⟩
  · omega
  · injection hv with _ _ hc; omega
/-- The numbers of chunk i, where there is one. -/
def chunkO (xs : List Int) (i : Int) : List Int := if pathE xs.length i = 0 then (xs.drop (4 * i.toNat)).take 4 else []
theorem chunkO_len (xs : List Int) (i : Int) : (chunkO xs i).length ≤ 4 := by
  unfold chunkO; split
  · rw [List.length_take]; omega
  · simp
theorem pathE_ok {n : Nat} {i : Int} (h : pathE n i = 0) : (1 ≤ n ∧ n ≤ 200) ∧ 0 ≤ i ∧ i ≤ (((n + 3) / 4 : Nat) : Int) - 1 := by
  unfold pathE at h
  by_cases h0 : lvE n = 0
  · rw [if_neg (by simp [h0])] at h
    by_cases hI : inB i 0 (((n + 3) / 4 : Nat) - 1 : Int) = true
    · exact ⟨lvE_ok h0, inB_iffT.1 hI⟩
    · rw [if_neg hI] at h; omega
  · rw [if_pos h0] at h; exact absurd h h0
/-- Two lists beside an error. -/
def ChunkRes (w : World) (cs ps : List Int) (x : Int) (e : Ending) (w' : World) : Prop :=
  ∃ S s T t, e = .returned (.tuple #[.slice S cs.length s, .slice T ps.length t, .int .i64 x]) ∧ Ints .i64 w' S cs.length cs ∧ Ints .u64 w' T ps.length ps ∧ Below w.heap.size w w'

/-- The same, the chunk's room told too. -/
def ChunkCap (w : World) (cs ps : List Int) (x : Int) (e : Ending) (w' : World) : Prop :=
  ∃ S s T t, e = .returned (.tuple #[.slice S cs.length s, .slice T ps.length t, .int .i64 x]) ∧ Ints .i64 w' S cs.length cs ∧ Ints .u64 w' T ps.length ps ∧ Below w.heap.size w w' ∧ cs.length ≤ s
theorem ChunkCap.res {w : World} {cs ps : List Int} {x : Int} {e : Ending} {w' : World} (h : ChunkCap w cs ps x e w') : ChunkRes w cs ps x e w' := by
  obtain ⟨S, s, T, t, h1, h2, h3, h4, _⟩ := h
  exact ⟨S, s, T, t, h1, h2, h3, h4⟩

set_option maxRecDepth 100000 in
set_option maxHeartbeats 4000000 in
theorem spot_ChunkCap (i : Int) (A1 A2 : Option Addr) (n1 k1 n2 k2 : Nat) (wt mv : List Int) (w : World) (q1 : Ints .i64 w A1 n1 wt) (q2 : Ints .i64 w A2 n2 mv) (hs : (n1 + n2) * 8 ≤ 140737488351232) :
    Calls Try.prog 41 #[.agg #[.slice A1 n1 k1, .slice A2 n2 k2], .int .i64 i] w (ChunkCap w (chunkO (wt ++ mv) i) (pathO (wt ++ mv) i) (pathE (n1 + n2) i)) := by
  have HL : (wt ++ mv).length = n1 + n2 := by rw [List.length_append, q1.len, q2.len]
  have HS1 := Blk.made w 28 #[.slice A1 n1 k1, .slice A2 n2 k2]
  obtain ⟨⟨f0, f1⟩, _⟩ := HS1.two'
  have hv : Vals ((w.alloc (.cells #[.slice A1 n1 k1, .slice A2 n2 k2] 28)).alloc (.cells #[.slice A1 n1 k1, .slice A2 n2 k2] 26)) (some ⟨w.heap.size + 1, 0, none⟩) 2 [.slice A1 n1 k1, .slice A2 n2 k2] := by
    have h := Vals.made (w.alloc (.cells #[.slice A1 n1 k1, .slice A2 n2 k2] 28)) #[.slice A1 n1 k1, .slice A2 n2 k2] 26 2 [.slice A1 n1 k1, .slice A2 n2 k2] rfl rfl
    simpa using h
  have hp : Parts ((w.alloc (.cells #[.slice A1 n1 k1, .slice A2 n2 k2] 28)).alloc (.cells #[.slice A1 n1 k1, .slice A2 n2 k2] 26)) [.slice A1 n1 k1, .slice A2 n2 k2] [wt, mv] := ⟨rfl, fun j hj => by
    match j, hj with
    | 0, _ => exact ⟨A1, n1, k1, rfl, (q1.alloc _).alloc _⟩
    | 1, _ => exact ⟨A2, n2, k2, rfl, (q2.alloc _).alloc _⟩⟩
  have HCC := fun c => sl_Concat (some ⟨w.heap.size + 1, 0, none⟩) 2 c _ _ _ hv hp (n1 + n2) (by simpa using HL) hs (by omega)
  rw [show [wt, mv].flatten = wt ++ mv by simp] at HCC
  have HC := Lib.hid HCC
  have hbw : Below w.heap.size w ((w.alloc (.cells #[.slice A1 n1 k1, .slice A2 n2 k2] 28)).alloc (.cells #[.slice A1 n1 k1, .slice A2 n2 k2] 26)) := ((Below.refl _ _).alloc (Nat.le_refl _) _).alloc (by simp) _
  obtain ⟨xs, hxs⟩ : ∃ xs, xs = wt ++ mv := ⟨_, rfl⟩
  obtain ⟨N, hN⟩ : ∃ N, N = n1 + n2 := ⟨_, rfl⟩
  rw [← hxs] at HC HL ⊢
  rw [← hN] at HL hs ⊢
  have HLL := Lib.hid HL
  clear hv hp HCC q1 q2 hxs hN HS1 HL
  go_enter Try.func41, Try.ntmps41
  go_wp2_with fail
  refine (HC.out _).mono ?_
  rintro e w1 ⟨S, sc, rfl, hown, hb1⟩
  replace hbw := hbw.trans (hb1.mono hbw.size)
  have hx := Ints.of_own hown rfl
  have hc := own_le hown
  rw [HLL.out] at hx hc ⊢
  clear hown HC f0 f1 hb1
  have HPX := tree_Path_any S N sc i xs w1 hx hc (by omega)
  by_cases hE : pathE N i = 0
  · obtain ⟨⟨N1, N2⟩, i1, i2⟩ := pathE_ok hE
    obtain ⟨k, rfl⟩ : ∃ k : Nat, i = (k : Int) := ⟨i.toNat, by omega⟩
    have FC := Lib.hid (show chunkO xs k = (xs.drop (4 * k)).take 4 by unfold chunkO; rw [HLL.out, if_pos hE]; simp)
    rw [hE] at HPX
    have HP := Lib.hid HPX
    have FE := Lib.hid hE
    obtain ⟨ps, hps⟩ : ∃ ps, ps = pathO xs k := ⟨_, rfl⟩
    rw [← hps] at HP
    have HPS := Lib.hid hps
    clear HPX hE hps
    have k4 : 4 * k < N := by omega
    have k5 : (4 * (k : Int)).toNat = 4 * k := by omega
    by_cases h4 : 4 * k + 4 ≤ N
    · have t1 : 4 * (k : Int) + 4 ≤ (N : Int) := by omega
      go_wp2_with fail
      refine HP.out.mono ?_
      rintro e w2 ⟨T, tc, rfl, O2, hb2⟩
      have hp := (hx.below hb2).cut (i := 4 * k) (m := 4) h4 (A' := S.map (·.add (4 * k))) (fun _ b off e => by rw [e]; simp [Go.WideShapes.add_plain])
      have HCL := Lib.hid (sl_Clone (S.map (·.add (4 * k))) 4 (sc - 4 * k) _ _ hp (by omega))
      have JT := Ints.of_own O2 rfl
      have hb12 := hbw.trans (hb2.mono hbw.size)
      rw [← FC.out] at HCL
      clear O2 hp hx
      go_wp2_with fail
      refine HCL.out.mono ?_
      rintro e w3 ⟨U, uc, rfl, O3, hb3⟩
      go_wp2
      go_ret3
      rw [FE.out, ← HPS.out]
      exact ⟨U, uc, T, tc, rfl, Ints.of_own O3 rfl, JT.below hb3, hb12.trans (hb3.mono hb12.size), own_le O3⟩
    · have t1 : (N : Int) < 4 * (k : Int) + 4 := by omega
      go_wp2_with fail
      refine HP.out.mono ?_
      rintro e w2 ⟨T, tc, rfl, O2, hb2⟩
      have hp := (hx.below hb2).cut (i := 4 * k) (m := N - 4 * k) (by omega) (A' := S.map (·.add (4 * k))) (fun _ b off e => by rw [e]; simp [Go.WideShapes.add_plain])
      have HCL := Lib.hid (sl_Clone (S.map (·.add (4 * k))) (N - 4 * k) (sc - 4 * k) _ _ hp (by omega))
      have JT := Ints.of_own O2 rfl
      have hb12 := hbw.trans (hb2.mono hbw.size)
      rw [show (xs.drop (4 * k)).take (N - 4 * k) = chunkO xs k by rw [FC.out, List.take_of_length_le (by rw [List.length_drop, HLL.out]; exact Nat.le_refl _), List.take_of_length_le (by rw [List.length_drop, HLL.out]; omega)]] at HCL
      clear O2 hp hx
      go_wp2_with fail
      refine HCL.out.mono ?_
      rintro e w3 ⟨U, uc, rfl, O3, hb3⟩
      go_wp2
      go_ret3
      rw [FE.out, ← HPS.out]
      exact ⟨U, uc, T, tc, rfl, Ints.of_own O3 rfl, JT.below hb3, hb12.trans (hb3.mono hb12.size), own_le O3⟩
  · have t0 : (pathE N i != 0) = true := by rw [bne_iff_ne]; exact hE
    have HA := Lib.hid (show pathO xs i = [] by unfold pathO; rw [HLL.out, if_neg hE])
    have HB := Lib.hid (show chunkO xs i = [] by unfold chunkO; rw [HLL.out, if_neg hE])
    rw [HA.out] at HPX
    have HP := Lib.hid HPX
    obtain ⟨z, hz⟩ : ∃ z, z = pathE N i := ⟨_, rfl⟩
    rw [← hz] at HP t0
    have HZ := Lib.hid hz
    clear HPX hE hz
    go_wp2_with fail
    refine HP.out.mono ?_
    rintro e w2 ⟨T, tc, rfl, O2, hb2⟩
    go_wp2
    go_ret3
    rw [HA.out, HB.out, ← HZ.out]
    exact ⟨none, 0, none, 0, rfl, Ints.nil _ _ _, Ints.nil _ _ _, hbw.trans (hb2.mono hbw.size), Nat.le_refl _⟩
theorem spot_Chunk (i : Int) (A1 A2 : Option Addr) (n1 k1 n2 k2 : Nat) (wt mv : List Int) (w : World) (q1 : Ints .i64 w A1 n1 wt) (q2 : Ints .i64 w A2 n2 mv) (hs : (n1 + n2) * 8 ≤ 140737488351232) :
    Calls Try.prog 41 #[.agg #[.slice A1 n1 k1, .slice A2 n2 k2], .int .i64 i] w (ChunkRes w (chunkO (wt ++ mv) i) (pathO (wt ++ mv) i) (pathE (n1 + n2) i)) :=
  (spot_ChunkCap i A1 A2 n1 k1 n2 k2 wt mv w q1 q2 hs).mono fun _ _ h => h.res
end Go.Proofs.Ytcfmjpcbiomdbaa
