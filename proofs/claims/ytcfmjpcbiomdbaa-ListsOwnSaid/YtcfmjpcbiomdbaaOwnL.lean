/- The law ListsOwn holds of the given program for every input. No condition. -/
import Derived.Test.YtcfmjpcbiomdbaaOwnC
import Derived.Test.YtcfmjpcbiomdbaaPupA
import Derived.Test.YtcfmjpcbiomdbaaPupilB
import Derived.Test.YtcfmjpcbiomdbaaSpot
import Derived.Test.YtcfmjpcbiomdbaaGrown
import Derived.Test.YtcfmjpcbiomdbaaTaught
namespace Go.Proofs.Ytcfmjpcbiomdbaa
open Go.ChangeShapes Go.WideShapes Go.ChangeAt Go.RowKit Go.Sort Pl

/-- What spot.Chunk hands back, in blocks of its own. -/
def ChunkOwn (w : World) (cs ps : List Int) (x : Int) (e : Ending) (w' : World) : Prop :=
  ∃ S s T t, e = .returned (.tuple #[.slice S cs.length s, .slice T ps.length t, .int .i64 x]) ∧ w'.ownsRow w.heap.size 3 1 (.slice S cs.length s) cs.length (cs.map (.int .i64)) ∧ w'.ownsRow w.heap.size 22 1 (.slice T ps.length t) ps.length (ps.map (.int .u64)) ∧ Below w.heap.size w w'

set_option maxRecDepth 100000 in
set_option maxHeartbeats 4000000 in
theorem spot_ChunkOwn (i : Int) (A1 A2 : Option Addr) (n1 k1 n2 k2 : Nat) (wt mv : List Int) (w : World) (q1 : Ints .i64 w A1 n1 wt) (q2 : Ints .i64 w A2 n2 mv) (hs : (n1 + n2) * 8 ≤ 140737488351232) :
    Calls Try.prog 41 #[.agg #[.slice A1 n1 k1, .slice A2 n2 k2], .int .i64 i] w (ChunkOwn w (chunkO (wt ++ mv) i) (pathO (wt ++ mv) i) (pathE (n1 + n2) i)) := by
  have HL : (wt ++ mv).length = n1 + n2 := by rw [List.length_append, q1.len, q2.len]
  have HS1 := Blk.made w 28 #[.slice A1 n1 k1, .slice A2 n2 k2]
  obtain ⟨⟨f0, f1⟩, _⟩ := HS1.two'
  have hv : Vals ((w.alloc (.cells #[.slice A1 n1 k1, .slice A2 n2 k2] 28)).alloc (.cells #[.slice A1 n1 k1, .slice A2 n2 k2] 26)) (some ⟨w.heap.size + 1, 0, none⟩) 2 [.slice A1 n1 k1, .slice A2 n2 k2] := by
    have h := Vals.made (w.alloc (.cells #[.slice A1 n1 k1, .slice A2 n2 k2] 28)) #[.slice A1 n1 k1, .slice A2 n2 k2] 26 2 [.slice A1 n1 k1, .slice A2 n2 k2] rfl rfl
    simpa using h
  have hp : Parts ((w.alloc (.cells #[.slice A1 n1 k1, .slice A2 n2 k2] 28)).alloc (.cells #[.slice A1 n1 k1, .slice A2 n2 k2] 26)) [.slice A1 n1 k1, .slice A2 n2 k2] [wt, mv] := ⟨rfl, fun j hj => by
    match j, hj with
    | 0, _ => exact ⟨A1, n1, k1, rfl, (q1.alloc _).alloc _⟩
    | 1, _ => exact ⟨A2, n2, k2, rfl, (q2.alloc _).alloc _⟩⟩
  have HCC := fun c => sl_Concat (some ⟨w.heap.size + 1, 0, none⟩) 2 c _ _ _ hv hp (n1 + n2) (by simpa using HL) hs (by omega)
  rw [show [wt, mv].flatten = wt ++ mv by simp] at HCC
  have HC := Lib.hid HCC
  have hbw : Below w.heap.size w ((w.alloc (.cells #[.slice A1 n1 k1, .slice A2 n2 k2] 28)).alloc (.cells #[.slice A1 n1 k1, .slice A2 n2 k2] 26)) := ((Below.refl _ _).alloc (Nat.le_refl _) _).alloc (by simp) _
  obtain ⟨xs, hxs⟩ : ∃ xs, xs = wt ++ mv := ⟨_, rfl⟩
  obtain ⟨N, hN⟩ : ∃ N, N = n1 + n2 := ⟨_, rfl⟩
  rw [← hxs] at HC HL ⊢
  rw [← hN] at HL hs ⊢
  have HLL := Lib.hid HL
  clear hv hp HCC q1 q2 hxs hN HS1 HL
  go_enter Try.func41, Try.ntmps41
  go_wp2_with fail
  refine (HC.out _).mono ?_
  rintro e w1 ⟨S, sc, rfl, hown, hb1⟩
  replace hbw := hbw.trans (hb1.mono hbw.size)
  have hx := Ints.of_own hown rfl
  have hc := own_le hown
  rw [HLL.out] at hx hc ⊢
  clear hown HC f0 f1 hb1
  have HPX := tree_Path_any S N sc i xs w1 hx hc (by omega)
  by_cases hE : pathE N i = 0
  · obtain ⟨⟨N1, N2⟩, i1, i2⟩ := pathE_ok hE
    obtain ⟨k, rfl⟩ : ∃ k : Nat, i = (k : Int) := ⟨i.toNat, by omega⟩
    have FC := Lib.hid (show chunkO xs k = (xs.drop (4 * k)).take 4 by unfold chunkO; rw [HLL.out, if_pos hE]; simp)
    rw [hE] at HPX
    have HP := Lib.hid HPX
    have FE := Lib.hid hE
    obtain ⟨ps, hps⟩ : ∃ ps, ps = pathO xs k := ⟨_, rfl⟩
    rw [← hps] at HP
    have HPS := Lib.hid hps
    clear HPX hE hps
    have k4 : 4 * k < N := by omega
    have k5 : (4 * (k : Int)).toNat = 4 * k := by omega
    by_cases h4 : 4 * k + 4 ≤ N
    · have t1 : 4 * (k : Int) + 4 ≤ (N : Int) := by omega
      go_wp2_with fail
      refine HP.out.mono ?_
      rintro e w2 ⟨T, tc, rfl, O2, hb2⟩
      have hp := (hx.below hb2).cut (i := 4 * k) (m := 4) h4 (A' := S.map (·.add (4 * k))) (fun _ b off e => by rw [e]; simp [Go.WideShapes.add_plain])
      have HCL := Lib.hid (sl_Clone (S.map (·.add (4 * k))) 4 (sc - 4 * k) _ _ hp (by omega))
      have hb12 := hbw.trans (hb2.mono hbw.size)
      rw [← FC.out] at HCL
      clear hp hx
      go_wp2_with fail
      refine HCL.out.mono ?_
      rintro e w3 ⟨U, uc, rfl, O3, hb3⟩
      go_wp2
      go_ret3
      rw [FE.out, ← HPS.out]
      exact ⟨U, uc, T, tc, rfl, own_base O3 hb12.size, own_base (own_below O2 hb3) hbw.size, hb12.trans (hb3.mono hb12.size)⟩
    · have t1 : (N : Int) < 4 * (k : Int) + 4 := by omega
      go_wp2_with fail
      refine HP.out.mono ?_
      rintro e w2 ⟨T, tc, rfl, O2, hb2⟩
      have hp := (hx.below hb2).cut (i := 4 * k) (m := N - 4 * k) (by omega) (A' := S.map (·.add (4 * k))) (fun _ b off e => by rw [e]; simp [Go.WideShapes.add_plain])
      have HCL := Lib.hid (sl_Clone (S.map (·.add (4 * k))) (N - 4 * k) (sc - 4 * k) _ _ hp (by omega))
      have hb12 := hbw.trans (hb2.mono hbw.size)
      rw [show (xs.drop (4 * k)).take (N - 4 * k) = chunkO xs k by rw [FC.out, List.take_of_length_le (by rw [List.length_drop, HLL.out]; exact Nat.le_refl _), List.take_of_length_le (by rw [List.length_drop, HLL.out]; omega)]] at HCL
      clear hp hx
      go_wp2_with fail
      refine HCL.out.mono ?_
      rintro e w3 ⟨U, uc, rfl, O3, hb3⟩
      go_wp2
      go_ret3
      rw [FE.out, ← HPS.out]
      exact ⟨U, uc, T, tc, rfl, own_base O3 hb12.size, own_base (own_below O2 hb3) hbw.size, hb12.trans (hb3.mono hb12.size)⟩
  · have t0 : (pathE N i != 0) = true := by rw [bne_iff_ne]; exact hE
    have HA := Lib.hid (show pathO xs i = [] by unfold pathO; rw [HLL.out, if_neg hE])
    have HB := Lib.hid (show chunkO xs i = [] by unfold chunkO; rw [HLL.out, if_neg hE])
    rw [HA.out] at HPX
    have HP := Lib.hid HPX
    obtain ⟨z, hz⟩ : ∃ z, z = pathE N i := ⟨_, rfl⟩
    rw [← hz] at HP t0
    have HZ := Lib.hid hz
    clear HPX hE hz
    go_wp2_with fail
    refine HP.out.mono ?_
    rintro e w2 ⟨T, tc, rfl, O2, hb2⟩
    go_wp2
    go_ret3
    rw [HA.out, HB.out, ← HZ.out]
    exact ⟨none, 0, none, 0, rfl, World.ownsRow_nil _ _ _ _, World.ownsRow_nil _ _ _ _, hbw.trans (hb2.mono hbw.size)⟩

/-- A slice whose whole room is the call's own, between two marks. -/
def SpP (t : TypeId) (B H : Nat) (w : World) (v : Value) : Prop :=
  v = .slice none 0 0 ∨ ∃ b n c cur, v = .slice (some ⟨b, 0, none⟩) n c ∧ Blk w b t cur ∧ cur.size = c ∧ n ≤ c ∧ c ≤ maxLen ∧ B ≤ b ∧ b < H
theorem SpP.own {t : TypeId} {B B' n : Nat} {w : World} {v : Value} {xs : List Value} (h : w.ownsRow B' t 1 v n xs) (hB : B ≤ B') : SpP t B w.heap.size w v := by
  rcases h.2 with ⟨hv, h0⟩ | ⟨g, cap, cur, hv, hb, hg, h1, h2, h3, _⟩
  · exact .inl hv
  · exact .inr ⟨g, n, cap, cur, hv, hg, by rw [h3, Nat.mul_one], h1, h2, by omega, (Array.getElem?_eq_some_iff.1 hg).1⟩
theorem SpP.below {t : TypeId} {B H : Nat} {w w' : World} {v : Value} (h : SpP t B H w v) (hb : Below w.heap.size w w') : SpP t B H w' v := by
  rcases h with h | ⟨b, n, c, cur, h1, h2, h3⟩
  · exact .inl h
  · exact .inr ⟨b, n, c, cur, h1, h2.below hb h2.lt, h3⟩
theorem SpP.up {t : TypeId} {B H H' : Nat} {w : World} {v : Value} (h : SpP t B H w v) (hH : H ≤ H') : SpP t B H' w v := by
  rcases h with h | ⟨b, n, c, cur, h1, h2, h3, h4, h5, h6, h7⟩
  · exact .inl h
  · exact .inr ⟨b, n, c, cur, h1, h2, h3, h4, h5, h6, by omega⟩
/-- All of them, in one list. -/
def AllP (B : Nat) (w : World) (vs : List Value) : Prop := ∀ v ∈ vs, SpP 3 B w.heap.size w v
theorem AllP.add {B : Nat} {w w' : World} {vs us : List Value} (h : AllP B w vs) (hb : Below w.heap.size w w') (hu : AllP B w' us) : AllP B w' (vs ++ us) := by
  intro v hv
  rcases List.mem_append.1 hv with h1 | h1
  · exact ((h v h1).below hb).up hb.size
  · exact hu v h1
theorem AllP.nil (B : Nat) (w : World) : AllP B w [] := fun v hv => by cases hv
theorem AllP.cons {B B' n : Nat} {w : World} {v : Value} {xs : List Value} {us : List Value} (h : w.ownsRow B' 3 1 v n xs) (hB : B ≤ B') (hu : AllP B w us) : AllP B w (v :: us) := by
  intro u hu'
  rcases List.mem_cons.1 hu' with rfl | h1
  · exact SpP.own h hB
  · exact hu u h1

set_option maxRecDepth 100000 in
set_option maxHeartbeats 2000000 in
theorem kp_spoil0 (x : Int) (w : World) : Calls Try.prog 29 #[.slice none 0 0, .int .i64 x] w fun e w' => e = .returned (.tuple #[]) ∧ w' = w := by
  go_enter Try.func29, Try.ntmps29
  go_wp2
  go_loopw [4, 11] (fun _ i wr => i = .int .i64 0 ∧ wr = w) (fun _ _ _ => 0)
  case atStart => exact ⟨rfl, rfl⟩
  case round =>
    obtain ⟨rfl, rfl⟩ := hrel
    go_wp2
    exact bodyPost_end (v := .tuple #[]) (by simp [results, Try.results29, go_sem]) rfl ⟨rfl, rfl⟩
set_option maxRecDepth 100000 in
set_option maxHeartbeats 2000000 in
theorem kp_spoilU0 (x : Int) (w : World) : Calls Try.prog 42 #[.slice none 0 0, .int .u64 x] w fun e w' => e = .returned (.tuple #[]) ∧ w' = w := by
  go_enter Try.func42, Try.ntmps42
  go_wp2
  go_loopw [4, 11] (fun _ i wr => i = .int .i64 0 ∧ wr = w) (fun _ _ _ => 0)
  case atStart => exact ⟨rfl, rfl⟩
  case round =>
    obtain ⟨rfl, rfl⟩ := hrel
    go_wp2
    exact bodyPost_end (v := .tuple #[]) (by simp [results, Try.results42, go_sem]) rfl ⟨rfl, rfl⟩
set_option maxRecDepth 100000 in
set_option maxHeartbeats 2000000 in
theorem kp_spoilU (g n cp : Nat) (x : Int) (cur : Array Value) (w : World) (hB : Blk w g 22 cur) (hs : cur.size = cp) (hn : n ≤ cp) (hm : cp ≤ maxLen) :
    Calls Try.prog 42 #[.slice (some ⟨g, 0, none⟩) n cp, .int .u64 x] w fun e w' => e = .returned (.tuple #[]) ∧ (∃ cur', Blk w' g 22 cur' ∧ cur'.size = cp) ∧ But g w w' := by
  have hm' : cp ≤ 9223372036854775807 := by unfold maxLen at hm; omega
  have q1 : (n : Int) ≤ (cp : Int) := by omega
  clear hm
  go_enter Try.func42, Try.ntmps42
  go_wp2
  go_loopw [4, 11] (fun _ i wr => ∃ k : Nat, k ≤ cp ∧ i = .int .i64 k ∧ (∃ cur', Blk wr g 22 cur' ∧ cur'.size = cp) ∧ But g w wr) (fun _ i _ => cp - (intOf i).toNat)
  case atStart => exact ⟨0, by omega, rfl, ⟨cur, hB, hs⟩, But.refl _ _⟩
  case round =>
    clear hB hs
    obtain ⟨k, hk, rfl, ⟨cu, hB, hs⟩, hb⟩ := hrel
    by_cases hlt : k < cp
    · have y0 : wr.cell? ⟨g, k, none⟩ = some (cu[k]'(by omega)) := by rw [hB.cell]; exact Array.getElem?_eq_getElem _
      have z0 := hB.frozen k
      have k0 : (0 : Int) ≤ (k : Int) := by omega
      have k1 : (k : Int) < (cp : Int) := by omega
      have hlg := hB.lt
      have hB2 := hB.put k (.int .u64 x)
      have hb2 := hb.put k (.int .u64 x)
      go_wp2
      go_roundw
      case rel => exact ⟨k + 1, by omega, by go_num, ⟨_, hB2, by simpa using hs⟩, hb2⟩
      case measure => simp [intOf]; omega
    · obtain rfl : k = cp := by omega
      go_wp2
      exact bodyPost_end (v := .tuple #[]) (by simp [results, Try.results42, go_sem]) rfl ⟨rfl, ⟨cu, hB, hs⟩, hb⟩

def InI (B H b : Nat) : Prop := B ≤ b ∧ b < H
theorem blk_againT {t : TypeId} {w w' : World} {b1 b2 c1 c2 : Nat} {cur1 cur2 cu : Array Value} (B1 : Blk w b1 3 cur1) (z1 : cur1.size = c1) (B2 : Blk w b2 t cur2) (z2 : cur2.size = c2) (C1 : Blk w' b1 3 cu) (y1 : cu.size = c1) (hb : But b1 w w') : ∃ cu2, Blk w' b2 t cu2 ∧ cu2.size = c2 := by
  by_cases e : b2 = b1
  · subst e
    have h := B1.symm.trans B2
    injection h with h
    injection h with h1 h2
    subst h1; subst h2
    exact ⟨cu, C1, by omega⟩
  · exact ⟨cur2, B2.butB hb e, z2⟩
theorem SpP.again {t : TypeId} {B H b c : Nat} {w w' : World} {cur cu : Array Value} {v : Value} (h : SpP t B H w v) (B1 : Blk w b 3 cur) (z1 : cur.size = c) (C1 : Blk w' b 3 cu) (y1 : cu.size = c) (hb : But b w w') : SpP t B H w' v := by
  rcases h with h | ⟨b2, n, c2, cur2, h1, h2, h3, h4⟩
  · exact .inl h
  · obtain ⟨cu2, k1, k2⟩ := blk_againT B1 z1 h2 h3 C1 y1 hb
    exact .inr ⟨b2, n, c2, cu2, h1, k1, k2, h4⟩
/-- One list is spoiled; the others' room stays. -/
theorem kp_spoilP (B H : Nat) (v : Value) (x : Int) (w : World) (h : SpP 3 B H w v) :
    Calls Try.prog 29 #[v, .int .i64 x] w fun e w' => e = .returned (.tuple #[]) ∧ FrS (InI B H) w w' ∧ ∀ t u, SpP t B H w u → SpP t B H w' u := by
  rcases h with rfl | ⟨b, n, c, cur, rfl, hB, hs, h1, h2, h3, h4⟩
  · refine (kp_spoil0 x w).mono ?_
    rintro e w' ⟨rfl, rfl⟩
    exact ⟨rfl, FrS.refl _ _, fun t u hu => hu⟩
  · refine (kp_spoil b n c x cur w hB hs h1 h2).mono ?_
    rintro e w' ⟨rfl, ⟨cu, C1, v1⟩, hb⟩
    exact ⟨rfl, (FrS.refl _ _).but hb ⟨h3, h4⟩, fun t u hu => hu.again hB hs C1 v1 hb⟩
theorem kp_spoilPU (B H : Nat) (v : Value) (x : Int) (w : World) (h : SpP 22 B H w v) :
    Calls Try.prog 42 #[v, .int .u64 x] w fun e w' => e = .returned (.tuple #[]) ∧ FrS (InI B H) w w' := by
  rcases h with rfl | ⟨b, n, c, cur, rfl, hB, hs, h1, h2, h3, h4⟩
  · refine (kp_spoilU0 x w).mono ?_
    rintro e w' ⟨rfl, rfl⟩
    exact ⟨rfl, FrS.refl _ _⟩
  · refine (kp_spoilU b n c x cur w hB hs h1 h2).mono ?_
    rintro e w' ⟨rfl, _, hb⟩
    exact ⟨rfl, (FrS.refl _ _).but hb ⟨h3, h4⟩⟩
theorem FrS.trans {S : Nat → Prop} {a b c : World} (h : FrS S a b) (h' : FrS S b c) : FrS S a c :=
  ⟨h'.os.trans h.os, h'.tape.trans h.tape, h'.output.trans h.output, Nat.le_trans h.size h'.size, fun k hk hn => (h'.block k (Nat.lt_of_lt_of_le hk h.size) hn).trans (h.block k hk hn)⟩

set_option maxRecDepth 100000 in
set_option maxHeartbeats 8000000 in
theorem listsOwn_walk (r1 c1 : Int) (A1 : Option Addr) (n1 k1 : Nat) (a1 : List Int) (r2 c2 : Int) (A2 : Option Addr) (n2 k2 : Nat) (a2 : List Int) (B1 : Option Addr) (m1 d1 : Nat) (b1 : List Int) (B2 : Option Addr) (m2 d2 : Nat) (b2 : List Int) (X : Option Addr) (ni xc : Nat) (x : List Int) (T : Option Addr) (no tc : Nat) (t : List Int) (L : Option Addr) (nl lc : Nat) (ls : List Int) (w : World) (i1 : Ints .i64 w A1 n1 a1) (i2 : Ints .i64 w A2 n2 a2) (j1 : Ints .i64 w B1 m1 b1) (j2 : Ints .i64 w B2 m2 b2) (ix : Ints .i64 w X ni x) (it : Ints .i64 w T no t) (il : Ints .i64 w L nl ls) (g1 : n1 ≤ k1) (g2 : n2 ≤ k2) (h1 : n1 ≤ 9223372036854775807) (h2 : n2 ≤ 9223372036854775807) (h3 : m1 ≤ 9223372036854775807) (h4 : m2 ≤ 9223372036854775807) (hl1 : nl ≤ lc) (hl2 : nl ≤ 9223372036854775807) :
    Calls Try.prog 7 #[(.agg #[.int .i64 r1, .int .i64 c1, .slice A1 n1 k1, .int .i64 r2, .int .i64 c2, .slice A2 n2 k2, .slice B1 m1 d1, .slice B2 m2 d2]), .agg #[.slice X ni xc, .slice T no tc], .slice L nl lc] w fun e w' => e = .returned (.bool true) ∧ Below w.heap.size w w' := by
  have HI := Lib.hid (fun W (h : Below w.heap.size w W) => And.intro (And.intro (i1.below h) (i2.below h)) (And.intro (And.intro (j1.below h) (j2.below h)) (And.intro (And.intro (ix.below h) (it.below h)) (il.below h))))
  have HRP := Lib.hid (fun W (q : Below w.heap.size w W) => ref_Pupil r1 c1 A1 n1 k1 a1 r2 c2 A2 n2 k2 a2 B1 m1 d1 b1 B2 m2 d2 b2 W (i1.below q) (i2.below q) (j1.below q) (j2.below q) h1 h2 h3 h4)
  have HBP := (Blk.made w 67 #[.int .i64 r1, .int .i64 c1, .slice A1 n1 k1, .int .i64 r2, .int .i64 c2, .slice A2 n2 k2, .slice B1 m1 d1, .slice B2 m2 d2]).alloc (.cells #[.slice X ni xc, .slice T no tc] 69)
  have HBX := Blk.made' (w.alloc (.cells #[.int .i64 r1, .int .i64 c1, .slice A1 n1 k1, .int .i64 r2, .int .i64 c2, .slice A2 n2 k2, .slice B1 m1 d1, .slice B2 m2 d2] 67)) 69 #[.slice X ni xc, .slice T no tc] (g := w.heap.size + 1) (by simp)
  have b0 : Below w.heap.size w ((w.alloc (.cells #[.int .i64 r1, .int .i64 c1, .slice A1 n1 k1, .int .i64 r2, .int .i64 c2, .slice A2 n2 k2, .slice B1 m1 d1, .slice B2 m2 d2] 67)).alloc (.cells #[.slice X ni xc, .slice T no tc] 69)) := (by repeat (first | exact Below.refl _ _ | assumption | refine bel_drewN ?_ _ | refine Below.drew ?_ | (refine Below.alloc ?_ (by simp <;> omega) _) | (refine Below.setCell ?_ (by simp <;> omega) _)))
  go_enter Try.func7, Try.ntmps7
  go_wp2_with fail
  refine (keep_grown _).mono ?_
  rintro e w1 ⟨rfl, hb1⟩
  have hw1 := b0.trans (hb1.mono b0.size)
  replace HBP := HBP.below hb1 HBP.lt
  replace HBX := HBX.below hb1 HBX.lt
  go_wp2_with fail
  refine (keep_taught _).mono ?_
  rintro e w2 ⟨rfl, hb2⟩
  have hw2 := hw1.trans (hb2.mono hw1.size)
  replace HBP := HBP.below hb2 HBP.lt
  replace HBX := HBX.below hb2 HBX.lt
  clear hb1 hb2 hw1 b0
  obtain ⟨p0, p1, p2, p3, p4, p5, p6, p7⟩ := HBP.pup
  go_wp2_with fail
  refine (HRP.out _ hw2).mono ?_
  rintro e w3 ⟨rfl, hb3⟩
  have hw3 := hw2.trans (hb3.mono hw2.size)
  replace HBP := HBP.below hb3 HBP.lt
  replace HBX := HBX.below hb3 HBX.lt
  clear p0 p1 p2 p3 p4 p5 p6 p7 hb3 hw2
  obtain ⟨p0, p1, p2, p3, p4, p5, p6, p7⟩ := HBP.pup
  obtain ⟨⟨x0, x1⟩, _⟩ := HBX.two
  by_cases hP : pupE r1 c1 a1 r2 c2 a2 b1 b2 = 0
  · by_cases hni : (ni : Int) = c1
    · by_cases hno : (no : Int) = r2
      · have t0 : (pupE r1 c1 a1 r2 c2 a2 b1 b2 != 0) = false := by rw [hP]; rfl
        have t1 : ((ni : Int) != c1) = false := by rw [hni]; simp
        have t2 : ((no : Int) != r2) = false := by rw [hno]; simp
        obtain ⟨hni4, hno4⟩ : ni ≤ 4 ∧ no ≤ 4 := by
          obtain ⟨Hh, Ii, Oo, _, e2', e3', _, _, hI4, hO4, _⟩ := pup_dims hP
          omega
        have HFL := flatP_len40 hP
        have HRF := Lib.hid (fun W (q : Below w.heap.size w W) => ref_Flat r1 c1 A1 n1 k1 a1 r2 c2 A2 n2 k2 a2 B1 m1 d1 b1 B2 m2 d2 b2 W (HI.out W q).1.1 (HI.out W q).1.2 (HI.out W q).2.1.1 (HI.out W q).2.1.2 HFL)
        have HRS := Lib.hid (fun S1 q1 S2 q2 U1 e1 U2 e2 W i1 i2 i3 i4 => ref_Flat r1 c1 S1 a1.length q1 a1 r2 c2 S2 a2.length q2 a2 U1 b1.length e1 b1 U2 b2.length e2 b2 W i1 i2 i3 i4 HFL)
        have HPF := Lib.hid (fun W (q : Below w.heap.size w W) => pup_Flat_ok r1 c1 A1 n1 k1 a1 r2 c2 A2 n2 k2 a2 B1 m1 d1 b1 B2 m2 d2 b2 W (HI.out W q).1.1 (HI.out W q).1.2 (HI.out W q).2.1.1 (HI.out W q).2.1.2 h1 h2 h3 h4 hP)
        have HFW := Lib.hid (fun W (q : Below w.heap.size w W) => pup_Forward_any r1 c1 A1 n1 k1 a1 r2 c2 A2 n2 k2 a2 B1 m1 d1 b1 B2 m2 d2 b2 X ni xc x W (HI.out W q).1.1 (HI.out W q).1.2 (HI.out W q).2.1.1 (HI.out W q).2.1.2 (HI.out W q).2.2.1.1 g1 g2 h1 h2 h3 h4)
        have HGR := Lib.hid (fun W (q : Below w.heap.size w W) => pup_Grad_any r1 c1 A1 n1 k1 a1 r2 c2 A2 n2 k2 a2 B1 m1 d1 b1 B2 m2 d2 b2 X T ni no xc tc x t W (HI.out W q).1.1 (HI.out W q).1.2 (HI.out W q).2.1.1 (HI.out W q).2.1.2 (HI.out W q).2.2.1.1 (HI.out W q).2.2.1.2 g1 g2 h1 h2 h3 h4)
        have HKL := Lib.hid (fun W (q : Below w.heap.size w W) => keep_list L nl lc ls W (HI.out W q).2.2.2 hl1 hl2)
        have HCX := Lib.hid (fun W (q : Below w.heap.size w W) => sl_Clone X ni xc x W (HI.out W q).2.2.1.1 (by omega))
        have HCT := Lib.hid (fun W (q : Below w.heap.size w W) => sl_Clone T no tc t W (HI.out W q).2.2.1.2 (by omega))
        have HXL := Lib.hid ix.len
        have HTL := Lib.hid it.len
        obtain ⟨f1, f2⟩ := shape_flat hP
        have HSH := Lib.hid (fun A c W (q : Ints .i64 W A (flatP a1 b1 a2 b2).length (flatP a1 b1 a2 b2)) (qc : (flatP a1 b1 a2 b2).length ≤ c) => show Calls Try.prog 36 #[.int .i64 c1, .int .i64 r1, .int .i64 r2, .slice A (flatP a1 b1 a2 b2).length c] W (PupOwn W ⟨r1, c1, a1, r2, c2, a2, b1, b2⟩ 0) from by
          have h0 := pup_Shape_any c1 r1 r2 A (flatP a1 b1 a2 b2).length c (flatP a1 b1 a2 b2) W q qc (by omega)
          rw [f1, f2] at h0
          exact h0)
        clear f1 f2
        rw [hP]
        clear hP hni hno HRP h1 h2 h3 h4 g1 g2 hl1 hl2 i1 i2 j1 j2 ix it il t0
        have u0 : ((0 : Int) != 0) = false := rfl
        obtain ⟨fl, hfl⟩ : ∃ fl, fl = flatP a1 b1 a2 b2 := ⟨_, rfl⟩
        rw [← hfl] at HFL HRF HRS HPF HSH
        clear hfl
        go_wp2_with fail
        refine (HKL.out _ hw3).mono ?_
        rintro e w4 ⟨L4, n4, c4, ys, rfl, I4, q1, q60, qc, hb4⟩
        have hyl := I4.len
        subst hyl
        clear t1 t2 u0
        have hw4 := hw3.trans (hb4.mono hw3.size)
        have HC4 := Lib.hid (sl_Clone L4 ys.length c4 ys w4 I4 (by omega))
        clear I4 qc HKL
        go_wp2_with fail
        refine HC4.out.mono ?_
        rintro e w5 ⟨L5, c5, rfl, O5, hb5⟩
        have hw5 := hw4.trans (hb5.mono hw4.size)
        have h35 := hb4.trans (hb5.mono hb4.size)
        have I5 := Ints.of_own O5 rfl
        clear p0 p1 p2 p3 p4 p5 p6 p7 hb4 hb5 O5 HC4 hw4
        replace HBP := HBP.below h35 HBP.lt
        replace HBX := HBX.below h35 HBX.lt
        obtain ⟨p0, p1, p2, p3, p4, p5, p6, p7⟩ := HBP.pup
        go_wp2_with fail
        refine (HRF.out _ hw5).mono ?_
        rintro e w6 ⟨F6, c6, rfl, O6, hb6⟩
        have hw6 := hw5.trans (hb6.mono hw5.size)
        have hc6 := own_capT O6
        have I6 := Ints.of_own O6 rfl
        replace I5 := I5.below hb6
        have HC6 := Lib.hid (sl_Clone L5 ys.length c5 ys w6 I5 (by omega))
        go_wp2_with fail
        refine HC6.out.mono ?_
        rintro e w7 ⟨L7, c7, rfl, O7, hb7⟩
        have hw7 := hw6.trans (hb7.mono hw6.size)
        have h57 := hb6.trans (hb7.mono hb6.size)
        replace I5 := I5.below hb7
        replace I6 := I6.below hb7
        have I7 := Ints.of_own O7 rfl
        clear p0 p1 p2 p3 p4 p5 p6 p7 x0 x1 hb6 hb7 O6 O7 HC6 hw6
        replace HBP := HBP.below h57 HBP.lt
        replace HBX := HBX.below h57 HBX.lt
        have HSS := Lib.hid (fun W (q : Below w7.heap.size w7 W) => (HBX.below q HBX.lt).two.1)
        go_upto_region 7 with fail
        go_cut [9, 10] (fun v u wx => ∃ X9 x9 T9 t9, v = .slice X9 x.length x9 ∧ u = .slice T9 t.length t9 ∧ Ints .i64 wx X9 x.length x ∧ Ints .i64 wx T9 t.length t ∧ Below w7.heap.size w7 wx)
        case first =>
          go_region_held3 (fun W => W.cell? ⟨w.heap.size + 1, 0, none⟩ = some (.slice X ni xc) ∧ W.cell? ⟨w.heap.size + 1, 1, none⟩ = some (.slice T no tc)) (first | (with_reducible exact HSS.out _ ((Below.refl _ _).drew)) | (with_reducible exact HSS.out _ hu1) | (with_reducible exact HSS.out _ hu2) | fail) (first
            | (go_at_call 32; (with_reducible refine (HCX.out _ (hw7.trans (((Below.refl _ _).drew).mono hw7.size))).mono ?_); rintro e u1 ⟨X9, x9, rfl, oX, hbu⟩; have hu1 : Below w7.heap.size w7 u1 := bel_trans ((Below.refl _ _).drew) hbu)
            | (go_at_call 32; (with_reducible refine (HCT.out _ (hw7.trans (hu1.mono hw7.size))).mono ?_); rintro e u2 ⟨T9, t9, rfl, oT, hbv⟩; have hu2 : Below w7.heap.size w7 u2 := bel_trans hu1 hbv)
            | fail)
          all_goals
            go_wp2
            go_meet
            case rel => exact ⟨X9, x9, T9, t9, rfl, rfl, (Ints.of_own oX rfl).below hbv, Ints.of_own oT rfl, hu2⟩
        case rest =>
          obtain ⟨X9, x9, T9, t9, rfl, rfl, IX9, IT9, hb79⟩ := hcut
          obtain ⟨wB, rfl⟩ : ∃ wB : World, wB = wc := ⟨_, rfl⟩
          have hwB := hw7.trans (hb79.mono hw7.size)
          replace HBP := HBP.below hb79 HBP.lt
          replace HBX := HBX.below hb79 HBX.lt
          replace I5 := I5.below hb79
          replace I6 := I6.below hb79
          replace I7 := I7.below hb79
          clear hb79 hw7 HSS HCX HCT
          obtain ⟨p0, p1, p2, p3, p4, p5, p6, p7⟩ := HBP.pup
          go_wp2_with fail
          refine (HPF.out _ hwB).mono ?_
          rintro e w8 ⟨F8, c8, rfl, O8, hb8⟩
          have hw8 := hwB.trans (hb8.mono hwB.size)
          have A8 : AllP wB.heap.size w8 [.slice F8 fl.length c8] := AllP.cons O8 (Nat.le_refl _) (AllP.nil _ _)
          clear p0 p1 p2 p3 p4 p5 p6 p7 O8
          obtain ⟨p0, p1, p2, p3, p4, p5, p6, p7⟩ := (HBP.below hb8 HBP.lt).pup
          go_wp2_with fail
          refine (HSH.out F6 c6 w8 (I6.below hb8) hc6).mono ?_
          rintro e w9 ⟨S1, q1', S2, q2', U1, e1, U2, e2, rfl, o1, o2, o3, o4, hb9⟩
          dsimp only at o1 o2 o3 o4
          have b89 := hb8.trans (hb9.mono hb8.size)
          have A9 : AllP wB.heap.size w9 ([.slice F8 fl.length c8] ++ [.slice S1 a1.length q1', .slice U1 b1.length e1, .slice S2 a2.length q2', .slice U2 b2.length e2]) := A8.add hb9 (AllP.cons o1 hb8.size (AllP.cons o3 hb8.size (AllP.cons o2 hb8.size (AllP.cons o4 hb8.size (AllP.nil _ _)))))
          have IS1 := Ints.of_own o1 rfl
          have IS2 := Ints.of_own o2 rfl
          have IU1 := Ints.of_own o3 rfl
          have IU2 := Ints.of_own o4 rfl
          have bX9 : Below w9.heap.size w9 (w9.alloc (.cells #[.int .i64 r1, .int .i64 c1, .slice S1 a1.length q1', .int .i64 r2, .int .i64 c2, .slice S2 a2.length q2', .slice U1 b1.length e1, .slice U2 b2.length e2] 67)) := (Below.refl _ _).alloc (Nat.le_refl _) _
          have BS := Blk.made w9 67 #[.int .i64 r1, .int .i64 c1, .slice S1 a1.length q1', .int .i64 r2, .int .i64 c2, .slice S2 a2.length q2', .slice U1 b1.length e1, .slice U2 b2.length e2]
          obtain ⟨W9, hW9⟩ : ∃ W9, W9 = w9.alloc (.cells #[.int .i64 r1, .int .i64 c1, .slice S1 a1.length q1', .int .i64 r2, .int .i64 c2, .slice S2 a2.length q2', .slice U1 b1.length e1, .slice U2 b2.length e2] 67) := ⟨_, rfl⟩
          rw [← hW9] at bX9 BS
          have HW9 := Lib.hid hW9
          clear hW9
          have b9 := b89.trans (bX9.mono b89.size)
          have A9' := A9.add bX9 (AllP.nil _ _)
          replace IS1 := IS1.below bX9
          replace IS2 := IS2.below bX9
          replace IU1 := IU1.below bX9
          replace IU2 := IU2.below bX9
          clear p0 p1 p2 p3 p4 p5 p6 p7 o1 o2 o3 o4 A8 A9 bX9 hb9 hb8 b89 hw8
          have hw9 := hwB.trans (b9.mono hwB.size)
          obtain ⟨p0, p1, p2, p3, p4, p5, p6, p7⟩ := (HBP.below b9 HBP.lt).pup
          obtain ⟨⟨x0, x1⟩, _⟩ := (HBX.below b9 HBX.lt).two
          go_upto_region 10 with fail
          rw [← HW9.out]
          go_wp2_with fail
          refine (HFW.out _ hw9).mono ?_
          rintro e w10 ⟨Y1, y1, Y2, y2, rfl, oh, oy, hb10⟩
          obtain ⟨hl, hhl⟩ : ∃ hl, hl = hidO r1 c1 a1 r2 c2 a2 b1 b2 x := ⟨_, rfl⟩
          obtain ⟨yl, hyl⟩ : ∃ yl, yl = outpO r1 c1 a1 r2 c2 a2 b1 b2 x := ⟨_, rfl⟩
          rw [← hhl] at oh ⊢
          rw [← hyl] at oy ⊢
          clear hhl hyl
          have b10 := b9.trans (hb10.mono b9.size)
          have A10 := A9'.add hb10 (AllP.cons oh b9.size (AllP.cons oy b9.size (AllP.nil _ _)))
          have hw10 := hwB.trans (b10.mono hwB.size)
          have BS10 := BS.below hb10 BS.lt
          replace IS1 := IS1.below hb10
          replace IS2 := IS2.below hb10
          replace IU1 := IU1.below hb10
          replace IU2 := IU2.below hb10
          clear p0 p1 p2 p3 p4 p5 p6 p7 x0 x1 oh oy A9' hb10 BS
          obtain ⟨p0, p1, p2, p3, p4, p5, p6, p7⟩ := (HBP.below b10 HBP.lt).pup
          obtain ⟨⟨x0, x1⟩, _⟩ := (HBX.below b10 HBX.lt).two
          go_wp2_with fail
          refine (HGR.out _ hw10).mono ?_
          rintro e w11 ⟨G1, z1, G2, z2, V1, v1, V2, v2, rfl, o1, o2, o3, o4, hb11⟩
          obtain ⟨gP, hgP⟩ : ∃ gP, gP = gradO r1 c1 a1 r2 c2 a2 b1 b2 x t := ⟨_, rfl⟩
          rw [← hgP] at o1 o2 o3 o4 ⊢
          clear hgP
          have b11 := b10.trans (hb11.mono b10.size)
          have A11 := A10.add hb11 (AllP.cons o1 b10.size (AllP.cons o3 b10.size (AllP.cons o2 b10.size (AllP.cons o4 b10.size (AllP.nil _ _)))))
          have BS11 := BS10.below hb11 BS10.lt
          replace IS1 := IS1.below hb11
          replace IS2 := IS2.below hb11
          replace IU1 := IU1.below hb11
          replace IU2 := IU2.below hb11
          have bX11 : Below w11.heap.size w11 (w11.alloc (.cells #[.int .i64 gP.r1, .int .i64 gP.c1, .slice G1 gP.a1.length z1, .int .i64 gP.r2, .int .i64 gP.c2, .slice G2 gP.a2.length z2, .slice V1 gP.b1.length v1, .slice V2 gP.b2.length v2] 67)) := (Below.refl _ _).alloc (Nat.le_refl _) _
          have BG := Blk.made w11 67 #[.int .i64 gP.r1, .int .i64 gP.c1, .slice G1 gP.a1.length z1, .int .i64 gP.r2, .int .i64 gP.c2, .slice G2 gP.a2.length z2, .slice V1 gP.b1.length v1, .slice V2 gP.b2.length v2]
          obtain ⟨W11, hW11⟩ : ∃ W11, W11 = w11.alloc (.cells #[.int .i64 gP.r1, .int .i64 gP.c1, .slice G1 gP.a1.length z1, .int .i64 gP.r2, .int .i64 gP.c2, .slice G2 gP.a2.length z2, .slice V1 gP.b1.length v1, .slice V2 gP.b2.length v2] 67) := ⟨_, rfl⟩
          rw [← hW11] at bX11 BG
          have HW11 := Lib.hid hW11
          clear hW11
          have A12 := A11.add bX11 (AllP.nil _ _)
          have b12 := b11.trans (bX11.mono b11.size)
          have BS12 := BS11.below bX11 BS11.lt
          replace IS1 := IS1.below bX11
          replace IS2 := IS2.below bX11
          replace IU1 := IU1.below bX11
          replace IU2 := IU2.below bX11
          clear p0 p1 p2 p3 p4 p5 p6 p7 x0 x1 o1 o2 o3 o4 A10 A11 hb11 bX11 BS10 BS11
          have I5c := I5.below b12
          have HSU := Lib.hid (vec_Sum_ok L5 L5 ys.length c5 c5 ys ys W11 I5c I5c (by omega))
          go_upto_region 12 with fail
          rw [← HW11.out]
          go_wp2_with fail
          refine HSU.out.mono ?_
          rintro e w13 ⟨Q1, r1', rfl, oq, hb13⟩
          obtain ⟨sl, hsl⟩ : ∃ sl, sl = sumL ys ys := ⟨_, rfl⟩
          rw [← hsl] at oq ⊢
          clear hsl
          have A13 := A12.add hb13 (AllP.cons oq b12.size (AllP.nil _ _))
          have b13 := b12.trans (hb13.mono b12.size)
          have BS13 := BS12.below hb13 BS12.lt
          have BG13 := BG.below hb13 BG.lt
          have HCI := Lib.hid (opt_Clip_ok L5 ys.length c5 ys 0 w13 (I5.below b13) (by omega) (by omega) (by omega))
          clear oq A12 I5c HSU BS12 BG
          go_wp2_with fail
          refine HCI.out.mono ?_
          rintro e w14 ⟨Q2, r2', rfl, oq, hb14⟩
          obtain ⟨kl, hkl⟩ : ∃ kl, kl = clipL ys 0 := ⟨_, rfl⟩
          rw [← hkl] at oq ⊢
          clear hkl
          have A14 := A13.add hb14 (AllP.cons oq b13.size (AllP.nil _ _))
          have b14 := b13.trans (hb14.mono b13.size)
          have BS14 := BS13.below hb14 BS13.lt
          have BG14 := BG13.below hb14 BG13.lt
          have HCH := Lib.hid (spot_ChunkOwn 0 L5 none ys.length c5 0 0 ys [] w14 (I5.below b14) (Ints.nil _ _ _) (by omega))
          clear oq A13 HCI BS13 BG13
          go_wp2_with fail
          refine HCH.out.mono ?_
          rintro e w15 ⟨Q3, r3', Q4, r4', rfl, oq, ou, hb15⟩
          obtain ⟨ck, hck⟩ : ∃ ck, ck = chunkO (ys ++ []) 0 := ⟨_, rfl⟩
          obtain ⟨pk, hpk⟩ : ∃ pk, pk = pathO (ys ++ []) 0 := ⟨_, rfl⟩
          rw [← hck] at oq
          rw [← hpk] at ou
          rw [← hck, ← hpk]
          clear hck hpk HCH
          have A15 := A14.add hb15 (AllP.cons oq b14.size (AllP.nil _ _))
          have P15 : SpP 22 wB.heap.size w15.heap.size w15 (.slice Q4 pk.length r4') := SpP.own ou b14.size
          have b15 := b14.trans (hb15.mono b14.size)
          have BS15 := BS14.below hb15 BS14.lt
          have BG15 := BG14.below hb15 BG14.lt
          have hbs := hb13.trans ((hb14.trans (hb15.mono hb14.size)).mono hb13.size)
          replace IS1 := IS1.below hbs
          replace IS2 := IS2.below hbs
          replace IU1 := IU1.below hbs
          replace IU2 := IU2.below hbs
          have HR2 := Lib.hid (HRS.out S1 q1' S2 q2' U1 e1 U2 e2 w15 IS1 IS2 IU1 IU2)
          clear oq ou A14 BS14 BG14 hbs
          obtain ⟨s0, s1, s2, s3, s4, s5, s6, s7⟩ := BS15.pup
          go_wp2_with fail
          refine HR2.out.mono ?_
          rintro e w16 ⟨F9, c9, rfl, o9, hb16⟩
          have I9 := Ints.of_own o9 rfl
          have h9H := o9.lt
          have b16 := b15.trans (hb16.mono b15.size)
          have BS16 := BS15.below hb16 BS15.lt
          have BG16 := BG15.below hb16 BG15.lt
          clear s0 s1 s2 s3 s4 s5 s6 s7 HR2 IS1 IS2 IU1 IU2
          obtain ⟨s0, s1, s2, s3, s4, s5, s6, s7⟩ := BS16.pup
          obtain ⟨d0, d1', d2', d3, d4, d5, d6, d7⟩ := BG16.pup
          have BZ := Blk.made w16 26 #[.slice F8 fl.length c8, .slice S1 a1.length q1', .slice U1 b1.length e1, .slice S2 a2.length q2', .slice U2 b2.length e2, .slice Y1 hl.length y1, .slice Y2 yl.length y2, .slice G1 gP.a1.length z1, .slice V1 gP.b1.length v1, .slice G2 gP.a2.length z2, .slice V2 gP.b2.length v2, .slice Q1 sl.length r1', .slice Q2 kl.length r2', .slice Q3 ck.length r3']
          have bZ : Below w16.heap.size w16 (w16.alloc (.cells #[.slice F8 fl.length c8, .slice S1 a1.length q1', .slice U1 b1.length e1, .slice S2 a2.length q2', .slice U2 b2.length e2, .slice Y1 hl.length y1, .slice Y2 yl.length y2, .slice G1 gP.a1.length z1, .slice V1 gP.b1.length v1, .slice G2 gP.a2.length z2, .slice V2 gP.b2.length v2, .slice Q1 sl.length r1', .slice Q2 kl.length r2', .slice Q3 ck.length r3'] 26)) := (Below.refl _ _).alloc (Nat.le_refl _) _
          obtain ⟨wz, hwz⟩ : ∃ wz, wz = w16.alloc (.cells #[.slice F8 fl.length c8, .slice S1 a1.length q1', .slice U1 b1.length e1, .slice S2 a2.length q2', .slice U2 b2.length e2, .slice Y1 hl.length y1, .slice Y2 yl.length y2, .slice G1 gP.a1.length z1, .slice V1 gP.b1.length v1, .slice G2 gP.a2.length z2, .slice V2 gP.b2.length v2, .slice Q1 sl.length r1', .slice Q2 kl.length r2', .slice Q3 ck.length r3'] 26) := ⟨_, rfl⟩
          rw [← hwz] at BZ bZ
          have HWZ := Lib.hid hwz
          clear hwz
          obtain ⟨vs, hvs⟩ : ∃ vs : List Value, vs = [.slice F8 fl.length c8, .slice S1 a1.length q1', .slice U1 b1.length e1, .slice S2 a2.length q2', .slice U2 b2.length e2, .slice Y1 hl.length y1, .slice Y2 yl.length y2, .slice G1 gP.a1.length z1, .slice V1 gP.b1.length v1, .slice G2 gP.a2.length z2, .slice V2 gP.b2.length v2, .slice Q1 sl.length r1', .slice Q2 kl.length r2', .slice Q3 ck.length r3'] := ⟨_, rfl⟩
          have hsp : ∀ v ∈ vs, SpP 3 wB.heap.size w15.heap.size wz v := fun v hv => ((A15 v (by rw [hvs] at hv; simpa using hv)).below hb16).below bZ
          have hP : SpP 22 wB.heap.size w15.heap.size wz (.slice Q4 pk.length r4') := (P15.below hb16).below bZ
          have hcz : ∀ j v, vs[j]? = some v → wz.cell? ⟨w16.heap.size, j, none⟩ = some v := fun j v h => by
            rw [BZ.cell, ← h, hvs]
            simp
          have hvl : vs.length = 14 := by rw [hvs]; rfl
          have hlz := BZ.lt
          have b1z := b16.trans (bZ.mono b16.size)
          have h1615 := hb16.size
          have hbB := b15.size
          have I9z := I9.below bZ
          clear hvs A15 P15 BS15 BS16 BG15 BG16 BZ hb16 I9 b9 b10 b11 b12 b13 b14 hw9 hw10
          obtain ⟨H, hH⟩ : ∃ H, H = w15.heap.size := ⟨_, rfl⟩
          rw [← hH] at hsp hP h9H h1615 hbB
          clear hH
          go_wp2
          rw [← HWZ.out]
          go_loopw [29, 151] (fun _ j wr => ∃ q : Nat, q ≤ 14 ∧ j = .int .i64 q ∧ (∀ v ∈ vs, SpP 3 wB.heap.size H wr v) ∧ SpP 22 wB.heap.size H wr (.slice Q4 pk.length r4') ∧ FrS (InI wB.heap.size H) wz wr) (fun _ j _ => 14 - (intOf j).toNat)
          case atStart => exact ⟨0, by omega, rfl, hsp, hP, FrS.refl _ _⟩
          case round =>
            clear hsp hP s0 s1 s2 s3 s4 s5 s6 s7 d0 d1' d2' d3 d4 d5 d6 d7
            obtain ⟨q, hq, rfl, hsp, hP, hfr⟩ := hrel
            by_cases hlt : q < 14
            · obtain ⟨v, hv⟩ : ∃ v, vs[q]? = some v := ⟨_, List.getElem?_eq_getElem (by omega)⟩
              have cv : wr.cell? ⟨w16.heap.size, q, none⟩ = some v := (hfr.cell (p := ⟨w16.heap.size, q, none⟩) hlz (fun h => by have := h.2; dsimp only at this; omega)).trans (hcz q v hv)
              have HS := Lib.hid (kp_spoilP wB.heap.size H v 9 wr (hsp v (List.mem_of_getElem? hv)))
              have g0 : (0 : Int) ≤ (q : Int) := by omega
              have g1 : (q : Int) < 14 := by omega
              clear hv
              go_wp2_with fail
              refine HS.out.mono ?_
              rintro e u ⟨rfl, hf, hall⟩
              go_wp2
              go_roundw
              case rel => exact ⟨q + 1, by omega, by go_num, fun v' h' => hall _ v' (hsp v' h'), hall _ _ hP, hfr.trans hf⟩
              case measure => simp [intOf]; omega
            · have g1 : ¬ (q : Int) < 14 := by omega
              have HSU2 := Lib.hid (kp_spoilPU wB.heap.size H _ 9 wr hP)
              clear hsp hcz
              go_wp2_with fail
              refine HSU2.out.mono ?_
              rintro e wF ⟨rfl, hf⟩
              have hfF := hfr.trans hf
              have bF := hfF.toBelow b1z (by have := bZ.size; omega) (fun b h => h.1)
              have hwF := hwB.trans (bF.mono hwB.size)
              have J9 := I9z.frs hfF (fun b off e h => by have := (h9H b (by rw [e]; rfl)).1; have := h.2; omega)
              obtain ⟨p0, p1, p2, p3, p4, p5, p6, p7⟩ := (HBP.below bF HBP.lt).pup
              go_wp2_with fail
              refine (HRF.out _ hwF).mono ?_
              rintro e wA ⟨FA, cA, rfl, oA, hbA⟩
              have bA := bF.trans (hbA.mono bF.size)
              have hwA := hwF.trans (hbA.mono hwF.size)
              have E1 := Lib.hid (fun W (h : Below wA.heap.size wA W) => eq_any2 (c := cA) (d := c6) (decide_eq_true (rfl : fl = fl)) ((Ints.of_own oA rfl).below h) ((I6.below bA).below h) (.inl (by omega)))
              have E2 := Lib.hid (fun W (h : Below wA.heap.size wA W) => eq_any2 (c := c9) (d := c6) (decide_eq_true (rfl : fl = fl)) ((J9.below hbA).below h) ((I6.below bA).below h) (.inl (by omega)))
              have E3 := Lib.hid (fun W (h : Below wA.heap.size wA W) => eq_any2 (c := c5) (d := c7) (decide_eq_true (rfl : ys = ys)) ((I5.below bA).below h) ((I7.below bA).below h) (.inl (by omega)))
              have E4 := Lib.hid (fun W (h : Below wA.heap.size wA W) => eq_any2 (c := xc) (d := x9) (decide_eq_true (rfl : x = x)) ((HI.out wA hwA).2.2.1.1.below h) ((IX9.below bA).below h) (.inl (by omega)))
              have E5 := Lib.hid (fun W (h : Below wA.heap.size wA W) => eq_any2 (c := tc) (d := t9) (decide_eq_true (rfl : t = t)) ((HI.out wA hwA).2.2.1.2.below h) ((IT9.below bA).below h) (.inl (by omega)))
              have HXA := HBX.below bA HBX.lt
              clear p0 p1 p2 p3 p4 p5 p6 p7 oA J9 I9z
              go_wp2_with fail
              refine (E1.out _ (Below.refl _ _)).mono ?_
              rintro e y1' ⟨rfl, hq1⟩
              have k1' := Quiet.after (Below.refl wA.heap.size wA) hq1
              go_wp2_with fail
              refine (E2.out _ k1').mono ?_
              rintro e y2' ⟨rfl, hq2⟩
              have k2' := Quiet.after k1' hq2
              go_wp2_with fail
              refine (E3.out _ k2').mono ?_
              rintro e y3' ⟨rfl, hq3⟩
              have k3' := Quiet.after k2' hq3
              obtain ⟨⟨x0, x1⟩, _⟩ := (HXA.below k3' HXA.lt).two
              go_wp2_with fail
              refine (E4.out _ k3').mono ?_
              rintro e y4' ⟨rfl, hq4⟩
              have k4' := Quiet.after k3' hq4
              clear x0 x1
              obtain ⟨⟨x0, x1⟩, _⟩ := (HXA.below k4' HXA.lt).two
              go_wp2_with fail
              refine (E5.out _ k4').mono ?_
              rintro e y5' ⟨rfl, hq5⟩
              have k5' := Quiet.after k4' hq5
              go_wp2
              go_ret
              exact ⟨rfl, hwA.trans (k5'.mono hwA.size)⟩
      · have t0 : (pupE r1 c1 a1 r2 c2 a2 b1 b2 != 0) = false := by rw [hP]; rfl
        have t1 : ((ni : Int) != c1) = false := by rw [hni]; simp
        have t2 : ((no : Int) != r2) = true := by rw [bne_iff_ne]; exact hno
        obtain ⟨z, hz⟩ : ∃ z, z = pupE r1 c1 a1 r2 c2 a2 b1 b2 := ⟨_, rfl⟩
        rw [← hz] at t0 ⊢
        clear hz hP hni hno HRP
        go_wp2
        go_ret
        exact ⟨rfl, hw3⟩
    · have t0 : (pupE r1 c1 a1 r2 c2 a2 b1 b2 != 0) = false := by rw [hP]; rfl
      have t1 : ((ni : Int) != c1) = true := by rw [bne_iff_ne]; exact hni
      obtain ⟨z, hz⟩ : ∃ z, z = pupE r1 c1 a1 r2 c2 a2 b1 b2 := ⟨_, rfl⟩
      rw [← hz] at t0 ⊢
      clear hz hP hni HRP
      go_wp2
      go_ret
      exact ⟨rfl, hw3⟩
  · have t0 : (pupE r1 c1 a1 r2 c2 a2 b1 b2 != 0) = true := by rw [bne_iff_ne]; exact hP
    obtain ⟨z, hz⟩ : ∃ z, z = pupE r1 c1 a1 r2 c2 a2 b1 b2 := ⟨_, rfl⟩
    rw [← hz] at t0 ⊢
    clear hz hP HRP
    go_wp2
    go_ret
    exact ⟨rfl, hw3⟩

set_option maxRecDepth 100000 in
theorem listsOwn_lifted (os : Os) (started : os.Started) (H : Type) (enc : TypeId × Value → H) :
    ReturnsInHanded {} Try.checked os 7 .any (Rows.listsOwnSpec.pre6 enc Try.prog Try.f7 Rows.listsOwnRow.domain false) (Rows.listsOwnSpec.post enc Try.prog Try.f7 false true false false) := by
  refine lift_law (fn := Try.f7) started (by kernel_rfl) Try.func7
    (ChangeSpec.witness6 (enc := enc) (C := Try.checked) false ⟨#[], #[.agg #[.int .i64 0, .int .i64 0, .slice none 0 0, .int .i64 0, .int .i64 0, .slice none 0 0, .slice none 0 0, .slice none 0 0], .agg #[.slice none 0 0, .slice none 0 0], .slice none 0 0], []⟩ 8 (by kernel_rfl) (by kernel_rfl) (by kernel_rfl) (by kernel_rfl)) (by kernel_rfl) rfl Try.underlying4 rfl ?_ ?_
  · intro ds h
    rw [Try.params7] at h
    match ds, h with
    | [d0, d1, d2], _ => rfl
  · intro W args ds ps hA hlt hval hsz
    rw [Try.params7] at hA hval hsz
    obtain ⟨v0, vs0, d0, ds0, p0, q0, hargs, rfl, rfl, H0, T0⟩ := trodAll_cons hA
    obtain ⟨v1, vs1, d1, ds1, p1, q1, rfl, rfl, rfl, H1, T1⟩ := trodAll_cons T0
    obtain ⟨v2, vs2, d2, ds2, p2, q2, rfl, rfl, rfl, H2, T2⟩ := trodAll_cons T1
    obtain ⟨rfl, rfl, rfl⟩ := trodAll_nil T2
    obtain rfl : args = #[v0, v1, v2] := by cases args; simp_all
    obtain ⟨b0, hv0⟩ := hval 0 67 v0 rfl rfl
    obtain ⟨b1, hv1⟩ := hval 1 69 v1 rfl rfl
    obtain ⟨b2, hv2⟩ := hval 2 26 v2 rfl rfl
    obtain ⟨r1, c1, A1, n1, k1, a1, r2, c2, A2, n2, k2, a2, B1, m1, e1, y1, B2, m2, e2, y2, rfl, _, _, _, _, ⟨i1, l1, l2⟩, ⟨i2, l3, l4⟩, ⟨j1, l5, l6⟩, ⟨j2, l7, l8⟩⟩ := arg_pup (fun _ => rfl) hv0 H0
    obtain ⟨X, ni, xc, x, T, no, tc, t, rfl, ⟨ix, l9, l10⟩, ⟨it, l11, l12⟩⟩ := arg_example (fun _ => rfl) hv1 H1
    obtain ⟨L, nl, lc, ls, rfl, il, hl1, hl2, _⟩ := arg_ints (fun _ => rfl) hv2 H2
    have hmx : maxLen = 9223372036854775807 := rfl
    exact listsOwn_walk r1 c1 A1 n1 k1 a1 r2 c2 A2 n2 k2 a2 B1 m1 e1 y1 B2 m2 e2 y2 X ni xc x T no tc t L nl lc ls W i1 i2 j1 j2 ix it il l1 l3 (by omega) (by omega) (by omega) (by omega) hl1 (by omega)
theorem ListsOwn_holds : Rows.ListsOwnSaid :=
  OpenClaim.holds_of_wide 7 Try.f7 rfl rfl rfl rfl rfl rfl rfl ⟨rfl, rfl, rfl, rfl, rfl⟩ rfl rfl rfl rfl rfl (by kernel_rfl) Try.func7 (by kernel_rfl)
    (of_decide_eq_true (by kernel_rfl)) (by unfold Func.isWrapper; first | (rw [if_pos (by decide +kernel)]; kernel_rfl) | (rw [if_neg (by decide +kernel)]; exact ⟨rfl, rfl⟩))
    (fun os started H enc _ => listsOwn_lifted os started H enc)

end Go.Proofs.Ytcfmjpcbiomdbaa
