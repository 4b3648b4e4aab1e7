/- A record's line: store.Print and the document's LineText: walks. -/
import Derived.Test.YtblkpibbcapdeaaDoorStoL
import Derived.Test.YtblkpibbcapdeaaDoorDigN
import Derived.Lib.QuietBelow
import Derived.BigQuiet
namespace Go.Proofs.YtblkpibbcapdeaaDoor
open Go.RowKit Go.Sort Pl

theorem str_info : (Tryd.prog.info? 9).map (fun i => (i.zero, i.size, i.bytes)) = some (some (.string ByteArray.empty), 1, 16) := by kernel_rfl
def bytesOf (l : List UInt8) : ByteArray := ⟨l.toArray⟩
theorem bytesOf_data (l : List UInt8) : (bytesOf l).data.toList = l := by simp [bytesOf]
theorem bytesOf_app (a b : List UInt8) : bytesOf a ++ bytesOf b = bytesOf (a ++ b) := by
  apply ByteArray.ext
  simp [bytesOf]
def wordsK (r : Rec) (k : Nat) : List (List UInt8) := [Lib.decDigits r.step.toNat, Lib.decDigits r.rate.toNat, Lib.decDigits r.root.toNat, Lib.decDigits r.chain.toNat] ++ (r.batch.take k).map fun n => Lib.decDigits n.toNat
theorem wordsK_succ (r : Rec) {k : Nat} (h : k < r.batch.length) : wordsK r (k + 1) = wordsK r k ++ [Lib.decDigits (at0 r.batch k).toNat] := by
  unfold wordsK at0
  rw [List.take_add_one, List.getElem?_eq_getElem h, List.map_append]
  rfl
theorem wordsK_len (r : Rec) {k : Nat} (h : k ≤ r.batch.length) : (wordsK r k).length = 4 + k := by
  unfold wordsK
  simp [Nat.min_eq_left h]
  omega
theorem wordsK_end (r : Rec) : wordsK r r.batch.length = wordsR r := by
  unfold wordsK wordsR
  rw [List.take_length]
  rfl
theorem join_bound (c : UInt8) (m : Nat) : ∀ w : List (List UInt8), (∀ p ∈ w, p.length ≤ m) → ([c].intercalate w).length ≤ w.length * (m + 1)
  | [], _ => by simp [List.intercalate]
  | [p], h => by
    have := h p (by simp)
    simp [List.intercalate]
    omega
  | p :: q :: r, h => by
    have ih := join_bound c m (q :: r) (fun x hx => h x (by simp at hx ⊢; right; exact hx))
    have h1 := h p (by simp)
    have e : [c].intercalate (p :: q :: r) = p ++ c :: [c].intercalate (q :: r) := by simp [List.intercalate]
    rw [e, List.length_append, List.length_cons, List.length_cons, Nat.succ_mul]
    omega
theorem line_len {r : Rec} (h : goodR r = true) : ([32].intercalate (wordsR r)).length ≤ 240 := by
  have h1 := join_bound 32 19 (wordsR r) (fun p hp => by
    rw [wordsR_nums] at hp
    obtain ⟨n, hn, rfl⟩ := List.mem_map.1 hp
    exact (dec_len n (numsR_ok h n hn)).2)
  have h2 : (wordsR r).length = 4 + r.batch.length := by unfold wordsR; simp; omega
  have h3 := (goodR_iff.1 h).2.2.2.2.1
  rw [h2] at h1
  have h4 : (4 + r.batch.length) * (19 + 1) ≤ 12 * 20 := Nat.mul_le_mul (by omega) (by omega)
  omega
theorem itoa_dec {n : Int} (h : 0 ≤ n) : Lib.itoa n = Lib.decDigits n.toNat := by unfold Lib.itoa; rw [if_neg (by omega)]
theorem lib_Itoa' {n : Int} (h0 : 0 ≤ n) (h1 : n ≤ 9223372036854775807) (w : World) (ht : Tabs w) :
    Calls Tryd.prog 24 #[.int .i64 n] w fun e w' => e = .returned (.string (bytesOf (Lib.decDigits n.toNat))) ∧ Below w.heap.size w w' := by
  have h := lib_Itoa n (by omega) h1 w ht
  rw [itoa_dec h0] at h
  exact h
theorem lib_FormatUint' {n : Int} (h0 : 0 ≤ n) (h1 : n < 18446744073709551616) (w : World) (ht : Tabs w) :
    Calls Tryd.prog 25 #[.int .u64 n, .int .i64 10] w fun e w' => e = .returned (.string (bytesOf (Lib.decDigits n.toNat))) ∧ Below w.heap.size w w' := by
  obtain ⟨u, rfl⟩ : ∃ u : Nat, n = u := ⟨n.toNat, by omega⟩
  exact lib_FormatUint u (by omega) w ht
def printT (r : Rec) : List UInt8 := if goodR r = true then lineT r else []
def printE (r : Rec) : Int := if goodR r = true then 0 else 5

set_option maxRecDepth 100000 in
set_option maxHeartbeats 4000000 in
theorem sto_Print (r : Rec) (A : Option Addr) (n k : Nat) (w : World) (hx : Ints .i64 w A n r.batch) (hn : n ≤ 9223372036854775807) (b0 : 0 ≤ r.root) (b1 : 0 ≤ r.chain) (ht : Tabs w) :
    Calls Tryd.prog 9 #[.agg #[.int .i64 r.step, .slice A n k, .int .i64 r.rate, .int .u64 r.root, .int .u64 r.chain]] w fun e w' => e = .returned (.tuple #[.string (bytesOf (printT r)), .int .i64 (printE r)]) ∧ Below w.heap.size w w' := by
  have hl := hx.len
  have bw : Below w.heap.size w (w.alloc (.cells #[.int .i64 r.step, .slice A n k, .int .i64 r.rate, .int .u64 r.root, .int .u64 r.chain] 25)) := (by repeat (first | exact Below.refl _ _ | assumption | refine bel_drewN ?_ _ | refine Below.drew ?_ | (refine Below.alloc ?_ (by simp <;> omega) _) | (refine Below.setCell ?_ (by simp <;> omega) _)))
  have HRI := Lib.hid (sto_right r A n k _ (hx.below bw) hn b0 b1)
  have HB := Blk.made w 25 #[.int .i64 r.step, .slice A n k, .int .i64 r.rate, .int .u64 r.root, .int .u64 r.chain]
  go_enter Tryd.func9, Tryd.ntmps9
  go_wp2_with fail
  refine HRI.out.mono ?_
  rintro e w1 ⟨rfl, hb1⟩
  replace HB := HB.below hb1 HB.lt
  have hw1 := bw.trans (hb1.mono bw.size)
  have hx1 := hx.below hw1
  have ht1 := ht.below hw1
  clear hb1 bw HRI hx ht
  cases hg : goodR r
  · have F := Lib.hid (show printT r = [] ∧ printE r = 5 from ⟨by unfold printT; rw [hg]; rfl, by unfold printE; rw [hg]; rfl⟩)
    clear hg
    go_wp2
    go_ret2
    rw [F.out.1, F.out.2]
    exact ⟨rfl, hw1⟩
  · have F := Lib.hid (show printT r = lineT r ∧ printE r = 0 from ⟨if_pos hg, if_pos hg⟩)
    have HLN := Lib.hid (line_len hg)
    obtain ⟨⟨g1, g2⟩, ⟨g3, g4⟩, ⟨_, g5⟩, ⟨_, g6⟩, g7, g8⟩ := goodR_iff.1 hg
    unfold pS at g5 g6
    clear hg
    have HI1 := Lib.hid (fun W (h : Below w1.heap.size w1 W) => lib_Itoa' g1 (by omega) W (ht1.below h))
    have HI2 := Lib.hid (fun W (h : Below w1.heap.size w1 W) => lib_Itoa' g3 (by omega) W (ht1.below h))
    have HF1 := Lib.hid (fun W (h : Below w1.heap.size w1 W) => lib_FormatUint' b0 (by omega) W (ht1.below h))
    have HF2 := Lib.hid (fun W (h : Below w1.heap.size w1 W) => lib_FormatUint' b1 (by omega) W (ht1.below h))
    have HCS := Lib.hid (fun W (h : Below w1.heap.size w1 W) => (show Blk W w.heap.size 25 #[.int .i64 r.step, .slice A n k, .int .i64 r.rate, .int .u64 r.root, .int .u64 r.chain] from HB.below h HB.lt))
    have HS := Lib.hid (fun W (h : Below w1.heap.size w1 W) => show W.cell? ⟨w.heap.size, 0, none⟩ = some (.int .i64 r.step) ∧ W.cell? ⟨w.heap.size, 2, none⟩ = some (.int .i64 r.rate) ∧ W.cell? ⟨w.heap.size, 3, none⟩ = some (.int .u64 r.root) ∧ W.cell? ⟨w.heap.size, 4, none⟩ = some (.int .u64 r.chain) from ⟨(HCS.out W h).cell 0, (HCS.out W h).cell 2, (HCS.out W h).cell 3, (HCS.out W h).cell 4⟩)
    have HNN := Lib.hid (fun j (hj : j < n) => show 0 ≤ at0 r.batch j ∧ at0 r.batch j ≤ 99 from by
      unfold at0
      rw [List.getElem?_eq_getElem (by omega)]
      exact g8 _ (List.getElem_mem _))
    obtain ⟨d0, hd0⟩ : ∃ d, d = bytesOf (Lib.decDigits r.step.toNat) := ⟨_, rfl⟩
    obtain ⟨d1, hd1⟩ : ∃ d, d = bytesOf (Lib.decDigits r.rate.toNat) := ⟨_, rfl⟩
    obtain ⟨d2, hd2⟩ : ∃ d, d = bytesOf (Lib.decDigits r.root.toNat) := ⟨_, rfl⟩
    obtain ⟨d3, hd3⟩ : ∃ d, d = bytesOf (Lib.decDigits r.chain.toNat) := ⟨_, rfl⟩
    rw [← hd0] at HI1
    rw [← hd1] at HI2
    rw [← hd2] at HF1
    rw [← hd3] at HF2
    have HK0 := Lib.hid (show ([d0, d1, d2, d3] : List ByteArray) = (wordsK r 0).map bytesOf from by rw [hd0, hd1, hd2, hd3]; rfl)
    clear hd0 hd1 hd2 hd3 g1 g2 g3 g4 g5 g6 g8
    go_upto_region 3 with fail
    have k0 : Below w1.heap.size w1 w1.drew := (Below.refl _ _).drew
    have S0 := HS.out _ k0
    go_cut [4] (fun v wx => ∃ g, v = .slice (some ⟨g, 0, none⟩) 4 4 ∧ w1.heap.size ≤ g ∧ Blk wx g 9 #[.string d0, .string d1, .string d2, .string d3] ∧ Below w1.heap.size w1 wx)
    case first =>
      go_region_held3 (fun W => W.cell? ⟨w.heap.size, 0, none⟩ = some (.int .i64 r.step) ∧ W.cell? ⟨w.heap.size, 2, none⟩ = some (.int .i64 r.rate) ∧ W.cell? ⟨w.heap.size, 3, none⟩ = some (.int .u64 r.root) ∧ W.cell? ⟨w.heap.size, 4, none⟩ = some (.int .u64 r.chain)) (first | (with_reducible exact S0) | (with_reducible exact S1) | (with_reducible exact S2) | (with_reducible exact S3) | (with_reducible exact S4) | (with_reducible exact S5) | fail) (first
        | (go_at_call 24; (with_reducible refine (HI1.out _ k0).mono ?_); rintro e u1 ⟨rfl, hb1⟩; have k1 : Below w1.heap.size w1 u1 := bel_trans k0 hb1; have S1 := HS.out _ k1)
        | (go_at_call 24; (with_reducible refine (HI2.out _ k1).mono ?_); rintro e u2 ⟨rfl, hb2⟩; have k2 : Below w1.heap.size w1 u2 := bel_trans k1 hb2; have S2 := HS.out _ k2)
        | (go_at_call 25; (with_reducible refine (HF1.out _ k2).mono ?_); rintro e u3 ⟨rfl, hb3⟩; have k3 : Below w1.heap.size w1 u3 := bel_trans k2 hb3; have S3 := HS.out _ k3)
        | (go_at_call 25; (with_reducible refine (HF2.out _ k3).mono ?_); rintro e u4 ⟨rfl, hb4⟩; have k4 : Below w1.heap.size w1 u4 := bel_trans k3 hb4; have S4 := HS.out _ k4; have S5 := HS.out (u4.alloc (.cells #[.string d0, .string d1, .string d2, .string d3] 9)) (k4.alloc k4.size _))
        | fail)
      go_wp2
      go_meet
      case rel => exact ⟨u4.heap.size, rfl, k4.size, Blk.made _ _ _, k4.alloc k4.size _⟩
    case rest =>
      obtain ⟨g, rfl, hg, hblk, hbc⟩ := hcut
      obtain ⟨i0, hi0, hz0, hz1, hz2⟩ := info_parts str_info
      have O0 : wc.ownsRow w1.heap.size 9 1 (.slice (some ⟨g, 0, none⟩) 4 4) (4 + 0) (((wordsK r 0).map bytesOf).map Value.string) := by
        rw [← HK0.out]
        exact ⟨rfl, .inr ⟨g, 4, _, rfl, hg, hblk, by omega, by unfold maxLen; omega, rfl, rfl⟩⟩
      have HKS := Lib.hid (fun q (h : q < n) => show (wordsK r (q + 1)).map bytesOf = (wordsK r q).map bytesOf ++ [bytesOf (Lib.decDigits (at0 r.batch q).toNat)] from by rw [wordsK_succ r (by omega), List.map_append]; rfl)
      have HKL := Lib.hid (show ((wordsK r n).map bytesOf).length = 4 + n from by rw [List.length_map, wordsK_len r (by omega)])
      have HKE := Lib.hid (show ((wordsK r n).map bytesOf).map (fun x => x.data.toList) = wordsR r from by
        rw [List.map_map, show (fun x : ByteArray => x.data.toList) ∘ bytesOf = id from by funext x; exact bytesOf_data x, List.map_id, ← hl, wordsK_end])
      obtain ⟨K, hK⟩ : ∃ K, K = fun q => (wordsK r q).map bytesOf := ⟨_, rfl⟩
      have eK : ∀ q, (wordsK r q).map bytesOf = K q := fun q => by rw [hK]
      simp only [eK] at O0 HKS HKL HKE
      clear eK hK HK0 hblk S0 HI1 HI2 HF1 HF2 HS
      obtain ⟨y, rfl⟩ : ∃ y : World, y = wc := ⟨_, rfl⟩
      have c1 : y.cell? ⟨w.heap.size, 1, none⟩ = some (.slice A n k) := (HCS.out _ hbc).cell 1
      go_wp2
      go_loopw [4, 6, 26] (fun l _ j wr => ∃ q : Nat, q ≤ n ∧ j = .int .i64 q ∧ wr.ownsRow w1.heap.size 9 1 l (4 + q) ((K q).map Value.string) ∧ Below w1.heap.size w1 wr) (fun _ _ j _ => n - (intOf j).toNat)
      case atStart => exact ⟨0, by omega, rfl, O0, hbc⟩
      case round =>
        clear O0 hbc
        obtain ⟨q, hq, rfl, hown, hb⟩ := hrel
        have hbs := hb.size
        by_cases hlt : q < n
        · obtain ⟨b, off, hA, hbl, hc⟩ := (hx1.below hb).cells (by omega)
          subst hA
          have g2 := hc q hlt
          obtain ⟨y0, y1⟩ := HNN.out q hlt
          have G := Lib.hid (HKS.out q hlt)
          obtain ⟨z, hz⟩ : ∃ z, z = at0 r.batch q := ⟨_, rfl⟩
          rw [← hz] at g2 y0 y1 G
          have HI := Lib.hid (lib_Itoa' y0 (by omega) wr (ht1.below hb))
          obtain ⟨dz, hdz⟩ : ∃ d, d = bytesOf (Lib.decDigits z.toNat) := ⟨_, rfl⟩
          rw [← hdz] at G HI
          clear hc hz hdz y0 y1
          go_wp2_with fail
          refine HI.out.mono ?_
          rintro e u ⟨rfl, hbu⟩
          have hbw1 : Below w1.heap.size w1 u := bel_trans hb hbu
          have hbw2 := hbw1.size
          have hownu := own_below hown hbu
          go_wp2_with (at_builtin; refine wpList_append_own _ rfl _ _ 56 rfl w1.heap.size 9 i0 (.string ByteArray.empty) 1 16 Tryd.underlying56 hi0 hz0 hz1 hz2 rfl (by decide) u4 (4 + q) _ rfl (hownu.alloc _) ⟨u.heap.size, 0, none⟩ 1 1 [.string dz] rfl rfl (cell_one_new _ _ _) (by simp [Value.oneCell']) (by unfold maxLen; omega) (by omega) (by simp; omega) ?_; intro v1 v2 hown1 hgrow _)
          have hb2 : Below w1.heap.size w1 v2 := Below.grown (hbw1.alloc (by omega) _) hgrow (by simp; omega) (fun x hx => (hown.lt x hx).1)
          rw [show (K q).map Value.string ++ [.string dz] = (K (q + 1)).map Value.string by rw [G.out]; simp] at hown1
          clear hgrow
          go_roundw
          case rel => exact ⟨q + 1, by omega, by go_num, hown1, hb2⟩
          case measure => simp [intOf]; omega
        · obtain rfl : q = n := by omega
          obtain ⟨g, cap, rfl, h1, h2⟩ := hown.form (by omega)
          have hcap : (K q).length ≤ cap := by
            rw [HKL.out]
            obtain ⟨_, h | ⟨g1, cap1, cur, e, _, _, hle, _⟩⟩ := hown
            · cases h.1
            · cases e
              exact hle
          have hcl : ∀ (j : Nat) x, (K q)[j]? = some x → wr.cell? ⟨g, 0 + j, none⟩ = some (.string x) := fun j x hj => by
            have h := hown.cells (g := g) rfl j (.string x) (by rw [List.getElem?_map, hj]; rfl)
            rw [Lib.add_plain] at h
            exact h
          have HJ := Tryd.strings_Join g 0 cap (K q) (bytesOf [32]) wr hcl h2 (by rw [HKL.out]; omega) hcap (by rw [HKE.out, bytesOf_data]; exact Nat.le_trans HLN.out (by omega))
          rw [HKE.out, bytesOf_data, HKL.out] at HJ
          have HJJ := Lib.hid HJ
          clear HJ
          obtain ⟨J, hJ⟩ : ∃ J : ByteArray, J = ⟨(Lib.join (wordsR r) [32]).toArray⟩ := ⟨_, rfl⟩
          rw [← hJ] at HJJ
          have hJs : J.size ≤ 240 := by rw [hJ]; exact HLN.out
          have HLL := Lib.hid (show J ++ bytesOf [10] = bytesOf (lineT r) from by rw [hJ]; exact bytesOf_app _ _)
          clear hJ hcl hcap hown c1
          go_wp2_with fail
          refine HJJ.out.mono ?_
          rintro e w5 ⟨rfl, hb5⟩
          go_wp2
          go_ret2
          rw [F.out.1, F.out.2, ← HLL.out]
          exact ⟨rfl, hw1.trans ((bel_trans hb hb5).mono hw1.size)⟩

theorem join_snoc (c : UInt8) (x : List UInt8) : ∀ w : List (List UInt8), w ≠ [] → [c].intercalate (w ++ [x]) = [c].intercalate w ++ (c :: x)
  | [], h => absurd rfl h
  | [p], _ => by simp [List.intercalate]
  | p :: q :: r, _ => by
    have ih := join_snoc c x (q :: r) (by simp)
    have e : ∀ s : List (List UInt8), s ≠ [] → [c].intercalate (p :: s) = p ++ c :: [c].intercalate s := fun s hs => by
      cases s with
      | nil => exact absurd rfl hs
      | cons a b => simp [List.intercalate]
    rw [List.cons_append, e _ (by simp), ih, e _ (by simp)]
    simp
def lineK (r : Rec) (q : Nat) : List UInt8 := [32].intercalate (wordsK r q)
theorem lineK_succ (r : Rec) {q : Nat} (h : q < r.batch.length) : lineK r (q + 1) = lineK r q ++ (32 :: Lib.decDigits (at0 r.batch q).toNat) := by
  unfold lineK
  rw [wordsK_succ r h, join_snoc _ _ _ (by unfold wordsK; simp)]
theorem lineK_len {r : Rec} (h : goodR r = true) {q : Nat} (hq : q ≤ r.batch.length) : (lineK r q).length ≤ 240 := by
  have h1 := join_bound 32 19 (wordsK r q) (fun p hp => by
    have hp2 : p ∈ wordsR r := by
      rw [← wordsK_end]
      unfold wordsK at hp ⊢
      rw [List.mem_append] at hp ⊢
      rcases hp with hp | hp
      · exact .inl hp
      · refine .inr ?_
        obtain ⟨x, hx, rfl⟩ := List.mem_map.1 hp
        rw [List.take_length]
        exact List.mem_map.2 ⟨x, List.mem_of_mem_take hx, rfl⟩
    rw [wordsR_nums] at hp2
    obtain ⟨n, hn, rfl⟩ := List.mem_map.1 hp2
    exact (dec_len n (numsR_ok h n hn)).2)
  have h3 := (goodR_iff.1 h).2.2.2.2.1
  rw [wordsK_len r hq] at h1
  have h4 : (4 + q) * (19 + 1) ≤ 12 * 20 := Nat.mul_le_mul (by omega) (by omega)
  unfold lineK
  omega
set_option maxRecDepth 100000 in
set_option maxHeartbeats 4000000 in
theorem ref_LineText (r : Rec) (A : Option Addr) (n k : Nat) (w : World) (hx : Ints .i64 w A n r.batch) (hg : goodR r = true) (ht : Tabs w) :
    Calls Tryd.prog 8 #[.agg #[.int .i64 r.step, .slice A n k, .int .i64 r.rate, .int .u64 r.root, .int .u64 r.chain]] w fun e w' => e = .returned (.string (bytesOf (lineT r))) ∧ Below w.heap.size w w' := by
  have hl := hx.len
  obtain ⟨w1, hw⟩ : ∃ w1, w1 = w.alloc (.cells #[.int .i64 r.step, .slice A n k, .int .i64 r.rate, .int .u64 r.root, .int .u64 r.chain] 25) := ⟨_, rfl⟩
  have hw1 : Below w.heap.size w w1 := by rw [hw]; exact (by repeat (first | exact Below.refl _ _ | assumption | refine bel_drewN ?_ _ | refine Below.drew ?_ | (refine Below.alloc ?_ (by simp <;> omega) _) | (refine Below.setCell ?_ (by simp <;> omega) _)))
  have HB : Blk w1 w.heap.size 25 #[.int .i64 r.step, .slice A n k, .int .i64 r.rate, .int .u64 r.root, .int .u64 r.chain] := by rw [hw]; exact Blk.made _ _ _
  have HW := Lib.hid hw
  have hx1 := hx.below hw1
  have ht1 := ht.below hw1
  clear hx ht hw
  have HLK := Lib.hid (fun q (h : q ≤ n) => lineK_len hg (q := q) (by omega))
  have HLS := Lib.hid (fun q (h : q < n) => lineK_succ r (q := q) (by omega))
  have HLE := Lib.hid (show bytesOf (lineK r n) ++ bytesOf [10] = bytesOf (lineT r) from by rw [bytesOf_app]; unfold lineK lineT; rw [← hl, wordsK_end])
  have HSZ := Lib.hid (fun m (h : m ∈ numsR r) => (dec_len m (numsR_ok hg m h)).2)
  obtain ⟨⟨g1, g2⟩, ⟨g3, g4⟩, ⟨b0, g5⟩, ⟨b1, g6⟩, g7, g8⟩ := goodR_iff.1 hg
  unfold pS at g5 g6
  have HI1 := fun W (h : Below w1.heap.size w1 W) => lib_Itoa' g1 (by omega) W (ht1.below h)
  have HI2 := fun W (h : Below w1.heap.size w1 W) => lib_Itoa' g3 (by omega) W (ht1.below h)
  have HF1 := fun W (h : Below w1.heap.size w1 W) => lib_FormatUint' b0 (by omega) W (ht1.below h)
  have HF2 := fun W (h : Below w1.heap.size w1 W) => lib_FormatUint' b1 (by omega) W (ht1.below h)
  have HNN := Lib.hid (fun j (hj : j < n) => show 0 ≤ at0 r.batch j ∧ at0 r.batch j ≤ 99 from by
    unfold at0
    rw [List.getElem?_eq_getElem (by omega)]
    exact g8 _ (List.getElem_mem _))
  have HL0 := Lib.hid (show bytesOf (lineK r 0) = bytesOf (Lib.decDigits r.step.toNat) ++ bytesOf [32] ++ bytesOf (Lib.decDigits r.rate.toNat) ++ bytesOf [32] ++ bytesOf (Lib.decDigits r.root.toNat) ++ bytesOf [32] ++ bytesOf (Lib.decDigits r.chain.toNat) from by
    rw [bytesOf_app, bytesOf_app, bytesOf_app, bytesOf_app, bytesOf_app, bytesOf_app]
    unfold lineK wordsK
    simp [List.intercalate])
  have z0 : (bytesOf (Lib.decDigits r.step.toNat)).size ≤ 19 := HSZ.out _ (by unfold numsR; simp)
  have z1 : (bytesOf (Lib.decDigits r.rate.toNat)).size ≤ 19 := HSZ.out _ (by unfold numsR; simp)
  have z2 : (bytesOf (Lib.decDigits r.root.toNat)).size ≤ 19 := HSZ.out _ (by unfold numsR; simp)
  have z3 : (bytesOf (Lib.decDigits r.chain.toNat)).size ≤ 19 := HSZ.out _ (by unfold numsR; simp)
  obtain ⟨d0, hd0⟩ : ∃ d, d = bytesOf (Lib.decDigits r.step.toNat) := ⟨_, rfl⟩
  obtain ⟨d1, hd1⟩ : ∃ d, d = bytesOf (Lib.decDigits r.rate.toNat) := ⟨_, rfl⟩
  obtain ⟨d2, hd2⟩ : ∃ d, d = bytesOf (Lib.decDigits r.root.toNat) := ⟨_, rfl⟩
  obtain ⟨d3, hd3⟩ : ∃ d, d = bytesOf (Lib.decDigits r.chain.toNat) := ⟨_, rfl⟩
  rw [← hd0] at HI1 HL0 z0
  rw [← hd1] at HI2 HL0 z1
  rw [← hd2] at HF1 HL0 z2
  rw [← hd3] at HF2 HL0 z3
  have cI1 := Lib.hid (fun d os => Calls.regrown_of (HI1 (grow (redrawn w1 d) os) (below_regrown w1 d os)))
  have cI2 := Lib.hid (fun d os => Calls.regrown_of (HI2 (grow (redrawn w1 d) os) (below_regrown w1 d os)))
  have cF1 := Lib.hid (fun d os => Calls.regrown_of (HF1 (grow (redrawn w1 d) os) (below_regrown w1 d os)))
  have cF2 := Lib.hid (fun d os => Calls.regrown_of (HF2 (grow (redrawn w1 d) os) (below_regrown w1 d os)))
  have HC1 := Lib.hid (fun W (h : Below w1.heap.size w1 W) => show W.cell? ⟨w.heap.size, 1, none⟩ = some (.slice A n k) from (HB.below h HB.lt).cell 1)
  have K0 := cell_regrown (show w1.cell? ⟨w.heap.size, 0, none⟩ = some (.int .i64 r.step) from HB.cell 0)
  have K2 := cell_regrown (show w1.cell? ⟨w.heap.size, 2, none⟩ = some (.int .i64 r.rate) from HB.cell 2)
  have K3 := cell_regrown (show w1.cell? ⟨w.heap.size, 3, none⟩ = some (.int .u64 r.root) from HB.cell 3)
  have K4 := cell_regrown (show w1.cell? ⟨w.heap.size, 4, none⟩ = some (.int .u64 r.chain) from HB.cell 4)
  obtain ⟨L, hL⟩ : ∃ L, L = fun q => bytesOf (lineK r q) := ⟨_, rfl⟩
  have eL : ∀ q, bytesOf (lineK r q) = L q := fun q => by rw [hL]
  have HLS2 := Lib.hid (fun q (h : q < n) => show L (q + 1) = L q ++ (bytesOf [32] ++ bytesOf (Lib.decDigits (at0 r.batch q).toNat)) from by
    rw [← eL, ← eL, HLS.out q h, bytesOf_app, bytesOf_app]
    rfl)
  have HLK2 := Lib.hid (fun q (h : q ≤ n) => show (L q).size ≤ 240 from by
    rw [← eL]
    exact HLK.out q h)
  rw [eL] at HL0 HLE
  clear hd0 hd1 hd2 hd3 HI1 HI2 HF1 HF2 HSZ g1 g2 g3 g4 g5 g6 g8 hg HLK HLS hL eL HB
  go_enter Tryd.func8, Tryd.ntmps8
  go_upto_region 1 with fail
  rw [← HW.out]
  refine wp_region_quiet_below (by kernel_rfl) (by kernel_rfl) ?_
  iterate 19 (go_big_quiet_step (first | with_reducible exact cI1.out _ _ | with_reducible exact cI2.out _ _ | with_reducible exact cF1.out _ _ | with_reducible exact cF2.out _ _))
  refine wpQuiet_nil ?_
  intro _ hw'
  obtain ⟨⟨dq, osq⟩, hw''⟩ := hw'
  have hu : Below w1.heap.size w1 (grow (redrawn w1 dq) osq) := below_regrown w1 dq osq
  subst hw''
  obtain ⟨y, hy⟩ : ∃ y, y = grow (redrawn w1 dq) osq := ⟨_, rfl⟩
  rw [← hy] at hu ⊢
  rw [show d0 ++ ⟨#[32]⟩ ++ d1 ++ ⟨#[32]⟩ ++ d2 ++ ⟨#[32]⟩ ++ d3 = L 0 from HL0.out.symm]
  have hn8 : n ≤ 8 := by omega
  clear hy HL0 K0 K2 K3 K4 cI1 cI2 cF1 cF2 z0 z1 z2 z3 hl
  go_wp2
  go_loopw [3, 4] (fun l j wr => ∃ q : Nat, q ≤ n ∧ j = .int .i64 q ∧ l = .string (L q) ∧ Below w1.heap.size w1 wr) (fun _ j _ => n - (intOf j).toNat)
  case atStart => exact ⟨0, by omega, rfl, rfl, hu⟩
  case round =>
    clear hu
    obtain ⟨q, hq, rfl, rfl, hb⟩ := hrel
    have c1 := HC1.out _ hb
    have e1 := HLK2.out q hq
    by_cases hlt : q < n
    · obtain ⟨b, off, hA, hbl, hc⟩ := (hx1.below hb).cells (by omega)
      subst hA
      have g2 := hc q hlt
      obtain ⟨y0, y1⟩ := HNN.out q hlt
      have G := Lib.hid (HLS2.out q hlt)
      have e3 := HLK2.out (q + 1) hlt
      rw [G.out, ByteArray.size_append, ByteArray.size_append] at e3
      obtain ⟨z, hz⟩ : ∃ z, z = at0 r.batch q := ⟨_, rfl⟩
      rw [← hz] at g2 y0 y1 G e3
      have HI := Lib.hid (lib_Itoa' y0 (by omega) wr (ht1.below hb))
      obtain ⟨dz, hdz⟩ : ∃ d, d = bytesOf (Lib.decDigits z.toNat) := ⟨_, rfl⟩
      rw [← hdz] at G HI e3
      have e2 : dz.size ≤ 240 := by omega
      clear hc hz hdz y0 y1 e3
      go_wp2_with fail
      refine HI.out.mono ?_
      rintro e u ⟨rfl, hbu⟩
      have hb2 : Below w1.heap.size w1 u := bel_trans hb hbu
      have e4 : ({ data := #[32] } ++ dz : ByteArray).size ≤ 241 := by rw [ByteArray.size_append]; show 1 + _ ≤ _; omega
      go_wp2
      go_roundw
      case rel => exact ⟨q + 1, by omega, by go_num, by rw [G.out]; rfl, hb2⟩
      case measure => simp [intOf]; omega
    · obtain rfl : q = n := by omega
      go_wp2
      go_ret
      rw [← HLE.out]
      exact ⟨rfl, hw1.trans (hb.mono hw1.size)⟩
end Go.Proofs.YtblkpibbcapdeaaDoor
