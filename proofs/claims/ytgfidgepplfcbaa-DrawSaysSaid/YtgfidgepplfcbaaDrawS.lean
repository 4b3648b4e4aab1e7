/- The law DrawSays holds of the given program for every input. No condition. -/
import Derived.Test.YtgfidgepplfcbaaDrawR
import Derived.Test.YtgfidgepplfcbaaVecAny
import Derived.Test.YtgfidgepplfcbaaRefMat
import Derived.Test.YtgfidgepplfcbaaArgs
import Derived.Deep.DeepCutAuto
import Derived.Deep.CutBlock
namespace Go.Proofs.Ytgfidgepplfcbaa
open Go.ChangeShapes Go.WideShapes Go.ChangeAt Go.RowKit Pl

def ints (l : List Nat) : List Int := l.map fun (x : Nat) => (x : Int)
theorem ints_length (l : List Nat) : (ints l).length = l.length := List.length_map _
theorem vN_ints (l : List Nat) : vN l = (ints l).map (.int .i64) := by unfold vN ints; rw [List.map_map]; rfl
def shB (epoch n : Int) : Prop := (1 ≤ n ∧ n ≤ 16) ∧ (0 ≤ epoch ∧ epoch ≤ 1000)
instance (epoch n : Int) : Decidable (shB epoch n) := inferInstanceAs (Decidable (_ ∧ _))
def shE (epoch n : Int) : Int := if shB epoch n then 0 else 1
def shO (seed epoch n : Int) : List Int := if shB epoch n then ints (shufP seed.toNat epoch.toNat n.toNat) else []
def baB (size n step : Int) : Prop := (1 ≤ size ∧ size ≤ 8) ∧ (1 ≤ n ∧ n ≤ 16) ∧ (0 ≤ step ∧ step ≤ 39)
instance (size n step : Int) : Decidable (baB size n step) := inferInstanceAs (Decidable (_ ∧ _))
def baE (size n step : Int) : Int := if baB size n step then 0 else 1
def baO (seed size n step : Int) : List Int := if baB size n step then ints (batchP seed.toNat size.toNat n.toNat step.toNat) else []
theorem shO_len (seed epoch n : Int) : (shO seed epoch n).length ≤ 16 := by
  unfold shO
  split
  · rename_i h
    obtain ⟨⟨_, h2⟩, _⟩ := h
    rw [ints_length, shufP_length]; omega
  · simp
theorem baO_len (seed size n step : Int) : (baO seed size n step).length ≤ 8 := by
  unfold baO
  split
  · rename_i h
    obtain ⟨⟨_, h2⟩, _⟩ := h
    rw [ints_length, batchP_length]; omega
  · simp

theorem draw_Shuffle_any (seed epoch n : Int) (w : World) (h0 : 0 ≤ seed) (h1 : seed < 18446744073709551616) :
    Calls Try.prog 48 #[.int .u64 seed, .int .i64 epoch, .int .i64 n] w (ListRes w (shO seed epoch n) (shE epoch n)) := by
  by_cases hb : shB epoch n
  · rw [show shO seed epoch n = ints (shufP seed.toNat epoch.toNat n.toNat) from if_pos hb, show shE epoch n = 0 from if_pos hb]
    obtain ⟨hn, he⟩ := hb
    obtain ⟨n', rfl⟩ := Int.eq_ofNat_of_zero_le (show 0 ≤ n by omega)
    obtain ⟨e', rfl⟩ := Int.eq_ofNat_of_zero_le (show 0 ≤ epoch by omega)
    refine (draw_Shuffle_ok seed e' n' w h0 h1 (by omega) (by omega) (by omega)).mono ?_
    rintro e w1 ⟨A, c, rfl, ho, hb⟩
    rw [vN_ints] at ho
    have hl : (ints (shufP seed.toNat e' n')).length = n' := by rw [ints_length, shufP_length]
    refine ⟨A, c, ?_, ?_, hb⟩
    · simp only [Int.toNat_natCast, hl]
    · simp only [Int.toNat_natCast, hl]; exact Ints.of_own ho hl
  · rw [show shO seed epoch n = [] from if_neg hb, show shE epoch n = 1 from if_neg hb]
    exact (draw_Shuffle_no seed epoch n w hb).mono fun e w' ⟨he, hw⟩ => .of_no he (hw ▸ Below.refl _ _)
theorem draw_Batch_any (seed size n step : Int) (w : World) (h0 : 0 ≤ seed) (h1 : seed < 18446744073709551616) :
    Calls Try.prog 49 #[.int .u64 seed, .int .i64 size, .int .i64 n, .int .i64 step] w (ListRes w (baO seed size n step) (baE size n step)) := by
  by_cases hb : baB size n step
  · rw [show baO seed size n step = ints (batchP seed.toNat size.toNat n.toNat step.toNat) from if_pos hb, show baE size n step = 0 from if_pos hb]
    obtain ⟨hs, hn, ht⟩ := hb
    obtain ⟨s', rfl⟩ := Int.eq_ofNat_of_zero_le (show 0 ≤ size by omega)
    obtain ⟨n', rfl⟩ := Int.eq_ofNat_of_zero_le (show 0 ≤ n by omega)
    obtain ⟨t', rfl⟩ := Int.eq_ofNat_of_zero_le (show 0 ≤ step by omega)
    refine (draw_Batch_ok seed s' n' t' w h0 h1 (by omega) (by omega) (by omega) (by omega) (by omega)).mono ?_
    rintro e w1 ⟨A, c, rfl, ho, hb⟩
    rw [vN_ints] at ho
    have hl : (ints (batchP seed.toNat s' n' t')).length = s' := by rw [ints_length, batchP_length]
    refine ⟨A, c, ?_, ?_, hb⟩
    · simp only [Int.toNat_natCast, hl]
    · simp only [Int.toNat_natCast, hl]; exact Ints.of_own ho hl
  · rw [show baO seed size n step = [] from if_neg hb, show baE size n step = 1 from if_neg hb]
    exact (draw_Batch_no seed size n step w hb).mono fun e w' ⟨he, hw⟩ => .of_no he (hw ▸ Below.refl _ _)

/-- What a law expects: an error, a list. -/
def WantL (w : World) (L : List Int) (x : Int) (e v : Value) (wx : World) : Prop := e = .int .i64 x ∧ Below w.heap.size w wx ∧ ∃ A c, v = .slice A L.length c ∧ Ints .i64 wx A L.length L

set_option maxRecDepth 100000 in
set_option maxHeartbeats 1000000 in
theorem drawSays_ok_ok (seed epoch n size step : Int) (w : World) (h0 : 0 ≤ seed) (h1 : seed < 18446744073709551616) (hn : 1 ≤ n ∧ n ≤ 16) (he : 0 ≤ epoch ∧ epoch ≤ 1000) (hs : 1 ≤ size ∧ size ≤ 8) (ht : 0 ≤ step ∧ step ≤ 39) :
    Calls Try.prog 8 #[.int .u64 seed, .int .i64 epoch, .int .i64 n, .int .i64 size, .int .i64 step] w fun e w' => e = .returned (.bool true) ∧ Below w.heap.size w w' := by
  have HSH := Lib.hid (fun W => draw_Shuffle_any seed epoch n W h0 h1)
  have HBA := Lib.hid (fun W => draw_Batch_any seed size n step W h0 h1)
  have t1 : inB n 1 16 = true := inB_yes hn
  have t2 : inB epoch 0 1000 = true := inB_yes he
  have t3 : inB size 1 8 = true := inB_yes hs
  have t4 : inB step 0 39 = true := inB_yes ht
  rw [show shO seed epoch n = ints (shufP seed.toNat epoch.toNat n.toNat) from if_pos ⟨hn, he⟩, show shE epoch n = 0 from if_pos ⟨hn, he⟩] at HSH
  rw [show baO seed size n step = ints (batchP seed.toNat size.toNat n.toNat step.toNat) from if_pos ⟨hs, hn, ht⟩, show baE size n step = 0 from if_pos ⟨hs, hn, ht⟩] at HBA
  obtain ⟨n', rfl⟩ := Int.eq_ofNat_of_zero_le (show 0 ≤ n by omega)
  obtain ⟨e', rfl⟩ := Int.eq_ofNat_of_zero_le (show 0 ≤ epoch by omega)
  obtain ⟨s', rfl⟩ := Int.eq_ofNat_of_zero_le (show 0 ≤ size by omega)
  obtain ⟨r', rfl⟩ := Int.eq_ofNat_of_zero_le (show 0 ≤ step by omega)
  simp only [Int.toNat_natCast] at HSH
  have L1 := Lib.hid (show (ints (shufP seed.toNat e' n')).length = n' by rw [ints_length, shufP_length])
  have HRS := Lib.hid (fun W => ref_Shuffle seed e' n' W h0 h1 (by omega) (by omega) (by omega))
  simp only [Int.toNat_natCast] at HBA
  have L2 := Lib.hid (show (ints (batchP seed.toNat s' n' r')).length = s' by rw [ints_length, batchP_length])
  have HRB := Lib.hid (fun W => ref_Batch seed s' n' r' W h0 h1 (by omega) (by omega) (by omega) (by omega) (by omega))
  have nl : n' ≤ 16 := by omega
  have sl : s' ≤ 8 := by omega
  clear hn hs h0 h1 he ht
  go_enter Try.func8, Try.ntmps8
  go_wp2_with (go_at_call 20; refine (ref_In _ _ _ _).mono ?_; rintro e w' ⟨rfl, rfl⟩)
  refine (HRS.out _).mono ?_
  rintro e w1 ⟨g, c, rfl, ho1, hb1⟩
  rw [vN_ints] at ho1
  have I1 := Ints.of_own ho1 L1.out
  clear ho1
  go_wp2_with (go_at_call 20; refine (ref_In _ _ _ _).mono ?_; rintro e w' ⟨rfl, rfl⟩)
  refine (HRB.out _).mono ?_
  rintro e w2 ⟨A2, c2, rfl, ho2, hb2⟩
  rw [vN_ints] at ho2
  have I2 := Ints.of_own ho2 L2.out
  clear ho2
  have I1 := I1.below hb2
  have hb2 := bel_trans hb1 hb2
  go_wp2_with (go_at_call 20; refine (ref_In _ _ _ _).mono ?_; rintro e w' ⟨rfl, rfl⟩)
  refine (HSH.out _).mono ?_
  rintro e w3 ⟨A3, c3, rfl, I3, hb3⟩
  go_wp2_with fail
  refine (HBA.out _).mono ?_
  rintro e w4 ⟨A4, c4, rfl, I4, hb4⟩
  have I3 := I3.below hb4
  have I1 := (I1.below hb3).below hb4
  have I2 := (I2.below hb3).below hb4
  have hb34 := bel_trans hb3 hb4
  have hz : Below w.heap.size w w4 := bel_trans hb2 hb34
  go_wp2_with fail
  refine (equalI_any _ _ _ _ _ _ _ _ _ (by exact I3) (by exact I1) (by rw [L1.out]; omega)).mono ?_
  rintro e w5 ⟨rfl, k5, rfl⟩
  rw [decide_eq_true rfl]
  go_wp2_with fail
  refine (equalI_any _ _ _ _ _ _ _ _ _ (by exact I4.drewN _) (by exact I2.drewN _) (by rw [L2.out]; omega)).mono ?_
  rintro e w6 ⟨rfl, k6, rfl⟩
  rw [decide_eq_true rfl]
  go_wp2
  go_ret
  exact ⟨rfl, bel_drewN hz _⟩

set_option maxRecDepth 100000 in
set_option maxHeartbeats 1000000 in
theorem drawSays_ok_size (seed epoch n size step : Int) (w : World) (h0 : 0 ≤ seed) (h1 : seed < 18446744073709551616) (hn : 1 ≤ n ∧ n ≤ 16) (he : 0 ≤ epoch ∧ epoch ≤ 1000) (hs : ¬ (1 ≤ size ∧ size ≤ 8)) :
    Calls Try.prog 8 #[.int .u64 seed, .int .i64 epoch, .int .i64 n, .int .i64 size, .int .i64 step] w fun e w' => e = .returned (.bool true) ∧ Below w.heap.size w w' := by
  have HSH := Lib.hid (fun W => draw_Shuffle_any seed epoch n W h0 h1)
  have HBA := Lib.hid (fun W => draw_Batch_any seed size n step W h0 h1)
  have t1 : inB n 1 16 = true := inB_yes hn
  have t2 : inB epoch 0 1000 = true := inB_yes he
  have t3 : inB size 1 8 = false := inB_no hs
  rw [show shO seed epoch n = ints (shufP seed.toNat epoch.toNat n.toNat) from if_pos ⟨hn, he⟩, show shE epoch n = 0 from if_pos ⟨hn, he⟩] at HSH
  rw [show baO seed size n step = [] from if_neg (fun h => hs h.1), show baE size n step = 1 from if_neg (fun h => hs h.1)] at HBA
  obtain ⟨n', rfl⟩ := Int.eq_ofNat_of_zero_le (show 0 ≤ n by omega)
  obtain ⟨e', rfl⟩ := Int.eq_ofNat_of_zero_le (show 0 ≤ epoch by omega)
  simp only [Int.toNat_natCast] at HSH
  have L1 := Lib.hid (show (ints (shufP seed.toNat e' n')).length = n' by rw [ints_length, shufP_length])
  have HRS := Lib.hid (fun W => ref_Shuffle seed e' n' W h0 h1 (by omega) (by omega) (by omega))
  have nl : n' ≤ 16 := by omega
  clear hn hs h0 h1 he
  go_enter Try.func8, Try.ntmps8
  go_wp2_with (go_at_call 20; refine (ref_In _ _ _ _).mono ?_; rintro e w' ⟨rfl, rfl⟩)
  refine (HRS.out _).mono ?_
  rintro e w1 ⟨g, c, rfl, ho1, hb1⟩
  rw [vN_ints] at ho1
  have I1 := Ints.of_own ho1 L1.out
  clear ho1
  go_wp2_with (go_at_call 20; refine (ref_In _ _ _ _).mono ?_; rintro e w' ⟨rfl, rfl⟩)
  refine (HSH.out _).mono ?_
  rintro e w3 ⟨A3, c3, rfl, I3, hb3⟩
  go_wp2_with fail
  refine (HBA.out _).mono ?_
  rintro e w4 ⟨A4, c4, rfl, I4, hb4⟩
  have I3 := I3.below hb4
  have I1 := (I1.below hb3).below hb4
  have hb34 := bel_trans hb3 hb4
  have hz : Below w.heap.size w w4 := bel_trans hb1 hb34
  go_wp2_with fail
  refine (equalI_any _ _ _ _ _ _ _ _ _ (by exact I3) (by exact I1) (by rw [L1.out]; omega)).mono ?_
  rintro e w5 ⟨rfl, k5, rfl⟩
  rw [decide_eq_true rfl]
  go_wp2_with fail
  refine (equalI_any _ _ _ _ _ _ _ _ _ (by exact I4.drewN _) (by exact (Ints.nil _ _ _)) (by decide)).mono ?_
  rintro e w6 ⟨rfl, k6, rfl⟩
  rw [decide_eq_true rfl]
  go_wp2
  go_ret
  exact ⟨rfl, bel_drewN hz _⟩

set_option maxRecDepth 100000 in
set_option maxHeartbeats 1000000 in
theorem drawSays_ok_step (seed epoch n size step : Int) (w : World) (h0 : 0 ≤ seed) (h1 : seed < 18446744073709551616) (hn : 1 ≤ n ∧ n ≤ 16) (he : 0 ≤ epoch ∧ epoch ≤ 1000) (hs : 1 ≤ size ∧ size ≤ 8) (ht : ¬ (0 ≤ step ∧ step ≤ 39)) :
    Calls Try.prog 8 #[.int .u64 seed, .int .i64 epoch, .int .i64 n, .int .i64 size, .int .i64 step] w fun e w' => e = .returned (.bool true) ∧ Below w.heap.size w w' := by
  have HSH := Lib.hid (fun W => draw_Shuffle_any seed epoch n W h0 h1)
  have HBA := Lib.hid (fun W => draw_Batch_any seed size n step W h0 h1)
  have t1 : inB n 1 16 = true := inB_yes hn
  have t2 : inB epoch 0 1000 = true := inB_yes he
  have t3 : inB size 1 8 = true := inB_yes hs
  have t4 : inB step 0 39 = false := inB_no ht
  rw [show shO seed epoch n = ints (shufP seed.toNat epoch.toNat n.toNat) from if_pos ⟨hn, he⟩, show shE epoch n = 0 from if_pos ⟨hn, he⟩] at HSH
  rw [show baO seed size n step = [] from if_neg (fun h => ht h.2.2), show baE size n step = 1 from if_neg (fun h => ht h.2.2)] at HBA
  obtain ⟨n', rfl⟩ := Int.eq_ofNat_of_zero_le (show 0 ≤ n by omega)
  obtain ⟨e', rfl⟩ := Int.eq_ofNat_of_zero_le (show 0 ≤ epoch by omega)
  simp only [Int.toNat_natCast] at HSH
  have L1 := Lib.hid (show (ints (shufP seed.toNat e' n')).length = n' by rw [ints_length, shufP_length])
  have HRS := Lib.hid (fun W => ref_Shuffle seed e' n' W h0 h1 (by omega) (by omega) (by omega))
  have nl : n' ≤ 16 := by omega
  clear hn hs h0 h1 he ht
  go_enter Try.func8, Try.ntmps8
  go_wp2_with (go_at_call 20; refine (ref_In _ _ _ _).mono ?_; rintro e w' ⟨rfl, rfl⟩)
  refine (HRS.out _).mono ?_
  rintro e w1 ⟨g, c, rfl, ho1, hb1⟩
  rw [vN_ints] at ho1
  have I1 := Ints.of_own ho1 L1.out
  clear ho1
  go_wp2_with (go_at_call 20; refine (ref_In _ _ _ _).mono ?_; rintro e w' ⟨rfl, rfl⟩)
  refine (HSH.out _).mono ?_
  rintro e w3 ⟨A3, c3, rfl, I3, hb3⟩
  go_wp2_with fail
  refine (HBA.out _).mono ?_
  rintro e w4 ⟨A4, c4, rfl, I4, hb4⟩
  have I3 := I3.below hb4
  have I1 := (I1.below hb3).below hb4
  have hb34 := bel_trans hb3 hb4
  have hz : Below w.heap.size w w4 := bel_trans hb1 hb34
  go_wp2_with fail
  refine (equalI_any _ _ _ _ _ _ _ _ _ (by exact I3) (by exact I1) (by rw [L1.out]; omega)).mono ?_
  rintro e w5 ⟨rfl, k5, rfl⟩
  rw [decide_eq_true rfl]
  go_wp2_with fail
  refine (equalI_any _ _ _ _ _ _ _ _ _ (by exact I4.drewN _) (by exact (Ints.nil _ _ _)) (by decide)).mono ?_
  rintro e w6 ⟨rfl, k6, rfl⟩
  rw [decide_eq_true rfl]
  go_wp2
  go_ret
  exact ⟨rfl, bel_drewN hz _⟩

set_option maxRecDepth 100000 in
set_option maxHeartbeats 1000000 in
theorem drawSays_ep_ok (seed epoch n size step : Int) (w : World) (h0 : 0 ≤ seed) (h1 : seed < 18446744073709551616) (hn : 1 ≤ n ∧ n ≤ 16) (he : ¬ (0 ≤ epoch ∧ epoch ≤ 1000)) (hs : 1 ≤ size ∧ size ≤ 8) (ht : 0 ≤ step ∧ step ≤ 39) :
    Calls Try.prog 8 #[.int .u64 seed, .int .i64 epoch, .int .i64 n, .int .i64 size, .int .i64 step] w fun e w' => e = .returned (.bool true) ∧ Below w.heap.size w w' := by
  have HSH := Lib.hid (fun W => draw_Shuffle_any seed epoch n W h0 h1)
  have HBA := Lib.hid (fun W => draw_Batch_any seed size n step W h0 h1)
  have t1 : inB n 1 16 = true := inB_yes hn
  have t2 : inB epoch 0 1000 = false := inB_no he
  have t3 : inB size 1 8 = true := inB_yes hs
  have t4 : inB step 0 39 = true := inB_yes ht
  rw [show shO seed epoch n = [] from if_neg (fun h => he h.2), show shE epoch n = 1 from if_neg (fun h => he h.2)] at HSH
  rw [show baO seed size n step = ints (batchP seed.toNat size.toNat n.toNat step.toNat) from if_pos ⟨hs, hn, ht⟩, show baE size n step = 0 from if_pos ⟨hs, hn, ht⟩] at HBA
  obtain ⟨n', rfl⟩ := Int.eq_ofNat_of_zero_le (show 0 ≤ n by omega)
  obtain ⟨s', rfl⟩ := Int.eq_ofNat_of_zero_le (show 0 ≤ size by omega)
  obtain ⟨r', rfl⟩ := Int.eq_ofNat_of_zero_le (show 0 ≤ step by omega)
  simp only [Int.toNat_natCast] at HBA
  have L2 := Lib.hid (show (ints (batchP seed.toNat s' n' r')).length = s' by rw [ints_length, batchP_length])
  have HRB := Lib.hid (fun W => ref_Batch seed s' n' r' W h0 h1 (by omega) (by omega) (by omega) (by omega) (by omega))
  have sl : s' ≤ 8 := by omega
  clear hn hs h0 h1 he ht
  go_enter Try.func8, Try.ntmps8
  go_wp2_with (go_at_call 20; refine (ref_In _ _ _ _).mono ?_; rintro e w' ⟨rfl, rfl⟩)
  refine (HRB.out _).mono ?_
  rintro e w2 ⟨A2, c2, rfl, ho2, hb2⟩
  rw [vN_ints] at ho2
  have I2 := Ints.of_own ho2 L2.out
  clear ho2
  go_wp2_with (go_at_call 20; refine (ref_In _ _ _ _).mono ?_; rintro e w' ⟨rfl, rfl⟩)
  refine (HSH.out _).mono ?_
  rintro e w3 ⟨A3, c3, rfl, I3, hb3⟩
  go_wp2_with fail
  refine (HBA.out _).mono ?_
  rintro e w4 ⟨A4, c4, rfl, I4, hb4⟩
  have I3 := I3.below hb4
  have I2 := (I2.below hb3).below hb4
  have hb34 := bel_trans hb3 hb4
  have hz : Below w.heap.size w w4 := bel_trans hb2 hb34
  go_wp2_with fail
  refine (equalI_any _ _ _ _ _ _ _ _ _ (by exact I3) (by exact (Ints.nil _ _ _)) (by decide)).mono ?_
  rintro e w5 ⟨rfl, k5, rfl⟩
  rw [decide_eq_true rfl]
  go_wp2_with fail
  refine (equalI_any _ _ _ _ _ _ _ _ _ (by exact I4.drewN _) (by exact I2.drewN _) (by rw [L2.out]; omega)).mono ?_
  rintro e w6 ⟨rfl, k6, rfl⟩
  rw [decide_eq_true rfl]
  go_wp2
  go_ret
  exact ⟨rfl, bel_drewN hz _⟩

set_option maxRecDepth 100000 in
set_option maxHeartbeats 1000000 in
theorem drawSays_ep_size (seed epoch n size step : Int) (w : World) (h0 : 0 ≤ seed) (h1 : seed < 18446744073709551616) (hn : 1 ≤ n ∧ n ≤ 16) (he : ¬ (0 ≤ epoch ∧ epoch ≤ 1000)) (hs : ¬ (1 ≤ size ∧ size ≤ 8)) :
    Calls Try.prog 8 #[.int .u64 seed, .int .i64 epoch, .int .i64 n, .int .i64 size, .int .i64 step] w fun e w' => e = .returned (.bool true) ∧ Below w.heap.size w w' := by
  have HSH := Lib.hid (fun W => draw_Shuffle_any seed epoch n W h0 h1)
  have HBA := Lib.hid (fun W => draw_Batch_any seed size n step W h0 h1)
  have t1 : inB n 1 16 = true := inB_yes hn
  have t2 : inB epoch 0 1000 = false := inB_no he
  have t3 : inB size 1 8 = false := inB_no hs
  rw [show shO seed epoch n = [] from if_neg (fun h => he h.2), show shE epoch n = 1 from if_neg (fun h => he h.2)] at HSH
  rw [show baO seed size n step = [] from if_neg (fun h => hs h.1), show baE size n step = 1 from if_neg (fun h => hs h.1)] at HBA
  clear hn hs h0 h1 he
  go_enter Try.func8, Try.ntmps8
  go_wp2_with (go_at_call 20; refine (ref_In _ _ _ _).mono ?_; rintro e w' ⟨rfl, rfl⟩)
  refine (HSH.out _).mono ?_
  rintro e w3 ⟨A3, c3, rfl, I3, hb3⟩
  go_wp2_with fail
  refine (HBA.out _).mono ?_
  rintro e w4 ⟨A4, c4, rfl, I4, hb4⟩
  have I3 := I3.below hb4
  have hb34 := bel_trans hb3 hb4
  have hz : Below w.heap.size w w4 := hb34
  go_wp2_with fail
  refine (equalI_any _ _ _ _ _ _ _ _ _ (by exact I3) (by exact (Ints.nil _ _ _)) (by decide)).mono ?_
  rintro e w5 ⟨rfl, k5, rfl⟩
  rw [decide_eq_true rfl]
  go_wp2_with fail
  refine (equalI_any _ _ _ _ _ _ _ _ _ (by exact I4.drewN _) (by exact (Ints.nil _ _ _)) (by decide)).mono ?_
  rintro e w6 ⟨rfl, k6, rfl⟩
  rw [decide_eq_true rfl]
  go_wp2
  go_ret
  exact ⟨rfl, bel_drewN hz _⟩

set_option maxRecDepth 100000 in
set_option maxHeartbeats 1000000 in
theorem drawSays_ep_step (seed epoch n size step : Int) (w : World) (h0 : 0 ≤ seed) (h1 : seed < 18446744073709551616) (hn : 1 ≤ n ∧ n ≤ 16) (he : ¬ (0 ≤ epoch ∧ epoch ≤ 1000)) (hs : 1 ≤ size ∧ size ≤ 8) (ht : ¬ (0 ≤ step ∧ step ≤ 39)) :
    Calls Try.prog 8 #[.int .u64 seed, .int .i64 epoch, .int .i64 n, .int .i64 size, .int .i64 step] w fun e w' => e = .returned (.bool true) ∧ Below w.heap.size w w' := by
  have HSH := Lib.hid (fun W => draw_Shuffle_any seed epoch n W h0 h1)
  have HBA := Lib.hid (fun W => draw_Batch_any seed size n step W h0 h1)
  have t1 : inB n 1 16 = true := inB_yes hn
  have t2 : inB epoch 0 1000 = false := inB_no he
  have t3 : inB size 1 8 = true := inB_yes hs
  have t4 : inB step 0 39 = false := inB_no ht
  rw [show shO seed epoch n = [] from if_neg (fun h => he h.2), show shE epoch n = 1 from if_neg (fun h => he h.2)] at HSH
  rw [show baO seed size n step = [] from if_neg (fun h => ht h.2.2), show baE size n step = 1 from if_neg (fun h => ht h.2.2)] at HBA
  clear hn hs h0 h1 he ht
  go_enter Try.func8, Try.ntmps8
  go_wp2_with (go_at_call 20; refine (ref_In _ _ _ _).mono ?_; rintro e w' ⟨rfl, rfl⟩)
  refine (HSH.out _).mono ?_
  rintro e w3 ⟨A3, c3, rfl, I3, hb3⟩
  go_wp2_with fail
  refine (HBA.out _).mono ?_
  rintro e w4 ⟨A4, c4, rfl, I4, hb4⟩
  have I3 := I3.below hb4
  have hb34 := bel_trans hb3 hb4
  have hz : Below w.heap.size w w4 := hb34
  go_wp2_with fail
  refine (equalI_any _ _ _ _ _ _ _ _ _ (by exact I3) (by exact (Ints.nil _ _ _)) (by decide)).mono ?_
  rintro e w5 ⟨rfl, k5, rfl⟩
  rw [decide_eq_true rfl]
  go_wp2_with fail
  refine (equalI_any _ _ _ _ _ _ _ _ _ (by exact I4.drewN _) (by exact (Ints.nil _ _ _)) (by decide)).mono ?_
  rintro e w6 ⟨rfl, k6, rfl⟩
  rw [decide_eq_true rfl]
  go_wp2
  go_ret
  exact ⟨rfl, bel_drewN hz _⟩

set_option maxRecDepth 100000 in
set_option maxHeartbeats 1000000 in
theorem drawSays_n_size (seed epoch n size step : Int) (w : World) (h0 : 0 ≤ seed) (h1 : seed < 18446744073709551616) (hn : ¬ (1 ≤ n ∧ n ≤ 16)) (hs : ¬ (1 ≤ size ∧ size ≤ 8)) :
    Calls Try.prog 8 #[.int .u64 seed, .int .i64 epoch, .int .i64 n, .int .i64 size, .int .i64 step] w fun e w' => e = .returned (.bool true) ∧ Below w.heap.size w w' := by
  have HSH := Lib.hid (fun W => draw_Shuffle_any seed epoch n W h0 h1)
  have HBA := Lib.hid (fun W => draw_Batch_any seed size n step W h0 h1)
  have t1 : inB n 1 16 = false := inB_no hn
  have t3 : inB size 1 8 = false := inB_no hs
  rw [show shO seed epoch n = [] from if_neg (fun h => hn h.1), show shE epoch n = 1 from if_neg (fun h => hn h.1)] at HSH
  rw [show baO seed size n step = [] from if_neg (fun h => hs h.1), show baE size n step = 1 from if_neg (fun h => hs h.1)] at HBA
  clear hn hs h0 h1
  go_enter Try.func8, Try.ntmps8
  go_wp2_with (go_at_call 20; refine (ref_In _ _ _ _).mono ?_; rintro e w' ⟨rfl, rfl⟩)
  refine (HSH.out _).mono ?_
  rintro e w3 ⟨A3, c3, rfl, I3, hb3⟩
  go_wp2_with fail
  refine (HBA.out _).mono ?_
  rintro e w4 ⟨A4, c4, rfl, I4, hb4⟩
  have I3 := I3.below hb4
  have hb34 := bel_trans hb3 hb4
  have hz : Below w.heap.size w w4 := hb34
  go_wp2_with fail
  refine (equalI_any _ _ _ _ _ _ _ _ _ (by exact I3) (by exact (Ints.nil _ _ _)) (by decide)).mono ?_
  rintro e w5 ⟨rfl, k5, rfl⟩
  rw [decide_eq_true rfl]
  go_wp2_with fail
  refine (equalI_any _ _ _ _ _ _ _ _ _ (by exact I4.drewN _) (by exact (Ints.nil _ _ _)) (by decide)).mono ?_
  rintro e w6 ⟨rfl, k6, rfl⟩
  rw [decide_eq_true rfl]
  go_wp2
  go_ret
  exact ⟨rfl, bel_drewN hz _⟩

set_option maxRecDepth 100000 in
set_option maxHeartbeats 1000000 in
theorem drawSays_n_n (seed epoch n size step : Int) (w : World) (h0 : 0 ≤ seed) (h1 : seed < 18446744073709551616) (hn : ¬ (1 ≤ n ∧ n ≤ 16)) (hs : 1 ≤ size ∧ size ≤ 8) :
    Calls Try.prog 8 #[.int .u64 seed, .int .i64 epoch, .int .i64 n, .int .i64 size, .int .i64 step] w fun e w' => e = .returned (.bool true) ∧ Below w.heap.size w w' := by
  have HSH := Lib.hid (fun W => draw_Shuffle_any seed epoch n W h0 h1)
  have HBA := Lib.hid (fun W => draw_Batch_any seed size n step W h0 h1)
  have t1 : inB n 1 16 = false := inB_no hn
  have t3 : inB size 1 8 = true := inB_yes hs
  rw [show shO seed epoch n = [] from if_neg (fun h => hn h.1), show shE epoch n = 1 from if_neg (fun h => hn h.1)] at HSH
  rw [show baO seed size n step = [] from if_neg (fun h => hn h.2.1), show baE size n step = 1 from if_neg (fun h => hn h.2.1)] at HBA
  clear hn hs h0 h1
  go_enter Try.func8, Try.ntmps8
  go_wp2_with (go_at_call 20; refine (ref_In _ _ _ _).mono ?_; rintro e w' ⟨rfl, rfl⟩)
  refine (HSH.out _).mono ?_
  rintro e w3 ⟨A3, c3, rfl, I3, hb3⟩
  go_wp2_with fail
  refine (HBA.out _).mono ?_
  rintro e w4 ⟨A4, c4, rfl, I4, hb4⟩
  have I3 := I3.below hb4
  have hb34 := bel_trans hb3 hb4
  have hz : Below w.heap.size w w4 := hb34
  go_wp2_with fail
  refine (equalI_any _ _ _ _ _ _ _ _ _ (by exact I3) (by exact (Ints.nil _ _ _)) (by decide)).mono ?_
  rintro e w5 ⟨rfl, k5, rfl⟩
  rw [decide_eq_true rfl]
  go_wp2_with fail
  refine (equalI_any _ _ _ _ _ _ _ _ _ (by exact I4.drewN _) (by exact (Ints.nil _ _ _)) (by decide)).mono ?_
  rintro e w6 ⟨rfl, k6, rfl⟩
  rw [decide_eq_true rfl]
  go_wp2
  go_ret
  exact ⟨rfl, bel_drewN hz _⟩

theorem drawSays_walk (seed epoch n size step : Int) (w : World) (h0 : 0 ≤ seed) (h1 : seed < 18446744073709551616) :
    Calls Try.prog 8 #[.int .u64 seed, .int .i64 epoch, .int .i64 n, .int .i64 size, .int .i64 step] w fun e w' => e = .returned (.bool true) ∧ Below w.heap.size w w' := by
  by_cases hn : 1 ≤ n ∧ n ≤ 16
  · by_cases he : 0 ≤ epoch ∧ epoch ≤ 1000
    · by_cases hs : 1 ≤ size ∧ size ≤ 8
      · by_cases ht : 0 ≤ step ∧ step ≤ 39
        · exact drawSays_ok_ok seed epoch n size step w h0 h1 hn he hs ht
        · exact drawSays_ok_step seed epoch n size step w h0 h1 hn he hs ht
      · exact drawSays_ok_size seed epoch n size step w h0 h1 hn he hs
    · by_cases hs : 1 ≤ size ∧ size ≤ 8
      · by_cases ht : 0 ≤ step ∧ step ≤ 39
        · exact drawSays_ep_ok seed epoch n size step w h0 h1 hn he hs ht
        · exact drawSays_ep_step seed epoch n size step w h0 h1 hn he hs ht
      · exact drawSays_ep_size seed epoch n size step w h0 h1 hn he hs
  · by_cases hs : 1 ≤ size ∧ size ≤ 8
    · exact drawSays_n_n seed epoch n size step w h0 h1 hn hs
    · exact drawSays_n_size seed epoch n size step w h0 h1 hn hs

set_option maxRecDepth 100000 in
theorem drawSays_lifted (os : Os) (started : os.Started) (H : Type) (enc : TypeId × Value → H) :
    ReturnsInHanded {} Try.checked os 8 .any (Rows.drawSaysSpec.pre6 enc Try.prog Try.f8 Rows.drawSaysRow.domain false) (Rows.drawSaysSpec.post enc Try.prog Try.f8 false true false false) := by
  refine lift_law (fn := Try.f8) started (by kernel_rfl) Try.func8
    (ChangeSpec.witness6 (enc := enc) (C := Try.checked) false ⟨#[], #[.int .u64 0, .int .i64 0, .int .i64 0, .int .i64 0, .int .i64 0], []⟩ 8 (by kernel_rfl) (by kernel_rfl) (by kernel_rfl) (by kernel_rfl)) (by kernel_rfl) rfl Try.underlying4 rfl ?_ ?_
  · intro ds h
    rw [Try.params8] at h
    match ds, h with
    | [d0, d1, d2, d3, d4], _ => rfl
  · intro W args ds ps hA hlt hval hsz
    rw [Try.params8] at hA hval hsz
    obtain ⟨v0, vs0, d0, ds0, p0, q0, hargs, rfl, rfl, H0, T0⟩ := trodAll_cons hA
    obtain ⟨v1, vs1, d1, ds1, p1, q1, rfl, rfl, rfl, H1, T1⟩ := trodAll_cons T0
    obtain ⟨v2, vs2, d2, ds2, p2, q2, rfl, rfl, rfl, H2, T2⟩ := trodAll_cons T1
    obtain ⟨v3, vs3, d3, ds3, p3, q3, rfl, rfl, rfl, H3, T3⟩ := trodAll_cons T2
    obtain ⟨v4, vs4, d4, ds4, p4, q4, rfl, rfl, rfl, H4, T4⟩ := trodAll_cons T3
    obtain ⟨rfl, rfl, rfl⟩ := trodAll_nil T4
    obtain rfl : args = #[v0, v1, v2, v3, v4] := by cases args; simp_all
    obtain ⟨b0, hv0⟩ := hval 0 42 v0 rfl rfl
    obtain ⟨b1, hv1⟩ := hval 1 3 v1 rfl rfl
    obtain ⟨b2, hv2⟩ := hval 2 3 v2 rfl rfl
    obtain ⟨b3, hv3⟩ := hval 3 3 v3 rfl rfl
    obtain ⟨b4, hv4⟩ := hval 4 3 v4 rfl rfl
    obtain ⟨kk, rfl, y0⟩ := arg_u64 hv0 H0
    obtain ⟨x1, rfl, _⟩ := arg_int hv1 H1
    obtain ⟨x2, rfl, _⟩ := arg_int hv2 H2
    obtain ⟨x3, rfl, _⟩ := arg_int hv3 H3
    obtain ⟨x4, rfl, _⟩ := arg_int hv4 H4
    have z0 := wf_u64 y0
    exact drawSays_walk kk x1 x2 x3 x4 W (by omega) (by omega)
theorem DrawSays_holds : Rows.DrawSaysSaid :=
  OpenClaim.holds_of_wide 8 Try.f8 rfl rfl rfl rfl rfl rfl rfl ⟨rfl, rfl, rfl, rfl, rfl⟩ rfl rfl rfl rfl rfl (by kernel_rfl) Try.func8 (by kernel_rfl)
    (of_decide_eq_true (by kernel_rfl)) (by unfold Func.isWrapper; first | (rw [if_pos (by decide +kernel)]; kernel_rfl) | (rw [if_neg (by decide +kernel)]; exact ⟨rfl, rfl⟩))
    (fun os started H enc _ => drawSays_lifted os started H enc)

end Go.Proofs.Ytgfidgepplfcbaa
