/- The law DeskHead holds of the given program for every input of bulk at most 1048576: its tied card. The condition is the second form's bound. -/
import Derived.Test.YtaeeonnjkplohaaGreatDoorDskR
import Derived.Test.YtaeeonnjkplohaaGreatDoorDskH
import Derived.Test.YtaeeonnjkplohaaGreatDoorArgU
import Derived.Test.YtaeeonnjkplohaaGreatDoorStoC
import Derived.Deep.DeepCutAuto
import Derived.Deep.CutBlock
namespace Go.Proofs.YtaeeonnjkplohaaGreatDoor
open Go.ChangeShapes Go.WideShapes Go.ChangeAt Go.RowKit Go.Sort Pl

theorem pre_more (p t : List UInt8) : Lib.hasPrefix (p ++ t) p = true := by
  unfold Lib.hasPrefix
  simp
set_option maxRecDepth 100000 in
set_option maxHeartbeats 16000000 in
theorem deskHead_walk (s m : ByteArray) (w : World) (hs : s.size + m.size ≤ 1900000) (ht : Tabs w) :
    Calls Tryz.prog 6 #[.string s, .string m] w fun e w' => e = .returned (.bool true) ∧ Below w.heap.size w w' := by
  have hR0 := dsk_Run (bytesOf headT) w (by decide) ht
  rw [bytesOf_data] at hR0
  have hpc := head_pieces
  have hos : (runD headT).length ≤ 2000000 := by
    have h1 := (runK_ok (linesL headT) (linesL headT).length).2
    rw [runD_small (by rw [head_lines]; decide)]
    rw [head_lines] at h1 ⊢
    exact Nat.le_trans h1 (by decide)
  obtain ⟨o, ho⟩ : ∃ o, o = runD headT := ⟨_, rfl⟩
  rw [← ho] at hR0 hpc hos
  have hR0' : Calls Tryz.prog 19 #[.string ⟨#[100, 97, 116, 97, 32, 54, 53, 53, 51, 54, 32, 47, 32, 49, 51, 49, 48, 55, 50, 10, 115, 116, 101, 112, 10, 115, 116, 101, 112, 10, 97, 117, 100, 105, 116, 10, 99, 114, 97, 115, 104, 32, 48, 10, 98, 121, 116, 101, 115, 10, 97, 117, 100, 105, 116, 10]⟩] w fun e w' => e = .returned (.string (bytesOf o)) ∧ Below w.heap.size w w' := hR0
  have HTK := Lib.hid (fun W (hb : Below w.heap.size w W) => ht.below hb)
  have hSP := fun W (hb : Below w.heap.size w W) => lib_Split 10 (bytesOf o) W (by rw [bytesOf_size]; omega) (ht.below hb)
  rw [bytesOf_data, hpc] at hSP
  have hp0 : ∀ W, Calls Tryz.prog 25 #[.string (bytesOf (lineT (headF 0)).dropLast), .string ⟨#[48, 32, 54, 53, 53, 52, 32]⟩] W fun e w' => e = .returned (.bool true) ∧ w' = W := fun W => by
    have h := Tryz.strings_HasPrefix (bytesOf (lineT (headF 0)).dropLast) ⟨#[48, 32, 54, 53, 53, 52, 32]⟩ W
    rw [bytesOf_data] at h
    obtain ⟨t, e⟩ := head_front 0 (by omega)
    rw [e] at h ⊢
    rw [show (⟨#[48, 32, 54, 53, 53, 52, 32]⟩ : ByteArray).data.toList = [UInt8.ofNat (48 + 0), 32, 54, 53, 53, 52, 32] from rfl, pre_more] at h
    exact h
  have hp1 : ∀ W, Calls Tryz.prog 25 #[.string (bytesOf (lineT (headF 1)).dropLast), .string ⟨#[49, 32, 54, 53, 53, 52, 32]⟩] W fun e w' => e = .returned (.bool true) ∧ w' = W := fun W => by
    have h := Tryz.strings_HasPrefix (bytesOf (lineT (headF 1)).dropLast) ⟨#[49, 32, 54, 53, 53, 52, 32]⟩ W
    rw [bytesOf_data] at h
    obtain ⟨t, e⟩ := head_front 1 (by omega)
    rw [e] at h ⊢
    rw [show (⟨#[49, 32, 54, 53, 53, 52, 32]⟩ : ByteArray).data.toList = [UInt8.ofNat (48 + 1), 32, 54, 53, 53, 52, 32] from rfl, pre_more] at h
    exact h
  obtain ⟨l0, hl0⟩ : ∃ l0, l0 = (lineT (headF 0)).dropLast := ⟨_, rfl⟩
  obtain ⟨l1, hl1⟩ : ∃ l1, l1 = (lineT (headF 1)).dropLast := ⟨_, rfl⟩
  rw [← hl0, ← hl1] at hSP
  rw [← hl0] at hp0
  rw [← hl1] at hp1
  obtain ⟨L0, hL0⟩ : ∃ L0, L0 = bytesOf l0 := ⟨_, rfl⟩
  obtain ⟨L1, hL1⟩ : ∃ L1, L1 = bytesOf l1 := ⟨_, rfl⟩
  rw [← hL0] at hp0
  rw [← hL1] at hp1
  obtain ⟨O, hO⟩ : ∃ O, O = bytesOf o := ⟨_, rfl⟩
  rw [← hO] at hR0' hSP
  have hSP2 : ∀ W, Below w.heap.size w W → Calls Tryz.prog 24 #[.string O, .string ⟨#[10]⟩] W fun e w' => e = .returned (.slice (some ⟨W.heap.size, 0, none⟩) 8 8) ∧ w' = W.alloc (.cells #[.string ⟨#[111, 107]⟩, .string L0, .string L1, .string ⟨#[50]⟩, .string ⟨#[111, 107]⟩, .string ⟨#[48]⟩, .string ⟨#[48]⟩, .string ⟨#[]⟩] 9) := fun W hb => by
    rw [hL0, hL1]
    exact hSP W hb
  have HR0 := Lib.hid hR0'
  have HSP := Lib.hid hSP2
  have HP0 := Lib.hid hp0
  have HP1 := Lib.hid hp1
  obtain ⟨a, ha⟩ : ∃ a : ByteArray, a = s ++ ⟨#[10]⟩ ++ m := ⟨_, rfl⟩
  have hal : a.data.toList = s.data.toList ++ 10 :: m.data.toList := by rw [ha, ByteArray.data_append, ByteArray.data_append]; simp
  have has : a.size = s.size + 1 + m.size := by rw [ha, ByteArray.size_append, ByteArray.size_append]; rfl
  have hasz : a.data.toList.length = a.size := by rw [Array.length_toList]; rfl
  have hRA := Lib.hid (fun W (hb : Below w.heap.size w W) => dsk_Run a W (by omega) (ht.below hb))
  have hRT := Lib.hid (fun W (hb : Below w.heap.size w W) => dsk_Run s W (by omega) (ht.below hb))
  have hTL := fun W => ref_TextLines a W (by omega)
  unfold LinesPost at hTL
  have HHD := Lib.hid (fun (h : ¬ (65536 < a.size ∨ 200 < (linesL a.data.toList).length)) W => show Calls Tryz.prog 25 #[.string (bytesOf (runD a.data.toList)), .string (bytesOf (runD s.data.toList))] W fun e w' => e = .returned (.bool true) ∧ w' = W from by
    have hp := Tryz.strings_HasPrefix (bytesOf (runD a.data.toList)) (bytesOf (runD s.data.toList)) W
    rw [bytesOf_data, bytesOf_data] at hp
    obtain ⟨t, e⟩ := runD_head s.data.toList m.data.toList (by rw [← hal, hasz]; exact h)
    rw [← hal] at e
    rw [e, pre_more] at hp
    rw [e]
    exact hp)
  obtain ⟨M, hM⟩ : ∃ M, M = (linesL a.data.toList).length := ⟨_, rfl⟩
  rw [← hM] at HHD hTL
  have HTL := Lib.hid hTL
  have HA := Lib.hid ha
  have q0 : ¬ 9223372036854775807 < s.size + 1 := by omega
  have q1 : ¬ 9223372036854775807 < s.size + 1 + m.size := by omega
  obtain ⟨ra, hra⟩ : ∃ ra, ra = bytesOf (runD a.data.toList) := ⟨_, rfl⟩
  obtain ⟨rs, hrs⟩ : ∃ rs, rs = bytesOf (runD s.data.toList) := ⟨_, rfl⟩
  rw [← hra, ← hrs] at HHD
  rw [← hra] at hRA
  rw [← hrs] at hRT
  clear hra hrs hM hTL hal has hasz ha hp0 hp1 hSP hSP2 hR0 hR0' hO hL0 hL1 hl0 hl1 hpc hos ho ht
  go_enter Tryz.func6, Tryz.ntmps6
  go_wp2_with fail
  refine HR0.out.mono ?_
  rintro e w1 ⟨rfl, hb1⟩
  have HS1 := Lib.hid (HSP.out _ hb1)
  clear HR0 HSP
  go_wp2_with fail
  refine HS1.out.mono ?_
  rintro e w2 ⟨rfl, hw2⟩
  have hB2 : Blk w2 w1.heap.size 9 #[.string ⟨#[111, 107]⟩, .string L0, .string L1, .string ⟨#[50]⟩, .string ⟨#[111, 107]⟩, .string ⟨#[48]⟩, .string ⟨#[48]⟩, .string ⟨#[]⟩] := by rw [hw2]; exact Blk.made w1 _ _
  have bw2 : Below w.heap.size w w2 := by rw [hw2]; exact hb1.trans ((show Below w1.heap.size w1 _ from (by repeat (first | exact Below.refl _ _ | assumption | refine bel_drewN ?_ _ | refine Below.drew ?_ | (refine Below.alloc ?_ (by simp <;> omega) _) | (refine Below.setCell ?_ (by simp <;> omega) _)))).mono hb1.size)
  have c0 : w2.cell? ⟨w1.heap.size, 0, none⟩ = some (.string ⟨#[111, 107]⟩) := hB2.cell 0
  have c1 : w2.cell? ⟨w1.heap.size, 1, none⟩ = some (.string L0) := hB2.cell 1
  have c2 : w2.cell? ⟨w1.heap.size, 2, none⟩ = some (.string L1) := hB2.cell 2
  have c3 : w2.cell? ⟨w1.heap.size, 3, none⟩ = some (.string ⟨#[50]⟩) := hB2.cell 3
  have c5 : w2.cell? ⟨w1.heap.size, 5, none⟩ = some (.string ⟨#[48]⟩) := hB2.cell 5
  have c6 : w2.cell? ⟨w1.heap.size, 6, none⟩ = some (.string ⟨#[48]⟩) := hB2.cell 6
  clear HS1 hw2 hB2 hb1
  go_wp2_with fail
  refine (HP0.out _).mono ?_
  rintro e w3 ⟨rfl, h3⟩
  subst h3
  go_wp2_with fail
  refine (HP1.out _).mono ?_
  rintro e w4 ⟨rfl, h4⟩
  subst h4
  clear HP0 HP1
  go_upto_region 6 with fail
  rw [← HA.out]
  clear c0 c1 c2 c3 c5 c6
  by_cases h6 : 65536 < a.size
  · have h6' : (65536 : Int) < (a.size : Int) := by omega
    go_wp2
    go_ret
    exact ⟨rfl, bw2⟩
  · have h6' : ¬ (65536 : Int) < (a.size : Int) := by omega
    go_wp2_with fail
    refine (HTL.out _).mono ?_
    rintro e w5 ⟨A, c, rfl, hS, hc, hb5⟩
    have hw5 := bw2.trans (hb5.mono bw2.size)
    clear hS hc hb5 HTL
    by_cases h7 : 200 < M
    · have h7' : (200 : Int) < (M : Int) := by omega
      go_wp2
      go_ret
      exact ⟨rfl, hw5⟩
    · have h7' : ¬ (200 : Int) < (M : Int) := by omega
      have HH := Lib.hid (HHD.out (by omega))
      clear HHD h6 h7
      go_wp2_with fail
      refine (hRA.out _ hw5).mono ?_
      rintro e w6 ⟨rfl, hb6⟩
      have hw6 := hw5.trans (hb6.mono hw5.size)
      go_wp2_with fail
      refine (hRT.out _ hw6).mono ?_
      rintro e w7 ⟨rfl, hb7⟩
      have hw7 := hw6.trans (hb7.mono hw6.size)
      go_wp2_with fail
      refine (HH.out _).mono ?_
      rintro e w8 ⟨rfl, h8⟩
      subst h8
      go_wp2
      go_ret
      exact ⟨rfl, hw7⟩
theorem deskHead_met (os : Os) : laidMet Tryz.prog Rows.deskHeadUptoRow.laid ((laidWorld os #[.string ByteArray.empty, .string ByteArray.empty]).forCall (fun _ _ => 0) ⟨#[], #[.string ByteArray.empty, .string ByteArray.empty], []⟩).memory :=
  laidMet_of_run' 8 (by kernel_rfl) (by kernel_rfl)
theorem deskHead_reads (os : Os) {H : Type} (enc : TypeId × Value → H) : DataW.whole enc Tryz.prog ((laidWorld os #[.string ByteArray.empty, .string ByteArray.empty]).forCall (fun _ _ => 0) ⟨#[], #[.string ByteArray.empty, .string ByteArray.empty], []⟩).memory Tryz.f6.params.toList Rows.deskHeadSpec.vars false (#[.string ByteArray.empty, .string ByteArray.empty] : Array Value).toList 8 = some ([.lit (.string []), .lit (.string [])], [], []) := by kernel_rfl
set_option maxRecDepth 100000 in
theorem deskHead_lifted (os : Os) (started : os.Started) (H : Type) (enc : TypeId × Value → H) (F : Stop.Interp) :
    ReturnsInHanded {} Tryz.checked os 6 .any ((Rows.OpenSpec.upto Rows.deskHeadSpec).preRow enc Tryz.prog Tryz.f6 Rows.deskHeadUptoRow.domain false Rows.deskHeadUptoRow.laid) (((Rows.OpenSpec.upto Rows.deskHeadSpec).at F).post enc Tryz.prog Tryz.f6 false true false false) := by
  refine lift_card (fn := Tryz.f6) (s := Rows.OpenSpec.upto Rows.deskHeadSpec) (k := Rows.uptoSmall) started rfl (by kernel_rfl) Tryz.func6
    (witness_row_at (enc := enc) (C := Tryz.checked) false (laidWorld os #[.string ByteArray.empty, .string ByteArray.empty]) #[.string ByteArray.empty, .string ByteArray.empty] rfl (by kernel_rfl) (by kernel_rfl) (by kernel_rfl)
      (OpenSpec.preRow_of_cond 8 (deskHead_reads os enc) (by kernel_rfl) (fun k hk => by cases hk; kernel_rfl) (by kernel_rfl) (deskHead_met os))) (by kernel_rfl) rfl Tryz.underlying4 rfl ?_ ?_
  · intro ds h
    rw [Tryz.params6] at h
    match ds, h with
    | [d0, d1], _ => rfl
  · intro W args ds ps hA hlt hval hsz hk ht
    rw [Tryz.params6] at hA hval hsz
    obtain ⟨v0, vs0, d0, ds0, p0, q0, hargs, rfl, rfl, H0, T0⟩ := trodAll_cons hA
    obtain ⟨v1, vs1, d1, ds1, p1, q1, rfl, rfl, rfl, H1, T1⟩ := trodAll_cons T0
    obtain ⟨rfl, rfl, rfl⟩ := trodAll_nil T1
    obtain rfl : args = #[v0, v1] := by cases args; simp_all
    obtain ⟨b0, hv0⟩ := hval 0 9 v0 rfl rfl
    obtain ⟨b1, hv1⟩ := hval 1 9 v1 rfl rfl
    obtain ⟨s, rfl, hs⟩ := arg_string_upto hv0 H0
    obtain ⟨m, rfl, hm⟩ := arg_string_upto hv1 H1
    have hb := bulk_bound hk
    simp only [Rows.uptoBulkAll] at hb
    exact deskHead_walk s m W (by omega) ht
theorem deskHead_said : Rows.DeskHeadUptoSaid :=
  OpenClaim.holds_of_cond 6 Tryz.f6 rfl rfl rfl rfl rfl rfl rfl ⟨rfl, rfl, rfl, rfl, rfl⟩ rfl rfl rfl rfl rfl (by kernel_rfl) Tryz.func6 (by kernel_rfl)
    (of_decide_eq_true (by kernel_rfl)) (by unfold Func.isWrapper; first | (rw [if_pos (by decide +kernel)]; kernel_rfl) | (rw [if_neg (by decide +kernel)]; exact ⟨rfl, rfl⟩))
    (fun os started H enc _ F => by rw [OpenClaim.pre_eq_preRow]; exact deskHead_lifted os started H enc F)
theorem deskHead_plain (f : FuncId) (fn : Func) (hf : Tryz.pinned.checked.prog.funcNamed "lessonbook/coachkeep.DeskHead" = some f) (hfn : Tryz.pinned.checked.prog.funcs[f]? = some fn) :
    false = Tryz.pinned.checked.prog.looks [] ∧ ∀ (j : Nat) t, fn.params[j]? = some t → Tryz.pinned.checked.prog.wantsStandIn t = false := by
  obtain rfl : f = 6 := Option.some.inj ((show Tryz.prog.funcNamed "lessonbook/coachkeep.DeskHead" = some 6 by kernel_rfl).symm.trans hf) |>.symm
  obtain rfl : fn = Tryz.f6 := (Option.some.inj (Tryz.func6.symm.trans hfn)).symm
  refine ⟨by kernel_rfl, fun j t ht => ?_⟩
  have hall : (Tryz.f6.params.toList.all fun t => Tryz.prog.wantsStandIn t == false) = true := by kernel_rfl
  rw [List.all_eq_true] at hall
  exact eq_of_beq (hall t (Array.mem_toList_iff.2 (Array.mem_of_getElem? ht)))
theorem DeskHead_holds : Rows.DeskHeadUptoCardSaid :=
  Claim7.holds_tied_plain_at .later [] _ _ _ _ deskHead_said (fun _ h => by cases h) (by kernel_rfl) (fun _ h => by cases h) deskHeadUpto_row_tie rfl ⟨rfl, rfl⟩ (by kernel_rfl) rfl deskHead_plain (by kernel_rfl)

end Go.Proofs.YtaeeonnjkplohaaGreatDoor
