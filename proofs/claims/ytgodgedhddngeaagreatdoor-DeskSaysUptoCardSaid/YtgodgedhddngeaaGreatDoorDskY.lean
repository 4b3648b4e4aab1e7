/- The law DeskSays holds of the given program for every input of bulk at most 1048576: its tied card. The condition is the second form's bound. -/
import Derived.Test.YtgodgedhddngeaaGreatDoorStoC
set_option maxRecDepth 100000
set_option maxHeartbeats 16000000
namespace Go.Proofs.YtgodgedhddngeaaGreatDoor
open Go.ChangeShapes Go.WideShapes Go.ChangeAt Go.RowKit Go.Sort Pl
theorem deskSays_walk (s : ByteArray) (w : World) (hs : s.size ≤ 2000000) (ht : Tabs w) :
  Calls Tryz.prog 3 #[.string s] w fun e w' => e = .returned (.bool true) ∧ Below w.heap.size w w' := by
 have hR := dsk_Run s w hs ht
 have hD := fun W (hb : Below w.heap.size w W) => ref_Desk s W hs (ht.below hb)
 obtain ⟨O, hO⟩ : ∃ O, O = bytesOf (runD s.data.toList) := ⟨_, rfl⟩
 simp only [← hO] at hR hD
 have HR := Lib.hid hR
 have HD := Lib.hid hD
 clear hR hD hO ht
 go_enter Tryz.func3, Tryz.ntmps3
 go_wp2_with fail
 refine HR.out.mono ?_
 rintro e w1 ⟨rfl, hb1⟩
 go_wp2_with fail
 refine (HD.out _ hb1).mono ?_
 rintro e w2 ⟨rfl, hb2⟩
 have hw2 := bel_trans hb1 hb2
 go_wp2
 go_ret
 exact ⟨by simp, hw2⟩
theorem deskSays_met (os : Os) : laidMet Tryz.prog Rows.deskSaysUptoRow.laid ((laidWorld os #[.string ByteArray.empty]).forCall (fun _ _ => 0) ⟨#[], #[.string ByteArray.empty], []⟩).memory :=
 laidMet_of_run' 8 (by kernel_rfl) (by kernel_rfl)
theorem deskSays_reads (os : Os) {H : Type} (enc : TypeId × Value → H) : DataW.whole enc Tryz.prog ((laidWorld os #[.string ByteArray.empty]).forCall (fun _ _ => 0) ⟨#[], #[.string ByteArray.empty], []⟩).memory Tryz.f3.params.toList Rows.deskSaysSpec.vars false (#[.string ByteArray.empty] : Array Value).toList 8 = some ([.lit (.string [])], [], []) := by kernel_rfl
theorem deskSays_lifted (os : Os) (started : os.Started) (H : Type) (enc : TypeId × Value → H) (F : Stop.Interp) :
  ReturnsInHanded {} Tryz.checked os 3 .any ((Rows.OpenSpec.upto Rows.deskSaysSpec).preRow enc Tryz.prog Tryz.f3 Rows.deskSaysUptoRow.domain false Rows.deskSaysUptoRow.laid) (((Rows.OpenSpec.upto Rows.deskSaysSpec).at F).post enc Tryz.prog Tryz.f3 false true false false) := by
 refine lift_card (fn := Tryz.f3) (s := Rows.OpenSpec.upto Rows.deskSaysSpec) (k := Rows.uptoSmall) started rfl (by kernel_rfl) Tryz.func3
  (witness_row_at (enc := enc) (C := Tryz.checked) false (laidWorld os #[.string ByteArray.empty]) #[.string ByteArray.empty] rfl (by kernel_rfl) (by kernel_rfl) (by kernel_rfl)
   (OpenSpec.preRow_of_cond 8 (deskSays_reads os enc) (by kernel_rfl) (fun k hk => by cases hk; kernel_rfl) (by kernel_rfl) (deskSays_met os))) (by kernel_rfl) rfl Tryz.underlying4 rfl ?_ ?_
 ·intro ds h
  rw [Tryz.params3] at h
  match ds, h with
  | [d0], _ => rfl
 ·intro W args ds ps hA hlt hval hsz hk ht
  rw [Tryz.params3] at hA hval hsz
  obtain ⟨v0, vs0, d0, ds0, p0, q0, hargs, rfl, rfl, H0, T0⟩ := trodAll_cons hA
  obtain ⟨rfl, rfl, rfl⟩ := trodAll_nil T0
  obtain rfl : args = #[v0] := by cases args; simp_all
  obtain ⟨b0, hv0⟩ := hval 0 9 v0 rfl rfl
  obtain ⟨s, rfl, hs⟩ := arg_string_upto hv0 H0
  have hb := bulk_bound hk
  simp only [Rows.uptoBulkAll] at hb
  exact deskSays_walk s W (by omega) ht
theorem deskSays_said : Rows.DeskSaysUptoSaid :=
 OpenClaim.holds_of_cond 3 Tryz.f3 rfl rfl rfl rfl rfl rfl rfl ⟨rfl, rfl, rfl, rfl, rfl⟩ rfl rfl rfl rfl rfl (by kernel_rfl) Tryz.func3 (by kernel_rfl)
  (of_decide_eq_true (by kernel_rfl)) (by unfold Func.isWrapper; first | (rw [if_pos (by decide +kernel)]; kernel_rfl) | (rw [if_neg (by decide +kernel)]; exact ⟨rfl, rfl⟩))
  (fun os started H enc _ F => by rw [OpenClaim.pre_eq_preRow]; exact deskSays_lifted os started H enc F)
theorem deskSays_plain (f : FuncId) (fn : Func) (hf : Tryz.pinned.checked.prog.funcNamed "lessonbook/coachlaw.DeskSays" = some f) (hfn : Tryz.pinned.checked.prog.funcs[f]? = some fn) :
  false = Tryz.pinned.checked.prog.looks [] ∧ ∀ (j : Nat) t, fn.params[j]? = some t → Tryz.pinned.checked.prog.wantsStandIn t = false := by
 obtain rfl : f = 3 := Option.some.inj ((show Tryz.prog.funcNamed "lessonbook/coachlaw.DeskSays" = some 3 by kernel_rfl).symm.trans hf) |>.symm
 obtain rfl : fn = Tryz.f3 := (Option.some.inj (Tryz.func3.symm.trans hfn)).symm
 refine ⟨by kernel_rfl, fun j t ht => ?_⟩
 have hall : (Tryz.f3.params.toList.all fun t => Tryz.prog.wantsStandIn t == false) = true := by kernel_rfl
 rw [List.all_eq_true] at hall
 exact eq_of_beq (hall t (Array.mem_toList_iff.2 (Array.mem_of_getElem? ht)))
theorem DeskSays_holds : Rows.DeskSaysUptoCardSaid :=
 Claim7.holds_tied_plain_at .later [] _ _ _ _ deskSays_said (fun _ h => by cases h) (by kernel_rfl) (fun _ h => by cases h) deskSaysUpto_row_tie rfl ⟨rfl, rfl⟩ (by kernel_rfl) rfl deskSays_plain (by kernel_rfl)
end Go.Proofs.YtgodgedhddngeaaGreatDoor
