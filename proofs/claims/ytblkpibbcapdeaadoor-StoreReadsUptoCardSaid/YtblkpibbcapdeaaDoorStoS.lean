/- The law StoreReads holds of the given program for every input of bulk at most 1048576: its tied card. The condition is the second form's bound. -/
import Derived.Test.YtblkpibbcapdeaaDoorStoV
import Derived.Test.YtblkpibbcapdeaaDoorStoC
import Derived.Test.YtblkpibbcapdeaaDoorRecS
import Derived.Test.YtblkpibbcapdeaaDoorArgU
import Derived.Deep.DeepCutAuto
import Derived.Deep.CutBlock
namespace Go.Proofs.YtblkpibbcapdeaaDoor
open Go.ChangeShapes Go.WideShapes Go.ChangeAt Go.RowKit Go.Sort Pl

set_option maxRecDepth 100000 in
set_option maxHeartbeats 2000000 in
theorem storeReads_walk (r : Rec) (A : Option Addr) (n k : Nat) (s : ByteArray) (w : World) (hx : Ints .i64 w A n r.batch) (hn : n ≤ 9223372036854775806) (b0 : 0 ≤ r.root) (b1 : 0 ≤ r.chain) (hs : s.size ≤ 4294967280) (ht : Tabs w) :
    Calls Tryd.prog 3 #[.agg #[.int .i64 r.step, .slice A n k, .int .i64 r.rate, .int .u64 r.root, .int .u64 r.chain], .string s] w fun e w' => e = .returned (.bool true) ∧ Below w.heap.size w w' := by
  have bw : Below w.heap.size w (w.alloc (.cells #[.int .i64 r.step, .slice A n k, .int .i64 r.rate, .int .u64 r.root, .int .u64 r.chain] 25)) := (by repeat (first | exact Below.refl _ _ | assumption | refine bel_drewN ?_ _ | refine Below.drew ?_ | (refine Below.alloc ?_ (by simp <;> omega) _) | (refine Below.setCell ?_ (by simp <;> omega) _)))
  have HB := Blk.made w 25 #[.int .i64 r.step, .slice A n k, .int .i64 r.rate, .int .u64 r.root, .int .u64 r.chain]
  have HLI := Lib.hid (fun W (h : Below w.heap.size w W) => ref_Line r A n k W (hx.below h) hn b0 b1)
  have HPR := Lib.hid (fun W (h : Below w.heap.size w W) => sto_Print r A n k W (hx.below h) hn b0 b1 (ht.below h))
  have HPA := Lib.hid (fun W (h : Below w.heap.size w W) => sto_Parse s W hs (ht.below h))
  have HRL := Lib.hid (fun W (h : Below w.heap.size w W) => ref_ReadLine s W hs (ht.below h))
  have HLT := Lib.hid (fun (hg : goodR r = true) W (h : Below w.heap.size w W) => ref_LineText r A n k W (hx.below h) hg (ht.below h))
  have HLK := Lib.hid (fun W A1 A2 k1 k2 h1 h2 h3 => ref_Like (parseR s.data.toList).1 (parseR s.data.toList).1 A1 A2 (parseR s.data.toList).1.batch.length k1 (parseR s.data.toList).1.batch.length k2 W h1 h2 h3)
  have HBL := Lib.hid (show (parseR s.data.toList).1.batch.length ≤ 9223372036854775806 from by
    unfold parseR
    cases hp : parse s.data.toList with
    | none => exact Nat.zero_le _
    | some p =>
      obtain ⟨x, m⟩ := p
      have := (goodR_iff.1 (parse_some hp).1).2.2.2.2.1
      show x.batch.length ≤ _
      omega)
  unfold ParsePost at HPA HRL
  obtain ⟨P, hP⟩ : ∃ P, P = parseR s.data.toList := ⟨_, rfl⟩
  rw [← hP] at HPA HRL HLK HBL
  obtain ⟨x, N, E⟩ := P
  simp only at HPA HRL HLK HBL
  clear hP
  go_enter Tryd.func3, Tryd.ntmps3
  go_upto_if 16 with (go_at_call 7; refine (HLI.out _ bw).mono ?_; rintro e w1 ⟨rfl, hb1⟩)
  have hw1 := bw.trans (hb1.mono bw.size)
  replace HB := HB.below hb1 HB.lt
  clear hb1 bw HLI hx
  go_cut [5, 6] (fun v f wx => v = .string (bytesOf (printT r)) ∧ f = .int .i64 (printE r) ∧ Blk wx w.heap.size 25 #[.int .i64 r.step, .slice A n k, .int .i64 r.rate, .int .u64 r.root, .int .u64 r.chain] ∧ Below w.heap.size w wx)
  case first =>
    obtain ⟨⟨c0, c1, c2, c3, c4⟩, _⟩ := HB.five
    cases hg : goodR r
    · have F := Lib.hid (show printT r = [] ∧ printE r = 5 from ⟨by unfold printT; rw [hg]; rfl, by unfold printE; rw [hg]; rfl⟩)
      clear hg
      go_wp2
      go_meet
      case rel => exact ⟨by rw [F.out.1]; rfl, by rw [F.out.2], HB, hw1⟩
    · have F := Lib.hid (show printT r = lineT r ∧ printE r = 0 from ⟨if_pos hg, if_pos hg⟩)
      have HG := Lib.hid hg
      clear hg
      go_wp2_with fail
      refine (HLT.out HG.out _ hw1).mono ?_
      rintro e w2 ⟨rfl, hb2⟩
      have hw2 := hw1.trans (hb2.mono hw1.size)
      have HB2 := HB.below hb2 HB.lt
      go_wp2
      go_meet
      case rel => exact ⟨by rw [F.out.1], by rw [F.out.2], HB2, hw2⟩
  case rest =>
    obtain ⟨rfl, rfl, HB3, hwc⟩ := hcut
    obtain ⟨y, rfl⟩ : ∃ y : World, y = wc := ⟨_, rfl⟩
    obtain ⟨⟨c0, c1, c2, c3, c4⟩, _⟩ := HB3.five
    clear HLT HB HB3 hw1
    go_wp2_with fail
    refine (HPR.out _ hwc).mono ?_
    rintro e w3 ⟨rfl, hb3⟩
    have hw3 := hwc.trans (hb3.mono hwc.size)
    clear c0 c1 c2 c3 c4 hb3 hwc HPR
    go_wp2_with fail
    refine (HPA.out _ hw3).mono ?_
    rintro e w4 ⟨A1, k1, rfl, o1, hb4⟩
    have hw4 := hw3.trans (hb4.mono hw3.size)
    have i1 := Ints.of_own o1 rfl
    have B1 := Blk.made w4 25 #[.int .i64 x.step, .slice A1 x.batch.length k1, .int .i64 x.rate, .int .u64 x.root, .int .u64 x.chain]
    have b5 : Below w4.heap.size w4 (w4.alloc (.cells #[.int .i64 x.step, .slice A1 x.batch.length k1, .int .i64 x.rate, .int .u64 x.root, .int .u64 x.chain] 25)) := (by repeat (first | exact Below.refl _ _ | assumption | refine bel_drewN ?_ _ | refine Below.drew ?_ | (refine Below.alloc ?_ (by simp <;> omega) _) | (refine Below.setCell ?_ (by simp <;> omega) _)))
    have hw5 := hw4.trans (b5.mono hw4.size)
    have i1b := i1.below b5
    go_wp2_with fail
    refine (HRL.out _ hw5).mono ?_
    rintro e w6 ⟨A2, k2, rfl, o2, hb6⟩
    have hw6 := hw5.trans (hb6.mono hw5.size)
    have i2 := Ints.of_own o2 rfl
    have B2 := B1.below hb6 B1.lt
    have i1c := i1b.below hb6
    have b7 : Below w6.heap.size w6 (w6.alloc (.cells #[.int .i64 x.step, .slice A2 x.batch.length k2, .int .i64 x.rate, .int .u64 x.root, .int .u64 x.chain] 25)) := (by repeat (first | exact Below.refl _ _ | assumption | refine bel_drewN ?_ _ | refine Below.drew ?_ | (refine Below.alloc ?_ (by simp <;> omega) _) | (refine Below.setCell ?_ (by simp <;> omega) _)))
    have B3 := Blk.made w6 25 #[.int .i64 x.step, .slice A2 x.batch.length k2, .int .i64 x.rate, .int .u64 x.root, .int .u64 x.chain]
    have B4 := B2.alloc (.cells #[.int .i64 x.step, .slice A2 x.batch.length k2, .int .i64 x.rate, .int .u64 x.root, .int .u64 x.chain] 25)
    have hw7 := hw6.trans (b7.mono hw6.size)
    have hLL := Lib.hid (HLK.out _ A1 A2 k1 k2 (i1c.below b7) (i2.below b7) (.inl HBL.out))
    rw [likeR_self] at hLL
    obtain ⟨w7, hw7'⟩ : ∃ w7, w7 = w6.alloc (.cells #[.int .i64 x.step, .slice A2 x.batch.length k2, .int .i64 x.rate, .int .u64 x.root, .int .u64 x.chain] 25) := ⟨_, rfl⟩
    rw [← hw7'] at hLL B3 B4 hw7
    have HW7 := Lib.hid hw7'
    clear hw7' b7 i2 i1c o2 hw6 hb6 i1b hw5 b5 B1 B2 i1 o1 hw4 hb4 HRL HPA HLK hw3
    obtain ⟨⟨c0, c1, c2, c3, c4⟩, _⟩ := B3.five
    obtain ⟨⟨d0, d1, d2, d3, d4⟩, _⟩ := B4.five
    obtain ⟨tt, htt⟩ : ∃ t, t = bytesOf (printT r) := ⟨_, rfl⟩
    obtain ⟨ee, hee⟩ : ∃ e, e = printE r := ⟨_, rfl⟩
    rw [← htt, ← hee]
    clear htt hee
    go_upto_region 7 with fail
    rw [← HW7.out]
    go_wp2_with fail
    refine hLL.out.mono ?_
    rintro e w8 ⟨rfl, hb8⟩
    have e4 := (B3.below hb8 B3.lt).cell 4
    have g4 := (B4.below hb8 B4.lt).cell 4
    go_wp2
    go_ret
    exact ⟨by simp, hw7.trans (hb8.mono hw7.size)⟩

theorem storeReads_met (os : Os) : laidMet Tryd.prog Rows.storeReadsUptoRow.laid ((laidWorld os #[.agg #[.int .i64 0, .slice none 0 0, .int .i64 0, .int .u64 0, .int .u64 0], .string ByteArray.empty]).forCall (fun _ _ => 0) ⟨#[], #[.agg #[.int .i64 0, .slice none 0 0, .int .i64 0, .int .u64 0, .int .u64 0], .string ByteArray.empty], []⟩).memory :=
  laidMet_of_run' 8 (by kernel_rfl) (by kernel_rfl)
theorem storeReads_reads (os : Os) {H : Type} (enc : TypeId × Value → H) : DataW.whole enc Tryd.prog ((laidWorld os #[.agg #[.int .i64 0, .slice none 0 0, .int .i64 0, .int .u64 0, .int .u64 0], .string ByteArray.empty]).forCall (fun _ _ => 0) ⟨#[], #[.agg #[.int .i64 0, .slice none 0 0, .int .i64 0, .int .u64 0, .int .u64 0], .string ByteArray.empty], []⟩).memory Tryd.f3.params.toList Rows.storeReadsSpec.vars false (#[.agg #[.int .i64 0, .slice none 0 0, .int .i64 0, .int .u64 0, .int .u64 0], .string ByteArray.empty] : Array Value).toList 8 = some ([.agg [.lit (.int .i64 0), .nil, .lit (.int .i64 0), .lit (.int .u64 0), .lit (.int .u64 0)], .lit (.string [])], [], []) := by kernel_rfl
set_option maxRecDepth 100000 in
theorem storeReads_lifted (os : Os) (started : os.Started) (H : Type) (enc : TypeId × Value → H) (F : Stop.Interp) :
    ReturnsInHanded {} Tryd.checked os 3 .any ((Rows.OpenSpec.upto Rows.storeReadsSpec).preRow enc Tryd.prog Tryd.f3 Rows.storeReadsUptoRow.domain false Rows.storeReadsUptoRow.laid) (((Rows.OpenSpec.upto Rows.storeReadsSpec).at F).post enc Tryd.prog Tryd.f3 false true false false) := by
  refine lift_card (fn := Tryd.f3) (s := Rows.OpenSpec.upto Rows.storeReadsSpec) (k := Rows.uptoSmall) started rfl (by kernel_rfl) Tryd.func3
    (witness_row_at (enc := enc) (C := Tryd.checked) false (laidWorld os #[.agg #[.int .i64 0, .slice none 0 0, .int .i64 0, .int .u64 0, .int .u64 0], .string ByteArray.empty]) #[.agg #[.int .i64 0, .slice none 0 0, .int .i64 0, .int .u64 0, .int .u64 0], .string ByteArray.empty] rfl (by kernel_rfl) (by kernel_rfl) (by kernel_rfl)
      (OpenSpec.preRow_of_cond 8 (storeReads_reads os enc) (by kernel_rfl) (fun k hk => by cases hk; kernel_rfl) (by kernel_rfl) (storeReads_met os))) (by kernel_rfl) rfl Tryd.underlying4 rfl ?_ ?_
  · intro ds h
    rw [Tryd.params3] at h
    match ds, h with
    | [d0, d1], _ => rfl
  · intro W args ds ps hA hlt hval hsz hk ht
    rw [Tryd.params3] at hA hval hsz
    obtain ⟨v0, vs0, d0, ds0, p0, q0, hargs, rfl, rfl, H0, T0⟩ := trodAll_cons hA
    obtain ⟨v1, vs1, d1, ds1, p1, q1, rfl, rfl, rfl, H1, T1⟩ := trodAll_cons T0
    obtain ⟨rfl, rfl, rfl⟩ := trodAll_nil T1
    obtain rfl : args = #[v0, v1] := by cases args; simp_all
    obtain ⟨b0, hv0⟩ := hval 0 25 v0 rfl rfl
    obtain ⟨b1, hv1⟩ := hval 1 9 v1 rfl rfl
    obtain ⟨y, A, k, rfl, hI, h1, h2, h3, _, _, w3, w4, _⟩ := arg_rec_upto (fun _ => rfl) hv0 H0
    obtain ⟨s, rfl, hs⟩ := arg_string_upto hv1 H1
    have hb := bulk_bound hk
    simp only [Rows.uptoBulkAll] at hb
    exact storeReads_walk y A y.batch.length k s W hI (by omega) (wf_u64 w3).1 (wf_u64 w4).1 (by omega) ht
theorem storeReads_said : Rows.StoreReadsUptoSaid :=
  OpenClaim.holds_of_cond 3 Tryd.f3 rfl rfl rfl rfl rfl rfl rfl ⟨rfl, rfl, rfl, rfl, rfl⟩ rfl rfl rfl rfl rfl (by kernel_rfl) Tryd.func3 (by kernel_rfl)
    (of_decide_eq_true (by kernel_rfl)) (by unfold Func.isWrapper; first | (rw [if_pos (by decide +kernel)]; kernel_rfl) | (rw [if_neg (by decide +kernel)]; exact ⟨rfl, rfl⟩))
    (fun os started H enc _ F => by rw [OpenClaim.pre_eq_preRow]; exact storeReads_lifted os started H enc F)
theorem storeReads_plain (f : FuncId) (fn : Func) (hf : Tryd.pinned.checked.prog.funcNamed "lessonbook/coachlaw.StoreReads" = some f) (hfn : Tryd.pinned.checked.prog.funcs[f]? = some fn) :
    false = Tryd.pinned.checked.prog.looks [] ∧ ∀ (j : Nat) t, fn.params[j]? = some t → Tryd.pinned.checked.prog.wantsStandIn t = false := by
  obtain rfl : f = 3 := Option.some.inj ((show Tryd.prog.funcNamed "lessonbook/coachlaw.StoreReads" = some 3 by kernel_rfl).symm.trans hf) |>.symm
  obtain rfl : fn = Tryd.f3 := (Option.some.inj (Tryd.func3.symm.trans hfn)).symm
  refine ⟨by kernel_rfl, fun j t ht => ?_⟩
  have hall : (Tryd.f3.params.toList.all fun t => Tryd.prog.wantsStandIn t == false) = true := by kernel_rfl
  rw [List.all_eq_true] at hall
  exact eq_of_beq (hall t (Array.mem_toList_iff.2 (Array.mem_of_getElem? ht)))
theorem StoreReads_holds : Rows.StoreReadsUptoCardSaid :=
  Claim7.holds_tied_plain_at .later [] _ _ _ _ storeReads_said (fun _ h => by cases h) (by kernel_rfl) (fun _ h => by cases h) storeReadsUpto_row_tie rfl ⟨rfl, rfl⟩ (by kernel_rfl) rfl storeReads_plain (by kernel_rfl)

end Go.Proofs.YtblkpibbcapdeaaDoor
