/- The law StoreBack holds of the given program for every input of bulk at most 1048576: its tied card. The condition is the second form's bound. -/
import Derived.Test.YtblkpibbcapdeaaDoorStoU
import Derived.Test.YtblkpibbcapdeaaDoorStoC
import Derived.Test.YtblkpibbcapdeaaDoorRecS
import Derived.Test.YtblkpibbcapdeaaDoorArgU
import Derived.Deep.DeepCutAuto
import Derived.Deep.CutBlock
namespace Go.Proofs.YtblkpibbcapdeaaDoor
open Go.ChangeShapes Go.WideShapes Go.ChangeAt Go.RowKit Go.Sort Pl

theorem recs_one {w : World} {g : Nat} {t : TypeId} {r : Rec} {A : Option Addr} {n k : Nat} (h : Blk w g t #[.int .i64 r.step, .slice A n k, .int .i64 r.rate, .int .u64 r.root, .int .u64 r.chain]) (hI : Ints .i64 w A n r.batch) (h1 : n ≤ k) (h2 : k ≤ maxLen) : RecsR w (some ⟨g, 0, none⟩) 1 [r] :=
  ⟨rfl, fun _ => ⟨g, 0, rfl, h.lt, fun j hj => by
    obtain rfl : j = 0 := by omega
    have hl := hI.len
    subst hl
    obtain ⟨⟨c0, c1, c2, c3, c4⟩, _⟩ := h.five
    exact ⟨A, k, ⟨c0, c1, c2, c3, c4⟩, hI, h1, h2⟩⟩⟩
def rec0 : Rec := ⟨3, [0, 5], 7, 1, 2⟩
theorem rec0_line : bytesOf (printT rec0) = ⟨#[51, 32, 55, 32, 49, 32, 50, 32, 48, 32, 53, 10]⟩ ∧ printE rec0 = 0 := by
  have hg : goodR rec0 = true := by decide
  refine ⟨?_, if_pos hg⟩
  unfold printT
  rw [if_pos hg]
  unfold lineT wordsR rec0
  simp only [List.map_cons, List.map_nil]
  rw [show (3 : Int).toNat = 3 from rfl, show (7 : Int).toNat = 7 from rfl, show (1 : Int).toNat = 1 from rfl, show (2 : Int).toNat = 2 from rfl, show (0 : Int).toNat = 0 from rfl, show (5 : Int).toNat = 5 from rfl]
  rw [Lib.decDigits_one (by omega), Lib.decDigits_one (by omega), Lib.decDigits_one (by omega), Lib.decDigits_one (by omega), Lib.decDigits_one (by omega), Lib.decDigits_one (by omega)]
  rfl

set_option maxRecDepth 100000 in
set_option maxHeartbeats 2000000 in
theorem storeBack_walk (r : Rec) (A : Option Addr) (n k : Nat) (s : ByteArray) (w : World) (hx : Ints .i64 w A n r.batch) (hnk : n ≤ k) (hk : k ≤ maxLen) (b0 : 0 ≤ r.root) (b1 : 0 ≤ r.chain) (hs : s.size ≤ 2000000) (ht : Tabs w) :
    Calls Tryd.prog 4 #[.agg #[.int .i64 r.step, .slice A n k, .int .i64 r.rate, .int .u64 r.root, .int .u64 r.chain], .string s] w fun e w' => e = .returned (.bool true) ∧ Below w.heap.size w w' := by
  have hn : n ≤ 9223372036854775807 := by unfold maxLen at hk; omega
  have b2 : Below w.heap.size w ((w.alloc (.cells #[.int .i64 r.step, .slice A n k, .int .i64 r.rate, .int .u64 r.root, .int .u64 r.chain] 25)).alloc (.cells #[.int .i64 0, .int .i64 5] 3)) := (by repeat (first | exact Below.refl _ _ | assumption | refine bel_drewN ?_ _ | refine Below.drew ?_ | (refine Below.alloc ?_ (by simp <;> omega) _) | (refine Below.setCell ?_ (by simp <;> omega) _)))
  have HB := (Blk.made w 25 #[.int .i64 r.step, .slice A n k, .int .i64 r.rate, .int .u64 r.root, .int .u64 r.chain]).alloc (.cells #[.int .i64 0, .int .i64 5] 3)
  have hI0 : Ints .i64 ((w.alloc (.cells #[.int .i64 r.step, .slice A n k, .int .i64 r.rate, .int .u64 r.root, .int .u64 r.chain] 25)).alloc (.cells #[.int .i64 0, .int .i64 5] 3)) (some ⟨w.heap.size + 1, 0, none⟩) 2 rec0.batch := Ints.made _ [0, 5] 2 rfl _ rfl (by simp) _
  have HP0 := sto_Print rec0 (some ⟨w.heap.size + 1, 0, none⟩) 2 2 _ hI0 (by omega) (by decide) (by decide) (ht.below b2)
  rw [rec0_line.1, rec0_line.2] at HP0
  have HP0 := Lib.hid HP0
  have HPR := Lib.hid (fun W (h : Below w.heap.size w W) => sto_Print r A n k W (hx.below h) hn b0 b1 (ht.below h))
  have HHX := Lib.hid (fun W (h : Below w.heap.size w W) => hx.below h)
  have HHT := Lib.hid (fun W (h : Below w.heap.size w W) => ht.below h)
  clear hI0 hx ht
  go_enter Tryd.func4, Tryd.ntmps4
  go_wp2_with fail
  refine HP0.out.mono ?_
  rintro e w1 ⟨rfl, hb1⟩
  have hw1 := b2.trans (hb1.mono b2.size)
  replace HB := HB.below hb1 HB.lt
  clear hb1 b2 HP0
  obtain ⟨⟨c0, c1, c2, c3, c4⟩, _⟩ := HB.five
  go_wp2_with fail
  refine (HPR.out _ hw1).mono ?_
  rintro e w2 ⟨rfl, hb2⟩
  have hw2 := hw1.trans (hb2.mono hw1.size)
  replace HB := HB.below hb2 HB.lt
  clear c0 c1 c2 c3 c4 hb2 HPR hw1
  obtain ⟨⟨c0, c1, c2, c3, c4⟩, _⟩ := HB.five
  go_upto_if 34 with fail
  go_cut [7, 8, 9, 10, 11] (fun _ _ _ _ _ wx => Below w.heap.size w wx)
  case first =>
    cases hg : goodR r
    · rw [show printE r = 5 from by unfold printE; rw [hg]; rfl]
      clear hg
      go_wp2
      go_meet
      case rel => exact hw2
    · rw [show printT r = lineT r from if_pos hg, show printE r = 0 from if_pos hg]
      have hll := line_len hg
      have hl1 : (lineT r).length ≤ 241 := by unfold lineT; rw [List.length_append]; show _ + 1 ≤ _; omega
      have hdd : (bytesOf (lineT r) ++ s).data.toList = lineT r ++ s.data.toList := by
        rw [ByteArray.data_append, Array.toList_append, bytesOf_data]
      have hPP := sto_Parse (bytesOf (lineT r) ++ s) w2 (by rw [ByteArray.size_append]; show (lineT r).length + _ ≤ _; omega) (HHT.out _ hw2)
      unfold ParsePost at hPP
      rw [hdd] at hPP
      have hpr : parseR (lineT r ++ s.data.toList) = (r, (lineT r).length, 0) := by
        unfold parseR
        rw [parse_line hg]
      rw [hpr] at hPP
      have HPP := Lib.hid hPP
      have hbl : (bytesOf (lineT r)).size = (lineT r).length := rfl
      have HBL := Lib.hid (show r.batch.length ≤ 8 from (goodR_iff.1 hg).2.2.2.2.1)
      obtain ⟨L, hL⟩ : ∃ L, L = (lineT r).length := ⟨_, rfl⟩
      obtain ⟨T, hT⟩ : ∃ T, T = bytesOf (lineT r) := ⟨_, rfl⟩
      rw [← hL, ← hT] at hbl
      rw [← hL] at hl1
      rw [← hL, ← hT] at HPP
      rw [← hT]
      clear hg hll hdd hPP hpr hL hT
      go_wp2_with fail
      refine HPP.out.mono ?_
      rintro e w3 ⟨A3, k3, rfl, o3, hb3⟩
      have hw3 := hw2.trans (hb3.mono hw2.size)
      replace HB := HB.below hb3 HB.lt
      have i3 := Ints.of_own o3 rfl
      have hk3 : r.batch.length ≤ k3 ∧ k3 ≤ maxLen := by
        obtain ⟨_, h | ⟨g1, cap1, cur, e, _, _, hle, hm, _⟩⟩ := o3
        · have e := h.1
          injection e with _ e2 e3
          exact ⟨by omega, by unfold maxLen; omega⟩
        · cases e
          exact ⟨hle, hm⟩
      have B1 := Blk.made w3 25 #[.int .i64 r.step, .slice A3 r.batch.length k3, .int .i64 r.rate, .int .u64 r.root, .int .u64 r.chain]
      have b4 : Below w3.heap.size w3 (((w3.alloc (.cells #[.int .i64 r.step, .slice A3 r.batch.length k3, .int .i64 r.rate, .int .u64 r.root, .int .u64 r.chain] 25)).alloc (.cells #[.int .i64 r.step, .slice A3 r.batch.length k3, .int .i64 r.rate, .int .u64 r.root, .int .u64 r.chain] 25)).alloc (.cells #[.int .i64 r.step, .slice A n k, .int .i64 r.rate, .int .u64 r.root, .int .u64 r.chain] 25)) := (by repeat (first | exact Below.refl _ _ | assumption | refine bel_drewN ?_ _ | refine Below.drew ?_ | (refine Below.alloc ?_ (by simp <;> omega) _) | (refine Below.setCell ?_ (by simp <;> omega) _)))
      have B2 := (Blk.made' (w3.alloc (.cells #[.int .i64 r.step, .slice A3 r.batch.length k3, .int .i64 r.rate, .int .u64 r.root, .int .u64 r.chain] 25)) 25 #[.int .i64 r.step, .slice A3 r.batch.length k3, .int .i64 r.rate, .int .u64 r.root, .int .u64 r.chain] (g := w3.heap.size + 1) (by simp)).alloc (.cells #[.int .i64 r.step, .slice A n k, .int .i64 r.rate, .int .u64 r.root, .int .u64 r.chain] 25)
      have B3 := Blk.made' ((w3.alloc (.cells #[.int .i64 r.step, .slice A3 r.batch.length k3, .int .i64 r.rate, .int .u64 r.root, .int .u64 r.chain] 25)).alloc (.cells #[.int .i64 r.step, .slice A3 r.batch.length k3, .int .i64 r.rate, .int .u64 r.root, .int .u64 r.chain] 25)) 25 #[.int .i64 r.step, .slice A n k, .int .i64 r.rate, .int .u64 r.root, .int .u64 r.chain] (g := w3.heap.size + 1 + 1) (by simp)
      have R1 := recs_one B2 (i3.below b4) hk3.1 hk3.2
      have R2 := recs_one B3 (HHX.out _ (hw3.trans (b4.mono hw3.size))) hnk hk
      have HSR := ref_SameRecords (some ⟨w3.heap.size + 1, 0, none⟩) (some ⟨w3.heap.size + 1 + 1, 0, none⟩) 1 1 1 1 [r] [r] _ R1 R2 (by omega) (fun j hj => .inl (by obtain rfl : j = 0 := (by omega); exact Nat.le_trans HBL.out (by omega)))
      rw [sameB_self] at HSR
      have HSH := Lib.hid HSR
      have HCB := Lib.hid (fun W (h : Below w3.heap.size w3 W) => show Blk W w.heap.size 25 #[.int .i64 r.step, .slice A n k, .int .i64 r.rate, .int .u64 r.root, .int .u64 r.chain] from HB.below h HB.lt)
      obtain ⟨⟨c0, c1, c2, c3, c4⟩, _⟩ := HB.five
      have hbs := HB.lt
      clear R1 R2 B1 B2 B3 HSR o3 i3 hb3
      go_wp2_with fail
      refine HSH.out.mono ?_
      rintro e w5 ⟨rfl, hb5⟩
      go_wp2
      go_meet
      case rel => exact hw3.trans ((b4.trans (hb5.mono b4.size)).mono hw3.size)
  case rest =>
    obtain ⟨y, hy⟩ : ∃ y : World, y = wc := ⟨_, rfl⟩
    rw [← hy] at hcut ⊢
    clear hy c0 c1 c2 c3 c4 HB hw2 HHX
    have hPP := sto_Parse s y (by omega) (HHT.out _ hcut)
    unfold ParsePost at hPP
    cases hp : parse s.data.toList with
    | none =>
      rw [show parseR s.data.toList = (Rec.none_, 0, 5) from by unfold parseR; rw [hp]] at hPP
      have HPP := Lib.hid hPP
      clear hPP hp
      go_wp2_with fail
      refine HPP.out.mono ?_
      rintro e w3 ⟨A3, k3, rfl, o3, hb3⟩
      have hw3 := hcut.trans (hb3.mono hcut.size)
      have b4 : Below w3.heap.size w3 (w3.alloc (.cells #[.int .i64 Rec.none_.step, .slice A3 Rec.none_.batch.length k3, .int .i64 Rec.none_.rate, .int .u64 Rec.none_.root, .int .u64 Rec.none_.chain] 25)) := (by repeat (first | exact Below.refl _ _ | assumption | refine bel_drewN ?_ _ | refine Below.drew ?_ | (refine Below.alloc ?_ (by simp <;> omega) _) | (refine Below.setCell ?_ (by simp <;> omega) _)))
      go_wp2
      go_ret
      exact ⟨rfl, hw3.trans (b4.mono hw3.size)⟩
    | some p =>
      obtain ⟨x, m⟩ := p
      rw [show parseR s.data.toList = (x, m, 0) from by unfold parseR; rw [hp]] at hPP
      have HPP := Lib.hid hPP
      obtain ⟨hgx, hms, hlx, hm1⟩ := parse_some hp
      have hsz : s.data.toList.length = s.size := by rw [Array.length_toList]; rfl
      have hG := goodR_iff.1 hgx
      have HL := Lib.hid (show bytesOf (lineT x) = s.extract 0 m from by rw [hlx, Lib.extract_eq]; simp [bytesOf])
      have hms2 : m ≤ s.size := by omega
      have HPR2 := Lib.hid (fun A' k' W (h : Ints .i64 W A' x.batch.length x.batch) (h2 : Tabs W) => show Calls Tryd.prog 9 #[.agg #[.int .i64 x.step, .slice A' x.batch.length k', .int .i64 x.rate, .int .u64 x.root, .int .u64 x.chain]] W fun e w' => e = .returned (.tuple #[.string (s.extract 0 m), .int .i64 0]) ∧ Below W.heap.size W w' from by
        have h3 := sto_Print x A' x.batch.length k' W h (by omega) hG.2.2.1.1 hG.2.2.2.1.1 h2
        rw [show printT x = lineT x from if_pos hgx, show printE x = 0 from if_pos hgx, HL.out] at h3
        exact h3)
      clear hPP hp hgx hlx HL hG hsz hms
      go_wp2_with fail
      refine HPP.out.mono ?_
      rintro e w3 ⟨A3, k3, rfl, o3, hb3⟩
      have hw3 := hcut.trans (hb3.mono hcut.size)
      have b4 : Below w3.heap.size w3 (w3.alloc (.cells #[.int .i64 x.step, .slice A3 x.batch.length k3, .int .i64 x.rate, .int .u64 x.root, .int .u64 x.chain] 25)) := (by repeat (first | exact Below.refl _ _ | assumption | refine bel_drewN ?_ _ | refine Below.drew ?_ | (refine Below.alloc ?_ (by simp <;> omega) _) | (refine Below.setCell ?_ (by simp <;> omega) _)))
      have hw4 := hw3.trans (b4.mono hw3.size)
      have HP2 := Lib.hid (HPR2.out A3 k3 _ ((Ints.of_own o3 rfl).below b4) (HHT.out _ hw4))
      have z1 : (0 : Int) ≤ (m : Int) := by omega
      have z2 : (m : Int) ≤ (s.size : Int) := by omega
      clear o3 hb3 HPR2 HPP hms2 hm1
      go_wp2_with fail
      refine HP2.out.mono ?_
      rintro e w5 ⟨rfl, hb5⟩
      go_wp2
      go_ret
      exact ⟨by simp, hw4.trans (hb5.mono hw4.size)⟩
theorem storeBack_met (os : Os) : laidMet Tryd.prog Rows.storeBackUptoRow.laid ((laidWorld os #[.agg #[.int .i64 0, .slice none 0 0, .int .i64 0, .int .u64 0, .int .u64 0], .string ByteArray.empty]).forCall (fun _ _ => 0) ⟨#[], #[.agg #[.int .i64 0, .slice none 0 0, .int .i64 0, .int .u64 0, .int .u64 0], .string ByteArray.empty], []⟩).memory :=
  laidMet_of_run' 8 (by kernel_rfl) (by kernel_rfl)
theorem storeBack_reads (os : Os) {H : Type} (enc : TypeId × Value → H) : DataW.whole enc Tryd.prog ((laidWorld os #[.agg #[.int .i64 0, .slice none 0 0, .int .i64 0, .int .u64 0, .int .u64 0], .string ByteArray.empty]).forCall (fun _ _ => 0) ⟨#[], #[.agg #[.int .i64 0, .slice none 0 0, .int .i64 0, .int .u64 0, .int .u64 0], .string ByteArray.empty], []⟩).memory Tryd.f4.params.toList Rows.storeBackSpec.vars false (#[.agg #[.int .i64 0, .slice none 0 0, .int .i64 0, .int .u64 0, .int .u64 0], .string ByteArray.empty] : Array Value).toList 8 = some ([.agg [.lit (.int .i64 0), .nil, .lit (.int .i64 0), .lit (.int .u64 0), .lit (.int .u64 0)], .lit (.string [])], [], []) := by kernel_rfl
set_option maxRecDepth 100000 in
theorem storeBack_lifted (os : Os) (started : os.Started) (H : Type) (enc : TypeId × Value → H) (F : Stop.Interp) :
    ReturnsInHanded {} Tryd.checked os 4 .any ((Rows.OpenSpec.upto Rows.storeBackSpec).preRow enc Tryd.prog Tryd.f4 Rows.storeBackUptoRow.domain false Rows.storeBackUptoRow.laid) (((Rows.OpenSpec.upto Rows.storeBackSpec).at F).post enc Tryd.prog Tryd.f4 false true false false) := by
  refine lift_card (fn := Tryd.f4) (s := Rows.OpenSpec.upto Rows.storeBackSpec) (k := Rows.uptoSmall) started rfl (by kernel_rfl) Tryd.func4
    (witness_row_at (enc := enc) (C := Tryd.checked) false (laidWorld os #[.agg #[.int .i64 0, .slice none 0 0, .int .i64 0, .int .u64 0, .int .u64 0], .string ByteArray.empty]) #[.agg #[.int .i64 0, .slice none 0 0, .int .i64 0, .int .u64 0, .int .u64 0], .string ByteArray.empty] rfl (by kernel_rfl) (by kernel_rfl) (by kernel_rfl)
      (OpenSpec.preRow_of_cond 8 (storeBack_reads os enc) (by kernel_rfl) (fun k hk => by cases hk; kernel_rfl) (by kernel_rfl) (storeBack_met os))) (by kernel_rfl) rfl Tryd.underlying4 rfl ?_ ?_
  · intro ds h
    rw [Tryd.params4] at h
    match ds, h with
    | [d0, d1], _ => rfl
  · intro W args ds ps hA hlt hval hsz hk ht
    rw [Tryd.params4] at hA hval hsz
    obtain ⟨v0, vs0, d0, ds0, p0, q0, hargs, rfl, rfl, H0, T0⟩ := trodAll_cons hA
    obtain ⟨v1, vs1, d1, ds1, p1, q1, rfl, rfl, rfl, H1, T1⟩ := trodAll_cons T0
    obtain ⟨rfl, rfl, rfl⟩ := trodAll_nil T1
    obtain rfl : args = #[v0, v1] := by cases args; simp_all
    obtain ⟨b0, hv0⟩ := hval 0 25 v0 rfl rfl
    obtain ⟨b1, hv1⟩ := hval 1 9 v1 rfl rfl
    obtain ⟨y, A, k, rfl, hI, h1, h2, h3, _, _, w3, w4, _⟩ := arg_rec_upto (fun _ => rfl) hv0 H0
    obtain ⟨s, rfl, hs⟩ := arg_string_upto hv1 H1
    have hb := bulk_bound hk
    simp only [Rows.uptoBulkAll] at hb
    exact storeBack_walk y A y.batch.length k s W hI h1 h2 (wf_u64 w3).1 (wf_u64 w4).1 (by omega) ht
theorem storeBack_said : Rows.StoreBackUptoSaid :=
  OpenClaim.holds_of_cond 4 Tryd.f4 rfl rfl rfl rfl rfl rfl rfl ⟨rfl, rfl, rfl, rfl, rfl⟩ rfl rfl rfl rfl rfl (by kernel_rfl) Tryd.func4 (by kernel_rfl)
    (of_decide_eq_true (by kernel_rfl)) (by unfold Func.isWrapper; first | (rw [if_pos (by decide +kernel)]; kernel_rfl) | (rw [if_neg (by decide +kernel)]; exact ⟨rfl, rfl⟩))
    (fun os started H enc _ F => by rw [OpenClaim.pre_eq_preRow]; exact storeBack_lifted os started H enc F)
theorem storeBack_plain (f : FuncId) (fn : Func) (hf : Tryd.pinned.checked.prog.funcNamed "lessonbook/coachkeep.StoreBack" = some f) (hfn : Tryd.pinned.checked.prog.funcs[f]? = some fn) :
    false = Tryd.pinned.checked.prog.looks [] ∧ ∀ (j : Nat) t, fn.params[j]? = some t → Tryd.pinned.checked.prog.wantsStandIn t = false := by
  obtain rfl : f = 4 := Option.some.inj ((show Tryd.prog.funcNamed "lessonbook/coachkeep.StoreBack" = some 4 by kernel_rfl).symm.trans hf) |>.symm
  obtain rfl : fn = Tryd.f4 := (Option.some.inj (Tryd.func4.symm.trans hfn)).symm
  refine ⟨by kernel_rfl, fun j t ht => ?_⟩
  have hall : (Tryd.f4.params.toList.all fun t => Tryd.prog.wantsStandIn t == false) = true := by kernel_rfl
  rw [List.all_eq_true] at hall
  exact eq_of_beq (hall t (Array.mem_toList_iff.2 (Array.mem_of_getElem? ht)))
theorem StoreBack_holds : Rows.StoreBackUptoCardSaid :=
  Claim7.holds_tied_plain_at .later [] _ _ _ _ storeBack_said (fun _ h => by cases h) (by kernel_rfl) (fun _ h => by cases h) storeBackUpto_row_tie rfl ⟨rfl, rfl⟩ (by kernel_rfl) rfl storeBack_plain (by kernel_rfl)

end Go.Proofs.YtblkpibbcapdeaaDoor
