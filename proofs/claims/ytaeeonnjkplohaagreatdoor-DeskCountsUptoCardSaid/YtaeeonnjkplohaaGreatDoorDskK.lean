/- The law DeskCounts holds of the given program for every input of bulk at most 1048576: its tied card. The condition is the second form's bound. -/
import Derived.Test.YtaeeonnjkplohaaGreatDoorDskR
import Derived.Test.YtaeeonnjkplohaaGreatDoorDskQ
import Derived.Test.YtaeeonnjkplohaaGreatDoorArgU
import Derived.Test.YtaeeonnjkplohaaGreatDoorStoC
import Derived.Deep.DeepCutAuto
import Derived.Deep.CutBlock
namespace Go.Proofs.YtaeeonnjkplohaaGreatDoor
open Go.ChangeShapes Go.WideShapes Go.ChangeAt Go.RowKit Go.Sort Pl

theorem lines_size (s : List UInt8) (j : Nat) : ((linesL s).getD j []).length ≤ s.length := by
  rw [List.getD_eq_getElem?_getD]
  rcases Nat.lt_or_ge j (linesL s).length with h | h
  · rw [List.getElem?_eq_getElem h]
    refine pieces_size 10 s _ ?_
    have := List.getElem_mem h
    rw [Option.getD_some]
    generalize (linesL s)[j] = x at this
    unfold linesL at this
    split at this
    · exact (List.dropLast_subset _) this
    · exact this
  · rw [List.getElem?_eq_none h]; exact Nat.zero_le _
set_option maxRecDepth 100000 in
set_option maxHeartbeats 16000000 in
theorem deskCounts_walk (s : ByteArray) (w : World) (hs : s.size ≤ 2000000) (ht : Tabs w) :
    Calls Tryz.prog 5 #[.string s] w fun e w' => e = .returned (.bool true) ∧ Below w.heap.size w w' := by
  have hsz : s.data.toList.length = s.size := by rw [Array.length_toList]; rfl
  have hR0 := dsk_Run ⟨#[35, 10, 10, 115, 116, 101, 112]⟩ w (by decide) ht
  rw [show (⟨#[35, 10, 10, 115, 116, 101, 112]⟩ : ByteArray).data.toList = [35, 10, 10, 115, 116, 101, 112] from rfl, runD_one, show bytesOf [101, 114, 114, 111, 114, 32, 49, 10] = ⟨#[101, 114, 114, 111, 114, 32, 49, 10]⟩ from rfl] at hR0
  have hR := fun W (hb : Below w.heap.size w W) => dsk_Run s W hs (ht.below hb)
  have hTL := fun W => ref_TextLines s W (by omega)
  unfold LinesPost at hTL
  obtain ⟨l, hl⟩ : ∃ l, l = s.data.toList := ⟨_, rfl⟩
  rw [← hl] at hsz
  simp only [← hl] at hR hTL
  have hbig : (65536 < s.size ∨ 200 < (linesL l).length) → runD l = tooT := fun h => runD_big (by rw [hsz]; exact h)
  have hsml : ¬ (65536 < s.size ∨ 200 < (linesL l).length) → runD l = (runK (linesL l) (linesL l).length).1 := fun h => runD_small (by rw [hsz]; exact h)
  have HLZ := Lib.hid (fun j => show ((linesL l).getD j []).length ≤ s.size from by rw [← hsz]; exact lines_size l j)
  obtain ⟨o, ho⟩ : ∃ o, o = runD l := ⟨_, rfl⟩
  rw [← ho] at hbig hsml hR
  obtain ⟨ls, hls⟩ : ∃ ls, ls = linesL l := ⟨_, rfl⟩
  rw [← hls] at hbig hsml hTL HLZ
  obtain ⟨M, hM⟩ : ∃ M, M = ls.length := ⟨_, rfl⟩
  rw [← hM] at hbig hsml hTL
  have HM := Lib.hid hM
  obtain ⟨O, hO⟩ : ∃ O, O = bytesOf o := ⟨_, rfl⟩
  rw [← hO] at hR
  have HO := Lib.hid hO
  have HR0 := Lib.hid hR0
  have HR := Lib.hid hR
  have HTL := Lib.hid hTL
  have HBG := Lib.hid hbig
  have HSM := Lib.hid hsml
  clear hR0 hR hTL hbig hsml hl ho hls hM hO hsz ht
  go_enter Tryz.func5, Tryz.ntmps5
  go_wp2_with fail
  refine HR0.out.mono ?_
  rintro e w1 ⟨rfl, hb1⟩
  go_wp2_with fail
  refine (HR.out _ hb1).mono ?_
  rintro e w2 ⟨rfl, hb2⟩
  have hw2 := hb1.trans (hb2.mono hb1.size)
  clear HR0 HR hb1 hb2
  by_cases h6 : 65536 < s.size
  · have h6' : (65536 : Int) < (s.size : Int) := by omega
    have hOt : O.toList = [101, 114, 114, 111, 114, 32, 50, 10] := by rw [HO.out, HBG.out (.inl h6), Lib.toList_data, bytesOf_data]; rfl
    clear HTL HBG HSM
    go_wp2
    go_ret
    exact ⟨rfl, hw2⟩
  · have h6' : ¬ (65536 : Int) < (s.size : Int) := by omega
    go_wp2_with fail
    refine (HTL.out _).mono ?_
    rintro e w3 ⟨A, c, rfl, hS, hc, hb3⟩
    have hw3 := hw2.trans (hb3.mono hw2.size)
    clear hS hc hb3
    by_cases h7 : 200 < M
    · have h7' : (200 : Int) < (M : Int) := by omega
      have hOt : O.toList = [101, 114, 114, 111, 114, 32, 50, 10] := by rw [HO.out, HBG.out (.inr h7), Lib.toList_data, bytesOf_data]; rfl
      clear HTL HBG HSM
      go_wp2
      go_ret
      exact ⟨rfl, hw3⟩
    · have h7' : ¬ (200 : Int) < (M : Int) := by omega
      have hoR := HSM.out (by omega)
      have hcq := runK_count ls M (by rw [HM.out]; exact Nat.le_refl _)
      rw [← hoR] at hcq
      obtain ⟨hcn, hlast⟩ := hcq
      have hoL : o.length ≤ 301 * M := by rw [hoR]; exact (runK_ok ls M).2
      have HSC := Lib.hid (fun W => show Calls Tryz.prog 23 #[.string O, .string ⟨#[10]⟩] W fun e w' => e = .returned (.int .i64 (cntA ls M : Nat)) ∧ w' = W from by
        have h := Tryz.strings_Count_one O 10 W
        unfold Lib.countByte at h
        rw [HO.out, bytesOf_data, hcn] at h
        rw [HO.out]
        exact h)
      have hOd : O.data.toList = o := by rw [HO.out, bytesOf_data]
      have hMb : M ≤ 200 := by omega
      have hsb : s.size ≤ 65536 := by omega
      clear HBG HSM hoR hcn h6 h7
      go_wp2_with fail
      refine (HTL.out _).mono ?_
      rintro e w4 ⟨A4, c4, rfl, hS4, hc4, hb4⟩
      have hw4 := hw3.trans (hb4.mono hw3.size)
      have hM4 : M ≤ c4 := hc4
      clear HTL hb4
      go_wp2
      go_loopw [4, 6, 7, 26] (fun nv _ _ j W => ∃ p : Nat, p ≤ M ∧ nv = .int .i64 (cntA ls p : Nat) ∧ j = .int .i64 p ∧ Below w4.heap.size w4 W) (fun _ _ _ j _ => M - (intOf j).toNat)
      case atStart => exact ⟨0, Nat.zero_le _, rfl, rfl, Below.refl _ _⟩
      case round =>
        obtain ⟨p, hp, rfl, rfl, hb⟩ := hrel
        by_cases hlt : p < M
        · obtain ⟨g, off, rfl, hg, hcs⟩ := hS4.cells (by omega)
          have c1 : wr.cell? ⟨g, off + p, none⟩ = some (.string (bytesOf (ls.getD p []))) := (hb.cell (p := ⟨g, off + p, none⟩) hg).trans (hcs p hlt)
          have hLW := ref_LineWords (bytesOf (ls.getD p [])) wr (by rw [bytesOf_size]; have := HLZ.out p; omega)
          rw [bytesOf_data] at hLW
          have hlp : ls[p]? = some (ls.getD p []) := by
            rw [List.getD_eq_getElem?_getD, List.getElem?_eq_getElem (by rw [← HM.out]; exact hlt)]
            rfl
          have hca := cntA_succ hlp
          obtain ⟨ln, hln⟩ : ∃ ln, ln = ls.getD p [] := ⟨_, rfl⟩
          rw [← hln] at hLW hca c1
          have HCA := Lib.hid hca
          have HLW := Lib.hid hLW
          have hcl := cntA_le ls p
          have HWN := Lib.hid (fun w (h : w ∈ wordsL ln) => wordsL_ne h)
          have HWB := Lib.hid (show (wordsL ln).length ≤ 100000 from by
            have h3 : (wordsL ln).length ≤ (pieces 32 ln).length := List.length_filter_le _ _
            have h4 := pieces_count 32 ln
            have h5 := HLZ.out p
            rw [← hln] at h5
            omega)
          have z2 : (0 : Int) ≤ (p : Int) := by omega
          have z3 : (p : Int) < (M : Int) := by omega
          obtain ⟨LN, hLN⟩ : ∃ LN, LN = bytesOf ln := ⟨_, rfl⟩
          rw [← hLN] at c1 HLW
          clear hca hLW hlp hln hcs hLN
          go_wp2_with fail
          refine HLW.out.mono ?_
          rintro e w5 ⟨v, rfl, how, hb5⟩
          have hb45 := hb.trans (hb5.mono hb.size)
          obtain ⟨cn, hcn⟩ : ∃ cn, cn = cntA ls p := ⟨_, rfl⟩
          rw [← hcn] at HCA hcl ⊢
          clear hcn HLW
          cases hws : wordsL ln with
          | nil =>
            have G := Lib.hid (show cntA ls (p + 1) = cn from by rw [HCA.out]; unfold hasA; rw [hws]; rfl)
            rw [hws] at how
            obtain ⟨Ao, co, rfl, _, _⟩ := own_form how
            clear how HCA hws
            go_wp2
            go_roundw
            case rel => exact ⟨p + 1, by omega, by rw [G.out], by simp, hb45⟩
            case measure => simp [intOf]; omega
          | cons vb rest =>
            have hvb : vb ≠ [] := HWN.out vb (by rw [hws]; simp)
            have hG : cntA ls (p + 1) = if (vb.head? != some 35) = true then cn + 1 else cn := by rw [HCA.out]; unfold hasA; rw [hws]
            have hrb := HWB.out
            rw [hws] at how hrb
            obtain ⟨gw, cw, rfl, hgw1, hgw2⟩ := how.form (by simp)
            have c3 := own_cell0 how
            obtain ⟨R, hR⟩ : ∃ R, R = rest.length := ⟨_, rfl⟩
            rw [List.length_cons, ← hR] at hrb
            rw [List.length_cons, ← hR]
            obtain ⟨V, hV⟩ : ∃ V, V = bytesOf vb := ⟨_, rfl⟩
            have hVd : V.data.toList = vb := by rw [hV, bytesOf_data]
            have hVp : 0 < V.size := by
              have : V.data.toList.length = V.size := by rw [Array.length_toList]; rfl
              rw [hVd] at this
              rcases Nat.eq_zero_or_pos V.size with h | h
              · exact absurd (List.length_eq_zero_iff.1 (this.trans h)) hvb
              · exact h
            have hhd : vb.head? = some (V[0]'hVp) := by rw [← hVd, List.head?_eq_getElem?]; exact byte_at V hVp
            obtain ⟨u, hu⟩ : ∃ u, (V[0]'hVp).toNat = u := ⟨_, rfl⟩
            have hu256 : u < 256 := by rw [← hu]; exact UInt8.toNat_lt _
            have hHD : vb.head? = some 35 ↔ u = 35 := by
              rw [hhd, ← hu]
              constructor
              · intro h; injection h with h; rw [h]; rfl
              · intro h; congr 1; exact UInt8.toNat_inj.1 h
            rw [← hV] at c3
            have hVp' : (0 : Int) < (V.size : Int) := by omega
            by_cases h35 : u = 35
            · have G := Lib.hid (show cntA ls (p + 1) = cn from by rw [hG, hHD.2 h35]; rfl)
              subst h35
              clear how hG hHD hhd hws hVd hV hR hvb HCA
              go_wp2
              go_roundw
              case rel => exact ⟨p + 1, by omega, by rw [G.out], by simp, hb45⟩
              case measure => simp [intOf]; omega
            · have h35' : ¬ (u : Int) = 35 := by omega
              have G := Lib.hid (show cntA ls (p + 1) = cn + 1 from by
                rw [hG, if_pos]
                have : vb.head? ≠ some 35 := fun h => h35 (hHD.1 h)
                simpa using this)
              clear how hG hHD hhd hws hVd hV hR hvb HCA
              go_wp2
              go_roundw
              case rel => exact ⟨p + 1, by omega, by rw [G.out]; go_num, by simp, hb45⟩
              case measure => simp [intOf]; omega
        · obtain rfl : p = M := by omega
          have z9 : ¬ (p : Int) < (p : Int) := by omega
          clear hS4
          go_wp2_with fail
          refine (HSC.out _).mono ?_
          rintro e w6 ⟨rfl, hw6⟩
          have hwf := hw4.trans (hb.mono hw4.size)
          by_cases hO0 : O.toList = []
          · have hOe : O.toList.isEmpty = true := by rw [hO0]; rfl
            go_wp2
            go_ret
            exact ⟨rfl, hwf⟩
          · have hOe : O.toList.isEmpty = false := by simpa using hO0
            have hos : o ≠ [] := fun h => hO0 (by rw [Lib.toList_data, hOd, h])
            have hl10 := hlast.resolve_left hos
            obtain ⟨K, hK⟩ : ∃ K, o.length = K + 1 := ⟨o.length - 1, by have := List.length_pos_iff.2 hos; omega⟩
            have hOsz : O.size = K + 1 := by rw [← hK, ← hOd, Array.length_toList]; rfl
            have hKs : K < O.size := by omega
            have hKb : (O[K]'hKs).toNat = 10 := by
              have h1 := byte_at O hKs
              rw [hOd] at h1
              rw [List.getLast?_eq_getElem?, hK, Nat.add_sub_cancel, h1] at hl10
              injection hl10 with h2
              rw [h2]
              rfl
            have k0 : (0 : Int) ≤ (K : Int) := by omega
            have k1 : (K : Int) < (O.size : Int) := by omega
            have k2 : IntKind.i64.wrap ((O.size : Int) - 1) = (K : Int) := by rw [wrap_small _ (by omega) (by omega)]; omega
            go_wp2
            go_ret
            exact ⟨rfl, hwf⟩
theorem deskCounts_met (os : Os) : laidMet Tryz.prog Rows.deskCountsUptoRow.laid ((laidWorld os #[.string ByteArray.empty]).forCall (fun _ _ => 0) ⟨#[], #[.string ByteArray.empty], []⟩).memory :=
  laidMet_of_run' 8 (by kernel_rfl) (by kernel_rfl)
theorem deskCounts_reads (os : Os) {H : Type} (enc : TypeId × Value → H) : DataW.whole enc Tryz.prog ((laidWorld os #[.string ByteArray.empty]).forCall (fun _ _ => 0) ⟨#[], #[.string ByteArray.empty], []⟩).memory Tryz.f5.params.toList Rows.deskCountsSpec.vars false (#[.string ByteArray.empty] : Array Value).toList 8 = some ([.lit (.string [])], [], []) := by kernel_rfl
set_option maxRecDepth 100000 in
theorem deskCounts_lifted (os : Os) (started : os.Started) (H : Type) (enc : TypeId × Value → H) (F : Stop.Interp) :
    ReturnsInHanded {} Tryz.checked os 5 .any ((Rows.OpenSpec.upto Rows.deskCountsSpec).preRow enc Tryz.prog Tryz.f5 Rows.deskCountsUptoRow.domain false Rows.deskCountsUptoRow.laid) (((Rows.OpenSpec.upto Rows.deskCountsSpec).at F).post enc Tryz.prog Tryz.f5 false true false false) := by
  refine lift_card (fn := Tryz.f5) (s := Rows.OpenSpec.upto Rows.deskCountsSpec) (k := Rows.uptoSmall) started rfl (by kernel_rfl) Tryz.func5
    (witness_row_at (enc := enc) (C := Tryz.checked) false (laidWorld os #[.string ByteArray.empty]) #[.string ByteArray.empty] rfl (by kernel_rfl) (by kernel_rfl) (by kernel_rfl)
      (OpenSpec.preRow_of_cond 8 (deskCounts_reads os enc) (by kernel_rfl) (fun k hk => by cases hk; kernel_rfl) (by kernel_rfl) (deskCounts_met os))) (by kernel_rfl) rfl Tryz.underlying4 rfl ?_ ?_
  · intro ds h
    rw [Tryz.params5] at h
    match ds, h with
    | [d0], _ => rfl
  · intro W args ds ps hA hlt hval hsz hk ht
    rw [Tryz.params5] at hA hval hsz
    obtain ⟨v0, vs0, d0, ds0, p0, q0, hargs, rfl, rfl, H0, T0⟩ := trodAll_cons hA
    obtain ⟨rfl, rfl, rfl⟩ := trodAll_nil T0
    obtain rfl : args = #[v0] := by cases args; simp_all
    obtain ⟨b0, hv0⟩ := hval 0 9 v0 rfl rfl
    obtain ⟨s, rfl, hs⟩ := arg_string_upto hv0 H0
    have hb := bulk_bound hk
    simp only [Rows.uptoBulkAll] at hb
    exact deskCounts_walk s W (by omega) ht
theorem deskCounts_said : Rows.DeskCountsUptoSaid :=
  OpenClaim.holds_of_cond 5 Tryz.f5 rfl rfl rfl rfl rfl rfl rfl ⟨rfl, rfl, rfl, rfl, rfl⟩ rfl rfl rfl rfl rfl (by kernel_rfl) Tryz.func5 (by kernel_rfl)
    (of_decide_eq_true (by kernel_rfl)) (by unfold Func.isWrapper; first | (rw [if_pos (by decide +kernel)]; kernel_rfl) | (rw [if_neg (by decide +kernel)]; exact ⟨rfl, rfl⟩))
    (fun os started H enc _ F => by rw [OpenClaim.pre_eq_preRow]; exact deskCounts_lifted os started H enc F)
theorem deskCounts_plain (f : FuncId) (fn : Func) (hf : Tryz.pinned.checked.prog.funcNamed "lessonbook/coachkeep.DeskCounts" = some f) (hfn : Tryz.pinned.checked.prog.funcs[f]? = some fn) :
    false = Tryz.pinned.checked.prog.looks [] ∧ ∀ (j : Nat) t, fn.params[j]? = some t → Tryz.pinned.checked.prog.wantsStandIn t = false := by
  obtain rfl : f = 5 := Option.some.inj ((show Tryz.prog.funcNamed "lessonbook/coachkeep.DeskCounts" = some 5 by kernel_rfl).symm.trans hf) |>.symm
  obtain rfl : fn = Tryz.f5 := (Option.some.inj (Tryz.func5.symm.trans hfn)).symm
  refine ⟨by kernel_rfl, fun j t ht => ?_⟩
  have hall : (Tryz.f5.params.toList.all fun t => Tryz.prog.wantsStandIn t == false) = true := by kernel_rfl
  rw [List.all_eq_true] at hall
  exact eq_of_beq (hall t (Array.mem_toList_iff.2 (Array.mem_of_getElem? ht)))
theorem DeskCounts_holds : Rows.DeskCountsUptoCardSaid :=
  Claim7.holds_tied_plain_at .later [] _ _ _ _ deskCounts_said (fun _ h => by cases h) (by kernel_rfl) (fun _ h => by cases h) deskCountsUpto_row_tie rfl ⟨rfl, rfl⟩ (by kernel_rfl) rfl deskCounts_plain (by kernel_rfl)

end Go.Proofs.YtaeeonnjkplohaaGreatDoor
