/- slices.Grow of nil, slices.Concat over []int: walks, each function once. -/
import Derived.Test.YtejkkbjepgghlaaPupW2
import Derived.Lib.AppendZerosOnto
namespace Go.Proofs.Ytejkkbjepgghlaa
open Go.RowKit Pl

set_option maxRecDepth 100000 in
set_option maxHeartbeats 2000000 in
/-- slices.Grow(nil, n): a row of the call's own, nothing in it. -/
theorem sl_Grow (n : Nat) (w : World) (hn : n * 8 ≤ 140737488351232) :
    Calls Try.prog 134 #[.slice none 0 0, .int .i64 n] w fun e w' => ∃ v, e = .returned v ∧ w'.ownsRow w.heap.size 3 1 v 0 [] ∧ Below w.heap.size w w' := by
  obtain ⟨i0, hi0, hz0, hz1, hz2⟩ := info_parts int_info
  by_cases h0 : n = 0
  · subst h0
    clear hn
    go_enter Try.func134, Try.ntmps134
    go_wp2
    go_ret
    exact ⟨_, rfl, World.ownsRow_nil _ _ _ _, Below.refl _ _⟩
  · have hold : (Builtin.firstCells i0.size 0 (.slice none 0 0)).run Try.prog w.drew = .ok (([] : List Value).toArray) w.drew := run_firstCells_none w.drew i0.size 0 0 0
    have hr : ∀ ty, (Builtin.append_ #[25, 3] ty #[.slice none 0 0, .int .i64 (n : Int)]).run Try.prog w =
        .ok (.slice (some ⟨w.heap.size, 0, none⟩) n (grownCap w n 0 3)) (w.drew.alloc (.cells (([] : List Value).toArray ++ Builtin.zeroCells (Value.int .i64 0).cells n ++ Builtin.zeroCells (Value.int .i64 0).cells (grownCap w n 0 3 - n)) 3)) := fun ty => by
      have h := Lib.run_append_grow_zeros w 25 3 ty 3 i0 (.int .i64 0) .i64 .i64 Try.underlying25 Try.underlying3 hi0 hz0 none 0 0 [] hold n (by omega) (by rw [hz1]; omega) (by omega) (by omega) (by rw [hz2]; omega) (by rw [hz2]; exact growslice_fits (by omega) (by omega))
      rw [Nat.zero_add] at h
      exact h
    have hG := grownCap_ge w n 0 3
    have hG2 := grownCap_le_maxLen w n 0 3 (by unfold maxLen; omega)
    have hgt : (0 : Int) < (n : Int) := by omega
    obtain ⟨G, hGG⟩ : ∃ G, G = grownCap w n 0 3 := ⟨_, rfl⟩
    rw [← hGG] at hr hG hG2
    have HI := Lib.hid (⟨hi0, hz0, hz1, hz2⟩ : Try.prog.info? 3 = some i0 ∧ i0.zero = some (.int .i64 0) ∧ i0.size = 1 ∧ i0.bytes = 8)
    clear hGG hold h0 hi0 hz0 hz1 hz2
    unfold maxLen at hG2
    go_enter Try.func134, Try.ntmps134
    go_wp2_with (at_builtin; refine Lib.wpList_append_run _ rfl _ _ _ _ rfl _ _ rfl rfl _ _ (hr _) ?_)
    go_ret
    refine ⟨_, rfl, World.ownsRow_made w.drew _ G (Nat.le_refl _) (by unfold maxLen; omega) ?_, (Below.drew (Below.refl _ _)).alloc (Nat.le_refl _) _⟩
    simp [size_zeroCells]
    omega

/-- Nothing is appended where the source is nil. -/
theorem run_append_nothing {P : Program} {w : World} {base : Nat} {t ty e : TypeId} {i : TypeInfo} {size : Nat} (ht : P.underlying t = some (.slice e)) (hi : P.info? e = some i) {v : Value} {n : Nat} {xs : List Value} (hown : w.ownsRow base e size v n xs) (c : Nat) :
    (Builtin.append_ #[t, t] ty #[v, .slice none 0 c]).run P w = .ok v w := by
  rcases hown.2 with ⟨rfl, rfl⟩ | ⟨g, cap, cur, rfl, _, _, hnc, _⟩
  · simp [Builtin.append_, run_underlying ht, sizeOf, typeInfo, hi, Builtin.lenOf, Builtin.firstCells]
  · simp [Builtin.append_, run_underlying ht, sizeOf, typeInfo, hi, Builtin.lenOf, Builtin.firstCells, hnc, storeCells]

/-- The slices vs read as the lists ps. -/
structure Parts (w : World) (vs : List Value) (ps : List (List Int)) : Prop where
  len : ps.length = vs.length
  at_ : ∀ j, j < vs.length → ∃ A n c, vs[j]?.getD undef = .slice A n c ∧ Ints .i64 w A n (ps[j]?.getD [])
theorem Parts.below {w w' : World} {vs : List Value} {ps : List (List Int)} (h : Parts w vs ps) (hb : Below w.heap.size w w') : Parts w' vs ps :=
  ⟨h.len, fun j hj => by
    obtain ⟨A, n, c, e, hI⟩ := h.at_ j hj
    exact ⟨A, n, c, e, hI.below hb⟩⟩
/-- The first k lists, one behind the other. -/
def catN (ps : List (List Int)) (k : Nat) : List Int := (ps.take k).flatten
theorem catN_succ {ps : List (List Int)} {k : Nat} (h : k < ps.length) : catN ps (k + 1) = catN ps k ++ ps[k]?.getD [] := by
  unfold catN
  rw [List.take_succ_eq_append_getElem h, List.flatten_append, List.getElem?_eq_getElem h]
  simp
theorem catN_all (ps : List (List Int)) : catN ps ps.length = ps.flatten := by unfold catN; rw [List.take_of_length_le (Nat.le_refl _)]
theorem catN_le (ps : List (List Int)) (k : Nat) : (catN ps k).length ≤ ps.flatten.length := by
  unfold catN
  conv => rhs; rw [← List.take_append_drop k ps, List.flatten_append, List.length_append]
  omega

set_option maxRecDepth 100000 in
set_option maxHeartbeats 400000 in
theorem sl_Concat (A : Option Addr) (m c : Nat) (vs : List Value) (ps : List (List Int)) (w : World) (hv : Vals w A m vs) (hp : Parts w vs ps) (N : Nat) (hN : ps.flatten.length = N) (ht : N * 8 ≤ 140737488351232) (hm : m ≤ 100) :
    Calls Try.prog 99 #[.slice A m c] w (Own1 w ps.flatten) := by
  obtain ⟨i0, hi0, hz0, hz1, hz2⟩ := info_parts int_info
  have HNN := Lib.hid hN
  have hcl : Hid (∀ k, (catN ps k).length ≤ N) := Lib.hid fun k => by rw [← hN]; exact catN_le ps k
  clear hN
  have HT := Lib.hid (catN_all ps)
  have HPL := Lib.hid (hp.len.trans hv.len)
  have HC0 := Lib.hid (show catN ps 0 = [] from rfl)
  go_enter Try.func99, Try.ntmps99
  go_wp2
  go_loopw [3, 11] (fun o i wr => ∃ k : Nat, k ≤ m ∧ i = .int .i64 k ∧ o = .int .i64 ((catN ps k).length : Nat) ∧ w = wr) (fun _ i _ => m - (intOf i).toNat)
  case atStart => exact ⟨0, Nat.zero_le _, rfl, by rw [HC0.out]; rfl, rfl⟩
  case round =>
    obtain ⟨k, hk, rfl, rfl, rfl⟩ := hrel
    have hle := hcl.out k
    by_cases hlt : k < m
    · obtain ⟨b, off, rfl, hbl, hc⟩ := hv.cells (by omega)
      obtain ⟨B, n', c', e, hI⟩ := hp.at_ k (by rw [hv.len]; exact hlt)
      have g1 := (hc k hlt).trans (congrArg some e)
      have F := Lib.hid (show (catN ps (k + 1)).length = (catN ps k).length + n' by rw [catN_succ (by rw [HPL.out]; exact hlt), List.length_append, hI.len])
      have hle2 := hcl.out (k + 1)
      have hle3 : (catN ps k).length + n' ≤ N := by rw [← F.out]; exact hle2
      clear hc e hle2
      obtain ⟨L, hL⟩ : ∃ L, L = (catN ps k).length := ⟨_, rfl⟩
      have HL := Lib.hid hL
      rw [← hL] at hle hle3 ⊢
      clear hL
      go_wp2
      go_roundw
      case rel => exact ⟨k + 1, by omega, by go_num, by rw [F.out, ← HL.out]; go_num, trivial⟩
      case measure => simp [intOf]; omega
    · obtain rfl : m = k := by omega
      have hfl : (catN ps m).length = N := by rw [← HNN.out, ← HT.out, HPL.out]
      rw [hfl]
      clear hfl hle
      go_wp2_with (go_at_call 134; refine (sl_Grow _ _ ht).mono ?_; rintro e w1 ⟨v1, rfl, ho1, hb1⟩)
      go_loopw [6, 27] (fun o i wr => ∃ k : Nat, k ≤ m ∧ i = .int .i64 k ∧ wr.ownsRow w.heap.size 3 1 o (catN ps k).length ((catN ps k).map (.int .i64)) ∧ Below w.heap.size w wr) (fun _ i _ => m - (intOf i).toNat)
      case atStart => exact ⟨0, Nat.zero_le _, rfl, by rw [HC0.out]; exact ho1, hb1⟩
      case round =>
        obtain ⟨k, hk, rfl, hown, hb⟩ := hrel
        have hbs := hb.size
        by_cases hlt : k < m
        · obtain ⟨b, off, rfl, hbl, hc⟩ := hv.cells (by omega)
          obtain ⟨B, n', c', e, hI⟩ := hp.at_ k (by rw [hv.len]; exact hlt)
          have g1 := (hb.cell (p := ⟨b, off + k, none⟩) hbl).trans ((hc k hlt).trans (congrArg some e))
          have F := Lib.hid (catN_succ (ps := ps) (k := k) (by rw [HPL.out]; exact hlt))
          have hle3 : (catN ps k).length + n' ≤ N := by
            have := hcl.out (k + 1)
            rw [F.out, List.length_append, hI.len] at this
            exact this
          have hIr := hI.below hb
          have HN := Lib.hid hI.len
          clear hc e hI
          cases B with
          | none =>
            have h0 : n' = 0 := by
              rcases Nat.eq_zero_or_pos n' with h | h
              · exact h
              · obtain ⟨_, _, e, _⟩ := hIr.cells h
                cases e
            subst h0
            have HE := Lib.hid (List.eq_nil_of_length_eq_zero HN.out)
            clear HN hIr hle3
            go_wp2_with (at_builtin; refine Lib.wpList_append_run _ rfl _ _ _ _ rfl _ _ rfl rfl _ _ (run_append_nothing Try.underlying25 hi0 hown c') ?_)
            go_roundw
            case rel => exact ⟨k + 1, by omega, by go_num, by rw [F.out, HE.out, List.append_nil]; exact hown, hb⟩
            case measure => simp [intOf]; omega
          | some ad =>
            have hnews : ∀ (j : Nat) (u : Value), ((ps[k]?.getD []).map (Value.int .i64))[j]? = some u → wr.cell? (ad.add j) = some u := by
              intro j u hu
              rw [List.getElem?_map] at hu
              have hj : j < (ps[k]?.getD []).length := by
                rcases Nat.lt_or_ge j (ps[k]?.getD []).length with h | h
                · exact h
                · rw [List.getElem?_eq_none h] at hu; cases hu
              rw [List.getElem?_eq_getElem hj, Option.map_some] at hu
              cases hu
              obtain ⟨b, off, e, hb, hc⟩ := hIr.cells (by rw [← HN.out]; omega)
              cases e
              rw [Go.WideShapes.add_plain, hc j (by rw [← HN.out]; exact hj), at0_getElem _ _ hj]
            go_wp2_with (at_builtin; refine wpList_append_own _ rfl _ _ 25 rfl w.heap.size 3 i0 (.int .i64 0) 1 8 Try.underlying25 hi0 hz0 hz1 hz2 rfl (by decide) u6 _ _ rfl hown ad n' c' ((ps[k]?.getD []).map (.int .i64)) rfl (by rw [List.length_map, HN.out]; omega) (by exact hnews) (ints_oneCell _ _) (by unfold maxLen; omega) (by omega) (by omega) ?_; intro v2 w2 hown2 hgrow _)
            have hb2 := Below.grown (B := w.heap.size) hb hgrow hbs (fun x hx => (hown.lt x hx).1)
            clear hgrow g1 hnews
            go_roundw
            case rel => exact ⟨k + 1, by omega, by go_num, by rw [F.out, List.length_append, HN.out, List.map_append]; exact hown2, hb2⟩
            case measure => simp [intOf]; omega
        · obtain rfl : m = k := by omega
          have hfl : catN ps m = ps.flatten := by rw [← HPL.out]; exact HT.out
          rw [hfl] at hown
          clear hfl
          go_wp2
          go_ret
          exact own_one rfl hown hb
end Go.Proofs.Ytejkkbjepgghlaa
