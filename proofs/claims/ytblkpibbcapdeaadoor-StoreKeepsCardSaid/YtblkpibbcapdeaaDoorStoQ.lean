/- The document's Pieces of a text: a walk. -/
import Derived.Test.YtblkpibbcapdeaaDoorStoN
import Derived.RegionTactic
import Derived.ChangeAlike
import Derived.BigRegion
namespace Go.Proofs.YtblkpibbcapdeaaDoor
open Go.RowKit Go.Sort Pl

/-- A slice of strings of the call's own. -/
def StrsOwn (B : Nat) (L : List (List UInt8)) (v : Value) (w : World) : Prop := ∃ g c, v = .slice (some ⟨g, 0, none⟩) L.length c ∧ w.ownsRow B 9 1 (.slice (some ⟨g, 0, none⟩) L.length c) L.length ((L.map bytesOf).map Value.string)
theorem pieces_take (s : ByteArray) (c : UInt8) {q : Nat} (h : q < s.size) : pieces c (s.data.toList.take (q + 1)) = if (s[q]'h) = c then pieces c (s.data.toList.take q) ++ [[]] else (pieces c (s.data.toList.take q)).dropLast ++ [(pieces c (s.data.toList.take q)).getLast (pieces_ne c _) ++ [s[q]'h]] := by
  rw [take_byte s h, pieces_snoc]
theorem pieces_count (c : UInt8) : ∀ l : List UInt8, (pieces c l).length ≤ l.length + 1
  | [] => by simp [pieces]
  | b :: l => by
    have ih := pieces_count c l
    obtain ⟨p, ps, hp⟩ := pieces_cons c l
    rw [hp] at ih
    by_cases h : b = c
    · have e : pieces c (b :: l) = [] :: p :: ps := by simp [pieces, h, hp]
      rw [e]
      simp at ih ⊢
      omega
    · have e : pieces c (b :: l) = (b :: p) :: ps := by simp [pieces, h, hp]
      rw [e]
      simp at ih ⊢
      omega
theorem pieces_size (c : UInt8) : ∀ l : List UInt8, ∀ p ∈ pieces c l, p.length ≤ l.length
  | [] => by simp [pieces]
  | b :: l => by
    have ih := pieces_size c l
    obtain ⟨p, ps, hp⟩ := pieces_cons c l
    rw [hp] at ih
    intro x hx
    by_cases h : b = c
    · have e : pieces c (b :: l) = [] :: p :: ps := by simp [pieces, h, hp]
      rw [e] at hx
      rcases List.mem_cons.1 hx with rfl | hx
      · simp
      · have := ih x hx
        simp
        omega
    · have e : pieces c (b :: l) = (b :: p) :: ps := by simp [pieces, h, hp]
      rw [e] at hx
      rcases List.mem_cons.1 hx with rfl | hx
      · have := ih p (by simp)
        simp
        omega
      · have := ih x (by simp [hx])
        simp
        omega
theorem last_of {α : Type} {l : List α} (h : l ≠ []) : ∃ p x, l = p ++ [x] ∧ l.dropLast = p ∧ l.getLast h = x := ⟨l.dropLast, l.getLast h, (List.dropLast_concat_getLast h).symm, rfl, rfl⟩
theorem set_last (p : List (List UInt8)) (x y : List UInt8) {N : Nat} (h : p.length = N) : (((p ++ [x]).map bytesOf).map Value.string).set N (.string (bytesOf y)) = ((p ++ [y]).map bytesOf).map Value.string := by
  subst h
  simp
theorem extract_one (s : ByteArray) {q : Nat} (h : q < s.size) : s.extract q (q + 1) = bytesOf [s[q]'h] := by
  apply ByteArray.ext
  apply Array.toList_inj.1
  rw [Lib.extract_data, bytesOf_data, show q + 1 - q = 1 by omega]
  rw [List.drop_eq_getElem_cons (by rw [Array.length_toList]; exact h)]
  rfl

set_option maxRecDepth 100000 in
set_option maxHeartbeats 4000000 in
theorem ref_Pieces (s : ByteArray) (c : UInt8) (w : World) (hs : s.size ≤ 4294967280) :
    Calls Tryd.prog 31 #[.string s, .int .u8 (c.toNat : Int)] w fun e w' => ∃ v, e = .returned v ∧ StrsOwn w.heap.size (pieces c s.data.toList) v w' ∧ Below w.heap.size w w' := by
  have hsz : s.data.toList.length = s.size := by rw [Array.length_toList]; rfl
  obtain ⟨i0, hi0, hz0, hz1, hz2⟩ := info_parts str_info
  have O0 : (w.alloc (.cells #[.string (bytesOf [])] 9)).ownsRow w.heap.size 9 1 (.slice (some ⟨w.heap.size, 0, none⟩) 1 1) 1 (((pieces c (s.data.toList.take 0)).map bytesOf).map Value.string) :=
    World.ownsRow_lit w #[.string (bytesOf [])] 1 (Nat.le_refl _) (by unfold maxLen; omega) rfl
  have b0 : Below w.heap.size w (w.alloc (.cells #[.string (bytesOf [])] 9)) := (by repeat (first | exact Below.refl _ _ | assumption | refine bel_drewN ?_ _ | refine Below.drew ?_ | (refine Below.alloc ?_ (by simp <;> omega) _) | (refine Below.setCell ?_ (by simp <;> omega) _)))
  have HPC := Lib.hid (fun q => Nat.le_trans (pieces_count c (s.data.toList.take q)) (show _ ≤ s.size + 1 by rw [List.length_take]; omega))
  obtain ⟨w1, hw1⟩ : ∃ w1, w1 = w.alloc (.cells #[.string (bytesOf [])] 9) := ⟨_, rfl⟩
  rw [← hw1] at O0 b0
  have HW := Lib.hid hw1
  clear hw1
  go_enter Tryd.func31, Tryd.ntmps31
  go_upto_region 2 with fail
  rw [show w.alloc (.cells #[.string ⟨#[]⟩] 9) = w1 from HW.out.symm]
  go_wp2
  go_loopw [5, 6] (fun l j wr => ∃ (q g cp N : Nat), q ≤ s.size ∧ j = .int .i64 q ∧ l = .slice (some ⟨g, 0, none⟩) (N + 1) cp ∧ N + 1 = (pieces c (s.data.toList.take q)).length ∧ wr.ownsRow w.heap.size 9 1 (.slice (some ⟨g, 0, none⟩) (N + 1) cp) (N + 1) (((pieces c (s.data.toList.take q)).map bytesOf).map Value.string) ∧ Below w.heap.size w wr) (fun _ j _ => s.size - (intOf j).toNat)
  case atStart => exact ⟨0, w.heap.size, 1, 0, by omega, rfl, rfl, rfl, O0, b0⟩
  case round =>
    clear O0 b0
    obtain ⟨q, g, cp, N, hq, rfl, rfl, hN, hown, hb⟩ := hrel
    have hbs := hb.size
    by_cases hlt : q < s.size
    · have HT := Lib.hid (pieces_take s c hlt)
      have hNC := HPC.out q
      rw [← hN] at hNC
      have HNE := Lib.hid hN
      by_cases hc : (s[q]'hlt) = c
      · have G := Lib.hid (show pieces c (s.data.toList.take (q + 1)) = pieces c (s.data.toList.take q) ++ [[]] from by rw [HT.out, if_pos hc])
        have hv : (s[q]'hlt).toNat = c.toNat := by rw [hc]
        clear hc hN
        go_wp2_with (at_builtin; refine wpList_append_own _ rfl _ _ 56 rfl w.heap.size 9 i0 (.string ByteArray.empty) 1 16 Tryd.underlying56 hi0 hz0 hz1 hz2 rfl (by decide) (.slice (some ⟨g, 0, none⟩) (N + 1) cp) (N + 1) _ rfl (hown.alloc _) ⟨wr.heap.size, 0, none⟩ 1 1 [.string ⟨#[]⟩] rfl rfl (cell_one_new _ _ _) (by simp [Value.oneCell']) (by unfold maxLen; omega) (by omega) (by simp; omega) ?_; intro v1 v2 hown1 hgrow _)
        have hb2 : Below w.heap.size w v2 := Below.grown (hb.alloc (by omega) _) hgrow (by simp; omega) (fun x hx => (hown.lt x hx).1)
        rw [show ((pieces c (s.data.toList.take q)).map bytesOf).map Value.string ++ [.string ⟨#[]⟩] = ((pieces c (s.data.toList.take (q + 1))).map bytesOf).map Value.string by rw [G.out]; simp [bytesOf]] at hown1
        obtain ⟨g', cp', rfl, _, _⟩ := hown1.form (by omega)
        clear hgrow
        go_roundw
        case rel => exact ⟨q + 1, g', cp', N + 1, by omega, by go_num, rfl, by rw [G.out, List.length_append, ← HNE.out]; rfl, hown1, hb2⟩
        case measure => simp [intOf]; omega
      · obtain ⟨p, x, hpx, hp1, hp2⟩ := last_of (pieces_ne c (s.data.toList.take q))
        have G := Lib.hid (show pieces c (s.data.toList.take (q + 1)) = p ++ [x ++ [s[q]'hlt]] from by rw [HT.out, if_neg hc, hp1, hp2])
        have hpl : p.length = N := by rw [hpx, List.length_append] at hN; simp at hN; omega
        have hcl : wr.cell? ⟨g, N, none⟩ = some (.string (bytesOf x)) := by
          rw [hown.cellAt N (by omega), hpx]
          simp [← hpl]
        have hfz := hown.frozenAt N
        have HOS := Lib.hid (hown.stored N (.string (bytesOf (x ++ [s[q]'hlt])))).1
        have hx1 : (bytesOf x).size ≤ s.size := by
          have h := pieces_size c (s.data.toList.take q) x (by rw [hpx]; simp)
          rw [List.length_take] at h
          show x.length ≤ _
          omega
        have hne : ¬ ((s[q]'hlt).toNat = c.toNat) := fun e => hc (UInt8.toNat_inj.1 e)
        have HX := Lib.hid (show bytesOf x ++ s.extract q (q + 1) = bytesOf (x ++ [s[q]'hlt]) from by rw [extract_one s hlt, bytesOf_app])
        have HPX := Lib.hid hpx
        have HPL := Lib.hid hpl
        have hg := (hown.lt g rfl).1
        have HB2 := Lib.hid (hb.setCell (p := ⟨g, N, none⟩) hg (.string (bytesOf (x ++ [s[q]'hlt]))))
        have k1 : IntKind.i64.wrap (((N + 1 : Nat) : Int) - 1) = (N : Int) := by rw [wrap_small _ (by omega) (by omega)]; omega
        have k2 : IntKind.i64.wrap ((q : Int) + 1) = ((q + 1 : Nat) : Int) := by rw [wrap_small _ (by omega) (by omega)]; omega
        have hes : (s.extract q (q + 1)).size = 1 := by rw [extract_one s hlt]; rfl
        obtain ⟨xb, hxb⟩ : ∃ xb, xb = bytesOf x := ⟨_, rfl⟩
        rw [← hxb] at hcl hx1 HX
        clear hc hpx hp1 hp2 hpl hN hown hxb hsz
        go_upto_region 7 with fail
        go_region
        rw [HX.out]
        go_wp2
        go_roundw
        case rel => exact ⟨q + 1, g, cp, N, by omega, by go_num, rfl, by rw [G.out, List.length_append, HPL.out]; rfl, by
          have h := HOS.out.drew
          rw [HPX.out, set_last _ _ _ HPL.out] at h
          rw [G.out]
          exact h, HB2.out.drew⟩
        case measure => simp [intOf]; omega
    · obtain rfl : q = s.size := by omega
      rw [List.take_of_length_le (by omega)] at hN hown
      go_wp2
      go_ret
      refine ⟨_, rfl, ⟨g, cp, by rw [hN]; rfl, ?_⟩, hb⟩
      rw [← hN]
      exact hown
end Go.Proofs.YtblkpibbcapdeaaDoor
