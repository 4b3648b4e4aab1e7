/- What the document's own text says a pupil's numbers are: a walk. -/
import Derived.Test.YtgfidgepplfcbaaPupFlat
namespace Go.Proofs.Ytgfidgepplfcbaa
open Go.RowKit Pl

set_option maxRecDepth 100000 in
set_option maxHeartbeats 4000000 in
theorem ref_Flat (r1 c1 : Int) (A1 : Option Addr) (n1 k1 : Nat) (a1 : List Int) (r2 c2 : Int) (A2 : Option Addr) (n2 k2 : Nat) (a2 : List Int) (B1 : Option Addr) (m1 d1 : Nat) (b1 : List Int) (B2 : Option Addr) (m2 d2 : Nat) (b2 : List Int) (w : World) (i1 : Ints .i64 w A1 n1 a1) (i2 : Ints .i64 w A2 n2 a2) (j1 : Ints .i64 w B1 m1 b1) (j2 : Ints .i64 w B2 m2 b2) (hN : (flatP a1 b1 a2 b2).length ≤ 40) :
    Calls Try.prog 16 #[(.agg #[.int .i64 r1, .int .i64 c1, .slice A1 n1 k1, .int .i64 r2, .int .i64 c2, .slice A2 n2 k2, .slice B1 m1 d1, .slice B2 m2 d2])] w (Own1 w (flatP a1 b1 a2 b2)) := by
  obtain ⟨i0, hi0, hz0, hz1, hz2⟩ := info_parts int_info
  have hv : Vals ((w.alloc (.cells #[.int .i64 r1, .int .i64 c1, .slice A1 n1 k1, .int .i64 r2, .int .i64 c2, .slice A2 n2 k2, .slice B1 m1 d1, .slice B2 m2 d2] 26)).alloc (.cells #[.slice A1 n1 k1, .slice B1 m1 d1, .slice A2 n2 k2, .slice B2 m2 d2] 22)) (some ⟨w.heap.size + 1, 0, none⟩) 4 [.slice A1 n1 k1, .slice B1 m1 d1, .slice A2 n2 k2, .slice B2 m2 d2] := by
    have h := Vals.made (w.alloc (.cells #[.int .i64 r1, .int .i64 c1, .slice A1 n1 k1, .int .i64 r2, .int .i64 c2, .slice A2 n2 k2, .slice B1 m1 d1, .slice B2 m2 d2] 26)) #[.slice A1 n1 k1, .slice B1 m1 d1, .slice A2 n2 k2, .slice B2 m2 d2] 22 4 [.slice A1 n1 k1, .slice B1 m1 d1, .slice A2 n2 k2, .slice B2 m2 d2] rfl rfl
    simpa using h
  have hp : Parts ((w.alloc (.cells #[.int .i64 r1, .int .i64 c1, .slice A1 n1 k1, .int .i64 r2, .int .i64 c2, .slice A2 n2 k2, .slice B1 m1 d1, .slice B2 m2 d2] 26)).alloc (.cells #[.slice A1 n1 k1, .slice B1 m1 d1, .slice A2 n2 k2, .slice B2 m2 d2] 22)) [.slice A1 n1 k1, .slice B1 m1 d1, .slice A2 n2 k2, .slice B2 m2 d2] [a1, b1, a2, b2] := ⟨rfl, fun j hj => by
    match j, hj with
    | 0, _ => exact ⟨A1, n1, k1, rfl, (i1.alloc _).alloc _⟩
    | 1, _ => exact ⟨B1, m1, d1, rfl, (j1.alloc _).alloc _⟩
    | 2, _ => exact ⟨A2, n2, k2, rfl, (i2.alloc _).alloc _⟩
    | 3, _ => exact ⟨B2, m2, d2, rfl, (j2.alloc _).alloc _⟩⟩
  obtain ⟨ps, hps⟩ : ∃ ps, ps = [a1, b1, a2, b2] := ⟨_, rfl⟩
  rw [← hps] at hp
  have HC0 := Lib.hid (show catN ps 0 = [] from rfl)
  have HALL := Lib.hid (show catN ps 4 = flatP a1 b1 a2 b2 by rw [hps]; exact (catN_all _).trans (flatten4 _ _ _ _))
  have hcl : Hid (∀ k, (catN ps k).length ≤ 40) := Lib.hid fun k => by
    have := catN_le ps k
    have e : ps.flatten = flatP a1 b1 a2 b2 := by rw [hps]; exact flatten4 _ _ _ _
    rw [e] at this
    omega
  have HPL := Lib.hid (show ps.length = 4 by rw [hps]; rfl)
  clear hps hN
  go_enter Try.func16, Try.ntmps16
  go_wp2
  go_loopw [3, 19] (fun o i wr => ∃ k : Nat, k ≤ 4 ∧ i = .int .i64 k ∧ wr.ownsRow (w.heap.size + 1 + 1) 3 1 o (catN ps k).length ((catN ps k).map (.int .i64)) ∧ Below (w.heap.size + 1 + 1) ((w.alloc (.cells #[.int .i64 r1, .int .i64 c1, .slice A1 n1 k1, .int .i64 r2, .int .i64 c2, .slice A2 n2 k2, .slice B1 m1 d1, .slice B2 m2 d2] 26)).alloc (.cells #[.slice A1 n1 k1, .slice B1 m1 d1, .slice A2 n2 k2, .slice B2 m2 d2] 22)) wr) (fun _ i _ => 4 - (intOf i).toNat)
  case atStart => exact ⟨0, Nat.zero_le _, rfl, by rw [HC0.out]; exact World.ownsRow_nil _ _ _ _, Below.refl _ _⟩
  case round =>
    obtain ⟨k, hk, rfl, hown, hb⟩ := hrel
    have hbs := hb.size
    simp at hbs
    by_cases hlt : k < 4
    · obtain ⟨b, off, e0, hbl, hc⟩ := hv.cells (by omega)
      cases e0
      obtain ⟨B, n', c', e, hI⟩ := hp.at_ k (by rw [hv.len]; exact hlt)
      have g1 := (hb.cell (p := ⟨w.heap.size + 1, 0 + k, none⟩) (by simp)).trans ((hc k hlt).trans (congrArg some e))
      rw [Nat.zero_add] at g1
      have F := Lib.hid (catN_succ (ps := ps) (k := k) (by rw [HPL.out]; exact hlt))
      have hle3 : (catN ps k).length + n' ≤ 40 := by
        have := hcl.out (k + 1)
        rw [F.out, List.length_append, hI.len] at this
        exact this
      have HN := Lib.hid hI.len
      clear hc e
      go_wp2
      clear g1
      rw [show decide ((k : Int) < 4) = true from decide_eq_true (by omega)]
      obtain ⟨wo, rfl⟩ : ∃ wo : World, wo = wr := ⟨_, rfl⟩
      go_loopw [3, 6] (fun o i wr => ∃ j : Nat, j ≤ n' ∧ i = .int .i64 j ∧ wr.ownsRow (w.heap.size + 1 + 1) 3 1 o ((catN ps k).length + j) ((catN ps k).map (.int .i64) ++ (upto (at0 (ps[k]?.getD [])) j).map (.int .i64)) ∧ Below (w.heap.size + 1 + 1) ((w.alloc (.cells #[.int .i64 r1, .int .i64 c1, .slice A1 n1 k1, .int .i64 r2, .int .i64 c2, .slice A2 n2 k2, .slice B1 m1 d1, .slice B2 m2 d2] 26)).alloc (.cells #[.slice A1 n1 k1, .slice B1 m1 d1, .slice A2 n2 k2, .slice B2 m2 d2] 22)) wr ) (fun _ i _ => n' - (intOf i).toNat)
      case atStart => exact ⟨0, Nat.zero_le _, rfl, by rw [upto_zero, List.map_nil, List.append_nil]; exact hown, hb⟩
      case round =>
        obtain ⟨j, hj, rfl, hown2, hb2⟩ := hrel
        have hIw := hI.below (by simpa using hb2)
        have hbs2 := hb2.size
        simp at hbs2
        by_cases hl2 : j < n'
        · obtain ⟨b, off, rfl, hbl2, hc⟩ := hIw.cells (by omega)
          have g1 := hc j hl2
          clear hc
          go_wp2_with (at_builtin; refine wpList_append_own _ rfl _ _ 22 rfl (w.heap.size + 1 + 1) 3 i0 (.int .i64 0) 1 8 Try.underlying22 hi0 hz0 hz1 hz2 rfl (by decide) u3 _ _ rfl (hown2.alloc _) ⟨wr.heap.size, 0, none⟩ 1 1 [.int .i64 (at0 (ps[k]?.getD []) j)] rfl rfl (cell_one_new _ _ _) (by simp [Value.oneCell']) (by unfold maxLen; omega) (by omega) (by simp; omega) ?_; intro v1 w1 hown1 hgrow _)
          have hb3 := Below.grown (B := w.heap.size + 1 + 1) (hb2.alloc (by omega) _) hgrow (by simp; omega) (fun x hx => (hown2.lt x hx).1)
          rw [List.append_assoc, ← List.map_singleton, ← List.map_append, ← upto_succ (at0 (ps[k]?.getD []))] at hown1
          clear hgrow g1
          go_roundw
          case rel => exact ⟨j + 1, by omega, by go_num, by rw [← Nat.add_assoc]; exact hown1, hb3⟩
          case measure => simp [intOf]; omega
        · obtain rfl : n' = j := by omega
          go_wp2
          go_roundw
          case rel => exact ⟨k + 1, by omega, by go_num, by
            rw [F.out, List.length_append, HN.out, List.map_append]
            have e : upto (at0 (ps[k]?.getD [])) n' = ps[k]?.getD [] := by rw [← HN.out]; exact upto_at0 _
            rw [e] at hown2
            exact hown2, hb2⟩
          case measure => simp [intOf]; omega
    · obtain rfl : k = 4 := by omega
      rw [HALL.out] at hown
      go_wp2
      go_ret
      exact own_one rfl (own_base hown (by omega)) ((((Below.refl _ _).alloc (Nat.le_refl _) _).alloc (by simp) _).trans (hb.mono (by omega)))
end Go.Proofs.Ytgfidgepplfcbaa
