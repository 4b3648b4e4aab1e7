/- The law AuditSearch holds of the given program for every input. No condition. -/
import Derived.Test.YtflljldlfgpimaaAudL
namespace Go.Proofs.Ytflljldlfgpimaa
open Go.ChangeShapes Go.WideShapes Go.ChangeAt Go.RowKit Pl

theorem Chains.two {w : World} {g t : Nat} {u v : Int} {a0 a1 a2 a3 a5 a6 a7 a8 : Value} (h : w.heap[g]? = some (.cells #[a0, a1, a2, a3, .int .u64 u, a5, a6, a7, a8, .int .u64 v] t (0, 0))) : Chains w (some ⟨g, 0, none⟩) 2 [u, v] := by
  refine ⟨rfl, fun _ => ⟨g, 0, rfl, (Array.getElem?_eq_some_iff.1 h).1, fun j hj => ?_⟩⟩
  rw [cell_of_row w g _ _ t (0, 0) h]
  have : j = 0 ∨ j = 1 := by omega
  rcases this with rfl | rfl <;> rfl

theorem alloc_at (w : World) (o : Obj) (k : Nat) (h : k = w.heap.size) : (w.alloc o).heap[k]? = some o := by subst h; exact heap_alloc_new w o

set_option maxRecDepth 100000 in
set_option maxHeartbeats 2000000 in
theorem auditSearch_walk (A B : Option Addr) (n c m d : Nat) (rs ss : List Rec) (w : World) (hx0 : Recs w A n rs) (hy0 : Recs w B m ss) :
    Calls Try.prog 6 #[.slice A n c, .slice B m d] w fun e w' => e = .returned (.bool true) ∧ Below w.heap.size w w' := by
  have hx := hx0.chains
  have hy := hy0.chains
  go_enter Try.func6, Try.ntmps6
  go_wp2_with fail
  refine (find_ok _ _ 2 2 2 [1, 2] [1, 3] _ (Chains.two ((Below.heap_alloc _ _ _ (by simp)).trans (heap_alloc_new _ _))) (Chains.two (alloc_at _ _ _ (by simp))) (by omega) (by omega)).mono ?_
  rintro e w1 ⟨rfl, hb1⟩
  have z1 : (findP (sameC [1, 2] [1, 3]) 2).1 = 1 := by decide
  have z2 : (findP (sameC [1, 2] [1, 3]) 2).2 = 2 := by decide
  rw [z1, z2]
  go_wp2_with fail
  have hbw : Below w.heap.size w w1 := bel_trans (by repeat (first | exact Below.refl _ _ | assumption | refine bel_drewN ?_ _ | refine Below.drew ?_ | (refine Below.alloc ?_ (by simp <;> omega) _))) hb1
  clear hb1 z1 z2
  by_cases hno : n ≠ m ∨ n = 0 ∨ 40 < n
  · refine (find_no A B n c m d _ hno).mono ?_
    rintro e w2 ⟨rfl, hb2⟩
    clear hno
    go_wp2
    go_ret
    exact ⟨rfl, bel_trans hbw hb2⟩
  · obtain ⟨hnm, hn0, hn40⟩ : n = m ∧ 0 < n ∧ n ≤ 40 := by omega
    subst hnm
    clear hno
    refine (find_ok A B n c d _ _ _ (hx.below hbw) (hy.below hbw) hn0 hn40).mono ?_
    rintro e w2 ⟨rfl, hb2⟩
    have hb := bel_trans hbw hb2
    obtain ⟨b, off, rfl, hbl, hc⟩ := hx.cells hn0
    obtain ⟨b', off', rfl, hbl', hc'⟩ := hy.cells hn0
    have hP := findP_place (sameC (rs.map (·.chain)) (ss.map (·.chain))) n hn0
    have hQ := fun j => findP_asks (sameC (rs.map (·.chain)) (ss.map (·.chain))) n j hn0
    generalize rs.map (·.chain) = xs at *
    generalize ss.map (·.chain) = ys at *
    obtain ⟨p, hp⟩ : ∃ p, (findP (sameC xs ys) n).1 = p := ⟨_, rfl⟩
    obtain ⟨q, hq⟩ : ∃ q, (findP (sameC xs ys) n).2 = q := ⟨_, rfl⟩
    rw [hp] at hP ⊢
    rw [hq] at ⊢
    simp only [hq] at hQ
    obtain ⟨p1, p2, p3, p4⟩ := hP
    have q1 := (hQ 6 (by omega)).1
    have q2 := (hQ 6 (by omega)).2
    have P3 := Lib.hid p3
    have P4 := Lib.hid p4
    have HQ := Lib.hid hQ
    have HC := Lib.hid hc
    have HC' := Lib.hid hc'
    clear p3 p4 hQ hp hq hc hc' hx0 hy0 hx hy hbw hb2
    go_wp2_with fail
    go_loop [11, 12] (fun mo k => ∃ (j K : Nat), j ≤ 6 ∧ K = 2 ^ j ∧ k = .int .i64 K ∧ mo = .int .i64 (1 + (j : Int))) (fun _ k => n - (intOf k).toNat)
    case atStart => exact ⟨0, 1, by omega, rfl, rfl, rfl⟩
    case round =>
      obtain ⟨j, K, hj, hK, rfl, rfl⟩ := hrel
      have hK1 : 1 ≤ K := by rw [hK]; exact Nat.one_le_two_pow
      have hK2 : K ≤ 64 := by rw [hK]; exact Nat.pow_le_pow_right (n := 2) (by omega) hj
      have HK := Lib.hid hK
      clear hK
      by_cases hlt : K < n
      · have hj5 : j ≤ 5 := by
          rcases Nat.lt_or_ge j 6 with h | h
          · omega
          · have : 2 ^ 6 ≤ K := by rw [HK.out]; exact Nat.pow_le_pow_right (by omega) h
            omega
        go_wp2_with fail
        go_round
        case rel => exact ⟨j + 1, 2 * K, by omega, by rw [HK.out, Nat.pow_succ, Nat.mul_comm], by go_num, by go_num⟩
        case measure => simp [intOf]; omega
      · have hqm := (HQ.out j (by rw [← HK.out]; omega)).2
        by_cases hpn : p = n
        · subst hpn
          have g1 := (hb.cell (p := ⟨b, off + (n - 1) * 5 + 4, none⟩) hbl).trans (HC.out (n - 1) (by omega))
          have g2 := (hb.cell (p := ⟨b', off' + (n - 1) * 5 + 4, none⟩) hbl').trans (HC'.out (n - 1) (by omega))
          have hs : (at0 xs (n - 1) == at0 ys (n - 1)) = true := P3.out rfl
          go_wp2_with fail
          have i1 : (0 : Int) ≤ (n : Int) - 1 := by omega
          have i2 : (n : Int) - 1 < (n : Int) := by omega
          have i3 : IntKind.i64.wrap ((n : Int) - 1) = (n : Int) - 1 := IntWalk.i64_in _ (by omega)
          have i4 : ((n : Int) - 1).toNat = n - 1 := by omega
          go_quiet (fail)
          go_wp2
          go_ret
          exact ⟨rfl, bel_drewN hb _⟩
        · obtain ⟨k, rfl⟩ : ∃ k : Nat, p = k := ⟨p.toNat, by omega⟩
          have hkn : k < n := by omega
          have hk4 := P4.out (by omega)
          have g1 := (hb.cell (p := ⟨b, off + k * 5 + 4, none⟩) hbl).trans (HC.out k hkn)
          have g2 := (hb.cell (p := ⟨b', off' + k * 5 + 4, none⟩) hbl').trans (HC'.out k hkn)
          have hs : (at0 xs k != at0 ys k) = true := by
            have := hk4.1
            unfold sameC at this
            simp only [Int.toNat_natCast] at this
            rw [bne, this]; rfl
          have hpn1 : ((k : Int) == (n : Int)) = false := beq_eq_false_iff_ne.2 hpn
          by_cases hk0 : k = 0
          · subst hk0
            clear hk4
            go_wp2_with fail
            go_quiet (fail)
            go_wp2
            go_ret
            exact ⟨rfl, bel_drewN hb _⟩
          · have g3 := (hb.cell (p := ⟨b, off + (k - 1) * 5 + 4, none⟩) hbl).trans (HC.out (k - 1) (by omega))
            have g4 := (hb.cell (p := ⟨b', off' + (k - 1) * 5 + 4, none⟩) hbl').trans (HC'.out (k - 1) (by omega))
            have hs' : (at0 xs (k - 1) == at0 ys (k - 1)) = true := by
              have h := hk4.2
              rcases h with h | h
              · omega
              · rw [show ((k : Int) - 1).toNat = k - 1 by omega] at h; exact h
            have hk1 : ((k : Int) == 0) = false := beq_eq_false_iff_ne.2 (by omega)
            clear hk4
            go_wp2_with fail
            have i1 : (0 : Int) ≤ (k : Int) - 1 := by omega
            have i2 : (k : Int) - 1 < (n : Int) := by omega
            have i3 : IntKind.i64.wrap ((k : Int) - 1) = (k : Int) - 1 := IntWalk.i64_in _ (by omega)
            have i4 : ((k : Int) - 1).toNat = k - 1 := by omega
            go_quiet (fail)
            go_wp2
            go_ret
            exact ⟨rfl, bel_drewN hb _⟩

set_option maxRecDepth 100000 in
theorem auditSearch_lifted (os : Os) (started : os.Started) (H : Type) (enc : TypeId × Value → H) :
    ReturnsInHanded {} Try.checked os 6 .any (Rows.auditSearchSpec.pre6 enc Try.prog Try.f6 Rows.auditSearchRow.domain false) (Rows.auditSearchSpec.post enc Try.prog Try.f6 false true false false) := by
  refine lift_law (fn := Try.f6) started (by kernel_rfl) Try.func6
    (ChangeSpec.witness6 (enc := enc) (C := Try.checked) false ⟨#[], #[.slice none 0 0, .slice none 0 0], []⟩ 8 (by kernel_rfl) (by kernel_rfl) (by kernel_rfl) (by kernel_rfl)) (by kernel_rfl) rfl Try.underlying4 rfl ?_ ?_
  · intro ds h
    rw [Try.params6] at h
    match ds, h with
    | [d0, d1], _ => rfl
  · intro W args ds ps hA hlt hval hsz
    rw [Try.params6] at hA hval hsz
    obtain ⟨v0, vs0, d0, ds0, p0, q0, hargs, rfl, rfl, h0, r0⟩ := trodAll_cons hA
    obtain ⟨v1, vs1, d1, ds1, p1, q1, rfl, rfl, rfl, h1, r1⟩ := trodAll_cons r0
    obtain ⟨rfl, rfl, rfl⟩ := trodAll_nil r1
    obtain rfl : args = #[v0, v1] := by cases args; simp_all
    obtain ⟨b0, hv0⟩ := hval 0 28 v0 rfl rfl
    obtain ⟨b1, hv1⟩ := hval 1 28 v1 rfl rfl
    obtain ⟨A0, n0, c0, rfl⟩ := okWide_slice Try.underlying28 hv0
    obtain ⟨A1, n1, c1, rfl⟩ := okWide_slice Try.underlying28 hv1
    obtain ⟨f0, h0⟩ := h0
    obtain ⟨f1, h1⟩ := h1
    obtain ⟨A0', n0', c0', xs, e0, _, _, I0, _⟩ := open_recs (fun _ => rfl) h0
    obtain ⟨A1', n1', c1', ys, e1, _, _, I1, _⟩ := open_recs (fun _ => rfl) h1
    simp only [Value.cells, List.cons.injEq, and_true, Value.slice.injEq] at e0 e1
    obtain ⟨rfl, rfl, rfl⟩ := e0
    obtain ⟨rfl, rfl, rfl⟩ := e1
    exact auditSearch_walk A0 A1 n0 c0 n1 c1 xs ys W I0 I1
theorem AuditSearch_holds : Rows.AuditSearchSaid :=
  OpenClaim.holds_of_wide 6 Try.f6 rfl rfl rfl rfl rfl rfl rfl ⟨rfl, rfl, rfl, rfl, rfl⟩ rfl rfl rfl rfl rfl (by kernel_rfl) Try.func6 (by kernel_rfl)
    (of_decide_eq_true (by kernel_rfl)) (by unfold Func.isWrapper; first | (rw [if_pos (by decide +kernel)]; kernel_rfl) | (rw [if_neg (by decide +kernel)]; exact ⟨rfl, rfl⟩))
    (fun os started H enc _ => auditSearch_lifted os started H enc)

end Go.Proofs.Ytflljldlfgpimaa
