/- The law DrawOnce holds of the given program for every input. No condition. -/
import Derived.Test.YthckpmgehhkacaaSortS
import Derived.Test.YthckpmgehhkacaaGrown
import Derived.Test.YthckpmgehhkacaaArgs
import Derived.Deep.AppendLies
import Derived.BigQuiet
namespace Go.Proofs.Ythckpmgehhkacaa
open Go.ChangeShapes Go.WideShapes Go.ChangeAt Go.RowKit Pl

/-- What has come by time T. -/
def cameP (seed n T : Nat) : List Nat := (List.range T).map (comesP seed n)
theorem cameP_length (seed n T : Nat) : (cameP seed n T).length = T := by simp [cameP]
theorem cameP_more (seed n t size : Nat) : cameP seed n ((t + 1) * size) = cameP seed n (t * size) ++ batchP seed size n t := by
  unfold cameP batchP
  rw [Nat.succ_mul, List.range_add, List.map_append, List.map_map]
  rfl
theorem came_piece (seed n e T : Nat) (hn : 1 ≤ n) (h : e * n + n ≤ T) : ((cameP seed n T).drop (e * n)).take n = shufP seed e n := by
  apply List.ext_getElem
  · rw [List.length_take, List.length_drop, cameP_length, shufP_length]; omega
  · intro j h1 h2
    rw [shufP_length] at h2
    rw [List.getElem_take, List.getElem_drop]
    unfold cameP
    rw [List.getElem_map, List.getElem_range]
    unfold comesP atN
    rw [Nat.mul_comm e n, Nat.mul_add_div (by omega), Nat.mul_add_mod, Nat.div_eq_of_lt h2, Nat.mod_eq_of_lt h2, Nat.add_zero, List.getElem?_eq_getElem (by rw [shufP_length]; exact h2)]
    rfl
theorem vN_range (n : Nat) {j : Nat} (hj : j < n) : (vN (List.range n))[j]? = some (.int .i64 (j : Int)) := by
  rw [vN_at _ (by simpa using hj)]
  unfold atN
  rw [List.getElem?_range hj]
  rfl
theorem vN_ints (l : List Nat) : vN l = (l.map fun (x : Nat) => (x : Int)).map (Value.int .i64) := by unfold vN; rw [List.map_map]; rfl

set_option maxRecDepth 100000 in
set_option maxHeartbeats 8000000 in
theorem drawOnce_walk (seed epoch n size : Int) (w : World) (s0 : 0 ≤ seed) (s1 : seed < 18446744073709551616) (HSO : SortC) :
    Calls Try.prog 5 #[.int .u64 seed, .int .i64 epoch, .int .i64 n, .int .i64 size] w fun e w' => e = .returned (.bool true) ∧ Below w.heap.size w w' := by
  obtain ⟨i0, hi0, hz0, hz1, hz2⟩ := info_parts int_info
  have H1 := Lib.hid (show Calls Try.prog 29 #[.int .u64 1, .int .i64 0, .int .i64 2] w (OwnNT w 2 [0, 1] 0) from by
    have h := draw_Shuffle_ok 1 0 2 w (by omega) (by omega) (by omega) (by omega) (by omega)
    rw [show shufP (1 : Int).toNat 0 2 = [0, 1] by decide +kernel] at h
    exact h)
  have HR := Lib.hid (fun (x : Int) (m : Nat) W h1 h2 => ref_Rest x m W h1 h2)
  have HS := Lib.hid (fun (ep N : Nat) W h1 h2 h3 => draw_Shuffle_ok seed ep N W s0 s1 h1 h2 h3)
  have HB := Lib.hid (fun (S N t : Nat) W h1 h2 h3 h4 h5 => draw_Batch_ok seed S N t W s0 s1 h1 h2 h3 h4 h5)
  go_enter Try.func5, Try.ntmps5
  go_wp2_with fail
  refine H1.out.mono ?_
  rintro e w1 ⟨A, c, rfl, ho1, hb1⟩
  obtain ⟨g, cp, hS, _, _⟩ := ho1.form (by omega)
  obtain ⟨rfl, rfl⟩ : A = some ⟨g, 0, none⟩ ∧ c = cp := by injection hS with a _ c; exact ⟨a, c⟩
  clear hS
  have c0 := ho1.cellAt 0 (by omega)
  have c1 := ho1.cellAt 1 (by omega)
  rw [show (vN [0, 1])[0]? = some (.int .i64 0) from rfl] at c0
  rw [show (vN [0, 1])[1]? = some (.int .i64 1) from rfl] at c1
  go_wp2_with fail
  go_quiet (fail)
  obtain ⟨w2, hw2⟩ : ∃ w2, w2 = w1.drewN nq := ⟨_, rfl⟩
  have hb2 : Below w.heap.size w w2 := by rw [hw2]; exact bel_drewN hb1 _
  rw [← hw2]
  clear hw2 c0 c1 ho1 hb1 H1
  go_wp2_with fail
  refine (HR.out n 16 _ (by omega) (by omega)).mono ?_
  rintro e w3 ⟨r, hr, rfl, rfl⟩
  obtain ⟨N, hN⟩ : ∃ N : Nat, N = 1 + r := ⟨_, rfl⟩
  have e1 : IntKind.i64.wrap (1 + (r : Int)) = (N : Int) := by rw [IntKind.wrap_i64]; omega
  have N1 : 1 ≤ N ∧ N ≤ 16 := by omega
  clear hN
  go_wp2_with fail
  refine (HR.out epoch 1001 _ (by omega) (by omega)).mono ?_
  rintro e w4 ⟨ep, hep, rfl, rfl⟩
  go_wp2_with fail
  refine (HS.out ep N _ (by omega) N1.1 N1.2).mono ?_
  rintro e w5 ⟨A, c, rfl, ho5, hb5⟩
  obtain ⟨g, cp, hS, _, _⟩ := ho5.form (by omega)
  obtain ⟨rfl, rfl⟩ : A = some ⟨g, 0, none⟩ ∧ c = cp := by injection hS with a _ c; exact ⟨a, c⟩
  clear hS
  go_wp2_with fail
  refine (HSO _ g c N _ _ ho5 (shufP_perm _ _ _) (by omega) hb5.size).mono ?_
  rintro e w6 ⟨rfl, ho6, hb6⟩
  have hb7 : Below w.heap.size w w6 := bel_trans hb2 (hb5.trans hb6)
  have HC := Lib.hid (fun j (hj : j < N) => (ho6.cellAt j (by omega)).trans (vN_range N hj))
  clear ho5 hb5 hb6
  go_wp2
  go_loop [13, 58] (fun _ j => ∃ k : Nat, k ≤ N ∧ j = .int .i64 k) (fun _ j => N - (intOf j).toNat)
  case atStart => exact ⟨0, by omega, rfl⟩
  case round =>
    obtain ⟨k, hk, rfl⟩ := hrel
    by_cases hlt : k < N
    · have c0 := HC.out k hlt
      have k0 : (0 : Int) ≤ (k : Int) := by omega
      have k1 : (k : Int) < (N : Int) := by omega
      go_wp2
      go_round
      case rel => exact ⟨k + 1, by omega, by go_num⟩
      case measure => simp [intOf]; omega
    · obtain rfl : N = k := by omega
      clear HC ho6 hlt
      go_wp2_with fail
      refine (HR.out size 8 _ (by omega) (by omega)).mono ?_
      rintro e w7 ⟨r3, hr3, rfl, rfl⟩
      obtain ⟨S, hSd⟩ : ∃ S : Nat, S = 1 + r3 := ⟨_, rfl⟩
      have e3 : IntKind.i64.wrap (1 + (r3 : Int)) = (S : Int) := by rw [IntKind.wrap_i64]; omega
      have S1 : 1 ≤ S ∧ S ≤ 8 := by omega
      clear hSd
      have HQ := Lib.hid (fun t => cameP_more seed.toNat N t S)
      go_wp2
      go_loopw [14, 15, 16, 17] (fun o s _ _ wr => ∃ t q : Nat, t ≤ 33 ∧ q ≤ 60 ∧ s = .int .i64 t ∧ q = t * S ∧ wr.ownsRow w.heap.size 3 1 o q (vN (cameP seed.toNat N q)) ∧ Below w.heap.size w wr) (fun _ s _ _ _ => 41 - (intOf s).toNat)
      case atStart => exact ⟨0, 0, by omega, by omega, rfl, by simp, World.ownsRow_nil _ _ _ _, hb7⟩
      case round =>
        obtain ⟨t, q, ht, hq60, rfl, hq, hown, hb⟩ := hrel
        have htq : t ≤ q := by rw [hq]; exact Nat.le_mul_of_pos_right _ (by omega)
        have HQ1 := Lib.hid hq
        clear hq
        obtain ⟨A, c, rfl, hIw⟩ := own_ints (by rw [vN_ints] at hown; exact hown)
        have hqc := own_capT hown
        have t0 : (t : Int) < 40 := by omega
        have t1 : decide ((t : Int) < 40) = true := decide_eq_true t0
        by_cases h1 : q < 2 * N
        · have t2 : (q : Int) < 2 * (N : Int) := by omega
          have t3 : IntKind.i64.wrap (2 * (N : Int)) = 2 * (N : Int) := by rw [IntKind.wrap_i64]; omega
          go_wp2_with fail
          refine (HB.out S N t _ (by omega) (by omega) (by omega) (by omega) (by omega)).mono ?_
          rintro e w8 ⟨A8, c8, rfl, ho8, hb8⟩
          obtain ⟨g8, cp8, hS8, _, _⟩ := ho8.form (by omega)
          obtain ⟨rfl, rfl⟩ : A8 = some ⟨g8, 0, none⟩ ∧ c8 = cp8 := by injection hS8 with a _ c; exact ⟨a, c⟩
          clear hS8
          have hown8 := own_below hown hb8
          have hbw8 := bel_trans hb hb8
          have hnl : (vN (batchP seed.toNat S N t)).length = S * 1 := by rw [vN_length, batchP_length, Nat.mul_one]
          have hnw : ∀ j u, (vN (batchP seed.toNat S N t))[j]? = some u → w8.cell? ((⟨g8, 0, none⟩ : Addr).add j) = some u := by
            intro j u hu
            have hj : j < S := by
              rcases Nat.lt_or_ge j S with h | h
              · exact h
              · rw [List.getElem?_eq_none (by omega)] at hu; cases hu
            rw [Go.WideShapes.add_plain, Nat.zero_add, ho8.cellAt j (by omega), hu]
          have hsz : w.heap.size ≤ w8.heap.size := hbw8.size
          go_wp2_with (at_builtin; refine wpList_append_lies _ rfl _ _ 23 rfl w.heap.size 3 i0 (.int .i64 0) 1 8 Try.underlying23 hi0 hz0 hz1 hz2 rfl (by decide) (.slice A q c) q (vN (cameP seed.toNat N q)) rfl hown8 ⟨g8, 0, none⟩ S c8 (vN (batchP seed.toNat S N t)) rfl hnl hnw (by intro u hu; unfold vN at hu; obtain ⟨x, _, rfl⟩ := List.mem_map.1 hu; rfl) (by omega) (by unfold maxLen; omega) (by omega) hsz w8.heap.size rfl ?_; intro gB cB wB hownB hgrowB hggB hltB)
          have hbB : Below w.heap.size w wB := Below.grown hbw8 hgrowB hsz (fun x hx => (hown8.lt x hx).1)
          go_roundw
          case rel =>
            refine ⟨t + 1, q + S, by omega, by omega, by go_num, by rw [Nat.succ_mul, HQ1.out], ?_, hbB⟩
            rw [show cameP seed.toNat N (q + S) = cameP seed.toNat N q ++ batchP seed.toNat S N t by rw [HQ1.out, ← HQ.out t, Nat.succ_mul]]
            rw [show vN (cameP seed.toNat N q ++ batchP seed.toNat S N t) = vN (cameP seed.toNat N q) ++ vN (batchP seed.toNat S N t) from List.map_append]
            exact hownB
          case measure => simp [intOf]; omega
        · have t2 : ¬ (q : Int) < 2 * (N : Int) := by omega
          have t3 : IntKind.i64.wrap (2 * (N : Int)) = 2 * (N : Int) := by rw [IntKind.wrap_i64]; omega
          go_wp2
          go_loopw [18, 19, 20, 120] (fun s _ _ _ wr' => ∃ e p : Nat, s = .int .i64 p ∧ p = e * N ∧ p ≤ q ∧ Below wr.heap.size wr wr') (fun s _ _ _ _ => q + 1 - (intOf s).toNat)
          case atStart => exact ⟨0, 0, rfl, by simp, by omega, Below.refl _ _⟩
          case round =>
            obtain ⟨e, p, rfl, hp, hpq, hbr⟩ := hrel
            have HP := Lib.hid hp
            clear hp
            have p0 : (0 : Int) ≤ (p : Int) := by omega
            have p1 : IntKind.i64.wrap ((p : Int) + (N : Int)) = (p : Int) + (N : Int) := by rw [IntKind.wrap_i64]; omega
            by_cases hle : p + N ≤ q
            · have q0 : (p : Int) + (N : Int) ≤ (q : Int) := by omega
              have q1 : (p : Int) ≤ (p : Int) + (N : Int) := by omega
              have q2 : (p : Int) + (N : Int) ≤ (c : Int) := by omega
              have q3 : ¬ c = p := by omega
              have q4 : (0 : Int) ≤ (p : Int) + (N : Int) := by omega
              have hIx := (hIw.below hbr).cut (i := p) (m := N) (by omega) (A' := A.map (·.add p)) (fun _ b off e => by rw [e]; simp [Go.WideShapes.add_plain])
              have PE : (((cameP seed.toNat N q).map fun (x : Nat) => (x : Int)).drop p).take N = (shufP seed.toNat e N).map fun (x : Nat) => (x : Int) := by
                rw [← List.map_drop, ← List.map_take, HP.out, came_piece _ _ _ _ (by omega) (by rw [← HP.out]; exact hle)]
              rw [PE] at hIx
              clear PE
              have HCL := Lib.hid (sl_Clone (A.map (·.add p)) N (c - p) _ _ hIx (by omega))
              have HLN := Lib.hid (show ((shufP seed.toNat e N).map fun (x : Nat) => (x : Int)).length = N by rw [List.length_map, shufP_length])
              clear hIx
              go_wp2_with fail
              refine HCL.out.mono ?_
              rintro e9 w9 ⟨A9, c9, rfl, ho9, hb9⟩
              rw [HLN.out] at ho9 ⊢
              rw [← vN_ints] at ho9
              obtain ⟨g9, cp9, hS9, _, _⟩ := ho9.form (by omega)
              obtain ⟨rfl, rfl⟩ : A9 = some ⟨g9, 0, none⟩ ∧ c9 = cp9 := by injection hS9 with a _ c; exact ⟨a, c⟩
              clear hS9
              go_wp2_with fail
              refine (HSO _ g9 c9 N _ _ ho9 (shufP_perm _ _ _) (by omega) hb9.size).mono ?_
              rintro e10 w10 ⟨rfl, ho10, hb10⟩
              have hbz := bel_trans hbr (hb9.trans hb10)
              have HC := Lib.hid (fun j (hj : j < N) => (ho10.cellAt j (by omega)).trans (vN_range N hj))
              clear ho9 hb9 hb10 HCL ho10
              go_wp2
              go_loop [20, 120] (fun _ j => ∃ k : Nat, k ≤ N ∧ j = .int .i64 k) (fun _ j => N - (intOf j).toNat)
              case atStart => exact ⟨0, by omega, rfl⟩
              case round =>
                obtain ⟨k, hk, rfl⟩ := hrel
                by_cases hlt : k < N
                · have c0 := HC.out k hlt
                  have k0 : (0 : Int) ≤ (k : Int) := by omega
                  have k1 : (k : Int) < (N : Int) := by omega
                  go_wp2
                  go_round
                  case rel => exact ⟨k + 1, by omega, by go_num⟩
                  case measure => simp [intOf]; omega
                · obtain rfl : N = k := by omega
                  clear HC hlt
                  go_wp2
                  go_roundw
                  case rel => exact ⟨e + 1, p + N, by go_num, by rw [Nat.succ_mul, HP.out], by omega, hbz⟩
                  case measure => simp [intOf]; omega
            · have q0 : ¬ (p : Int) + (N : Int) ≤ (q : Int) := by omega
              go_wp2
              go_ret
              exact ⟨rfl, bel_trans hb hbr⟩

set_option maxRecDepth 100000 in
theorem drawOnce_lifted (os : Os) (started : os.Started) (H : Type) (enc : TypeId × Value → H) :
    ReturnsInHanded {} Try.checked os 5 .any (Rows.drawOnceSpec.pre6 enc Try.prog Try.f5 Rows.drawOnceRow.domain false) (Rows.drawOnceSpec.post enc Try.prog Try.f5 false true false false) := by
  refine lift_law (fn := Try.f5) started (by kernel_rfl) Try.func5
    (ChangeSpec.witness6 (enc := enc) (C := Try.checked) false ⟨#[], #[.int .u64 0, .int .i64 0, .int .i64 0, .int .i64 0], []⟩ 8 (by kernel_rfl) (by kernel_rfl) (by kernel_rfl) (by kernel_rfl)) (by kernel_rfl) rfl Try.underlying4 rfl ?_ ?_
  · intro ds h
    rw [Try.params5] at h
    match ds, h with
    | [d0, d1, d2, d3], _ => rfl
  · intro W args ds ps hA hlt hval hsz
    rw [Try.params5] at hA hval hsz
    obtain ⟨v0, vs0, d0, ds0, p0, q0, hargs, rfl, rfl, H0, T0⟩ := trodAll_cons hA
    obtain ⟨v1, vs1, d1, ds1, p1, q1, rfl, rfl, rfl, H1, T1⟩ := trodAll_cons T0
    obtain ⟨v2, vs2, d2, ds2, p2, q2, rfl, rfl, rfl, H2, T2⟩ := trodAll_cons T1
    obtain ⟨v3, vs3, d3, ds3, p3, q3, rfl, rfl, rfl, H3, T3⟩ := trodAll_cons T2
    obtain ⟨rfl, rfl, rfl⟩ := trodAll_nil T3
    obtain rfl : args = #[v0, v1, v2, v3] := by cases args; simp_all
    obtain ⟨b0, hv0⟩ := hval 0 22 v0 rfl rfl
    obtain ⟨b1, hv1⟩ := hval 1 3 v1 rfl rfl
    obtain ⟨b2, hv2⟩ := hval 2 3 v2 rfl rfl
    obtain ⟨b3, hv3⟩ := hval 3 3 v3 rfl rfl
    obtain ⟨seed, rfl, y0⟩ := arg_u64 hv0 H0
    obtain ⟨epoch, rfl, _⟩ := arg_int hv1 H1
    obtain ⟨n, rfl, _⟩ := arg_int hv2 H2
    obtain ⟨size, rfl, _⟩ := arg_int hv3 H3
    have z0 := wf_u64 y0
    exact drawOnce_walk seed epoch n size W (by omega) (by omega) sl_Sort
theorem DrawOnce_holds : Rows.DrawOnceSaid :=
  OpenClaim.holds_of_wide 5 Try.f5 rfl rfl rfl rfl rfl rfl rfl ⟨rfl, rfl, rfl, rfl, rfl⟩ rfl rfl rfl rfl rfl (by kernel_rfl) Try.func5 (by kernel_rfl)
    (of_decide_eq_true (by kernel_rfl)) (by unfold Func.isWrapper; first | (rw [if_pos (by decide +kernel)]; kernel_rfl) | (rw [if_neg (by decide +kernel)]; exact ⟨rfl, rfl⟩))
    (fun os started H enc _ => drawOnce_lifted os started H enc)

end Go.Proofs.Ythckpmgehhkacaa
