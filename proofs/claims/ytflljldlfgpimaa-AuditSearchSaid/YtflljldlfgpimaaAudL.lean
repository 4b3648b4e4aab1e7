/- The laws AuditFinds and AuditSearch hold of the given program for every input. No condition. -/
import Derived.Test.YtflljldlfgpimaaFrame
import Derived.Test.YtflljldlfgpimaaAudW
import Derived.Test.YtflljldlfgpimaaOpen
namespace Go.Proofs.Ytflljldlfgpimaa
open Go.ChangeShapes Go.WideShapes Go.ChangeAt Go.RowKit Pl

set_option maxHeartbeats 1000000 in
theorem law_ask (i ga gb b off b' off' n c d : Nat) (u v : Int) (w : World)
    (ha : w.cell? ⟨ga, 0, none⟩ = some (.slice (some ⟨b, off, none⟩) n c)) (hb : w.cell? ⟨gb, 0, none⟩ = some (.slice (some ⟨b', off', none⟩) n d))
    (hu : w.cell? ⟨b, off + i * 5 + 4, none⟩ = some (.int .u64 u)) (hv : w.cell? ⟨b', off' + i * 5 + 4, none⟩ = some (.int .u64 v)) (hi : i < n) :
    Calls Try.prog 18 #[.int .i64 i, .pointer (some ⟨ga, 0, none⟩), .pointer (some ⟨gb, 0, none⟩)] w
      fun e w' => e = .returned (.bool (u == v)) ∧ Quiet w w' := by
  have z1 : (0 : Int) ≤ (i : Int) := Int.natCast_nonneg _
  have z2 : (i : Int) < (n : Int) := by omega
  go_enter Try.func18, Try.ntmps18
  go_wp2
  go_quiet (fail)
  go_wp2
  go_ret
  exact ⟨rfl, _, rfl⟩

set_option maxHeartbeats 1000000 in
theorem auditFinds_no (A B : Option Addr) (n c m d : Nat) (w : World) (h : n ≠ m ∨ n = 0 ∨ 40 < n) :
    Calls Try.prog 5 #[.slice A n c, .slice B m d] w fun e w' => e = .returned (.bool true) ∧ Below w.heap.size w w' := by
  have HN := Lib.hid (fun W => find_no A B n c m d W h)
  by_cases h1 : n = m
  · subst h1
    by_cases h2 : n = 0
    · subst h2
      clear h
      go_enter Try.func5, Try.ntmps5
      go_wp2_with (go_at_call 17; refine (HN.out _).mono ?_; rintro e w1 ⟨rfl, hb1⟩; have f1 := hb1.cell (p := ⟨w.heap.size, 0, none⟩) (by simp; omega); have f2 := hb1.cell (p := ⟨w.heap.size + 1, 0, none⟩) (by simp))
      go_ret
      exact ⟨rfl, bel_trans (by repeat (first | exact Below.refl _ _ | assumption | refine bel_drewN ?_ _ | refine Below.drew ?_ | (refine Below.alloc ?_ (by simp <;> omega) _))) hb1⟩
    · have h3 : 40 < n := by omega
      have h4 : ((n : Int) == 0) = false := beq_eq_false_iff_ne.2 (by omega)
      clear h h2
      go_enter Try.func5, Try.ntmps5
      go_wp2_with (go_at_call 17; refine (HN.out _).mono ?_; rintro e w1 ⟨rfl, hb1⟩; have f1 := hb1.cell (p := ⟨w.heap.size, 0, none⟩) (by simp; omega); have f2 := hb1.cell (p := ⟨w.heap.size + 1, 0, none⟩) (by simp))
      go_ret
      exact ⟨rfl, bel_trans (by repeat (first | exact Below.refl _ _ | assumption | refine bel_drewN ?_ _ | refine Below.drew ?_ | (refine Below.alloc ?_ (by simp <;> omega) _))) hb1⟩
  · have h4 : ((m : Int) != (n : Int)) = true := by rw [bne_iff_ne]; omega
    clear h h1
    go_enter Try.func5, Try.ntmps5
    go_wp2_with (go_at_call 17; refine (HN.out _).mono ?_; rintro e w1 ⟨rfl, hb1⟩; have f1 := hb1.cell (p := ⟨w.heap.size, 0, none⟩) (by simp; omega); have f2 := hb1.cell (p := ⟨w.heap.size + 1, 0, none⟩) (by simp))
    go_ret
    exact ⟨rfl, bel_trans (by repeat (first | exact Below.refl _ _ | assumption | refine bel_drewN ?_ _ | refine Below.drew ?_ | (refine Below.alloc ?_ (by simp <;> omega) _))) hb1⟩

set_option maxRecDepth 100000 in
set_option maxHeartbeats 2000000 in
theorem auditFinds_ok (A B : Option Addr) (n c d : Nat) (xs ys : List Int) (w : World) (hx : Chains w A n xs) (hy : Chains w B n ys) (hn : 0 < n) (hn' : n ≤ 40) :
    Calls Try.prog 5 #[.slice A n c, .slice B n d] w fun e w' => e = .returned (.bool true) ∧ Below w.heap.size w w' := by
  have hmf : ∀ (fn : Fn) (first cap : Array Value) (w : World), (Instr.makeFunc fn first cap).run Try.prog w = .ok (.func fn first cap) w := fun _ _ _ _ => rfl
  have h4 : ((n : Int) == 0) = false := beq_eq_false_iff_ne.2 (by omega)
  obtain ⟨b, off, rfl, hb, hc⟩ := hx.cells hn
  obtain ⟨b', off', rfl, hb', hc'⟩ := hy.cells hn
  have b1 : Below w.heap.size w ((w.alloc (.cells #[.slice (some ⟨b, off, none⟩) n c] 28)).alloc (.cells #[.slice (some ⟨b', off', none⟩) n d] 28)) := (by repeat (first | exact Below.refl _ _ | assumption | refine bel_drewN ?_ _ | refine Below.drew ?_ | (refine Below.alloc ?_ (by simp <;> omega) _)))
  have HF := Lib.hid (find_ok _ _ n c d xs ys _ (hx.below b1) (hy.below b1) hn hn')
  have a1 : ((w.alloc (.cells #[.slice (some ⟨b, off, none⟩) n c] 28)).alloc (.cells #[.slice (some ⟨b', off', none⟩) n d] 28)).cell? ⟨w.heap.size, 0, none⟩ = some (.slice (some ⟨b, off, none⟩) n c) := by
    rw [World.cell?_alloc_past _ _ _ (by simp), World.cell?_alloc_at _ _ _ _ rfl]; rfl
  have a2 : ((w.alloc (.cells #[.slice (some ⟨b, off, none⟩) n c] 28)).alloc (.cells #[.slice (some ⟨b', off', none⟩) n d] 28)).cell? ⟨w.heap.size + 1, 0, none⟩ = some (.slice (some ⟨b', off', none⟩) n d) := by
    rw [World.cell?_alloc_at _ _ _ _ (by simp)]; rfl
  have A1 := Lib.hid a1
  have A2 := Lib.hid a2
  clear a1 a2
  go_enter Try.func5, Try.ntmps5
  go_wp2_with fail
  refine HF.out.mono ?_
  rintro e w1 ⟨rfl, hb1⟩
  have f1 := (hb1.cell (p := ⟨w.heap.size, 0, none⟩) (by simp; omega)).trans A1.out
  have f2 := (hb1.cell (p := ⟨w.heap.size + 1, 0, none⟩) (by simp)).trans A2.out
  have hbw := bel_trans b1 hb1
  clear b1 hb1 HF A1 A2
  have ask : ∀ (i : Nat) (wr : World), i < n → Quiet w1 wr → Calls Try.prog 18 #[.int .i64 i, .pointer (some ⟨w.heap.size, 0, none⟩), .pointer (some ⟨w.heap.size + 1, 0, none⟩)] wr
        fun e w' => e = .returned (.bool (sameC xs ys i)) ∧ Quiet wr w' := fun i wr hi hq =>
    law_ask i _ _ b off b' off' n c d _ _ wr ((hq.cell _).trans f1) ((hq.cell _).trans f2) ((hq.cell _).trans ((hbw.cell (p := ⟨b, off + i * 5 + 4, none⟩) hb).trans (hc i hi))) ((hq.cell _).trans ((hbw.cell (p := ⟨b', off' + i * 5 + 4, none⟩) hb').trans (hc' i hi))) hi
  have ASK := Lib.hid ask
  clear hc hc' ask
  go_wp2_with fail
  have e1 : (n : Int) - 1 = ((n - 1 : Nat) : Int) := by omega
  rw [e1]
  refine (ASK.out (n - 1) _ (by omega) (Quiet.refl _)).mono ?_
  rintro e wr ⟨rfl, hq⟩
  clear e1
  cases hs : sameC xs ys (n - 1)
  · have hF : findP (sameC xs ys) n = bisN (sameC xs ys) n (-1) ((n : Int) - 1) 1 := by unfold findP; rw [if_neg (by rw [hs]; simp)]
    have HF := Lib.hid hF
    clear hF
    have HS := Lib.hid hs
    clear hs
    go_wp2_with fail
    go_loopw [10, 11, 12] (fun hi qq lo wx => ∃ (l h q : Int) (f : Nat), lo = .int .i64 l ∧ hi = .int .i64 h ∧ qq = .int .i64 q ∧ -1 ≤ l ∧ l < h ∧ h ≤ 39 ∧ h < n ∧ h - l ≤ f ∧ f ≤ 40 ∧ 1 ≤ q ∧ q + f ≤ 90 ∧
        bisN (sameC xs ys) f l h q = bisN (sameC xs ys) n (-1) ((n : Int) - 1) 1 ∧ Quiet w1 wx) (fun hi _ lo _ => (intOf hi).toNat + 1 - (intOf lo + 1).toNat)
    case atStart => exact ⟨-1, (n : Int) - 1, 1, n, rfl, rfl, rfl, by omega, by omega, by omega, by omega, by omega, by omega, by omega, by omega, rfl, hq⟩
    case round =>
      obtain ⟨l, h, q, f, rfl, rfl, rfl, hl, hlh, hh, hhn, hff, hf40, hq0, hqf, hbis, hqw⟩ := hrel
      have HB := Lib.hid hbis
      clear hbis
      by_cases hd : h - l ≤ 1
      · have hF : findP (sameC xs ys) n = (h, q) := by rw [HF.out, ← HB.out, bisN_done _ _ _ _ _ (by omega)]
        have x1 : (findP (sameC xs ys) n).1 = h := by rw [hF]
        have x2 : (findP (sameC xs ys) n).2 = q := by rw [hF]
        clear hF
        go_wp2
        go_ret
        exact ⟨rfl, Quiet.after hbw hqw⟩
      · cases f with
        | zero => omega
        | succ f =>
          go_wp2_with fail
          rw [show l + (h - l) / 2 = ((l + (h - l) / 2).toNat : Int) by omega]
          refine (ASK.out (l + (h - l) / 2).toNat _ (by omega) hqw).mono ?_
          rintro e wq ⟨rfl, hfq⟩
          cases hs : sameC xs ys (l + (h - l) / 2).toNat
          · have HM := Lib.hid hs
            clear hs
            go_wp2
            go_roundw
            case rel => exact ⟨l, l + (h - l) / 2, q + 1, f, rfl, by rw [show max (l + (h - l) / 2) 0 = l + (h - l) / 2 by omega], rfl, hl, by omega, by omega, by omega, by omega, by omega, by omega, by omega, (by rw [← bisN_no (sameC xs ys) f l h q (by omega) HM.out]; exact HB.out), hqw.trans hfq⟩
            case measure => simp [intOf]; omega
          · have HM := Lib.hid hs
            clear hs
            go_wp2
            go_roundw
            case rel => exact ⟨l + (h - l) / 2, h, q + 1, f, by rw [show max (l + (h - l) / 2) 0 = l + (h - l) / 2 by omega], rfl, rfl, by omega, by omega, by omega, by omega, by omega, by omega, by omega, by omega, (by rw [← bisN_yes (sameC xs ys) f l h q (by omega) HM.out]; exact HB.out), hqw.trans hfq⟩
            case measure => simp [intOf]; omega
  · have hF : findP (sameC xs ys) n = ((n : Int), 1) := by unfold findP; rw [if_pos hs]
    have x1 : (findP (sameC xs ys) n).1 = n := by rw [hF]
    have x2 : (findP (sameC xs ys) n).2 = 1 := by rw [hF]
    clear hF
    have HS := Lib.hid hs
    clear hs
    go_wp2
    go_ret
    exact ⟨rfl, Quiet.after hbw hq⟩

theorem Recs.chains {w : World} {A : Option Addr} {n : Nat} {rs : List Rec} (h : Recs w A n rs) : Chains w A n (rs.map (·.chain)) :=
  ⟨by rw [List.length_map, h.len], fun hn => by
    obtain ⟨b, off, e, hb, hc⟩ := h.cells hn
    refine ⟨b, off, e, hb, fun j hj => ?_⟩
    obtain ⟨cs, ⟨A', m, c, rfl, _⟩, hcs⟩ := hc j hj
    rw [hcs 4 (by omega)]
    show some (Value.int .u64 (recAt rs j).chain) = _
    unfold recAt at0
    rw [List.getElem?_map, List.getElem?_eq_getElem (by rw [h.len]; exact hj)]; rfl⟩

theorem auditFinds_walk (A B : Option Addr) (n c m d : Nat) (rs ss : List Rec) (w : World) (hx : Recs w A n rs) (hy : Recs w B m ss) :
    Calls Try.prog 5 #[.slice A n c, .slice B m d] w fun e w' => e = .returned (.bool true) ∧ Below w.heap.size w w' := by
  by_cases h : n ≠ m ∨ n = 0 ∨ 40 < n
  · exact auditFinds_no A B n c m d w h
  · obtain rfl : n = m := by omega
    exact auditFinds_ok A B n c d _ _ w hx.chains hy.chains (by omega) (by omega)

set_option maxRecDepth 100000 in
theorem auditFinds_lifted (os : Os) (started : os.Started) (H : Type) (enc : TypeId × Value → H) :
    ReturnsInHanded {} Try.checked os 5 .any (Rows.auditFindsSpec.pre6 enc Try.prog Try.f5 Rows.auditFindsRow.domain false) (Rows.auditFindsSpec.post enc Try.prog Try.f5 false true false false) := by
  refine lift_law (fn := Try.f5) started (by kernel_rfl) Try.func5
    (ChangeSpec.witness6 (enc := enc) (C := Try.checked) false ⟨#[], #[.slice none 0 0, .slice none 0 0], []⟩ 8 (by kernel_rfl) (by kernel_rfl) (by kernel_rfl) (by kernel_rfl)) (by kernel_rfl) rfl Try.underlying4 rfl ?_ ?_
  · intro ds h
    rw [Try.params5] at h
    match ds, h with
    | [d0, d1], _ => rfl
  · intro W args ds ps hA hlt hval hsz
    rw [Try.params5] at hA hval hsz
    obtain ⟨v0, vs0, d0, ds0, p0, q0, hargs, rfl, rfl, h0, r0⟩ := trodAll_cons hA
    obtain ⟨v1, vs1, d1, ds1, p1, q1, rfl, rfl, rfl, h1, r1⟩ := trodAll_cons r0
    obtain ⟨rfl, rfl, rfl⟩ := trodAll_nil r1
    obtain rfl : args = #[v0, v1] := by cases args; simp_all
    obtain ⟨b0, hv0⟩ := hval 0 28 v0 rfl rfl
    obtain ⟨b1, hv1⟩ := hval 1 28 v1 rfl rfl
    obtain ⟨A0, n0, c0, rfl⟩ := okWide_slice Try.underlying28 hv0
    obtain ⟨A1, n1, c1, rfl⟩ := okWide_slice Try.underlying28 hv1
    obtain ⟨f0, h0⟩ := h0
    obtain ⟨f1, h1⟩ := h1
    obtain ⟨A0', n0', c0', xs, e0, _, _, I0, _⟩ := open_recs (fun _ => rfl) h0
    obtain ⟨A1', n1', c1', ys, e1, _, _, I1, _⟩ := open_recs (fun _ => rfl) h1
    simp only [Value.cells, List.cons.injEq, and_true, Value.slice.injEq] at e0 e1
    obtain ⟨rfl, rfl, rfl⟩ := e0
    obtain ⟨rfl, rfl, rfl⟩ := e1
    exact auditFinds_walk A0 A1 n0 c0 n1 c1 xs ys W I0 I1
theorem AuditFinds_holds : Rows.AuditFindsSaid :=
  OpenClaim.holds_of_wide 5 Try.f5 rfl rfl rfl rfl rfl rfl rfl ⟨rfl, rfl, rfl, rfl, rfl⟩ rfl rfl rfl rfl rfl (by kernel_rfl) Try.func5 (by kernel_rfl)
    (of_decide_eq_true (by kernel_rfl)) (by unfold Func.isWrapper; first | (rw [if_pos (by decide +kernel)]; kernel_rfl) | (rw [if_neg (by decide +kernel)]; exact ⟨rfl, rfl⟩))
    (fun os started H enc _ => auditFinds_lifted os started H enc)

end Go.Proofs.Ytflljldlfgpimaa
