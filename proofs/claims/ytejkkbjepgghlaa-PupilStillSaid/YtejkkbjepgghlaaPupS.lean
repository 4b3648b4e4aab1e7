/- The law PupilStill: what a right answer leaves of the gradient, plainly; the parts of the law, walks. -/
import Derived.Test.YtejkkbjepgghlaaPupA
import Derived.Test.YtejkkbjepgghlaaRefG
import Derived.Deep.DeepCutAuto
import Derived.Deep.CutBlock
import Derived.Outline
namespace Go.Proofs.Ytejkkbjepgghlaa
open Go.ChangeShapes Go.WideShapes Go.ChangeAt Go.RowKit Pl

/-- A list of noughts. -/
def Z0 (l : List Int) : Prop := ∀ k, at0 l k = 0
theorem Z0.mem {l : List Int} (h : Z0 l) : ∀ z ∈ l, z = 0 := by
  intro z hz
  obtain ⟨k, hk, rfl⟩ := List.mem_iff_getElem.1 hz
  rw [← at0_getElem _ _ hk]; exact h k
theorem at0_out {f : Nat → Int} {n k : Nat} (h : n ≤ k) : at0 (upto f n) k = 0 := by
  unfold at0
  rw [List.getElem?_eq_none (by rw [upto_length]; exact h)]; rfl
theorem Z0.upto {f : Nat → Int} (h : ∀ k, f k = 0) (n : Nat) : Z0 (upto f n) := by
  intro k
  rcases Nat.lt_or_ge k n with hk | hk
  · rw [at0_upto f hk]; exact h k
  · exact at0_out hk
theorem offL_self (y : List Int) : Z0 (offL y y) := by
  refine Z0.upto (fun k => ?_) _
  unfold subF
  rw [Int.sub_self]; decide
theorem dotN_zero_r (a : List Int) {b : List Int} (h : Z0 b) (k : Nat) : dotN a b k = 0 := by
  induction k with
  | zero => rfl
  | succ k ih => simp only [dotN]; rw [ih, h k, mulF_zero_r]; decide
theorem backL_zero (A : List Int) (r c : Nat) {v : List Int} (h : Z0 v) : Z0 (backL A r c v) := Z0.upto (fun _ => dotN_zero_r _ h _) _
theorem maskL_zero (h : List Int) {g : List Int} (hg : Z0 g) : Z0 (maskL h g) := Z0.upto (fun j => by split; rfl; exact hg j) _
theorem outerL_zero {a : List Int} (b : List Int) (h : Z0 a) : Z0 (outerL a b) := Z0.upto (fun k => by rw [h, mulF_zero_l]) _
theorem Z0.ok {l : List Int} (h : Z0 l) : okL l = true := (okL_iff l).2 fun n hn => by rw [h.mem n hn]; decide
theorem Z0.app {a b : List Int} (ha : Z0 a) (hb : Z0 b) : ∀ z ∈ a ++ b, z = 0 := fun z hz => (List.mem_append.1 hz).elim (ha.mem z) (hb.mem z)
theorem gB1_zero (H I O : Nat) (a1 b1 a2 b2 x : List Int) : Z0 (gB1 H I O a1 b1 a2 b2 x (outpL H I O a1 b1 a2 b2 x)) := maskL_zero _ (backL_zero _ _ _ (offL_self _))
theorem lossP_self (H I O : Nat) (a1 b1 a2 b2 x : List Int) : lossP H I O a1 b1 a2 b2 x (outpL H I O a1 b1 a2 b2 x) = 0 := dotN_zero_r _ (offL_self _) _
theorem lossO_nonneg (r1 c1 : Int) (a1 : List Int) (r2 c2 : Int) (a2 b1 b2 x t : List Int) : 0 ≤ lossO r1 c1 a1 r2 c2 a2 b1 b2 x t := by
  unfold lossO; split
  · exact dotN_sq _ _
  · exact Int.le_refl _
theorem hidL_nonneg (H I : Nat) (a1 b1 x : List Int) : ∀ z ∈ hidL H I a1 b1 x, 0 ≤ z := by
  intro z hz
  obtain ⟨k, hk, rfl⟩ := List.mem_iff_getElem.1 hz
  rw [← at0_getElem _ _ hk]
  rw [hidL_length] at hk
  unfold hidL reluL
  rw [at0_upto _ (by rw [sumL_length, mulL_length]; exact hk)]
  omega
/-- The gradient where the answer was right: all noughts, and a pupil. -/
theorem gradP_still {H I O : Nat} {a1 b1 a2 b2 x : List Int} (hH : 1 ≤ H ∧ H ≤ 4) (hI : 1 ≤ I ∧ I ≤ 4) (hO : 1 ≤ O ∧ O ≤ 4) (hx : x.length = I) :
    ∃ z1 z2 z3 z4 : List Int, gradP H I O a1 b1 a2 b2 x (outpL H I O a1 b1 a2 b2 x) = ⟨H, I, z1, O, H, z2, z3, z4⟩ ∧ pupE H I z1 O H z2 z3 z4 = 0 ∧ (∀ z ∈ flatP z1 z3 z2 z4, z = 0) ∧ z1.length ≤ 16 ∧ z2.length ≤ 16 ∧ z3.length ≤ 16 ∧ z4.length ≤ 16 := by
  have q1 := gB1_zero H I O a1 b1 a2 b2 x
  have q2 := offL_self (outpL H I O a1 b1 a2 b2 x)
  have q3 := outerL_zero x q1
  have q4 := outerL_zero (hidL H I a1 b1 x) q2
  have l3 : (gB1 H I O a1 b1 a2 b2 x (outpL H I O a1 b1 a2 b2 x)).length = H := by unfold gB1; rw [maskL_length, backL_length]
  have l4 : (offL (outpL H I O a1 b1 a2 b2 x) (outpL H I O a1 b1 a2 b2 x)).length = O := by rw [offL_length, outpL_length]
  have l1 : (outerL (gB1 H I O a1 b1 a2 b2 x (outpL H I O a1 b1 a2 b2 x)) x).length = H * I := by unfold outerL; rw [upto_length, l3, hx]
  have l2 : (outerL (offL (outpL H I O a1 b1 a2 b2 x) (outpL H I O a1 b1 a2 b2 x)) (hidL H I a1 b1 x)).length = O * H := by unfold outerL; rw [upto_length, l4, hidL_length]
  have m1 : H * I ≤ 4 * 4 := Nat.mul_le_mul hH.2 hI.2
  have m2 : O * H ≤ 4 * 4 := Nat.mul_le_mul hO.2 hH.2
  refine ⟨_, _, _, _, rfl, ?_, ?_, by omega, by omega, by omega, by omega⟩
  · have e1 : ((H * I : Nat) : Int) = (H : Int) * (I : Int) := Int.natCast_mul _ _
    have e2 : ((O * H : Nat) : Int) = (O : Int) * (H : Int) := Int.natCast_mul _ _
    have sb : ∀ n : Nat, 1 ≤ n ∧ n ≤ 4 → sideB (n : Int) = true := fun n h => by rw [sideB_iff]; omega
    have M1 : matE H I (outerL (gB1 H I O a1 b1 a2 b2 x (outpL H I O a1 b1 a2 b2 x)) x) = 0 := by
      unfold matE
      rw [sb H hH, sb I hI, l1, e1, q3.ok]; simp
    have M2 : matE O H (outerL (offL (outpL H I O a1 b1 a2 b2 x) (outpL H I O a1 b1 a2 b2 x)) (hidL H I a1 b1 x)) = 0 := by
      unfold matE
      rw [sb O hO, sb H hH, l2, e2, q4.ok]; simp
    unfold pupE
    rw [M1, M2, l3, l4, q1.ok, q2.ok]; simp
  · intro z hz
    unfold flatP at hz
    rcases List.mem_append.1 hz with hz | hz
    · rcases List.mem_append.1 hz with hz | hz
      · rcases List.mem_append.1 hz with hz | hz
        · exact q3.mem z hz
        · exact q1.mem z hz
      · exact q4.mem z hz
    · exact q2.mem z hz

theorem one_pup : pupE 1 1 [65536] 1 1 [65536] [0] [0] = 0 := by decide +kernel
theorem one_both : bothE 1 1 [65536] 1 1 [65536] [0] [0] ((1 : Nat) : Int) ((1 : Nat) : Int) = 0 := by decide +kernel
theorem one_loss : lossO 1 1 [65536] 1 1 [65536] [0] [0] [65536] [196608] = 262144 := by decide +kernel
theorem one_grad : gradO 1 1 [65536] 1 1 [65536] [0] [0] [65536] [196608] = ⟨1, 1, [-131072], 1, 1, [-131072], [-131072], [-131072]⟩ := by
  have h : gradO 1 1 [65536] 1 1 [65536] [0] [0] [65536] [196608] = gradP 1 1 1 [65536] [0] [65536] [0] [65536] [196608] := if_pos one_both
  rw [h]
  unfold gradP
  congr 1 <;> decide +kernel

def notV (v : Value) : Bool := match v with | .int _ n => n != 0 | _ => false
def negV (v : Value) : Bool := match v with | .int _ n => decide (n < 0) | _ => false
theorem notV_none {l : List Int} (h : ∀ z ∈ l, z = 0) : (l.map (Value.int .i64)).any notV = false := by
  rw [List.any_eq_false]
  intro v hv
  obtain ⟨z, hz, rfl⟩ := List.mem_map.1 hv
  simp [notV, h z hz]
theorem negV_none {l : List Int} (h : ∀ z ∈ l, 0 ≤ z) : (l.map (Value.int .i64)).any negV = false := by
  rw [List.any_eq_false]
  intro v hv
  obtain ⟨z, hz, rfl⟩ := List.mem_map.1 hv
  have := h z hz
  simp [negV]; omega
theorem still_1 (n : Int) (w : World) : Calls Try.prog 44 #[.int .i64 n] w fun e w' => e = .returned (.bool (notV (.int .i64 n))) ∧ Quiet w w' := by
  go_enter Try.func44, Try.ntmps44
  go_wp2
  go_ret
  exact ⟨rfl, Quiet.refl _⟩
theorem still_2 (n : Int) (w : World) : Calls Try.prog 45 #[.int .i64 n] w fun e w' => e = .returned (.bool (negV (.int .i64 n))) ∧ Quiet w w' := by
  go_enter Try.func45, Try.ntmps45
  go_wp2
  go_ret
  exact ⟨rfl, Quiet.refl _⟩
set_option maxHeartbeats 1000000 in
/-- slices.IndexFunc, ContainsFunc over []int with the function coachkeep.PupilStill$1. -/
theorem still1_index (A : Option Addr) (n c : Nat) (vs : List Value) (p : Value → Bool) (w : World) (hv : Vals w A n vs) (hn : n ≤ 9223372036854775807)
    (hf : ∀ v W, v ∈ vs → Quiet w W → Calls Try.prog 44 #[v] W fun e W' => e = .returned (.bool (p v)) ∧ Quiet W W') :
    Calls Try.prog 100 #[.slice A n c, .func (.func 44) #[] #[]] w fun e w' => e = .returned (.int .i64 (idxV p vs)) ∧ Quiet w w' := by
  go_enter Try.func100, Try.ntmps100
  go_wp2
  go_loopw [5, 8] (fun _ i wr => ∃ k : Nat, k ≤ n ∧ i = .int .i64 k ∧ (∀ j, j < k → p (vs[j]?.getD undef) = false) ∧ Quiet w wr) (fun _ i _ => n - (intOf i).toNat)
  case atStart => exact ⟨0, Nat.zero_le _, rfl, fun j hj => absurd hj (by omega), Quiet.refl _⟩
  case round =>
    obtain ⟨k, hk, rfl, hno, hq⟩ := hrel
    by_cases hlt : k < n
    · obtain ⟨b, off, rfl, hb, hc⟩ := (hv.below hq.below).cells (by omega)
      have g1 := hc k hlt
      have hmem : vs[k]?.getD undef ∈ vs := by rw [List.getElem?_eq_getElem (by rw [hv.len]; exact hlt)]; exact List.getElem_mem _
      obtain ⟨v, hvv⟩ : ∃ v, vs[k]?.getD undef = v := ⟨_, rfl⟩
      rw [hvv] at g1 hmem
      have HV := Lib.hid hvv
      have HN := Lib.hid hno
      clear hc hno hvv
      have hcall := Lib.hid (hf v)
      clear hf
      cases hp : p v
      · have HP := Lib.hid hp
        clear hp
        go_wp2_with (go_at_call 44; refine (hcall.out _ hmem hq).mono ?_; rintro e w1 ⟨rfl, hq1⟩; rw [HP.out])
        go_roundw
        case rel => exact ⟨k + 1, by omega, by go_num, fun j hj => by
          rcases Nat.lt_or_ge j k with h | h
          · exact HN.out j h
          · obtain rfl : j = k := by omega
            rw [HV.out]; exact HP.out, hq.trans hq1⟩
        case measure => simp [intOf]; omega
      · have HP := Lib.hid hp
        clear hp
        go_wp2_with (go_at_call 44; refine (hcall.out _ hmem hq).mono ?_; rintro e w1 ⟨rfl, hq1⟩; rw [HP.out])
        go_ret
        exact ⟨ret_int (idxV_some k (by rw [hv.len]; exact hlt) HN.out (by rw [HV.out]; exact HP.out)).symm, hq.trans hq1⟩
    · have : k = n := by omega
      subst this
      go_wp2
      go_ret
      exact ⟨ret_int (idxV_none fun j hj => hno j (by rw [← hv.len]; exact hj)).symm, hq⟩

set_option maxHeartbeats 1000000 in
theorem still1_any (A : Option Addr) (n c : Nat) (vs : List Value) (p : Value → Bool) (w : World) (hv : Vals w A n vs) (hn : n ≤ 9223372036854775807)
    (hf : ∀ v W, v ∈ vs → Quiet w W → Calls Try.prog 44 #[v] W fun e W' => e = .returned (.bool (p v)) ∧ Quiet W W') :
    Calls Try.prog 43 #[.slice A n c, .func (.func 44) #[] #[]] w fun e w' => e = .returned (.bool (vs.any p)) ∧ Quiet w w' := by
  go_enter Try.func43, Try.ntmps43
  go_wp2_with (go_at_call 100; refine (still1_index A n c vs p _ hv hn hf).mono ?_; rintro e w1 ⟨rfl, hq1⟩)
  go_ret
  exact ⟨ret_bool (idxV_any vs), hq1⟩
set_option maxHeartbeats 1000000 in
/-- slices.IndexFunc, ContainsFunc over []int with the function coachkeep.PupilStill$2. -/
theorem still2_index (A : Option Addr) (n c : Nat) (vs : List Value) (p : Value → Bool) (w : World) (hv : Vals w A n vs) (hn : n ≤ 9223372036854775807)
    (hf : ∀ v W, v ∈ vs → Quiet w W → Calls Try.prog 45 #[v] W fun e W' => e = .returned (.bool (p v)) ∧ Quiet W W') :
    Calls Try.prog 100 #[.slice A n c, .func (.func 45) #[] #[]] w fun e w' => e = .returned (.int .i64 (idxV p vs)) ∧ Quiet w w' := by
  go_enter Try.func100, Try.ntmps100
  go_wp2
  go_loopw [5, 8] (fun _ i wr => ∃ k : Nat, k ≤ n ∧ i = .int .i64 k ∧ (∀ j, j < k → p (vs[j]?.getD undef) = false) ∧ Quiet w wr) (fun _ i _ => n - (intOf i).toNat)
  case atStart => exact ⟨0, Nat.zero_le _, rfl, fun j hj => absurd hj (by omega), Quiet.refl _⟩
  case round =>
    obtain ⟨k, hk, rfl, hno, hq⟩ := hrel
    by_cases hlt : k < n
    · obtain ⟨b, off, rfl, hb, hc⟩ := (hv.below hq.below).cells (by omega)
      have g1 := hc k hlt
      have hmem : vs[k]?.getD undef ∈ vs := by rw [List.getElem?_eq_getElem (by rw [hv.len]; exact hlt)]; exact List.getElem_mem _
      obtain ⟨v, hvv⟩ : ∃ v, vs[k]?.getD undef = v := ⟨_, rfl⟩
      rw [hvv] at g1 hmem
      have HV := Lib.hid hvv
      have HN := Lib.hid hno
      clear hc hno hvv
      have hcall := Lib.hid (hf v)
      clear hf
      cases hp : p v
      · have HP := Lib.hid hp
        clear hp
        go_wp2_with (go_at_call 45; refine (hcall.out _ hmem hq).mono ?_; rintro e w1 ⟨rfl, hq1⟩; rw [HP.out])
        go_roundw
        case rel => exact ⟨k + 1, by omega, by go_num, fun j hj => by
          rcases Nat.lt_or_ge j k with h | h
          · exact HN.out j h
          · obtain rfl : j = k := by omega
            rw [HV.out]; exact HP.out, hq.trans hq1⟩
        case measure => simp [intOf]; omega
      · have HP := Lib.hid hp
        clear hp
        go_wp2_with (go_at_call 45; refine (hcall.out _ hmem hq).mono ?_; rintro e w1 ⟨rfl, hq1⟩; rw [HP.out])
        go_ret
        exact ⟨ret_int (idxV_some k (by rw [hv.len]; exact hlt) HN.out (by rw [HV.out]; exact HP.out)).symm, hq.trans hq1⟩
    · have : k = n := by omega
      subst this
      go_wp2
      go_ret
      exact ⟨ret_int (idxV_none fun j hj => hno j (by rw [← hv.len]; exact hj)).symm, hq⟩

set_option maxHeartbeats 1000000 in
theorem still2_any (A : Option Addr) (n c : Nat) (vs : List Value) (p : Value → Bool) (w : World) (hv : Vals w A n vs) (hn : n ≤ 9223372036854775807)
    (hf : ∀ v W, v ∈ vs → Quiet w W → Calls Try.prog 45 #[v] W fun e W' => e = .returned (.bool (p v)) ∧ Quiet W W') :
    Calls Try.prog 43 #[.slice A n c, .func (.func 45) #[] #[]] w fun e w' => e = .returned (.bool (vs.any p)) ∧ Quiet w w' := by
  go_enter Try.func43, Try.ntmps43
  go_wp2_with (go_at_call 100; refine (still2_index A n c vs p _ hv hn hf).mono ?_; rintro e w1 ⟨rfl, hq1⟩)
  go_ret
  exact ⟨ret_bool (idxV_any vs), hq1⟩
theorem still_l (A : Option Addr) (n c : Nat) (l : List Int) (w : World) (hx : Ints .i64 w A n l) (hn : n ≤ 9223372036854775807) (h : ∀ z ∈ l, z = 0) :
    Calls Try.prog 43 #[.slice A n c, .func (.func 44) #[] #[]] w fun e w' => e = .returned (.bool false) ∧ Quiet w w' := by
  rw [← notV_none h]
  refine still1_any A n c _ notV w hx.vals hn fun v W hv _ => ?_
  obtain ⟨x, _, rfl⟩ := List.mem_map.1 hv
  exact still_1 x W
theorem still_h (A : Option Addr) (n c : Nat) (l : List Int) (w : World) (hx : Ints .i64 w A n l) (hn : n ≤ 9223372036854775807) (h : ∀ z ∈ l, 0 ≤ z) :
    Calls Try.prog 43 #[.slice A n c, .func (.func 45) #[] #[]] w fun e w' => e = .returned (.bool false) ∧ Quiet w w' := by
  rw [← negV_none h]
  refine still2_any A n c _ negV w hx.vals hn fun v W hv _ => ?_
  obtain ⟨x, _, rfl⟩ := List.mem_map.1 hv
  exact still_2 x W
theorem Ints.setne {k : IntKind} {w : World} {b n : Nat} {xs : List Int} (h : Ints k w (some ⟨b, 0, none⟩) n xs) {m i : Nat} (hne : b ≠ m) (u : Value) : Ints k (w.setCell ⟨m, i, none⟩ u) (some ⟨b, 0, none⟩) n xs :=
  ⟨h.len, fun hn => by
    obtain ⟨b', off, e, hb, hc⟩ := h.cells hn
    injection e with e
    injection e with e1 e2
    subst e1; subst e2
    exact ⟨b, 0, rfl, by simpa [World.setCell] using hb, fun j hj => (World.cell?_of_block (w := w) (heap_setCell_other w ⟨m, i, none⟩ b u hne)).trans (hc j hj)⟩⟩
set_option maxRecDepth 100000 in
set_option maxHeartbeats 1000000 in
theorem keep_one (w : World) : Calls Try.prog 41 #[] w fun e w' => ∃ A B C : Option Addr, e = .returned (.agg #[.int .i64 1, .int .i64 1, .slice A 1 1, .int .i64 1, .int .i64 1, .slice A 1 1, .slice B 1 1, .slice C 1 1]) ∧
    Ints .i64 w' A 1 [65536] ∧ Ints .i64 w' B 1 [0] ∧ Ints .i64 w' C 1 [0] ∧ Below w.heap.size w w' := by
  go_enter Try.func41, Try.ntmps41
  go_wp2
  refine bodyPost_ret (v := .agg #[.int .i64 1, .int .i64 1, .slice (some ⟨w.heap.size + 1, 0, none⟩) 1 1, .int .i64 1, .int .i64 1, .slice (some ⟨w.heap.size + 1, 0, none⟩) 1 1, .slice (some ⟨w.heap.size + 1 + 1 + 1, 0, none⟩) 1 1, .slice (some ⟨w.heap.size + 1 + 1 + 1 + 1, 0, none⟩) 1 1]) (by simp [results, Try.results41, go_sem]) rfl ?_
  refine ⟨_, _, _, rfl, ?_, ?_, ?_, (by repeat (first | exact Below.refl _ _ | assumption | refine bel_drewN ?_ _ | refine Below.drew ?_ | (refine Below.alloc ?_ (by simp <;> omega) _) | (refine Below.setCell ?_ (by simp <;> omega) _)))⟩
  · repeat refine Ints.setne ?_ (by omega) _
    repeat first | (refine Ints.made _ [_] 1 rfl _ rfl ?_ _; simp; done) | refine Ints.alloc ?_ _
  · repeat refine Ints.setne ?_ (by omega) _
    repeat first | (refine Ints.made _ [_] 1 rfl _ rfl ?_ _; simp; done) | refine Ints.alloc ?_ _
  · repeat refine Ints.setne ?_ (by omega) _
    repeat first | (refine Ints.made _ [_] 1 rfl _ rfl ?_ _; simp; done) | refine Ints.alloc ?_ _
theorem still_loss (A B C X T : Option Addr) (w : World) (q1 : Ints .i64 w A 1 [65536]) (q2 : Ints .i64 w B 1 [0]) (q3 : Ints .i64 w C 1 [0]) (q4 : Ints .i64 w X 1 [65536]) (q5 : Ints .i64 w T 1 [196608]) :
    Calls Try.prog 33 #[.agg #[.int .i64 1, .int .i64 1, .slice A 1 1, .int .i64 1, .int .i64 1, .slice A 1 1, .slice B 1 1, .slice C 1 1], .agg #[.slice X 1 1, .slice T 1 1]] w fun e w' => e = .returned (.tuple #[.int .i64 262144, .int .i64 0]) ∧ Below w.heap.size w w' := by
  have H := pup_Loss_any 1 1 A 1 1 [65536] 1 1 A 1 1 [65536] B 1 1 [0] C 1 1 [0] X T 1 1 1 1 [65536] [196608] w q1 q1 q2 q3 q4 q5 (by omega) (by omega) (by omega) (by omega) (by omega) (by omega)
  rw [one_loss, one_both] at H
  exact H
theorem still_grad (A B C X T : Option Addr) (w : World) (q1 : Ints .i64 w A 1 [65536]) (q2 : Ints .i64 w B 1 [0]) (q3 : Ints .i64 w C 1 [0]) (q4 : Ints .i64 w X 1 [65536]) (q5 : Ints .i64 w T 1 [196608]) :
    Calls Try.prog 34 #[.agg #[.int .i64 1, .int .i64 1, .slice A 1 1, .int .i64 1, .int .i64 1, .slice A 1 1, .slice B 1 1, .slice C 1 1], .agg #[.slice X 1 1, .slice T 1 1]] w fun e w' =>
      ∃ G1 k1 G2 k2 g3 k3 g4 k4, e = .returned (.tuple #[.agg #[.int .i64 1, .int .i64 1, .slice G1 1 k1, .int .i64 1, .int .i64 1, .slice G2 1 k2, .slice (some ⟨g3, 0, none⟩) 1 k3, .slice (some ⟨g4, 0, none⟩) 1 k4], .int .i64 0]) ∧
        w'.cell? ⟨g3, 0, none⟩ = some (.int .i64 (-131072)) ∧ w'.cell? ⟨g4, 0, none⟩ = some (.int .i64 (-131072)) ∧ g3 < w'.heap.size ∧ g4 < w'.heap.size ∧ Below w.heap.size w w' := by
  have H := pup_Grad_any 1 1 A 1 1 [65536] 1 1 A 1 1 [65536] B 1 1 [0] C 1 1 [0] X T 1 1 1 1 [65536] [196608] w q1 q1 q2 q3 q4 q5 (by omega) (by omega) (by omega) (by omega) (by omega) (by omega)
  rw [one_grad, one_both] at H
  refine H.mono ?_
  rintro e w' ⟨G1, k1, G2, k2, G3, k3, G4, k4, rfl, _, _, o3, o4, hb⟩
  obtain ⟨g3, c3, hv3, _, lt3⟩ := o3.form (by decide)
  obtain rfl : G3 = some ⟨g3, 0, none⟩ := by injection hv3
  obtain ⟨g4, c4, hv4, _, lt4⟩ := o4.form (by decide)
  obtain rfl : G4 = some ⟨g4, 0, none⟩ := by injection hv4
  have z3 := (Ints.of_own o3 rfl).get (j := 0) (by decide)
  have z4 := (Ints.of_own o4 rfl).get (j := 0) (by decide)
  exact ⟨G1, k1, G2, k2, g3, k3, g4, k4, rfl, z3, z4, lt3, lt4, hb⟩
theorem still_Loss (H I O : Nat) (A1 : Option Addr) (n1 k1 : Nat) (a1 : List Int) (A2 : Option Addr) (n2 k2 : Nat) (a2 : List Int) (B1 : Option Addr) (d1 : Nat) (b1 : List Int) (B2 : Option Addr) (d2 : Nat) (b2 : List Int) (X : Option Addr) (xc : Nat) (x : List Int) (Y : Option Addr) (yc : Nat) (w : World)
    (i1 : Ints .i64 w A1 n1 a1) (i2 : Ints .i64 w A2 n2 a2) (j1 : Ints .i64 w B1 H b1) (j2 : Ints .i64 w B2 O b2) (ix : Ints .i64 w X I x) (iy : Ints .i64 w Y O (outpL H I O a1 b1 a2 b2 x)) (g1 : n1 ≤ k1) (g2 : n2 ≤ k2) (hP : pupE H I a1 O H a2 b1 b2 = 0) :
    Calls Try.prog 33 #[.agg #[.int .i64 H, .int .i64 I, .slice A1 n1 k1, .int .i64 O, .int .i64 H, .slice A2 n2 k2, .slice B1 H d1, .slice B2 O d2], .agg #[.slice X I xc, .slice Y O yc]] w fun e w' => e = .returned (.tuple #[.int .i64 0, .int .i64 0]) ∧ Below w.heap.size w w' := by
  have h := pup_Loss_ok H I O A1 n1 k1 a1 A2 n2 k2 a2 B1 d1 b1 B2 d2 b2 X xc x Y yc _ w i1 i2 j1 j2 ix iy hP g1 g2
  rw [lossP_self H I O a1 b1 a2 b2 x] at h
  exact h
theorem still_Grad (H I O : Nat) (A1 : Option Addr) (n1 k1 : Nat) (a1 : List Int) (A2 : Option Addr) (n2 k2 : Nat) (a2 : List Int) (B1 : Option Addr) (d1 : Nat) (b1 : List Int) (B2 : Option Addr) (d2 : Nat) (b2 : List Int) (X : Option Addr) (xc : Nat) (x : List Int) (g1 : n1 ≤ k1) (g2 : n2 ≤ k2) (hP : pupE H I a1 O H a2 b1 b2 = 0) (hx : x.length = I) :
    ∃ z1 z2 z3 z4 : List Int, pupE H I z1 O H z2 z3 z4 = 0 ∧ (∀ z ∈ flatP z1 z3 z2 z4, z = 0) ∧ z1.length ≤ 16 ∧ z2.length ≤ 16 ∧ z3.length ≤ 16 ∧ z4.length ≤ 16 ∧
      ∀ Y yc w, Ints .i64 w A1 n1 a1 → Ints .i64 w A2 n2 a2 → Ints .i64 w B1 H b1 → Ints .i64 w B2 O b2 → Ints .i64 w X I x → Ints .i64 w Y O (outpL H I O a1 b1 a2 b2 x) →
        Calls Try.prog 34 #[.agg #[.int .i64 H, .int .i64 I, .slice A1 n1 k1, .int .i64 O, .int .i64 H, .slice A2 n2 k2, .slice B1 H d1, .slice B2 O d2], .agg #[.slice X I xc, .slice Y O yc]] w (PupOwn w ⟨H, I, z1, O, H, z2, z3, z4⟩ 0) := by
  obtain ⟨H', I', O', e1, e2, e3, e4, hH, hI, hO, _⟩ := pup_dims hP
  obtain rfl : H = H' := by omega
  obtain rfl : I = I' := by omega
  obtain rfl : O = O' := by omega
  obtain ⟨z1, z2, z3, z4, hz, hz0, hzs, s1, s2, s3, s4⟩ := gradP_still (a1 := a1) (b1 := b1) (a2 := a2) (b2 := b2) hH hI hO hx
  refine ⟨z1, z2, z3, z4, hz0, hzs, s1, s2, s3, s4, fun Y yc w i1 i2 j1 j2 ix iy => ?_⟩
  rw [← hz]
  exact pup_Grad_ok H I O A1 n1 k1 a1 A2 n2 k2 a2 B1 d1 b1 B2 d2 b2 X xc x Y yc _ w i1 i2 j1 j2 ix iy hP g1 g2
theorem still_Fwd (H I O : Nat) (A1 : Option Addr) (n1 k1 : Nat) (a1 : List Int) (A2 : Option Addr) (n2 k2 : Nat) (a2 : List Int) (B1 : Option Addr) (d1 : Nat) (b1 : List Int) (B2 : Option Addr) (d2 : Nat) (b2 : List Int) (X : Option Addr) (xc : Nat) (x : List Int) (w : World)
    (i1 : Ints .i64 w A1 n1 a1) (i2 : Ints .i64 w A2 n2 a2) (j1 : Ints .i64 w B1 H b1) (j2 : Ints .i64 w B2 O b2) (ix : Ints .i64 w X I x) (g1 : n1 ≤ k1) (g2 : n2 ≤ k2) (hP : pupE H I a1 O H a2 b1 b2 = 0) :
    Calls Try.prog 32 #[.agg #[.int .i64 H, .int .i64 I, .slice A1 n1 k1, .int .i64 O, .int .i64 H, .slice A2 n2 k2, .slice B1 H d1, .slice B2 O d2], .slice X I xc] w fun e w' => ∃ S s Y yc,
      e = .returned (.tuple #[.slice S H s, .slice Y O yc, .int .i64 0]) ∧ Ints .i64 w' S H (hidL H I a1 b1 x) ∧ Ints .i64 w' Y O (outpL H I O a1 b1 a2 b2 x) ∧ Below w.heap.size w w' := by
  refine (pup_Forward_ok H I O A1 n1 k1 a1 A2 n2 k2 a2 B1 d1 b1 B2 d2 b2 X xc x w i1 i2 j1 j2 ix hP g1 g2).mono ?_
  rintro e w' ⟨S, s, Y, yc, rfl, O1, O2, hb⟩
  rw [hidL_length] at O1 ⊢
  rw [outpL_length] at O2 ⊢
  exact ⟨S, s, Y, yc, rfl, Ints.of_own O1 (hidL_length _ _ _ _ _), Ints.of_own O2 (outpL_length _ _ _ _ _ _ _ _), hb⟩
theorem still_Flat (H I O : Nat) (z1 z2 z3 z4 : List Int) (s1 : z1.length ≤ 16) (s2 : z2.length ≤ 16) (s3 : z3.length ≤ 16) (s4 : z4.length ≤ 16) (hz : pupE H I z1 O H z2 z3 z4 = 0) (G1 : Option Addr) (k1 : Nat) (G2 : Option Addr) (k2 : Nat) (G3 : Option Addr) (k3 : Nat) (G4 : Option Addr) (k4 : Nat) (w : World)
    (q1 : Ints .i64 w G1 z1.length z1) (q2 : Ints .i64 w G2 z2.length z2) (q3 : Ints .i64 w G3 z3.length z3) (q4 : Ints .i64 w G4 z4.length z4) :
    Calls Try.prog 42 #[.agg #[.int .i64 H, .int .i64 I, .slice G1 z1.length k1, .int .i64 O, .int .i64 H, .slice G2 z2.length k2, .slice G3 z3.length k3, .slice G4 z4.length k4]] w (ListRes w (flatP z1 z3 z2 z4) 0) :=
  (pup_Flat_ok H I G1 z1.length k1 z1 O H G2 z2.length k2 z2 G3 z3.length k3 z3 G4 z4.length k4 z4 w q1 q2 q3 q4 (by omega) (by omega) (by omega) (by omega) hz).mono fun e w' h => .of_own h
end Go.Proofs.Ytejkkbjepgghlaa
