/- What the library's calls over slices compute: IndexFunc, ContainsFunc, Equal: walks, each function once. -/
import Derived.Test.YtgodgedhddngeaaGreatDoorFixW
import Derived.OwnWalk
import Derived.LoopTactic
import Derived.Deep.RegionHeld3
set_option maxHeartbeats 16000000
namespace Go.Proofs.YtgodgedhddngeaaGreatDoor
open Go.RowKit Pl
structure Vals (w : World) (A : Option Addr) (n : Nat) (vs : List Value) : Prop where
 len : vs.length = n
 cells : 0 < n → ∃ b off, A = some ⟨b, off, none⟩ ∧ b < w.heap.size ∧ ∀ j, j < n → w.cell? ⟨b, off + j, none⟩ = some (vs[j]?.getD undef)
theorem Vals.below {w w' : World} {A : Option Addr} {n : Nat} {vs : List Value} (h : Vals w A n vs) (hb : Below w.heap.size w w') : Vals w' A n vs :=
 ⟨h.len, fun hn => by
  obtain ⟨b, off, e, hbl, hc⟩ := h.cells hn
  exact ⟨b, off, e, Nat.lt_of_lt_of_le hbl hb.size, fun j hj => (hb.cell (p := ⟨b, off + j, none⟩) hbl).trans (hc j hj)⟩⟩
theorem Ints.vals {k : IntKind} {w : World} {A : Option Addr} {n : Nat} {xs : List Int} (h : Ints k w A n xs) : Vals w A n (xs.map (.int k)) :=
 ⟨by rw [List.length_map, h.len], fun hn => by
  obtain ⟨b, off, e, hbl, hc⟩ := h.cells hn
  refine ⟨b, off, e, hbl, fun j hj => (hc j hj).trans ?_⟩
  rw [List.getElem?_map, List.getElem?_eq_getElem (by rw [h.len]; exact hj), at0_getElem _ _ (by rw [h.len]; exact hj)]; rfl⟩
theorem Vals.made (w : World) (cs : Array Value) (t : TypeId) (n : Nat) (vs : List Value) (hn : vs.length = n) (hc : cs = vs.toArray) : Vals (w.alloc (.cells cs t)) (some ⟨w.heap.size, 0, none⟩) n vs := by
 subst hc
 refine ⟨hn, fun _ => ⟨w.heap.size, 0, rfl, by simp, fun j hj => ?_⟩⟩
 have h := cell_of_row (w.alloc (.cells vs.toArray t)) w.heap.size (0 + j) vs.toArray t (0, 0) (heap_alloc_new w _)
 rw [h, Nat.zero_add, List.getElem?_toArray, List.getElem?_eq_getElem (by omega)]
 rfl
def idxV (p : Value → Bool) : List Value → Int
 | [] => -1
 | v :: vs => if p v then 0 else if idxV p vs < 0 then -1 else idxV p vs + 1
theorem idxV_none {p : Value → Bool} : ∀ {vs : List Value}, (∀ j, j < vs.length → p (vs[j]?.getD undef) = false) → idxV p vs = -1
 | [], _ => rfl
 | v :: vs, h => by
  have h0 : p v = false := h 0 (by simp)
  have h1 := idxV_none (vs := vs) fun j hj => h (j + 1) (by simpa using hj)
  simp [idxV, h0, h1]
theorem idxV_some {p : Value → Bool} : ∀ {vs : List Value} (k : Nat), k < vs.length → (∀ j, j < k → p (vs[j]?.getD undef) = false) → p (vs[k]?.getD undef) = true → idxV p vs = k
 | [], k, h, _, _ => absurd h (by simp)
 | v :: vs, 0, _, _, h => by
  have h0 : p v = true := h
  simp [idxV, h0]
 | v :: vs, k + 1, hk, hn, h => by
  have h0 : p v = false := hn 0 (by omega)
  have h1 := idxV_some (vs := vs) k (by simpa using hk) (fun j hj => hn (j + 1) (by omega)) h
  simp [idxV, h0, h1]
  omega
theorem idxV_iff {p : Value → Bool} : ∀ (vs : List Value), 0 ≤ idxV p vs ↔ vs.any p = true
 | [] => by simp [idxV]
 | v :: vs => by
  have h1 := idxV_iff (p := p) vs
  rw [List.any_cons, Bool.or_eq_true, ← h1]
  simp only [idxV]
  by_cases hp : p v = true
  ·simp [hp]
  ·simp only [hp, if_false, false_or, Bool.false_eq_true]
   split <;> omega
theorem idxV_any {p : Value → Bool} (vs : List Value) : decide (0 ≤ idxV p vs) = vs.any p := by
 rw [Bool.eq_iff_iff, decide_eq_true_eq]; exact idxV_iff vs
theorem large_index (A : Option Addr) (n c : Nat) (vs : List Value) (p : Value → Bool) (w : World) (hv : Vals w A n vs) (hn : n ≤ 9223372036854775807)
  (hf : ∀ v W, v ∈ vs → Quiet w W → Calls Tryz.prog 203 #[v] W fun e W' => e = .returned (.bool (p v)) ∧ Quiet W W') :
  Calls Tryz.prog 211 #[.slice A n c, .func (.func 203) #[] #[]] w fun e w' => e = .returned (.int .i64 (idxV p vs)) ∧ Quiet w w' := by
 go_enter Tryz.func211, Tryz.ntmps211
 go_wp2
 go_loopw [5, 8] (fun _ i wr => ∃ k : Nat, k ≤ n ∧ i = .int .i64 k ∧ (∀ j, j < k → p (vs[j]?.getD undef) = false) ∧ Quiet w wr) (fun _ i _ => n - (intOf i).toNat)
 case atStart => exact ⟨0, Nat.zero_le _, rfl, fun j hj => absurd hj (by omega), Quiet.refl _⟩
 case round =>
  obtain ⟨k, hk, rfl, hno, hq⟩ := hrel
  by_cases hlt : k < n
  ·obtain ⟨b, off, rfl, hb, hc⟩ := (hv.below hq.below).cells (by omega)
   have g1 := hc k hlt
   have hmem : vs[k]?.getD undef ∈ vs := by rw [List.getElem?_eq_getElem (by rw [hv.len]; exact hlt)]; exact List.getElem_mem _
   obtain ⟨v, hvv⟩ : ∃ v, vs[k]?.getD undef = v := ⟨_, rfl⟩
   rw [hvv] at g1 hmem
   have HV := Lib.hid hvv
   have HN := Lib.hid hno
   clear hc hno hvv
   have hcall := Lib.hid (hf v)
   clear hf
   cases hp : p v
   ·have HP := Lib.hid hp
    clear hp
    go_wp2_with (go_at_call 203; refine (hcall.out _ hmem hq).mono ?_; rintro e w1 ⟨rfl, hq1⟩; rw [HP.out])
    go_roundw
    case rel => exact ⟨k + 1, by omega, by go_num, fun j hj => by
     rcases Nat.lt_or_ge j k with h | h
     ·exact HN.out j h
     ·obtain rfl : j = k := by omega
      rw [HV.out]; exact HP.out, hq.trans hq1⟩
    case measure => simp [intOf]; omega
   ·have HP := Lib.hid hp
    clear hp
    go_wp2_with (go_at_call 203; refine (hcall.out _ hmem hq).mono ?_; rintro e w1 ⟨rfl, hq1⟩; rw [HP.out])
    go_ret
    exact ⟨ret_int (idxV_some k (by rw [hv.len]; exact hlt) HN.out (by rw [HV.out]; exact HP.out)).symm, hq.trans hq1⟩
  ·have : k = n := by omega
   subst this
   go_wp2
   go_ret
   exact ⟨ret_int (idxV_none fun j hj => hno j (by rw [← hv.len]; exact hj)).symm, hq⟩
theorem large_any (A : Option Addr) (n c : Nat) (vs : List Value) (p : Value → Bool) (w : World) (hv : Vals w A n vs) (hn : n ≤ 9223372036854775807)
  (hf : ∀ v W, v ∈ vs → Quiet w W → Calls Tryz.prog 203 #[v] W fun e W' => e = .returned (.bool (p v)) ∧ Quiet W W') :
  Calls Tryz.prog 202 #[.slice A n c, .func (.func 203) #[] #[]] w fun e w' => e = .returned (.bool (vs.any p)) ∧ Quiet w w' := by
 go_enter Tryz.func202, Tryz.ntmps202
 go_wp2_with (go_at_call 211; refine (large_index A n c vs p _ hv hn hf).mono ?_; rintro e w1 ⟨rfl, hq1⟩)
 go_ret
 exact ⟨ret_bool (idxV_any vs), hq1⟩
theorem check_index (A : Option Addr) (n c : Nat) (vs : List Value) (p : Value → Bool) (w : World) (hv : Vals w A n vs) (hn : n ≤ 9223372036854775807)
  (hf : ∀ v W, v ∈ vs → Quiet w W → Calls Tryz.prog 201 #[v] W fun e W' => e = .returned (.bool (p v)) ∧ Quiet W W') :
  Calls Tryz.prog 166 #[.slice A n c, .func (.func 201) #[] #[]] w fun e w' => e = .returned (.int .i64 (idxV p vs)) ∧ Quiet w w' := by
 go_enter Tryz.func166, Tryz.ntmps166
 go_wp2
 go_loopw [5, 8] (fun _ i wr => ∃ k : Nat, k ≤ n ∧ i = .int .i64 k ∧ (∀ j, j < k → p (vs[j]?.getD undef) = false) ∧ Quiet w wr) (fun _ i _ => n - (intOf i).toNat)
 case atStart => exact ⟨0, Nat.zero_le _, rfl, fun j hj => absurd hj (by omega), Quiet.refl _⟩
 case round =>
  obtain ⟨k, hk, rfl, hno, hq⟩ := hrel
  by_cases hlt : k < n
  ·obtain ⟨b, off, rfl, hb, hc⟩ := (hv.below hq.below).cells (by omega)
   have g1 := hc k hlt
   have hmem : vs[k]?.getD undef ∈ vs := by rw [List.getElem?_eq_getElem (by rw [hv.len]; exact hlt)]; exact List.getElem_mem _
   obtain ⟨v, hvv⟩ : ∃ v, vs[k]?.getD undef = v := ⟨_, rfl⟩
   rw [hvv] at g1 hmem
   have HV := Lib.hid hvv
   have HN := Lib.hid hno
   clear hc hno hvv
   have hcall := Lib.hid (hf v)
   clear hf
   cases hp : p v
   ·have HP := Lib.hid hp
    clear hp
    go_wp2_with (go_at_call 201; refine (hcall.out _ hmem hq).mono ?_; rintro e w1 ⟨rfl, hq1⟩; rw [HP.out])
    go_roundw
    case rel => exact ⟨k + 1, by omega, by go_num, fun j hj => by
     rcases Nat.lt_or_ge j k with h | h
     ·exact HN.out j h
     ·obtain rfl : j = k := by omega
      rw [HV.out]; exact HP.out, hq.trans hq1⟩
    case measure => simp [intOf]; omega
   ·have HP := Lib.hid hp
    clear hp
    go_wp2_with (go_at_call 201; refine (hcall.out _ hmem hq).mono ?_; rintro e w1 ⟨rfl, hq1⟩; rw [HP.out])
    go_ret
    exact ⟨ret_int (idxV_some k (by rw [hv.len]; exact hlt) HN.out (by rw [HV.out]; exact HP.out)).symm, hq.trans hq1⟩
  ·have : k = n := by omega
   subst this
   go_wp2
   go_ret
   exact ⟨ret_int (idxV_none fun j hj => hno j (by rw [← hv.len]; exact hj)).symm, hq⟩
theorem check_any (A : Option Addr) (n c : Nat) (vs : List Value) (p : Value → Bool) (w : World) (hv : Vals w A n vs) (hn : n ≤ 9223372036854775807)
  (hf : ∀ v W, v ∈ vs → Quiet w W → Calls Tryz.prog 201 #[v] W fun e W' => e = .returned (.bool (p v)) ∧ Quiet W W') :
  Calls Tryz.prog 116 #[.slice A n c, .func (.func 201) #[] #[]] w fun e w' => e = .returned (.bool (vs.any p)) ∧ Quiet w w' := by
 go_enter Tryz.func116, Tryz.ntmps116
 go_wp2_with (go_at_call 166; refine (check_index A n c vs p _ hv hn hf).mono ?_; rintro e w1 ⟨rfl, hq1⟩)
 go_ret
 exact ⟨ret_bool (idxV_any vs), hq1⟩
theorem pclamped_index (A : Option Addr) (n c : Nat) (vs : List Value) (p : Value → Bool) (w : World) (hv : Vals w A n vs) (hn : n ≤ 9223372036854775807)
  (hf : ∀ v W, v ∈ vs → Quiet w W → Calls Tryz.prog 131 #[v] W fun e W' => e = .returned (.bool (p v)) ∧ Quiet W W') :
  Calls Tryz.prog 166 #[.slice A n c, .func (.func 131) #[] #[]] w fun e w' => e = .returned (.int .i64 (idxV p vs)) ∧ Quiet w w' := by
 go_enter Tryz.func166, Tryz.ntmps166
 go_wp2
 go_loopw [5, 8] (fun _ i wr => ∃ k : Nat, k ≤ n ∧ i = .int .i64 k ∧ (∀ j, j < k → p (vs[j]?.getD undef) = false) ∧ Quiet w wr) (fun _ i _ => n - (intOf i).toNat)
 case atStart => exact ⟨0, Nat.zero_le _, rfl, fun j hj => absurd hj (by omega), Quiet.refl _⟩
 case round =>
  obtain ⟨k, hk, rfl, hno, hq⟩ := hrel
  by_cases hlt : k < n
  ·obtain ⟨b, off, rfl, hb, hc⟩ := (hv.below hq.below).cells (by omega)
   have g1 := hc k hlt
   have hmem : vs[k]?.getD undef ∈ vs := by rw [List.getElem?_eq_getElem (by rw [hv.len]; exact hlt)]; exact List.getElem_mem _
   obtain ⟨v, hvv⟩ : ∃ v, vs[k]?.getD undef = v := ⟨_, rfl⟩
   rw [hvv] at g1 hmem
   have HV := Lib.hid hvv
   have HN := Lib.hid hno
   clear hc hno hvv
   have hcall := Lib.hid (hf v)
   clear hf
   cases hp : p v
   ·have HP := Lib.hid hp
    clear hp
    go_wp2_with (go_at_call 131; refine (hcall.out _ hmem hq).mono ?_; rintro e w1 ⟨rfl, hq1⟩; rw [HP.out])
    go_roundw
    case rel => exact ⟨k + 1, by omega, by go_num, fun j hj => by
     rcases Nat.lt_or_ge j k with h | h
     ·exact HN.out j h
     ·obtain rfl : j = k := by omega
      rw [HV.out]; exact HP.out, hq.trans hq1⟩
    case measure => simp [intOf]; omega
   ·have HP := Lib.hid hp
    clear hp
    go_wp2_with (go_at_call 131; refine (hcall.out _ hmem hq).mono ?_; rintro e w1 ⟨rfl, hq1⟩; rw [HP.out])
    go_ret
    exact ⟨ret_int (idxV_some k (by rw [hv.len]; exact hlt) HN.out (by rw [HV.out]; exact HP.out)).symm, hq.trans hq1⟩
  ·have : k = n := by omega
   subst this
   go_wp2
   go_ret
   exact ⟨ret_int (idxV_none fun j hj => hno j (by rw [← hv.len]; exact hj)).symm, hq⟩
theorem pclamped_any (A : Option Addr) (n c : Nat) (vs : List Value) (p : Value → Bool) (w : World) (hv : Vals w A n vs) (hn : n ≤ 9223372036854775807)
  (hf : ∀ v W, v ∈ vs → Quiet w W → Calls Tryz.prog 131 #[v] W fun e W' => e = .returned (.bool (p v)) ∧ Quiet W W') :
  Calls Tryz.prog 116 #[.slice A n c, .func (.func 131) #[] #[]] w fun e w' => e = .returned (.bool (vs.any p)) ∧ Quiet w w' := by
 go_enter Tryz.func116, Tryz.ntmps116
 go_wp2_with (go_at_call 166; refine (pclamped_index A n c vs p _ hv hn hf).mono ?_; rintro e w1 ⟨rfl, hq1⟩)
 go_ret
 exact ⟨ret_bool (idxV_any vs), hq1⟩
theorem tclamped_index (A : Option Addr) (n c : Nat) (vs : List Value) (p : Value → Bool) (w : World) (hv : Vals w A n vs) (hn : n ≤ 9223372036854775807)
  (hf : ∀ v W, v ∈ vs → Quiet w W → Calls Tryz.prog 124 #[v] W fun e W' => e = .returned (.bool (p v)) ∧ Quiet W W') :
  Calls Tryz.prog 166 #[.slice A n c, .func (.func 124) #[] #[]] w fun e w' => e = .returned (.int .i64 (idxV p vs)) ∧ Quiet w w' := by
 go_enter Tryz.func166, Tryz.ntmps166
 go_wp2
 go_loopw [5, 8] (fun _ i wr => ∃ k : Nat, k ≤ n ∧ i = .int .i64 k ∧ (∀ j, j < k → p (vs[j]?.getD undef) = false) ∧ Quiet w wr) (fun _ i _ => n - (intOf i).toNat)
 case atStart => exact ⟨0, Nat.zero_le _, rfl, fun j hj => absurd hj (by omega), Quiet.refl _⟩
 case round =>
  obtain ⟨k, hk, rfl, hno, hq⟩ := hrel
  by_cases hlt : k < n
  ·obtain ⟨b, off, rfl, hb, hc⟩ := (hv.below hq.below).cells (by omega)
   have g1 := hc k hlt
   have hmem : vs[k]?.getD undef ∈ vs := by rw [List.getElem?_eq_getElem (by rw [hv.len]; exact hlt)]; exact List.getElem_mem _
   obtain ⟨v, hvv⟩ : ∃ v, vs[k]?.getD undef = v := ⟨_, rfl⟩
   rw [hvv] at g1 hmem
   have HV := Lib.hid hvv
   have HN := Lib.hid hno
   clear hc hno hvv
   have hcall := Lib.hid (hf v)
   clear hf
   cases hp : p v
   ·have HP := Lib.hid hp
    clear hp
    go_wp2_with (go_at_call 124; refine (hcall.out _ hmem hq).mono ?_; rintro e w1 ⟨rfl, hq1⟩; rw [HP.out])
    go_roundw
    case rel => exact ⟨k + 1, by omega, by go_num, fun j hj => by
     rcases Nat.lt_or_ge j k with h | h
     ·exact HN.out j h
     ·obtain rfl : j = k := by omega
      rw [HV.out]; exact HP.out, hq.trans hq1⟩
    case measure => simp [intOf]; omega
   ·have HP := Lib.hid hp
    clear hp
    go_wp2_with (go_at_call 124; refine (hcall.out _ hmem hq).mono ?_; rintro e w1 ⟨rfl, hq1⟩; rw [HP.out])
    go_ret
    exact ⟨ret_int (idxV_some k (by rw [hv.len]; exact hlt) HN.out (by rw [HV.out]; exact HP.out)).symm, hq.trans hq1⟩
  ·have : k = n := by omega
   subst this
   go_wp2
   go_ret
   exact ⟨ret_int (idxV_none fun j hj => hno j (by rw [← hv.len]; exact hj)).symm, hq⟩
theorem tclamped_any (A : Option Addr) (n c : Nat) (vs : List Value) (p : Value → Bool) (w : World) (hv : Vals w A n vs) (hn : n ≤ 9223372036854775807)
  (hf : ∀ v W, v ∈ vs → Quiet w W → Calls Tryz.prog 124 #[v] W fun e W' => e = .returned (.bool (p v)) ∧ Quiet W W') :
  Calls Tryz.prog 116 #[.slice A n c, .func (.func 124) #[] #[]] w fun e w' => e = .returned (.bool (vs.any p)) ∧ Quiet w w' := by
 go_enter Tryz.func116, Tryz.ntmps116
 go_wp2_with (go_at_call 166; refine (tclamped_index A n c vs p _ hv hn hf).mono ?_; rintro e w1 ⟨rfl, hq1⟩)
 go_ret
 exact ⟨ret_bool (idxV_any vs), hq1⟩
theorem oclamped_index (A : Option Addr) (n c : Nat) (vs : List Value) (p : Value → Bool) (w : World) (hv : Vals w A n vs) (hn : n ≤ 9223372036854775807)
  (hf : ∀ v W, v ∈ vs → Quiet w W → Calls Tryz.prog 199 #[v] W fun e W' => e = .returned (.bool (p v)) ∧ Quiet W W') :
  Calls Tryz.prog 166 #[.slice A n c, .func (.func 199) #[] #[]] w fun e w' => e = .returned (.int .i64 (idxV p vs)) ∧ Quiet w w' := by
 go_enter Tryz.func166, Tryz.ntmps166
 go_wp2
 go_loopw [5, 8] (fun _ i wr => ∃ k : Nat, k ≤ n ∧ i = .int .i64 k ∧ (∀ j, j < k → p (vs[j]?.getD undef) = false) ∧ Quiet w wr) (fun _ i _ => n - (intOf i).toNat)
 case atStart => exact ⟨0, Nat.zero_le _, rfl, fun j hj => absurd hj (by omega), Quiet.refl _⟩
 case round =>
  obtain ⟨k, hk, rfl, hno, hq⟩ := hrel
  by_cases hlt : k < n
  ·obtain ⟨b, off, rfl, hb, hc⟩ := (hv.below hq.below).cells (by omega)
   have g1 := hc k hlt
   have hmem : vs[k]?.getD undef ∈ vs := by rw [List.getElem?_eq_getElem (by rw [hv.len]; exact hlt)]; exact List.getElem_mem _
   obtain ⟨v, hvv⟩ : ∃ v, vs[k]?.getD undef = v := ⟨_, rfl⟩
   rw [hvv] at g1 hmem
   have HV := Lib.hid hvv
   have HN := Lib.hid hno
   clear hc hno hvv
   have hcall := Lib.hid (hf v)
   clear hf
   cases hp : p v
   ·have HP := Lib.hid hp
    clear hp
    go_wp2_with (go_at_call 199; refine (hcall.out _ hmem hq).mono ?_; rintro e w1 ⟨rfl, hq1⟩; rw [HP.out])
    go_roundw
    case rel => exact ⟨k + 1, by omega, by go_num, fun j hj => by
     rcases Nat.lt_or_ge j k with h | h
     ·exact HN.out j h
     ·obtain rfl : j = k := by omega
      rw [HV.out]; exact HP.out, hq.trans hq1⟩
    case measure => simp [intOf]; omega
   ·have HP := Lib.hid hp
    clear hp
    go_wp2_with (go_at_call 199; refine (hcall.out _ hmem hq).mono ?_; rintro e w1 ⟨rfl, hq1⟩; rw [HP.out])
    go_ret
    exact ⟨ret_int (idxV_some k (by rw [hv.len]; exact hlt) HN.out (by rw [HV.out]; exact HP.out)).symm, hq.trans hq1⟩
  ·have : k = n := by omega
   subst this
   go_wp2
   go_ret
   exact ⟨ret_int (idxV_none fun j hj => hno j (by rw [← hv.len]; exact hj)).symm, hq⟩
theorem oclamped_any (A : Option Addr) (n c : Nat) (vs : List Value) (p : Value → Bool) (w : World) (hv : Vals w A n vs) (hn : n ≤ 9223372036854775807)
  (hf : ∀ v W, v ∈ vs → Quiet w W → Calls Tryz.prog 199 #[v] W fun e W' => e = .returned (.bool (p v)) ∧ Quiet W W') :
  Calls Tryz.prog 116 #[.slice A n c, .func (.func 199) #[] #[]] w fun e w' => e = .returned (.bool (vs.any p)) ∧ Quiet w w' := by
 go_enter Tryz.func116, Tryz.ntmps116
 go_wp2_with (go_at_call 166; refine (oclamped_index A n c vs p _ hv hn hf).mono ?_; rintro e w1 ⟨rfl, hq1⟩)
 go_ret
 exact ⟨ret_bool (idxV_any vs), hq1⟩
theorem chained_index (A : Option Addr) (n c : Nat) (vs : List Value) (p : Value → Bool) (w : World) (hv : Vals w A n vs) (hn : n ≤ 9223372036854775807)
  (hf : ∀ v W, v ∈ vs → Quiet w W → Calls Tryz.prog 117 #[v] W fun e W' => e = .returned (.bool (p v)) ∧ Quiet W W') :
  Calls Tryz.prog 166 #[.slice A n c, .func (.func 117) #[] #[]] w fun e w' => e = .returned (.int .i64 (idxV p vs)) ∧ Quiet w w' := by
 go_enter Tryz.func166, Tryz.ntmps166
 go_wp2
 go_loopw [5, 8] (fun _ i wr => ∃ k : Nat, k ≤ n ∧ i = .int .i64 k ∧ (∀ j, j < k → p (vs[j]?.getD undef) = false) ∧ Quiet w wr) (fun _ i _ => n - (intOf i).toNat)
 case atStart => exact ⟨0, Nat.zero_le _, rfl, fun j hj => absurd hj (by omega), Quiet.refl _⟩
 case round =>
  obtain ⟨k, hk, rfl, hno, hq⟩ := hrel
  by_cases hlt : k < n
  ·obtain ⟨b, off, rfl, hb, hc⟩ := (hv.below hq.below).cells (by omega)
   have g1 := hc k hlt
   have hmem : vs[k]?.getD undef ∈ vs := by rw [List.getElem?_eq_getElem (by rw [hv.len]; exact hlt)]; exact List.getElem_mem _
   obtain ⟨v, hvv⟩ : ∃ v, vs[k]?.getD undef = v := ⟨_, rfl⟩
   rw [hvv] at g1 hmem
   have HV := Lib.hid hvv
   have HN := Lib.hid hno
   clear hc hno hvv
   have hcall := Lib.hid (hf v)
   clear hf
   cases hp : p v
   ·have HP := Lib.hid hp
    clear hp
    go_wp2_with (go_at_call 117; refine (hcall.out _ hmem hq).mono ?_; rintro e w1 ⟨rfl, hq1⟩; rw [HP.out])
    go_roundw
    case rel => exact ⟨k + 1, by omega, by go_num, fun j hj => by
     rcases Nat.lt_or_ge j k with h | h
     ·exact HN.out j h
     ·obtain rfl : j = k := by omega
      rw [HV.out]; exact HP.out, hq.trans hq1⟩
    case measure => simp [intOf]; omega
   ·have HP := Lib.hid hp
    clear hp
    go_wp2_with (go_at_call 117; refine (hcall.out _ hmem hq).mono ?_; rintro e w1 ⟨rfl, hq1⟩; rw [HP.out])
    go_ret
    exact ⟨ret_int (idxV_some k (by rw [hv.len]; exact hlt) HN.out (by rw [HV.out]; exact HP.out)).symm, hq.trans hq1⟩
  ·have : k = n := by omega
   subst this
   go_wp2
   go_ret
   exact ⟨ret_int (idxV_none fun j hj => hno j (by rw [← hv.len]; exact hj)).symm, hq⟩
theorem chained_any (A : Option Addr) (n c : Nat) (vs : List Value) (p : Value → Bool) (w : World) (hv : Vals w A n vs) (hn : n ≤ 9223372036854775807)
  (hf : ∀ v W, v ∈ vs → Quiet w W → Calls Tryz.prog 117 #[v] W fun e W' => e = .returned (.bool (p v)) ∧ Quiet W W') :
  Calls Tryz.prog 116 #[.slice A n c, .func (.func 117) #[] #[]] w fun e w' => e = .returned (.bool (vs.any p)) ∧ Quiet w w' := by
 go_enter Tryz.func116, Tryz.ntmps116
 go_wp2_with (go_at_call 166; refine (chained_index A n c vs p _ hv hn hf).mono ?_; rintro e w1 ⟨rfl, hq1⟩)
 go_ret
 exact ⟨ret_bool (idxV_any vs), hq1⟩
theorem ref_Dot (A B : Option Addr) (n c d m : Nat) (xs ys : List Int) (w : World) (hx : Ints .i64 w A n xs) (hy : Ints .i64 w B m ys) (hnm : n ≤ m) (hn : n ≤ 9223372036854775806) :
  Calls Tryz.prog 155 #[.slice A n c, .slice B m d] w fun e w' => e = .returned (.int .i64 (dotN xs ys n)) ∧ Quiet w w' := by
 go_enter Tryz.func155, Tryz.ntmps155
 go_wp2
 go_loopw [5, 6] (fun o i wr => ∃ k : Nat, k ≤ n ∧ i = .int .i64 k ∧ o = .int .i64 (dotN xs ys k) ∧ Quiet w wr) (fun _ i _ => n - (intOf i).toNat)
 case atStart => exact ⟨0, Nat.zero_le _, rfl, rfl, Quiet.refl _⟩
 case round =>
  obtain ⟨k, hk, rfl, rfl, hq⟩ := hrel
  by_cases hlt : k < n
  ·obtain ⟨b, off, rfl, hb, hc⟩ := (hx.quiet hq).cells (by omega)
   obtain ⟨b', off', rfl, hb', hc'⟩ := (hy.quiet hq).cells (by omega)
   have g1 := hc k hlt
   have g2 := hc' k (by omega)
   have hkm : k < m := by omega
   clear hc hc'
   go_wp2
   go_quiet ((first | (go_at_call 105; exact Calls.quiet_of (ref_Mul _ _ _)) | (go_at_call 104; exact Calls.quiet_of ((ref_Add _ _ _).mono fun _ _ ⟨he, hw⟩ => ⟨he, 0, hw.symm⟩))))
   go_wp2
   go_roundw
   case rel => exact ⟨k + 1, by omega, by go_num, rfl, hq.step _⟩
   case measure => simp [intOf]; omega
  ·have : k = n := by omega
   subst this
   go_wp2
   go_ret
   exact ⟨rfl, hq⟩
theorem equalI_no (A B : Option Addr) (n c d m : Nat) (w : World) (hnm : n ≠ m) :
  Calls Tryz.prog 83 #[.slice A n c, .slice B m d] w fun e w' => e = .returned (.bool false) ∧ Quiet w w' := by
 have h1 : ((n : Int) != (m : Int)) = true := by rw [bne_iff_ne]; omega
 go_enter Tryz.func83, Tryz.ntmps83
 go_wp2
 go_ret
 exact ⟨rfl, Quiet.refl _⟩
theorem equalI_len (A B : Option Addr) (n c d : Nat) (xs ys : List Int) (w : World) (hx : Ints .i64 w A n xs) (hy : Ints .i64 w B n ys) (hn : n ≤ 9223372036854775806) :
  Calls Tryz.prog 83 #[.slice A n c, .slice B n d] w fun e w' => e = .returned (.bool (decide (xs = ys))) ∧ Quiet w w' := by
 go_enter Tryz.func83, Tryz.ntmps83
 go_wp2
 go_loopw [5, 13] (fun _ i wr => ∃ k : Nat, k ≤ n ∧ i = .int .i64 k ∧ (∀ j, j < k → at0 xs j = at0 ys j) ∧ Quiet w wr) (fun _ i _ => n - (intOf i).toNat)
 case atStart => exact ⟨0, Nat.zero_le _, rfl, fun j hj => absurd hj (by omega), Quiet.refl _⟩
 case round =>
  obtain ⟨k, hk, rfl, hs, hq⟩ := hrel
  have HS := Lib.hid hs
  clear hs
  by_cases hlt : k < n
  ·obtain ⟨b, off, rfl, hb, hc⟩ := (hx.quiet hq).cells (by omega)
   obtain ⟨b', off', rfl, hb', hc'⟩ := (hy.quiet hq).cells (by omega)
   have g1 := hc k hlt
   have g2 := hc' k hlt
   clear hc hc'
   by_cases he : at0 xs k = at0 ys k
   ·have hbe : (at0 xs k != at0 ys k) = false := by rw [bne_eq_false_iff_eq]; exact he
    have HE := Lib.hid he
    clear he
    go_wp2
    go_quiet (fail)
    go_wp2
    go_roundw
    case rel => exact ⟨k + 1, by omega, by go_num, fun j hj => by
     rcases Nat.lt_or_ge j k with h | h
     ·exact HS.out j h
     ·obtain rfl : j = k := by omega
      exact HE.out, hq.step _⟩
    case measure => simp [intOf]; omega
   ·have hbe : (at0 xs k != at0 ys k) = true := by rw [bne_iff_ne]; exact he
    have HE := Lib.hid he
    clear he
    go_wp2
    go_quiet (fail)
    go_wp2
    go_ret
    exact ⟨ret_bool (decide_eq_false (fun h => HE.out (by rw [h]))).symm, hq.step _⟩
  ·have : k = n := by omega
   subst this
   go_wp2
   go_ret
   exact ⟨ret_bool (decide_eq_true (list_ext_at0 (by rw [hx.len, hy.len]) (fun j hj => HS.out j (by rw [← hx.len]; exact hj)))).symm, hq⟩
theorem equalI_any (A B : Option Addr) (n c d m : Nat) (xs ys : List Int) (w : World) (hx : Ints .i64 w A n xs) (hy : Ints .i64 w B m ys) (hn : n ≤ 9223372036854775806) :
  Calls Tryz.prog 83 #[.slice A n c, .slice B m d] w fun e w' => e = .returned (.bool (decide (xs = ys))) ∧ Quiet w w' := by
 by_cases h : n = m
 ·subst h
  exact equalI_len A B n c d xs ys w hx hy hn
 ·refine (equalI_no A B n c d m w h).mono fun e w' ⟨he, hq⟩ => ⟨he.trans (ret_bool (decide_eq_false fun hh => h ?_).symm), hq⟩
  rw [← hx.len, ← hy.len, hh]
end Go.Proofs.YtgodgedhddngeaaGreatDoor
