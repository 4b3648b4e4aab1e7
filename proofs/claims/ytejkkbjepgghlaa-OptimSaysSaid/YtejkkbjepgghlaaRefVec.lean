/- What the document's own text computes of lists, and slices.Equal: walks, each function once. -/
import Derived.Test.YtejkkbjepgghlaaSlW
import Derived.Deep.RegionHeld3
import Derived.Deep.AppendLies
namespace Go.Proofs.Ytejkkbjepgghlaa
open Go.RowKit Pl

set_option maxHeartbeats 1000000 in
theorem ref_Dot (A B : Option Addr) (n c d m : Nat) (xs ys : List Int) (w : World) (hx : Ints .i64 w A n xs) (hy : Ints .i64 w B m ys) (hnm : n ≤ m) (hn : n ≤ 9223372036854775806) :
    Calls Try.prog 86 #[.slice A n c, .slice B m d] w fun e w' => e = .returned (.int .i64 (dotN xs ys n)) ∧ Quiet w w' := by
  go_enter Try.func86, Try.ntmps86
  go_wp2
  go_loopw [5, 6] (fun o i wr => ∃ k : Nat, k ≤ n ∧ i = .int .i64 k ∧ o = .int .i64 (dotN xs ys k) ∧ Quiet w wr) (fun _ i _ => n - (intOf i).toNat)
  case atStart => exact ⟨0, Nat.zero_le _, rfl, rfl, Quiet.refl _⟩
  case round =>
    obtain ⟨k, hk, rfl, rfl, hq⟩ := hrel
    by_cases hlt : k < n
    · obtain ⟨b, off, rfl, hb, hc⟩ := (hx.quiet hq).cells (by omega)
      obtain ⟨b', off', rfl, hb', hc'⟩ := (hy.quiet hq).cells (by omega)
      have g1 := hc k hlt
      have g2 := hc' k (by omega)
      have hkm : k < m := by omega
      clear hc hc'
      go_wp2
      go_quiet ((first | (go_at_call 71; exact Calls.quiet_of (ref_Mul _ _ _)) | (go_at_call 76; exact Calls.quiet_of ((ref_Add _ _ _).mono fun _ _ ⟨he, hw⟩ => ⟨he, 0, hw.symm⟩))))
      go_wp2
      go_roundw
      case rel => exact ⟨k + 1, by omega, by go_num, rfl, hq.step _⟩
      case measure => simp [intOf]; omega
    · have : k = n := by omega
      subst this
      go_wp2
      go_ret
      exact ⟨rfl, hq⟩

set_option maxHeartbeats 1000000 in
/-- slices.Equal over []int,int. -/
theorem equalI_no (A B : Option Addr) (n c d m : Nat) (w : World) (hnm : n ≠ m) :
    Calls Try.prog 24 #[.slice A n c, .slice B m d] w fun e w' => e = .returned (.bool false) ∧ Quiet w w' := by
  have h1 : ((n : Int) != (m : Int)) = true := by rw [bne_iff_ne]; omega
  go_enter Try.func24, Try.ntmps24
  go_wp2
  go_ret
  exact ⟨rfl, Quiet.refl _⟩

set_option maxHeartbeats 2000000 in
theorem equalI_len (A B : Option Addr) (n c d : Nat) (xs ys : List Int) (w : World) (hx : Ints .i64 w A n xs) (hy : Ints .i64 w B n ys) (hn : n ≤ 9223372036854775806) :
    Calls Try.prog 24 #[.slice A n c, .slice B n d] w fun e w' => e = .returned (.bool (decide (xs = ys))) ∧ Quiet w w' := by
  go_enter Try.func24, Try.ntmps24
  go_wp2
  go_loopw [5, 13] (fun _ i wr => ∃ k : Nat, k ≤ n ∧ i = .int .i64 k ∧ (∀ j, j < k → at0 xs j = at0 ys j) ∧ Quiet w wr) (fun _ i _ => n - (intOf i).toNat)
  case atStart => exact ⟨0, Nat.zero_le _, rfl, fun j hj => absurd hj (by omega), Quiet.refl _⟩
  case round =>
    obtain ⟨k, hk, rfl, hs, hq⟩ := hrel
    have HS := Lib.hid hs
    clear hs
    by_cases hlt : k < n
    · obtain ⟨b, off, rfl, hb, hc⟩ := (hx.quiet hq).cells (by omega)
      obtain ⟨b', off', rfl, hb', hc'⟩ := (hy.quiet hq).cells (by omega)
      have g1 := hc k hlt
      have g2 := hc' k hlt
      clear hc hc'
      by_cases he : at0 xs k = at0 ys k
      · have hbe : (at0 xs k != at0 ys k) = false := by rw [bne_eq_false_iff_eq]; exact he
        have HE := Lib.hid he
        clear he
        go_wp2
        go_quiet (fail)
        go_wp2
        go_roundw
        case rel => exact ⟨k + 1, by omega, by go_num, fun j hj => by
          rcases Nat.lt_or_ge j k with h | h
          · exact HS.out j h
          · obtain rfl : j = k := by omega
            exact HE.out, hq.step _⟩
        case measure => simp [intOf]; omega
      · have hbe : (at0 xs k != at0 ys k) = true := by rw [bne_iff_ne]; exact he
        have HE := Lib.hid he
        clear he
        go_wp2
        go_quiet (fail)
        go_wp2
        go_ret
        exact ⟨ret_bool (decide_eq_false (fun h => HE.out (by rw [h]))).symm, hq.step _⟩
    · have : k = n := by omega
      subst this
      go_wp2
      go_ret
      exact ⟨ret_bool (decide_eq_true (list_ext_at0 (by rw [hx.len, hy.len]) (fun j hj => HS.out j (by rw [← hx.len]; exact hj)))).symm, hq⟩

/-- .. at lists that are told: the same numbers, or not. -/
theorem equalI_any (A B : Option Addr) (n c d m : Nat) (xs ys : List Int) (w : World) (hx : Ints .i64 w A n xs) (hy : Ints .i64 w B m ys) (hn : n ≤ 9223372036854775806) :
    Calls Try.prog 24 #[.slice A n c, .slice B m d] w fun e w' => e = .returned (.bool (decide (xs = ys))) ∧ Quiet w w' := by
  by_cases h : n = m
  · subst h
    exact equalI_len A B n c d xs ys w hx hy hn
  · refine (equalI_no A B n c d m w h).mono fun e w' ⟨he, hq⟩ => ⟨he.trans (ret_bool (decide_eq_false fun hh => h ?_).symm), hq⟩
    rw [← hx.len, ← hy.len, hh]
set_option maxHeartbeats 1000000 in
/-- slices.Equal over []uint64,uint64. -/
theorem equalU_no (A B : Option Addr) (n c d m : Nat) (w : World) (hnm : n ≠ m) :
    Calls Try.prog 39 #[.slice A n c, .slice B m d] w fun e w' => e = .returned (.bool false) ∧ Quiet w w' := by
  have h1 : ((n : Int) != (m : Int)) = true := by rw [bne_iff_ne]; omega
  go_enter Try.func39, Try.ntmps39
  go_wp2
  go_ret
  exact ⟨rfl, Quiet.refl _⟩

set_option maxHeartbeats 2000000 in
theorem equalU_len (A B : Option Addr) (n c d : Nat) (xs ys : List Int) (w : World) (hx : Ints .u64 w A n xs) (hy : Ints .u64 w B n ys) (hn : n ≤ 9223372036854775806) :
    Calls Try.prog 39 #[.slice A n c, .slice B n d] w fun e w' => e = .returned (.bool (decide (xs = ys))) ∧ Quiet w w' := by
  go_enter Try.func39, Try.ntmps39
  go_wp2
  go_loopw [5, 13] (fun _ i wr => ∃ k : Nat, k ≤ n ∧ i = .int .i64 k ∧ (∀ j, j < k → at0 xs j = at0 ys j) ∧ Quiet w wr) (fun _ i _ => n - (intOf i).toNat)
  case atStart => exact ⟨0, Nat.zero_le _, rfl, fun j hj => absurd hj (by omega), Quiet.refl _⟩
  case round =>
    obtain ⟨k, hk, rfl, hs, hq⟩ := hrel
    have HS := Lib.hid hs
    clear hs
    by_cases hlt : k < n
    · obtain ⟨b, off, rfl, hb, hc⟩ := (hx.quiet hq).cells (by omega)
      obtain ⟨b', off', rfl, hb', hc'⟩ := (hy.quiet hq).cells (by omega)
      have g1 := hc k hlt
      have g2 := hc' k hlt
      clear hc hc'
      by_cases he : at0 xs k = at0 ys k
      · have hbe : (at0 xs k != at0 ys k) = false := by rw [bne_eq_false_iff_eq]; exact he
        have HE := Lib.hid he
        clear he
        go_wp2
        go_quiet (fail)
        go_wp2
        go_roundw
        case rel => exact ⟨k + 1, by omega, by go_num, fun j hj => by
          rcases Nat.lt_or_ge j k with h | h
          · exact HS.out j h
          · obtain rfl : j = k := by omega
            exact HE.out, hq.step _⟩
        case measure => simp [intOf]; omega
      · have hbe : (at0 xs k != at0 ys k) = true := by rw [bne_iff_ne]; exact he
        have HE := Lib.hid he
        clear he
        go_wp2
        go_quiet (fail)
        go_wp2
        go_ret
        exact ⟨ret_bool (decide_eq_false (fun h => HE.out (by rw [h]))).symm, hq.step _⟩
    · have : k = n := by omega
      subst this
      go_wp2
      go_ret
      exact ⟨ret_bool (decide_eq_true (list_ext_at0 (by rw [hx.len, hy.len]) (fun j hj => HS.out j (by rw [← hx.len]; exact hj)))).symm, hq⟩

/-- .. at lists that are told: the same numbers, or not. -/
theorem equalU_any (A B : Option Addr) (n c d m : Nat) (xs ys : List Int) (w : World) (hx : Ints .u64 w A n xs) (hy : Ints .u64 w B m ys) (hn : n ≤ 9223372036854775806) :
    Calls Try.prog 39 #[.slice A n c, .slice B m d] w fun e w' => e = .returned (.bool (decide (xs = ys))) ∧ Quiet w w' := by
  by_cases h : n = m
  · subst h
    exact equalU_len A B n c d xs ys w hx hy hn
  · refine (equalU_no A B n c d m w h).mono fun e w' ⟨he, hq⟩ => ⟨he.trans (ret_bool (decide_eq_false fun hh => h ?_).symm), hq⟩
    rw [← hx.len, ← hy.len, hh]
end Go.Proofs.Ytejkkbjepgghlaa
