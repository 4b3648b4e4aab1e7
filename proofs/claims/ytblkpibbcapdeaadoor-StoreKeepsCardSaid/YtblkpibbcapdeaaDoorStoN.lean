/- Numbers of words: store.number, the document's whole: walks. -/
import Derived.Test.YtblkpibbcapdeaaDoorStoT
namespace Go.Proofs.YtblkpibbcapdeaaDoor
open Go.RowKit Go.Sort Pl

def numN (l : List UInt8) : Nat := (numO l).getD 0
theorem byte_at (s : ByteArray) {q : Nat} (h : q < s.size) : s.data.toList[q]? = some (s[q]'h) := by
  rw [List.getElem?_eq_getElem (by rw [Array.length_toList]; exact h)]
  rfl
theorem take_byte (s : ByteArray) {q : Nat} (h : q < s.size) : s.data.toList.take (q + 1) = s.data.toList.take q ++ [s[q]'h] := by
  rw [List.take_add_one, byte_at s h]
  rfl
theorem numO_no_dig {l : List UInt8} {q : Nat} {b : UInt8} (h : l[q]? = some b) (hb : isDig b = false) : numO l = none := by
  unfold numO
  split
  · rfl
  · rw [if_neg]
    intro ha
    rw [List.all_eq_true] at ha
    rw [ha b (List.mem_of_getElem? h)] at hb
    cases hb
theorem numO_bad {l : List UInt8} (h : l.length < 1 ∨ 19 < l.length ∨ (l.head? = some 48 ∧ 1 < l.length)) : numO l = none := if_pos h
theorem numO_all {l : List UInt8} (h : ¬ (l.length < 1 ∨ 19 < l.length ∨ (l.head? = some 48 ∧ 1 < l.length))) (ha : l.all isDig = true) : numO l = some (numV l) := by
  unfold numO
  rw [if_neg h, if_pos ha]
theorem pow19 {q : Nat} (h : q ≤ 18) {N : Nat} (hN : N < 10 ^ q) : N < 1000000000000000000 := Nat.lt_of_lt_of_le hN (Nat.pow_le_pow_right (n := 10) (by omega) h)

set_option maxRecDepth 100000 in
set_option maxHeartbeats 4000000 in
theorem sto_number (s : ByteArray) (w : World) :
    Calls Tryd.prog 30 #[.string s] w fun e w' => e = .returned (.tuple #[.int .u64 (numN s.data.toList), .bool (numO s.data.toList).isSome]) ∧ w' = w := by
  have hsz : s.data.toList.length = s.size := by rw [Array.length_toList]; rfl
  by_cases h0 : s.size < 1
  · have F := Lib.hid (numO_bad (l := s.data.toList) (.inl (by omega)))
    unfold numN
    rw [F.out]
    clear hsz
    go_enter Tryd.func30, Tryd.ntmps30
    go_wp2
    go_ret2
    exact ⟨rfl, rfl⟩
  · by_cases h1 : 19 < s.size
    · have F := Lib.hid (numO_bad (l := s.data.toList) (.inr (.inl (by omega))))
      unfold numN
      rw [F.out]
      clear hsz
      go_enter Tryd.func30, Tryd.ntmps30
      go_wp2
      go_ret2
      exact ⟨rfl, rfl⟩
    · have hp : 0 < s.size := by omega
      obtain ⟨v, hv⟩ : ∃ v, (s[0]'hp).toNat = v := ⟨_, rfl⟩
      have hv256 : v < 256 := by rw [← hv]; exact UInt8.toNat_lt _
      have hhd : s.data.toList.head? = some (s[0]'hp) := by rw [List.head?_eq_getElem?]; exact byte_at s hp
      have HHD := Lib.hid (show s.data.toList.head? = some 48 ↔ v = 48 from by
        rw [hhd, ← hv]
        constructor
        · intro h; injection h with h; rw [h]; rfl
        · intro h; congr 1; exact UInt8.toNat_inj.1 h)
      clear hhd
      by_cases h2 : v = 48 ∧ 1 < s.size
      · have F := Lib.hid (numO_bad (l := s.data.toList) (.inr (.inr ⟨HHD.out.2 h2.1, by omega⟩)))
        unfold numN
        rw [F.out]
        obtain ⟨rfl, h2⟩ := h2
        clear hsz
        go_enter Tryd.func30, Tryd.ntmps30
        go_wp2
        go_ret2
        exact ⟨rfl, rfl⟩
      · have HGB := Lib.hid (show ¬ (s.data.toList.length < 1 ∨ 19 < s.data.toList.length ∨ (s.data.toList.head? = some 48 ∧ 1 < s.data.toList.length)) from by
          rintro (h | h | ⟨h, h'⟩)
          · omega
          · omega
          · exact h2 ⟨HHD.out.1 h, by omega⟩)
        go_enter Tryd.func30, Tryd.ntmps30
        go_upto_region 3 with fail
        all_goals
          clear hv hv256 HHD h2
          go_wp2
          go_loopw [4, 5, 26] (fun nn _ j wr => ∃ q : Nat, q ≤ s.size ∧ j = .int .i64 q ∧ nn = .int .u64 (numV (s.data.toList.take q)) ∧ (s.data.toList.take q).all isDig = true ∧ wr = w) (fun _ _ j _ => s.size - (intOf j).toNat)
          case atStart => exact ⟨0, by omega, rfl, rfl, rfl, rfl⟩
          case round =>
            obtain ⟨q, hq, rfl, rfl, hall, hwr⟩ := hrel
            subst hwr
            have HA := Lib.hid hall
            clear hall
            by_cases hlt : q < s.size
            · have hN := numV_lt _ HA.out
              rw [List.length_take, Nat.min_eq_left (by omega)] at hN
              have hN := pow19 (by omega) hN
              have HBD := Lib.hid (byte_at s hlt)
              have HT := Lib.hid (show numV (s.data.toList.take (q + 1)) = 10 * numV (s.data.toList.take q) + ((s[q]'hlt).toNat - 48) from by rw [take_byte s hlt, numV_snoc])
              have HAL := Lib.hid (fun (h : isDig (s[q]'hlt) = true) => show (s.data.toList.take (q + 1)).all isDig = true from by
                rw [take_byte s hlt, List.all_append, HA.out]
                simp [h])
              have HIS := Lib.hid (show isDig (s[q]'hlt) = (decide (48 ≤ (s[q]'hlt).toNat) && decide ((s[q]'hlt).toNat ≤ 57)) from rfl)
              have HNO := Lib.hid (fun (h : isDig (s[q]'hlt) = false) => numO_no_dig HBD.out h)
              obtain ⟨u, hu⟩ : ∃ u, (s[q]'hlt).toNat = u := ⟨_, rfl⟩
              have hu256 : u < 256 := by rw [← hu]; exact UInt8.toNat_lt _
              rw [hu] at HT HIS
              obtain ⟨N, hNN⟩ : ∃ N, N = numV (s.data.toList.take q) := ⟨_, rfl⟩
              rw [← hNN] at HT hN ⊢
              clear hNN HA
              by_cases h48 : u < 48
              · have F := Lib.hid (HNO.out (by rw [HIS.out, decide_eq_false (by omega)]; rfl))
                clear hN hsz
                go_wp2
                go_ret2
                unfold numN
                rw [F.out]
                exact ⟨rfl, rfl⟩
              · by_cases h57 : 57 < u
                · have F := Lib.hid (HNO.out (by rw [HIS.out, decide_eq_false (p := u ≤ 57) (by omega), Bool.and_false]))
                  clear hN hsz
                  go_wp2
                  go_ret2
                  unfold numN
                  rw [F.out]
                  exact ⟨rfl, rfl⟩
                · have D := Lib.hid (HAL.out (by rw [HIS.out, decide_eq_true (by omega), decide_eq_true (by omega)]; rfl))
                  have w1 : IntKind.u8.wrap ((u : Int) - 48) = ((u - 48 : Nat) : Int) := by rw [IntKind.wrap_u8]; omega
                  have w2 : IntKind.u64.wrap (10 * (N : Int)) = ((10 * N : Nat) : Int) := by rw [wrap_u64_in (by omega) (by omega)]; omega
                  have w3 : IntKind.u64.wrap (((10 * N : Nat) : Int) + ((u - 48 : Nat) : Int)) = ((10 * N + (u - 48) : Nat) : Int) := by rw [wrap_u64_in (by omega) (by omega)]; omega
                  have w4 : IntKind.u64.wrap ((u - 48 : Nat) : Int) = ((u - 48 : Nat) : Int) := wrap_u64_in (by omega) (by omega)
                  clear hsz
                  go_wp2
                  go_roundw
                  case rel => exact ⟨q + 1, by omega, by go_num, by rw [HT.out]; (congr 1 <;> omega), D.out, by simp⟩
                  case measure => simp [intOf]; omega
            · obtain rfl : q = s.size := by omega
              have F := Lib.hid (numO_all HGB.out (by have h := HA.out; rwa [List.take_of_length_le (by omega)] at h))
              rw [List.take_of_length_le (by omega)]
              clear hsz
              go_wp2
              go_ret2
              unfold numN
              rw [F.out]
              exact ⟨rfl, by simp⟩

theorem numO_dec_eq {l : List UInt8} (ha : l.all isDig = true) (hl : l.length ≤ 19) : (Lib.decDigits (numV l) == l) = (numO l).isSome := by
  have hv : numV l < 10 ^ 19 := Nat.lt_of_lt_of_le (numV_lt l ha) (Nat.pow_le_pow_right (by omega) hl)
  cases hn : numO l with
  | some n =>
    obtain ⟨h1, h2⟩ := numO_some hn
    have : numV l = n := by rw [h1, dec_val]
    rw [this, ← h1]
    simp
  | none =>
    by_cases e : Lib.decDigits (numV l) = l
    · have h := numO_dec hv
      rw [e, hn] at h
      cases h
    · simpa using e
theorem wrapu_lo (x : Int) : 0 ≤ IntKind.u64.wrap x ∧ IntKind.u64.wrap x < 18446744073709551616 := by
  rw [IntKind.wrap_u64]
  omega
set_option maxRecDepth 100000 in
set_option maxHeartbeats 4000000 in
theorem ref_whole (s : ByteArray) (w : World) (ht : Tabs w) (hs63 : s.size ≤ 9223372036854775806) :
    Calls Tryd.prog 32 #[.string s] w fun e w' => ∃ x : Int, e = .returned (.tuple #[.int .u64 x, .bool (numO s.data.toList).isSome]) ∧ ((numO s.data.toList).isSome = true → x = (numN s.data.toList : Nat)) ∧ Below w.heap.size w w' := by
  have hsz : s.data.toList.length = s.size := by rw [Array.length_toList]; rfl
  go_enter Tryd.func32, Tryd.ntmps32
  go_wp2
  go_loopw [4, 5] (fun nn j wr => ∃ (q : Nat) (X : Int), q ≤ s.size ∧ q ≤ 20 ∧ j = .int .i64 q ∧ nn = .int .u64 X ∧ 0 ≤ X ∧ X < 18446744073709551616 ∧ (q ≤ 19 → X = (numV (s.data.toList.take q) : Nat)) ∧ (s.data.toList.take q).all isDig = true ∧ wr = w) (fun _ j _ => s.size - (intOf j).toNat)
  case atStart => exact ⟨0, 0, by omega, by omega, rfl, rfl, by omega, by omega, fun _ => rfl, rfl, rfl⟩
  case round =>
    obtain ⟨q, X, hq, hq20, rfl, rfl, hX0, hX1, hXN, hall, hwr⟩ := hrel
    subst hwr
    have HA := Lib.hid hall
    have HXN := Lib.hid hXN
    clear hall hXN
    by_cases hlt : q < s.size
    · by_cases hlt2 : q < 20
      · have HBD := Lib.hid (byte_at s hlt)
        have HT := Lib.hid (show numV (s.data.toList.take (q + 1)) = 10 * numV (s.data.toList.take q) + ((s[q]'hlt).toNat - 48) from by rw [take_byte s hlt, numV_snoc])
        have HAL := Lib.hid (fun (h : isDig (s[q]'hlt) = true) => show (s.data.toList.take (q + 1)).all isDig = true from by
          rw [take_byte s hlt, List.all_append, HA.out]
          simp [h])
        have HIS := Lib.hid (show isDig (s[q]'hlt) = (decide (48 ≤ (s[q]'hlt).toNat) && decide ((s[q]'hlt).toNat ≤ 57)) from rfl)
        have HNO := Lib.hid (fun (h : isDig (s[q]'hlt) = false) => numO_no_dig HBD.out h)
        have hN := numV_lt _ HA.out
        rw [List.length_take, Nat.min_eq_left (by omega)] at hN
        have HN := Lib.hid (fun (h : q ≤ 18) => pow19 h hN)
        clear hN
        obtain ⟨u, hu⟩ : ∃ u, (s[q]'hlt).toNat = u := ⟨_, rfl⟩
        have hu256 : u < 256 := by rw [← hu]; exact UInt8.toNat_lt _
        rw [hu] at HT HIS
        by_cases h48 : u < 48
        · have F := Lib.hid (HNO.out (by rw [HIS.out, decide_eq_false (by omega)]; rfl))
          clear hsz
          go_wp2
          go_ret2
          rw [F.out]
          exact ⟨0, rfl, fun h => (by cases h), Below.refl _ _⟩
        · by_cases h57 : 57 < u
          · have F := Lib.hid (HNO.out (by rw [HIS.out, decide_eq_false (p := u ≤ 57) (by omega), Bool.and_false]))
            clear hsz
            go_wp2
            go_ret2
            rw [F.out]
            exact ⟨0, rfl, fun h => (by cases h), Below.refl _ _⟩
          · have D := Lib.hid (HAL.out (by rw [HIS.out, decide_eq_true (by omega), decide_eq_true (by omega)]; rfl))
            by_cases h18 : q ≤ 18
            · have hN := HN.out h18
              have hX := HXN.out (by omega)
              obtain ⟨N, hNN⟩ : ∃ N, N = numV (s.data.toList.take q) := ⟨_, rfl⟩
              rw [← hNN] at HT hN hX
              subst hX
              clear hNN HA HXN HN
              obtain ⟨Y, hY⟩ : ∃ Y : Int, Y = (N : Int) * 10 + u - 48 := ⟨_, rfl⟩
              have w1 : IntKind.u64.wrap ((N : Int) * 10) = (N : Int) * 10 := wrap_u64_in (by omega) (by omega)
              have w2 : IntKind.u64.wrap (u : Int) = (u : Int) := wrap_u64_in (by omega) (by omega)
              have w3 : IntKind.u64.wrap ((N : Int) * 10 + (u : Int)) = (N : Int) * 10 + (u : Int) := wrap_u64_in (by omega) (by omega)
              have w4 : IntKind.u64.wrap ((N : Int) * 10 + (u : Int) - 48) = Y := by rw [wrap_u64_in (by omega) (by omega)]; exact hY.symm
              have HY := Lib.hid (show 0 ≤ Y ∧ Y < 18446744073709551616 ∧ Y = ((10 * N + (u - 48) : Nat) : Int) from by omega)
              clear hY hX0 hX1 hN
              clear hsz
              go_wp2
              go_roundw
              case rel => exact ⟨q + 1, Y, by omega, by omega, by go_num, rfl, HY.out.1, HY.out.2.1, fun _ => by rw [HT.out]; exact HY.out.2.2, D.out, by simp⟩
              case measure => simp [intOf]; omega
            · clear HA HXN HN hsz
              go_wp2
              go_roundw
              case rel => exact ⟨q + 1, _, by omega, by omega, by go_num, rfl, (wrapu_lo _).1, (wrapu_lo _).2, fun h => (by omega), D.out, by simp⟩
              case measure => simp [intOf]; omega
      · have F := Lib.hid (numO_bad (l := s.data.toList) (.inr (.inl (by omega))))
        clear hsz HXN HA
        go_wp2
        go_ret2
        rw [F.out]
        exact ⟨X, rfl, fun h => (by cases h), Below.refl _ _⟩
    · obtain rfl : q = s.size := by omega
      have hall := HA.out
      rw [List.take_of_length_le (by omega)] at hall
      by_cases h19 : s.size ≤ 19
      · have hX := HXN.out h19
        rw [List.take_of_length_le (by omega)] at hX
        have HD := Lib.hid (numO_dec_eq hall (by omega))
        have HS := Lib.hid (fun (h : (numO s.data.toList).isSome = true) => show numV s.data.toList = numN s.data.toList from by
          obtain ⟨n, hn⟩ := Option.isSome_iff_exists.1 h
          unfold numN
          rw [hn]
          rw [(numO_some hn).1, dec_val]
          rfl)
        have HF := Lib.hid (lib_FormatUint' hX0 hX1 wr ht)
        have HX := Lib.hid hX
        clear hX hall HA HXN
        obtain ⟨dX, hdX⟩ : ∃ d, d = bytesOf (Lib.decDigits X.toNat) := ⟨_, rfl⟩
        rw [← hdX] at HF
        have HDX := Lib.hid hdX
        clear hdX hsz
        go_wp2_with fail
        refine HF.out.mono ?_
        rintro e w1 ⟨rfl, hb1⟩
        go_wp2
        go_ret2
        refine ⟨X, ?_, fun h => by rw [HX.out, HS.out h], hb1⟩
        rw [← HD.out, HDX.out, Lib.toList_data, Lib.toList_data, bytesOf_data, HX.out, Int.toNat_natCast]
        rfl
      · have F := Lib.hid (numO_bad (l := s.data.toList) (.inr (.inl (by omega))))
        clear hsz hall HA HXN
        go_wp2
        go_ret2
        rw [F.out]
        exact ⟨X, rfl, fun h => (by cases h), Below.refl _ _⟩
end Go.Proofs.YtblkpibbcapdeaaDoor
