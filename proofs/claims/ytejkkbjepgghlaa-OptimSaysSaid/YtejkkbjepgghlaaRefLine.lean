/- What the document's own text computes of a matrix's lines, and of products with it: walks, each function once. -/
import Derived.Test.YtejkkbjepgghlaaRefMat
import Derived.Test.YtejkkbjepgghlaaRefVec
import Derived.Test.YtejkkbjepgghlaaLinePl
namespace Go.Proofs.Ytejkkbjepgghlaa
open Go.RowKit Pl

theorem own_base {w : World} {base base' : Nat} {e : TypeId} {size : Nat} {v : Value} {n : Nat} {xs : List Value} (h : w.ownsRow base e size v n xs) (hb : base' ≤ base) : w.ownsRow base' e size v n xs := by
  refine ⟨h.1, ?_⟩
  rcases h.2 with hn | ⟨g, cap, cur, rfl, hg, rest⟩
  · exact .inl hn
  · exact .inr ⟨g, cap, cur, rfl, by omega, rest⟩

/-- A matrix in a box: its three cells. -/
def MatBox (w : World) (B : Nat) (r c : Int) (A : Option Addr) (n cap : Nat) : Prop :=
  w.cell? ⟨B, 0, none⟩ = some (.int .i64 r) ∧ w.cell? ⟨B, 1, none⟩ = some (.int .i64 c) ∧ w.cell? ⟨B, 2, none⟩ = some (.slice A n cap)
theorem MatBox.new (w : World) (r c : Int) (A : Option Addr) (n cap : Nat) : MatBox (w.alloc (.cells #[.int .i64 r, .int .i64 c, .slice A n cap] 47)) w.heap.size r c A n cap := by
  refine ⟨?_, ?_, ?_⟩ <;> (rw [World.cell?_alloc_at _ _ _ _ rfl]; rfl)
theorem MatBox.below {w w' : World} {B : Nat} {r c : Int} {A : Option Addr} {n cap : Nat} (h : MatBox w B r c A n cap) {D : Nat} (hb : Below D w w') (hB : B < D) : MatBox w' B r c A n cap :=
  ⟨(hb.cell (p := ⟨B, 0, none⟩) hB).trans h.1, (hb.cell (p := ⟨B, 1, none⟩) hB).trans h.2.1, (hb.cell (p := ⟨B, 2, none⟩) hB).trans h.2.2⟩

set_option maxRecDepth 100000 in
set_option maxHeartbeats 2000000 in
theorem ref_line (r c k : Nat) (A : Option Addr) (n cap : Nat) (xs : List Int) (b : Bool) (w : World) (hx : Ints .i64 w A n xs) (hr : 1 ≤ r ∧ r ≤ 4) (hc : 1 ≤ c ∧ c ≤ 4) (hn : n = r * c) (hk : b = true → k < c) (hk' : b = false → k < r) :
    Calls Try.prog 87 #[(.agg #[.int .i64 r, .int .i64 c, .slice A n cap]), .int .i64 k, .bool b] w fun e w' => ∃ l cp, e = .returned (.slice l (if b then r else c) cp) ∧
      w'.ownsRow (w.heap.size + 1) 3 1 (.slice l (if b then r else c) cp) (if b then r else c) ((if b then colL xs c r k else rowL xs c k).map (.int .i64)) ∧ Below w.heap.size w w' := by
  obtain ⟨i0, hi0, hz0, hz1, hz2⟩ := info_parts int_info
  have hM := MatBox.new w r c A n cap
  have HN := Lib.hid hn
  have HS := Lib.hid (lineA_start xs c k b)
  clear hn
  cases b
  · go_enter Try.func87, Try.ntmps87
    go_wp2
    go_loopw [7, 8] (fun o i wr => ∃ i' : Nat, i' ≤ r ∧ i = .int .i64 i' ∧ wr.ownsRow (w.heap.size + 1) 3 1 o (lineA xs c k false i' 0).length ((lineA xs c k false i' 0).map (.int .i64)) ∧ Below (w.heap.size + 1) (w.alloc (.cells #[.int .i64 r, .int .i64 c, .slice A n cap] 47)) wr) (fun _ i _ => r - (intOf i).toNat)
    case atStart => exact ⟨0, Nat.zero_le _, rfl, by rw [HS.out]; exact World.ownsRow_nil _ _ _ _, Below.refl _ _⟩
    case round =>
      obtain ⟨i, hi, rfl, hown, hb⟩ := hrel
      obtain ⟨q0, q1, q2⟩ := hM.below hb (by omega)
      by_cases hlt : i < r
      · have HX := Lib.hid (lineA_next xs c k i false (by simp))
        go_wp2
        clear q0 q1 q2
        go_loopw [7, 9] (fun o j ws => ∃ j' : Nat, j' ≤ c ∧ j = .int .i64 j' ∧ ws.ownsRow (w.heap.size + 1) 3 1 o (lineA xs c k false i j').length ((lineA xs c k false i j').map (.int .i64)) ∧ Below (w.heap.size + 1) (w.alloc (.cells #[.int .i64 r, .int .i64 c, .slice A n cap] 47)) ws) (fun _ j _ => c - (intOf j).toNat)
        case atStart => exact ⟨0, Nat.zero_le _, rfl, hown, hb⟩
        case round =>
          clear hown hb
          obtain ⟨ws, rfl⟩ : ∃ ws : World, ws = wr := ⟨_, rfl⟩
          obtain ⟨j, hj, rfl, hown, hb⟩ := hrel
          obtain ⟨q0, q1, q2⟩ := hM.below hb (by omega)
          by_cases hl2 : j < c
          · by_cases hit : i = k
            · have t1 : ((i : Int) == (k : Int)) = true := by rw [beq_iff_eq]; omega
              have HH := Lib.hid hit
              have hln := lineA_len xs c k i j false
              have hij : i * c + j < n := by
                rw [HN.out]
                exact Nat.lt_of_lt_of_le (show i * c + j < (i + 1) * c by rw [Nat.succ_mul]; omega) (Nat.mul_le_mul_right _ hlt)
              obtain ⟨bb, off, rfl, hbl, hcc⟩ := hx.cells (by omega)
              have g1 := (hb.cell (p := ⟨bb, off + (i * c + j), none⟩) (by simp; omega)).trans ((World.cell?_alloc_past _ _ _ (by omega)).trans (hcc _ hij))
              have z0 : (0 : Int) ≤ (i : Int) * (c : Int) := Int.mul_nonneg (by omega) (by omega)
              have z1 : (i : Int) * (c : Int) ≤ 16 := by
                have : i * c ≤ 4 * 4 := Nat.mul_le_mul (by omega) (by omega)
                have e : (i : Int) * (c : Int) = ((i * c : Nat) : Int) := (Int.natCast_mul i c).symm
                omega
              have hbs := hb.size
              simp at hbs
              clear hit hcc
              go_wp2_with (at_builtin; refine wpList_append_own _ rfl _ _ 25 rfl (w.heap.size + 1) 3 i0 (.int .i64 0) 1 8 Try.underlying25 hi0 hz0 hz1 hz2 rfl (by decide) u7 _ _ rfl (hown.alloc _) ⟨ws.heap.size, 0, none⟩ 1 1 [.int .i64 (at0 xs (i * c + j))] rfl rfl (cell_one_new _ _ _) (by simp [Value.oneCell']) (by unfold maxLen; omega) (by omega) (by simp; omega) ?_; intro v1 w1 hown1 hgrow _)
              have hb2 := Below.grown (B := w.heap.size + 1) (hb.alloc (by omega) _) hgrow (by simp; omega) (fun x hx => (hown.lt x hx).1)
              rw [← List.map_singleton, ← List.map_append] at hown1
              clear hgrow g1
              go_roundw
              case rel => exact ⟨j + 1, by omega, by go_num, by
                have e := HH.out
                subst e
                rw [show lineA xs c i false i (j + 1) = lineA xs c i false i j ++ [at0 xs (i * c + j)] from lineA_row_hit xs c i j]
                rw [List.length_append]
                exact hown1, hb2⟩
              case measure => simp [intOf]; omega
            · have t1 : ((i : Int) == (k : Int)) = false := by rw [beq_eq_false_iff_ne]; omega
              have HH := Lib.hid (lineA_row_miss xs c k i j hit)
              clear hit
              go_wp2
              go_roundw
              case rel => exact ⟨j + 1, by omega, by go_num, by rw [HH.out]; exact hown, hb⟩
              case measure => simp [intOf]; omega
          · obtain rfl : c = j := by omega
            go_wp2
            go_roundw
            case rel => exact ⟨i + 1, by omega, by go_num, by rw [← HX.out]; exact hown, hb⟩
            case measure => simp [intOf]; omega
      · obtain rfl : r = i := by omega
        go_wp2
        go_ret
        have e := lineA_row xs c k r (by simpa using hk')
        rw [e] at hown
        rw [show ((rowL xs c k).length) = c from upto_length _ _] at hown
        obtain ⟨l, cp, rfl, _⟩ := own_ints hown
        exact ⟨l, cp, rfl, hown, ((Below.refl _ _).alloc (Nat.le_refl _) _).trans (hb.mono (by omega))⟩
  · go_enter Try.func87, Try.ntmps87
    go_wp2
    go_loopw [7, 8] (fun o i wr => ∃ i' : Nat, i' ≤ r ∧ i = .int .i64 i' ∧ wr.ownsRow (w.heap.size + 1) 3 1 o (lineA xs c k true i' 0).length ((lineA xs c k true i' 0).map (.int .i64)) ∧ Below (w.heap.size + 1) (w.alloc (.cells #[.int .i64 r, .int .i64 c, .slice A n cap] 47)) wr) (fun _ i _ => r - (intOf i).toNat)
    case atStart => exact ⟨0, Nat.zero_le _, rfl, by rw [HS.out]; exact World.ownsRow_nil _ _ _ _, Below.refl _ _⟩
    case round =>
      obtain ⟨i, hi, rfl, hown, hb⟩ := hrel
      obtain ⟨q0, q1, q2⟩ := hM.below hb (by omega)
      by_cases hlt : i < r
      · have HX := Lib.hid (lineA_next xs c k i true (by simpa using hk))
        go_wp2
        clear q0 q1 q2
        go_loopw [7, 9] (fun o j ws => ∃ j' : Nat, j' ≤ c ∧ j = .int .i64 j' ∧ ws.ownsRow (w.heap.size + 1) 3 1 o (lineA xs c k true i j').length ((lineA xs c k true i j').map (.int .i64)) ∧ Below (w.heap.size + 1) (w.alloc (.cells #[.int .i64 r, .int .i64 c, .slice A n cap] 47)) ws) (fun _ j _ => c - (intOf j).toNat)
        case atStart => exact ⟨0, Nat.zero_le _, rfl, hown, hb⟩
        case round =>
          clear hown hb
          obtain ⟨ws, rfl⟩ : ∃ ws : World, ws = wr := ⟨_, rfl⟩
          obtain ⟨j, hj, rfl, hown, hb⟩ := hrel
          obtain ⟨q0, q1, q2⟩ := hM.below hb (by omega)
          by_cases hl2 : j < c
          · by_cases hit : j = k
            · have t1 : ((j : Int) == (k : Int)) = true := by rw [beq_iff_eq]; omega
              have HH := Lib.hid hit
              have hln := lineA_len xs c k i j true
              have hij : i * c + j < n := by
                rw [HN.out]
                exact Nat.lt_of_lt_of_le (show i * c + j < (i + 1) * c by rw [Nat.succ_mul]; omega) (Nat.mul_le_mul_right _ hlt)
              obtain ⟨bb, off, rfl, hbl, hcc⟩ := hx.cells (by omega)
              have g1 := (hb.cell (p := ⟨bb, off + (i * c + j), none⟩) (by simp; omega)).trans ((World.cell?_alloc_past _ _ _ (by omega)).trans (hcc _ hij))
              have z0 : (0 : Int) ≤ (i : Int) * (c : Int) := Int.mul_nonneg (by omega) (by omega)
              have z1 : (i : Int) * (c : Int) ≤ 16 := by
                have : i * c ≤ 4 * 4 := Nat.mul_le_mul (by omega) (by omega)
                have e : (i : Int) * (c : Int) = ((i * c : Nat) : Int) := (Int.natCast_mul i c).symm
                omega
              have hbs := hb.size
              simp at hbs
              clear hit hcc
              go_wp2_with (at_builtin; refine wpList_append_own _ rfl _ _ 25 rfl (w.heap.size + 1) 3 i0 (.int .i64 0) 1 8 Try.underlying25 hi0 hz0 hz1 hz2 rfl (by decide) u7 _ _ rfl (hown.alloc _) ⟨ws.heap.size, 0, none⟩ 1 1 [.int .i64 (at0 xs (i * c + j))] rfl rfl (cell_one_new _ _ _) (by simp [Value.oneCell']) (by unfold maxLen; omega) (by omega) (by simp; omega) ?_; intro v1 w1 hown1 hgrow _)
              have hb2 := Below.grown (B := w.heap.size + 1) (hb.alloc (by omega) _) hgrow (by simp; omega) (fun x hx => (hown.lt x hx).1)
              rw [← List.map_singleton, ← List.map_append] at hown1
              clear hgrow g1
              go_roundw
              case rel => exact ⟨j + 1, by omega, by go_num, by
                have e := HH.out
                subst e
                rw [show lineA xs c j true i (j + 1) = lineA xs c j true i j ++ [at0 xs (i * c + j)] from lineA_col_hit xs c j i]
                rw [List.length_append]
                exact hown1, hb2⟩
              case measure => simp [intOf]; omega
            · have t1 : ((j : Int) == (k : Int)) = false := by rw [beq_eq_false_iff_ne]; omega
              have HH := Lib.hid (lineA_col_miss xs c k i j hit)
              clear hit
              go_wp2
              go_roundw
              case rel => exact ⟨j + 1, by omega, by go_num, by rw [HH.out]; exact hown, hb⟩
              case measure => simp [intOf]; omega
          · obtain rfl : c = j := by omega
            go_wp2
            go_roundw
            case rel => exact ⟨i + 1, by omega, by go_num, by rw [← HX.out]; exact hown, hb⟩
            case measure => simp [intOf]; omega
      · obtain rfl : r = i := by omega
        go_wp2
        go_ret
        have e := lineA_col xs c k r
        rw [e] at hown
        rw [show ((colL xs c r k).length) = r from upto_length _ _] at hown
        obtain ⟨l, cp, rfl, _⟩ := own_ints hown
        exact ⟨l, cp, rfl, hown, ((Below.refl _ _).alloc (Nat.le_refl _) _).trans (hb.mono (by omega))⟩
end Go.Proofs.Ytejkkbjepgghlaa
