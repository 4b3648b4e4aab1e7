/- The law VecTurns holds of the given program for every input. No condition. -/
import Derived.Test.YtflljldlfgpimaaVecAny
import Derived.Test.YtflljldlfgpimaaArgs
import Derived.Deep.DeepCutAuto
import Derived.Deep.CutBlock
namespace Go.Proofs.Ytflljldlfgpimaa
open Go.ChangeShapes Go.WideShapes Go.ChangeAt Go.RowKit Pl

/-- What the law says is wrong, but for the list's length. -/
def mulE0 (r c : Int) (xs : List Int) (m k : Int) : Int := if matE r c xs ≠ 0 then matE r c xs else if m ≠ k then 5 else 0
theorem prodE_eq (r c : Int) (xs : List Int) (m k : Int) : prodE r c xs m k = if 200 < m then 2 else mulE0 r c xs m k := rfl
theorem mulO_len (r c : Int) (xs ys : List Int) : (mulO r c xs ys).length ≤ 9223372036854775806 := by
  unfold mulO
  split
  · rename_i h
    obtain ⟨h3, _, _, _⟩ := matE_ok h.1
    rw [mulL_length]; omega
  · simp
theorem backO_len (r c : Int) (xs ys : List Int) : (backO r c xs ys).length ≤ 9223372036854775806 := by
  unfold backO
  split
  · rename_i h
    obtain ⟨_, h3, _, _⟩ := matE_ok h.1
    rw [backL_length]; omega
  · simp
theorem outO_len (ys zs : List Int) : (outO ys zs).2.2.length ≤ 9223372036854775806 := by
  unfold outO
  split
  · rename_i h
    obtain ⟨h3, h4⟩ := outE_zero h
    have : ys.length * zs.length ≤ 4 * 4 := Nat.mul_le_mul h3.2 h4.2
    show (outerL ys zs).length ≤ _
    rw [outerL_length]; omega
  · simp

/-- Behind the law's first statement: what it expects of Mul and Back. -/
def TurnA (w : World) (r c : Int) (A : Option Addr) (n cap m : Nat) (xs ys : List Int) (f g mu ba : Value) (wx : World) : Prop :=
  ∃ A1 c1 A2 c2, f = .int .i64 (mulE0 r c xs m c) ∧ g = .int .i64 (mulE0 r c xs m r) ∧ mu = .slice A1 (mulO r c xs ys).length c1 ∧ ba = .slice A2 (backO r c xs ys).length c2 ∧
    Ints .i64 wx A1 (mulO r c xs ys).length (mulO r c xs ys) ∧ Ints .i64 wx A2 (backO r c xs ys).length (backO r c xs ys) ∧ Below w.heap.size w wx ∧ MatBox wx w.heap.size r c A n cap ∧ w.heap.size < wx.heap.size

/-- Behind the law's switch: what it expects of Outer. -/
def TurnB (wc : World) (ys zs : List Int) (h : Value) (wx : World) : Prop :=
  h = .int .i64 (outE ys.length zs.length) ∧ ∃ A3 c3, Blk wx wc.heap.size 48 #[.int .i64 (outO ys zs).1, .int .i64 (outO ys zs).2.1, .slice A3 (outO ys zs).2.2.length c3] ∧
    Ints .i64 wx A3 (outO ys zs).2.2.length (outO ys zs).2.2 ∧ Below wc.heap.size wc wx
/-- While the law makes its own outer product: the numbers so far are its own, in a box. -/
def TurnI (wc : World) (n m : Nat) (L : List Int) (wr : World) : Prop :=
  ∃ v, wr.ownsRow (wc.heap.size + 1) 3 1 v L.length (L.map (.int .i64)) ∧ Blk wr wc.heap.size 48 #[.int .i64 n, .int .i64 m, v] ∧ Below wc.heap.size wc wr
theorem turnI_step {wc w1 : World} {n m k gg cp : Nat} {xs ys : List Int} {v : Value} {x : Int} (hf : outF xs ys m k = x)
    (h : w1.ownsRow (wc.heap.size + 1) 3 1 (.slice (some ⟨gg, 0, none⟩) (k + 1) cp) (k + 1) ((upto (outF xs ys m) k).map (.int .i64) ++ [.int .i64 x]))
    (hB2 : Blk w1 wc.heap.size 48 #[.int .i64 n, .int .i64 m, v]) (hb : Below wc.heap.size wc w1) :
    TurnI wc n m (upto (outF xs ys m) (k + 1)) (w1.setCell ⟨wc.heap.size, 2, none⟩ (.slice (some ⟨gg, 0, none⟩) (k + 1) cp)) := by
  refine ⟨_, ?_, hB2.put 2 _, hb.setCell (by simp) _⟩
  rw [upto_length, upto_succ, List.map_append, hf]
  exact own_far h (by simp) _

set_option maxRecDepth 100000 in
set_option maxHeartbeats 4000000 in
theorem vecTurns_walk (r c : Int) (A B C : Option Addr) (n cap m1 d1 m2 d2 : Nat) (xs ys zs : List Int) (w : World) (hx : Ints .i64 w A n xs) (hy : Ints .i64 w B m1 ys) (hz : Ints .i64 w C m2 zs) (hcap : n ≤ cap) (hn : n ≤ 9223372036854775807) :
    Calls Try.prog 12 #[(.agg #[.int .i64 r, .int .i64 c, .slice A n cap]), .slice B m1 d1, .slice C m2 d2] w fun e w' => e = .returned (.bool true) ∧ Below w.heap.size w w' := by
  obtain ⟨i0, hi0, hz0, hz1, hz2⟩ := info_parts int_info
  have hM := MatBox.new w r c A n cap
  go_enter Try.func12, Try.ntmps12
  go_upto_if 26 with (go_at_call 42; refine (ref_Matrix r c A n cap xs _ (by exact hx.alloc _) hn).mono ?_; rintro e w1 ⟨rfl, hb1⟩)
  have hbw : Below w.heap.size w w1 := Below.trans (B := w.heap.size) (by repeat (first | exact Below.refl _ _ | assumption | refine bel_drewN ?_ _ | refine Below.drew ?_ | (refine Below.alloc ?_ (by simp <;> omega) _) | (refine Below.setCell ?_ (by simp <;> omega) _))) (hb1.mono (by simp <;> omega))
  have hM1 : MatBox w1 w.heap.size r c A n cap := hM.below hb1 (by simp)
  have hsz : w.heap.size < w1.heap.size := by have := hb1.size; simp at this; omega
  go_cut [8, 9, 10, 11] (fun f g mu ba wx => TurnA w r c A n cap m1 xs ys f g mu ba wx)
  case first =>
    have hx1 := hx.below hbw
    have hy1 := hy.below hbw
    by_cases hE : matE r c xs = 0
    · obtain ⟨h3, h4, h5, h6⟩ := matE_ok hE
      obtain ⟨r', rfl⟩ := Int.eq_ofNat_of_zero_le (show 0 ≤ r by omega)
      obtain ⟨c', rfl⟩ := Int.eq_ofNat_of_zero_le (show 0 ≤ c by omega)
      have hnn : n = r' * c' := by rw [← Int.natCast_mul, hx.len] at h5; omega
      have t : (matE r' c' xs == 0) = true := by rw [beq_iff_eq]; exact hE
      obtain ⟨p0, p1, p2⟩ := hM1
      have hM1 : MatBox w1 w.heap.size r' c' A n cap := ⟨p0, p1, p2⟩
      by_cases hc1 : m1 = c'
      · by_cases hr1 : m1 = r'
        · obtain rfl : m1 = c' := hc1
          obtain rfl : m1 = r' := hr1
          have t1 : ((m1 : Int) == (m1 : Int)) = true := beq_self_eq_true _
          have t2 : ((m1 : Int) == (m1 : Int)) = true := beq_self_eq_true _
          have F1 := Lib.hid (show mulE0 m1 m1 xs m1 m1 = 0 by unfold mulE0; rw [if_neg (by simp [hE]), if_neg (by simp)])
          have F2 := Lib.hid (show mulE0 m1 m1 xs m1 m1 = 0 by unfold mulE0; rw [if_neg (by simp [hE]), if_neg (by simp)])
          have F3 := Lib.hid (show mulO m1 m1 xs ys = mulL xs m1 m1 ys by unfold mulO; rw [if_pos ⟨hE, by rw [hy.len]⟩]; rfl)
          have F4 := Lib.hid (show backO m1 m1 xs ys = backL xs m1 m1 ys by unfold backO; rw [if_pos ⟨hE, by rw [hy.len]⟩]; rfl)
          have HN := Lib.hid hnn
          have ht := Lib.hid t
          clear hE hnn h5 h6
          go_wp2_with fail
          refine (ref_Times_row m1 m1 A B n cap d1 xs ys _ hx1 hy1 (by omega) (by omega) HN.out).mono ?_
          rintro e w3 ⟨A3, c3, rfl, ho3, hb3⟩
          have hI3 := Ints.of_own ho3 rfl
          have hx3 := hx1.below hb3
          have hy3 := hy1.below hb3
          have hM3 := hM1.below hb3 hsz
          have hs3 : w.heap.size < w3.heap.size := Nat.lt_of_lt_of_le hsz hb3.size
          have hbw3 := hbw.trans (hb3.mono (Nat.le_of_lt hsz))
          obtain ⟨q0, q1, q2⟩ := hM3
          go_wp2_with fail
          refine (ref_Times_col m1 m1 A B n cap d1 xs ys _ hx3 hy3 (by omega) (by omega) HN.out).mono ?_
          rintro e w4 ⟨A4, c4, rfl, ho4, hb4⟩
          have hI4 := Ints.of_own ho4 rfl
          have hM4 := MatBox.below ⟨q0, q1, q2⟩ hb4 hs3
          have hs4 : w.heap.size < w4.heap.size := Nat.lt_of_lt_of_le hs3 hb4.size
          have hbw4 := hbw3.trans (hb4.mono (Nat.le_of_lt hs3))
          have hI3' := hI3.below hb4
          go_wp2
          go_meet
          case rel => exact ⟨A3, c3, A4, c4, by rw [F1.out], by rw [F2.out], by rw [F3.out], by rw [F4.out], by rw [F3.out]; exact hI3', by rw [F4.out]; exact hI4, hbw4, hM4, hs4⟩
        · obtain rfl : m1 = c' := hc1
          have t1 : ((m1 : Int) == (m1 : Int)) = true := beq_self_eq_true _
          have t2 : ((m1 : Int) == (r' : Int)) = false := beq_eq_false_iff_ne.2 (by omega)
          have F1 := Lib.hid (show mulE0 r' m1 xs m1 m1 = 0 by unfold mulE0; rw [if_neg (by simp [hE]), if_neg (by simp)])
          have F2 := Lib.hid (show mulE0 r' m1 xs m1 r' = 5 by unfold mulE0; rw [if_neg (by simp [hE]), if_pos (by omega)])
          have F3 := Lib.hid (show mulO r' m1 xs ys = mulL xs r' m1 ys by unfold mulO; rw [if_pos ⟨hE, by rw [hy.len]⟩]; rfl)
          have F4 := Lib.hid (show backO r' m1 xs ys = [] by unfold backO; rw [if_neg (fun h => by have := h.2; rw [hy.len] at this; omega)])
          have HN := Lib.hid hnn
          have ht := Lib.hid t
          clear hE hnn h5 h6
          clear hr1
          go_wp2_with fail
          refine (ref_Times_row r' m1 A B n cap d1 xs ys _ hx1 hy1 (by omega) (by omega) HN.out).mono ?_
          rintro e w3 ⟨A3, c3, rfl, ho3, hb3⟩
          have hI3 := Ints.of_own ho3 rfl
          have hx3 := hx1.below hb3
          have hy3 := hy1.below hb3
          have hM3 := hM1.below hb3 hsz
          have hs3 : w.heap.size < w3.heap.size := Nat.lt_of_lt_of_le hsz hb3.size
          have hbw3 := hbw.trans (hb3.mono (Nat.le_of_lt hsz))
          obtain ⟨q0, q1, q2⟩ := hM3
          have hM4 : MatBox _ w.heap.size _ _ A n cap := ⟨q0, q1, q2⟩
          have hs4 := hs3
          have hbw4 := hbw3
          have hI3' := hI3
          go_wp2
          go_meet
          case rel => exact ⟨A3, c3, none, 0, by rw [F1.out], by rw [F2.out], by rw [F3.out], by rw [F4.out]; rfl, by rw [F3.out]; exact hI3', by rw [F4.out]; exact Ints.nil _ _ _, hbw4, hM4, hs4⟩
      · by_cases hr1 : m1 = r'
        · obtain rfl : m1 = r' := hr1
          have t1 : ((m1 : Int) == (c' : Int)) = false := beq_eq_false_iff_ne.2 (by omega)
          have t2 : ((m1 : Int) == (m1 : Int)) = true := beq_self_eq_true _
          have F1 := Lib.hid (show mulE0 m1 c' xs m1 c' = 5 by unfold mulE0; rw [if_neg (by simp [hE]), if_pos (by omega)])
          have F2 := Lib.hid (show mulE0 m1 c' xs m1 m1 = 0 by unfold mulE0; rw [if_neg (by simp [hE]), if_neg (by simp)])
          have F3 := Lib.hid (show mulO m1 c' xs ys = [] by unfold mulO; rw [if_neg (fun h => by have := h.2; rw [hy.len] at this; omega)])
          have F4 := Lib.hid (show backO m1 c' xs ys = backL xs m1 c' ys by unfold backO; rw [if_pos ⟨hE, by rw [hy.len]⟩]; rfl)
          have HN := Lib.hid hnn
          have ht := Lib.hid t
          clear hE hnn h5 h6
          clear hc1
          have hx3 := hx1
          have hy3 := hy1
          have hM3 := hM1
          have hs3 := hsz
          have hbw3 := hbw
          obtain ⟨q0, q1, q2⟩ := hM3
          go_wp2_with fail
          refine (ref_Times_col m1 c' A B n cap d1 xs ys _ hx3 hy3 (by omega) (by omega) HN.out).mono ?_
          rintro e w4 ⟨A4, c4, rfl, ho4, hb4⟩
          have hI4 := Ints.of_own ho4 rfl
          have hM4 := MatBox.below ⟨q0, q1, q2⟩ hb4 hs3
          have hs4 : w.heap.size < w4.heap.size := Nat.lt_of_lt_of_le hs3 hb4.size
          have hbw4 := hbw3.trans (hb4.mono (Nat.le_of_lt hs3))
          go_wp2
          go_meet
          case rel => exact ⟨none, 0, A4, c4, by rw [F1.out], by rw [F2.out], by rw [F3.out]; rfl, by rw [F4.out], by rw [F3.out]; exact Ints.nil _ _ _, by rw [F4.out]; exact hI4, hbw4, hM4, hs4⟩
        · have t1 : ((m1 : Int) == (c' : Int)) = false := beq_eq_false_iff_ne.2 (by omega)
          have t2 : ((m1 : Int) == (r' : Int)) = false := beq_eq_false_iff_ne.2 (by omega)
          have F1 := Lib.hid (show mulE0 r' c' xs m1 c' = 5 by unfold mulE0; rw [if_neg (by simp [hE]), if_pos (by omega)])
          have F2 := Lib.hid (show mulE0 r' c' xs m1 r' = 5 by unfold mulE0; rw [if_neg (by simp [hE]), if_pos (by omega)])
          have F3 := Lib.hid (show mulO r' c' xs ys = [] by unfold mulO; rw [if_neg (fun h => by have := h.2; rw [hy.len] at this; omega)])
          have F4 := Lib.hid (show backO r' c' xs ys = [] by unfold backO; rw [if_neg (fun h => by have := h.2; rw [hy.len] at this; omega)])
          have HN := Lib.hid hnn
          have ht := Lib.hid t
          clear hE hnn h5 h6
          clear hc1
          clear hr1
          have hx3 := hx1
          have hy3 := hy1
          have hM3 := hM1
          have hs3 := hsz
          have hbw3 := hbw
          obtain ⟨q0, q1, q2⟩ := hM3
          have hM4 : MatBox _ w.heap.size _ _ A n cap := ⟨q0, q1, q2⟩
          have hs4 := hs3
          have hbw4 := hbw3
          go_wp2
          go_meet
          case rel => exact ⟨none, 0, none, 0, by rw [F1.out], by rw [F2.out], by rw [F3.out]; rfl, by rw [F4.out]; rfl, by rw [F3.out]; exact Ints.nil _ _ _, by rw [F4.out]; exact Ints.nil _ _ _, hbw4, hM4, hs4⟩
    · have t : (matE r c xs == 0) = false := beq_eq_false_iff_ne.2 hE
      have F1 := Lib.hid (show mulE0 r c xs m1 c = matE r c xs from if_pos hE)
      have F2 := Lib.hid (show mulE0 r c xs m1 r = matE r c xs from if_pos hE)
      have F3 := Lib.hid (show mulO r c xs ys = [] from if_neg (fun h => hE h.1))
      have F4 := Lib.hid (show backO r c xs ys = [] from if_neg (fun h => hE h.1))
      clear hE
      go_wp2
      go_meet
      case rel => exact ⟨none, 0, none, 0, by rw [F1.out], by rw [F2.out], by rw [F3.out]; rfl, by rw [F4.out]; rfl, by rw [F3.out]; exact Ints.nil _ _ _, by rw [F4.out]; exact Ints.nil _ _ _, hbw, hM1, hsz⟩
  case rest =>
    obtain ⟨A1, c1, A2, c2, rfl, rfl, rfl, rfl, hI1, hI2, hbx, hMx, hsx⟩ := hcut
    clear hbw hM1 hsz hM hb1
    obtain ⟨wa, rfl⟩ : ∃ wa : World, wa = wc := ⟨_, rfl⟩
    have hyc := hy.below hbx
    have hzc := hz.below hbx
    go_upto_block 0 with fail
    go_cut [13] (fun h wx => TurnB wa ys zs h wx)
    case first =>
      by_cases hb1 : 200 < m1
      · have F := Lib.hid (show outE ys.length zs.length = 2 by rw [hy.len, hz.len]; exact if_pos (.inl hb1))
        have G := Lib.hid (show outO ys zs = (0, 0, []) from if_neg (by rw [F.out]; decide))
        go_wp2
        go_meet
        case rel => exact ⟨by rw [F.out], none, 0, by rw [G.out]; exact Blk.made _ _ _, by rw [G.out]; exact Ints.nil _ _ _, (Below.refl _ _).alloc (Nat.le_refl _) _⟩
      by_cases hb2 : 200 < m2
      · have F := Lib.hid (show outE ys.length zs.length = 2 by rw [hy.len, hz.len]; exact if_pos (.inr hb2))
        have G := Lib.hid (show outO ys zs = (0, 0, []) from if_neg (by rw [F.out]; decide))
        go_wp2
        go_meet
        case rel => exact ⟨by rw [F.out], none, 0, by rw [G.out]; exact Blk.made _ _ _, by rw [G.out]; exact Ints.nil _ _ _, (Below.refl _ _).alloc (Nat.le_refl _) _⟩
      have hnb : ¬ (200 < m1 ∨ 200 < m2) := by omega
      cases hs1 : sideB m1
      · have F := Lib.hid (show outE ys.length zs.length = 5 by rw [hy.len, hz.len]; unfold outE; rw [if_neg hnb, hs1]; rfl)
        have G := Lib.hid (show outO ys zs = (0, 0, []) from if_neg (by rw [F.out]; decide))
        have S1 := Lib.hid hs1; clear hs1; go_wp2_with (go_at_call 36; refine (ref_In m1 1 4 _).mono ?_; rintro e w' ⟨rfl, rfl⟩; rw [inB_side, S1.out])
        go_meet
        case rel => exact ⟨by rw [F.out], none, 0, by rw [G.out]; exact Blk.made _ _ _, by rw [G.out]; exact Ints.nil _ _ _, (Below.refl _ _).alloc (Nat.le_refl _) _⟩
      cases hs2 : sideB m2
      · have F := Lib.hid (show outE ys.length zs.length = 5 by rw [hy.len, hz.len]; unfold outE; rw [if_neg hnb, hs1, hs2]; rfl)
        have G := Lib.hid (show outO ys zs = (0, 0, []) from if_neg (by rw [F.out]; decide))
        have S1 := Lib.hid hs1; have S2 := Lib.hid hs2; clear hs1 hs2; go_wp2_with fail; refine (ref_In m1 1 4 _).mono ?_; rintro e w' ⟨rfl, rfl⟩; rw [inB_side, S1.out]; go_wp2_with (go_at_call 36; refine (ref_In m2 1 4 _).mono ?_; rintro e w' ⟨rfl, rfl⟩; rw [inB_side, S2.out])
        go_meet
        case rel => exact ⟨by rw [F.out], none, 0, by rw [G.out]; exact Blk.made _ _ _, by rw [G.out]; exact Ints.nil _ _ _, (Below.refl _ _).alloc (Nat.le_refl _) _⟩
      have h1 := sideB_iff.1 hs1
      have h2 := sideB_iff.1 hs2
      have F := Lib.hid (show outE ys.length zs.length = 0 by rw [hy.len, hz.len]; unfold outE; rw [if_neg hnb, hs1, hs2]; rfl)
      have G := Lib.hid (show outO ys zs = ((m1 : Int), (m2 : Int), outerL ys zs) by unfold outO; rw [if_pos F.out, hy.len, hz.len])
      have S1 := Lib.hid hs1
      have S2 := Lib.hid hs2
      clear hs1 hs2
      go_wp2_with fail
      refine (ref_In m1 1 4 _).mono ?_
      rintro e w' ⟨rfl, rfl⟩
      rw [inB_side, S1.out]
      have hprod : 0 ≤ (m1 : Int) * (m2 : Int) := Int.mul_nonneg (by omega) (by omega)
      have hprod' : (m1 : Int) * (m2 : Int) ≤ 16 := by
        have : m1 * m2 ≤ 4 * 4 := Nat.mul_le_mul (by omega) (by omega)
        have e : (m1 : Int) * (m2 : Int) = ((m1 * m2 : Nat) : Int) := (Int.natCast_mul m1 m2).symm
        omega
      go_wp2_with (go_at_call 36; refine (ref_In m2 1 4 _).mono ?_; rintro e w' ⟨rfl, rfl⟩; rw [inB_side, S2.out])
      go_loopw [53] (fun i wr => ∃ i' : Nat, i' ≤ m1 * m2 ∧ i = .int .i64 i' ∧ TurnI wa m1 m2 (upto (outF ys zs m2) i') wr) (fun i _ => m1 * m2 - (intOf i).toNat)
      case atStart => exact ⟨0, Nat.zero_le _, rfl, .slice none 0 0, World.ownsRow_nil _ _ _ _, Blk.made _ _ _, (Below.refl _ _).alloc (Nat.le_refl _) _⟩
      case round =>
        obtain ⟨i, hi, rfl, v, hown, hblk, hbr⟩ := hrel
        have hmm : (m1 : Int) * (m2 : Int) = ((m1 * m2 : Nat) : Int) := (Int.natCast_mul m1 m2).symm
        by_cases hlt : i < m1 * m2
        · have hlt' : (i : Int) < (m1 : Int) * (m2 : Int) := by omega
          obtain ⟨qa, hqa⟩ : ∃ qa, qa = i / m2 := ⟨_, rfl⟩
          obtain ⟨qb, hqb⟩ : ∃ qb, qb = i % m2 := ⟨_, rfl⟩
          have hqa1 : qa < m1 := by rw [hqa]; exact Nat.div_lt_of_lt_mul (by rw [Nat.mul_comm]; exact hlt)
          have hqb1 : qb < m2 := by rw [hqb]; exact Nat.mod_lt _ (by omega)
          have r1 : (i : Int).tdiv (m2 : Int) = (qa : Int) := by rw [hqa]; rfl
          have r2 : (i : Int).tmod (m2 : Int) = (qb : Int) := by rw [hqb]; rfl
          have r3 : (i : Int) / (m2 : Int) = (qa : Int) := by rw [hqa]; rfl
          have r4 : (i : Int) % (m2 : Int) = (qb : Int) := by rw [hqb]; rfl
          have HF := Lib.hid (show outF ys zs m2 i = mulF (at0 ys qa) (at0 zs qb) by unfold outF; rw [hqa, hqb])
          have hi16 : i ≤ 16 := by omega
          clear hqa hqb hmm
          obtain ⟨b, off, rfl, hbl, hc⟩ := hyc.cells (by omega)
          obtain ⟨b', off', rfl, hbl', hc'⟩ := hzc.cells (by omega)
          have g1 := (hbr.cell (p := ⟨b, off + qa, none⟩) hbl).trans (hc qa hqa1)
          have g2 := (hbr.cell (p := ⟨b', off' + qb, none⟩) hbl').trans (hc' qb hqb1)
          have c2 : wr.cell? ⟨wa.heap.size, 2, none⟩ = some v := hblk.cell 2
          have c2' : ∀ k o, ((wr.drewN k).alloc o).cell? ⟨wa.heap.size, 2, none⟩ = some v := fun k o => ((hblk.drewN k).alloc o).cell 2
          have hlt3 := hblk.lt
          have hne : some wa.heap.size ≠ v.ownBlock := fun h => by have := (hown.lt _ h.symm).1; omega
          rw [upto_length] at hown
          have zi : (0 : Int) ≤ (i : Int) := Int.natCast_nonneg _
          have za : (0 : Int) ≤ (qa : Int) := Int.natCast_nonneg _
          have zb : (0 : Int) ≤ (qb : Int) := Int.natCast_nonneg _
          have za' : (qa : Int) < (m1 : Int) := by omega
          have zb' : (qb : Int) < (m2 : Int) := by omega
          have zm : ¬ m2 = 0 := by omega
          have hm16 : m1 ≤ 4 ∧ m2 ≤ 4 := by omega
          have hw1 := IntWalk.i64_in (qa : Int) (by omega)
          have hw2 := IntWalk.i64_in (qb : Int) (by omega)
          clear hc hc'
          go_wp2
          go_region_law (first
            | (refine step_append_lies _ (by rfl) _ _ _ (by rfl) (wa.heap.size + 1) 3 i0 _ 1 8 Try.underlying31 hi0 hz0 hz1 hz2 rfl (by omega) v i _ (by rfl) (by exact own_allocD hown (1 + kk) _) ⟨wr.heap.size, 0, none⟩ 1 1 [.int .i64 (mulF (at0 ys qa) (at0 zs qb))] (by rfl) (by rfl) (World.news_of_block (cs := #[.int .i64 (mulF (at0 ys qa) (at0 zs qb))]) (t := 3) (fr := (0, 0)) (heap_alloc_new _ _)) (by simp [Value.oneCell']) (by omega) (by unfold maxLen; omega) (by omega) (by simp; omega) (wr.heap.size + 1) (by simp) ?_; intro gg cp w1 hown1 hgrow hat hlt1; have hB2 : Blk w1 wa.heap.size 48 #[.int .i64 m1, .int .i64 m2, v] := hblk.grownD hgrow hne; have hbw := bel_grownD hbr (by omega) hgrow (fun x hx => (by have := (hown.lt x hx).1; omega)); have d2 : w1.cell? ⟨wa.heap.size, 2, none⟩ = some v := hB2.cell 2; have e2 : w1.frozen? ⟨wa.heap.size, 2, none⟩ = false := hB2.frozen 2; clear hgrow hat)
            | (go_simp; go_at_call 26; refine (ref_Mul _ _ _).mono ?_; rintro e w' ⟨rfl, kk, rfl⟩))
          all_goals
            clear hw1 hw2
            go_wp2
            go_roundw
            case rel => exact ⟨i + 1, by omega, by go_num, turnI_step HF.out hown1 hB2 hbw⟩
            case measure => simp [intOf]; omega
        · obtain rfl : m1 * m2 = i := by omega
          have hge : ¬ ((m1 * m2 : Nat) : Int) < (m1 : Int) * (m2 : Int) := by omega
          clear hmm
          go_wp2
          go_meet
          have hL : upto (outF ys zs m2) (m1 * m2) = outerL ys zs := by unfold outerL outF; rw [hy.len, hz.len]
          rw [hL] at hown
          obtain ⟨vA, vc, rfl, hIo⟩ := own_ints hown
          case rel => exact ⟨by rw [F.out], vA, vc, by rw [G.out]; exact hblk, by rw [G.out]; exact hIo, hbr⟩
    case rest =>
      obtain ⟨rfl, A3, c3, hblk, hI3, hb3⟩ := hcut
      have hb4 : Below w.heap.size w wc := hbx.trans (hb3.mono (by omega))
      have hs4 : w.heap.size < wc.heap.size := Nat.lt_of_lt_of_le hsx hb3.size
      have hM4 := hMx.below hb3 hsx
      have hx4 := hx.below hb4
      have hy4 := hy.below hb4
      have hz4 := hz.below hb4
      have hI1' := hI1.below hb3
      have hI2' := hI2.below hb3
      have HE := Lib.hid (show outE m1 m2 = outE ys.length zs.length by rw [hy.len, hz.len])
      have hl1 := Lib.hid (mulO_len r c xs ys)
      have hl2 := Lib.hid (backO_len r c xs ys)
      have hl3 := Lib.hid (outO_len ys zs)
      clear hI1 hI2 hb3 hMx hbx hsx hyc hzc
      obtain ⟨q0, q1, q2⟩ := hM4
      have hM4 : MatBox wc w.heap.size r c A n cap := ⟨q0, q1, q2⟩
      by_cases hbig : 200 < m1
      · have P1 := Lib.hid (show prodE r c xs m1 c = 2 from if_pos (by omega))
        have P2 := Lib.hid (show prodE r c xs m1 r = 2 from if_pos (by omega))
        go_wp2_with fail
        refine (vec_Mul_any r c A B n cap m1 d1 xs ys _ hx4 hy4 hcap hn).mono ?_
        rintro e w5 ⟨A5, c5, rfl, hI5, hb5⟩
        rw [P1.out]
        have hM5 := hM4.below hb5 hs4
        have hs5 : w.heap.size < w5.heap.size := Nat.lt_of_lt_of_le hs4 hb5.size
        obtain ⟨q0, q1, q2⟩ := hM5
        go_wp2_with fail
        refine (vec_Back_any r c A B n cap m1 d1 xs ys _ (hx4.below hb5) (hy4.below hb5) hn).mono ?_
        rintro e w6 ⟨A6, c6, rfl, hI6, hb6⟩
        rw [P2.out]
        clear q0 q1 q2
        have hM6 := (hM4.below hb5 hs4).below hb6 hs5
        have hs6 : w.heap.size < w6.heap.size := Nat.lt_of_lt_of_le hs5 hb6.size
        have hb56 := bel_trans hb5 hb6
        go_wp2_with fail
        refine (vec_Outer_any B C m1 d1 m2 d2 ys zs _ (hy4.below hb56) (hz4.below hb56)).mono ?_
        rintro e w7 ⟨A7, c7, rfl, hI7, hb7⟩
        rw [HE.out]
        have hb57 := bel_trans hb56 hb7
        have hs7 : w.heap.size < w7.heap.size := Nat.lt_of_lt_of_le hs6 hb7.size
        have hM7 := hM6.below hb7 hs6
        have q0 : ∀ o, (w7.alloc o).cell? ⟨w.heap.size, 0, none⟩ = some (.int .i64 r) := fun o => (World.cell?_alloc_past _ _ _ (by omega)).trans hM7.1
        have q1 : ∀ o, (w7.alloc o).cell? ⟨w.heap.size, 1, none⟩ = some (.int .i64 c) := fun o => (World.cell?_alloc_past _ _ _ (by omega)).trans hM7.2.1
        have q2 : ∀ o, (w7.alloc o).cell? ⟨w.heap.size, 2, none⟩ = some (.slice A n cap) := fun o => (World.cell?_alloc_past _ _ _ (by omega)).trans hM7.2.2
        go_wp2_with fail
        refine (vec_Check r c A n cap xs _ (by exact (hx4.below hb57).alloc _) (by omega)).mono ?_
        rintro e w8 ⟨rfl, hb8⟩
        clear q0 q1 q2
        have hB8 : Blk w8 w7.heap.size 48 #[.int .i64 (outO ys zs).1, .int .i64 (outO ys zs).2.1, .slice A7 (outO ys zs).2.2.length c7] := (Blk.made _ _ _).below hb8 (by simp)
        have hC8 : Blk w8 wa.heap.size 48 #[.int .i64 (outO ys zs).1, .int .i64 (outO ys zs).2.1, .slice A3 (outO ys zs).2.2.length c3] := ((hblk.below hb57 hblk.lt).alloc _).below hb8 ((hblk.below hb57 hblk.lt).alloc _).lt
        have s0 := hB8.cell 0
        have s1 := hB8.cell 1
        have s2 := hB8.cell 2
        have t0 := hC8.cell 0
        have t1 := hC8.cell 1
        have t2 := hC8.cell 2
        simp at s0 s1 s2 t0 t1 t2
        have ha8 := (hI1'.below hb57).alloc (.cells #[.int .i64 (outO ys zs).1, .int .i64 (outO ys zs).2.1, .slice A7 (outO ys zs).2.2.length c7] 48)
        go_wp2_with fail
        refine (equalI_any A5 A1 _ _ _ _ _ _ _ (by exact ((hI5.below (bel_trans hb6 hb7)).alloc _).below hb8) (by exact ((hI1'.below hb57).alloc _).below hb8) hl1.out).mono ?_
        rintro e w9 ⟨rfl, k9, rfl⟩
        rw [decide_eq_true rfl]
        go_wp2_with fail
        refine (equalI_any A6 A2 _ _ _ _ _ _ _ (by exact (((hI6.below hb7).alloc _).below hb8).drewN _) (by exact (((hI2'.below hb57).alloc _).below hb8).drewN _) hl2.out).mono ?_
        rintro e w10 ⟨rfl, k10, rfl⟩
        rw [decide_eq_true rfl]
        go_wp2_with fail
        refine (ref_SameMatrix_yes _ _ A7 A3 _ c7 _ c3 (outO ys zs).2.2 _ (by exact ((hI7.alloc _).below hb8).drewN _) (by exact (((hI3.below hb57).alloc _).below hb8).drewN _) hl3.out).mono ?_
        rintro e w11 ⟨rfl, hb11⟩
        go_wp2
        go_ret
        have hbz : Below w.heap.size w w7 := hb4.trans (hb57.mono (by omega))
        have hbz8 := (hbz.alloc (by omega) _).trans (hb8.mono (by simp; omega))
        exact ⟨rfl, (bel_drewN hbz8 _).trans (hb11.mono hbz8.size)⟩
      · have P1 := Lib.hid (show prodE r c xs m1 c = mulE0 r c xs m1 c from if_neg (by omega))
        have P2 := Lib.hid (show prodE r c xs m1 r = mulE0 r c xs m1 r from if_neg (by omega))
        go_wp2_with fail
        refine (vec_Mul_any r c A B n cap m1 d1 xs ys _ hx4 hy4 hcap hn).mono ?_
        rintro e w5 ⟨A5, c5, rfl, hI5, hb5⟩
        rw [P1.out]
        have hM5 := hM4.below hb5 hs4
        have hs5 : w.heap.size < w5.heap.size := Nat.lt_of_lt_of_le hs4 hb5.size
        obtain ⟨q0, q1, q2⟩ := hM5
        go_wp2_with fail
        refine (vec_Back_any r c A B n cap m1 d1 xs ys _ (hx4.below hb5) (hy4.below hb5) hn).mono ?_
        rintro e w6 ⟨A6, c6, rfl, hI6, hb6⟩
        rw [P2.out]
        clear q0 q1 q2
        have hM6 := (hM4.below hb5 hs4).below hb6 hs5
        have hs6 : w.heap.size < w6.heap.size := Nat.lt_of_lt_of_le hs5 hb6.size
        have hb56 := bel_trans hb5 hb6
        go_wp2_with fail
        refine (vec_Outer_any B C m1 d1 m2 d2 ys zs _ (hy4.below hb56) (hz4.below hb56)).mono ?_
        rintro e w7 ⟨A7, c7, rfl, hI7, hb7⟩
        rw [HE.out]
        have hb57 := bel_trans hb56 hb7
        have hs7 : w.heap.size < w7.heap.size := Nat.lt_of_lt_of_le hs6 hb7.size
        have hM7 := hM6.below hb7 hs6
        have q0 : ∀ o, (w7.alloc o).cell? ⟨w.heap.size, 0, none⟩ = some (.int .i64 r) := fun o => (World.cell?_alloc_past _ _ _ (by omega)).trans hM7.1
        have q1 : ∀ o, (w7.alloc o).cell? ⟨w.heap.size, 1, none⟩ = some (.int .i64 c) := fun o => (World.cell?_alloc_past _ _ _ (by omega)).trans hM7.2.1
        have q2 : ∀ o, (w7.alloc o).cell? ⟨w.heap.size, 2, none⟩ = some (.slice A n cap) := fun o => (World.cell?_alloc_past _ _ _ (by omega)).trans hM7.2.2
        go_wp2_with fail
        refine (vec_Check r c A n cap xs _ (by exact (hx4.below hb57).alloc _) (by omega)).mono ?_
        rintro e w8 ⟨rfl, hb8⟩
        clear q0 q1 q2
        have hB8 : Blk w8 w7.heap.size 48 #[.int .i64 (outO ys zs).1, .int .i64 (outO ys zs).2.1, .slice A7 (outO ys zs).2.2.length c7] := (Blk.made _ _ _).below hb8 (by simp)
        have hC8 : Blk w8 wa.heap.size 48 #[.int .i64 (outO ys zs).1, .int .i64 (outO ys zs).2.1, .slice A3 (outO ys zs).2.2.length c3] := ((hblk.below hb57 hblk.lt).alloc _).below hb8 ((hblk.below hb57 hblk.lt).alloc _).lt
        have s0 := hB8.cell 0
        have s1 := hB8.cell 1
        have s2 := hB8.cell 2
        have t0 := hC8.cell 0
        have t1 := hC8.cell 1
        have t2 := hC8.cell 2
        simp at s0 s1 s2 t0 t1 t2
        have ha8 := (hI1'.below hb57).alloc (.cells #[.int .i64 (outO ys zs).1, .int .i64 (outO ys zs).2.1, .slice A7 (outO ys zs).2.2.length c7] 48)
        go_wp2_with fail
        refine (equalI_any A5 A1 _ _ _ _ _ _ _ (by exact ((hI5.below (bel_trans hb6 hb7)).alloc _).below hb8) (by exact ((hI1'.below hb57).alloc _).below hb8) hl1.out).mono ?_
        rintro e w9 ⟨rfl, k9, rfl⟩
        rw [decide_eq_true rfl]
        go_wp2_with fail
        refine (equalI_any A6 A2 _ _ _ _ _ _ _ (by exact (((hI6.below hb7).alloc _).below hb8).drewN _) (by exact (((hI2'.below hb57).alloc _).below hb8).drewN _) hl2.out).mono ?_
        rintro e w10 ⟨rfl, k10, rfl⟩
        rw [decide_eq_true rfl]
        go_wp2_with fail
        refine (ref_SameMatrix_yes _ _ A7 A3 _ c7 _ c3 (outO ys zs).2.2 _ (by exact ((hI7.alloc _).below hb8).drewN _) (by exact (((hI3.below hb57).alloc _).below hb8).drewN _) hl3.out).mono ?_
        rintro e w11 ⟨rfl, hb11⟩
        go_wp2
        go_ret
        have hbz : Below w.heap.size w w7 := hb4.trans (hb57.mono (by omega))
        have hbz8 := (hbz.alloc (by omega) _).trans (hb8.mono (by simp; omega))
        exact ⟨rfl, (bel_drewN hbz8 _).trans (hb11.mono hbz8.size)⟩

set_option maxRecDepth 100000 in
theorem vecTurns_lifted (os : Os) (started : os.Started) (H : Type) (enc : TypeId × Value → H) :
    ReturnsInHanded {} Try.checked os 12 .any (Rows.vecTurnsSpec.pre6 enc Try.prog Try.f12 Rows.vecTurnsRow.domain false) (Rows.vecTurnsSpec.post enc Try.prog Try.f12 false true false false) := by
  refine lift_law (fn := Try.f12) started (by kernel_rfl) Try.func12
    (ChangeSpec.witness6 (enc := enc) (C := Try.checked) false ⟨#[], #[.agg #[.int .i64 0, .int .i64 0, .slice none 0 0], .slice none 0 0, .slice none 0 0], []⟩ 8 (by kernel_rfl) (by kernel_rfl) (by kernel_rfl) (by kernel_rfl)) (by kernel_rfl) rfl Try.underlying4 rfl ?_ ?_
  · intro ds h
    rw [Try.params12] at h
    match ds, h with
    | [d0, d1, d2], _ => rfl
  · intro W args ds ps hA hlt hval hsz
    rw [Try.params12] at hA hval hsz
    obtain ⟨v0, vs0, d0, ds0, p0, q0, hargs, rfl, rfl, h0, r0⟩ := trodAll_cons hA
    obtain ⟨v1, vs1, d1, ds1, p1, q1, rfl, rfl, rfl, h1, r1⟩ := trodAll_cons r0
    obtain ⟨v2, vs2, d2, ds2, p2, q2, rfl, rfl, rfl, h2, r2⟩ := trodAll_cons r1
    obtain ⟨rfl, rfl, rfl⟩ := trodAll_nil r2
    obtain rfl : args = #[v0, v1, v2] := by cases args; simp_all
    obtain ⟨b0, hv0⟩ := hval 0 48 v0 rfl rfl
    obtain ⟨b1, hv1⟩ := hval 1 31 v1 rfl rfl
    obtain ⟨b2, hv2⟩ := hval 2 31 v2 rfl rfl
    obtain ⟨r, c, A, n, cap, xs, rfl, _, _, hx, hcap, hm⟩ := arg_mat (fun _ => rfl) hv0 h0
    obtain ⟨B, m1, e1, ys, rfl, hy, _, _, _⟩ := arg_ints (fun _ => rfl) hv1 h1
    obtain ⟨C, m2, e2, zs, rfl, hz, _, _, _⟩ := arg_ints (fun _ => rfl) hv2 h2
    exact vecTurns_walk r c A B C n cap m1 e1 m2 e2 xs ys zs W hx hy hz hcap (by
      unfold maxLen at hm
      omega)
theorem VecTurns_holds : Rows.VecTurnsSaid :=
  OpenClaim.holds_of_wide 12 Try.f12 rfl rfl rfl rfl rfl rfl rfl ⟨rfl, rfl, rfl, rfl, rfl⟩ rfl rfl rfl rfl rfl (by kernel_rfl) Try.func12 (by kernel_rfl)
    (of_decide_eq_true (by kernel_rfl)) (by unfold Func.isWrapper; first | (rw [if_pos (by decide +kernel)]; kernel_rfl) | (rw [if_neg (by decide +kernel)]; exact ⟨rfl, rfl⟩))
    (fun os started H enc _ => vecTurns_lifted os started H enc)

end Go.Proofs.Ytflljldlfgpimaa
