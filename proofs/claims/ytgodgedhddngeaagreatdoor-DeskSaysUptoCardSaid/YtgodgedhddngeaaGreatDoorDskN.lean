/- Words that are numbers: the desk's number, numbers; the document's digits, wholes: walks. -/
import Derived.Test.YtgodgedhddngeaaGreatDoorDskF
set_option maxRecDepth 100000
set_option maxHeartbeats 16000000
namespace Go.Proofs.YtgodgedhddngeaaGreatDoor
open Go.RowKit Go.Sort Pl
def numQ (l : List UInt8) : Int := (numW l).getD 0
theorem bytesOf_arr (l : List UInt8) : (⟨l.toArray⟩ : ByteArray) = bytesOf l := rfl
theorem lib_CutMinus (s : ByteArray) (w : World) : Calls Tryz.prog 71 #[.string s, .string (bytesOf [45])] w fun e w' => e = .returned (.tuple #[.string (bytesOf (bodyW s.data.toList)), .bool (negW s.data.toList)]) ∧ w' = w := by
 have h := Tryz.strings_CutPrefix s (bytesOf [45]) w
 rw [bytesOf_data, bytesOf_arr] at h
 have h1 : Lib.hasPrefix s.data.toList [45] = negW s.data.toList := by
  unfold Lib.hasPrefix negW
  cases s.data.toList with
  | nil => rfl
  | cons a t =>
   simp only [List.isPrefixOf, Bool.and_true, List.head?_cons]
   by_cases e : a = 45
   ·subst e; rfl
   ·rw [beq_eq_false_iff_ne.2 (Ne.symm e)]
    symm
    rw [beq_eq_false_iff_ne]
    intro e2
    injection e2 with e2
    exact e e2
 have h2 : Lib.trimPrefix s.data.toList [45] = bodyW s.data.toList := by
  unfold Lib.trimPrefix bodyW
  rw [h1]
  split
  ·rw [List.length_singleton, List.drop_one]
  ·rfl
 rw [h1, h2] at h
 exact h
theorem numD_bad {ng : Bool} {l : List UInt8} (h : l.length < 1 ∨ 10 < l.length ∨ (l.head? = some 48 ∧ (1 < l.length ∨ ng = true))) : numD ng l = none := if_pos h
theorem numD_no_dig {ng : Bool} {l : List UInt8} {q : Nat} {b : UInt8} (h : l[q]? = some b) (hb : isDig b = false) : numD ng l = none := by
 unfold numD
 split
 ·rfl
 ·rw [if_neg]
  intro ha
  rw [List.all_eq_true] at ha
  rw [ha b (List.mem_of_getElem? h)] at hb
  cases hb
theorem numD_all {ng : Bool} {l : List UInt8} (h : ¬ (l.length < 1 ∨ 10 < l.length ∨ (l.head? = some 48 ∧ (1 < l.length ∨ ng = true)))) (ha : l.all isDig = true) : numD ng l = some (if ng then -(numV l : Int) else numV l) := by
 unfold numD
 rw [if_neg h, if_pos ha]
theorem pow10b {q : Nat} (h : q ≤ 9) {N : Nat} (hN : N < 10 ^ q) : N < 1000000000 := Nat.lt_of_lt_of_le hN (Nat.pow_le_pow_right (n := 10) (by omega) h)
theorem dsk_number (s : ByteArray) (w : World) :
  Calls Tryz.prog 45 #[.string s] w fun e w' => e = .returned (.tuple #[.int .i64 (numQ s.data.toList), .bool (numW s.data.toList).isSome]) ∧ w' = w := by
 have HCP := lib_CutMinus s w
 obtain ⟨b, hb⟩ : ∃ b, b = bytesOf (bodyW s.data.toList) := ⟨_, rfl⟩
 have hbd : b.data.toList = bodyW s.data.toList := by rw [hb, bytesOf_data]
 have FE : numW s.data.toList = numD (negW s.data.toList) b.data.toList := by rw [hbd]; rfl
 unfold numQ
 rw [FE]
 rw [← hb] at HCP
 obtain ⟨ng, hng⟩ : ∃ g, g = negW s.data.toList := ⟨_, rfl⟩
 rw [← hng] at HCP ⊢
 have HCP := Lib.hid HCP
 clear hbd FE hb hng
 have hsz : b.data.toList.length = b.size := by rw [Array.length_toList]; rfl
 by_cases h0 : b.size < 1
 ·have F := Lib.hid (numD_bad (ng := ng) (l := b.data.toList) (.inl (by omega)))
  rw [F.out]
  clear hsz
  go_enter Tryz.func45, Tryz.ntmps45
  go_wp2_with fail
  refine HCP.out.mono ?_
  rintro e w' ⟨rfl, rfl⟩
  go_wp2
  go_ret2
  exact ⟨rfl, rfl⟩
 ·by_cases h1 : 10 < b.size
  ·have F := Lib.hid (numD_bad (ng := ng) (l := b.data.toList) (.inr (.inl (by omega))))
   rw [F.out]
   clear hsz
   go_enter Tryz.func45, Tryz.ntmps45
   go_wp2_with fail
   refine HCP.out.mono ?_
   rintro e w' ⟨rfl, rfl⟩
   go_wp2
   go_ret2
   exact ⟨rfl, rfl⟩
  ·have hp : 0 < b.size := by omega
   obtain ⟨v, hv⟩ : ∃ v, (b[0]'hp).toNat = v := ⟨_, rfl⟩
   have hv256 : v < 256 := by rw [← hv]; exact UInt8.toNat_lt _
   have hhd : b.data.toList.head? = some (b[0]'hp) := by rw [List.head?_eq_getElem?]; exact byte_at b hp
   have HHD := Lib.hid (show b.data.toList.head? = some 48 ↔ v = 48 from by
    rw [hhd, ← hv]
    constructor
    ·intro h; injection h with h; rw [h]; rfl
    ·intro h; congr 1; exact UInt8.toNat_inj.1 h)
   clear hhd
   by_cases h2 : v = 48 ∧ (1 < b.size ∨ ng = true)
   ·have F := Lib.hid (numD_bad (ng := ng) (l := b.data.toList) (.inr (.inr ⟨HHD.out.2 h2.1, by rw [hsz]; exact h2.2⟩)))
    rw [F.out]
    obtain ⟨rfl, h2⟩ := h2
    clear hsz
    rcases h2 with h2 | rfl
    ·go_enter Tryz.func45, Tryz.ntmps45
     go_wp2_with fail
     refine HCP.out.mono ?_
     rintro e w' ⟨rfl, rfl⟩
     go_wp2
     go_ret2
     exact ⟨rfl, rfl⟩
    ·by_cases h3 : 1 < b.size
     all_goals
      go_enter Tryz.func45, Tryz.ntmps45
      go_wp2_with fail
      refine HCP.out.mono ?_
      rintro e w' ⟨rfl, rfl⟩
      go_wp2
      go_ret2
      exact ⟨rfl, rfl⟩
   ·have HGB := Lib.hid (show ¬ (b.data.toList.length < 1 ∨ 10 < b.data.toList.length ∨ (b.data.toList.head? = some 48 ∧ (1 < b.data.toList.length ∨ ng = true))) from by
     rintro (h | h | ⟨h, h'⟩)
     ·omega
     ·omega
     ·exact h2 ⟨HHD.out.1 h, by rw [← hsz]; exact h'⟩)
    have h3 : (v = 48 ∧ b.size = 1 ∧ ng = false) ∨ v ≠ 48 := by
     by_cases e : v = 48
     ·left
      refine ⟨e, ?_, ?_⟩
      ·rcases Nat.lt_or_ge 1 b.size with h | h
       ·exact absurd ⟨e, .inl h⟩ h2
       ·omega
      ·cases hg : ng
       ·rfl
       ·exact absurd ⟨e, .inr hg⟩ h2
     ·exact .inr e
    clear h2
    have hfin : ∀ X : Int, (if ng = true then -X else X) = bif ng then -X else X := fun X => by cases ng <;> rfl
    rcases h3 with ⟨rfl, h3, rfl⟩ | h3
    all_goals
     first
      | (have h4 : ¬ (v : Int) = 48 := by omega)
      | (have h4 : ¬ 1 < b.size := by omega)
     have HF := Lib.hid hfin
     clear hfin
     try clear h3
     go_enter Tryz.func45, Tryz.ntmps45
     go_wp2_with fail
     refine HCP.out.mono ?_
     rintro e w' ⟨rfl, rfl⟩
     go_upto_region 4 with fail
     clear hv hv256 HHD
     go_wp2
     go_loopw [6, 7, 36] (fun nn _ j wr => ∃ q : Nat, q ≤ b.size ∧ j = .int .i64 q ∧ nn = .int .i64 (numV (b.data.toList.take q) : Nat) ∧ (b.data.toList.take q).all isDig = true ∧ wr = w') (fun _ _ j _ => b.size - (intOf j).toNat)
     case atStart => exact ⟨0, by omega, rfl, rfl, rfl, rfl⟩
     case round =>
      obtain ⟨q, hq, rfl, rfl, hall, hwr⟩ := hrel
      subst hwr
      have HA := Lib.hid hall
      clear hall
      by_cases hlt : q < b.size
      ·have hN := numV_lt _ HA.out
       rw [List.length_take, Nat.min_eq_left (by omega)] at hN
       have hN := pow10b (by omega) hN
       have HBD := Lib.hid (byte_at b hlt)
       have HT := Lib.hid (show numV (b.data.toList.take (q + 1)) = 10 * numV (b.data.toList.take q) + ((b[q]'hlt).toNat - 48) from by rw [take_byte b hlt, numV_snoc])
       have HAL := Lib.hid (fun (h : isDig (b[q]'hlt) = true) => show (b.data.toList.take (q + 1)).all isDig = true from by
        rw [take_byte b hlt, List.all_append, HA.out]
        simp [h])
       have HIS := Lib.hid (show isDig (b[q]'hlt) = (decide (48 ≤ (b[q]'hlt).toNat) && decide ((b[q]'hlt).toNat ≤ 57)) from rfl)
       have HNO := Lib.hid (fun g (h : isDig (b[q]'hlt) = false) => numD_no_dig (ng := g) HBD.out h)
       obtain ⟨u, hu⟩ : ∃ u, (b[q]'hlt).toNat = u := ⟨_, rfl⟩
       have hu256 : u < 256 := by rw [← hu]; exact UInt8.toNat_lt _
       rw [hu] at HT HIS
       obtain ⟨N, hNN⟩ : ∃ N, N = numV (b.data.toList.take q) := ⟨_, rfl⟩
       rw [← hNN] at HT hN ⊢
       clear hNN HA
       by_cases h48 : u < 48
       ·have F := Lib.hid (fun g => HNO.out g (by rw [HIS.out, decide_eq_false (by omega)]; rfl))
        clear hN hsz
        go_wp2
        go_ret2
        rw [F.out]
        exact ⟨rfl, rfl⟩
       ·by_cases h57 : 57 < u
        ·have F := Lib.hid (fun g => HNO.out g (by rw [HIS.out, decide_eq_false (p := u ≤ 57) (by omega), Bool.and_false]))
         clear hN hsz
         go_wp2
         go_ret2
         rw [F.out]
         exact ⟨rfl, rfl⟩
        ·have D := Lib.hid (HAL.out (by rw [HIS.out, decide_eq_true (by omega), decide_eq_true (by omega)]; rfl))
         have w1 : IntKind.u8.wrap ((u : Int) - 48) = ((u - 48 : Nat) : Int) := by rw [IntKind.wrap_u8]; omega
         have w2 : IntKind.i64.wrap (10 * (N : Int)) = ((10 * N : Nat) : Int) := by rw [wrap_small _ (by omega) (by omega)]; omega
         have w3 : IntKind.i64.wrap (((10 * N : Nat) : Int) + ((u - 48 : Nat) : Int)) = ((10 * N + (u - 48) : Nat) : Int) := by rw [wrap_small _ (by omega) (by omega)]; omega
         have w4 : IntKind.i64.wrap ((u - 48 : Nat) : Int) = ((u - 48 : Nat) : Int) := wrap_small _ (by omega) (by omega)
         clear hsz
         go_wp2
         go_roundw
         case rel => exact ⟨q + 1, by omega, by go_num, by rw [HT.out]; (congr 1 <;> omega), D.out, by simp⟩
         case measure => simp [intOf]; omega
      ·obtain rfl : q = b.size := by omega
       have F := Lib.hid (numD_all HGB.out (by have h := HA.out; rwa [List.take_of_length_le (by omega)] at h))
       have hN := numV_lt _ HA.out
       rw [List.length_take, Nat.min_eq_left (by omega)] at hN
       rw [List.take_of_length_le (by omega)] at hN ⊢
       have hN2 : numV b.data.toList < 10000000000 := Nat.lt_of_lt_of_le hN (Nat.pow_le_pow_right (n := 10) (j := 10) (by omega) (by omega))
       obtain ⟨N, hNN⟩ : ∃ N, N = numV b.data.toList := ⟨_, rfl⟩
       rw [← hNN] at F hN2 ⊢
       clear hNN hN hsz HA
       first
        | (cases ng
           all_goals
            go_wp2
            go_ret2
            rw [F.out]
            exact ⟨rfl, rfl⟩)
        | (go_wp2
           go_ret2
           rw [F.out]
           exact ⟨rfl, rfl⟩)
structure StrsR (w : World) (A : Option Addr) (n : Nat) (L : List (List UInt8)) : Prop where
 len : L.length = n
 cells : 0 < n → ∃ b off, A = some ⟨b, off, none⟩ ∧ b < w.heap.size ∧ ∀ j, j < n → w.cell? ⟨b, off + j, none⟩ = some (.string (bytesOf (L.getD j [])))
theorem StrsR.below {w w' : World} {A : Option Addr} {n : Nat} {L : List (List UInt8)} (h : StrsR w A n L) (hb : Below w.heap.size w w') : StrsR w' A n L :=
 ⟨h.len, fun hn => by
  obtain ⟨b, off, e, hl, hc⟩ := h.cells hn
  exact ⟨b, off, e, Nat.lt_of_lt_of_le hl hb.size, fun j hj => (hb.cell (p := ⟨b, off + j, none⟩) hl).trans (hc j hj)⟩⟩
theorem StrsR.cut {w : World} {A : Option Addr} {n : Nat} {L : List (List UInt8)} (h : StrsR w A n L) {i m : Nat} (hi : i + m ≤ n) {A' : Option Addr} (hA : 0 < m → ∀ b off, A = some ⟨b, off, none⟩ → A' = some ⟨b, off + i, none⟩) : StrsR w A' m ((L.drop i).take m) := by
 refine ⟨by rw [List.length_take, List.length_drop, h.len]; omega, fun hm => ?_⟩
 obtain ⟨b, off, e, hb, hc⟩ := h.cells (by omega)
 refine ⟨b, off + i, hA hm b off e, hb, fun j hj => ?_⟩
 rw [Nat.add_assoc, hc (i + j) (by omega)]
 congr 3
 simp only [List.getD_eq_getElem?_getD]
 rw [List.getElem?_take, if_pos hj, List.getElem?_drop]
theorem StrsR.of_own {w : World} {base : Nat} {e : TypeId} {A : Option Addr} {n c : Nat} {L : List (List UInt8)} (h : w.ownsRow base e 1 (.slice A n c) n ((L.map bytesOf).map Value.string)) : StrsR w A n L := by
 have hl : L.length = n := by have := h.1; simp only [List.length_map, Nat.mul_one] at this; omega
 refine ⟨hl, fun hn => ?_⟩
 obtain ⟨g, cap, hv, _, hlt⟩ := h.form hn
 have hA : A = some ⟨g, 0, none⟩ := by injection hv
 subst hA
 refine ⟨g, 0, rfl, hlt, fun j hj => ?_⟩
 rw [Nat.zero_add, h.cellAt j (by omega)]
 simp [List.getElem?_eq_getElem (show j < L.length by omega)]
def numsL (L : List (List UInt8)) : List Int := (numsW L).getD []
def NumsPost (L : List (List UInt8)) (w : World) (e : Ending) (w' : World) : Prop :=
 ∃ v, e = .returned (.tuple #[v, .bool (numsW L).isSome]) ∧ w'.ownsRow w.heap.size 3 1 v (numsL L).length ((numsL L).map (.int .i64)) ∧ Below w.heap.size w w'
theorem int_infoD : (Tryz.prog.info? 3).map (fun i => (i.zero, i.size, i.bytes)) = some (some (.int .i64 0), 1, 8) := by kernel_rfl
theorem dsk_numbers (A : Option Addr) (n c : Nat) (L : List (List UInt8)) (w : World) (hx : StrsR w A n L) (hn : n ≤ 1000000) :
  Calls Tryz.prog 20 #[.slice A n c] w (NumsPost L w) := by
 obtain ⟨j0, hj0, jz0, jz1, jz2⟩ := info_parts int_infoD
 have HX := Lib.hid (fun W (h : Below w.heap.size w W) => hx.below h)
 have HLE := Lib.hid hx.len
 clear hx
 go_enter Tryz.func20, Tryz.ntmps20
 go_wp2
 go_loopw [4, 6, 7, 8, 11] (fun nv _ _ _ j wr => ∃ (q : Nat) (ns : List Int), q ≤ n ∧ j = .int .i64 q ∧ numsW (L.take q) = some ns ∧ ns.length = q ∧ wr.ownsRow w.heap.size 3 1 nv q (ns.map (.int .i64)) ∧ Below w.heap.size w wr) (fun _ _ _ _ j _ => n - (intOf j).toNat)
 case atStart => exact ⟨0, [], by omega, rfl, rfl, rfl, World.ownsRow_nil _ _ _ _, Below.refl _ _⟩
 case round =>
  obtain ⟨q, ns, hq, rfl, hns, hnl, hown, hb⟩ := hrel
  have hbs := hb.size
  have HNS := Lib.hid hns
  have HNL := Lib.hid hnl
  clear hns hnl
  by_cases hlt : q < n
  ·obtain ⟨b, off, rfl, hbl, hc⟩ := (HX.out wr hb).cells (by omega)
   have c0 := hc q hlt
   have hqw : q < L.length := by rw [HLE.out]; exact hlt
   obtain ⟨x, hx⟩ : ∃ x, x = L.getD q [] := ⟨_, rfl⟩
   have hxw : L[q]? = some x := by rw [hx, List.getD_eq_getElem?_getD, List.getElem?_eq_getElem hqw]; rfl
   have HNO := Lib.hid (fun (h : numW x = none) => numsW_none (List.mem_of_getElem? hxw) h)
   have HSN := Lib.hid (show numsW (L.take (q + 1)) = match numsW (L.take q), numW x with | some ns, some n => some (ns ++ [n]) | _, _ => none from by
    rw [List.take_add_one, hxw]
    exact numsW_snoc _ _)
   have HN := dsk_number (bytesOf x) wr
   rw [bytesOf_data] at HN
   unfold numQ at HN
   rw [← hx] at c0
   obtain ⟨X, hX⟩ : ∃ X, X = bytesOf x := ⟨_, rfl⟩
   rw [← hX] at c0 HN
   have z0 : (0 : Int) ≤ (q : Int) := by omega
   have z1 : (q : Int) < (n : Int) := by omega
   cases hno : numW x with
   | none =>
    rw [hno] at HN
    have HNH := Lib.hid HN
    have F := Lib.hid (HNO.out hno)
    clear hno hX hx hxw hqw HN hc hown
    go_wp2_with fail
    refine HNH.out.mono ?_
    rintro e u ⟨rfl, rfl⟩
    rw [show (none : Option Int).isSome = false from rfl]
    go_wp2
    go_ret2
    unfold NumsPost numsL
    rw [F.out]
    exact ⟨_, rfl, World.ownsRow_nil _ _ _ _, hb⟩
   | some m =>
    rw [hno] at HN
    have HNH := Lib.hid HN
    have G := Lib.hid (show numsW (L.take (q + 1)) = some (ns ++ [m]) from by rw [HSN.out, HNS.out, hno])
    clear hno hX hx hxw hqw HN hc
    go_wp2_with fail
    refine HNH.out.mono ?_
    rintro e u ⟨rfl, rfl⟩
    rw [show (some m : Option Int).isSome = true from rfl, show (some m : Option Int).getD 0 = m from rfl]
    go_wp2_with (at_builtin; refine wpList_append_own _ rfl _ _ 56 rfl w.heap.size 3 j0 (.int .i64 0) 1 8 Tryz.underlying56 hj0 jz0 jz1 jz2 rfl (by decide) _ q _ rfl (hown.alloc _) ⟨u.heap.size, 0, none⟩ 1 1 [.int .i64 m] rfl rfl (cell_one_new _ _ _) (by simp [Value.oneCell']) (by unfold maxLen; omega) (by omega) (by simp; omega) ?_; intro v1 v2 hown1 hgrow _)
    have hb2 : Below w.heap.size w v2 := Below.grown (hb.alloc (by omega) _) hgrow (by simp; omega) (fun x hx => (hown.lt x hx).1)
    rw [show ns.map (Value.int .i64) ++ [.int .i64 m] = (ns ++ [m]).map (Value.int .i64) by simp] at hown1
    clear hgrow
    go_roundw
    case rel => exact ⟨q + 1, ns ++ [m], by omega, by go_num, G.out, by rw [List.length_append, HNL.out]; rfl, hown1, hb2⟩
    case measure => simp [intOf]; omega
  ·obtain rfl : q = n := by omega
   have hal := HNS.out
   rw [← HLE.out, List.take_length] at hal
   have HAL := Lib.hid hal
   have hnl := HNL.out
   rw [← hnl] at hown
   have HOW := Lib.hid hown
   clear hal hnl hown
   go_wp2
   go_ret2
   unfold NumsPost numsL
   rw [HAL.out]
   exact ⟨_, rfl, HOW.out, hb⟩
theorem lib_ItoaL (n : Int) (h0 : -9223372036854775808 ≤ n) (h1 : n ≤ 9223372036854775807) (w : World) (ht : Tabs w) :
  Calls Tryz.prog 38 #[.int .i64 n] w fun e w' => e = .returned (.string (bytesOf (Lib.itoa n))) ∧ Below w.heap.size w w' := lib_Itoa n h0 h1 w ht
theorem bodyW_neg {l : List UInt8} (h : negW l = true) : bodyW l = l.tail := by unfold bodyW; rw [h]; rfl
theorem bodyW_pos {l : List UInt8} (h : negW l = false) : bodyW l = l := by unfold bodyW; rw [h]; rfl
theorem numW_no_dig {l : List UInt8} {q : Nat} {b : UInt8} (h : (bodyW l)[q]? = some b) (hb : isDig b = false) : numW l = none := numD_no_dig h hb
def DigPost (l : List UInt8) (w : World) (e : Ending) (w' : World) : Prop :=
 ∃ x : Int, e = .returned (.tuple #[.int .i64 x, .bool (numW l).isSome]) ∧ ((numW l).isSome = true → x = numQ l) ∧ Below w.heap.size w w'
theorem itoa_isSome {l : List UInt8} {X : Int} (ha : (bodyW l).all isDig = true) (h1 : 1 ≤ (bodyW l).length) (h10 : (bodyW l).length ≤ 10) (hX : X = if negW l = true then -(numV (bodyW l) : Int) else numV (bodyW l)) : (Lib.itoa X == l) = (numW l).isSome ∧ ((numW l).isSome = true → X = numQ l) := by
 have h := numW_itoa l ha h1 h10
 rw [← hX] at h
 cases hn : numW l with
 | none =>
  refine ⟨?_, fun e => by cases e⟩
  rw [hn] at h
  show _ = false
  rw [beq_eq_false_iff_ne]
  intro e
  cases h.1 e
 | some m =>
  have hm : m = X := by
   have h2 : numD (negW l) (bodyW l) = some m := hn
   unfold numD at h2
   by_cases hc : (bodyW l).length < 1 ∨ 10 < (bodyW l).length ∨ ((bodyW l).head? = some 48 ∧ (1 < (bodyW l).length ∨ negW l = true))
   ·rw [if_pos hc] at h2
    cases h2
   ·rw [if_neg hc, if_pos ha] at h2
    injection h2 with h2
    rw [hX, ← h2]
  rw [hn, hm] at h
  refine ⟨?_, fun _ => ?_⟩
  ·rw [h.2 rfl]
   simp
  ·unfold numQ
   rw [hn, hm]
   rfl
theorem wrap_small' {x : Int} (h0 : -9223372036854775808 ≤ x) (h1 : x ≤ 9223372036854775807) : IntKind.i64.wrap x = x := by
 rw [IntKind.wrap_i64]
 omega
theorem ref_digits (s : ByteArray) (w : World) (ht : Tabs w) (hs : s.size ≤ 4294967280) :
  Calls Tryz.prog 56 #[.string s] w (DigPost s.data.toList w) := by
 have hsz : s.data.toList.length = s.size := by rw [Array.length_toList]; rfl
 obtain ⟨l, hl⟩ : ∃ l, l = s.data.toList := ⟨_, rfl⟩
 have HSL := Lib.hid hl
 rw [← hl] at hsz ⊢
 obtain ⟨b, hb⟩ : ∃ b, b = bytesOf (bodyW l) := ⟨_, rfl⟩
 have hbd : b.data.toList = bodyW l := by rw [hb, bytesOf_data]
 have hbz : b.data.toList.length = b.size := by rw [Array.length_toList]; rfl
 have h3 : (s.size < 1 ∧ negW l = false ∧ b = s) ∨ (∃ h : 0 < s.size, (s[0]'h) = 45 ∧ negW l = true ∧ s.extract 1 s.size = b ∧ b.size + 1 = s.size) ∨ (∃ h : 0 < s.size, (s[0]'h) ≠ 45 ∧ negW l = false ∧ b = s) := by
  have hself : negW l = false → b = s := fun h => by rw [hb, bodyW_pos h, hl]; exact bytesOf_mk s
  by_cases h0 : s.size < 1
  ·have : l = [] := List.length_eq_zero_iff.1 (by omega)
   have hn : negW l = false := by rw [this]; rfl
   exact .inl ⟨h0, hn, hself hn⟩
  ·have hp : 0 < s.size := by omega
   have hhd : l.head? = some (s[0]'hp) := by rw [hl, List.head?_eq_getElem?]; exact byte_at s hp
   by_cases h1 : (s[0]'hp) = 45
   ·have hn : negW l = true := by unfold negW; rw [hhd, h1]; rfl
    have he : s.extract 1 s.size = b := by
     rw [hb, bodyW_neg hn]
     apply ByteArray.ext
     apply Array.toList_inj.1
     rw [Lib.extract_data, bytesOf_data, ← hl, List.take_of_length_le (by rw [List.length_drop, hsz]; exact Nat.le_refl _), List.drop_one]
    refine .inr (.inl ⟨hp, h1, hn, he, ?_⟩)
    rw [← hbz, hbd, bodyW_neg hn, List.length_tail]
    omega
   ·have hn : negW l = false := by
     unfold negW
     rw [hhd, beq_eq_false_iff_ne]
     intro e
     injection e with e
     exact h1 e
    exact .inr (.inr ⟨hp, h1, hn, hself hn⟩)
 have HBD := Lib.hid hbd
 have HBZ := Lib.hid hbz
 have hbs : b.size ≤ s.size := by
  rcases h3 with ⟨_, _, h⟩ | ⟨_, _, _, _, h⟩ | ⟨_, _, _, h⟩
  ·rw [h]; exact Nat.le_refl _
  ·omega
  ·rw [h]; exact Nat.le_refl _
 -- what stands behind the loop
 have HFIN := Lib.hid (fun (N : Nat) (X : Int) (ha : b.data.toList.all isDig = true) (h1 : 1 ≤ b.size) (h10 : b.size ≤ 10) (hN : N = numV b.data.toList) (hX : X = if negW l = true then -(N : Int) else N) => show (Lib.itoa X == l) = (numW l).isSome ∧ ((numW l).isSome = true → X = numQ l) from by
  rw [hbd] at ha hN
  rw [hN] at hX
  exact itoa_isSome ha (by rw [← hbd, hbz]; exact h1) (by rw [← hbd, hbz]; exact h10) hX)
 have HBAD := Lib.hid (fun (h : b.size < 1 ∨ 10 < b.size) => show numW l = none from numW_bad (by
  right
  rw [← hbd, hbz]
  exact h))
 have HNOD := Lib.hid (fun (q : Nat) (x : UInt8) (h : b.data.toList[q]? = some x) (hx : isDig x = false) => show numW l = none from numW_no_dig (by rw [← hbd]; exact h) hx)
 clear hb hbd hbz hl
 rcases h3 with ⟨h0, hng, hbe⟩ | ⟨h0, hc0, hng, hex, hbs1⟩ | ⟨h0, hc0, hng, hbe⟩
 ·have HNG := Lib.hid hng
  have HBE := Lib.hid hbe
  have F := Lib.hid (HBAD.out (by rw [hbe]; exact .inl h0))
  have hin : inB (s.size : Int) 1 10 = false := inB_no (by omega)
  have HI := Lib.hid (fun W => show Calls Tryz.prog 58 #[.int .i64 (s.size : Int), .int .i64 1, .int .i64 10] W fun e w' => e = .returned (.bool false) ∧ W = w' from by rw [← hin]; exact ref_In _ _ _ W)
  clear hng hbe HFIN HNOD HBAD HBD HBZ hbs hin hsz
  go_enter Tryz.func56, Tryz.ntmps56
  go_wp2
  go_loop [5, 6] (fun nn j => j = .int .i64 0 ∧ nn = .int .i64 0) (fun _ _ => 0)
  case atStart => exact ⟨rfl, rfl⟩
  case round =>
   obtain ⟨rfl, rfl⟩ := hrel
   go_wp2_with fail
   refine (HI.out _).mono ?_
   rintro e w' ⟨rfl, rfl⟩
   go_wp2
   go_ret2
   exact ⟨0, by rw [F.out]; rfl, (fun h => by rw [F.out] at h; cases h), Below.refl _ _⟩
 ·have HNG := Lib.hid hng
  have k0 : (0 : Int) < (s.size : Int) := by omega
  have hv0 : (s[0]'h0).toNat = 45 := by rw [hc0]; rfl
  obtain ⟨v, hv⟩ : ∃ v, (s[0]'h0).toNat = v := ⟨_, rfl⟩
  have hv256 : v < 256 := by rw [← hv]; exact UInt8.toNat_lt _
  rw [hv] at hv0
  subst hv0
  have HEX := Lib.hid hex
  clear hex
  clear hc0 hng
  go_enter Tryz.func56, Tryz.ntmps56
  go_upto_region 4 with fail
  rw [HEX.out]
  clear hv hv256 h0 k0
  go_wp2
  go_loopw [5, 6] (fun nn j wr => ∃ q : Nat, q ≤ b.size ∧ q ≤ 11 ∧ j = .int .i64 q ∧ nn = .int .i64 (numV (b.data.toList.take q) : Nat) ∧ (b.data.toList.take q).all isDig = true ∧ wr = w) (fun _ j _ => b.size - (intOf j).toNat)
  case atStart => exact ⟨0, by omega, by omega, rfl, rfl, rfl, rfl⟩
  case round =>
   obtain ⟨q, hq, hq11, rfl, rfl, hall, hwr⟩ := hrel
   subst hwr
   have HA := Lib.hid hall
   clear hall
   have hN := numV_lt _ HA.out
   have hbl : b.data.toList.length = b.size := HBZ.out
   rw [List.length_take, Nat.min_eq_left (by omega)] at hN
   have hN11 : numV (b.data.toList.take q) < 100000000000 := Nat.lt_of_lt_of_le hN (Nat.pow_le_pow_right (n := 10) (j := 11) (by omega) (by omega))
   clear hN hbl
   by_cases hlt : q < b.size
   ·by_cases hlt2 : q < 11
    ·have HBY := Lib.hid (byte_at b hlt)
     have HT := Lib.hid (show numV (b.data.toList.take (q + 1)) = 10 * numV (b.data.toList.take q) + ((b[q]'hlt).toNat - 48) from by rw [take_byte b hlt, numV_snoc])
     have HAL := Lib.hid (fun (h : isDig (b[q]'hlt) = true) => show (b.data.toList.take (q + 1)).all isDig = true from by
      rw [take_byte b hlt, List.all_append, HA.out]
      simp [h])
     have HIS := Lib.hid (show isDig (b[q]'hlt) = (decide (48 ≤ (b[q]'hlt).toNat) && decide ((b[q]'hlt).toNat ≤ 57)) from rfl)
     have HNO := Lib.hid (fun (h : isDig (b[q]'hlt) = false) => HNOD.out q _ HBY.out h)
     obtain ⟨u, hu⟩ : ∃ u, (b[q]'hlt).toNat = u := ⟨_, rfl⟩
     have hu256 : u < 256 := by rw [← hu]; exact UInt8.toNat_lt _
     rw [hu] at HT HIS
     obtain ⟨N, hNN⟩ : ∃ N, N = numV (b.data.toList.take q) := ⟨_, rfl⟩
     rw [← hNN] at HT hN11 ⊢
     clear hNN HA
     by_cases h48 : u < 48
     ·have F := Lib.hid (HNO.out (by rw [HIS.out, decide_eq_false (by omega)]; rfl))
      clear hN11 hsz
      go_wp2
      go_ret2
      exact ⟨0, by rw [F.out]; rfl, (fun h => by rw [F.out] at h; cases h), Below.refl _ _⟩
     ·by_cases h57 : 57 < u
      ·have F := Lib.hid (HNO.out (by rw [HIS.out, decide_eq_false (p := u ≤ 57) (by omega), Bool.and_false]))
       clear hN11 hsz
       go_wp2
       go_ret2
       exact ⟨0, by rw [F.out]; rfl, (fun h => by rw [F.out] at h; cases h), Below.refl _ _⟩
      ·have D := Lib.hid (HAL.out (by rw [HIS.out, decide_eq_true (by omega), decide_eq_true (by omega)]; rfl))
       obtain ⟨Y, hY⟩ : ∃ Y : Int, Y = (N : Int) * 10 + u - 48 := ⟨_, rfl⟩
       have w1 : IntKind.i64.wrap ((N : Int) * 10) = (N : Int) * 10 := wrap_small _ (by omega) (by omega)
       have w2 : IntKind.i64.wrap (u : Int) = (u : Int) := wrap_small _ (by omega) (by omega)
       have w3 : IntKind.i64.wrap ((N : Int) * 10 + (u : Int)) = (N : Int) * 10 + (u : Int) := wrap_small _ (by omega) (by omega)
       have w4 : IntKind.i64.wrap ((N : Int) * 10 + (u : Int) - 48) = Y := by rw [wrap_small _ (by omega) (by omega)]; exact hY.symm
       have HY := Lib.hid (show Y = ((10 * N + (u - 48) : Nat) : Int) from by omega)
       clear hY hN11 hsz
       go_wp2
       go_roundw
       case rel => exact ⟨q + 1, by omega, by omega, by go_num, by rw [HT.out, HY.out], D.out, by simp⟩
       case measure => simp [intOf]; omega
    ·have F := Lib.hid (HBAD.out (.inr (by omega)))
     have hin : inB (b.size : Int) 1 10 = false := inB_no (by omega)
     have HI := Lib.hid (fun W => show Calls Tryz.prog 58 #[.int .i64 (b.size : Int), .int .i64 1, .int .i64 10] W fun e w' => e = .returned (.bool false) ∧ W = w' from by rw [← hin]; exact ref_In _ _ _ W)
     obtain ⟨N, hNN⟩ : ∃ N, N = numV (b.data.toList.take q) := ⟨_, rfl⟩
     rw [← hNN] at hN11 ⊢
     have hneq : ¬ (b.size : Int) = (s.size : Int) := by omega
     have wn : IntKind.i64.wrap (-(N : Int)) = -(N : Int) := wrap_small' (by omega) (by omega)
     clear hNN HA hin HFIN HNOD HBAD
     go_wp2_with fail
     refine (HI.out _).mono ?_
     rintro e w' ⟨rfl, rfl⟩
     go_wp2
     go_ret2
     exact ⟨_, by rw [F.out]; rfl, (fun h => by rw [F.out] at h; cases h), Below.refl _ _⟩
   ·obtain rfl : q = b.size := by omega
    have hall := HA.out
    have hln : b.data.toList.length = b.size := HBZ.out
    rw [List.take_of_length_le (by omega)] at hall hN11 ⊢
    clear hln
    obtain ⟨N, hNN⟩ : ∃ N, N = numV b.data.toList := ⟨_, rfl⟩
    have HNN := Lib.hid hNN
    rw [← hNN] at hN11 ⊢
    have hneq : ¬ (b.size : Int) = (s.size : Int) := by omega
    have wn : IntKind.i64.wrap (-(N : Int)) = -(N : Int) := wrap_small' (by omega) (by omega)
    clear hNN
    by_cases h1 : 1 ≤ b.size ∧ b.size ≤ 10
    ·obtain ⟨h1, h10⟩ := h1
     have hin : inB (b.size : Int) 1 10 = true := inB_yes (by omega)
     have HI := Lib.hid (fun W => show Calls Tryz.prog 58 #[.int .i64 (b.size : Int), .int .i64 1, .int .i64 10] W fun e w' => e = .returned (.bool true) ∧ W = w' from by rw [← hin]; exact ref_In _ _ _ W)
     have HF := Lib.hid (HFIN.out N (-(N : Int)) hall h1 h10 HNN.out (by rw [HNG.out]; rfl))
     have HIT := lib_ItoaL (-(N : Int)) (by omega) (by omega) wr ht
     obtain ⟨dX, hdX⟩ : ∃ d, d = bytesOf (Lib.itoa (-(N : Int))) := ⟨_, rfl⟩
     rw [← hdX] at HIT
     have HDX := Lib.hid hdX
     have HIT := Lib.hid HIT
     clear hdX hall HA HFIN HNOD HBAD hin
     go_wp2_with fail
     refine (HI.out _).mono ?_
     rintro e w' ⟨rfl, rfl⟩
     go_wp2_with fail
     refine HIT.out.mono ?_
     rintro e w1 ⟨rfl, hb1⟩
     go_wp2
     go_ret2
     refine ⟨_, ?_, HF.out.2, hb1⟩
     rw [← HF.out.1, HDX.out, Lib.toList_data, Lib.toList_data, bytesOf_data, ← HSL.out]
     rfl
    ·have F := Lib.hid (HBAD.out (by omega))
     have hin : inB (b.size : Int) 1 10 = false := inB_no (by omega)
     have HI := Lib.hid (fun W => show Calls Tryz.prog 58 #[.int .i64 (b.size : Int), .int .i64 1, .int .i64 10] W fun e w' => e = .returned (.bool false) ∧ W = w' from by rw [← hin]; exact ref_In _ _ _ W)
     clear h1 hall HA hin HFIN HNOD HBAD
     go_wp2_with fail
     refine (HI.out _).mono ?_
     rintro e w' ⟨rfl, rfl⟩
     go_wp2
     go_ret2
     exact ⟨_, by rw [F.out]; rfl, (fun h => by rw [F.out] at h; cases h), Below.refl _ _⟩
 ·have HNG := Lib.hid hng
  have k0 : (0 : Int) < (s.size : Int) := by omega
  have hv0 : (s[0]'h0).toNat ≠ 45 := by exact fun e => hc0 (UInt8.toNat_inj.1 e)
  obtain ⟨v, hv⟩ : ∃ v, (s[0]'h0).toNat = v := ⟨_, rfl⟩
  have hv256 : v < 256 := by rw [← hv]; exact UInt8.toNat_lt _
  rw [hv] at hv0
  have hv1 : ¬ (v : Int) = 45 := by omega
  have HBE := Lib.hid hbe
  clear hbe
  clear hc0 hng
  go_enter Tryz.func56, Tryz.ntmps56
  go_upto_region 4 with fail
  obtain rfl : s = b := HBE.out.symm
  clear hv hv256 h0 k0 hv0 hv1
  go_wp2
  go_loopw [5, 6] (fun nn j wr => ∃ q : Nat, q ≤ s.size ∧ q ≤ 11 ∧ j = .int .i64 q ∧ nn = .int .i64 (numV (s.data.toList.take q) : Nat) ∧ (s.data.toList.take q).all isDig = true ∧ wr = w) (fun _ j _ => s.size - (intOf j).toNat)
  case atStart => exact ⟨0, by omega, by omega, rfl, rfl, rfl, rfl⟩
  case round =>
   obtain ⟨q, hq, hq11, rfl, rfl, hall, hwr⟩ := hrel
   subst hwr
   have HA := Lib.hid hall
   clear hall
   have hN := numV_lt _ HA.out
   have hbl : s.data.toList.length = s.size := HBZ.out
   rw [List.length_take, Nat.min_eq_left (by omega)] at hN
   have hN11 : numV (s.data.toList.take q) < 100000000000 := Nat.lt_of_lt_of_le hN (Nat.pow_le_pow_right (n := 10) (j := 11) (by omega) (by omega))
   clear hN hbl
   by_cases hlt : q < s.size
   ·by_cases hlt2 : q < 11
    ·have HBY := Lib.hid (byte_at s hlt)
     have HT := Lib.hid (show numV (s.data.toList.take (q + 1)) = 10 * numV (s.data.toList.take q) + ((s[q]'hlt).toNat - 48) from by rw [take_byte s hlt, numV_snoc])
     have HAL := Lib.hid (fun (h : isDig (s[q]'hlt) = true) => show (s.data.toList.take (q + 1)).all isDig = true from by
      rw [take_byte s hlt, List.all_append, HA.out]
      simp [h])
     have HIS := Lib.hid (show isDig (s[q]'hlt) = (decide (48 ≤ (s[q]'hlt).toNat) && decide ((s[q]'hlt).toNat ≤ 57)) from rfl)
     have HNO := Lib.hid (fun (h : isDig (s[q]'hlt) = false) => HNOD.out q _ HBY.out h)
     obtain ⟨u, hu⟩ : ∃ u, (s[q]'hlt).toNat = u := ⟨_, rfl⟩
     have hu256 : u < 256 := by rw [← hu]; exact UInt8.toNat_lt _
     rw [hu] at HT HIS
     obtain ⟨N, hNN⟩ : ∃ N, N = numV (s.data.toList.take q) := ⟨_, rfl⟩
     rw [← hNN] at HT hN11 ⊢
     clear hNN HA
     by_cases h48 : u < 48
     ·have F := Lib.hid (HNO.out (by rw [HIS.out, decide_eq_false (by omega)]; rfl))
      clear hN11 hsz
      go_wp2
      go_ret2
      exact ⟨0, by rw [F.out]; rfl, (fun h => by rw [F.out] at h; cases h), Below.refl _ _⟩
     ·by_cases h57 : 57 < u
      ·have F := Lib.hid (HNO.out (by rw [HIS.out, decide_eq_false (p := u ≤ 57) (by omega), Bool.and_false]))
       clear hN11 hsz
       go_wp2
       go_ret2
       exact ⟨0, by rw [F.out]; rfl, (fun h => by rw [F.out] at h; cases h), Below.refl _ _⟩
      ·have D := Lib.hid (HAL.out (by rw [HIS.out, decide_eq_true (by omega), decide_eq_true (by omega)]; rfl))
       obtain ⟨Y, hY⟩ : ∃ Y : Int, Y = (N : Int) * 10 + u - 48 := ⟨_, rfl⟩
       have w1 : IntKind.i64.wrap ((N : Int) * 10) = (N : Int) * 10 := wrap_small _ (by omega) (by omega)
       have w2 : IntKind.i64.wrap (u : Int) = (u : Int) := wrap_small _ (by omega) (by omega)
       have w3 : IntKind.i64.wrap ((N : Int) * 10 + (u : Int)) = (N : Int) * 10 + (u : Int) := wrap_small _ (by omega) (by omega)
       have w4 : IntKind.i64.wrap ((N : Int) * 10 + (u : Int) - 48) = Y := by rw [wrap_small _ (by omega) (by omega)]; exact hY.symm
       have HY := Lib.hid (show Y = ((10 * N + (u - 48) : Nat) : Int) from by omega)
       clear hY hN11 hsz
       go_wp2
       go_roundw
       case rel => exact ⟨q + 1, by omega, by omega, by go_num, by rw [HT.out, HY.out], D.out, by simp⟩
       case measure => simp [intOf]; omega
    ·have F := Lib.hid (HBAD.out (.inr (by omega)))
     have hin : inB (s.size : Int) 1 10 = false := inB_no (by omega)
     have HI := Lib.hid (fun W => show Calls Tryz.prog 58 #[.int .i64 (s.size : Int), .int .i64 1, .int .i64 10] W fun e w' => e = .returned (.bool false) ∧ W = w' from by rw [← hin]; exact ref_In _ _ _ W)
     obtain ⟨N, hNN⟩ : ∃ N, N = numV (s.data.toList.take q) := ⟨_, rfl⟩
     rw [← hNN] at hN11 ⊢
     clear hNN HA hin HFIN HNOD HBAD
     go_wp2_with fail
     refine (HI.out _).mono ?_
     rintro e w' ⟨rfl, rfl⟩
     go_wp2
     go_ret2
     exact ⟨_, by rw [F.out]; rfl, (fun h => by rw [F.out] at h; cases h), Below.refl _ _⟩
   ·obtain rfl : q = s.size := by omega
    have hall := HA.out
    have hln : s.data.toList.length = s.size := HBZ.out
    rw [List.take_of_length_le (by omega)] at hall hN11 ⊢
    clear hln
    obtain ⟨N, hNN⟩ : ∃ N, N = numV s.data.toList := ⟨_, rfl⟩
    have HNN := Lib.hid hNN
    rw [← hNN] at hN11 ⊢
    clear hNN
    by_cases h1 : 1 ≤ s.size ∧ s.size ≤ 10
    ·obtain ⟨h1, h10⟩ := h1
     have hin : inB (s.size : Int) 1 10 = true := inB_yes (by omega)
     have HI := Lib.hid (fun W => show Calls Tryz.prog 58 #[.int .i64 (s.size : Int), .int .i64 1, .int .i64 10] W fun e w' => e = .returned (.bool true) ∧ W = w' from by rw [← hin]; exact ref_In _ _ _ W)
     have HF := Lib.hid (HFIN.out N (N : Int) hall h1 h10 HNN.out (by rw [HNG.out]; rfl))
     have HIT := lib_ItoaL (N : Int) (by omega) (by omega) wr ht
     obtain ⟨dX, hdX⟩ : ∃ d, d = bytesOf (Lib.itoa (N : Int)) := ⟨_, rfl⟩
     rw [← hdX] at HIT
     have HDX := Lib.hid hdX
     have HIT := Lib.hid HIT
     clear hdX hall HA HFIN HNOD HBAD hin
     go_wp2_with fail
     refine (HI.out _).mono ?_
     rintro e w' ⟨rfl, rfl⟩
     go_wp2_with fail
     refine HIT.out.mono ?_
     rintro e w1 ⟨rfl, hb1⟩
     go_wp2
     go_ret2
     refine ⟨_, ?_, HF.out.2, hb1⟩
     rw [← HF.out.1, HDX.out, Lib.toList_data, Lib.toList_data, bytesOf_data, ← HSL.out]
     rfl
    ·have F := Lib.hid (HBAD.out (by omega))
     have hin : inB (s.size : Int) 1 10 = false := inB_no (by omega)
     have HI := Lib.hid (fun W => show Calls Tryz.prog 58 #[.int .i64 (s.size : Int), .int .i64 1, .int .i64 10] W fun e w' => e = .returned (.bool false) ∧ W = w' from by rw [← hin]; exact ref_In _ _ _ W)
     clear h1 hall HA hin HFIN HNOD HBAD
     go_wp2_with fail
     refine (HI.out _).mono ?_
     rintro e w' ⟨rfl, rfl⟩
     go_wp2
     go_ret2
     exact ⟨_, by rw [F.out]; rfl, (fun h => by rw [F.out] at h; cases h), Below.refl _ _⟩
theorem ref_wholes (A : Option Addr) (n c : Nat) (L : List (List UInt8)) (w : World) (hx : StrsR w A n L) (hn : n ≤ 1000000) (hz : ∀ x ∈ L, x.length ≤ 4294967280) (ht : Tabs w) :
  Calls Tryz.prog 35 #[.slice A n c] w (NumsPost L w) := by
 obtain ⟨j0, hj0, jz0, jz1, jz2⟩ := info_parts int_infoD
 have HX := Lib.hid (fun W (h : Below w.heap.size w W) => hx.below h)
 have HT := Lib.hid (fun W (h : Below w.heap.size w W) => ht.below h)
 have HLE := Lib.hid hx.len
 have HZ := Lib.hid hz
 clear hx hz ht
 go_enter Tryz.func35, Tryz.ntmps35
 go_wp2
 go_loopw [4, 5, 6, 7] (fun nv j _ _ wr => ∃ (q : Nat) (ns : List Int), q ≤ n ∧ j = .int .i64 q ∧ numsW (L.take q) = some ns ∧ ns.length = q ∧ wr.ownsRow w.heap.size 3 1 nv q (ns.map (.int .i64)) ∧ Below w.heap.size w wr) (fun _ j _ _ _ => n - (intOf j).toNat)
 case atStart => exact ⟨0, [], by omega, rfl, rfl, rfl, World.ownsRow_nil _ _ _ _, Below.refl _ _⟩
 case round =>
  obtain ⟨q, ns, hq, rfl, hns, hnl, hown, hb⟩ := hrel
  have hbs := hb.size
  have HNS := Lib.hid hns
  have HNL := Lib.hid hnl
  clear hns hnl
  by_cases hlt : q < n
  ·obtain ⟨b, off, rfl, hbl, hc⟩ := (HX.out wr hb).cells (by omega)
   have c0 := hc q hlt
   have hqw : q < L.length := by rw [HLE.out]; exact hlt
   obtain ⟨x, hx⟩ : ∃ x, x = L.getD q [] := ⟨_, rfl⟩
   have hxw : L[q]? = some x := by rw [hx, List.getD_eq_getElem?_getD, List.getElem?_eq_getElem hqw]; rfl
   have HNO := Lib.hid (fun (h : numW x = none) => numsW_none (List.mem_of_getElem? hxw) h)
   have HSN := Lib.hid (show numsW (L.take (q + 1)) = match numsW (L.take q), numW x with | some ns, some n => some (ns ++ [n]) | _, _ => none from by
    rw [List.take_add_one, hxw]
    exact numsW_snoc _ _)
   have HN := ref_digits (bytesOf x) wr (HT.out wr hb) (HZ.out x (List.mem_of_getElem? hxw))
   rw [bytesOf_data] at HN
   unfold DigPost numQ at HN
   rw [← hx] at c0
   obtain ⟨X, hX⟩ : ∃ X, X = bytesOf x := ⟨_, rfl⟩
   rw [← hX] at c0 HN
   have z0 : (0 : Int) ≤ (q : Int) := by omega
   have z1 : (q : Int) < (n : Int) := by omega
   cases hno : numW x with
   | none =>
    rw [hno] at HN
    have HNH := Lib.hid HN
    have F := Lib.hid (HNO.out hno)
    clear hno hX hx hxw hqw HN hc hown
    go_wp2_with fail
    refine HNH.out.mono ?_
    rintro e u ⟨y, rfl, _, hbu⟩
    rw [show (none : Option Int).isSome = false from rfl]
    go_wp2
    go_ret2
    unfold NumsPost numsL
    rw [F.out]
    exact ⟨_, rfl, World.ownsRow_nil _ _ _ _, hb.trans (hbu.mono hbs)⟩
   | some m =>
    rw [hno] at HN
    have HNH := Lib.hid HN
    have G := Lib.hid (show numsW (L.take (q + 1)) = some (ns ++ [m]) from by rw [HSN.out, HNS.out, hno])
    clear hno hX hx hxw hqw HN hc
    go_wp2_with fail
    refine HNH.out.mono ?_
    rintro e u ⟨y, rfl, hy, hbu⟩
    obtain rfl : y = m := hy rfl
    rw [show (some y : Option Int).isSome = true from rfl]
    have hownu := own_below hown hbu
    have hbw := hb.trans (hbu.mono hbs)
    have hbws := hbw.size
    clear hy hown
    go_wp2_with (at_builtin; refine wpList_append_own _ rfl _ _ 56 rfl w.heap.size 3 j0 (.int .i64 0) 1 8 Tryz.underlying56 hj0 jz0 jz1 jz2 rfl (by decide) _ q _ rfl (hownu.alloc _) ⟨u.heap.size, 0, none⟩ 1 1 [.int .i64 y] rfl rfl (cell_one_new _ _ _) (by simp [Value.oneCell']) (by unfold maxLen; omega) (by omega) (by simp; omega) ?_; intro v1 v2 hown1 hgrow _)
    have hb2 : Below w.heap.size w v2 := Below.grown (hbw.alloc (by omega) _) hgrow (by simp; omega) (fun x hx => (hownu.lt x hx).1)
    rw [show ns.map (Value.int .i64) ++ [.int .i64 y] = (ns ++ [y]).map (Value.int .i64) by simp] at hown1
    clear hgrow
    go_roundw
    case rel => exact ⟨q + 1, ns ++ [y], by omega, by go_num, G.out, by rw [List.length_append, HNL.out]; rfl, hown1, hb2⟩
    case measure => simp [intOf]; omega
  ·obtain rfl : q = n := by omega
   have hal := HNS.out
   rw [← HLE.out, List.take_length] at hal
   have HAL := Lib.hid hal
   have hnl := HNL.out
   rw [← hnl] at hown
   have HOW := Lib.hid hown
   clear hal hnl hown
   go_wp2
   go_ret2
   unfold NumsPost numsL
   rw [HAL.out]
   exact ⟨_, rfl, HOW.out, hb⟩
theorem dsk_failed (e : Int) (w : World) (h0 : -9223372036854775808 ≤ e) (h1 : e ≤ 9223372036854775807) (ht : Tabs w) :
  Calls Tryz.prog 21 #[.int .i64 e] w fun r w' => r = .returned (.string (bytesOf (errT e))) ∧ Below w.heap.size w w' := by
 have HI := lib_ItoaL e h0 h1 w ht
 obtain ⟨d, hd⟩ : ∃ d, d = bytesOf (Lib.itoa e) := ⟨_, rfl⟩
 rw [← hd] at HI
 have HE := Lib.hid (show bytesOf [101, 114, 114, 111, 114, 32] ++ d = bytesOf (errT e) from by rw [hd, bytesOf_app]; rfl)
 have hz : d.size ≤ 21 := by rw [hd]; exact Lib.itoa_length_le e h0 h1
 have HI := Lib.hid HI
 clear hd
 go_enter Tryz.func21, Tryz.ntmps21
 go_wp2_with fail
 refine HI.out.mono ?_
 rintro x w1 ⟨rfl, hb⟩
 go_wp2
 go_ret
 rw [← HE.out]
 exact ⟨rfl, hb⟩
theorem ref_wrong (e : Int) (w : World) (h0 : -9223372036854775808 ≤ e) (h1 : e ≤ 9223372036854775807) (ht : Tabs w) :
  Calls Tryz.prog 34 #[.int .i64 e] w fun r w' => r = .returned (.string (bytesOf (errT e))) ∧ Below w.heap.size w w' := by
 have HI := lib_ItoaL e h0 h1 w ht
 obtain ⟨d, hd⟩ : ∃ d, d = bytesOf (Lib.itoa e) := ⟨_, rfl⟩
 rw [← hd] at HI
 have HE := Lib.hid (show bytesOf [101, 114, 114, 111, 114, 32] ++ d = bytesOf (errT e) from by rw [hd, bytesOf_app]; rfl)
 have hz : d.size ≤ 21 := by rw [hd]; exact Lib.itoa_length_le e h0 h1
 have HI := Lib.hid HI
 clear hd
 go_enter Tryz.func34, Tryz.ntmps34
 go_wp2_with fail
 refine HI.out.mono ?_
 rintro x w1 ⟨rfl, hb⟩
 go_wp2
 go_ret
 rw [← HE.out]
 exact ⟨rfl, hb⟩
def toldT (n e : Int) : List UInt8 := if e = 0 then Lib.itoa n else errT e
theorem dsk_told (n e : Int) (w : World) (n0 : -9223372036854775808 ≤ n) (n1 : n ≤ 9223372036854775807) (h0 : -9223372036854775808 ≤ e) (h1 : e ≤ 9223372036854775807) (ht : Tabs w) :
  Calls Tryz.prog 26 #[.int .i64 n, .int .i64 e] w fun r w' => r = .returned (.string (bytesOf (toldT n e))) ∧ Below w.heap.size w w' := by
 unfold toldT
 by_cases he : e = 0
 ·have HI := Lib.hid (lib_ItoaL n n0 n1 w ht)
  rw [if_pos he]
  subst he
  go_enter Tryz.func26, Tryz.ntmps26
  go_wp2_with fail
  refine HI.out.mono ?_
  rintro x w1 ⟨rfl, hb⟩
  go_wp2
  go_ret
  exact ⟨rfl, hb⟩
 ·have HI := Lib.hid (dsk_failed e w h0 h1 ht)
  rw [if_neg he]
  have t0 : (e != 0) = true := by rw [bne_iff_ne]; exact he
  clear he
  go_enter Tryz.func26, Tryz.ntmps26
  go_wp2_with fail
  refine HI.out.mono ?_
  rintro x w1 ⟨rfl, hb⟩
  go_wp2
  go_ret
  exact ⟨rfl, hb⟩
end Go.Proofs.YtgodgedhddngeaaGreatDoor
