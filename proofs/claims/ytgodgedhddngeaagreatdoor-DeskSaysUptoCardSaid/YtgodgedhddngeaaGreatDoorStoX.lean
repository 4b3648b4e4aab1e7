/- The document's Pieces of a text: a walk. -/
import Derived.Test.YtgodgedhddngeaaGreatDoorStoW
import Derived.ChangeAlike
set_option maxRecDepth 100000
set_option maxHeartbeats 16000000
namespace Go.Proofs.YtgodgedhddngeaaGreatDoor
open Go.RowKit Go.Sort Pl
def StrsOwn (B : Nat) (L : List (List UInt8)) (v : Value) (w : World) : Prop := ∃ g c, v = .slice (some ⟨g, 0, none⟩) L.length c ∧ w.ownsRow B 9 1 (.slice (some ⟨g, 0, none⟩) L.length c) L.length ((L.map bytesOf).map Value.string)
theorem pieces_take (s : ByteArray) (c : UInt8) {q : Nat} (h : q < s.size) : pieces c (s.data.toList.take (q + 1)) = if (s[q]'h) = c then pieces c (s.data.toList.take q) ++ [[]] else (pieces c (s.data.toList.take q)).dropLast ++ [(pieces c (s.data.toList.take q)).getLast (pieces_ne c _) ++ [s[q]'h]] := by
 rw [take_byte s h, pieces_snoc]
theorem pieces_count (c : UInt8) : ∀ l : List UInt8, (pieces c l).length ≤ l.length + 1
 | [] => by simp [pieces]
 | b :: l => by
  have ih := pieces_count c l
  obtain ⟨p, ps, hp⟩ := pieces_cons c l
  rw [hp] at ih
  by_cases h : b = c
  ·have e : pieces c (b :: l) = [] :: p :: ps := by simp [pieces, h, hp]
   rw [e]
   simp at ih ⊢
   omega
  ·have e : pieces c (b :: l) = (b :: p) :: ps := by simp [pieces, h, hp]
   rw [e]
   simp at ih ⊢
   omega
theorem pieces_size (c : UInt8) : ∀ l : List UInt8, ∀ p ∈ pieces c l, p.length ≤ l.length
 | [] => by simp [pieces]
 | b :: l => by
  have ih := pieces_size c l
  obtain ⟨p, ps, hp⟩ := pieces_cons c l
  rw [hp] at ih
  intro x hx
  by_cases h : b = c
  ·have e : pieces c (b :: l) = [] :: p :: ps := by simp [pieces, h, hp]
   rw [e] at hx
   rcases List.mem_cons.1 hx with rfl | hx
   ·simp
   ·have := ih x hx
    simp
    omega
  ·have e : pieces c (b :: l) = (b :: p) :: ps := by simp [pieces, h, hp]
   rw [e] at hx
   rcases List.mem_cons.1 hx with rfl | hx
   ·have := ih p (by simp)
    simp
    omega
   ·have := ih x (by simp [hx])
    simp
    omega
theorem last_of {α : Type} {l : List α} (h : l ≠ []) : ∃ p x, l = p ++ [x] ∧ l.dropLast = p ∧ l.getLast h = x := ⟨l.dropLast, l.getLast h, (List.dropLast_concat_getLast h).symm, rfl, rfl⟩
theorem set_last (p : List (List UInt8)) (x y : List UInt8) {N : Nat} (h : p.length = N) : (((p ++ [x]).map bytesOf).map Value.string).set N (.string (bytesOf y)) = ((p ++ [y]).map bytesOf).map Value.string := by
 subst h
 simp
theorem extract_one (s : ByteArray) {q : Nat} (h : q < s.size) : s.extract q (q + 1) = bytesOf [s[q]'h] := by
 apply ByteArray.ext
 apply Array.toList_inj.1
 rw [Lib.extract_data, bytesOf_data, show q + 1 - q = 1 by omega]
 rw [List.drop_eq_getElem_cons (by rw [Array.length_toList]; exact h)]
 rfl
theorem ref_Pieces (s : ByteArray) (c : UInt8) (w : World) (hs : s.size ≤ 4294967280) :
  Calls Tryz.prog 32 #[.string s, .int .u8 (c.toNat : Int)] w fun e w' => ∃ v, e = .returned v ∧ StrsOwn w.heap.size (pieces c s.data.toList) v w' ∧ Below w.heap.size w w' := by
 have hsz : s.data.toList.length = s.size := by rw [Array.length_toList]; rfl
 obtain ⟨i0, hi0, hz0, hz1, hz2⟩ := info_parts str_info
 have O0 : (w.alloc (.cells #[.string (bytesOf [])] 9)).ownsRow w.heap.size 9 1 (.slice (some ⟨w.heap.size, 0, none⟩) 1 1) 1 (((pieces c (s.data.toList.take 0)).map bytesOf).map Value.string) :=
  World.ownsRow_lit w #[.string (bytesOf [])] 1 (Nat.le_refl _) (by unfold maxLen; omega) rfl
 have b0 : Below w.heap.size w (w.alloc (.cells #[.string (bytesOf [])] 9)) := (by repeat (first | exact Below.refl _ _ | assumption | refine bel_drewN ?_ _ | refine Below.drew ?_ | (refine Below.alloc ?_ (by simp <;> omega) _) | (refine Below.setCell ?_ (by simp <;> omega) _)))
 have HPC := Lib.hid (fun q => Nat.le_trans (pieces_count c (s.data.toList.take q)) (show _ ≤ s.size + 1 by rw [List.length_take]; omega))
 obtain ⟨w1, hw1⟩ : ∃ w1, w1 = w.alloc (.cells #[.string (bytesOf [])] 9) := ⟨_, rfl⟩
 rw [← hw1] at O0 b0
 have HW := Lib.hid hw1
 clear hw1
 go_enter Tryz.func32, Tryz.ntmps32
 go_upto_region 2 with fail
 rw [show w.alloc (.cells #[.string ⟨#[]⟩] 9) = w1 from HW.out.symm]
 go_wp2
 go_loopw [5, 6] (fun l j wr => ∃ (q g cp N : Nat), q ≤ s.size ∧ j = .int .i64 q ∧ l = .slice (some ⟨g, 0, none⟩) (N + 1) cp ∧ N + 1 = (pieces c (s.data.toList.take q)).length ∧ wr.ownsRow w.heap.size 9 1 (.slice (some ⟨g, 0, none⟩) (N + 1) cp) (N + 1) (((pieces c (s.data.toList.take q)).map bytesOf).map Value.string) ∧ Below w.heap.size w wr) (fun _ j _ => s.size - (intOf j).toNat)
 case atStart => exact ⟨0, w.heap.size, 1, 0, by omega, rfl, rfl, rfl, O0, b0⟩
 case round =>
  clear O0 b0
  obtain ⟨q, g, cp, N, hq, rfl, rfl, hN, hown, hb⟩ := hrel
  have hbs := hb.size
  by_cases hlt : q < s.size
  ·have HT := Lib.hid (pieces_take s c hlt)
   have hNC := HPC.out q
   rw [← hN] at hNC
   have HNE := Lib.hid hN
   by_cases hc : (s[q]'hlt) = c
   ·have G := Lib.hid (show pieces c (s.data.toList.take (q + 1)) = pieces c (s.data.toList.take q) ++ [[]] from by rw [HT.out, if_pos hc])
    have hv : (s[q]'hlt).toNat = c.toNat := by rw [hc]
    clear hc hN
    go_wp2_with (at_builtin; refine wpList_append_own _ rfl _ _ 24 rfl w.heap.size 9 i0 (.string ByteArray.empty) 1 16 Tryz.underlying24 hi0 hz0 hz1 hz2 rfl (by decide) (.slice (some ⟨g, 0, none⟩) (N + 1) cp) (N + 1) _ rfl (hown.alloc _) ⟨wr.heap.size, 0, none⟩ 1 1 [.string ⟨#[]⟩] rfl rfl (cell_one_new _ _ _) (by simp [Value.oneCell']) (by unfold maxLen; omega) (by omega) (by simp; omega) ?_; intro v1 v2 hown1 hgrow _)
    have hb2 : Below w.heap.size w v2 := Below.grown (hb.alloc (by omega) _) hgrow (by simp; omega) (fun x hx => (hown.lt x hx).1)
    rw [show ((pieces c (s.data.toList.take q)).map bytesOf).map Value.string ++ [.string ⟨#[]⟩] = ((pieces c (s.data.toList.take (q + 1))).map bytesOf).map Value.string by rw [G.out]; simp [bytesOf]] at hown1
    obtain ⟨g', cp', rfl, _, _⟩ := hown1.form (by omega)
    clear hgrow
    go_roundw
    case rel => exact ⟨q + 1, g', cp', N + 1, by omega, by go_num, rfl, by rw [G.out, List.length_append, ← HNE.out]; rfl, hown1, hb2⟩
    case measure => simp [intOf]; omega
   ·obtain ⟨p, x, hpx, hp1, hp2⟩ := last_of (pieces_ne c (s.data.toList.take q))
    have G := Lib.hid (show pieces c (s.data.toList.take (q + 1)) = p ++ [x ++ [s[q]'hlt]] from by rw [HT.out, if_neg hc, hp1, hp2])
    have hpl : p.length = N := by rw [hpx, List.length_append] at hN; simp at hN; omega
    have hcl : wr.cell? ⟨g, N, none⟩ = some (.string (bytesOf x)) := by
     rw [hown.cellAt N (by omega), hpx]
     simp [← hpl]
    have hfz := hown.frozenAt N
    have HOS := Lib.hid (hown.stored N (.string (bytesOf (x ++ [s[q]'hlt])))).1
    have hx1 : (bytesOf x).size ≤ s.size := by
     have h := pieces_size c (s.data.toList.take q) x (by rw [hpx]; simp)
     rw [List.length_take] at h
     show x.length ≤ _
     omega
    have hne : ¬ ((s[q]'hlt).toNat = c.toNat) := fun e => hc (UInt8.toNat_inj.1 e)
    have HX := Lib.hid (show bytesOf x ++ s.extract q (q + 1) = bytesOf (x ++ [s[q]'hlt]) from by rw [extract_one s hlt, bytesOf_app])
    have HPX := Lib.hid hpx
    have HPL := Lib.hid hpl
    have hg := (hown.lt g rfl).1
    have HB2 := Lib.hid (hb.setCell (p := ⟨g, N, none⟩) hg (.string (bytesOf (x ++ [s[q]'hlt]))))
    have k1 : IntKind.i64.wrap (((N + 1 : Nat) : Int) - 1) = (N : Int) := by rw [wrap_small _ (by omega) (by omega)]; omega
    have k2 : IntKind.i64.wrap ((q : Int) + 1) = ((q + 1 : Nat) : Int) := by rw [wrap_small _ (by omega) (by omega)]; omega
    have hes : (s.extract q (q + 1)).size = 1 := by rw [extract_one s hlt]; rfl
    obtain ⟨xb, hxb⟩ : ∃ xb, xb = bytesOf x := ⟨_, rfl⟩
    rw [← hxb] at hcl hx1 HX
    clear hc hpx hp1 hp2 hpl hN hown hxb hsz
    go_upto_region 7 with fail
    go_region
    rw [HX.out]
    go_wp2
    go_roundw
    case rel => exact ⟨q + 1, g, cp, N, by omega, by go_num, rfl, by rw [G.out, List.length_append, HPL.out]; rfl, by
     have h := HOS.out.drew
     rw [HPX.out, set_last _ _ _ HPL.out] at h
     rw [G.out]
     exact h, HB2.out.drew⟩
    case measure => simp [intOf]; omega
  ·obtain rfl : q = s.size := by omega
   rw [List.take_of_length_le (by omega)] at hN hown
   go_wp2
   go_ret
   refine ⟨_, rfl, ⟨g, cp, by rw [hN]; rfl, ?_⟩, hb⟩
   rw [← hN]
   exact hown
theorem bytesOf_mk (s : ByteArray) : bytesOf s.data.toList = s := Lib.mk_data s
theorem lib_Cut (c : UInt8) (s : ByteArray) (w : World) (hs : s.size ≤ 4294967280) (ht : Tabs w) :
  Calls Tryz.prog 122 #[.string s, .string (bytesOf [c])] w fun e w' => (∃ l r, e = .returned (.tuple #[.string l, .string r, .bool (s.data.toList.findIdx? (· == c)).isSome]) ∧ ∀ i, s.data.toList.findIdx? (· == c) = some i → l = bytesOf (s.data.toList.take i) ∧ l.size = i ∧ r = bytesOf (s.data.toList.drop (i + 1))) ∧ Below w.heap.size w w' := by
 obtain ⟨m, hm⟩ := ht.most
 refine (Tryz.strings_Cut s (bytesOf [c]) m w (by omega) hm).mono ?_
 rintro e w' ⟨rfl, k, rfl⟩
 refine ⟨⟨⟨(Lib.cut s.data.toList (bytesOf [c]).data.toList).1.toArray⟩, ⟨(Lib.cut s.data.toList (bytesOf [c]).data.toList).2.1.toArray⟩, ?_, ?_⟩, bel_drewN (Below.refl _ _) k⟩
 ·rw [bytesOf_data]
  have hx := Pl_index_one c s.data.toList
  unfold Lib.cut
  cases hf : s.data.toList.findIdx? (· == c) with
  | none =>
   rw [hf] at hx
   simp only at hx
   rw [hx]
   rfl
  | some i =>
   rw [hf] at hx
   simp only at hx
   rw [hx, if_pos (by omega)]
   rfl
 ·intro i hf
  rw [bytesOf_data]
  have hx := Pl_index_one c s.data.toList
  rw [hf] at hx
  simp only at hx
  have hlt := (find_at hf).1
  unfold Lib.cut
  rw [hx, if_pos (by omega)]
  refine ⟨rfl, ?_, ?_⟩
  ·show (s.data.toList.take ((i : Int)).toNat).toArray.size = i
   rw [Int.toNat_natCast, List.size_toArray, List.length_take]
   omega
  ·rw [Int.toNat_natCast]
   rfl
theorem lib_Split (c : UInt8) (s : ByteArray) (w : World) (hs : s.size ≤ 4294967280) (ht : Tabs w) :
  Calls Tryz.prog 8 #[.string s, .string (bytesOf [c])] w fun e w' => e = .returned (.slice (some ⟨w.heap.size, 0, none⟩) (pieces c s.data.toList).length (pieces c s.data.toList).length) ∧ w' = w.alloc (.cells (((pieces c s.data.toList).map bytesOf).map Value.string).toArray 9) := by
 obtain ⟨m, hm⟩ := ht.most
 have h1 : 1 ≤ (bytesOf [c]).size := Nat.le_refl _
 refine (Tryz.strings_Split s (bytesOf [c]) m w (by omega) hm h1).mono ?_
 rintro e w' ⟨rfl, rfl⟩
 have hc : Lib.countB s (bytesOf [c]) = s.data.toList.count c := Lib.count_one c s.data.toList
 have hp : (Lib.splitB (bytesOf [c]) 0 (Lib.countB s (bytesOf [c])) s).map (·.data.toList) = pieces c s.data.toList := by
  rw [Lib.splitB_data, bytesOf_data, hc]
  exact split_pieces c _ _ rfl
 have hp2 : Lib.splitB (bytesOf [c]) 0 (Lib.countB s (bytesOf [c])) s = (pieces c s.data.toList).map bytesOf := by
  rw [← hp, List.map_map]
  conv => lhs; rw [← List.map_id (Lib.splitB (bytesOf [c]) 0 (Lib.countB s (bytesOf [c])) s)]
  exact List.map_congr_left fun x _ => (bytesOf_mk x).symm
 have hl := Lib.splitB_all (bytesOf [c]) h1 0 _ s rfl
 rw [hp2, List.length_map] at hl
 rw [← hl, hp2]
 exact ⟨rfl, rfl⟩
theorem numsO_snoc : ∀ (ws : List (List UInt8)) (x : List UInt8), numsO (ws ++ [x]) = match numsO ws, numO x with | some ns, some n => some (ns ++ [n]) | _, _ => none
 | [], x => by
  show numsO [x] = _
  unfold numsO
  cases numO x <;> rfl
 | w :: ws, x => by
  have ih := numsO_snoc ws x
  rw [List.cons_append]
  unfold numsO
  rw [ih]
  cases numO w <;> cases numsO ws <;> cases numO x <;> rfl
theorem numsO_none : ∀ {ws : List (List UInt8)} {x : List UInt8}, x ∈ ws → numO x = none → numsO ws = none
 | w :: ws, x, h, hx => by
  unfold numsO
  rcases List.mem_cons.1 h with rfl | h
  ·rw [hx]
  ·rw [numsO_none h hx]
   cases numO w <;> rfl
def clampR (ns : List Nat) : Rec := ⟨min (ns[0]?.getD 0 : Nat) 100, (ns.drop 4).map fun (n : Nat) => min (n : Int) 100, min (ns[1]?.getD 0 : Nat) 2147483648, (ns[2]?.getD 0 : Nat), (ns[3]?.getD 0 : Nat)⟩
theorem clamp_good (ns : List Nat) : goodR (clampR ns) = goodR (recOf ns) ∧ (goodR (recOf ns) = true → clampR ns = recOf ns) := by
 have key : goodR (clampR ns) = true ↔ goodR (recOf ns) = true := by
  rw [goodR_iff, goodR_iff]
  unfold clampR recOf
  simp only [List.length_map, List.mem_map]
  constructor
  ·rintro ⟨⟨a1, a2⟩, ⟨a3, a4⟩, a5, a6, a7, a8⟩
   refine ⟨⟨by omega, by omega⟩, ⟨by omega, by omega⟩, a5, a6, a7, ?_⟩
   rintro n ⟨m, hm, rfl⟩
   have := a8 _ ⟨m, hm, rfl⟩
   omega
  ·rintro ⟨⟨a1, a2⟩, ⟨a3, a4⟩, a5, a6, a7, a8⟩
   refine ⟨⟨by omega, by omega⟩, ⟨by omega, by omega⟩, a5, a6, a7, ?_⟩
   rintro n ⟨m, hm, rfl⟩
   have := a8 _ ⟨m, hm, rfl⟩
   omega
 refine ⟨?_, fun h => ?_⟩
 ·cases h1 : goodR (clampR ns) <;> cases h2 : goodR (recOf ns)
  ·rfl
  ·rw [key.2 h2] at h1; cases h1
  ·rw [key.1 h1] at h2; cases h2
  ·rfl
 ·obtain ⟨⟨a1, a2⟩, ⟨a3, a4⟩, a5, a6, a7, a8⟩ := goodR_iff.1 h
  unfold recOf at a2 a4 a8
  unfold clampR recOf
  simp only at a2 a4 a8
  congr 1
  ·omega
  ·refine List.map_congr_left fun n hn => ?_
   have := a8 (n : Int) (List.mem_map.2 ⟨n, hn, rfl⟩)
   omega
  ·omega
def parseR (s : List UInt8) : Rec × Nat × Int := match parse s with | none => (Rec.none_, 0, 5) | some (r, n) => (r, n, 0)
theorem parseR_noline {s : List UInt8} (h : s.findIdx? (· == 10) = none) : parseR s = (Rec.none_, 0, 5) := by
 unfold parseR parse
 rw [h]
theorem parseR_noword {s : List UInt8} {e : Nat} (h : s.findIdx? (· == 10) = some e) (hn : numsO (pieces 32 (s.take e)) = none) : parseR s = (Rec.none_, 0, 5) := by
 unfold parseR parse
 rw [h]
 simp only
 rw [hn]
theorem parseR_bad {s : List UInt8} {e : Nat} (h : s.findIdx? (· == 10) = some e) {ns : List Nat} (hn : numsO (pieces 32 (s.take e)) = some ns) (hb : ns.length < 4 ∨ goodR (recOf ns) = false) : parseR s = (Rec.none_, 0, 5) := by
 unfold parseR parse
 rw [h]
 simp only
 rw [hn]
 simp only
 rw [if_neg]
 rintro ⟨h1, h2⟩
 rcases hb with hb | hb
 ·omega
 ·rw [h2] at hb; cases hb
theorem parseR_good {s : List UInt8} {e : Nat} (h : s.findIdx? (· == 10) = some e) {ns : List Nat} (hn : numsO (pieces 32 (s.take e)) = some ns) (h4 : 4 ≤ ns.length) (hb : goodR (recOf ns) = true) : parseR s = (recOf ns, e + 1, 0) := by
 unfold parseR parse
 rw [h]
 simp only
 rw [hn]
 simp only
 rw [if_pos ⟨h4, hb⟩]
def ParsePost (s : List UInt8) (w : World) (e : Ending) (w' : World) : Prop :=
 ∃ A k, e = .returned (.tuple #[.agg #[.int .i64 (parseR s).1.step, .slice A (parseR s).1.batch.length k, .int .i64 (parseR s).1.rate, .int .u64 (parseR s).1.root, .int .u64 (parseR s).1.chain], .int .i64 (parseR s).2.1, .int .i64 (parseR s).2.2]) ∧
  w'.ownsRow w.heap.size 3 1 (.slice A (parseR s).1.batch.length k) (parseR s).1.batch.length ((parseR s).1.batch.map (.int .i64)) ∧ Below w.heap.size w w'
theorem Blk.five {w : World} {g : Nat} {t : TypeId} {a0 a1 a2 a3 a4 : Value} (h : Blk w g t #[a0, a1, a2, a3, a4]) : (w.cell? ⟨g, 0, none⟩ = some a0 ∧ w.cell? ⟨g, 1, none⟩ = some a1 ∧ w.cell? ⟨g, 2, none⟩ = some a2 ∧ w.cell? ⟨g, 3, none⟩ = some a3 ∧ w.cell? ⟨g, 4, none⟩ = some a4) ∧
  w.frozen? ⟨g, 0, none⟩ = false ∧ w.frozen? ⟨g, 1, none⟩ = false ∧ w.frozen? ⟨g, 2, none⟩ = false ∧ w.frozen? ⟨g, 3, none⟩ = false ∧ w.frozen? ⟨g, 4, none⟩ = false :=
 ⟨⟨h.cell 0, h.cell 1, h.cell 2, h.cell 3, h.cell 4⟩, h.frozen 0, h.frozen 1, h.frozen 2, h.frozen 3, h.frozen 4⟩
theorem below_five {B : Nat} {w x : World} {P : Nat} {a0 a1 a2 a3 a4 : Value} (h : Below B w x) (hP : B ≤ P) : Below B w (((((x.setCell ⟨P, 0, none⟩ a0).setCell ⟨P, 1, none⟩ a1).setCell ⟨P, 2, none⟩ a2).setCell ⟨P, 3, none⟩ a3).setCell ⟨P, 4, none⟩ a4) :=
 ((((h.setCell (p := ⟨P, 0, none⟩) hP _).setCell (p := ⟨P, 1, none⟩) hP _).setCell (p := ⟨P, 2, none⟩) hP _).setCell (p := ⟨P, 3, none⟩) hP _).setCell (p := ⟨P, 4, none⟩) hP _
theorem own_five {B : Nat} {x : World} {e : TypeId} {v : Value} {n : Nat} {xs : List Value} {P : Nat} {a0 a1 a2 a3 a4 : Value} (h : x.ownsRow B e 1 v n xs) (hP : P < B) : (((((x.setCell ⟨P, 0, none⟩ a0).setCell ⟨P, 1, none⟩ a1).setCell ⟨P, 2, none⟩ a2).setCell ⟨P, 3, none⟩ a3).setCell ⟨P, 4, none⟩ a4).ownsRow B e 1 v n xs :=
 own_far (p := ⟨P, 4, none⟩) (own_far (p := ⟨P, 3, none⟩) (own_far (p := ⟨P, 2, none⟩) (own_far (p := ⟨P, 1, none⟩) (own_far (p := ⟨P, 0, none⟩) h hP _) hP _) hP _) hP _) hP _
theorem parse_zero {s : List UInt8} {w w' : World} (F : parseR s = (Rec.none_, 0, 5)) (hb : Below w.heap.size w w') : ParsePost s w (.returned (.tuple #[.agg #[.int .i64 0, .slice none 0 0, .int .i64 0, .int .u64 0, .int .u64 0], .int .i64 0, .int .i64 5])) w' := by
 unfold ParsePost
 rw [F]
 exact ⟨none, 0, rfl, World.ownsRow_nil _ _ _ _, hb⟩
theorem u64_info2 : (Tryz.prog.info? 27).map (fun i => (i.zero, i.size, i.bytes)) = some (some (.int .u64 0), 1, 8) := by kernel_rfl
theorem int_info2 : (Tryz.prog.info? 3).map (fun i => (i.zero, i.size, i.bytes)) = some (some (.int .i64 0), 1, 8) := by kernel_rfl
def PInv (R : Rec) (gb zs : Nat) (X : World) (p : Nat) (W : World) : Prop := ∃ (Bv : Option Addr) (kb : Nat), Blk W gb 90 #[.int .i64 R.step, .slice Bv p kb, .int .i64 R.rate, .int .u64 R.root, .int .u64 R.chain] ∧ W.ownsRow zs 3 1 (.slice Bv p kb) p ((R.batch.take p).map (.int .i64)) ∧ Below X.heap.size X W ∧ zs ≤ W.heap.size
theorem sto_Parse (s : ByteArray) (w : World) (hs : s.size ≤ 4294967280) (ht : Tabs w) :
  Calls Tryz.prog 81 #[.string s] w (ParsePost s.data.toList w) := by
 obtain ⟨i0, hi0, hz0, hz1, hz2⟩ := info_parts u64_info2
 obtain ⟨j0, hj0, jz0, jz1, jz2⟩ := info_parts int_info2
 have hsz : s.data.toList.length = s.size := by rw [Array.length_toList]; rfl
 obtain ⟨w0, hw0⟩ : ∃ w0, w0 = w.alloc (.cells #[.int .i64 0, .slice none 0 0, .int .i64 0, .int .u64 0, .int .u64 0] 90) := ⟨_, rfl⟩
 have b0 : Below w.heap.size w w0 := by rw [hw0]; exact (by repeat (first | exact Below.refl _ _ | assumption | refine bel_drewN ?_ _ | refine Below.drew ?_ | (refine Below.alloc ?_ (by simp <;> omega) _) | (refine Below.setCell ?_ (by simp <;> omega) _)))
 have HZ : Blk w0 w.heap.size 90 #[.int .i64 0, .slice none 0 0, .int .i64 0, .int .u64 0, .int .u64 0] := by rw [hw0]; exact Blk.made _ _ _
 have HW := Lib.hid hw0
 clear hw0
 have HCU := Lib.hid (lib_Cut 10 s w0 hs (ht.below b0))
 go_enter Tryz.func81, Tryz.ntmps81
 go_upto_region 1 with fail
 rw [← HW.out]
 go_wp2_with fail
 refine HCU.out.mono ?_
 rintro e w1 ⟨⟨l, rr, rfl, hlr⟩, hb1⟩
 have hw1 := b0.trans (hb1.mono b0.size)
 replace HZ := HZ.below hb1 HZ.lt
 have ht1 := ht.below hw1
 have ht0 := ht
 clear hb1 b0 ht HCU HW
 cases hf : s.data.toList.findIdx? (· == 10) with
 | none =>
  have F := Lib.hid (parseR_noline hf)
  clear hf hlr
  obtain ⟨⟨r0, r1, r2, r3, r4⟩, f0, f1, f2, f3, f4⟩ := HZ.five
  rw [show (none : Option Nat).isSome = false from rfl]
  go_wp2
  refine bodyPost_ret (v := .tuple #[.agg #[.int .i64 0, .slice none 0 0, .int .i64 0, .int .u64 0, .int .u64 0], .int .i64 0, .int .i64 5]) (by simp [results, Tryz.results81, go_sem, r0, r1, r2, r3, r4]) rfl ?_
  exact parse_zero F.out (below_five hw1 (Nat.le_refl _))
 | some i =>
  obtain ⟨hl, hli, _⟩ := hlr i hf
  have hi := (find_at hf).1
  have HSP := Lib.hid (lib_Split 32 l w1 (by omega) ht1)
  have hld : l.data.toList = s.data.toList.take i := by rw [hl, bytesOf_data]
  rw [hld] at HSP
  have HPB := Lib.hid (fun h => parseR_noword hf h)
  have HPC := Lib.hid (fun ns h1 h2 => parseR_bad hf (ns := ns) h1 h2)
  have HPG := Lib.hid (fun ns h1 h2 h3 => parseR_good hf (ns := ns) h1 h2 h3)
  have hcnt := pieces_count 32 (s.data.toList.take i)
  have hpz := pieces_size 32 (s.data.toList.take i)
  rw [List.length_take] at hcnt hpz
  obtain ⟨ws, hws⟩ : ∃ ws, ws = pieces 32 (s.data.toList.take i) := ⟨_, rfl⟩
  rw [← hws] at HSP HPB HPC HPG hcnt hpz
  clear hf hlr hl hld hws
  rw [show (some i : Option Nat).isSome = true from rfl]
  go_wp2_with fail
  refine HSP.out.mono ?_
  rintro e w2 ⟨rfl, hw2'⟩
  obtain ⟨L, hL⟩ : ∃ L, L = ws.length := ⟨_, rfl⟩
  obtain ⟨g, hg⟩ : ∃ g, g = w1.heap.size := ⟨_, rfl⟩
  have hbw2 : Below w1.heap.size w1 w2 := by rw [hw2']; exact (by repeat (first | exact Below.refl _ _ | assumption | refine bel_drewN ?_ _ | refine Below.drew ?_ | (refine Below.alloc ?_ (by simp <;> omega) _) | (refine Below.setCell ?_ (by simp <;> omega) _)))
  have hw2 := hw1.trans (hbw2.mono hw1.size)
  have HWS := Lib.hid (fun W (h : Below w2.heap.size w2 W) j (hj : j < L) => show W.cell? ⟨g, j, none⟩ = some (.string (bytesOf (ws.getD j []))) from by
   have hb : Blk w2 g 9 ((ws.map bytesOf).map Value.string).toArray := by rw [hw2', hg]; exact Blk.made _ _ _
   rw [(hb.below h hb.lt).cell j]
   simp [List.getElem?_eq_getElem (show j < ws.length by omega)])
  have HZ2 := HZ.below hbw2 HZ.lt
  rw [← hL, ← hg]
  have hL1 : L ≤ s.size + 1 := by omega
  have HLE := Lib.hid hL
  have hgl : w.heap.size ≤ g := by rw [hg]; exact hw1.size
  clear hw2' hbw2 HZ hg hL hcnt hw1 ht1 HSP
  go_wp2
  go_loopw [8, 10, 11, 12, 28] (fun nv _ _ _ j wr => ∃ (q : Nat) (ns : List Nat), q ≤ L ∧ j = .int .i64 q ∧ numsO (ws.take q) = some ns ∧ ns.length = q ∧ wr.ownsRow w2.heap.size 27 1 nv q (ns.map fun (n : Nat) => .int .u64 (n : Int)) ∧ Below w2.heap.size w2 wr) (fun _ _ _ _ j _ => L - (intOf j).toNat)
  case atStart => exact ⟨0, [], by omega, rfl, rfl, rfl, World.ownsRow_nil _ _ _ _, Below.refl _ _⟩
  case round =>
   obtain ⟨q, ns, hq, rfl, hns, hnl, hown, hb⟩ := hrel
   have hbs := hb.size
   have HNS := Lib.hid hns
   have HNL := Lib.hid hnl
   clear hns hnl
   by_cases hlt : q < L
   ·have c0 := HWS.out wr hb q hlt
    have hqw : q < ws.length := by rw [← HLE.out]; exact hlt
    obtain ⟨x, hx⟩ : ∃ x, x = ws.getD q [] := ⟨_, rfl⟩
    have hxw : ws[q]? = some x := by rw [hx, List.getD_eq_getElem?_getD, List.getElem?_eq_getElem hqw]; rfl
    have HNO := Lib.hid (fun (h : numO x = none) => numsO_none (List.mem_of_getElem? hxw) h)
    have HSN := Lib.hid (show numsO (ws.take (q + 1)) = match numsO (ws.take q), numO x with | some ns, some n => some (ns ++ [n]) | _, _ => none from by
     rw [List.take_add_one, hxw]
     exact numsO_snoc _ _)
    have HN := sto_number (bytesOf x) wr
    rw [bytesOf_data] at HN
    unfold numN at HN
    rw [← hx] at c0
    obtain ⟨X, hX⟩ : ∃ X, X = bytesOf x := ⟨_, rfl⟩
    rw [← hX] at c0 HN
    cases hno : numO x with
    | none =>
     rw [hno] at HN
     have HNH := Lib.hid HN
     have F := Lib.hid (HPB.out (HNO.out hno))
     obtain ⟨⟨r0, r1, r2, r3, r4⟩, f0, f1, f2, f3, f4⟩ := (HZ2.below hb HZ2.lt).five
     have hwr := hw2.trans (hb.mono hw2.size)
     clear hno hX hx hxw hqw HN
     go_wp2_with fail
     refine HNH.out.mono ?_
     rintro e u ⟨rfl, rfl⟩
     rw [show (none : Option Nat).isSome = false from rfl]
     go_wp2
     refine bodyPost_ret (v := .tuple #[.agg #[.int .i64 0, .slice none 0 0, .int .i64 0, .int .u64 0, .int .u64 0], .int .i64 0, .int .i64 5]) (by simp [results, Tryz.results81, go_sem, r0, r1, r2, r3, r4]) rfl ?_
     exact parse_zero F.out (below_five hwr (Nat.le_refl _))
    | some n =>
     rw [hno] at HN
     have HNH := Lib.hid HN
     have G := Lib.hid (show numsO (ws.take (q + 1)) = some (ns ++ [n]) from by rw [HSN.out, HNS.out, hno])
     clear hno hX hx hxw hqw HN
     go_wp2_with fail
     refine HNH.out.mono ?_
     rintro e u ⟨rfl, rfl⟩
     rw [show (some n : Option Nat).isSome = true from rfl, show (some n : Option Nat).getD 0 = n from rfl]
     go_wp2_with (at_builtin; refine wpList_append_own _ rfl _ _ 146 rfl w2.heap.size 27 i0 (.int .u64 0) 1 8 Tryz.underlying146 hi0 hz0 hz1 hz2 rfl (by decide) u8 q _ rfl (hown.alloc _) ⟨u.heap.size, 0, none⟩ 1 1 [.int .u64 n] rfl rfl (cell_one_new _ _ _) (by simp [Value.oneCell']) (by unfold maxLen; omega) (by omega) (by simp; omega) ?_; intro v1 v2 hown1 hgrow _)
     have hb2 : Below w2.heap.size w2 v2 := Below.grown (hb.alloc (by omega) _) hgrow (by simp; omega) (fun x hx => (hown.lt x hx).1)
     rw [show ns.map (fun (n : Nat) => Value.int .u64 (n : Int)) ++ [.int .u64 n] = (ns ++ [n]).map (fun (n : Nat) => Value.int .u64 (n : Int)) by simp] at hown1
     clear hgrow
     go_roundw
     case rel => exact ⟨q + 1, ns ++ [n], by omega, by go_num, G.out, by rw [List.length_append, HNL.out]; rfl, hown1, hb2⟩
     case measure => simp [intOf]; omega
   ·obtain rfl : q = L := by omega
    have hal := HNS.out
    rw [HLE.out, List.take_length] at hal
    have hnl := HNL.out
    have HBD := Lib.hid (numsO_some hal).2
    have hwr := hw2.trans (hb.mono hw2.size)
    have ht2 := ht0.below hwr
    by_cases h4 : q < 4
    ·have F := Lib.hid (HPC.out ns hal (.inl (by omega)))
     obtain ⟨⟨r0, r1, r2, r3, r4⟩, f0, f1, f2, f3, f4⟩ := (HZ2.below hb HZ2.lt).five
     obtain ⟨A', c', rfl⟩ : ∃ A' c', u8 = .slice A' q c' := by
      rcases hown.2 with ⟨h1, h2⟩ | ⟨g', c', _, h1, _⟩
      ·subst h2; exact ⟨none, 0, h1⟩
      ·exact ⟨_, _, h1⟩
     clear hal hnl
     go_wp2
     refine bodyPost_ret (v := .tuple #[.agg #[.int .i64 0, .slice none 0 0, .int .i64 0, .int .u64 0, .int .u64 0], .int .i64 0, .int .i64 5]) (by simp [results, Tryz.results81, go_sem, r0, r1, r2, r3, r4]) rfl ?_
     exact parse_zero F.out (below_five hwr (Nat.le_refl _))
    ·obtain ⟨gn, cn, rfl, hgn1, hgn2⟩ := hown.form (by omega)
     have hcn : q ≤ cn := by
      obtain ⟨_, h | ⟨g1, cap1, cur, e, _, _, hle, _⟩⟩ := hown
      ·cases h.1
      ·cases e
       exact hle
     have HNV := Lib.hid (fun W (h : Below wr.heap.size wr W) j (hj : j < q) => show W.cell? ⟨gn, j, none⟩ = some (.int .u64 ((ns[j]?.getD 0 : Nat) : Int)) from by
      have h1 := hown.cellAt j (by omega)
      rw [(h.cell (p := ⟨gn, j, none⟩) hgn2), h1, List.getElem?_map, List.getElem?_eq_getElem (by omega)]
      rfl)
     have HBJ := Lib.hid (fun j (hj : j < q) => show ns[j]?.getD 0 < 10000000000000000000 from by
      rw [List.getElem?_eq_getElem (by omega)]
      exact HBD.out _ (List.getElem_mem _))
     have HPC2 := Lib.hid (HPC.out ns hal)
     have HPG2 := Lib.hid (HPG.out ns hal (by omega))
     have HZ3 := HZ2.below hb HZ2.lt
     have HSV := Lib.hid (fun W (h : Below wr.heap.size wr W) => show W.cell? ⟨gn, 0, none⟩ = some (.int .u64 ((ns[0]?.getD 0 : Nat) : Int)) ∧ W.cell? ⟨gn, 1, none⟩ = some (.int .u64 ((ns[1]?.getD 0 : Nat) : Int)) ∧ W.cell? ⟨gn, 2, none⟩ = some (.int .u64 ((ns[2]?.getD 0 : Nat) : Int)) ∧ W.cell? ⟨gn, 3, none⟩ = some (.int .u64 ((ns[3]?.getD 0 : Nat) : Int)) from ⟨HNV.out W h 0 (by omega), HNV.out W h 1 (by omega), HNV.out W h 2 (by omega), HNV.out W h 3 (by omega)⟩)
     have y0 := HBJ.out 0 (by omega)
     have y1 := HBJ.out 1 (by omega)
     have y2 := HBJ.out 2 (by omega)
     have y3 := HBJ.out 3 (by omega)
     have HE0 := Lib.hid (show ∀ n : Nat, n = ns[0]?.getD 0 → min (n : Int) 100 = (clampR ns).step from fun n h => by rw [h]; rfl)
     have HE1 := Lib.hid (show ∀ n : Nat, n = ns[1]?.getD 0 → min (n : Int) 2147483648 = (clampR ns).rate from fun n h => by rw [h]; rfl)
     have HE2 := Lib.hid (show ∀ n : Nat, n = ns[2]?.getD 0 → (n : Int) = (clampR ns).root from fun n h => by rw [h]; rfl)
     have HE3 := Lib.hid (show ∀ n : Nat, n = ns[3]?.getD 0 → (n : Int) = (clampR ns).chain from fun n h => by rw [h]; rfl)
     obtain ⟨n0, hn0⟩ : ∃ n, n = ns[0]?.getD 0 := ⟨_, rfl⟩
     obtain ⟨n1, hn1⟩ : ∃ n, n = ns[1]?.getD 0 := ⟨_, rfl⟩
     obtain ⟨n2, hn2⟩ : ∃ n, n = ns[2]?.getD 0 := ⟨_, rfl⟩
     obtain ⟨n3, hn3⟩ : ∃ n, n = ns[3]?.getD 0 := ⟨_, rfl⟩
     have E0 := Lib.hid (HE0.out n0 hn0)
     have E1 := Lib.hid (HE1.out n1 hn1)
     have E2 := Lib.hid (HE2.out n2 hn2)
     have E3 := Lib.hid (HE3.out n3 hn3)
     rw [← hn0, ← hn1, ← hn2, ← hn3] at HSV
     rw [← hn0] at y0
     rw [← hn1] at y1
     rw [← hn2] at y2
     rw [← hn3] at y3
     have hrs := hwr.size
     clear hn0 hn1 hn2 hn3 HE0 HE1 HE2 HE3 hal hown HPC HPG HWS HLE HNS HNL HBJ hpz
     go_upto_region 15 with fail
     have e0 : IntKind.i64.wrap (min (n0 : Int) 100) = (clampR ns).step := by rw [wrap_small _ (by omega) (by omega)]; exact E0.out
     have e1 : IntKind.i64.wrap (min (n1 : Int) 2147483648) = (clampR ns).rate := by rw [wrap_small _ (by omega) (by omega)]; exact E1.out
     have e2 : (n2 : Int) = (clampR ns).root := E2.out
     have e3 : (n3 : Int) = (clampR ns).chain := E3.out
     clear y0 y1 y2 y3
     have z0 : (0 : Int) < (q : Int) := by omega
     have z0b : (1 : Int) ≤ (q : Int) := by omega
     have z0c : ¬ q = 0 := by omega
     have z0d : 0 < q := by omega
     have z1 : (1 : Int) < (q : Int) := by omega
     have z2 : (2 : Int) < (q : Int) := by omega
     have z3 : (3 : Int) < (q : Int) := by omega
     have S0 := HSV.out wr.drew ((Below.refl _ _).drew)
     have S1 := fun o => HSV.out ((wr.alloc o).drew) (((Below.refl _ _).alloc (Nat.le_refl _) o).drew)
     go_cut [13] (fun v wx => ∃ gb, v = .pointer (some ⟨gb, 0, none⟩) ∧ wr.heap.size ≤ gb ∧ Blk wx gb 90 #[.int .i64 (clampR ns).step, .slice none 0 0, .int .i64 (clampR ns).rate, .int .u64 (clampR ns).root, .int .u64 (clampR ns).chain] ∧ Below wr.heap.size wr wx)
     case first =>
      clear hgn1 hgn2 HNV HPC2 HPG2 HZ3 HBD hsz hi hli hs HZ2 hb hbs ht2 ht0 hwr
      go_region_held3 (fun W => W.cell? ⟨gn, 0, none⟩ = some (.int .u64 (n0 : Int)) ∧ W.cell? ⟨gn, 1, none⟩ = some (.int .u64 (n1 : Int)) ∧ W.cell? ⟨gn, 2, none⟩ = some (.int .u64 (n2 : Int)) ∧ W.cell? ⟨gn, 3, none⟩ = some (.int .u64 (n3 : Int))) (first | (with_reducible exact S0) | (with_reducible exact S1 _) | fail) (fail)
      all_goals
       go_wp2
       go_meet
       case rel => exact ⟨wr.heap.size, rfl, Nat.le_refl _, (Blk.made wr _ _ : _), ((Below.refl _ _).alloc (Nat.le_refl _) _).drew⟩
     case rest =>
      obtain ⟨gb, rfl, hgb, hblk, hbc⟩ := hcut
      obtain ⟨y, rfl⟩ : ∃ y : World, y = wc := ⟨_, rfl⟩
      clear S0 S1 e0 e1 e2 e3 E0 E1 E2 E3 z0 z0b z0c z0d z1 z2 z3
      obtain ⟨m, rfl⟩ : ∃ m, q = m + 4 := ⟨q - 4, by omega⟩
      have z4 : (4 : Int) ≤ ((m + 4 : Nat) : Int) := by omega
      have z5 : ((m + 4 : Nat) : Int) ≤ (cn : Int) := by omega
      go_upto_region 16 with fail
      go_cut [67, 68, 69] (fun v l j wx => ∃ A k', v = .slice A m k' ∧ (0 < m → A = some ⟨gn, 4, none⟩) ∧ m ≤ k' ∧ l = .int .i64 m ∧ j = .int .i64 0 ∧ wx = y)
      case first =>
       by_cases hc4 : cn = 4
       ·have c4 : (cn : Int) = 4 := by omega
        go_wp2
        go_meet
        case rel => exact ⟨_, _, rfl, fun h => (by omega), by omega, rfl, rfl, rfl⟩
       ·have c4 : ¬ cn = 4 := hc4
        go_wp2
        go_meet
        case rel => exact ⟨_, _, rfl, fun _ => rfl, by omega, rfl, rfl, rfl⟩
      case rest =>
       obtain ⟨A, kA, rfl, hA, hmk, rfl, rfl, hyc⟩ := hcut
       obtain ⟨z, hz⟩ : ∃ z : World, z = y := ⟨_, rfl⟩
       rw [hyc]
       clear hyc
       rw [← hz] at hbc hblk ⊢
       clear hz
       obtain ⟨X, hX⟩ : ∃ X : World, X = wr := ⟨_, rfl⟩
       rw [← hX] at hbc hrs hgb hgn2 hb hbs hwr ht2 HSV HNV HZ3
       clear hX
       have hzs := hbc.size
       have hgz := hblk.lt
       have HBL := Lib.hid (show (clampR ns).batch.length = m from by unfold clampR; simp [hnl])
       have HVV := Lib.hid (fun p (hp : p < m) W (h : Below X.heap.size X W) => show ∃ N : Nat, W.cell? ⟨gn, 4 + p, none⟩ = some (.int .u64 (N : Int)) ∧ IntKind.i64.wrap (min (N : Int) 100) = at0 (clampR ns).batch p from ⟨_, HNV.out W h (4 + p) (by omega), by
        rw [wrap_small _ (by omega) (by omega)]
        unfold clampR at0
        simp [List.getElem?_drop, List.getElem?_eq_getElem (show 4 + p < ns.length by omega)]⟩)
       have HRC := Lib.hid (show ∀ W A' k', Ints .i64 W A' m (clampR ns).batch → Calls Tryz.prog 78 #[.agg #[.int .i64 (clampR ns).step, .slice A' m k', .int .i64 (clampR ns).rate, .int .u64 (clampR ns).root, .int .u64 (clampR ns).chain]] W fun e w' => e = .returned (.bool (goodR (recOf ns))) ∧ Below W.heap.size W w' from fun W A' k' h => by
        have h2 := sto_right (clampR ns) A' m k' W h (by omega) (by unfold clampR; simp) (by unfold clampR; simp)
        rw [(clamp_good ns).1] at h2
        exact h2)
       have HRE := Lib.hid (clamp_good ns).2
       have HR4 := Lib.hid (show (4 : Nat) ≤ ns.length from by omega)
       obtain ⟨R, hR⟩ : ∃ R, R = clampR ns := ⟨_, rfl⟩
       rw [← hR] at hblk HBL HVV HRC HRE
       clear hR HNV HBD hnl HSV
       have O0 : z.ownsRow z.heap.size 3 1 (.slice none 0 0) 0 ((R.batch.take 0).map (.int .i64)) := World.ownsRow_nil _ _ _ _
       go_wp2
       go_loopw [15, 69] (fun _ j w3 => ∃ p : Nat, p ≤ m ∧ j = .int .i64 p ∧ PInv R gb z.heap.size X p w3) (fun _ j _ => m - (intOf j).toNat)
       case atStart => exact ⟨0, by omega, rfl, none, 0, hblk, O0, hbc, Nat.le_refl _⟩
       case round =>
        clear hblk O0 hbc
        obtain ⟨p, hp, rfl, Bv, kb, hblk, hown, hb3, hs3⟩ := hrel
        obtain ⟨⟨r0, r1, r2, r3, r4⟩, f0, f1, f2, f3, f4⟩ := hblk.five
        by_cases hlt : p < m
        ·obtain rfl := hA (by omega)
         obtain ⟨N, hcN, hw⟩ := HVV.out p hlt wr hb3
         have G := Lib.hid (show (R.batch.take (p + 1)).map (Value.int .i64) = (R.batch.take p).map (Value.int .i64) ++ [.int .i64 (at0 R.batch p)] from by
          rw [List.take_add_one]
          unfold at0
          rw [List.getElem?_eq_getElem (by rw [HBL.out]; omega), List.map_append]
          rfl)
         obtain ⟨v, hv⟩ : ∃ v, v = at0 R.batch p := ⟨_, rfl⟩
         rw [← hv] at hw G
         clear hv
         go_wp2_with (at_builtin; refine wpList_append_own _ rfl _ _ 56 rfl z.heap.size 3 j0 (.int .i64 0) 1 8 Tryz.underlying56 hj0 jz0 jz1 jz2 rfl (by decide) (.slice Bv p kb) p _ rfl (hown.alloc _) ⟨wr.heap.size, 0, none⟩ 1 1 [.int .i64 v] rfl rfl (cell_one_new _ _ _) (by simp [Value.oneCell']) (by unfold maxLen; omega) (by omega) (by simp; omega) ?_; intro v1 v2 hown1 hgrow _; obtain ⟨g', cp', rfl, k1, k2⟩ := hown1.form (by omega); have hblk2 := (hblk.alloc (.cells #[.int .i64 v] 3)).grown hgrow (fun e => by have := (hown.lt gb e.symm).1; omega); have s1 := hblk2.cell 1; have s2 := hblk2.frozen 1)
         have hb2 : Below X.heap.size X v2 := Below.grown (hb3.alloc (by have := hb3.size; omega) _) hgrow (by simp; omega) (fun x hx => Nat.le_trans hzs (hown.lt x hx).1)
         rw [← G.out] at hown1
         have hsz2 : z.heap.size ≤ v2.heap.size := Nat.le_trans (by simp; omega) hgrow.size
         clear hgrow s1 s2
         go_roundw
         case rel => exact ⟨p + 1, by omega, by go_num, some ⟨g', 0, none⟩, cp', hblk2.put 1 _, own_far (p := ⟨gb, 1, none⟩) hown1 hgz _, hb2.setCell (p := ⟨gb, 1, none⟩) hgb _, by rw [World.size_setCell]; omega⟩
         case measure => simp [intOf]; omega
        ·obtain rfl : p = m := by omega
         rw [List.take_of_length_le (by rw [HBL.out]; omega)] at hown
         have HRI := Lib.hid (HRC.out wr Bv kb (Ints.of_own hown HBL.out))
         have hzr := HZ3.below hb3 HZ3.lt
         have hwX := hwr.trans (hb3.mono hwr.size)
         have hXw := hwr.size
         have e5 : IntKind.i64.wrap ((i : Int) + 1) = ((i + 1 : Nat) : Int) := by rw [wrap_small _ (by omega) (by omega)]; omega
         clear HVV hA HRC
         go_wp2_with fail
         refine HRI.out.mono ?_
         rintro e u ⟨rfl, hbu⟩
         have hwu := hwX.trans (hbu.mono hwX.size)
         obtain ⟨⟨t0, t1, t2, t3, t4⟩, q0, q1, q2, q3, q4⟩ := (hzr.below hbu hzr.lt).five
         cases hg : goodR (recOf ns)
         ·have F := Lib.hid (HPC2.out (.inr hg))
          clear hg r0 r1 r2 r3 r4 f0 f1 f2 f3 f4
          go_wp2
          refine bodyPost_ret (v := .tuple #[.agg #[.int .i64 0, .slice none 0 0, .int .i64 0, .int .u64 0, .int .u64 0], .int .i64 0, .int .i64 5]) (by simp [results, Tryz.results81, go_sem, t0, t1, t2, t3, t4]) rfl ?_
          exact parse_zero F.out (below_five hwu (Nat.le_refl _))
         ·have F := Lib.hid (HPG2.out hg)
          have HRR := Lib.hid (HRE.out hg)
          obtain ⟨⟨r0, r1, r2, r3, r4⟩, f0, f1, f2, f3, f4⟩ := (hblk.below hbu hblk.lt).five
          have hownu := own_below hown hbu
          clear hg hown
          go_wp2
          refine bodyPost_ret (v := .tuple #[.agg #[.int .i64 R.step, .slice Bv p kb, .int .i64 R.rate, .int .u64 R.root, .int .u64 R.chain], .int .i64 ((i + 1 : Nat) : Int), .int .i64 0]) (by simp [results, Tryz.results81, go_sem, t0, t1, t2, t3, t4]) rfl ?_
          unfold ParsePost
          rw [F.out, ← HRR.out]
          refine ⟨Bv, kb, ?_, ?_, below_five hwu (Nat.le_refl _)⟩
          ·show _ = Ending.returned (.tuple #[.agg #[.int .i64 R.step, .slice Bv R.batch.length kb, .int .i64 R.rate, .int .u64 R.root, .int .u64 R.chain], .int .i64 ((i + 1 : Nat) : Int), .int .i64 0])
           rw [HBL.out]
          ·show World.ownsRow _ _ _ _ (.slice Bv R.batch.length kb) R.batch.length (R.batch.map (.int .i64))
           rw [HBL.out]
           exact own_base (own_five hownu (by omega)) (by omega)
def endE (l : List UInt8) (k : Nat) : Int := match (l.drop k).findIdx? (· == 10) with | some j => ((k + j : Nat) : Int) | none => -1
theorem endE_end (l : List UInt8) : endE l l.length = -1 := by
 unfold endE
 rw [List.drop_length]
 rfl
theorem endE_step (s : ByteArray) {k : Nat} (h : k < s.size) : endE s.data.toList k = if (s[k]'h) = 10 then (k : Int) else endE s.data.toList (k + 1) := by
 unfold endE
 have e : s.data.toList.drop k = (s[k]'h) :: s.data.toList.drop (k + 1) := by
  rw [List.drop_eq_getElem_cons (by rw [Array.length_toList]; exact h)]
  rfl
 rw [e, List.findIdx?_cons]
 by_cases hc : (s[k]'h) = 10
 ·rw [if_pos hc, hc]
  rfl
 ·rw [if_neg hc, show ((s[k]'h) == 10) = false from by simpa using hc]
  cases (s.data.toList.drop (k + 1)).findIdx? (· == 10) with
  | none => rfl
  | some j =>
   simp only [Bool.false_eq_true, if_false, Option.map_some]
   congr 1
   omega
theorem endE_zero (l : List UInt8) : endE l 0 = match l.findIdx? (· == 10) with | some j => (j : Int) | none => -1 := by
 unfold endE
 rw [List.drop_zero]
 cases l.findIdx? (· == 10) with
 | none => rfl
 | some j => simp
theorem good_parts {ns : List Nat} (h : goodR (recOf ns) = true) : ns[0]?.getD 0 ≤ 99 ∧ ns[1]?.getD 0 ≤ 2147483647 ∧ ∀ j, 4 + j < ns.length → ns[4 + j]?.getD 0 ≤ 99 := by
 obtain ⟨⟨_, a2⟩, ⟨_, a4⟩, _, _, _, a8⟩ := goodR_iff.1 h
 unfold recOf at a2 a4 a8
 simp only at a2 a4 a8
 refine ⟨by omega, by omega, fun j hj => ?_⟩
 rw [List.getElem?_eq_getElem hj]
 have := a8 ((ns[4 + j] : Nat) : Int) (List.mem_map.2 ⟨ns[4 + j], by
  rw [List.mem_iff_getElem]
  refine ⟨j, ?_, ?_⟩
  ·rw [List.length_drop]
   omega
  ·rw [List.getElem_drop], rfl⟩)
 show ns[4 + j] ≤ 99
 omega
theorem ref_ReadLine (s : ByteArray) (w : World) (hs : s.size ≤ 4294967280) (ht : Tabs w) :
  Calls Tryz.prog 57 #[.string s] w (ParsePost s.data.toList w) := by
 obtain ⟨i0, hi0, hz0, hz1, hz2⟩ := info_parts u64_info2
 obtain ⟨j0, hj0, jz0, jz1, jz2⟩ := info_parts int_info2
 have hsz : s.data.toList.length = s.size := by rw [Array.length_toList]; rfl
 obtain ⟨w0, hw0⟩ : ∃ w0, w0 = w.alloc (.cells #[.int .i64 0, .slice none 0 0, .int .i64 0, .int .u64 0, .int .u64 0] 90) := ⟨_, rfl⟩
 have b0 : Below w.heap.size w w0 := by rw [hw0]; exact (by repeat (first | exact Below.refl _ _ | assumption | refine bel_drewN ?_ _ | refine Below.drew ?_ | (refine Below.alloc ?_ (by simp <;> omega) _) | (refine Below.setCell ?_ (by simp <;> omega) _)))
 have HZ : Blk w0 w.heap.size 90 #[.int .i64 0, .slice none 0 0, .int .i64 0, .int .u64 0, .int .u64 0] := by rw [hw0]; exact Blk.made _ _ _
 have HW := Lib.hid hw0
 have HEE := Lib.hid (show endE s.data.toList s.size = -1 from by rw [← hsz]; exact endE_end _)
 have HE0 := Lib.hid (endE_zero s.data.toList)
 have k0 : IntKind.i64.wrap ((s.size : Int) - 1) = (s.size : Int) - 1 := by rw [IntKind.wrap_i64]; omega
 clear hw0
 go_enter Tryz.func57, Tryz.ntmps57
 go_upto_region 1 with fail
 rw [← HW.out]
 go_wp2
 go_loopw [5, 6] (fun ev jv wr => ∃ k : Nat, k ≤ s.size ∧ jv = .int .i64 ((k : Int) - 1) ∧ ev = .int .i64 (endE s.data.toList k) ∧ wr = w0) (fun _ jv _ => (intOf jv + 1).toNat)
 case atStart => exact ⟨s.size, Nat.le_refl _, rfl, by rw [HEE.out], rfl⟩
 case round =>
  obtain ⟨k, hk, rfl, rfl, hwr⟩ := hrel
  subst hwr
  clear HEE
  by_cases h0 : 0 < k
  ·obtain ⟨k', rfl⟩ : ∃ k', k = k' + 1 := ⟨k - 1, by omega⟩
   have hlt : k' < s.size := by omega
   have HS := Lib.hid (endE_step s hlt)
   rw [show ((k' + 1 : Nat) : Int) - 1 = (k' : Int) by omega]
   by_cases hc : (s[k']'hlt) = 10
   ·have G := Lib.hid (show endE s.data.toList k' = (k' : Int) from by rw [HS.out, if_pos hc])
    have hv : (s[k']'hlt).toNat = 10 := by rw [hc]; rfl
    clear hc
    go_wp2
    go_roundw
    case rel => exact ⟨k', by omega, by go_num, by rw [G.out], by simp⟩
    case measure => first | (simp [intOf]; done) | (simp [intOf]; omega)
   ·have G := Lib.hid (show endE s.data.toList k' = endE s.data.toList (k' + 1) from by rw [HS.out, if_neg hc])
    have hv : ¬ ((s[k']'hlt).toNat = 10) := fun e => hc (UInt8.toNat_inj.1 e)
    clear hc
    go_wp2
    go_roundw
    case rel => exact ⟨k', by omega, by go_num, by rw [G.out], by simp⟩
    case measure => first | (simp [intOf]; done) | (simp [intOf]; omega)
  ·obtain rfl : k = 0 := by omega
   cases hf : s.data.toList.findIdx? (· == 10) with
   | none =>
    have F := Lib.hid (parseR_noline hf)
    rw [show endE s.data.toList 0 = -1 from by rw [HE0.out, hf]]
    clear hf HE0
    obtain ⟨⟨r0, r1, r2, r3, r4⟩, f0, f1, f2, f3, f4⟩ := HZ.five
    go_wp2
    refine bodyPost_ret (v := .tuple #[.agg #[.int .i64 0, .slice none 0 0, .int .i64 0, .int .u64 0, .int .u64 0], .int .i64 0, .int .i64 5]) (by simp [results, Tryz.results57, go_sem, r0, r1, r2, r3, r4]) rfl ?_
    exact parse_zero F.out (below_five b0 (Nat.le_refl _))
   | some i =>
    rw [show endE s.data.toList 0 = (i : Int) from by rw [HE0.out, hf]]
    have hi := (find_at hf).1
    have hld : (s.extract 0 i).data.toList = s.data.toList.take i := by rw [Lib.extract_data]; simp
    have hPI : Calls Tryz.prog 32 #[.string (s.extract 0 i), .int .u8 32] wr fun e w' => ∃ v, e = .returned v ∧ StrsOwn wr.heap.size (pieces 32 (s.data.toList.take i)) v w' ∧ Below wr.heap.size wr w' := by
     have hle : (s.extract 0 i).size ≤ s.size := by
      rw [Lib.size_eq, hld, List.length_take, hsz]
      exact Nat.min_le_right _ _
     have h := ref_Pieces (s.extract 0 i) 32 wr (Nat.le_trans hle hs)
     rw [hld] at h
     exact h
    have HPI := Lib.hid hPI
    have HPB := Lib.hid (fun h => parseR_noword hf h)
    have HPC := Lib.hid (fun ns h1 h2 => parseR_bad hf (ns := ns) h1 h2)
    have HPG := Lib.hid (fun ns h1 h2 h3 => parseR_good hf (ns := ns) h1 h2 h3)
    have hcnt := pieces_count 32 (s.data.toList.take i)
    have hpz := pieces_size 32 (s.data.toList.take i)
    rw [List.length_take] at hcnt hpz
    obtain ⟨ws, hws⟩ : ∃ ws, ws = pieces 32 (s.data.toList.take i) := ⟨_, rfl⟩
    rw [← hws] at HPI HPB HPC HPG hcnt hpz
    have hw1 : 1 ≤ ws.length := by rw [hws]; exact List.length_pos_iff.2 (pieces_ne _ _)
    have ii0 : (i : Int) ≤ (s.size : Int) := by omega
    clear hf hld hws hPI HE0
    go_wp2_with fail
    refine HPI.out.mono ?_
    rintro e w2 ⟨v2, rfl, ⟨g, gc, rfl, hown2⟩, hbw2⟩
    have hw2 := b0.trans (hbw2.mono b0.size)
    obtain ⟨L, hL⟩ : ∃ L, L = ws.length := ⟨_, rfl⟩
    have hg2 := hown2.lt g rfl
    have HWS := Lib.hid (fun W (h : Below w2.heap.size w2 W) j (hj : j < L) => show W.cell? ⟨g, j, none⟩ = some (.string (bytesOf (ws.getD j []))) from by
     rw [h.cell (p := ⟨g, j, none⟩) hg2.2, hown2.cellAt j (by omega), List.getElem?_map, List.getElem?_map, List.getElem?_eq_getElem (show j < ws.length by omega)]
     simp [List.getElem?_eq_getElem (show j < ws.length by omega)])
    have HZ2 := HZ.below hbw2 HZ.lt
    rw [← hL]
    have hL1 : L ≤ s.size + 1 := by omega
    have HLE := Lib.hid hL
    clear hbw2 HZ hL hcnt HPI hown2
    obtain ⟨w9, hw9⟩ : ∃ x : World, x = wr := ⟨_, rfl⟩
    clear hw9
    go_wp2
    go_loopw [8, 9, 10, 11] (fun nv j _ _ wr => ∃ (q : Nat) (ns : List Nat), q ≤ L ∧ j = .int .i64 q ∧ numsO (ws.take q) = some ns ∧ ns.length = q ∧ wr.ownsRow w2.heap.size 27 1 nv q (ns.map fun (n : Nat) => .int .u64 (n : Int)) ∧ Below w2.heap.size w2 wr) (fun _ j _ _ _ => L - (intOf j).toNat)
    case atStart => exact ⟨0, [], by omega, rfl, rfl, rfl, World.ownsRow_nil _ _ _ _, Below.refl _ _⟩
    case round =>
     obtain ⟨q, ns, hq, rfl, hns, hnl, hown, hb⟩ := hrel
     have hbs := hb.size
     have HNS := Lib.hid hns
     have HNL := Lib.hid hnl
     have hwr := hw2.trans (hb.mono hw2.size)
     clear hns hnl
     by_cases hlt : q < L
     ·have c0 := HWS.out wr hb q hlt
      have hqw : q < ws.length := by rw [← HLE.out]; exact hlt
      obtain ⟨x, hx⟩ : ∃ x, x = ws.getD q [] := ⟨_, rfl⟩
      have hxw : ws[q]? = some x := by rw [hx, List.getD_eq_getElem?_getD, List.getElem?_eq_getElem hqw]; rfl
      have hxl := hpz x (List.mem_of_getElem? hxw)
      have HNO := Lib.hid (fun (h : numO x = none) => numsO_none (List.mem_of_getElem? hxw) h)
      have HSN := Lib.hid (show numsO (ws.take (q + 1)) = match numsO (ws.take q), numO x with | some ns, some n => some (ns ++ [n]) | _, _ => none from by
       rw [List.take_add_one, hxw]
       exact numsO_snoc _ _)
      have HN := ref_whole (bytesOf x) wr (ht.below hwr) (by show x.length ≤ _; omega)
      rw [bytesOf_data] at HN
      unfold numN at HN
      rw [← hx] at c0
      obtain ⟨X, hX⟩ : ∃ X, X = bytesOf x := ⟨_, rfl⟩
      rw [← hX] at c0 HN
      cases hno : numO x with
      | none =>
       rw [hno] at HN
       have HNH := Lib.hid HN
       have F := Lib.hid (HPB.out (HNO.out hno))
       have HZ3 := HZ2.below hb HZ2.lt
       clear hno hX hx hxw hqw HN hxl
       go_wp2_with fail
       refine HNH.out.mono ?_
       rintro e u ⟨Y, rfl, _, hbu⟩
       rw [show (none : Option Nat).isSome = false from rfl]
       obtain ⟨⟨r0, r1, r2, r3, r4⟩, f0, f1, f2, f3, f4⟩ := (HZ3.below hbu HZ3.lt).five
       go_wp2
       refine bodyPost_ret (v := .tuple #[.agg #[.int .i64 0, .slice none 0 0, .int .i64 0, .int .u64 0, .int .u64 0], .int .i64 0, .int .i64 5]) (by simp [results, Tryz.results57, go_sem, r0, r1, r2, r3, r4]) rfl ?_
       exact parse_zero F.out (below_five (hwr.trans (hbu.mono hwr.size)) (Nat.le_refl _))
      | some n =>
       rw [hno] at HN
       have HNH := Lib.hid HN
       have G := Lib.hid (show numsO (ws.take (q + 1)) = some (ns ++ [n]) from by rw [HSN.out, HNS.out, hno])
       clear hno hX hx hxw hqw HN hxl
       go_wp2_with fail
       refine HNH.out.mono ?_
       rintro e u ⟨Y, rfl, hY, hbu⟩
       obtain rfl : Y = (n : Int) := hY rfl
       rw [show (some n : Option Nat).isSome = true from rfl]
       have hb4 : Below w2.heap.size w2 u := bel_trans hb hbu
       have hs4 := hb4.size
       have hownu := own_below hown hbu
       go_wp2_with (at_builtin; refine wpList_append_own _ rfl _ _ 146 rfl w2.heap.size 27 i0 (.int .u64 0) 1 8 Tryz.underlying146 hi0 hz0 hz1 hz2 rfl (by decide) u8 q _ rfl (hownu.alloc _) ⟨u.heap.size, 0, none⟩ 1 1 [.int .u64 n] rfl rfl (cell_one_new _ _ _) (by simp [Value.oneCell']) (by unfold maxLen; omega) (by omega) (by simp; omega) ?_; intro v1 v2 hown1 hgrow _)
       have hb2 : Below w2.heap.size w2 v2 := Below.grown (hb4.alloc (by omega) _) hgrow (by simp; omega) (fun x hx => (hown.lt x hx).1)
       rw [show ns.map (fun (n : Nat) => Value.int .u64 (n : Int)) ++ [.int .u64 n] = (ns ++ [n]).map (fun (n : Nat) => Value.int .u64 (n : Int)) by simp] at hown1
       clear hgrow
       go_roundw
       case rel => exact ⟨q + 1, ns ++ [n], by omega, by go_num, G.out, by rw [List.length_append, HNL.out]; rfl, hown1, hb2⟩
       case measure => simp [intOf]; omega
     ·obtain rfl : q = L := by omega
      have hal := HNS.out
      rw [HLE.out, List.take_length] at hal
      have hnl := HNL.out
      have HBD := Lib.hid (numsO_some hal).2
      by_cases h4 : q < 4
      ·have F := Lib.hid (HPC.out ns hal (.inl (by omega)))
       obtain ⟨⟨r0, r1, r2, r3, r4⟩, f0, f1, f2, f3, f4⟩ := (HZ2.below hb HZ2.lt).five
       obtain ⟨A', c', rfl⟩ : ∃ A' c', u8 = .slice A' q c' := by
        rcases hown.2 with ⟨h1, h2⟩ | ⟨g', c', _, h1, _⟩
        ·subst h2; exact ⟨none, 0, h1⟩
        ·exact ⟨_, _, h1⟩
       clear hal hnl
       go_wp2
       refine bodyPost_ret (v := .tuple #[.agg #[.int .i64 0, .slice none 0 0, .int .i64 0, .int .u64 0, .int .u64 0], .int .i64 0, .int .i64 5]) (by simp [results, Tryz.results57, go_sem, r0, r1, r2, r3, r4]) rfl ?_
       exact parse_zero F.out (below_five hwr (Nat.le_refl _))
      ·obtain ⟨gn, cn, rfl, hgn1, hgn2⟩ := hown.form (by omega)
       have HNV := Lib.hid (fun W (h : Below wr.heap.size wr W) j (hj : j < q) => show W.cell? ⟨gn, j, none⟩ = some (.int .u64 ((ns[j]?.getD 0 : Nat) : Int)) from by
        have h1 := hown.cellAt j (by omega)
        rw [(h.cell (p := ⟨gn, j, none⟩) hgn2), h1, List.getElem?_map, List.getElem?_eq_getElem (by omega)]
        rfl)
       have HBJ := Lib.hid (fun j (hj : j < q) => show ns[j]?.getD 0 < 10000000000000000000 from by
        rw [List.getElem?_eq_getElem (by omega)]
        exact HBD.out _ (List.getElem_mem _))
       have HPC2 := Lib.hid (fun (h : goodR (recOf ns) = false) => HPC.out ns hal (.inr h))
       have HPG2 := Lib.hid (HPG.out ns hal (by omega))
       have HGP := Lib.hid (fun (h : goodR (recOf ns) = true) => good_parts h)
       have HBAD := Lib.hid (fun (h : ¬ (ns[0]?.getD 0 ≤ 99 ∧ ns[1]?.getD 0 ≤ 2147483647)) => HPC2.out (by
        cases hg : goodR (recOf ns)
        ·rfl
        ·exact absurd ⟨(HGP.out hg).1, (HGP.out hg).2.1⟩ h))
       have HZ3 := HZ2.below hb HZ2.lt
       have c0 := HNV.out wr (Below.refl _ _) 0 (by omega)
       have c1 := HNV.out wr (Below.refl _ _) 1 (by omega)
       have HSV := Lib.hid (fun W (h : Below wr.heap.size wr W) => show W.cell? ⟨gn, 0, none⟩ = some (.int .u64 ((ns[0]?.getD 0 : Nat) : Int)) ∧ W.cell? ⟨gn, 1, none⟩ = some (.int .u64 ((ns[1]?.getD 0 : Nat) : Int)) ∧ W.cell? ⟨gn, 2, none⟩ = some (.int .u64 ((ns[2]?.getD 0 : Nat) : Int)) ∧ W.cell? ⟨gn, 3, none⟩ = some (.int .u64 ((ns[3]?.getD 0 : Nat) : Int)) from ⟨HNV.out W h 0 (by omega), HNV.out W h 1 (by omega), HNV.out W h 2 (by omega), HNV.out W h 3 (by omega)⟩)
       have HE0 := Lib.hid (show ∀ n : Nat, n = ns[0]?.getD 0 → (n : Int) = (recOf ns).step from fun n h => by rw [h]; rfl)
       have HE1 := Lib.hid (show ∀ n : Nat, n = ns[1]?.getD 0 → (n : Int) = (recOf ns).rate from fun n h => by rw [h]; rfl)
       have HE2 := Lib.hid (show ∀ n : Nat, n = ns[2]?.getD 0 → (n : Int) = (recOf ns).root from fun n h => by rw [h]; rfl)
       have HE3 := Lib.hid (show ∀ n : Nat, n = ns[3]?.getD 0 → (n : Int) = (recOf ns).chain from fun n h => by rw [h]; rfl)
       obtain ⟨n0, hn0⟩ : ∃ n, n = ns[0]?.getD 0 := ⟨_, rfl⟩
       obtain ⟨n1, hn1⟩ : ∃ n, n = ns[1]?.getD 0 := ⟨_, rfl⟩
       obtain ⟨n2, hn2⟩ : ∃ n, n = ns[2]?.getD 0 := ⟨_, rfl⟩
       obtain ⟨n3, hn3⟩ : ∃ n, n = ns[3]?.getD 0 := ⟨_, rfl⟩
       have E0 := Lib.hid (HE0.out n0 hn0)
       have E1 := Lib.hid (HE1.out n1 hn1)
       have E2 := Lib.hid (HE2.out n2 hn2)
       have E3 := Lib.hid (HE3.out n3 hn3)
       rw [← hn0, ← hn1, ← hn2, ← hn3] at HSV
       rw [← hn0, ← hn1] at HBAD
       rw [← hn0] at c0
       rw [← hn1] at c1
       have hrs := hwr.size
       have z0 : (0 : Int) < (q : Int) := by omega
       have z0b : (1 : Int) ≤ (q : Int) := by omega
       have z0c : ¬ q = 0 := by omega
       have z0d : 0 < q := by omega
       have z1 : (1 : Int) < (q : Int) := by omega
       have z2 : (2 : Int) < (q : Int) := by omega
       have z3 : (3 : Int) < (q : Int) := by omega
       have z4 : ¬ (q : Int) < 4 := by omega
       clear hn0 hn1 hn2 hn3 HE0 HE1 HE2 HE3 hal hown HPC HPG HWS HLE HNS HNL HPB
       by_cases h99 : 99 < n0
       ·have F := Lib.hid (HBAD.out (by omega))
        obtain ⟨⟨r0, r1, r2, r3, r4⟩, f0, f1, f2, f3, f4⟩ := HZ3.five
        have x0 : (99 : Int) < (n0 : Int) := by omega
        clear HBJ HBD hpz HGP
        go_wp2
        refine bodyPost_ret (v := .tuple #[.agg #[.int .i64 0, .slice none 0 0, .int .i64 0, .int .u64 0, .int .u64 0], .int .i64 0, .int .i64 5]) (by simp [results, Tryz.results57, go_sem, r0, r1, r2, r3, r4]) rfl ?_
        exact parse_zero F.out (below_five hwr (Nat.le_refl _))
       ·by_cases hT : 2147483647 < n1
        ·have F := Lib.hid (HBAD.out (by omega))
         obtain ⟨⟨r0, r1, r2, r3, r4⟩, f0, f1, f2, f3, f4⟩ := HZ3.five
         have x0 : ¬ (99 : Int) < (n0 : Int) := by omega
         have x1 : (2147483647 : Int) < (n1 : Int) := by omega
         clear HBJ HBD hpz HGP
         go_wp2
         refine bodyPost_ret (v := .tuple #[.agg #[.int .i64 0, .slice none 0 0, .int .i64 0, .int .u64 0, .int .u64 0], .int .i64 0, .int .i64 5]) (by simp [results, Tryz.results57, go_sem, r0, r1, r2, r3, r4]) rfl ?_
         exact parse_zero F.out (below_five hwr (Nat.le_refl _))
        ·have x0 : ¬ (99 : Int) < (n0 : Int) := by omega
         have x1 : ¬ (2147483647 : Int) < (n1 : Int) := by omega
         have v0 : IntKind.i64.wrap (n0 : Int) = (recOf ns).step := by rw [wrap_small _ (by omega) (by omega)]; exact E0.out
         have v1 : IntKind.i64.wrap (n1 : Int) = (recOf ns).rate := by rw [wrap_small _ (by omega) (by omega)]; exact E1.out
         have v2 : (n2 : Int) = (recOf ns).root := E2.out
         have v3 : (n3 : Int) = (recOf ns).chain := E3.out
         go_upto_region 20 with fail
         have S0 := HSV.out wr.drew ((Below.refl _ _).drew)
         have S1 := fun o => HSV.out ((wr.alloc o).drew) (((Below.refl _ _).alloc (Nat.le_refl _) o).drew)
         go_cut [12] (fun v wx => ∃ gb, v = .pointer (some ⟨gb, 0, none⟩) ∧ wr.heap.size ≤ gb ∧ Blk wx gb 90 #[.int .i64 (recOf ns).step, .slice none 0 0, .int .i64 (recOf ns).rate, .int .u64 (recOf ns).root, .int .u64 (recOf ns).chain] ∧ Below wr.heap.size wr wx)
         case first =>
          clear hgn1 hgn2 HNV HPC2 HPG2 HZ3 HBD hsz hi hs HZ2 hb hbs ht hwr c0 c1 HBJ HBAD HGP hpz E0 E1 E2 E3 HSV
          go_region_held3 (fun W => W.cell? ⟨gn, 0, none⟩ = some (.int .u64 (n0 : Int)) ∧ W.cell? ⟨gn, 1, none⟩ = some (.int .u64 (n1 : Int)) ∧ W.cell? ⟨gn, 2, none⟩ = some (.int .u64 (n2 : Int)) ∧ W.cell? ⟨gn, 3, none⟩ = some (.int .u64 (n3 : Int))) (first | (with_reducible exact S0) | (with_reducible exact S1 _) | fail) (fail)
          all_goals
           go_wp2
           go_meet
           case rel => exact ⟨wr.heap.size, rfl, Nat.le_refl _, (Blk.made wr _ _ : _), ((Below.refl _ _).alloc (Nat.le_refl _) _).drew⟩
         case rest =>
          obtain ⟨gb, rfl, hgb, hblk, hbc⟩ := hcut
          clear S0 S1 v0 v1 v2 v3 E0 E1 E2 E3 z0 z0b z0c z0d z1 z2 z3 x0 x1 c0 c1 HSV HBAD hpz h4 h99 hT
          obtain ⟨m, hm⟩ : ∃ m, q = m + 4 := ⟨q - 4, by omega⟩
          obtain ⟨z, hz⟩ : ∃ z : World, z = wc := ⟨_, rfl⟩
          rw [← hz] at hbc hblk ⊢
          clear hz
          obtain ⟨X, hX⟩ : ∃ X : World, X = wr := ⟨_, rfl⟩
          rw [← hX] at hbc hrs hgb hgn2 hb hbs hwr HNV HZ3
          clear hX
          have hzs := hbc.size
          have hgz := hblk.lt
          have HBL := Lib.hid (show (recOf ns).batch.length = m from by unfold recOf; simp [hnl]; omega)
          have HVV := Lib.hid (fun p (hp : p < m) W (h : Below X.heap.size X W) => show ∃ N : Nat, W.cell? ⟨gn, p + 4, none⟩ = some (.int .u64 (N : Int)) ∧ (N ≤ 99 → IntKind.i64.wrap (N : Int) = at0 (recOf ns).batch p) ∧ (99 < N → goodR (recOf ns) = false) ∧ N < 10000000000000000000 from ⟨ns[p + 4]?.getD 0, HNV.out W h (p + 4) (by omega), fun h9 => by
           rw [wrap_small _ (by omega) (by omega)]
           unfold recOf at0
           simp only [List.getElem?_map, List.getElem?_drop, List.getElem?_eq_getElem (show 4 + p < ns.length by omega), Option.map_some, Option.getD_some, Nat.add_comm p 4], fun h99 => by
            cases hg : goodR (recOf ns)
            ·rfl
            ·have := (HGP.out hg).2.2 p (by omega)
             rw [Nat.add_comm] at this
             omega, HBJ.out _ (by omega)⟩)
          have HLR := Lib.hid (fun W A' k' (h : Ints .i64 W A' m (recOf ns).batch) => ref_Line (recOf ns) A' m k' W h (by omega) (by unfold recOf; simp) (by unfold recOf; simp))
          obtain ⟨R, hR⟩ : ∃ R, R = recOf ns := ⟨_, rfl⟩
          rw [← hR] at hblk HBL HVV HLR HPC2 HPG2
          clear hR HNV HBD hnl HGP HBJ
          have O0 : z.ownsRow z.heap.size 3 1 (.slice none 0 0) 0 ((R.batch.take 0).map (.int .i64)) := World.ownsRow_nil _ _ _ _
          have HM := Lib.hid hm
          have HMB := Lib.hid (show m ≤ 5000000000 from by omega)
          clear hm
          go_wp2
          go_loopw [13] (fun j w3 => ∃ p I : Nat, p ≤ m ∧ I = p + 4 ∧ j = .int .i64 (I : Int) ∧ PInv R gb z.heap.size X p w3) (fun j _ => q - (intOf j).toNat)
          case atStart => exact ⟨0, 4, by omega, rfl, rfl, none, 0, hblk, O0, hbc, Nat.le_refl _⟩
          case round =>
           clear hblk O0 hbc
           obtain ⟨p, I, hp, hI, rfl, Bv, kb, hblk, hown, hb3, hs3⟩ := hrel
           have HI := Lib.hid hI
           obtain ⟨⟨r0, r1, r2, r3, r4⟩, f0, f1, f2, f3, f4⟩ := hblk.five
           have hwX := hwr.trans (hb3.mono hwr.size)
           have hzr := HZ3.below hb3 HZ3.lt
           by_cases hlt : p < m
           ·obtain ⟨N, hcN, hw, hbad, _⟩ := HVV.out p hlt wr hb3
            rw [← hI] at hcN
            have y0 : (0 : Int) ≤ (I : Int) := by omega
            have y1 : (I : Int) < (q : Int) := by have := HM.out; omega
            have y2 := HMB.out
            clear hI
            have HCN := Lib.hid (fun o => show (wr.alloc o).cell? ⟨gn, I, none⟩ = some (.int .u64 (N : Int)) from (((Below.refl wr.heap.size wr).alloc (Nat.le_refl _) o).cell (block_lt_of_cell hcN)).trans hcN)
            have HCB := Lib.hid (fun o => show (wr.alloc o).cell? ⟨gb, 1, none⟩ = some (.slice Bv p kb) from (((Below.refl wr.heap.size wr).alloc (Nat.le_refl _) o).cell (block_lt_of_cell r1)).trans r1)
            by_cases h9 : 99 < N
            ·have F := Lib.hid (HPC2.out (hbad h9))
             have x9 : (99 : Int) < (N : Int) := by omega
             obtain ⟨⟨t0, t1, t2, t3, t4⟩, q0, q1, q2, q3, q4⟩ := hzr.five
             clear hw hbad h9
             go_wp2
             refine bodyPost_ret (v := .tuple #[.agg #[.int .i64 0, .slice none 0 0, .int .i64 0, .int .u64 0, .int .u64 0], .int .i64 0, .int .i64 5]) (by simp [results, Tryz.results57, go_sem, t0, t1, t2, t3, t4]) rfl ?_
             exact parse_zero F.out (below_five hwX (Nat.le_refl _))
            ·have x9 : ¬ (99 : Int) < (N : Int) := by omega
             have hv := hw (by omega)
             have G := Lib.hid (show (R.batch.take (p + 1)).map (Value.int .i64) = (R.batch.take p).map (Value.int .i64) ++ [.int .i64 (at0 R.batch p)] from by
              rw [List.take_add_one]
              unfold at0
              rw [List.getElem?_eq_getElem (by rw [HBL.out]; omega), List.map_append]
              rfl)
             obtain ⟨v, hvv⟩ : ∃ v, v = at0 R.batch p := ⟨_, rfl⟩
             rw [← hvv] at hv G
             have o1 := HCN.out (.cells #[.int .i64 v] 3)
             have o2 := HCB.out (.cells #[.int .i64 v] 3)
             clear hvv hw hbad h9
             go_upto_region 26 with fail
             go_region_law (first
              | (refine step_append_lies _ (by rfl) _ _ _ (by rfl) z.heap.size 3 j0 _ 1 8 Tryz.underlying56 hj0 jz0 jz1 jz2 rfl (by omega) (.slice Bv p kb) p _ (by rfl) (by exact (own_drew hown).alloc _) ⟨wr.heap.size, 0, none⟩ 1 1 [.int .i64 v] (by rfl) (by rfl) (World.news_of_block (cs := #[.int .i64 v]) (t := 3) (fr := (0, 0)) (heap_alloc_new _ _)) (by simp [Value.oneCell']) (by omega) (by unfold maxLen; omega) (by omega) (by simp; omega) (wr.heap.size + 1) (by simp) ?_; intro gg cp w4 hown1 hgrow hat hlt1; have hblk2 : Blk w4 gb 90 #[.int .i64 R.step, .slice Bv p kb, .int .i64 R.rate, .int .u64 R.root, .int .u64 R.chain] := Blk.grown (w := (wr.alloc (.cells #[.int .i64 v] 3)).drew) (hblk.alloc (.cells #[.int .i64 v] 3)) hgrow (fun e => by have := (hown.lt gb e.symm).1; omega); have s1 := hblk2.cell 1; have s2 := hblk2.frozen 1))
             all_goals
              have hb2 : Below X.heap.size X w4 := Below.grown ((hb3.alloc (by have := hb3.size; omega) _).drew) hgrow (by simp; omega) (fun x hx => Nat.le_trans hzs (hown.lt x hx).1)
              have hsz2 : z.heap.size ≤ w4.heap.size := Nat.le_trans (by simp; omega) hgrow.size
              rw [show List.map (Value.int .i64) (List.take p R.batch) ++ [.int .i64 v] = (R.batch.take (p + 1)).map (Value.int .i64) from G.out.symm] at hown1
              clear hgrow hat s1 s2
              go_wp2
              go_roundw
              case rel => exact ⟨p + 1, I + 1, by omega, by have := HI.out; omega, by go_num, some ⟨gg, 0, none⟩, cp, hblk2.put 1 _, own_far (p := ⟨gb, 1, none⟩) hown1 hgz _, hb2.setCell (p := ⟨gb, 1, none⟩) hgb _, by rw [World.size_setCell]; omega⟩
              case measure => simp [intOf]; omega
           ·obtain rfl : p = m := by omega
            rw [List.take_of_length_le (by rw [HBL.out]; omega)] at hown
            have HRI := Lib.hid (HLR.out wr Bv kb (Ints.of_own hown HBL.out))
            have hXw := hwr.size
            have e5 : IntKind.i64.wrap ((i : Int) + 1) = ((i + 1 : Nat) : Int) := by rw [wrap_small _ (by omega) (by omega)]; omega
            have e6 : I = q := by have := HM.out; omega
            clear HVV HLR hI
            go_wp2_with fail
            refine HRI.out.mono ?_
            rintro e u ⟨rfl, hbu⟩
            have hwu := hwX.trans (hbu.mono hwX.size)
            obtain ⟨⟨t0, t1, t2, t3, t4⟩, q0, q1, q2, q3, q4⟩ := (hzr.below hbu hzr.lt).five
            cases hg : goodR R
            ·have F := Lib.hid (HPC2.out hg)
             clear hg r0 r1 r2 r3 r4 f0 f1 f2 f3 f4
             go_wp2
             refine bodyPost_ret (v := .tuple #[.agg #[.int .i64 0, .slice none 0 0, .int .i64 0, .int .u64 0, .int .u64 0], .int .i64 0, .int .i64 5]) (by simp [results, Tryz.results57, go_sem, t0, t1, t2, t3, t4]) rfl ?_
             exact parse_zero F.out (below_five hwu (Nat.le_refl _))
            ·have F := Lib.hid (HPG2.out hg)
             obtain ⟨⟨r0, r1, r2, r3, r4⟩, f0, f1, f2, f3, f4⟩ := (hblk.below hbu hblk.lt).five
             have hownu := own_below hown hbu
             clear hg hown
             go_wp2
             refine bodyPost_ret (v := .tuple #[.agg #[.int .i64 R.step, .slice Bv p kb, .int .i64 R.rate, .int .u64 R.root, .int .u64 R.chain], .int .i64 ((i + 1 : Nat) : Int), .int .i64 0]) (by simp [results, Tryz.results57, go_sem, t0, t1, t2, t3, t4]) rfl ?_
             unfold ParsePost
             rw [F.out]
             refine ⟨Bv, kb, ?_, ?_, below_five hwu (Nat.le_refl _)⟩
             ·show _ = Ending.returned (.tuple #[.agg #[.int .i64 R.step, .slice Bv R.batch.length kb, .int .i64 R.rate, .int .u64 R.root, .int .u64 R.chain], .int .i64 ((i + 1 : Nat) : Int), .int .i64 0])
              rw [HBL.out]
             ·show World.ownsRow _ _ _ _ (.slice Bv R.batch.length kb) R.batch.length (R.batch.map (.int .i64))
              rw [HBL.out]
              exact own_base (own_five hownu (by omega)) (by omega)
end Go.Proofs.YtgodgedhddngeaaGreatDoor
