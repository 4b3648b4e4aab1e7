/- What package pupil's Forward, Loss, Grad answer, right or wrong, as total functions: joined. -/
import Derived.Test.YtgodgedhddngeaaGreatDoorPupC
import Derived.Test.YtgodgedhddngeaaGreatDoorDigN
set_option maxRecDepth 100000
set_option maxHeartbeats 16000000
namespace Go.Proofs.YtgodgedhddngeaaGreatDoor
open Go.RowKit Pl
section
variable {H : Type} {enc : TypeId × Value → H} {w : World} {base : Nat} {sp : Nat → Bool} {held : Bool}
end
theorem at0_drop (l : List Int) (i j : Nat) : at0 (l.drop i) j = at0 l (i + j) := by unfold at0; rw [List.getElem?_drop]
theorem at0_take' (l : List Int) (i j : Nat) : at0 (l.take i) j = if j < i then at0 l j else 0 := by
 unfold at0; rw [List.getElem?_take]; split <;> rfl
theorem U64.take {l : List Int} (h : U64 l) (i : Nat) : U64 (l.take i) := fun k => by
 rw [at0_take']
 split
 ·exact h k
 ·omega
theorem U64.drop {l : List Int} (h : U64 l) (i : Nat) : U64 (l.drop i) := fun k => by rw [at0_drop]; exact h _
theorem pairI_bd (a b : Int) : 0 ≤ pairI a b ∧ pairI a b < 2305843009213693951 := ⟨ofI_lo _ _, ofI_hi _ _⟩
def treeG : Nat → List Int → Int
 | 0, _ => 0
 | f + 1, l => if l.length ≤ 1 then at0 l 0 else pairI (treeG f (l.take (half l.length))) (treeG f (l.drop (half l.length)))
def treeI (l : List Int) : Int := treeG l.length l
theorem treeG_more (f : Nat) : ∀ (l : List Int), l.length ≤ f → 1 ≤ l.length → treeG f l = treeI l := by
 induction f using Nat.strongRecOn with
 | ind f ih =>
  intro l hl h1
  obtain ⟨g, rfl⟩ : ∃ g, f = g + 1 := ⟨f - 1, by omega⟩
  unfold treeI
  obtain ⟨n, hn⟩ : ∃ n, l.length = n + 1 := ⟨l.length - 1, by omega⟩
  rw [hn]
  simp only [treeG]
  split
  ·rfl
  ·rename_i hgt
   have a := half_lt (n := l.length) (by omega)
   have b := half_pos l.length
   have t1 : (l.take (half l.length)).length = half l.length := by rw [List.length_take]; omega
   have t2 : (l.drop (half l.length)).length = l.length - half l.length := List.length_drop
   rw [ih g (by omega) _ (by omega) (by omega), ih g (by omega) _ (by omega) (by omega)]
   by_cases hg : n < g + 1
   ·rw [ih n (by omega) _ (by omega) (by omega), ih n (by omega) _ (by omega) (by omega)]
   ·omega
theorem treeI_one {l : List Int} (h : l.length = 1) : treeI l = at0 l 0 := by
 unfold treeI; rw [h]; simp only [treeG]; rw [if_pos (by omega)]
theorem treeI_more {l : List Int} (h : 2 ≤ l.length) : treeI l = pairI (treeI (l.take (half l.length))) (treeI (l.drop (half l.length))) := by
 have a := half_lt h
 have b := half_pos l.length
 have t1 : (l.take (half l.length)).length = half l.length := by rw [List.length_take]; omega
 have t2 : (l.drop (half l.length)).length = l.length - half l.length := List.length_drop
 rw [← treeG_more l.length l (Nat.le_refl _) (by omega)]
 obtain ⟨n, hn⟩ : ∃ n, l.length = n + 1 := ⟨l.length - 1, by omega⟩
 conv => lhs; rw [hn]
 simp only [treeG]
 rw [if_neg (by omega), treeG_more n _ (by omega) (by omega), treeG_more n _ (by omega) (by omega)]
theorem treeI_u64 : ∀ {l : List Int}, U64 l → 1 ≤ l.length → 0 ≤ treeI l ∧ treeI l < 18446744073709551616 := by
 intro l h h1
 rcases Nat.lt_or_ge l.length 2 with h2 | h2
 ·rw [treeI_one (by omega)]; exact h 0
 ·rw [treeI_more h2]
  have := pairI_bd (treeI (l.take (half l.length))) (treeI (l.drop (half l.length)))
  omega
def leafI (xs : List Int) (j : Nat) : Int := ofI 4 (numL ((xs.drop (4 * j)).take 4))
def leavesI (xs : List Int) : List Int := upto (leafI xs) ((xs.length + 3) / 4)
theorem leavesI_length (xs : List Int) : (leavesI xs).length = (xs.length + 3) / 4 := upto_length _ _
theorem leavesI_u64 (xs : List Int) : U64 (leavesI xs) := fun k => by
 unfold leavesI
 rcases Nat.lt_or_ge k ((xs.length + 3) / 4) with h | h
 ·rw [at0_upto _ h]
  have h1 := ofI_lo 4 (numL ((xs.drop (4 * k)).take 4))
  have h2 := ofI_hi 4 (numL ((xs.drop (4 * k)).take 4))
  unfold leafI; omega
 ·unfold at0
  rw [List.getElem?_eq_none (by rw [upto_length]; exact h)]
  exact ⟨Int.le_refl _, by show (0 : Int) < _; omega⟩
def rootI (xs : List Int) : Int := pairI xs.length (treeI (leavesI xs))
def lvE (n : Nat) : Int := if n = 0 then 1 else if 200 < n then 2 else 0
def lvO (xs : List Int) : List Int := if lvE xs.length = 0 then leavesI xs else []
def rootO (xs : List Int) : Int := if lvE xs.length = 0 then rootI xs else 0
theorem lvE_ok {n : Nat} (h : lvE n = 0) : 1 ≤ n ∧ n ≤ 200 := by
 unfold lvE at h
 split at h
 ·omega
 ·split at h <;> omega
end Go.Proofs.YtgodgedhddngeaaGreatDoor
namespace Go.Proofs.YtgodgedhddngeaaGreatDoor
open Go.RowKit Go.Shelf Pl
attribute [local go_sem] Oper.semAt_some
theorem below_keeps {B : Nat} {W W' : World} (h : Below W.heap.size W W') : KeepsFrom B W W' :=
 ⟨h.size, fun k _ _ hk _ => (h.block k (Array.getElem?_eq_some_iff.1 hk).1).trans hk⟩
theorem piece_take {xs : List Int} {n a : Nat} (hn : xs.length = n) : (xs.drop a).take (min 4 (n - a)) = (xs.drop a).take 4 := by
 rw [List.take_eq_take_iff, List.length_drop, hn]; omega
theorem cut_leaves {n : Nat} {l : List (Piece n 4)} (hcut : Cut n 4 l) (hle : n ≤ l.length * 4) (xs : List Int) (hx : xs.length = n) :
  (l.map fun x => ofI 4 (numL ((xs.drop x.1.1).take x.1.2))) = leavesI xs := by
 have h1 : l.length = (n + 3) / 4 := by
  rcases Nat.eq_zero_or_pos l.length with h | h
  ·omega
  ·obtain ⟨e, _⟩ := hcut (l.length - 1) (by omega)
   have := l[l.length - 1].2
   omega
 apply List.ext_getElem
 ·rw [List.length_map, leavesI_length, hx]; exact h1
 ·intro i hi hi'
  rw [List.length_map] at hi
  obtain ⟨e1, e2⟩ := hcut i hi
  rw [List.getElem_map, e1, e2, piece_take hx]
  simp [leavesI, upto, leafI, Nat.mul_comm]
theorem tree_Leaves_ok (A : Option Addr) (n cap : Nat) (xs : List Int) (w : World) (hx : Ints .i64 w A n xs) (hn1 : 1 ≤ n) (hn2 : n ≤ 200) (hcap : n ≤ cap) :
  Calls Tryz.prog 161 #[.slice A n cap] w (OwnU w (leavesI xs) 0) := by
 obtain ⟨i0, hi0, hz0, hz1, hz2⟩ := info_parts u64_info
 obtain ⟨b, off, rfl, hbl, hcx⟩ := hx.cells hn1
 clear hcx
 refine (callsIn_wide (n := 5)).1 ?_
 refine callsIn_of_wp_marks Tryz.func161 rfl trivial ?_ rfl
 simp only [Tryz.ntmps161, List.size_toArray, List.length_cons, List.length_nil, Nat.reduceAdd, Nat.reduceSub, Array.replicate_succ, Array.replicate_zero, List.push_toArray, List.append_toArray, List.nil_append, List.cons_append]
 gi_wp2_with fail
 refine ⟨trivial, (callsIn_wide.2 (chunk_made _ n cap 4 (by omega) _)).mono ?_⟩
 rintro e w3 ⟨rfl, rfl⟩
 gi_wp2_with fail
 have bO := Boxed.new w 146 (.slice none 0 0)
 have hB4 : Below w.heap.size w (((w.alloc (.cells #[.slice none 0 0] 146)).alloc (.cells #[.slice (some ⟨b, off, none⟩) n cap] 56)).alloc (.cells #[.int .i64 4] 3)) := ((((Below.refl w.heap.size w).alloc (Nat.le_refl _) _).alloc (by simp) _).alloc (by simp; omega) _)
 have g1 : (((w.alloc (.cells #[.slice none 0 0] 146)).alloc (.cells #[.slice (some ⟨b, off, none⟩) n cap] 56)).alloc (.cells #[.int .i64 4] 3)).cell? ⟨w.heap.size + 1, 0, none⟩ = some (.slice (some ⟨b, off, none⟩) n cap) := ((Blk.made' _ _ _ (by simp)).alloc _).cell 0
 have g2 : (((w.alloc (.cells #[.slice none 0 0] 146)).alloc (.cells #[.slice (some ⟨b, off, none⟩) n cap] 56)).alloc (.cells #[.int .i64 4] 3)).cell? ⟨w.heap.size + 2, 0, none⟩ = some (.int .i64 4) := (Blk.made' _ _ _ (by simp)).cell 0
 have hW4 : (((w.alloc (.cells #[.slice none 0 0] 146)).alloc (.cells #[.slice (some ⟨b, off, none⟩) n cap] 56)).alloc (.cells #[.int .i64 4] 3)).heap.size = w.heap.size + 3 := by simp
 have HW4 := Lib.hid hW4
 clear hW4
 refine wpIn_rangeFunc_ownG rfl (by omega) (gf := 204) (lb := #[.pointer (some ⟨w.heap.size + 1, 0, none⟩), .pointer (some ⟨w.heap.size + 2, 0, none⟩)]) rfl trivial (enters_of Tryz.func204 (by kernel_rfl) rfl)
  (chunk_stops 4 (by omega) (w.heap.size + 1) (w.heap.size + 2) b off n cap 4 (by omega) (by omega) (by omega) hcap _ (by simp) (by simp) g1 g2) KC.trans (fun W l o o' hl _ _ _ => KC.put W l o' (by simp at hl; omega) (by simp at hl; omega)) (Below.refl _ _) (fun _ => rfl)
  (fun pre W => (∃ v, Boxed W w.heap.size 146 v ∧ W.ownsRow (w.heap.size + 3) 27 1 v pre.length ((pre.map fun x : Piece n 4 => ofI 4 (numL ((xs.drop x.1.1).take x.1.2))).map (Value.int .u64))) ∧ Below w.heap.size w W ∧ w.heap.size + 3 ≤ W.heap.size)
  (fun _ _ _ => False) ?hI (fun _ _ _ _ _ hs _ _ => hs) ?h0 ?a1 ?assign ?body ?done ?stop
 case assign =>
  intro l x W K hK
  gi_wp2
  exact hK
 case hI =>
  rintro pre X Y row ⟨⟨v, hbx, hr⟩, hB, hsz⟩ hg hrow
  rw [HW4.out] at hrow
  refine ⟨⟨v, hbx.kept hg (fun e => ?_), hr.kept hg ?_⟩, hB.grown hg (by omega) (fun k e => by have := (hrow k e).1; omega), Nat.le_trans hsz hg.size⟩
  ·have := (hrow _ e.symm).1; omega
  ·rcases hr.2 with ⟨rfl, _⟩ | ⟨g', cp, cur, rfl, _, hcc, _⟩
   ·exact .inl rfl
   ·refine .inr fun e => ?_
    obtain ⟨_, o, ho, hf⟩ := hrow g' e.symm
    rw [hcc] at ho; cases ho; cases hf
 case h0 => exact ⟨⟨.slice none 0 0, (bO.alloc _).alloc _, World.ownsRow_nil _ _ _ _⟩, hB4, by simp⟩
 case body =>
  rintro l pre x W ⟨⟨v, hv, hrow⟩, hB, hsz⟩ hlt
  obtain ⟨⟨px, pm⟩, hp1, hp2, hp3⟩ := x
  dsimp only at hp1 hp2 hp3
  have hrow' : Ints .i64 W (some ⟨b, off + px, none⟩) pm ((xs.drop px).take pm) := (hx.below hB).cut (i := px) (m := pm) hp1 (fun _ b' o' e => by injection e with e; injection e with e1 e2; subst e1; subst e2; rfl)
  have HD := Lib.hid (dig_Numbers_ok _ pm pm _ W hrow' (by omega))
  have hl := hrow'.len
  clear hrow'
  obtain ⟨q, hq⟩ : ∃ q, q = numL ((xs.drop px).take pm) := ⟨_, rfl⟩
  have hqu : U64 q := by rw [hq]; exact numL_u64 _
  have hql : q.length = pm := by rw [hq, numL_length, hl]
  rw [← hq] at HD
  have HQ := Lib.hid hq
  have HQL := Lib.hid hql
  clear hq hl hql
  gi_wp2_with fail
  dsimp only [pieceV]
  refine ⟨trivial, CallsIn.inRound l ((callsIn_wide.2 HD.out).mono ?_)⟩
  rintro e w1 ⟨S, sc, rfl, hown, hb1⟩
  have hI := Ints.of_own hown rfl
  rw [HQL.out] at hI
  have HO := Lib.hid (dig_Of 4 S pm sc q w1 (by omega) (by omega) hI hqu)
  rw [show ofO 4 q = ofI 4 q from if_neg (by rw [HQL.out]; omega), show ofE q = 0 from if_neg (by rw [HQL.out]; omega)] at HO
  rw [HQL.out]
  clear hown hI hqu
  gi_wp2_with fail
  refine ⟨trivial, CallsIn.inRound l ((callsIn_wide.2 HO.out).mono ?_)⟩
  rintro e w2 ⟨rfl, hb2⟩
  have hbb := bel_trans hb1 hb2
  have hv2 : Boxed w2 w.heap.size 146 v := (hbb.block _ hv.lt).trans hv
  have hrow2 := own_below hrow hbb
  have hsz2 : w.heap.size + 3 ≤ w2.heap.size := Nat.le_trans hsz hbb.size
  have hc2 := hv2.cell
  clear hbl
  gi_wp2_with (gi_at_builtin; refine wpListIn_append_own _ rfl _ _ 146 rfl (w.heap.size + 3) 27 i0 (.int .u64 0) 1 8 Tryz.underlying146 hi0 hz0 hz1 hz2 rfl (by decide) v pre.length _ rfl (hrow2.alloc _) ⟨w2.heap.size, 0, none⟩ 1 1 [.int .u64 (ofI 4 q)] rfl rfl (cell_one_new _ _ _) (by simp [Value.oneCell']) (by unfold maxLen; omega) (by omega) (by simp; omega) ?_; intro v1 w4 hown1 hgrow _; obtain ⟨gg, cp, rfl, _, _⟩ := hown1.form (by omega); obtain ⟨hv3, hv4, hr4, hk4, hb4, hg4⟩ := boxed_push (n₀ := w.heap.size) (j := 0) hv2 (by omega) hrow2 hsz2 (by omega) hown1 hgrow; have hc3 := hv3.cell; have hf3 := hv3.frozen)
  refine ⟨(below_keeps hbb).trans (hk4 _), ⟨?_, ?_⟩, ⟨_, hv4, ?_⟩, (hB.trans (hbb.mono hB.size)).trans hb4, Nat.le_trans hsz2 (hk4 0).size⟩
  ·exact (World.cell?_of_block (hg4 (w.heap.size + 1) (by omega) (by omega))).trans (hbb.cell (p := ⟨w.heap.size + 1, 0, none⟩) (show w.heap.size + 1 < W.heap.size by omega))
  ·exact (World.cell?_of_block (hg4 (w.heap.size + 2) (by omega) (by omega))).trans (hbb.cell (p := ⟨w.heap.size + 2, 0, none⟩) (show w.heap.size + 2 < W.heap.size by omega))
  ·rw [List.length_append, List.length_singleton, List.map_append, List.map_append]
   rw [HQ.out] at hr4
   exact hr4
 case done =>
  rintro D zs W hD ⟨hcut, hle⟩ ⟨⟨v, hv, hrow⟩, hB, hsz⟩ hK
  have hc1 := hv.cell
  have hL := cut_leaves hcut hle xs hx.len
  have hlen : zs.length = (leavesI xs).length := by rw [← List.length_map (f := fun x : Piece n 4 => ofI 4 (numL ((xs.drop x.1.1).take x.1.2))), hL]
  rw [hL, hlen] at hrow
  rw [HW4.out] at hD
  clear hcut hle hL hlen
  gi_wp2
  refine ⟨by simp, .inl ⟨_, _, rfl, run_takeDeferred hK, ?_⟩⟩
  exact ⟨_, results_tmp2 rfl _ _ _, ownU_res rfl (own_base (ownsRow_putObj hrow _ hK rfl) (by omega)) (hB.trans (belowK_b (w := w) (Nat.le_refl _) W D _ _ (by omega) hK rfl rfl))⟩
 case stop =>
  rintro D c pre W _ _ h _
  exact h.elim
theorem tree_Leaves_no (A : Option Addr) (n cap : Nat) (w : World) (h : lvE n ≠ 0) (hm : n ≤ 9223372036854775807) :
  Calls Tryz.prog 161 #[.slice A n cap] w fun e w' => e = .returned (.tuple #[.slice none 0 0, .int .i64 (lvE n)]) ∧ w = w' := by
 unfold lvE at h ⊢
 by_cases h0 : n = 0
 ·subst h0
  go_enter Tryz.func161, Tryz.ntmps161
  go_wp2
  go_ret2
  exact ⟨rfl, rfl⟩
 ·have h2 : 200 < n := by
   rw [if_neg h0] at h
   by_cases h3 : 200 < n
   ·exact h3
   ·rw [if_neg h3] at h; omega
  rw [if_neg h0, if_pos h2]
  clear h
  have t0 : ((n : Int) == 0) = false := by rw [beq_eq_false_iff_ne]; omega
  go_enter Tryz.func161, Tryz.ntmps161
  go_wp2
  go_ret2
  exact ⟨rfl, rfl⟩
theorem tree_Leaves_any (A : Option Addr) (n cap : Nat) (xs : List Int) (w : World) (hx : Ints .i64 w A n xs) (hcap : n ≤ cap) (hm : n ≤ 9223372036854775807) :
  Calls Tryz.prog 161 #[.slice A n cap] w (OwnU w (lvO xs) (lvE n)) := by
 by_cases h : lvE n = 0
 ·obtain ⟨h1, h2⟩ := lvE_ok h
  rw [h, show lvO xs = leavesI xs from if_pos (by rw [hx.len]; exact h)]
  exact tree_Leaves_ok A n cap xs w hx h1 h2 hcap
 ·rw [show lvO xs = [] from if_neg (by rw [hx.len]; exact h)]
  refine (tree_Leaves_no A n cap w h hm).mono ?_
  rintro e w' ⟨rfl, rfl⟩
  exact ⟨none, 0, rfl, World.ownsRow_nil _ _ _ _, Below.refl _ _⟩
end Go.Proofs.YtgodgedhddngeaaGreatDoor
