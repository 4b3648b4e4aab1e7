/- A step as the document's own text says it: a walk. -/
import Derived.Test.YtgodgedhddngeaaGreatDoorOptC
set_option maxRecDepth 100000
set_option maxHeartbeats 16000000
namespace Go.Proofs.YtgodgedhddngeaaGreatDoor
open Go.RowKit Pl
def SteR (w : World) (N k : Nat) (fW fM : Nat → Int) (wr : World) : Prop :=
 ∃ v1 v2, Below w.heap.size w wr ∧ Blk wr (w.heap.size + 1 + 1 + 1) 106 #[v1, v2] ∧ wr.ownsRow (w.heap.size + 1 + 1 + 1 + 1) 3 1 v1 k ((upto fW k).map (.int .i64)) ∧
  wr.ownsRow (w.heap.size + 1 + 1 + 1 + 1) 3 1 v2 k ((upto fM k).map (.int .i64)) ∧ (∀ b, v1.ownBlock = some b → v2.ownBlock ≠ some b) ∧ k ≤ N
theorem own_slice' {w : World} {base : Nat} {e : TypeId} {v : Value} {n : Nat} {xs : List Value} (h : w.ownsRow base e 1 v n xs) : ∃ A c, v = .slice A n c := by
 rcases h.2 with ⟨rfl, rfl⟩ | ⟨g, cap, cur, rfl, _⟩
 ·exact ⟨none, 0, rfl⟩
 ·exact ⟨_, cap, rfl⟩
theorem movesL_upto {hw ke : Int} {mv g : List Int} (hl : mv.length = g.length) : movesL hw ke mv g = upto (fun j => if hw = 1 then moveP hw ke (at0 mv j) (at0 g j) else at0 mv j) g.length := by
 unfold movesL
 split
 ·rfl
 ·rw [← hl]; exact (upto_at0 mv).symm
theorem ref_Stepped (ci ch co se ba st ra de hw ke cl : Int) (A1 A2 A3 : Option Addr) (N c1 c2 c3 : Nat) (wt mv g : List Int) (rate : Int) (w : World) (i1 : Ints .i64 w A1 N wt) (i2 : Ints .i64 w A2 N mv) (i3 : Ints .i64 w A3 N g) (hN40 : N ≤ 40) :
  Calls Tryz.prog 153 #[.agg #[.int .i64 ci, .int .i64 ch, .int .i64 co, .int .u64 se, .int .i64 ba, .int .i64 st, .int .i64 ra, .int .i64 de, .int .i64 hw, .int .i64 ke, .int .i64 cl], .agg #[.slice A1 N c1, .slice A2 N c2], .slice A3 N c3, .int .i64 rate] w fun e w' => ∃ B1 k1 B2 k2, e = .returned (.agg #[.slice B1 N k1, .slice B2 N k2]) ∧
   w'.ownsRow w.heap.size 3 1 (.slice B1 N k1) N ((weightsL hw ke rate wt mv g).map (.int .i64)) ∧ w'.ownsRow w.heap.size 3 1 (.slice B2 N k2) N ((movesL hw ke mv g).map (.int .i64)) ∧ Below w.heap.size w w' := by
 obtain ⟨i0, hi0, hz0, hz1, hz2⟩ := info_parts int_info
 have HF1 := Lib.hid (show weightsL hw ke rate wt mv g = upto (fun j => subF (at0 wt j) (mulF rate (moveP hw ke (at0 mv j) (at0 g j)))) N by unfold weightsL; rw [i3.len])
 have HF2 := Lib.hid (show movesL hw ke mv g = upto (fun j => if hw = 1 then moveP hw ke (at0 mv j) (at0 g j) else at0 mv j) N by rw [movesL_upto (i2.len.trans i3.len.symm), i3.len])
 have HB0 := (((Blk.made w 29 #[.int .i64 ci, .int .i64 ch, .int .i64 co, .int .u64 se, .int .i64 ba, .int .i64 st, .int .i64 ra, .int .i64 de, .int .i64 hw, .int .i64 ke, .int .i64 cl]).alloc (.cells #[.slice A1 N c1, .slice A2 N c2] 106)).alloc (.cells #[.slice none 0 0, .slice none 0 0] 106)).alloc (.cells #[.slice none 0 0, .slice none 0 0] 106)
 have HB1 := ((Blk.made' (w.alloc (.cells #[.int .i64 ci, .int .i64 ch, .int .i64 co, .int .u64 se, .int .i64 ba, .int .i64 st, .int .i64 ra, .int .i64 de, .int .i64 hw, .int .i64 ke, .int .i64 cl] 29)) 106 #[.slice A1 N c1, .slice A2 N c2] (g := w.heap.size + 1) (by simp)).alloc (.cells #[.slice none 0 0, .slice none 0 0] 106)).alloc (.cells #[.slice none 0 0, .slice none 0 0] 106)
 have HB2 := (Blk.made' ((w.alloc (.cells #[.int .i64 ci, .int .i64 ch, .int .i64 co, .int .u64 se, .int .i64 ba, .int .i64 st, .int .i64 ra, .int .i64 de, .int .i64 hw, .int .i64 ke, .int .i64 cl] 29)).alloc (.cells #[.slice A1 N c1, .slice A2 N c2] 106)) 106 #[.slice none 0 0, .slice none 0 0] (g := w.heap.size + 1 + 1) (by simp)).alloc (.cells #[.slice none 0 0, .slice none 0 0] 106)
 have HB3 := Blk.made' (((w.alloc (.cells #[.int .i64 ci, .int .i64 ch, .int .i64 co, .int .u64 se, .int .i64 ba, .int .i64 st, .int .i64 ra, .int .i64 de, .int .i64 hw, .int .i64 ke, .int .i64 cl] 29)).alloc (.cells #[.slice A1 N c1, .slice A2 N c2] 106)).alloc (.cells #[.slice none 0 0, .slice none 0 0] 106)) 106 #[.slice none 0 0, .slice none 0 0] (g := w.heap.size + 1 + 1 + 1) (by simp)
 go_enter Tryz.func153, Tryz.ntmps153
 go_wp2
 have hR0 : SteR w N 0 (fun j => subF (at0 wt j) (mulF rate (moveP hw ke (at0 mv j) (at0 g j)))) (fun j => if hw = 1 then moveP hw ke (at0 mv j) (at0 g j) else at0 mv j) ((((w.alloc (.cells #[.int .i64 ci, .int .i64 ch, .int .i64 co, .int .u64 se, .int .i64 ba, .int .i64 st, .int .i64 ra, .int .i64 de, .int .i64 hw, .int .i64 ke, .int .i64 cl] 29)).alloc (.cells #[.slice A1 N c1, .slice A2 N c2] 106)).alloc (.cells #[.slice none 0 0, .slice none 0 0] 106)).alloc (.cells #[.slice none 0 0, .slice none 0 0] 106)) :=
  ⟨_, _, (by repeat (first | exact Below.refl _ _ | assumption | refine bel_drewN ?_ _ | refine Below.drew ?_ | (refine Below.alloc ?_ (by simp <;> omega) _) | (refine Below.setCell ?_ (by simp <;> omega) _))), HB3, World.ownsRow_nil _ _ _ _, World.ownsRow_nil _ _ _ _, fun _ h => (by cases h), Nat.zero_le _⟩
 have hX0 : Below (w.heap.size + 1 + 1 + 1) ((((w.alloc (.cells #[.int .i64 ci, .int .i64 ch, .int .i64 co, .int .u64 se, .int .i64 ba, .int .i64 st, .int .i64 ra, .int .i64 de, .int .i64 hw, .int .i64 ke, .int .i64 cl] 29)).alloc (.cells #[.slice A1 N c1, .slice A2 N c2] 106)).alloc (.cells #[.slice none 0 0, .slice none 0 0] 106)).alloc (.cells #[.slice none 0 0, .slice none 0 0] 106)) ((((w.alloc (.cells #[.int .i64 ci, .int .i64 ch, .int .i64 co, .int .u64 se, .int .i64 ba, .int .i64 st, .int .i64 ra, .int .i64 de, .int .i64 hw, .int .i64 ke, .int .i64 cl] 29)).alloc (.cells #[.slice A1 N c1, .slice A2 N c2] 106)).alloc (.cells #[.slice none 0 0, .slice none 0 0] 106)).alloc (.cells #[.slice none 0 0, .slice none 0 0] 106)) := Below.refl _ _
 obtain ⟨x, hX⟩ : ∃ x, x = ((((w.alloc (.cells #[.int .i64 ci, .int .i64 ch, .int .i64 co, .int .u64 se, .int .i64 ba, .int .i64 st, .int .i64 ra, .int .i64 de, .int .i64 hw, .int .i64 ke, .int .i64 cl] 29)).alloc (.cells #[.slice A1 N c1, .slice A2 N c2] 106)).alloc (.cells #[.slice none 0 0, .slice none 0 0] 106)).alloc (.cells #[.slice none 0 0, .slice none 0 0] 106)) := ⟨_, rfl⟩
 rw [← hX] at HB0 HB1 HB2 HB3 hR0 hX0 ⊢
 clear hX HB3
 go_loopw [10, 11, 12] (fun i _ _ wr => ∃ k : Nat, i = .int .i64 k ∧ Below (w.heap.size + 1 + 1 + 1) x wr ∧ SteR w N k (fun j => subF (at0 wt j) (mulF rate (moveP hw ke (at0 mv j) (at0 g j)))) (fun j => if hw = 1 then moveP hw ke (at0 mv j) (at0 g j) else at0 mv j) wr) (fun i _ _ _ => N - (intOf i).toNat)
 case atStart => exact ⟨0, rfl, hX0, hR0⟩
 case round =>
  clear hR0 hX0
  obtain ⟨k, rfl, hbx, v1, v2, hb, hBx, hW, hM, hne, hk⟩ := hrel
  have e0 := HB0.below hbx (by omega)
  have e1 := HB1.below hbx (by omega)
  have e2 := HB2.below hbx (by omega)
  by_cases hlt : k < N
  ·obtain ⟨b3, f3, rfl, hl3, hc3⟩ := (i3.below hb).cells (by omega)
   have u3 := hc3 k hlt
   obtain ⟨b2, f2, rfl, hl2, hc2⟩ := (i2.below hb).cells (by omega)
   have u2 := hc2 k hlt
   obtain ⟨b1, f1, rfl, hl1, hc1⟩ := (i1.below hb).cells (by omega)
   have u1 := hc1 k hlt
   have q0 : wr.cell? ⟨w.heap.size + 1, 0, none⟩ = some (.slice (some ⟨b1, f1, none⟩) N c1) := e1.cell 0
   have q1 : wr.cell? ⟨w.heap.size + 1, 1, none⟩ = some (.slice (some ⟨b2, f2, none⟩) N c2) := e1.cell 1
   have d9 : wr.cell? ⟨w.heap.size, 9, none⟩ = some (.int .i64 ke) := e0.cell 9
   have d8 : wr.cell? ⟨w.heap.size, 8, none⟩ = some (.int .i64 hw) := e0.cell 8
   have kk0 : (0 : Int) ≤ (k : Int) := by omega
   have kk1 : (k : Int) < (N : Int) := by omega
   obtain ⟨v, hv⟩ : ∃ v, v = moveP hw ke (at0 mv k) (at0 g k) := ⟨_, rfl⟩
   have G1 := Lib.hid (show upto (fun j => subF (at0 wt j) (mulF rate (moveP hw ke (at0 mv j) (at0 g j)))) (k + 1) = upto (fun j => subF (at0 wt j) (mulF rate (moveP hw ke (at0 mv j) (at0 g j)))) k ++ [subF (at0 wt k) (mulF rate v)] by rw [hv]; exact upto_succ _ _)
   have HM2 := Lib.hid (fun W => ref_Mul rate v W)
   have HS2 := Lib.hid (fun W => ref_Sub (at0 wt k) (mulF rate v) W)
   have HC := Lib.hid (fun W => ref_Clamp (at0 g k) W)
   have HBX := Lib.hid hbx
   have HB' := Lib.hid hb
   clear e0 e1 e2 hc1 hc2 hc3 hbx
   by_cases hh : hw = 1
   ·have hh1 : (hw == 1) = true := by rw [beq_iff_eq]; exact hh
    have hv' : v = addF (mulF ke (at0 mv k)) (at0 g k) := by rw [hv]; exact if_pos hh
    have HM := Lib.hid (fun W => ref_Mul ke (at0 mv k) W)
    have HA := Lib.hid (fun W => ref_Add (mulF ke (at0 mv k)) (at0 g k) W)
    rw [← hv'] at HA
    have G2 := Lib.hid (show upto (fun j => if hw = 1 then moveP hw ke (at0 mv j) (at0 g j) else at0 mv j) (k + 1) = upto (fun j => if hw = 1 then moveP hw ke (at0 mv j) (at0 g j) else at0 mv j) k ++ [v] by rw [upto_succ, if_pos hh, hv])
    clear hh hv hv'
    go_wp2
    go_quiet ((go_at_call 142; exact Calls.quiet_of ((HC.out _).mono fun _ _ ⟨he, hw⟩ => ⟨he, 0, hw.symm⟩)))
    obtain ⟨z, hz⟩ : ∃ z, z = wr.drewN nq := ⟨_, rfl⟩
    rw [← hz]
    replace u1 : z.cell? ⟨b1, f1 + k, none⟩ = some (.int .i64 (at0 wt k)) := by rw [hz]; exact u1
    replace u3 : z.cell? ⟨b3, f3 + k, none⟩ = some (.int .i64 (at0 g k)) := by rw [hz]; exact u3
    replace q0 : z.cell? ⟨w.heap.size + 1, 0, none⟩ = some (.slice (some ⟨b1, f1, none⟩) N c1) := by rw [hz]; exact q0
    replace d9 : z.cell? ⟨w.heap.size, 9, none⟩ = some (.int .i64 ke) := by rw [hz]; exact d9
    replace d8 : z.cell? ⟨w.heap.size, 8, none⟩ = some (.int .i64 hw) := by rw [hz]; exact d8
    replace hBx : Blk z (w.heap.size + 1 + 1 + 1) 106 #[v1, v2] := by rw [hz]; exact hBx.drewN _
    replace hW := own_drewN hW nq
    rw [← hz] at hW
    replace hM := own_drewN hM nq
    rw [← hz] at hM
    replace hb : Below w.heap.size w z := by rw [hz]; exact bel_drewN hb _
    have HBXz := Lib.hid (show Below (w.heap.size + 1 + 1 + 1) x z by rw [hz]; exact bel_drewN HBX.out _)
    clear hz
    go_wp2
    go_quiet ((first | (go_at_call 105; exact Calls.quiet_of (HM.out _)) | (go_at_call 104; exact Calls.quiet_of ((HA.out _).mono fun _ _ ⟨he, hw⟩ => ⟨he, 0, hw.symm⟩))))
    obtain ⟨y0, hy0⟩ : ∃ y0, y0 = z.drewN nq := ⟨_, rfl⟩
    rw [← hy0]
    replace u1 : y0.cell? ⟨b1, f1 + k, none⟩ = some (.int .i64 (at0 wt k)) := by rw [hy0]; exact u1
    replace u3 : y0.cell? ⟨b3, f3 + k, none⟩ = some (.int .i64 (at0 g k)) := by rw [hy0]; exact u3
    replace q0 : y0.cell? ⟨w.heap.size + 1, 0, none⟩ = some (.slice (some ⟨b1, f1, none⟩) N c1) := by rw [hy0]; exact q0
    replace d9 : y0.cell? ⟨w.heap.size, 9, none⟩ = some (.int .i64 ke) := by rw [hy0]; exact d9
    replace d8 : y0.cell? ⟨w.heap.size, 8, none⟩ = some (.int .i64 hw) := by rw [hy0]; exact d8
    replace hBx : Blk y0 (w.heap.size + 1 + 1 + 1) 106 #[v1, v2] := by rw [hy0]; exact hBx.drewN _
    replace hW := own_drewN hW nq
    rw [← hy0] at hW
    replace hM := own_drewN hM nq
    rw [← hy0] at hM
    replace hb : Below w.heap.size w y0 := by rw [hy0]; exact bel_drewN hb _
    have HBXy0 := Lib.hid (show Below (w.heap.size + 1 + 1 + 1) x y0 by rw [hy0]; exact bel_drewN HBXz.out _)
    clear hy0
    go_wp2
    have m0 : y0.cell? ⟨w.heap.size + 1 + 1 + 1, 0, none⟩ = some v1 := hBx.cell 0
    have m0' : ∀ q o, ((y0.drewN q).alloc o).cell? ⟨w.heap.size + 1 + 1 + 1, 0, none⟩ = some v1 := fun q o => ((hBx.drewN q).alloc o).cell 0
    have hlB := hBx.lt
    have nb1 : some (w.heap.size + 1 + 1 + 1) ≠ v1.ownBlock := fun h => by have := (hW.lt _ h.symm).1; omega
    have nb2 : some (w.heap.size + 1 + 1 + 1) ≠ v2.ownBlock := fun h => by have := (hM.lt _ h.symm).1; omega
    clear d8 d9 u3
    go_region_law (first
     | (go_simp; go_at_call 105; refine (HM2.out _).mono ?_; rintro e w' ⟨rfl, kk, rfl⟩)
     | (go_simp; go_at_call 103; refine (HS2.out _).mono ?_; rintro e w' ⟨rfl, rfl⟩)
     | (refine step_append_lies _ (by rfl) _ _ _ (by rfl) (w.heap.size + 1 + 1 + 1 + 1) 3 i0 _ 1 8 Tryz.underlying56 hi0 hz0 hz1 hz2 rfl (by omega) v1 k _ (by rfl) (by exact own_allocD hW (1 + kk) _) ⟨y0.heap.size, 0, none⟩ 1 1 [.int .i64 (subF (at0 wt k) (mulF rate v))] (by rfl) (by rfl) (World.news_of_block (cs := #[.int .i64 (subF (at0 wt k) (mulF rate v))]) (t := 3) (fr := (0, 0)) (heap_alloc_new _ _)) (by simp [Value.oneCell']) (by omega) (by unfold maxLen; omega) (by omega) (by simp; omega) (y0.heap.size + 1) (by simp) ?_; intro gg cp w3 hW3 hgrow hat hlt3; have hB3 : Blk w3 (w.heap.size + 1 + 1 + 1) 106 #[v1, v2] := hBx.grownD hgrow nb1; have hb3 := bel_grownD hb (by have := hb.size; omega) hgrow (fun x hx => (by have := (hW.lt x hx).1; omega)); have hX3 := bel_grownD HBXy0.out (by omega) hgrow (fun x hx => (by have := (hW.lt x hx).1; omega)); have hM3 := (own_allocD hM (1 + kk) (.cells #[.int .i64 (subF (at0 wt k) (mulF rate v))] 3)).kept hgrow (by cases h : v2.ownBlock with | none => exact .inl rfl | some q => exact .inr (fun e => hne q e.symm h)); have hgl := (hW3.lt gg rfl).1; have hne3 : v2.ownBlock ≠ some gg := (fun e => by rcases hat with h | h; exact hne gg h e; have := (hM.lt gg e).2; omega); have n0 : w3.cell? ⟨w.heap.size + 1 + 1 + 1, 0, none⟩ = some v1 := hB3.cell 0; have nz0 : w3.frozen? ⟨w.heap.size + 1 + 1 + 1, 0, none⟩ = false := hB3.frozen 0; clear hgrow hat))
    all_goals
     obtain ⟨y, hy⟩ : ∃ y, y = w3.setCell ⟨w.heap.size + 1 + 1 + 1, 0, none⟩ (.slice (some ⟨gg, 0, none⟩) (k + 1) cp) := ⟨_, rfl⟩
     have hBy : Blk y (w.heap.size + 1 + 1 + 1) 106 #[.slice (some ⟨gg, 0, none⟩) (k + 1) cp, v2] := by rw [hy]; exact hB3.put 0 _
     have hWy := own_far hW3 (p := ⟨w.heap.size + 1 + 1 + 1, 0, none⟩) (by simp) (.slice (some ⟨gg, 0, none⟩) (k + 1) cp)
     have hMy := own_far hM3 (p := ⟨w.heap.size + 1 + 1 + 1, 0, none⟩) (by simp) (.slice (some ⟨gg, 0, none⟩) (k + 1) cp)
     have hby : Below w.heap.size w y := by rw [hy]; exact hb3.setCell (by simp <;> omega) _
     have hXy : Below (w.heap.size + 1 + 1 + 1) x y := by rw [hy]; exact hX3.setCell (by simp) _
     rw [← hy] at hWy hMy ⊢
     have p1 : y.cell? ⟨w.heap.size + 1 + 1 + 1, 1, none⟩ = some v2 := hBy.cell 1
     have hsy := hby.size
     have hly := hBy.lt
     clear hy hW3 hM3 hb3 hX3 hB3 n0 nz0 m0 m0'
     go_wp2_with (at_builtin; refine wpList_append_lies _ rfl _ _ 56 rfl (w.heap.size + 1 + 1 + 1 + 1) 3 i0 (.int .i64 0) 1 8 Tryz.underlying56 hi0 hz0 hz1 hz2 rfl (by decide) v2 k _ rfl (hMy.alloc _) ⟨y.heap.size, 0, none⟩ 1 1 [.int .i64 v] rfl rfl (cell_one_new _ _ _) (by simp [Value.oneCell']) (by decide) (by unfold maxLen; omega) (by omega) (by simp; omega) (y.heap.size + 1) (by simp) ?_; intro g5 c5 w5 hM5 hgrow hat hlt5; have hB5 : Blk w5 (w.heap.size + 1 + 1 + 1) 106 #[.slice (some ⟨gg, 0, none⟩) (k + 1) cp, v2] := (hBy.alloc _).grown hgrow nb2; have r1 : w5.cell? ⟨w.heap.size + 1 + 1 + 1, 1, none⟩ = some v2 := hB5.cell 1; have rz : w5.frozen? ⟨w.heap.size + 1 + 1 + 1, 1, none⟩ = false := hB5.frozen 1)
     have hW5 := (hWy.alloc (.cells #[.int .i64 v] 3)).kept hgrow (.inr (fun e => hne3 e.symm))
     have hb5 : Below w.heap.size w w5 := Below.grown (hby.alloc hsy _) hgrow (by simp; omega) (fun x hx => by have := (hMy.lt x hx).1; omega)
     have hX5 : Below (w.heap.size + 1 + 1 + 1) x w5 := Below.grown (hXy.alloc (by omega) _) hgrow (by simp; omega) (fun x hx => by have := (hMy.lt x hx).1; omega)
     have hne5 : ∀ b, (Value.slice (some ⟨gg, 0, none⟩) (k + 1) cp).ownBlock = some b → (Value.slice (some ⟨g5, 0, none⟩) (k + 1) c5).ownBlock ≠ some b := by
      intro b hb1 hb2
      have e1 : gg = b := by injection hb1
      have e2 : g5 = b := by injection hb2
      rcases hat with h | h
      ·exact hne3 (by rw [h, e1, e2])
      ·have := (hWy.lt gg rfl).2; omega
     have hWf := own_far hW5 (p := ⟨w.heap.size + 1 + 1 + 1, 1, none⟩) (by simp) (.slice (some ⟨g5, 0, none⟩) (k + 1) c5)
     have hMf := own_far hM5 (p := ⟨w.heap.size + 1 + 1 + 1, 1, none⟩) (by simp) (.slice (some ⟨g5, 0, none⟩) (k + 1) c5)
     rw [← List.map_singleton, ← List.map_append, ← G1.out] at hWf
     rw [← List.map_singleton, ← List.map_append, ← G2.out] at hMf
     have hBf := hB5.put 1 (.slice (some ⟨g5, 0, none⟩) (k + 1) c5)
     clear hgrow hat
     go_roundw
     case rel => exact ⟨k + 1, by go_num, hX5.setCell (by simp) _, _, _, hb5.setCell (by simp <;> omega) _, hBf, hWf, hMf, hne5, by omega⟩
     case measure => simp [intOf]; omega
   ·have hh1 : (hw == 1) = false := beq_eq_false_iff_ne.2 hh
    have hv' : v = clamp (at0 g k) := by rw [hv]; exact if_neg hh
    rw [← hv'] at HC
    have G2 := Lib.hid (show upto (fun j => if hw = 1 then moveP hw ke (at0 mv j) (at0 g j) else at0 mv j) (k + 1) = upto (fun j => if hw = 1 then moveP hw ke (at0 mv j) (at0 g j) else at0 mv j) k ++ [at0 mv k] by rw [upto_succ, if_neg hh])
    clear hh hv hv'
    go_wp2
    go_quiet ((go_at_call 142; exact Calls.quiet_of ((HC.out _).mono fun _ _ ⟨he, hw⟩ => ⟨he, 0, hw.symm⟩)))
    obtain ⟨z, hz⟩ : ∃ z, z = wr.drewN nq := ⟨_, rfl⟩
    rw [← hz]
    replace u1 : z.cell? ⟨b1, f1 + k, none⟩ = some (.int .i64 (at0 wt k)) := by rw [hz]; exact u1
    replace u3 : z.cell? ⟨b3, f3 + k, none⟩ = some (.int .i64 (at0 g k)) := by rw [hz]; exact u3
    replace q0 : z.cell? ⟨w.heap.size + 1, 0, none⟩ = some (.slice (some ⟨b1, f1, none⟩) N c1) := by rw [hz]; exact q0
    replace d9 : z.cell? ⟨w.heap.size, 9, none⟩ = some (.int .i64 ke) := by rw [hz]; exact d9
    replace d8 : z.cell? ⟨w.heap.size, 8, none⟩ = some (.int .i64 hw) := by rw [hz]; exact d8
    replace hBx : Blk z (w.heap.size + 1 + 1 + 1) 106 #[v1, v2] := by rw [hz]; exact hBx.drewN _
    replace hW := own_drewN hW nq
    rw [← hz] at hW
    replace hM := own_drewN hM nq
    rw [← hz] at hM
    replace hb : Below w.heap.size w z := by rw [hz]; exact bel_drewN hb _
    have HBXz := Lib.hid (show Below (w.heap.size + 1 + 1 + 1) x z by rw [hz]; exact bel_drewN HBX.out _)
    clear hz
    go_wp2
    have m0 : z.cell? ⟨w.heap.size + 1 + 1 + 1, 0, none⟩ = some v1 := hBx.cell 0
    have m0' : ∀ q o, ((z.drewN q).alloc o).cell? ⟨w.heap.size + 1 + 1 + 1, 0, none⟩ = some v1 := fun q o => ((hBx.drewN q).alloc o).cell 0
    have hlB := hBx.lt
    have nb1 : some (w.heap.size + 1 + 1 + 1) ≠ v1.ownBlock := fun h => by have := (hW.lt _ h.symm).1; omega
    have nb2 : some (w.heap.size + 1 + 1 + 1) ≠ v2.ownBlock := fun h => by have := (hM.lt _ h.symm).1; omega
    clear d8 d9 u3
    go_region_law (first
     | (go_simp; go_at_call 105; refine (HM2.out _).mono ?_; rintro e w' ⟨rfl, kk, rfl⟩)
     | (go_simp; go_at_call 103; refine (HS2.out _).mono ?_; rintro e w' ⟨rfl, rfl⟩)
     | (refine step_append_lies _ (by rfl) _ _ _ (by rfl) (w.heap.size + 1 + 1 + 1 + 1) 3 i0 _ 1 8 Tryz.underlying56 hi0 hz0 hz1 hz2 rfl (by omega) v1 k _ (by rfl) (by exact own_allocD hW (1 + kk) _) ⟨z.heap.size, 0, none⟩ 1 1 [.int .i64 (subF (at0 wt k) (mulF rate v))] (by rfl) (by rfl) (World.news_of_block (cs := #[.int .i64 (subF (at0 wt k) (mulF rate v))]) (t := 3) (fr := (0, 0)) (heap_alloc_new _ _)) (by simp [Value.oneCell']) (by omega) (by unfold maxLen; omega) (by omega) (by simp; omega) (z.heap.size + 1) (by simp) ?_; intro gg cp w3 hW3 hgrow hat hlt3; have hB3 : Blk w3 (w.heap.size + 1 + 1 + 1) 106 #[v1, v2] := hBx.grownD hgrow nb1; have hb3 := bel_grownD hb (by have := hb.size; omega) hgrow (fun x hx => (by have := (hW.lt x hx).1; omega)); have hX3 := bel_grownD HBXz.out (by omega) hgrow (fun x hx => (by have := (hW.lt x hx).1; omega)); have hM3 := (own_allocD hM (1 + kk) (.cells #[.int .i64 (subF (at0 wt k) (mulF rate v))] 3)).kept hgrow (by cases h : v2.ownBlock with | none => exact .inl rfl | some q => exact .inr (fun e => hne q e.symm h)); have hgl := (hW3.lt gg rfl).1; have hne3 : v2.ownBlock ≠ some gg := (fun e => by rcases hat with h | h; exact hne gg h e; have := (hM.lt gg e).2; omega); have n0 : w3.cell? ⟨w.heap.size + 1 + 1 + 1, 0, none⟩ = some v1 := hB3.cell 0; have nz0 : w3.frozen? ⟨w.heap.size + 1 + 1 + 1, 0, none⟩ = false := hB3.frozen 0; clear hgrow hat))
    all_goals
     obtain ⟨y, hy⟩ : ∃ y, y = w3.setCell ⟨w.heap.size + 1 + 1 + 1, 0, none⟩ (.slice (some ⟨gg, 0, none⟩) (k + 1) cp) := ⟨_, rfl⟩
     have hBy : Blk y (w.heap.size + 1 + 1 + 1) 106 #[.slice (some ⟨gg, 0, none⟩) (k + 1) cp, v2] := by rw [hy]; exact hB3.put 0 _
     have hWy := own_far hW3 (p := ⟨w.heap.size + 1 + 1 + 1, 0, none⟩) (by simp) (.slice (some ⟨gg, 0, none⟩) (k + 1) cp)
     have hMy := own_far hM3 (p := ⟨w.heap.size + 1 + 1 + 1, 0, none⟩) (by simp) (.slice (some ⟨gg, 0, none⟩) (k + 1) cp)
     have hby : Below w.heap.size w y := by rw [hy]; exact hb3.setCell (by simp <;> omega) _
     have hXy : Below (w.heap.size + 1 + 1 + 1) x y := by rw [hy]; exact hX3.setCell (by simp) _
     rw [← hy] at hWy hMy ⊢
     have p1 : y.cell? ⟨w.heap.size + 1 + 1 + 1, 1, none⟩ = some v2 := hBy.cell 1
     have hsy := hby.size
     have hly := hBy.lt
     clear hy hW3 hM3 hb3 hX3 hB3 n0 nz0 m0 m0'
     go_wp2_with (at_builtin; refine wpList_append_lies _ rfl _ _ 56 rfl (w.heap.size + 1 + 1 + 1 + 1) 3 i0 (.int .i64 0) 1 8 Tryz.underlying56 hi0 hz0 hz1 hz2 rfl (by decide) v2 k _ rfl (hMy.alloc _) ⟨y.heap.size, 0, none⟩ 1 1 [.int .i64 (at0 mv k)] rfl rfl (cell_one_new _ _ _) (by simp [Value.oneCell']) (by decide) (by unfold maxLen; omega) (by omega) (by simp; omega) (y.heap.size + 1) (by simp) ?_; intro g5 c5 w5 hM5 hgrow hat hlt5; have hB5 : Blk w5 (w.heap.size + 1 + 1 + 1) 106 #[.slice (some ⟨gg, 0, none⟩) (k + 1) cp, v2] := (hBy.alloc _).grown hgrow nb2; have r1 : w5.cell? ⟨w.heap.size + 1 + 1 + 1, 1, none⟩ = some v2 := hB5.cell 1; have rz : w5.frozen? ⟨w.heap.size + 1 + 1 + 1, 1, none⟩ = false := hB5.frozen 1)
     have hW5 := (hWy.alloc (.cells #[.int .i64 (at0 mv k)] 3)).kept hgrow (.inr (fun e => hne3 e.symm))
     have hb5 : Below w.heap.size w w5 := Below.grown (hby.alloc hsy _) hgrow (by simp; omega) (fun x hx => by have := (hMy.lt x hx).1; omega)
     have hX5 : Below (w.heap.size + 1 + 1 + 1) x w5 := Below.grown (hXy.alloc (by omega) _) hgrow (by simp; omega) (fun x hx => by have := (hMy.lt x hx).1; omega)
     have hne5 : ∀ b, (Value.slice (some ⟨gg, 0, none⟩) (k + 1) cp).ownBlock = some b → (Value.slice (some ⟨g5, 0, none⟩) (k + 1) c5).ownBlock ≠ some b := by
      intro b hb1 hb2
      have e1 : gg = b := by injection hb1
      have e2 : g5 = b := by injection hb2
      rcases hat with h | h
      ·exact hne3 (by rw [h, e1, e2])
      ·have := (hWy.lt gg rfl).2; omega
     have hWf := own_far hW5 (p := ⟨w.heap.size + 1 + 1 + 1, 1, none⟩) (by simp) (.slice (some ⟨g5, 0, none⟩) (k + 1) c5)
     have hMf := own_far hM5 (p := ⟨w.heap.size + 1 + 1 + 1, 1, none⟩) (by simp) (.slice (some ⟨g5, 0, none⟩) (k + 1) c5)
     rw [← List.map_singleton, ← List.map_append, ← G1.out] at hWf
     rw [← List.map_singleton, ← List.map_append, ← G2.out] at hMf
     have hBf := hB5.put 1 (.slice (some ⟨g5, 0, none⟩) (k + 1) c5)
     clear hgrow hat
     go_roundw
     case rel => exact ⟨k + 1, by go_num, hX5.setCell (by simp) _, _, _, hb5.setCell (by simp <;> omega) _, hBf, hWf, hMf, hne5, by omega⟩
     case measure => simp [intOf]; omega
  ·obtain rfl : N = k := by omega
   have e2' := e2
   rw [← HF1.out] at hW
   rw [← HF2.out] at hM
   obtain ⟨B1, k1, rfl⟩ := own_slice' hW
   obtain ⟨B2, k2, rfl⟩ := own_slice' hM
   have m0 : wr.cell? ⟨w.heap.size + 1 + 1 + 1, 0, none⟩ = some (.slice B1 N k1) := hBx.cell 0
   have m1 : wr.cell? ⟨w.heap.size + 1 + 1 + 1, 1, none⟩ = some (.slice B2 N k2) := hBx.cell 1
   have r0 : wr.cell? ⟨w.heap.size + 1 + 1, 0, none⟩ = some (.slice none 0 0) := e2.cell 0
   have r1 : wr.cell? ⟨w.heap.size + 1 + 1, 1, none⟩ = some (.slice none 0 0) := e2.cell 1
   have r2 := e2.frozen 0
   have r3 := e2.frozen 1
   have hW1 := own_far (own_far hW (p := ⟨w.heap.size + 1 + 1, 0, none⟩) (by simp <;> omega) (.slice B1 N k1)) (p := ⟨w.heap.size + 1 + 1, 1, none⟩) (by simp <;> omega) (.slice B2 N k2)
   have hM1 := own_far (own_far hM (p := ⟨w.heap.size + 1 + 1, 0, none⟩) (by simp <;> omega) (.slice B1 N k1)) (p := ⟨w.heap.size + 1 + 1, 1, none⟩) (by simp <;> omega) (.slice B2 N k2)
   have HI1 := Lib.hid (own_base hW1 (base' := w.heap.size) (by omega))
   have HI2 := Lib.hid (own_base hM1 (base' := w.heap.size) (by omega))
   clear e0 e1 e2 e2' hBx hW hM hW1 hM1
   go_wp2
   refine bodyPost_ret (v := .agg #[.slice B1 N k1, .slice B2 N k2]) (by simp [results, Tryz.results153, go_sem, r0, r1]) rfl ?_
   exact ⟨B1, k1, B2, k2, rfl, HI1.out, HI2.out, (hb.setCell (by simp <;> omega) _).setCell (by simp <;> omega) _⟩
end Go.Proofs.YtgodgedhddngeaaGreatDoor
