/- The law SpotOpens, where the two lists are not too long: the walk. -/
import Derived.Test.YthckpmgehhkacaaSpot
import Derived.Test.YthckpmgehhkacaaUpto
import Derived.Deep.DeepCutAuto
import Derived.Deep.CutBlock
import Derived.Outline
namespace Go.Proofs.Ythckpmgehhkacaa
open Go.ChangeShapes Go.WideShapes Go.ChangeAt Go.RowKit Pl

/-- Nothing is appended where the source is empty: one step of a region that draws. -/
theorem step_append_nothing {P : Program} {ops : Array Oper} {o : Oper} {a : Act} {w : World} {K : Act → World → Prop} {Q : Exit → Act → World → Prop} {E : Prop} (hgd : o.guard = none) (s x : Operand) (t : TypeId)
    (ho : o.op = .call { callee := .builtin .append, args := #[s, x], argTypes := #[t, t] }) (base : Nat) (e : TypeId) (i : TypeInfo) (size : Nat) (ht : P.underlying t = some (.slice e)) (hi : P.info? e = some i)
    (v : Value) (n : Nat) (xs : List Value) (hs : a.eval s = v) (hown : w.ownsRow base e size v n xs) (A : Option Addr) (c : Nat) (hx : a.eval x = .slice A 0 c) (h : K (a.put o.dst v) w) :
    if Region.wanted o (yielded ops a.tmps) = true then Oper.wp P o a w K Q else E := by
  have hw : Region.wanted o (yielded ops a.tmps) = true := by simp [Region.wanted, hgd]
  rw [if_pos hw]
  have hrun : (Builtin.append_ #[t, t] o.type #[v, .slice A 0 c]).run P w = .ok v w := by
    rcases hown.2 with ⟨rfl, rfl⟩ | ⟨g, cap, cur, rfl, _, _, hnc, _⟩
    · cases A <;> simp [Builtin.append_, run_underlying ht, sizeOf, typeInfo, hi, Builtin.lenOf, Builtin.firstCells, loadCells, loadCellsFrom]
    · cases A <;> simp [Builtin.append_, run_underlying ht, sizeOf, typeInfo, hi, Builtin.lenOf, Builtin.firstCells, loadCells, loadCellsFrom, hnc, storeCells]
  unfold Oper.wp
  simp [execOp, ho, resolve, invoke, builtin, hs, hx, hrun, Result.andThen]
  exact h

theorem Ints.news {k : IntKind} {w : World} {ad : Addr} {n : Nat} {xs : List Int} (h : Ints k w (some ad) n xs) : ∀ j u, (xs.map (Value.int k))[j]? = some u → w.cell? (ad.add j) = some u := by
  intro j u hu
  rw [List.getElem?_map] at hu
  have hj : j < xs.length := by
    rcases Nat.lt_or_ge j xs.length with h | h
    · exact h
    · rw [List.getElem?_eq_none h] at hu; cases hu
  rw [List.getElem?_eq_getElem hj, Option.map_some] at hu
  cases hu
  obtain ⟨b, off, e, hb, hc⟩ := h.cells (by rw [← h.len]; omega)
  cases e
  rw [Go.WideShapes.add_plain, hc j (by rw [← h.len]; exact hj), at0_getElem _ _ hj]
/-- Behind the law's first line: the two lists as one, its own. -/
def SpA (w : World) (xs : List Int) (l : Value) (wx : World) : Prop :=
  ∃ S sc, l = .slice S xs.length sc ∧ Ints .i64 wx S xs.length xs ∧ xs.length ≤ sc ∧ Below w.heap.size w wx
/-- Behind its first switch: what it expects of Chunk. -/
def SpB (w : World) (xs : List Int) (i : Int) (e p q : Value) (wx : World) : Prop :=
  e = .int .i64 (pathE xs.length i) ∧ (∃ S s, p = .slice S (chunkO xs i).length s ∧ Ints .i64 wx S (chunkO xs i).length (chunkO xs i)) ∧ ToldU wx (pathO xs i) q ∧ Below w.heap.size w wx
/-- Behind its second: what it expects of Opens. -/
def SpC (w : World) (e : Int) (o : Bool) (f b : Value) (wx : World) : Prop := f = .int .i64 e ∧ b = .bool o ∧ Below w.heap.size w wx

set_option maxRecDepth 100000 in
set_option maxHeartbeats 8000000 in
theorem spotOpens_walk (i root n : Int) (A1 A2 C D : Option Addr) (n1 k1 n2 k2 m cc L dc : Nat) (wt mv chunk path : List Int) (w : World) (q1 : Ints .i64 w A1 n1 wt) (q2 : Ints .i64 w A2 n2 mv) (hs : (n1 + n2) * 8 ≤ 140737488351232)
    (hx : Ints .i64 w C m chunk) (hp : Ints .u64 w D L path) (hu : U64 path) (hc : m ≤ cc) (hd : L ≤ dc) (r0 : 0 ≤ root) (r1 : root < 18446744073709551616)
    (hi : -9223372036854775808 ≤ i ∧ i ≤ 9223372036854775807) (hn : -9223372036854775808 ≤ n ∧ n ≤ 9223372036854775807) :
    Calls Try.prog 4 #[.agg #[.slice A1 n1 k1, .slice A2 n2 k2], .int .i64 i, .int .u64 root, .int .i64 n, .slice C m cc, .slice D L dc] w fun e w' => e = .returned (.bool true) ∧ Below w.heap.size w w' := by
  obtain ⟨i0, hi0, hz0, hz1, hz2⟩ := info_parts int_info
  obtain ⟨W0, hW0⟩ : ∃ W0, W0 = w.alloc (.cells #[.slice A1 n1 k1, .slice A2 n2 k2] 35) := ⟨_, rfl⟩
  have HB : Blk W0 w.heap.size 35 #[.slice A1 n1 k1, .slice A2 n2 k2] := by rw [hW0]; exact Blk.made _ _ _
  have bw : Below w.heap.size w W0 := by rw [hW0]; exact (Below.refl _ _).alloc (Nat.le_refl _) _
  have HCH := Lib.hid (fun W (p1 : Ints .i64 W A1 n1 wt) (p2 : Ints .i64 W A2 n2 mv) => spot_Chunk i A1 A2 n1 k1 n2 k2 wt mv W p1 p2 hs)
  have HOP := Lib.hid (fun W (p1 : Ints .i64 W C m chunk) (p2 : Ints .u64 W D L path) => spot_Opens root i n C D m L cc dc chunk path W p1 p2 hu hc r0 r1)
  have HCL := Lib.hid (fun W (p1 : Ints .i64 W A1 n1 wt) => sl_Clone A1 n1 k1 wt W p1 (by omega))
  have QA := Lib.hid (fun W (h : Below w.heap.size w W) => (⟨q1.below h, q2.below h⟩ : Ints .i64 W A1 n1 wt ∧ Ints .i64 W A2 n2 mv))
  have QB := Lib.hid (fun W (h : Below w.heap.size w W) => (⟨hx.below h, hp.below h⟩ : Ints .i64 W C m chunk ∧ Ints .u64 W D L path))
  have HSZ := Lib.hid hs
  have HL1 := Lib.hid q1.len
  have HL2 := Lib.hid q2.len
  have HXL := Lib.hid hx.len
  have HPL := Lib.hid hp.len
  obtain ⟨⟨f0, f1⟩, _⟩ := HB.two'
  have hlt := HB.lt
  have p1 := q1.below bw
  have p2 := q2.below bw
  clear q1 q2 hx hp hs
  go_enter Try.func4, Try.ntmps4
  go_upto_region 1 with fail
  rw [← hW0]
  clear hW0
  go_cut [13] (fun l wx => SpA W0 (wt ++ mv) l wx)
  case first =>
    by_cases h2 : n2 = 0
    · subst h2
      obtain rfl : mv = [] := List.eq_nil_of_length_eq_zero HL2.out
      clear p2
      go_region_held3 (fun W => W.cell? ⟨w.heap.size, 0, none⟩ = some (.slice A1 n1 k1) ∧ W.cell? ⟨w.heap.size, 1, none⟩ = some (.slice A2 0 k2))
        (first | (with_reducible exact ⟨f0, f1⟩) | (with_reducible exact ⟨y0, y1⟩) | go_keep) (first
        | (go_at_call 20; (with_reducible refine (HCL.out _ (p1.drew)).mono ?_); rintro e u1 ⟨Z, zc, rfl, ho1, hb1⟩; have y0 : u1.cell? ⟨w.heap.size, 0, none⟩ = some (.slice A1 n1 k1) := (hb1.cell hlt).trans f0; have y1 : u1.cell? ⟨w.heap.size, 1, none⟩ = some (.slice A2 0 k2) := (hb1.cell hlt).trans f1)
        | ((refine step_append_nothing (by rfl) _ _ _ (by rfl) W0.heap.size 3 i0 1 Try.underlying23 hi0 (.slice Z wt.length zc) wt.length (wt.map (.int .i64)) (by rfl) ho1 A2 k2 (by rfl) ?_))
        | fail)
      go_wp2
      go_meet
      case rel => exact ⟨Z, zc, by rw [List.append_nil], by rw [List.append_nil]; exact Ints.of_own ho1 rfl, by rw [List.append_nil]; exact own_le ho1, bel_trans ((Below.refl _ _).drew) hb1⟩
    · obtain ⟨b, off, rfl, hbl, _⟩ := p2.cells (by omega)
      have hpos : 0 < n2 := by omega
      have E0 : (mv.map (Value.int .i64)).length = n2 * 1 := by rw [List.length_map, HL2.out, Nat.mul_one]
      have E1 : wt.length + n2 ≤ maxLen := by have := HSZ.out; rw [HL1.out]; unfold maxLen; omega
      have E2 : (wt.length + n2) * 8 ≤ 140737488355328 := by have := HSZ.out; rw [HL1.out]; omega
      have E3 : w.heap.size < W0.heap.size := hlt
      have HE := Lib.hid (⟨E0, E1, E2⟩ : (mv.map (Value.int .i64)).length = n2 * 1 ∧ wt.length + n2 ≤ maxLen ∧ (wt.length + n2) * 8 ≤ 140737488355328)
      clear h2 E0 E1 E2
      go_region_held3 (fun W => W.cell? ⟨w.heap.size, 0, none⟩ = some (.slice A1 n1 k1) ∧ W.cell? ⟨w.heap.size, 1, none⟩ = some (.slice (some ⟨b, off, none⟩) n2 k2))
        (first | (with_reducible exact ⟨f0, f1⟩) | (with_reducible exact ⟨y0, y1⟩) | (with_reducible exact ⟨z0, z1⟩) | go_keep) (first
        | (go_at_call 20; (with_reducible refine (HCL.out _ (p1.drew)).mono ?_); rintro e u1 ⟨Z, zc, rfl, ho1, hb1⟩; have y0 : u1.cell? ⟨w.heap.size, 0, none⟩ = some (.slice A1 n1 k1) := (hb1.cell hlt).trans f0; have y1 : u1.cell? ⟨w.heap.size, 1, none⟩ = some (.slice (some ⟨b, off, none⟩) n2 k2) := (hb1.cell hlt).trans f1; have N2 := Ints.news ((p2.drew).below hb1); have ne : (Value.slice Z wt.length zc).ownBlock ≠ some w.heap.size := fun h => absurd (ho1.lt _ h).1 (Nat.not_le_of_lt E3); have hs1 : W0.heap.size ≤ u1.heap.size := hb1.size)
        | ((refine step_append_lies _ (by rfl) _ _ _ (by rfl) W0.heap.size 3 i0 _ 1 8 Try.underlying23 hi0 hz0 hz1 hz2 rfl (by omega) (.slice Z wt.length zc) wt.length (wt.map (.int .i64)) (by rfl) ho1 ⟨b, off, none⟩ n2 k2 (mv.map (.int .i64)) (by rfl) HE.out.1 N2 (ints_oneCell _ _) hpos HE.out.2.1 HE.out.2.2 hs1 u1.heap.size rfl ?_); intro g cp w4 hown hgrow hat hlt4; have z0 : w4.cell? ⟨w.heap.size, 0, none⟩ = some (.slice A1 n1 k1) := (World.cell?_of_block (hgrow.block w.heap.size (Nat.lt_of_lt_of_le E3 hs1) (Ne.symm ne))).trans y0; have z1 : w4.cell? ⟨w.heap.size, 1, none⟩ = some (.slice (some ⟨b, off, none⟩) n2 k2) := (World.cell?_of_block (hgrow.block w.heap.size (Nat.lt_of_lt_of_le E3 hs1) (Ne.symm ne))).trans y1)
        | fail)
      have hb4 : Below W0.heap.size W0 w4 := Below.grown (B := W0.heap.size) (bel_trans ((Below.refl _ _).drew) hb1) hgrow hs1 (fun x hx => (ho1.lt x hx).1)
      have hl4 : (wt ++ mv).length = wt.length + n2 := by rw [List.length_append, HL2.out]
      rw [← List.map_append, ← hl4] at hown
      go_wp2
      go_meet
      case rel => exact ⟨_, cp, by rw [hl4], Ints.of_own hown rfl, own_le hown, hb4⟩
  case rest =>
  obtain ⟨S, sc, rfl, IS, hsc, hb0⟩ := hcut
  obtain ⟨wa, hwa⟩ : ∃ wa : World, wa = wc := ⟨_, rfl⟩
  rw [← hwa] at IS hb0 ⊢
  clear hwa p1 p2 f0 f1 HCL
  have bwa := bw.trans (hb0.mono bw.size)
  have HB2 := HB.below hb0 hlt
  clear HB hlt hb0 bw
  obtain ⟨xs, hxs⟩ : ∃ xs, xs = wt ++ mv := ⟨_, rfl⟩
  have hNN : xs.length = n1 + n2 := by rw [hxs, List.length_append, HL1.out, HL2.out]
  rw [← hxs] at HCH IS hsc ⊢
  rw [← hNN] at HCH HSZ
  obtain ⟨N, hN⟩ : ∃ N, N = xs.length := ⟨_, rfl⟩
  rw [← hN] at HCH IS hsc HSZ ⊢
  have HLN := Lib.hid hN.symm
  have hN8 := HSZ.out
  clear hxs hNN hN HL1 HL2 HSZ
  go_upto_block 0 with fail
  go_cut [14, 15, 16] (fun e p q wx => SpB wa xs i e p q wx)
  case first =>
    by_cases h0 : N = 0
    · have F := Lib.hid (show pathE xs.length i = 1 by rw [HLN.out]; unfold pathE lvE; rw [if_pos h0]; simp)
      have G1 := Lib.hid (show chunkO xs i = [] from if_neg (by rw [F.out]; decide))
      have G2 := Lib.hid (show pathO xs i = [] from if_neg (by rw [F.out]; decide))
      have t : ((N : Int) == 0) = true := by rw [beq_iff_eq]; omega
      clear h0
      go_wp2
      go_meet
      case rel => exact ⟨by rw [F.out], ⟨none, 0, by rw [G1.out]; rfl, by rw [G1.out]; exact Ints.nil _ _ _⟩, by rw [G2.out]; exact ToldU.nil _, Below.refl _ _⟩
    · have t : ((N : Int) == 0) = false := by rw [beq_eq_false_iff_ne]; omega
      by_cases h2 : 200 < N
      · have F := Lib.hid (show pathE xs.length i = 2 by rw [HLN.out]; unfold pathE lvE; rw [if_neg h0, if_pos h2]; simp)
        have G1 := Lib.hid (show chunkO xs i = [] from if_neg (by rw [F.out]; decide))
        have G2 := Lib.hid (show pathO xs i = [] from if_neg (by rw [F.out]; decide))
        clear h0
        go_wp2
        go_meet
        case rel => exact ⟨by rw [F.out], ⟨none, 0, by rw [G1.out]; rfl, by rw [G1.out]; exact Ints.nil _ _ _⟩, by rw [G2.out]; exact ToldU.nil _, Below.refl _ _⟩
      · have FL : lvE N = 0 := by unfold lvE; rw [if_neg h0, if_neg h2]
        by_cases hI : inB i 0 (((N + 3) / 4 : Nat) - 1 : Int) = true
        · obtain ⟨i1, i2⟩ := inB_iffT.1 hI
          have F := Lib.hid (show pathE xs.length i = 0 by rw [HLN.out]; unfold pathE; rw [if_neg (by simp [FL]), if_pos hI])
          obtain ⟨k, rfl⟩ : ∃ k : Nat, i = (k : Int) := ⟨i.toNat, by omega⟩
          have G1 := Lib.hid (show chunkO xs k = (xs.drop (4 * k)).take 4 by unfold chunkO; rw [if_pos F.out]; simp)
          have G2 := Lib.hid (show pathO xs k = wayI (leavesI xs) k by unfold pathO; rw [if_pos F.out]; simp)
          have HLV := Lib.hid (fun W (q : Ints .i64 W S N xs) => ref_Leaves S N sc xs W q (by omega) hsc)
          have hq : (leavesI xs).length = (N + 3) / 4 := by rw [leavesI_length, HLN.out]
          have HWY := Lib.hid (fun A c W (l : (leavesI xs).length ≤ c) (q : Ints .u64 W A (leavesI xs).length (leavesI xs)) => ref_Way (leavesI xs).length A (leavesI xs).length c (leavesI xs) k W (Nat.le_refl _) (by omega) l (by omega) q (leavesI_u64 xs) (by omega))
          obtain ⟨lv, hlv⟩ : ∃ lv, lv = leavesI xs := ⟨_, rfl⟩
          rw [← hlv] at HLV HWY G2
          have k4 : 4 * k < N := by omega
          have k5 : (4 * (k : Int)).toNat = 4 * k := by omega
          have k6 : ¬ (k : Int) < 0 := by omega
          have w1 : IntKind.i64.wrap (4 * (k : Int)) = 4 * (k : Int) := by rw [IntKind.wrap_i64]; omega
          have b0 : (0 : Int) ≤ 4 * (k : Int) := by omega
          have b3 : (N : Int) ≤ (sc : Int) := by omega
          have s1 : ¬ sc = 4 * k := by omega
          have s2 : ¬ (sc : Int) = 4 * (k : Int) := by omega
          have k7 : ¬ ((N : Int) - 1).tdiv 4 < (k : Int) := by rw [Int.tdiv_eq_ediv_of_nonneg (by omega)]; omega
          clear hI FL hq hlv h0 i1 i2
          by_cases h4 : 4 * k + 4 ≤ N
          · obtain ⟨q, hq⟩ : ∃ q : Nat, q = 4 * k + 4 := ⟨_, rfl⟩
            have t0 : 4 * (k : Int) + 4 = (q : Int) := by omega
            have w2 : IntKind.i64.wrap (4 * (k : Int) + 4) = (q : Int) := by rw [IntKind.wrap_i64]; omega
            have w3 : IntKind.i64.wrap (q : Int) = (q : Int) := by rw [IntKind.wrap_i64]; omega
            have t1 : (q : Int) ≤ (N : Int) := by omega
            have t2 : min (q : Int) (N : Int) = (q : Int) := by omega
            have b1 : 4 * (k : Int) ≤ (q : Int) := by omega
            have b2 : (q : Int) ≤ (sc : Int) := by omega
            have t6 : ∀ a b : Int, (if N < q then a else b) = b := fun _ _ => if_neg (by omega)
            have t7 : ∀ a b : Int, (if (N : Int) < (q : Int) then a else b) = b := fun _ _ => if_neg (by omega)
            have t8 : ∀ a b : Value, (if N < q then a else b) = b := fun _ _ => if_neg (by omega)
            have HQ : q - 4 * k = 4 := by omega
            have hp : Ints .i64 wa (S.map (·.add (4 * k))) (q - 4 * k) ((xs.drop (4 * k)).take (q - 4 * k)) := IS.cut (i := 4 * k) (m := q - 4 * k) (by omega) (fun _ b off e => by rw [e]; simp [Go.WideShapes.add_plain])
            have HPC := Lib.hid (show (xs.drop (4 * k)).take (q - 4 * k) = chunkO xs k by rw [G1.out, HQ])
            have hcl : (chunkO xs k).length = q - 4 * k := by rw [← HPC.out]; exact hp.len
            have HCL := Lib.hid hcl
            clear hcl hq HQ h4
            rw [HPC.out] at hp
            go_upto_region 5 with fail
            go_region_held3 (fun _ => True) (trivial) (first
              | (go_at_call 22; (with_reducible refine (HLV.out _ (IS.drew)).mono ?_); rintro e u1 ⟨LV, lc, rfl, ho1, hb1⟩; have I1 := Ints.of_own ho1 rfl; have l1 := own_le ho1)
              | (go_at_call 21; (with_reducible refine (HWY.out LV lc _ l1 I1).mono ?_); rintro e u2 ⟨T, tc, rfl, ho2, hb2⟩)
              | fail)
            all_goals have hb12 := bel_trans (bel_trans ((Below.refl _ _).drew) hb1) hb2
            all_goals go_wp2
            all_goals go_meet
            all_goals exact ⟨by rw [F.out], ⟨_, _, by rw [HCL.out], by rw [HCL.out]; exact hp.below hb12⟩, ⟨T, tc, by rw [G2.out], by rw [G2.out]; exact Ints.of_own ho2 rfl⟩, hb12⟩
          · have t1 : (N : Int) < 4 * (k : Int) + 4 := by omega
            have w2 : IntKind.i64.wrap (4 * (k : Int) + 4) = 4 * (k : Int) + 4 := by rw [IntKind.wrap_i64]; omega
            have t2 : min (4 * (k : Int) + 4) (N : Int) = (N : Int) := by omega
            have t3 : decide ((N : Int) < 4 * (k : Int) + 4) = true := decide_eq_true (by omega)
            have b1 : 4 * (k : Int) ≤ (N : Int) := by omega
            have hp : Ints .i64 wa (S.map (·.add (4 * k))) (N - 4 * k) ((xs.drop (4 * k)).take (N - 4 * k)) := IS.cut (i := 4 * k) (m := N - 4 * k) (by omega) (fun _ b off e => by rw [e]; simp [Go.WideShapes.add_plain])
            have HPC := Lib.hid (show (xs.drop (4 * k)).take (N - 4 * k) = chunkO xs k by rw [G1.out, List.take_of_length_le (by rw [List.length_drop, HLN.out]; exact Nat.le_refl _), List.take_of_length_le (by rw [List.length_drop, HLN.out]; omega)])
            have hcl : (chunkO xs k).length = N - 4 * k := by rw [← HPC.out]; exact hp.len
            have HCL := Lib.hid hcl
            clear hcl h4
            rw [HPC.out] at hp
            go_upto_region 5 with fail
            go_region_held3 (fun _ => True) (trivial) (first
              | (go_at_call 22; (with_reducible refine (HLV.out _ (IS.drew)).mono ?_); rintro e u1 ⟨LV, lc, rfl, ho1, hb1⟩; have I1 := Ints.of_own ho1 rfl; have l1 := own_le ho1)
              | (go_at_call 21; (with_reducible refine (HWY.out LV lc _ l1 I1).mono ?_); rintro e u2 ⟨T, tc, rfl, ho2, hb2⟩)
              | fail)
            all_goals have hb12 := bel_trans (bel_trans ((Below.refl _ _).drew) hb1) hb2
            all_goals go_wp2
            all_goals go_meet
            all_goals exact ⟨by rw [F.out], ⟨_, _, by rw [HCL.out], by rw [HCL.out]; exact hp.below hb12⟩, ⟨T, tc, by rw [G2.out], by rw [G2.out]; exact Ints.of_own ho2 rfl⟩, hb12⟩
        · have F := Lib.hid (show pathE xs.length i = 1 by rw [HLN.out]; unfold pathE; rw [if_neg (by simp [FL]), if_neg hI])
          have G1 := Lib.hid (show chunkO xs i = [] from if_neg (by rw [F.out]; decide))
          have G2 := Lib.hid (show pathO xs i = [] from if_neg (by rw [F.out]; decide))
          have hI' : i < 0 ∨ ((N : Int) - 1) / 4 < i := by
            by_cases h : i < 0
            · exact .inl h
            · by_cases h' : ((N : Int) - 1) / 4 < i
              · exact .inr h'
              · exact absurd (inB_iffT.2 ⟨by omega, by omega⟩) hI
          clear hI FL
          rcases hI' with h3 | h3
          · clear h0
            go_wp2
            go_meet
            case rel => exact ⟨by rw [F.out], ⟨none, 0, by rw [G1.out]; rfl, by rw [G1.out]; exact Ints.nil _ _ _⟩, by rw [G2.out]; exact ToldU.nil _, Below.refl _ _⟩
          · have h4 : ¬ i < 0 := by omega
            have h5 : ((N : Int) - 1).tdiv 4 < i := by rw [Int.tdiv_eq_ediv_of_nonneg (by omega)]; exact h3
            clear h0
            go_wp2
            go_meet
            case rel => exact ⟨by rw [F.out], ⟨none, 0, by rw [G1.out]; rfl, by rw [G1.out]; exact Ints.nil _ _ _⟩, by rw [G2.out]; exact ToldU.nil _, Below.refl _ _⟩
  case rest =>
  obtain ⟨rfl, ⟨P, ps, rfl, IP⟩, ⟨T, tc, rfl, IT⟩, hb1⟩ := hcut
  obtain ⟨wb, hwb⟩ : ∃ wb : World, wb = wc := ⟨_, rfl⟩
  rw [← hwb] at IP IT hb1 ⊢
  clear hwb IS
  have bwb := bwa.trans (hb1.mono bwa.size)
  have HB3 := HB2.below hb1 HB2.lt
  obtain ⟨⟨f0, f1⟩, _⟩ := HB3.two'
  have lc := chunkO_len xs i
  have lp := pathO_len xs i
  have HPE := Lib.hid (show pathE N i = pathE xs.length i by rw [HLN.out])
  clear hb1 HB2 bwa
  go_wp2_with fail
  refine (HCH.out _ (QA.out _ bwb).1 (QA.out _ bwb).2).mono ?_
  rintro e w1 ⟨S1, s1, S2, s2, rfl, I1, I2, hb2⟩
  have bw1 := bwb.trans (hb2.mono bwb.size)
  have IP1 := IP.below hb2
  have IT1 := IT.below hb2
  clear IP IT hb2 f0 f1 HB3
  go_wp2_with fail
  refine (equalI_any S1 P _ s1 ps _ _ _ _ I1 IP1 (by omega)).mono ?_
  rintro e w2 ⟨rfl, k5, rfl⟩
  rw [decide_eq_true rfl]
  go_wp2_with fail
  refine (equalU_any S2 T _ s2 tc _ _ _ _ (I2.drewN _) (IT1.drewN _) (by omega)).mono ?_
  rintro e w3 ⟨rfl, k6, rfl⟩
  rw [decide_eq_true rfl, HPE.out]
  go_upto_block 1 with fail
  have hcp := QB.out _ bw1
  go_cut [14, 20] (fun f b wx => SpC w1 (opensE i n L m) (opensO root i n chunk path) f b wx)
  case first =>
    by_cases hB : climbB i n
    · have hB' := hB
      obtain ⟨⟨n1', n2'⟩, i1, i2⟩ := hB
      obtain ⟨k, rfl⟩ : ∃ k : Nat, i = (k : Int) := ⟨i.toNat, by omega⟩
      obtain ⟨M, rfl⟩ : ∃ M : Nat, n = (M : Int) := ⟨n.toNat, by omega⟩
      obtain ⟨r, hr⟩ : ∃ r : Nat, r = (M - 1) / 4 := ⟨_, rfl⟩
      have r1' : ((M : Int) - 1) / 4 = (r : Int) := by omega
      have r2' : (M + 3) / 4 = r + 1 := by omega
      have r3' : (k : Int) ≤ (r : Int) := by omega
      have r4' : (r : Int) ≤ 60 := by omega
      have r5' : 4 * (k : Int) < (M : Int) := by omega
      have hI : inB (M : Int) 1 200 = true := inB_yes ⟨n1', n2'⟩
      have HD := Lib.hid (fun W => ref_Deep (r + 1) k (r + 1) W (Nat.le_refl _) (by omega) (by omega) (by omega))
      rw [show ((r + 1 : Nat) : Int) = (r : Int) + 1 by omega] at HD
      by_cases hL : L = deepP k (r + 1)
      · have E0 := Lib.hid (show climbE k M L = 0 by unfold climbE; rw [if_pos hB', if_pos (by simpa [r2'] using hL)])
        by_cases hm : (m : Int) = min 4 ((M : Int) - 4 * (k : Int))
        · have E1 := Lib.hid (show opensE k M L m = 0 by unfold opensE; rw [E0.out, if_neg (by simp), if_neg (by simp [hm])])
          have m1 : 1 ≤ m := by omega
          have m2 : m ≤ 4 := by omega
          have ll : (leavesI chunk).length = 1 := by rw [leavesI_length, HXL.out]; omega
          have lb := leavesI_u64 chunk 0
          have HLV := Lib.hid (fun W (q : Ints .i64 W C m chunk) => ref_Leaves C m cc chunk W q (by omega) hc)
          have HUP := Lib.hid (fun W (q : Ints .u64 W D L path) => ref_Up (r + 1) D L dc path k (r + 1) (at0 (leavesI chunk) 0) W (Nat.le_refl _) (by omega) (by omega) (by omega) hd hL q hu lb.1 lb.2)
          rw [show ((r + 1 : Nat) : Int) = (r : Int) + 1 by omega] at HUP
          have gu := upI_u64 k (r + 1) (at0 (leavesI chunk) 0) path lb
          have U := u64_len (n := M) (by omega)
          have E2 := Lib.hid (show opensO root k M chunk path = (pairI M (upI k (r + 1) (at0 (leavesI chunk) 0) path) == root % 2305843009213693951) by
            unfold opensO climbO
            rw [HPL.out, HXL.out, E1.out, E0.out]
            simp [r2'])
          obtain ⟨up, hup⟩ : ∃ up, up = upI k (r + 1) (at0 (leavesI chunk) 0) path := ⟨_, rfl⟩
          rw [← hup] at HUP gu E2
          obtain ⟨lv, hlv⟩ : ∃ lv, lv = leavesI chunk := ⟨_, rfl⟩
          rw [← hlv] at HLV ll HUP lb
          have tl : ((L : Int) != ((deepP k (r + 1) : Nat) : Int)) = false := by rw [bne_eq_false_iff_eq, hL]
          obtain ⟨Z, hZ⟩ : ∃ Z, Z = deepP k (r + 1) := ⟨_, rfl⟩
          rw [← hZ] at HD tl
          have HPD := Lib.hid (fun W => ref_PairD M up W (by omega) (by omega) gu.1 gu.2)
          obtain ⟨pu, hpu⟩ : ∃ pu, pu = pairI M up := ⟨_, rfl⟩
          rw [← hpu] at HPD E2
          clear hL r2' hr hB' hup hlv hZ hpu gu
          by_cases h4 : (M : Int) - 4 * (k : Int) < 4
          · have t1 : ((m : Int) != (M : Int) - 4 * (k : Int)) = false := by rw [bne_eq_false_iff_eq]; omega
            have t4 : ¬ (4 < (M : Int) - 4 * (k : Int)) := by omega
            clear hm
            go_wp2_with (go_at_call 25; refine (ref_In _ _ _ _).mono ?_; rintro e w' ⟨rfl, rfl⟩; rw [hI])
            refine (HD.out _).mono ?_
            rintro e w' ⟨rfl, rfl⟩
            go_wp2_with fail
            refine (HLV.out _ (hcp.1.drewN _)).mono ?_
            rintro e u1 ⟨A5, c5, rfl, O5, hb5⟩
            have J5 := Ints.of_own O5 rfl
            rw [ll] at J5 ⊢
            obtain ⟨b, off, hS, _, hcl⟩ := J5.cells (by omega)
            subst hS
            have g := hcl 0 (by omega)
            rw [Nat.add_zero] at g
            have hb6 := bel_trans (drewN_below _) hb5
            clear hcl O5
            go_wp2_with fail
            refine (HUP.out _ (hcp.2.below hb6)).mono ?_
            rintro e u2 ⟨rfl, hb7⟩
            go_wp2_with fail
            refine (HPD.out _).mono ?_
            rintro e u3 ⟨rfl, hb8⟩
            go_wp2
            go_meet
            case rel => exact ⟨by rw [E1.out], by rw [E2.out], bel_trans (bel_trans hb6 hb7) hb8⟩
          · have t1 : ((m : Int) != 4) = false := by rw [bne_eq_false_iff_eq]; omega
            have t4 : 4 ≤ (M : Int) - 4 * (k : Int) := by omega
            have t5 : ¬ ((M : Int) - 4 * (k : Int) < 4) := by omega
            clear hm
            go_wp2_with (go_at_call 25; refine (ref_In _ _ _ _).mono ?_; rintro e w' ⟨rfl, rfl⟩; rw [hI])
            refine (HD.out _).mono ?_
            rintro e w' ⟨rfl, rfl⟩
            go_wp2_with fail
            refine (HLV.out _ (hcp.1.drewN _)).mono ?_
            rintro e u1 ⟨A5, c5, rfl, O5, hb5⟩
            have J5 := Ints.of_own O5 rfl
            rw [ll] at J5 ⊢
            obtain ⟨b, off, hS, _, hcl⟩ := J5.cells (by omega)
            subst hS
            have g := hcl 0 (by omega)
            rw [Nat.add_zero] at g
            have hb6 := bel_trans (drewN_below _) hb5
            clear hcl O5
            go_wp2_with fail
            refine (HUP.out _ (hcp.2.below hb6)).mono ?_
            rintro e u2 ⟨rfl, hb7⟩
            go_wp2_with fail
            refine (HPD.out _).mono ?_
            rintro e u3 ⟨rfl, hb8⟩
            go_wp2
            go_meet
            case rel => exact ⟨by rw [E1.out], by rw [E2.out], bel_trans (bel_trans hb6 hb7) hb8⟩
        · have E1 := Lib.hid (show opensE k M L m = 5 by unfold opensE; rw [E0.out, if_neg (by simp), if_pos hm])
          have E2 := Lib.hid (show opensO root k M chunk path = false by unfold opensO; rw [HPL.out, HXL.out, E1.out]; simp)
          have tl : ((L : Int) != ((deepP k (r + 1) : Nat) : Int)) = false := by rw [bne_eq_false_iff_eq, hL]
          obtain ⟨Z, hZ⟩ : ∃ Z, Z = deepP k (r + 1) := ⟨_, rfl⟩
          rw [← hZ] at HD tl
          clear hL r2' hr hB' hZ
          by_cases h4 : (M : Int) - 4 * (k : Int) < 4
          · have t1 : ((m : Int) != (M : Int) - 4 * (k : Int)) = true := by rw [bne_iff_ne]; omega
            have t4 : ¬ (4 < (M : Int) - 4 * (k : Int)) := by omega
            have t5 : ((m : Int) != min 4 ((M : Int) - 4 * (k : Int))) = true := by rw [bne_iff_ne]; exact hm
            clear hm
            go_wp2_with (go_at_call 25; refine (ref_In _ _ _ _).mono ?_; rintro e w' ⟨rfl, rfl⟩; rw [hI])
            refine (HD.out _).mono ?_
            rintro e w' ⟨rfl, rfl⟩
            go_wp2
            go_meet
            case rel => exact ⟨by rw [E1.out], by rw [E2.out], bel_drewN (Below.refl _ _) _⟩
          · have t1 : ((m : Int) != 4) = true := by rw [bne_iff_ne]; omega
            have t4 : 4 ≤ (M : Int) - 4 * (k : Int) := by omega
            have t5 : ((m : Int) != min 4 ((M : Int) - 4 * (k : Int))) = true := by rw [bne_iff_ne]; exact hm
            clear hm
            go_wp2_with (go_at_call 25; refine (ref_In _ _ _ _).mono ?_; rintro e w' ⟨rfl, rfl⟩; rw [hI])
            refine (HD.out _).mono ?_
            rintro e w' ⟨rfl, rfl⟩
            go_wp2
            go_meet
            case rel => exact ⟨by rw [E1.out], by rw [E2.out], bel_drewN (Below.refl _ _) _⟩
      · have E0 := Lib.hid (show climbE k M L = 5 by unfold climbE; rw [if_pos hB', if_neg (by simpa [r2'] using hL)])
        have E1 := Lib.hid (show opensE k M L m = 5 by unfold opensE; rw [E0.out, if_pos (by decide)])
        have E2 := Lib.hid (show opensO root k M chunk path = false by unfold opensO; rw [HPL.out, HXL.out, E1.out]; simp)
        have tl : ((L : Int) != ((deepP k (r + 1) : Nat) : Int)) = true := by rw [bne_iff_ne]; omega
        obtain ⟨Z, hZ⟩ : ∃ Z, Z = deepP k (r + 1) := ⟨_, rfl⟩
        rw [← hZ] at HD tl
        clear hL r2' hr hB' hZ
        go_wp2_with (go_at_call 25; refine (ref_In _ _ _ _).mono ?_; rintro e w' ⟨rfl, rfl⟩; rw [hI])
        refine (HD.out _).mono ?_
        rintro e w' ⟨rfl, rfl⟩
        go_wp2
        go_meet
        case rel => exact ⟨by rw [E1.out], by rw [E2.out], bel_drewN (Below.refl _ _) _⟩
    · have E1 := Lib.hid (show opensE i n L m = 1 by unfold opensE climbE; rw [if_neg hB]; simp)
      have E2 := Lib.hid (show opensO root i n chunk path = false by unfold opensO; rw [HPL.out, HXL.out, E1.out]; simp)
      unfold climbB at hB
      cases hI : inB n 1 200
      · clear hB
        go_wp2_with (go_at_call 25; refine (ref_In _ _ _ _).mono ?_; rintro e w' ⟨rfl, rfl⟩; rw [hI])
        go_meet
        case rel => exact ⟨by rw [E1.out], by rw [E2.out], bel_drewN (Below.refl _ _) _⟩
      · obtain ⟨n1, n2⟩ := inB_iffT.1 hI
        by_cases h0 : i < 0
        · clear hB
          go_wp2_with (go_at_call 25; refine (ref_In _ _ _ _).mono ?_; rintro e w' ⟨rfl, rfl⟩; rw [hI])
          go_meet
          case rel => exact ⟨by rw [E1.out], by rw [E2.out], bel_drewN (Below.refl _ _) _⟩
        · have h1 : (n - 1) / 4 < i := by omega
          clear hB
          go_wp2_with (go_at_call 25; refine (ref_In _ _ _ _).mono ?_; rintro e w' ⟨rfl, rfl⟩; rw [hI])
          go_meet
          case rel => exact ⟨by rw [E1.out], by rw [E2.out], bel_drewN (Below.refl _ _) _⟩
  case rest =>
  obtain ⟨rfl, rfl, hb3⟩ := hcut
  go_wp2_with fail
  refine (HOP.out _ (hcp.1.below hb3) (hcp.2.below hb3)).mono ?_
  rintro e w4 ⟨rfl, hb4⟩
  go_wp2
  go_ret
  have hz := bw1.trans (hb3.mono bw1.size)
  exact ⟨by simp, hz.trans (hb4.mono hz.size)⟩

set_option maxRecDepth 100000 in
theorem spotOpens_lifted (os : Os) (started : os.Started) (H : Type) (enc : TypeId × Value → H) (F : Stop.Interp) :
    ReturnsInHanded {} Try.checked os 4 .any ((Rows.OpenSpec.upto Rows.spotOpensSpec).pre6 enc Try.prog Try.f4 Rows.spotOpensUptoRow.domain false) (((Rows.OpenSpec.upto Rows.spotOpensSpec).at F).post enc Try.prog Try.f4 false true false false) := by
  refine lift_upto (fn := Try.f4) (s := Rows.OpenSpec.upto Rows.spotOpensSpec) (k := Rows.uptoSmall) started rfl (by kernel_rfl) Try.func4
    (OpenSpec.witness (enc := enc) (C := Try.checked) (s := Rows.OpenSpec.upto Rows.spotOpensSpec) (k := Rows.uptoSmall) rfl false ⟨#[], #[.agg #[.slice none 0 0, .slice none 0 0], .int .i64 0, .int .u64 0, .int .i64 0, .slice none 0 0, .slice none 0 0], []⟩ 8 (by kernel_rfl) (by kernel_rfl) (by kernel_rfl)
      (x := ([.agg [.nil, .nil], .lit (.int .i64 0), .lit (.int .u64 0), .lit (.int .i64 0), .nil, .nil], [], [])) (by kernel_rfl) rfl (by kernel_rfl)) (by kernel_rfl) rfl Try.underlying4 rfl ?_ ?_
  · intro ds h
    rw [Try.params4] at h
    match ds, h with
    | [d0, d1, d2, d3, d4, d5], _ => rfl
  · intro W args ds ps hA hlt hval hsz hk
    rw [Try.params4] at hA hval hsz
    obtain ⟨v0, vs0, d0, ds0, p0, q0, hargs, rfl, rfl, H0, T0⟩ := trodAll_cons hA
    obtain ⟨v1, vs1, d1, ds1, p1, q1, rfl, rfl, rfl, H1, T1⟩ := trodAll_cons T0
    obtain ⟨v2, vs2, d2, ds2, p2, q2, rfl, rfl, rfl, H2, T2⟩ := trodAll_cons T1
    obtain ⟨v3, vs3, d3, ds3, p3, q3, rfl, rfl, rfl, H3, T3⟩ := trodAll_cons T2
    obtain ⟨v4, vs4, d4, ds4, p4, q4, rfl, rfl, rfl, H4, T4⟩ := trodAll_cons T3
    obtain ⟨v5, vs5, d5, ds5, p5, q5, rfl, rfl, rfl, H5, T5⟩ := trodAll_cons T4
    obtain ⟨rfl, rfl, rfl⟩ := trodAll_nil T5
    obtain rfl : args = #[v0, v1, v2, v3, v4, v5] := by cases args; simp_all
    obtain ⟨b0, hv0⟩ := hval 0 35 v0 rfl rfl
    obtain ⟨b1, hv1⟩ := hval 1 3 v1 rfl rfl
    obtain ⟨b2, hv2⟩ := hval 2 22 v2 rfl rfl
    obtain ⟨b3, hv3⟩ := hval 3 3 v3 rfl rfl
    obtain ⟨b4, hv4⟩ := hval 4 23 v4 rfl rfl
    obtain ⟨b5, hv5⟩ := hval 5 24 v5 rfl rfl
    obtain ⟨A1, n1, k1, wt, A2, n2, k2, mv, rfl, ⟨s1, s2, _, _⟩, ⟨t1, t2, _, _⟩, hbk⟩ := arg_state_upto (fun _ => rfl) hv0 H0
    obtain ⟨i, rfl, y1⟩ := arg_int hv1 H1
    obtain ⟨root, rfl, y2⟩ := arg_u64 hv2 H2
    obtain ⟨n, rfl, y3⟩ := arg_int hv3 H3
    obtain ⟨C, m, cc, chunk, rfl, hx, l1, l2, _⟩ := arg_ints (fun _ => rfl) hv4 H4
    obtain ⟨D, L, dc, path, rfl, hp, l3, l4, hwf⟩ := arg_u64s (fun _ => rfl) hv5 H5
    have z3 := wf_u64 y2
    have hb := bulk_bound hk
    simp only [Rows.uptoBulkAll] at hb
    exact spotOpens_walk i root n A1 A2 C D n1 k1 n2 k2 m cc L dc wt mv chunk path W s1 t1 (by omega) hx hp (.of_wf hwf) l1 l3 (by omega) (by omega) (wf_i64 y1) (wf_i64 y3)
theorem SpotOpens_holds : Rows.SpotOpensUptoSaid :=
  OpenClaim.holds_of_cond 4 Try.f4 rfl rfl rfl rfl rfl rfl rfl ⟨rfl, rfl, rfl, rfl, rfl⟩ rfl rfl rfl rfl rfl (by kernel_rfl) Try.func4 (by kernel_rfl)
    (of_decide_eq_true (by kernel_rfl)) (by unfold Func.isWrapper; first | (rw [if_pos (by decide +kernel)]; kernel_rfl) | (rw [if_neg (by decide +kernel)]; exact ⟨rfl, rfl⟩))
    (fun os started H enc _ F => spotOpens_lifted os started H enc F)

end Go.Proofs.Ythckpmgehhkacaa
