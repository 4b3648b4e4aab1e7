/- The document's ReadLine: a walk. -/
import Derived.Test.YtblkpibbcapdeaaDoorStoU
namespace Go.Proofs.YtblkpibbcapdeaaDoor
open Go.RowKit Go.Sort Pl

/-- Where the first line's end is, from a place on. -/
def endE (l : List UInt8) (k : Nat) : Int := match (l.drop k).findIdx? (· == 10) with | some j => ((k + j : Nat) : Int) | none => -1
theorem endE_end (l : List UInt8) : endE l l.length = -1 := by
  unfold endE
  rw [List.drop_length]
  rfl
theorem endE_step (s : ByteArray) {k : Nat} (h : k < s.size) : endE s.data.toList k = if (s[k]'h) = 10 then (k : Int) else endE s.data.toList (k + 1) := by
  unfold endE
  have e : s.data.toList.drop k = (s[k]'h) :: s.data.toList.drop (k + 1) := by
    rw [List.drop_eq_getElem_cons (by rw [Array.length_toList]; exact h)]
    rfl
  rw [e, List.findIdx?_cons]
  by_cases hc : (s[k]'h) = 10
  · rw [if_pos hc, hc]
    rfl
  · rw [if_neg hc, show ((s[k]'h) == 10) = false from by simpa using hc]
    cases (s.data.toList.drop (k + 1)).findIdx? (· == 10) with
    | none => rfl
    | some j =>
      simp only [Bool.false_eq_true, if_false, Option.map_some]
      congr 1
      omega
theorem endE_zero (l : List UInt8) : endE l 0 = match l.findIdx? (· == 10) with | some j => (j : Int) | none => -1 := by
  unfold endE
  rw [List.drop_zero]
  cases l.findIdx? (· == 10) with
  | none => rfl
  | some j => simp
theorem good_parts {ns : List Nat} (h : goodR (recOf ns) = true) : ns[0]?.getD 0 ≤ 99 ∧ ns[1]?.getD 0 ≤ 2147483647 ∧ ∀ j, 4 + j < ns.length → ns[4 + j]?.getD 0 ≤ 99 := by
  obtain ⟨⟨_, a2⟩, ⟨_, a4⟩, _, _, _, a8⟩ := goodR_iff.1 h
  unfold recOf at a2 a4 a8
  simp only at a2 a4 a8
  refine ⟨by omega, by omega, fun j hj => ?_⟩
  rw [List.getElem?_eq_getElem hj]
  have := a8 ((ns[4 + j] : Nat) : Int) (List.mem_map.2 ⟨ns[4 + j], by
    rw [List.mem_iff_getElem]
    refine ⟨j, ?_, ?_⟩
    · rw [List.length_drop]
      omega
    · rw [List.getElem_drop], rfl⟩)
  show ns[4 + j] ≤ 99
  omega

set_option maxRecDepth 100000 in
set_option maxHeartbeats 1000000 in
theorem ref_ReadLine (s : ByteArray) (w : World) (hs : s.size ≤ 4294967280) (ht : Tabs w) :
    Calls Tryd.prog 11 #[.string s] w (ParsePost s.data.toList w) := by
  obtain ⟨i0, hi0, hz0, hz1, hz2⟩ := info_parts u64_info2
  obtain ⟨j0, hj0, jz0, jz1, jz2⟩ := info_parts int_info2
  have hsz : s.data.toList.length = s.size := by rw [Array.length_toList]; rfl
  obtain ⟨w0, hw0⟩ : ∃ w0, w0 = w.alloc (.cells #[.int .i64 0, .slice none 0 0, .int .i64 0, .int .u64 0, .int .u64 0] 25) := ⟨_, rfl⟩
  have b0 : Below w.heap.size w w0 := by rw [hw0]; exact (by repeat (first | exact Below.refl _ _ | assumption | refine bel_drewN ?_ _ | refine Below.drew ?_ | (refine Below.alloc ?_ (by simp <;> omega) _) | (refine Below.setCell ?_ (by simp <;> omega) _)))
  have HZ : Blk w0 w.heap.size 25 #[.int .i64 0, .slice none 0 0, .int .i64 0, .int .u64 0, .int .u64 0] := by rw [hw0]; exact Blk.made _ _ _
  have HW := Lib.hid hw0
  have HEE := Lib.hid (show endE s.data.toList s.size = -1 from by rw [← hsz]; exact endE_end _)
  have HE0 := Lib.hid (endE_zero s.data.toList)
  have k0 : IntKind.i64.wrap ((s.size : Int) - 1) = (s.size : Int) - 1 := by rw [IntKind.wrap_i64]; omega
  clear hw0
  go_enter Tryd.func11, Tryd.ntmps11
  go_upto_region 1 with fail
  rw [← HW.out]
  go_wp2
  go_loopw [5, 6] (fun ev jv wr => ∃ k : Nat, k ≤ s.size ∧ jv = .int .i64 ((k : Int) - 1) ∧ ev = .int .i64 (endE s.data.toList k) ∧ wr = w0) (fun _ jv _ => (intOf jv + 1).toNat)
  case atStart => exact ⟨s.size, Nat.le_refl _, rfl, by rw [HEE.out], rfl⟩
  case round =>
    obtain ⟨k, hk, rfl, rfl, hwr⟩ := hrel
    subst hwr
    clear HEE
    by_cases h0 : 0 < k
    · obtain ⟨k', rfl⟩ : ∃ k', k = k' + 1 := ⟨k - 1, by omega⟩
      have hlt : k' < s.size := by omega
      have HS := Lib.hid (endE_step s hlt)
      rw [show ((k' + 1 : Nat) : Int) - 1 = (k' : Int) by omega]
      by_cases hc : (s[k']'hlt) = 10
      · have G := Lib.hid (show endE s.data.toList k' = (k' : Int) from by rw [HS.out, if_pos hc])
        have hv : (s[k']'hlt).toNat = 10 := by rw [hc]; rfl
        clear hc
        go_wp2
        go_roundw
        case rel => exact ⟨k', by omega, by go_num, by rw [G.out], by simp⟩
        case measure => first | (simp [intOf]; done) | (simp [intOf]; omega)
      · have G := Lib.hid (show endE s.data.toList k' = endE s.data.toList (k' + 1) from by rw [HS.out, if_neg hc])
        have hv : ¬ ((s[k']'hlt).toNat = 10) := fun e => hc (UInt8.toNat_inj.1 e)
        clear hc
        go_wp2
        go_roundw
        case rel => exact ⟨k', by omega, by go_num, by rw [G.out], by simp⟩
        case measure => first | (simp [intOf]; done) | (simp [intOf]; omega)
    · obtain rfl : k = 0 := by omega
      cases hf : s.data.toList.findIdx? (· == 10) with
      | none =>
        have F := Lib.hid (parseR_noline hf)
        rw [show endE s.data.toList 0 = -1 from by rw [HE0.out, hf]]
        clear hf HE0
        obtain ⟨⟨r0, r1, r2, r3, r4⟩, f0, f1, f2, f3, f4⟩ := HZ.five
        go_wp2
        refine bodyPost_ret (v := .tuple #[.agg #[.int .i64 0, .slice none 0 0, .int .i64 0, .int .u64 0, .int .u64 0], .int .i64 0, .int .i64 5]) (by simp [results, Tryd.results11, go_sem, r0, r1, r2, r3, r4]) rfl ?_
        exact parse_zero F.out (below_five b0 (Nat.le_refl _))
      | some i =>
        rw [show endE s.data.toList 0 = (i : Int) from by rw [HE0.out, hf]]
        have hi := (find_at hf).1
        have hld : (s.extract 0 i).data.toList = s.data.toList.take i := by rw [Lib.extract_data]; simp
        have hPI : Calls Tryd.prog 31 #[.string (s.extract 0 i), .int .u8 32] wr fun e w' => ∃ v, e = .returned v ∧ StrsOwn wr.heap.size (pieces 32 (s.data.toList.take i)) v w' ∧ Below wr.heap.size wr w' := by
          have hle : (s.extract 0 i).size ≤ s.size := by
            rw [Lib.size_eq, hld, List.length_take, hsz]
            exact Nat.min_le_right _ _
          have h := ref_Pieces (s.extract 0 i) 32 wr (Nat.le_trans hle hs)
          rw [hld] at h
          exact h
        have HPI := Lib.hid hPI
        have HPB := Lib.hid (fun h => parseR_noword hf h)
        have HPC := Lib.hid (fun ns h1 h2 => parseR_bad hf (ns := ns) h1 h2)
        have HPG := Lib.hid (fun ns h1 h2 h3 => parseR_good hf (ns := ns) h1 h2 h3)
        have hcnt := pieces_count 32 (s.data.toList.take i)
        have hpz := pieces_size 32 (s.data.toList.take i)
        rw [List.length_take] at hcnt hpz
        obtain ⟨ws, hws⟩ : ∃ ws, ws = pieces 32 (s.data.toList.take i) := ⟨_, rfl⟩
        rw [← hws] at HPI HPB HPC HPG hcnt hpz
        have hw1 : 1 ≤ ws.length := by rw [hws]; exact List.length_pos_iff.2 (pieces_ne _ _)
        have ii0 : (i : Int) ≤ (s.size : Int) := by omega
        clear hf hld hws hPI HE0
        go_wp2_with fail
        refine HPI.out.mono ?_
        rintro e w2 ⟨v2, rfl, ⟨g, gc, rfl, hown2⟩, hbw2⟩
        have hw2 := b0.trans (hbw2.mono b0.size)
        obtain ⟨L, hL⟩ : ∃ L, L = ws.length := ⟨_, rfl⟩
        have hg2 := hown2.lt g rfl
        have HWS := Lib.hid (fun W (h : Below w2.heap.size w2 W) j (hj : j < L) => show W.cell? ⟨g, j, none⟩ = some (.string (bytesOf (ws.getD j []))) from by
          rw [h.cell (p := ⟨g, j, none⟩) hg2.2, hown2.cellAt j (by omega), List.getElem?_map, List.getElem?_map, List.getElem?_eq_getElem (show j < ws.length by omega)]
          simp [List.getElem?_eq_getElem (show j < ws.length by omega)])
        have HZ2 := HZ.below hbw2 HZ.lt
        rw [← hL]
        have hL1 : L ≤ s.size + 1 := by omega
        have HLE := Lib.hid hL
        clear hbw2 HZ hL hcnt HPI hown2
        obtain ⟨w9, hw9⟩ : ∃ x : World, x = wr := ⟨_, rfl⟩
        clear hw9
        go_wp2
        go_loopw [8, 9, 10, 11] (fun nv j _ _ wr => ∃ (q : Nat) (ns : List Nat), q ≤ L ∧ j = .int .i64 q ∧ numsO (ws.take q) = some ns ∧ ns.length = q ∧ wr.ownsRow w2.heap.size 23 1 nv q (ns.map fun (n : Nat) => .int .u64 (n : Int)) ∧ Below w2.heap.size w2 wr) (fun _ j _ _ _ => L - (intOf j).toNat)
        case atStart => exact ⟨0, [], by omega, rfl, rfl, rfl, World.ownsRow_nil _ _ _ _, Below.refl _ _⟩
        case round =>
          obtain ⟨q, ns, hq, rfl, hns, hnl, hown, hb⟩ := hrel
          have hbs := hb.size
          have HNS := Lib.hid hns
          have HNL := Lib.hid hnl
          have hwr := hw2.trans (hb.mono hw2.size)
          clear hns hnl
          by_cases hlt : q < L
          · have c0 := HWS.out wr hb q hlt
            have hqw : q < ws.length := by rw [← HLE.out]; exact hlt
            obtain ⟨x, hx⟩ : ∃ x, x = ws.getD q [] := ⟨_, rfl⟩
            have hxw : ws[q]? = some x := by rw [hx, List.getD_eq_getElem?_getD, List.getElem?_eq_getElem hqw]; rfl
            have hxl := hpz x (List.mem_of_getElem? hxw)
            have HNO := Lib.hid (fun (h : numO x = none) => numsO_none (List.mem_of_getElem? hxw) h)
            have HSN := Lib.hid (show numsO (ws.take (q + 1)) = match numsO (ws.take q), numO x with | some ns, some n => some (ns ++ [n]) | _, _ => none from by
              rw [List.take_add_one, hxw]
              exact numsO_snoc _ _)
            have HN := ref_whole (bytesOf x) wr (ht.below hwr) (by show x.length ≤ _; omega)
            rw [bytesOf_data] at HN
            unfold numN at HN
            rw [← hx] at c0
            obtain ⟨X, hX⟩ : ∃ X, X = bytesOf x := ⟨_, rfl⟩
            rw [← hX] at c0 HN
            cases hno : numO x with
            | none =>
              rw [hno] at HN
              have HNH := Lib.hid HN
              have F := Lib.hid (HPB.out (HNO.out hno))
              have HZ3 := HZ2.below hb HZ2.lt
              clear hno hX hx hxw hqw HN hxl
              go_wp2_with fail
              refine HNH.out.mono ?_
              rintro e u ⟨Y, rfl, _, hbu⟩
              rw [show (none : Option Nat).isSome = false from rfl]
              obtain ⟨⟨r0, r1, r2, r3, r4⟩, f0, f1, f2, f3, f4⟩ := (HZ3.below hbu HZ3.lt).five
              go_wp2
              refine bodyPost_ret (v := .tuple #[.agg #[.int .i64 0, .slice none 0 0, .int .i64 0, .int .u64 0, .int .u64 0], .int .i64 0, .int .i64 5]) (by simp [results, Tryd.results11, go_sem, r0, r1, r2, r3, r4]) rfl ?_
              exact parse_zero F.out (below_five (hwr.trans (hbu.mono hwr.size)) (Nat.le_refl _))
            | some n =>
              rw [hno] at HN
              have HNH := Lib.hid HN
              have G := Lib.hid (show numsO (ws.take (q + 1)) = some (ns ++ [n]) from by rw [HSN.out, HNS.out, hno])
              clear hno hX hx hxw hqw HN hxl
              go_wp2_with fail
              refine HNH.out.mono ?_
              rintro e u ⟨Y, rfl, hY, hbu⟩
              obtain rfl : Y = (n : Int) := hY rfl
              rw [show (some n : Option Nat).isSome = true from rfl]
              have hb4 : Below w2.heap.size w2 u := bel_trans hb hbu
              have hs4 := hb4.size
              have hownu := own_below hown hbu
              go_wp2_with (at_builtin; refine wpList_append_own _ rfl _ _ 60 rfl w2.heap.size 23 i0 (.int .u64 0) 1 8 Tryd.underlying60 hi0 hz0 hz1 hz2 rfl (by decide) u8 q _ rfl (hownu.alloc _) ⟨u.heap.size, 0, none⟩ 1 1 [.int .u64 n] rfl rfl (cell_one_new _ _ _) (by simp [Value.oneCell']) (by unfold maxLen; omega) (by omega) (by simp; omega) ?_; intro v1 v2 hown1 hgrow _)
              have hb2 : Below w2.heap.size w2 v2 := Below.grown (hb4.alloc (by omega) _) hgrow (by simp; omega) (fun x hx => (hown.lt x hx).1)
              rw [show ns.map (fun (n : Nat) => Value.int .u64 (n : Int)) ++ [.int .u64 n] = (ns ++ [n]).map (fun (n : Nat) => Value.int .u64 (n : Int)) by simp] at hown1
              clear hgrow
              go_roundw
              case rel => exact ⟨q + 1, ns ++ [n], by omega, by go_num, G.out, by rw [List.length_append, HNL.out]; rfl, hown1, hb2⟩
              case measure => simp [intOf]; omega
          · obtain rfl : q = L := by omega
            have hal := HNS.out
            rw [HLE.out, List.take_length] at hal
            have hnl := HNL.out
            have HBD := Lib.hid (numsO_some hal).2
            by_cases h4 : q < 4
            · have F := Lib.hid (HPC.out ns hal (.inl (by omega)))
              obtain ⟨⟨r0, r1, r2, r3, r4⟩, f0, f1, f2, f3, f4⟩ := (HZ2.below hb HZ2.lt).five
              obtain ⟨A', c', rfl⟩ : ∃ A' c', u8 = .slice A' q c' := by
                rcases hown.2 with ⟨h1, h2⟩ | ⟨g', c', _, h1, _⟩
                · subst h2; exact ⟨none, 0, h1⟩
                · exact ⟨_, _, h1⟩
              clear hal hnl
              go_wp2
              refine bodyPost_ret (v := .tuple #[.agg #[.int .i64 0, .slice none 0 0, .int .i64 0, .int .u64 0, .int .u64 0], .int .i64 0, .int .i64 5]) (by simp [results, Tryd.results11, go_sem, r0, r1, r2, r3, r4]) rfl ?_
              exact parse_zero F.out (below_five hwr (Nat.le_refl _))
            · obtain ⟨gn, cn, rfl, hgn1, hgn2⟩ := hown.form (by omega)
              have HNV := Lib.hid (fun W (h : Below wr.heap.size wr W) j (hj : j < q) => show W.cell? ⟨gn, j, none⟩ = some (.int .u64 ((ns[j]?.getD 0 : Nat) : Int)) from by
                have h1 := hown.cellAt j (by omega)
                rw [(h.cell (p := ⟨gn, j, none⟩) hgn2), h1, List.getElem?_map, List.getElem?_eq_getElem (by omega)]
                rfl)
              have HBJ := Lib.hid (fun j (hj : j < q) => show ns[j]?.getD 0 < 10000000000000000000 from by
                rw [List.getElem?_eq_getElem (by omega)]
                exact HBD.out _ (List.getElem_mem _))
              have HPC2 := Lib.hid (fun (h : goodR (recOf ns) = false) => HPC.out ns hal (.inr h))
              have HPG2 := Lib.hid (HPG.out ns hal (by omega))
              have HGP := Lib.hid (fun (h : goodR (recOf ns) = true) => good_parts h)
              have HBAD := Lib.hid (fun (h : ¬ (ns[0]?.getD 0 ≤ 99 ∧ ns[1]?.getD 0 ≤ 2147483647)) => HPC2.out (by
                cases hg : goodR (recOf ns)
                · rfl
                · exact absurd ⟨(HGP.out hg).1, (HGP.out hg).2.1⟩ h))
              have HZ3 := HZ2.below hb HZ2.lt
              have c0 := HNV.out wr (Below.refl _ _) 0 (by omega)
              have c1 := HNV.out wr (Below.refl _ _) 1 (by omega)
              have HSV := Lib.hid (fun W (h : Below wr.heap.size wr W) => show W.cell? ⟨gn, 0, none⟩ = some (.int .u64 ((ns[0]?.getD 0 : Nat) : Int)) ∧ W.cell? ⟨gn, 1, none⟩ = some (.int .u64 ((ns[1]?.getD 0 : Nat) : Int)) ∧ W.cell? ⟨gn, 2, none⟩ = some (.int .u64 ((ns[2]?.getD 0 : Nat) : Int)) ∧ W.cell? ⟨gn, 3, none⟩ = some (.int .u64 ((ns[3]?.getD 0 : Nat) : Int)) from ⟨HNV.out W h 0 (by omega), HNV.out W h 1 (by omega), HNV.out W h 2 (by omega), HNV.out W h 3 (by omega)⟩)
              have HE0 := Lib.hid (show ∀ n : Nat, n = ns[0]?.getD 0 → (n : Int) = (recOf ns).step from fun n h => by rw [h]; rfl)
              have HE1 := Lib.hid (show ∀ n : Nat, n = ns[1]?.getD 0 → (n : Int) = (recOf ns).rate from fun n h => by rw [h]; rfl)
              have HE2 := Lib.hid (show ∀ n : Nat, n = ns[2]?.getD 0 → (n : Int) = (recOf ns).root from fun n h => by rw [h]; rfl)
              have HE3 := Lib.hid (show ∀ n : Nat, n = ns[3]?.getD 0 → (n : Int) = (recOf ns).chain from fun n h => by rw [h]; rfl)
              obtain ⟨n0, hn0⟩ : ∃ n, n = ns[0]?.getD 0 := ⟨_, rfl⟩
              obtain ⟨n1, hn1⟩ : ∃ n, n = ns[1]?.getD 0 := ⟨_, rfl⟩
              obtain ⟨n2, hn2⟩ : ∃ n, n = ns[2]?.getD 0 := ⟨_, rfl⟩
              obtain ⟨n3, hn3⟩ : ∃ n, n = ns[3]?.getD 0 := ⟨_, rfl⟩
              have E0 := Lib.hid (HE0.out n0 hn0)
              have E1 := Lib.hid (HE1.out n1 hn1)
              have E2 := Lib.hid (HE2.out n2 hn2)
              have E3 := Lib.hid (HE3.out n3 hn3)
              rw [← hn0, ← hn1, ← hn2, ← hn3] at HSV
              rw [← hn0, ← hn1] at HBAD
              rw [← hn0] at c0
              rw [← hn1] at c1
              have hrs := hwr.size
              have z0 : (0 : Int) < (q : Int) := by omega
              have z0b : (1 : Int) ≤ (q : Int) := by omega
              have z0c : ¬ q = 0 := by omega
              have z0d : 0 < q := by omega
              have z1 : (1 : Int) < (q : Int) := by omega
              have z2 : (2 : Int) < (q : Int) := by omega
              have z3 : (3 : Int) < (q : Int) := by omega
              have z4 : ¬ (q : Int) < 4 := by omega
              clear hn0 hn1 hn2 hn3 HE0 HE1 HE2 HE3 hal hown HPC HPG HWS HLE HNS HNL HPB
              by_cases h99 : 99 < n0
              · have F := Lib.hid (HBAD.out (by omega))
                obtain ⟨⟨r0, r1, r2, r3, r4⟩, f0, f1, f2, f3, f4⟩ := HZ3.five
                have x0 : (99 : Int) < (n0 : Int) := by omega
                clear HBJ HBD hpz HGP
                go_wp2
                refine bodyPost_ret (v := .tuple #[.agg #[.int .i64 0, .slice none 0 0, .int .i64 0, .int .u64 0, .int .u64 0], .int .i64 0, .int .i64 5]) (by simp [results, Tryd.results11, go_sem, r0, r1, r2, r3, r4]) rfl ?_
                exact parse_zero F.out (below_five hwr (Nat.le_refl _))
              · by_cases hT : 2147483647 < n1
                · have F := Lib.hid (HBAD.out (by omega))
                  obtain ⟨⟨r0, r1, r2, r3, r4⟩, f0, f1, f2, f3, f4⟩ := HZ3.five
                  have x0 : ¬ (99 : Int) < (n0 : Int) := by omega
                  have x1 : (2147483647 : Int) < (n1 : Int) := by omega
                  clear HBJ HBD hpz HGP
                  go_wp2
                  refine bodyPost_ret (v := .tuple #[.agg #[.int .i64 0, .slice none 0 0, .int .i64 0, .int .u64 0, .int .u64 0], .int .i64 0, .int .i64 5]) (by simp [results, Tryd.results11, go_sem, r0, r1, r2, r3, r4]) rfl ?_
                  exact parse_zero F.out (below_five hwr (Nat.le_refl _))
                · have x0 : ¬ (99 : Int) < (n0 : Int) := by omega
                  have x1 : ¬ (2147483647 : Int) < (n1 : Int) := by omega
                  have v0 : IntKind.i64.wrap (n0 : Int) = (recOf ns).step := by rw [wrap_small _ (by omega) (by omega)]; exact E0.out
                  have v1 : IntKind.i64.wrap (n1 : Int) = (recOf ns).rate := by rw [wrap_small _ (by omega) (by omega)]; exact E1.out
                  have v2 : (n2 : Int) = (recOf ns).root := E2.out
                  have v3 : (n3 : Int) = (recOf ns).chain := E3.out
                  go_upto_region 20 with fail
                  have S0 := HSV.out wr.drew ((Below.refl _ _).drew)
                  have S1 := fun o => HSV.out ((wr.alloc o).drew) (((Below.refl _ _).alloc (Nat.le_refl _) o).drew)
                  go_cut [12] (fun v wx => ∃ gb, v = .pointer (some ⟨gb, 0, none⟩) ∧ wr.heap.size ≤ gb ∧ Blk wx gb 25 #[.int .i64 (recOf ns).step, .slice none 0 0, .int .i64 (recOf ns).rate, .int .u64 (recOf ns).root, .int .u64 (recOf ns).chain] ∧ Below wr.heap.size wr wx)
                  case first =>
                    clear hgn1 hgn2 HNV HPC2 HPG2 HZ3 HBD hsz hi hs HZ2 hb hbs ht hwr c0 c1 HBJ HBAD HGP hpz E0 E1 E2 E3 HSV
                    go_region_held3 (fun W => W.cell? ⟨gn, 0, none⟩ = some (.int .u64 (n0 : Int)) ∧ W.cell? ⟨gn, 1, none⟩ = some (.int .u64 (n1 : Int)) ∧ W.cell? ⟨gn, 2, none⟩ = some (.int .u64 (n2 : Int)) ∧ W.cell? ⟨gn, 3, none⟩ = some (.int .u64 (n3 : Int))) (first | (with_reducible exact S0) | (with_reducible exact S1 _) | fail) (fail)
                    all_goals
                      go_wp2
                      go_meet
                      case rel => exact ⟨wr.heap.size, rfl, Nat.le_refl _, (Blk.made wr _ _ : _), ((Below.refl _ _).alloc (Nat.le_refl _) _).drew⟩
                  case rest =>
                    obtain ⟨gb, rfl, hgb, hblk, hbc⟩ := hcut
                    clear S0 S1 v0 v1 v2 v3 E0 E1 E2 E3 z0 z0b z0c z0d z1 z2 z3 x0 x1 c0 c1 HSV HBAD hpz h4 h99 hT
                    obtain ⟨m, hm⟩ : ∃ m, q = m + 4 := ⟨q - 4, by omega⟩
                    obtain ⟨z, hz⟩ : ∃ z : World, z = wc := ⟨_, rfl⟩
                    rw [← hz] at hbc hblk ⊢
                    clear hz
                    obtain ⟨X, hX⟩ : ∃ X : World, X = wr := ⟨_, rfl⟩
                    rw [← hX] at hbc hrs hgb hgn2 hb hbs hwr HNV HZ3
                    clear hX
                    have hzs := hbc.size
                    have hgz := hblk.lt
                    have HBL := Lib.hid (show (recOf ns).batch.length = m from by unfold recOf; simp [hnl]; omega)
                    have HVV := Lib.hid (fun p (hp : p < m) W (h : Below X.heap.size X W) => show ∃ N : Nat, W.cell? ⟨gn, p + 4, none⟩ = some (.int .u64 (N : Int)) ∧ (N ≤ 99 → IntKind.i64.wrap (N : Int) = at0 (recOf ns).batch p) ∧ (99 < N → goodR (recOf ns) = false) ∧ N < 10000000000000000000 from ⟨ns[p + 4]?.getD 0, HNV.out W h (p + 4) (by omega), fun h9 => by
                      rw [wrap_small _ (by omega) (by omega)]
                      unfold recOf at0
                      simp only [List.getElem?_map, List.getElem?_drop, List.getElem?_eq_getElem (show 4 + p < ns.length by omega), Option.map_some, Option.getD_some, Nat.add_comm p 4], fun h99 => by
                        cases hg : goodR (recOf ns)
                        · rfl
                        · have := (HGP.out hg).2.2 p (by omega)
                          rw [Nat.add_comm] at this
                          omega, HBJ.out _ (by omega)⟩)
                    have HLR := Lib.hid (fun W A' k' (h : Ints .i64 W A' m (recOf ns).batch) => ref_Line (recOf ns) A' m k' W h (by omega) (by unfold recOf; simp) (by unfold recOf; simp))
                    obtain ⟨R, hR⟩ : ∃ R, R = recOf ns := ⟨_, rfl⟩
                    rw [← hR] at hblk HBL HVV HLR HPC2 HPG2
                    clear hR HNV HBD hnl HGP HBJ
                    have O0 : z.ownsRow z.heap.size 3 1 (.slice none 0 0) 0 ((R.batch.take 0).map (.int .i64)) := World.ownsRow_nil _ _ _ _
                    have HM := Lib.hid hm
                    have HMB := Lib.hid (show m ≤ 5000000000 from by omega)
                    clear hm
                    go_wp2
                    go_loopw [13] (fun j w3 => ∃ p I : Nat, p ≤ m ∧ I = p + 4 ∧ j = .int .i64 (I : Int) ∧ PInv R gb z.heap.size X p w3) (fun j _ => q - (intOf j).toNat)
                    case atStart => exact ⟨0, 4, by omega, rfl, rfl, none, 0, hblk, O0, hbc, Nat.le_refl _⟩
                    case round =>
                      clear hblk O0 hbc
                      obtain ⟨p, I, hp, hI, rfl, Bv, kb, hblk, hown, hb3, hs3⟩ := hrel
                      have HI := Lib.hid hI
                      obtain ⟨⟨r0, r1, r2, r3, r4⟩, f0, f1, f2, f3, f4⟩ := hblk.five
                      have hwX := hwr.trans (hb3.mono hwr.size)
                      have hzr := HZ3.below hb3 HZ3.lt
                      by_cases hlt : p < m
                      · obtain ⟨N, hcN, hw, hbad, _⟩ := HVV.out p hlt wr hb3
                        rw [← hI] at hcN
                        have y0 : (0 : Int) ≤ (I : Int) := by omega
                        have y1 : (I : Int) < (q : Int) := by have := HM.out; omega
                        have y2 := HMB.out
                        clear hI
                        have HCN := Lib.hid (fun o => show (wr.alloc o).cell? ⟨gn, I, none⟩ = some (.int .u64 (N : Int)) from (((Below.refl wr.heap.size wr).alloc (Nat.le_refl _) o).cell (block_lt_of_cell hcN)).trans hcN)
                        have HCB := Lib.hid (fun o => show (wr.alloc o).cell? ⟨gb, 1, none⟩ = some (.slice Bv p kb) from (((Below.refl wr.heap.size wr).alloc (Nat.le_refl _) o).cell (block_lt_of_cell r1)).trans r1)
                        by_cases h9 : 99 < N
                        · have F := Lib.hid (HPC2.out (hbad h9))
                          have x9 : (99 : Int) < (N : Int) := by omega
                          obtain ⟨⟨t0, t1, t2, t3, t4⟩, q0, q1, q2, q3, q4⟩ := hzr.five
                          clear hw hbad h9
                          go_wp2
                          refine bodyPost_ret (v := .tuple #[.agg #[.int .i64 0, .slice none 0 0, .int .i64 0, .int .u64 0, .int .u64 0], .int .i64 0, .int .i64 5]) (by simp [results, Tryd.results11, go_sem, t0, t1, t2, t3, t4]) rfl ?_
                          exact parse_zero F.out (below_five hwX (Nat.le_refl _))
                        · have x9 : ¬ (99 : Int) < (N : Int) := by omega
                          have hv := hw (by omega)
                          have G := Lib.hid (show (R.batch.take (p + 1)).map (Value.int .i64) = (R.batch.take p).map (Value.int .i64) ++ [.int .i64 (at0 R.batch p)] from by
                            rw [List.take_add_one]
                            unfold at0
                            rw [List.getElem?_eq_getElem (by rw [HBL.out]; omega), List.map_append]
                            rfl)
                          obtain ⟨v, hvv⟩ : ∃ v, v = at0 R.batch p := ⟨_, rfl⟩
                          rw [← hvv] at hv G
                          have o1 := HCN.out (.cells #[.int .i64 v] 3)
                          have o2 := HCB.out (.cells #[.int .i64 v] 3)
                          clear hvv hw hbad h9
                          go_upto_region 26 with fail
                          go_region_law (first
                            | (refine step_append_lies _ (by rfl) _ _ _ (by rfl) z.heap.size 3 j0 _ 1 8 Tryd.underlying22 hj0 jz0 jz1 jz2 rfl (by omega) (.slice Bv p kb) p _ (by rfl) (by exact (own_drew hown).alloc _) ⟨wr.heap.size, 0, none⟩ 1 1 [.int .i64 v] (by rfl) (by rfl) (World.news_of_block (cs := #[.int .i64 v]) (t := 3) (fr := (0, 0)) (heap_alloc_new _ _)) (by simp [Value.oneCell']) (by omega) (by unfold maxLen; omega) (by omega) (by simp; omega) (wr.heap.size + 1) (by simp) ?_; intro gg cp w4 hown1 hgrow hat hlt1; have hblk2 : Blk w4 gb 25 #[.int .i64 R.step, .slice Bv p kb, .int .i64 R.rate, .int .u64 R.root, .int .u64 R.chain] := Blk.grown (w := (wr.alloc (.cells #[.int .i64 v] 3)).drew) (hblk.alloc (.cells #[.int .i64 v] 3)) hgrow (fun e => by have := (hown.lt gb e.symm).1; omega); have s1 := hblk2.cell 1; have s2 := hblk2.frozen 1))
                          all_goals
                            have hb2 : Below X.heap.size X w4 := Below.grown ((hb3.alloc (by have := hb3.size; omega) _).drew) hgrow (by simp; omega) (fun x hx => Nat.le_trans hzs (hown.lt x hx).1)
                            have hsz2 : z.heap.size ≤ w4.heap.size := Nat.le_trans (by simp; omega) hgrow.size
                            rw [show List.map (Value.int .i64) (List.take p R.batch) ++ [.int .i64 v] = (R.batch.take (p + 1)).map (Value.int .i64) from G.out.symm] at hown1
                            clear hgrow hat s1 s2
                            go_wp2
                            go_roundw
                            case rel => exact ⟨p + 1, I + 1, by omega, by have := HI.out; omega, by go_num, some ⟨gg, 0, none⟩, cp, hblk2.put 1 _, own_far (p := ⟨gb, 1, none⟩) hown1 hgz _, hb2.setCell (p := ⟨gb, 1, none⟩) hgb _, by rw [World.size_setCell]; omega⟩
                            case measure => simp [intOf]; omega
                      · obtain rfl : p = m := by omega
                        rw [List.take_of_length_le (by rw [HBL.out]; omega)] at hown
                        have HRI := Lib.hid (HLR.out wr Bv kb (Ints.of_own hown HBL.out))
                        have hXw := hwr.size
                        have e5 : IntKind.i64.wrap ((i : Int) + 1) = ((i + 1 : Nat) : Int) := by rw [wrap_small _ (by omega) (by omega)]; omega
                        have e6 : I = q := by have := HM.out; omega
                        clear HVV HLR hI
                        go_wp2_with fail
                        refine HRI.out.mono ?_
                        rintro e u ⟨rfl, hbu⟩
                        have hwu := hwX.trans (hbu.mono hwX.size)
                        obtain ⟨⟨t0, t1, t2, t3, t4⟩, q0, q1, q2, q3, q4⟩ := (hzr.below hbu hzr.lt).five
                        cases hg : goodR R
                        · have F := Lib.hid (HPC2.out hg)
                          clear hg r0 r1 r2 r3 r4 f0 f1 f2 f3 f4
                          go_wp2
                          refine bodyPost_ret (v := .tuple #[.agg #[.int .i64 0, .slice none 0 0, .int .i64 0, .int .u64 0, .int .u64 0], .int .i64 0, .int .i64 5]) (by simp [results, Tryd.results11, go_sem, t0, t1, t2, t3, t4]) rfl ?_
                          exact parse_zero F.out (below_five hwu (Nat.le_refl _))
                        · have F := Lib.hid (HPG2.out hg)
                          obtain ⟨⟨r0, r1, r2, r3, r4⟩, f0, f1, f2, f3, f4⟩ := (hblk.below hbu hblk.lt).five
                          have hownu := own_below hown hbu
                          clear hg hown
                          go_wp2
                          refine bodyPost_ret (v := .tuple #[.agg #[.int .i64 R.step, .slice Bv p kb, .int .i64 R.rate, .int .u64 R.root, .int .u64 R.chain], .int .i64 ((i + 1 : Nat) : Int), .int .i64 0]) (by simp [results, Tryd.results11, go_sem, t0, t1, t2, t3, t4]) rfl ?_
                          unfold ParsePost
                          rw [F.out]
                          refine ⟨Bv, kb, ?_, ?_, below_five hwu (Nat.le_refl _)⟩
                          · show _ = Ending.returned (.tuple #[.agg #[.int .i64 R.step, .slice Bv R.batch.length kb, .int .i64 R.rate, .int .u64 R.root, .int .u64 R.chain], .int .i64 ((i + 1 : Nat) : Int), .int .i64 0])
                            rw [HBL.out]
                          · show World.ownsRow _ _ _ _ (.slice Bv R.batch.length kb) R.batch.length (R.batch.map (.int .i64))
                            rw [HBL.out]
                            exact own_base (own_five hownu (by omega)) (by omega)
end Go.Proofs.YtblkpibbcapdeaaDoor
