/- Appending to lists that a call keeps: nothing is appended; cells that come in. No program in sight. -/
import Derived.Test.YtgodgedhddngeaaGreatDoorJrnA
import Derived.Test.YtgodgedhddngeaaGreatDoorOptU
import Derived.Test.YtgodgedhddngeaaGreatDoorRefG
set_option maxRecDepth 100000
set_option maxHeartbeats 16000000
namespace Go.Proofs.YtgodgedhddngeaaGreatDoor
open Go.RowKit Pl
theorem step_append_nothing {P : Program} {ops : Array Oper} {o : Oper} {a : Act} {w : World} {K : Act → World → Prop} {Q : Exit → Act → World → Prop} {E : Prop} (hgd : o.guard = none) (s x : Operand) (t : TypeId)
  (ho : o.op = .call { callee := .builtin .append, args := #[s, x], argTypes := #[t, t] }) (base : Nat) (e : TypeId) (i : TypeInfo) (size : Nat) (ht : P.underlying t = some (.slice e)) (hi : P.info? e = some i)
  (v : Value) (n : Nat) (xs : List Value) (hs : a.eval s = v) (hown : w.ownsRow base e size v n xs) (A : Option Addr) (c : Nat) (hx : a.eval x = .slice A 0 c) (h : K (a.put o.dst v) w) :
  if Region.wanted o (yielded ops a.tmps) = true then Oper.wp P o a w K Q else E := by
 have hw : Region.wanted o (yielded ops a.tmps) = true := by simp [Region.wanted, hgd]
 rw [if_pos hw]
 have hrun : (Builtin.append_ #[t, t] o.type #[v, .slice A 0 c]).run P w = .ok v w := by
  rcases hown.2 with ⟨rfl, rfl⟩ | ⟨g, cap, cur, rfl, _, _, hnc, _⟩
  ·cases A <;> simp [Builtin.append_, run_underlying ht, sizeOf, typeInfo, hi, Builtin.lenOf, Builtin.firstCells, loadCells, loadCellsFrom]
  ·cases A <;> simp [Builtin.append_, run_underlying ht, sizeOf, typeInfo, hi, Builtin.lenOf, Builtin.firstCells, loadCells, loadCellsFrom, hnc, storeCells]
 unfold Oper.wp
 simp [execOp, ho, resolve, invoke, builtin, hs, hx, hrun, Result.andThen]
 exact h
theorem Ints.news {k : IntKind} {w : World} {ad : Addr} {n : Nat} {xs : List Int} (h : Ints k w (some ad) n xs) : ∀ j u, (xs.map (Value.int k))[j]? = some u → w.cell? (ad.add j) = some u := by
 intro j u hu
 rw [List.getElem?_map] at hu
 have hj : j < xs.length := by
  rcases Nat.lt_or_ge j xs.length with h | h
  ·exact h
  ·rw [List.getElem?_eq_none h] at hu; cases hu
 rw [List.getElem?_eq_getElem hj, Option.map_some] at hu
 cases hu
 obtain ⟨b, off, e, hb, hc⟩ := h.cells (by rw [← h.len]; omega)
 cases e
 rw [Go.WideShapes.add_plain, hc j (by rw [← h.len]; exact hj), at0_getElem _ _ hj]
theorem step_append_ints {P : Program} {ops : Array Oper} {o : Oper} {a : Act} {w : World} {K : Act → World → Prop} {Q : Exit → Act → World → Prop} {E : Prop} (hgd : o.guard = none) (s x : Operand) (t : TypeId)
  (ho : o.op = .call { callee := .builtin .append, args := #[s, x], argTypes := #[t, t] }) (base : Nat) (e : TypeId) (i : TypeInfo) (z : Value) (bytes : Nat) (ht : P.underlying t = some (.slice e)) (hi : P.info? e = some i) (hz : i.zero = some z)
  (hsize : i.size = 1) (hby : i.bytes = bytes) (hzs : z.cells.size = 1) (k : IntKind) (v : Value) (n : Nat) (xs : List Value) (hs : a.eval s = v) (hown : w.ownsRow base e 1 v n xs) (A : Option Addr) (m c : Nat) (ys : List Int) (hx : a.eval x = .slice A m c) (hI : Ints k w A m ys)
  (h63 : n + m ≤ maxLen) (hbytes : (n + m) * bytes ≤ 140737488355328) (hbase : base ≤ w.heap.size)
  (h : ∀ A' c' w', w'.ownsRow base e 1 (.slice A' (n + m) c') (n + m) (xs ++ ys.map (.int k)) → w.grownBy w' v.ownBlock → K (a.put o.dst (.slice A' (n + m) c')) w') :
  if Region.wanted o (yielded ops a.tmps) = true then Oper.wp P o a w K Q else E := by
 rcases Nat.eq_zero_or_pos m with h0 | h0
 ·subst h0
  obtain rfl : ys = [] := List.eq_nil_of_length_eq_zero hI.len
  obtain ⟨A', c', rfl⟩ := own_slice hown
  refine step_append_nothing hgd s x t ho base e i 1 ht hi _ n xs hs hown A c hx (h A' c' w ?_ ⟨rfl, rfl, rfl, Nat.le_refl _, fun _ _ _ => rfl⟩)
  simpa using hown
 ·obtain ⟨b, off, rfl, hb, hc⟩ := hI.cells h0
  refine step_append_lies w hgd s x t ho base e i z 1 bytes ht hi hz hsize hby hzs (by omega) v n xs hs hown _ m c (ys.map (.int k)) hx (by rw [List.length_map, hI.len, Nat.mul_one]) (Ints.news hI) (ints_oneCell _ _) h0 h63 hbytes hbase _ rfl ?_
  intro g cap w' h1 h2 _ _
  exact h _ _ _ h1 h2
theorem ref_StateRoot (A1 A2 : Option Addr) (n1 k1 n2 k2 : Nat) (wt mv : List Int) (w : World) (q1 : Ints .i64 w A1 n1 wt) (q2 : Ints .i64 w A2 n2 mv) (h1 : 1 ≤ n1 + n2) (h2 : n1 + n2 ≤ 200) :
  Calls Tryz.prog 147 #[.agg #[.slice A1 n1 k1, .slice A2 n2 k2]] w fun e w' => e = .returned (.int .u64 (rootO (wt ++ mv))) ∧ Below w.heap.size w w' := by
 obtain ⟨i0, hi0, hz0, hz1, hz2⟩ := info_parts int_info
 have HL : (wt ++ mv).length = n1 + n2 := by rw [List.length_append, q1.len, q2.len]
 have HRO := Lib.hid (show rootI (wt ++ mv) = rootO (wt ++ mv) by unfold rootO; rw [if_pos (by rw [HL]; unfold lvE; rw [if_neg (by omega), if_neg (by omega)])])
 have HRT := Lib.hid (fun A c W (q : Ints .i64 W A (n1 + n2) (wt ++ mv)) (hc : n1 + n2 ≤ c) => ref_Root A (n1 + n2) c (wt ++ mv) W q h1 h2 hc)
 rw [HRO.out] at HRT
 have HB := Blk.made w 106 #[.slice A1 n1 k1, .slice A2 n2 k2]
 have hbw : Below w.heap.size w (w.alloc (.cells #[.slice A1 n1 k1, .slice A2 n2 k2] 106)) := (Below.refl _ _).alloc (Nat.le_refl _) _
 have p1 := q1.below hbw
 have p2 := q2.below hbw
 obtain ⟨⟨f0, f1⟩, _⟩ := HB.two
 have hm : n1 + n2 ≤ 200 := h2
 have hm1 : n1 ≤ 200 := by omega
 have HLL := Lib.hid HL
 have HSW := Lib.hid (show (wt.map (Value.int .i64)) ++ mv.map (Value.int .i64) = (wt ++ mv).map (.int .i64) by rw [List.map_append])
 obtain ⟨x, hx⟩ : ∃ x, x = w.alloc (.cells #[.slice A1 n1 k1, .slice A2 n2 k2] 106) := ⟨_, rfl⟩
 have hlx : w.heap.size < x.heap.size := by rw [hx]; simp
 rw [← hx] at p1 p2 f0 f1 HB hbw
 have HX := Lib.hid hx
 clear hx q1 q2 HL h1 h2 HRO
 go_enter Tryz.func147, Tryz.ntmps147
 go_upto_region 1 with fail
 rw [← HX.out]
 go_region_law (first
  | (refine step_append_ints (by rfl) _ _ _ (by rfl) x.heap.size 3 i0 (.int .i64 0) 8 Tryz.underlying56 hi0 hz0 hz1 hz2 rfl .i64 (.slice none 0 0) 0 [] (by rfl) (World.ownsRow_nil _ _ _ _) A1 n1 k1 wt (by rfl) (p1.drew) (by unfold maxLen; omega) (by omega) (by exact Nat.le_refl _) ?_; intro Z zc w3 hown hgrow; rw [Nat.zero_add, List.nil_append] at hown; have b3 : Below x.heap.size x w3 := Below.grown ((Below.refl x.heap.size x).drew) hgrow (by exact Nat.le_refl _) (fun y hy => by cases hy); have y0 : w3.cell? ⟨w.heap.size, 0, none⟩ = some (.slice A1 n1 k1) := (b3.cell (p := ⟨w.heap.size, 0, none⟩) hlx).trans f0; have y1 : w3.cell? ⟨w.heap.size, 1, none⟩ = some (.slice A2 n2 k2) := (b3.cell (p := ⟨w.heap.size, 1, none⟩) hlx).trans f1; have r2 := p2.below b3; have s3 := b3.size)
  | (refine step_append_ints (by rfl) _ _ _ (by rfl) x.heap.size 3 i0 (.int .i64 0) 8 Tryz.underlying56 hi0 hz0 hz1 hz2 rfl .i64 (.slice Z n1 zc) n1 _ (by rfl) hown A2 n2 k2 mv (by rfl) r2 (by unfold maxLen; omega) (by omega) s3 ?_; intro S sc w4 hown4 hgrow4; have b4 : Below x.heap.size x w4 := Below.grown b3 hgrow4 s3 (fun y hy => (hown.lt y hy).1); have I4 : Ints .i64 w4 S (n1 + n2) (wt ++ mv) ∧ n1 + n2 ≤ sc := (by rw [HSW.out] at hown4; exact ⟨Ints.of_own hown4 HLL.out, own_capT hown4⟩))
  | (go_simp; go_at_call 145; (refine (HRT.out _ _ _ I4.1 I4.2).mono ?_); rintro e w5 ⟨rfl, hb5⟩)
  | fail)
 all_goals
  go_wp2
  go_ret
  exact ⟨rfl, hbw.trans ((bel_trans b4 hb5).mono hbw.size)⟩
theorem rbatch_fine (c : Cfg) (h : c.Ok) (ds : Data) (n : Nat) (hn : ds.length = n) (n1 : 1 ≤ n) (n16 : n ≤ 16) (s0 : 0 ≤ c.seed) (s1 : c.seed < 18446744073709551616) (step : Nat) (hst : (step : Int) < c.steps) (w : World) :
  Calls Tryz.prog 148 #[.int .u64 c.seed, .int .i64 c.batch, .int .i64 n, .int .i64 step] w (fun e w' => ∃ A k, e = .returned (.slice A c.batch.toNat k) ∧
   w'.ownsRow w.heap.size 3 1 (.slice A c.batch.toNat k) c.batch.toNat (((batI c ds step).map fun (n : Nat) => (n : Int)).map (.int .i64)) ∧ Below w.heap.size w w') := by
 have hb := h.ba
 have hs := h.st
 have e : c.batch = (c.batch.toNat : Int) := by omega
 have H := ref_Batch c.seed c.batch.toNat n step w s0 s1 (by omega) (by omega) n1 n16 (by omega)
 rw [← e] at H
 refine H.mono ?_
 rintro e w' ⟨A, k, rfl, hO, hb⟩
 refine ⟨A, k, rfl, ?_, hb⟩
 have e2 : batI c ds step = batchP c.seed.toNat c.batch.toNat n step := by unfold batI nextB; rw [hn]
 rw [e2, List.map_map]
 exact hO
theorem rrate_fine (c : Cfg) (hE : c.E = 0) (step : Nat) (hst : (step : Int) < c.steps) (w : World) :
  Calls Tryz.prog 149 #[.agg #[.int .i64 c.ci, .int .i64 c.ch, .int .i64 c.co, .int .u64 c.seed, .int .i64 c.batch, .int .i64 c.steps, .int .i64 c.rate, .int .i64 c.decay, .int .i64 c.how, .int .i64 c.keep, .int .i64 c.clip], .int .i64 step] w fun e w' => e = .returned (.int .i64 (ratI c step)) ∧ Below w.heap.size w w' :=
 ref_Rate c.ci c.ch c.co c.seed c.batch c.steps c.rate c.decay c.how c.keep c.clip step w hE (by omega) (by omega)
theorem ints_piece {w : World} {A : Option Addr} {n : Nat} {xs : List Int} (hx : Ints .i64 w A n xs) (i : Nat) {m : Nat} (h : i + m ≤ n) : Ints .i64 w (A.map (·.add i)) m ((xs.drop i).take m) :=
 hx.cut h fun _ b off e => by rw [e]; simp [Go.WideShapes.add_plain]
def PupIn (w : World) (P : Pup) (e : Ending) (w' : World) : Prop :=
 ∃ A1 k1 A2 k2 B1 d1 B2 d2, e = .returned (.agg #[.int .i64 P.r1, .int .i64 P.c1, .slice A1 P.a1.length k1, .int .i64 P.r2, .int .i64 P.c2, .slice A2 P.a2.length k2, .slice B1 P.b1.length d1, .slice B2 P.b2.length d2]) ∧
  Ints .i64 w' A1 P.a1.length P.a1 ∧ Ints .i64 w' A2 P.a2.length P.a2 ∧ Ints .i64 w' B1 P.b1.length P.b1 ∧ Ints .i64 w' B2 P.b2.length P.b2 ∧ Below w.heap.size w w'
theorem rshapeN (i h o n : Nat) (C : Option Addr) (cap : Nat) (xs : List Int) (w : World) (hc : n ≤ cap) (hi : 1 ≤ i ∧ i ≤ 4) (hh : 1 ≤ h ∧ h ≤ 4) (ho : 1 ≤ o ∧ o ≤ 4) (hn : n = h * i + h + o * h + o) (hx : Ints .i64 w C n xs) :
  Calls Tryz.prog 64 #[.int .i64 i, .int .i64 h, .int .i64 o, .slice C n cap] w (PupIn w (shapeP i h o xs)) := by
 refine (ref_Shape i h o C n cap w hc hi hh ho (h * i) (o * h) rfl rfl hn).mono ?_
 rintro e w' ⟨rfl, hb⟩
 replace hx := hx.below hb
 have c1 := ints_piece hx 0 (m := h * i) (by omega)
 have c2 := ints_piece hx (h * i + h) (m := o * h) (by omega)
 have c3 := ints_piece hx (h * i) (m := h) (by omega)
 have c4 := ints_piece hx (h * i + h + o * h) (m := o) (by omega)
 have e0 : C.map (·.add 0) = C := by
  cases C with
  | none => rfl
  | some a => rfl
 rw [e0, List.drop_zero] at c1
 have m1 := c1.len
 have m2 := c2.len
 have m3 := c3.len
 have m4 := c4.len
 refine ⟨C, cap, C.map (·.add (h * i + h)), cap - (h * i + h), C.map (·.add (h * i)), cap - h * i, C.map (·.add (h * i + h + o * h)), cap - (h * i + h + o * h), ?_, ?_, ?_, ?_, ?_, hb⟩
 ·simp only [shapeP, m1, m2, m3, m4]
 ·simp only [shapeP]; rw [m1]; exact c1
 ·simp only [shapeP]; rw [m2]; exact c2
 ·simp only [shapeP]; rw [m3]; exact c3
 ·simp only [shapeP]; rw [m4]; exact c4
theorem rshape_fine (c : Cfg) (h : c.Ok) (A : Option Addr) (k : Nat) (wt : List Int) (hk : c.N ≤ k) {w : World} (hA : Ints .i64 w A c.N wt) :
  Calls Tryz.prog 64 #[.int .i64 c.ci, .int .i64 c.ch, .int .i64 c.co, .slice A c.N k] w (PupIn w (shapeP c.ci.toNat c.ch.toNat c.co.toNat wt)) := by
 obtain ⟨⟨e1, a1, a2⟩, ⟨e2, a3, a4⟩, ⟨e3, a5, a6⟩, _⟩ := cfg_nat h
 have H := rshapeN c.ci.toNat c.ch.toNat c.co.toNat c.N A k wt w hk ⟨a1, a2⟩ ⟨a3, a4⟩ ⟨a5, a6⟩ (cfg_N h) hA
 rw [← e1, ← e2, ← e3] at H
 exact H
theorem rgrad_fine (c : Cfg) (h : c.Ok) (wt : List Int) (hl : wt.length = c.N) (p : List Int × List Int) (hp : exB c.ci c.co p = true) {P : Pup} (hP : P = shapeP c.ci.toNat c.ch.toNat c.co.toNat wt)
  {A1 A2 B1 B2 X T : Option Addr} {k1 k2 d1 d2 ni no xc tc : Nat} {w : World} (i1 : Ints .i64 w A1 P.a1.length P.a1) (i2 : Ints .i64 w A2 P.a2.length P.a2) (j1 : Ints .i64 w B1 P.b1.length P.b1) (j2 : Ints .i64 w B2 P.b2.length P.b2)
  (ix : Ints .i64 w X ni p.1) (it : Ints .i64 w T no p.2) :
  Calls Tryz.prog 151 #[.agg #[.int .i64 P.r1, .int .i64 P.c1, .slice A1 P.a1.length k1, .int .i64 P.r2, .int .i64 P.c2, .slice A2 P.a2.length k2, .slice B1 P.b1.length d1, .slice B2 P.b2.length d2], .agg #[.slice X ni xc, .slice T no tc]] w
   (PupOwn1 w (gradW c.ch.toNat c.ci.toNat c.co.toNat wt p)) := by
 obtain ⟨⟨e1, a1, a2⟩, ⟨e2, a3, a4⟩, ⟨e3, a5, a6⟩, _⟩ := cfg_nat h
 have hN := cfg_N h
 obtain ⟨q1, q2, _, _⟩ := exB_ok hp
 have hni : ni = c.ci.toNat := by have := ix.len; omega
 have hno : no = c.co.toNat := by have := it.len; omega
 subst hni; subst hno
 have er1 : P.r1 = (c.ch.toNat : Int) := by rw [hP]; rfl
 have ec1 : P.c1 = (c.ci.toNat : Int) := by rw [hP]; rfl
 have er2 : P.r2 = (c.co.toNat : Int) := by rw [hP]; rfl
 have ec2 : P.c2 = (c.ch.toNat : Int) := by rw [hP]; rfl
 have l1 : P.a1.length = c.ch.toNat * c.ci.toNat := by rw [hP]; simp only [shapeP, List.length_take]; omega
 have l2 : P.a2.length = c.co.toNat * c.ch.toNat := by rw [hP]; simp only [shapeP, List.length_take, List.length_drop]; omega
 have l3 : P.b1.length = c.ch.toNat := by rw [hP]; simp only [shapeP, List.length_take, List.length_drop]; omega
 have l4 : P.b2.length = c.co.toNat := by rw [hP]; simp only [shapeP, List.length_take, List.length_drop]; omega
 have hg : gradW c.ch.toNat c.ci.toNat c.co.toNat wt p = gradP c.ch.toNat c.ci.toNat c.co.toNat P.a1 P.b1 P.a2 P.b2 p.1 p.2 := by rw [hP]; rfl
 have H := ref_Grad c.ch.toNat c.ci.toNat c.co.toNat A1 P.a1.length k1 P.a1 A2 P.a2.length k2 P.a2 B1 d1 P.b1 B2 d2 P.b2 X xc p.1 T tc p.2 w i1 i2 (l3 ▸ j1) (l4 ▸ j2) ix it ⟨a3, a4⟩ ⟨a1, a2⟩ ⟨a5, a6⟩ l1 l2
 rw [er1, ec1, er2, ec2, l3, l4, hg]
 exact H
theorem rflat_fine (c : Cfg) (h : c.Ok) (wt : List Int) (p : List Int × List Int) (hp : exB c.ci c.co p = true) {P : Pup} (hP : P = gradW c.ch.toNat c.ci.toNat c.co.toNat wt p)
  {A1 A2 B1 B2 : Option Addr} {k1 k2 d1 d2 : Nat} {w : World} (i1 : Ints .i64 w A1 P.a1.length P.a1) (i2 : Ints .i64 w A2 P.a2.length P.a2) (j1 : Ints .i64 w B1 P.b1.length P.b1) (j2 : Ints .i64 w B2 P.b2.length P.b2) :
  Calls Tryz.prog 150 #[.agg #[.int .i64 P.r1, .int .i64 P.c1, .slice A1 P.a1.length k1, .int .i64 P.r2, .int .i64 P.c2, .slice A2 P.a2.length k2, .slice B1 P.b1.length d1, .slice B2 P.b2.length d2]] w
   (fun e w' => ∃ S s, e = .returned (.slice S c.N s) ∧ w'.ownsRow w.heap.size 3 1 (.slice S c.N s) c.N ((gradL c.ch.toNat c.ci.toNat c.co.toNat wt p).map (.int .i64)) ∧ Below w.heap.size w w') := by
 obtain ⟨⟨e1, a1, a2⟩, ⟨e2, a3, a4⟩, ⟨e3, a5, a6⟩, _⟩ := cfg_nat h
 obtain ⟨q1, q2, _, _⟩ := exB_ok hp
 have hlen := gradL_length (H := c.ch.toNat) (I := c.ci.toNat) (O := c.co.toNat) (N := c.N) (wt := wt) (p := p) (by omega) (by rw [h.n, e1, e2, e3]; simp)
 have hfl : gradL c.ch.toNat c.ci.toNat c.co.toNat wt p = flatP P.a1 P.b1 P.a2 P.b2 := by rw [hP]; rfl
 have h40 := h.n40
 have H := ref_Flat P.r1 P.c1 A1 P.a1.length k1 P.a1 P.r2 P.c2 A2 P.a2.length k2 P.a2 B1 P.b1.length d1 P.b1 B2 P.b2.length d2 P.b2 w i1 i2 j1 j2 (by rw [← hfl, hlen]; exact h40)
 rw [← hfl] at H
 refine H.mono ?_
 rintro e w' ⟨S, s, rfl, hI, hb⟩
 rw [hlen] at hI ⊢
 exact ⟨S, s, rfl, hI, hb⟩
theorem rclip_fine (c : Cfg) (h : c.Ok) (g : List Int) (A : Option Addr) (k : Nat) (w : World) (hA : Ints .i64 w A c.N g) :
  Calls Tryz.prog 154 #[.slice A c.N k, .int .i64 c.clip] w (fun e w' => ∃ S s, e = .returned (.slice S c.N s) ∧ Ints .i64 w' S c.N (clipL g c.clip) ∧ Below w.heap.size w w') := by
 have h40 := h.n40
 refine (ref_Clip A c.N k g c.clip w hA (by omega) h.cl.1 h.cl.2).mono ?_
 rintro e w' ⟨S, s, rfl, hO, hb⟩
 have hI := Ints.of_own hO rfl
 rw [clipL_length, hA.len] at hI ⊢
 exact ⟨S, s, rfl, hI, hb⟩
theorem rstep_fine (c : Cfg) (h : c.Ok) (s : List Int × List Int) (g : List Int) (step : Nat) (A1 A2 A3 : Option Addr) (c1 c2 c3 : Nat) (w : World) (i1 : Ints .i64 w A1 c.N s.1) (i2 : Ints .i64 w A2 c.N s.2) (i3 : Ints .i64 w A3 c.N g) :
  Calls Tryz.prog 153 #[.agg #[.int .i64 c.ci, .int .i64 c.ch, .int .i64 c.co, .int .u64 c.seed, .int .i64 c.batch, .int .i64 c.steps, .int .i64 c.rate, .int .i64 c.decay, .int .i64 c.how, .int .i64 c.keep, .int .i64 c.clip], .agg #[.slice A1 c.N c1, .slice A2 c.N c2], .slice A3 c.N c3, .int .i64 (ratI c step)] w (fun e w' => ∃ B1 k1 B2 k2, e = .returned (.agg #[.slice B1 c.N k1, .slice B2 c.N k2]) ∧
   w'.ownsRow w.heap.size 3 1 (.slice B1 c.N k1) c.N ((weightsL c.how c.keep (ratI c step) s.1 s.2 g).map (.int .i64)) ∧ w'.ownsRow w.heap.size 3 1 (.slice B2 c.N k2) c.N ((movesL c.how c.keep s.2 g).map (.int .i64)) ∧ Below w.heap.size w w') :=
 ref_Stepped c.ci c.ch c.co c.seed c.batch c.steps c.rate c.decay c.how c.keep c.clip A1 A2 A3 c.N c1 c2 c3 s.1 s.2 g (ratI c step) w i1 i2 i3 h.n40
theorem rroot_fine (c : Cfg) (h : c.Ok) (s : List Int × List Int) (A1 A2 : Option Addr) (k1 k2 : Nat) (w : World) (q1 : Ints .i64 w A1 c.N s.1) (q2 : Ints .i64 w A2 c.N s.2) :
  Calls Tryz.prog 147 #[.agg #[.slice A1 c.N k1, .slice A2 c.N k2]] w fun e w' => e = .returned (.int .u64 (rootS s)) ∧ Below w.heap.size w w' := by
 have h1 := h.n1
 have h40 := h.n40
 exact ref_StateRoot A1 A2 c.N k1 c.N k2 s.1 s.2 w q1 q2 (by omega) (by omega)
theorem rsize_fine (c : Cfg) (h : c.Ok) (W : World) : Calls Tryz.prog 143 #[.int .i64 c.ci, .int .i64 c.ch, .int .i64 c.co] W fun e w' => e = .returned (.int .i64 (c.N : Int)) ∧ W = w' := by
 rw [h.n]; exact ref_Size c.ci c.ch c.co W h.ci h.ch h.co
def TwoL (x : World) (m : Nat) (fW fM : Nat → Int) (k1 k2 : Nat) (wr : World) : Prop :=
 ∃ v1 v2, Below m x wr ∧ Blk wr m 106 #[v1, v2] ∧ wr.ownsRow (m + 1) 3 1 v1 k1 ((upto fW k1).map (.int .i64)) ∧
  wr.ownsRow (m + 1) 3 1 v2 k2 ((upto fM k2).map (.int .i64)) ∧ (∀ b, v1.ownBlock = some b → v2.ownBlock ≠ some b)
section
variable {x wr u w3 : World} {m k1 k2 gg cp : Nat} {fW fM : Nat → Int} {v1 v2 : Value} {xv : Int}
theorem two_left (hx : fW k1 = xv) (hb : Below m x wr) (hB : Blk wr m 106 #[v1, v2]) (o1 : wr.ownsRow (m + 1) 3 1 v1 k1 ((upto fW k1).map (.int .i64))) (o2 : wr.ownsRow (m + 1) 3 1 v2 k2 ((upto fM k2).map (.int .i64)))
  (hd : ∀ b, v1.ownBlock = some b → v2.ownBlock ≠ some b) (hu : Below wr.heap.size wr u) (o : Obj) (hg : (u.alloc o).grownBy w3 v1.ownBlock)
  (ho : w3.ownsRow (m + 1) 3 1 (.slice (some ⟨gg, 0, none⟩) (k1 + 1) cp) (k1 + 1) ((upto fW k1).map (.int .i64) ++ [.int .i64 xv])) (hat : v1.ownBlock = some gg ∨ gg = u.heap.size + 1) :
  TwoL x m fW fM (k1 + 1) k2 (w3.setCell ⟨m, 0, none⟩ (.slice (some ⟨gg, 0, none⟩) (k1 + 1) cp)) ∧ w3.cell? ⟨m, 0, none⟩ = some v1 ∧ w3.frozen? ⟨m, 0, none⟩ = false ∧ ∀ g t cs, Blk wr g t cs → g < m → Blk w3 g t cs := by
 have hlm := hB.lt
 have hsu := hu.size
 have nb : some m ≠ v1.ownBlock := fun h => by have := (o1.lt _ h.symm).1; omega
 have hB3 : Blk w3 m 106 #[v1, v2] := ((hB.below hu hlm).alloc o).grown hg nb
 have hb3 : Below m x w3 := Below.grown ((hb.trans (hu.mono (by omega))).alloc (by omega) o) hg (by simp; omega) (fun y hy => by have := (o1.lt y hy).1; omega)
 have o2' := ((own_below o2 hu).alloc o).kept hg (by cases h : v2.ownBlock with | none => exact .inl rfl | some q => exact .inr (fun e => hd q e.symm h))
 refine ⟨⟨_, v2, hb3.setCell (p := ⟨m, 0, none⟩) (Nat.le_refl _) _, hB3.put 0 _, ?_, own_far o2' (p := ⟨m, 0, none⟩) (by simp) _, ?_⟩, hB3.cell 0, hB3.frozen 0, fun g t cs h hg' => ((h.below hu h.lt).alloc o).grown hg (fun e => by have := (o1.lt _ e.symm).1; omega)⟩
 ·rw [upto_succ, List.map_append, hx]
  exact own_far ho (p := ⟨m, 0, none⟩) (by simp) _
 ·intro b hb1 hb2
  have e1 : gg = b := by injection hb1
  subst e1
  rcases hat with h | h
  ·exact hd gg h hb2
  ·have := (o2.lt gg hb2).2; omega
theorem two_right (hx : fM k2 = xv) (hb : Below m x wr) (hB : Blk wr m 106 #[v1, v2]) (o1 : wr.ownsRow (m + 1) 3 1 v1 k1 ((upto fW k1).map (.int .i64))) (o2 : wr.ownsRow (m + 1) 3 1 v2 k2 ((upto fM k2).map (.int .i64)))
  (hd : ∀ b, v1.ownBlock = some b → v2.ownBlock ≠ some b) (hu : Below wr.heap.size wr u) (o : Obj) (hg : (u.alloc o).grownBy w3 v2.ownBlock)
  (ho : w3.ownsRow (m + 1) 3 1 (.slice (some ⟨gg, 0, none⟩) (k2 + 1) cp) (k2 + 1) ((upto fM k2).map (.int .i64) ++ [.int .i64 xv])) (hat : v2.ownBlock = some gg ∨ gg = u.heap.size + 1) :
  TwoL x m fW fM k1 (k2 + 1) (w3.setCell ⟨m, 1, none⟩ (.slice (some ⟨gg, 0, none⟩) (k2 + 1) cp)) ∧ w3.cell? ⟨m, 1, none⟩ = some v2 ∧ w3.frozen? ⟨m, 1, none⟩ = false := by
 have hlm := hB.lt
 have hsu := hu.size
 have nb : some m ≠ v2.ownBlock := fun h => by have := (o2.lt _ h.symm).1; omega
 have hB3 : Blk w3 m 106 #[v1, v2] := ((hB.below hu hlm).alloc o).grown hg nb
 have hb3 : Below m x w3 := Below.grown ((hb.trans (hu.mono (by omega))).alloc (by omega) o) hg (by simp; omega) (fun y hy => by have := (o2.lt y hy).1; omega)
 have o1' := ((own_below o1 hu).alloc o).kept hg (by cases h : v1.ownBlock with | none => exact .inl rfl | some q => exact .inr (fun e => hd q h e.symm))
 refine ⟨⟨v1, _, hb3.setCell (p := ⟨m, 1, none⟩) (Nat.le_refl _) _, hB3.put 1 _, own_far o1' (p := ⟨m, 1, none⟩) (by simp) _, ?_, ?_⟩, hB3.cell 1, hB3.frozen 1⟩
 ·rw [upto_succ, List.map_append, hx]
  exact own_far ho (p := ⟨m, 1, none⟩) (by simp) _
 ·intro b hb1 hb2
  have e1 : gg = b := by injection hb2
  subst e1
  rcases hat with h | h
  ·exact hd gg hb1 h
  ·have := (o1.lt gg hb1).2; omega
end
theorem ref_Start (c : Cfg) (w : World) (hE : c.E = 0) (s0 : 0 ≤ c.seed) (s1 : c.seed < 18446744073709551616) :
  Calls Tryz.prog 97 #[.agg #[.int .i64 c.ci, .int .i64 c.ch, .int .i64 c.co, .int .u64 c.seed, .int .i64 c.batch, .int .i64 c.steps, .int .i64 c.rate, .int .i64 c.decay, .int .i64 c.how, .int .i64 c.keep, .int .i64 c.clip]] w fun e w' => ∃ A1 k1 A2 k2, e = .returned (.agg #[.slice A1 c.N k1, .slice A2 c.N k2]) ∧ w'.ownsRow w.heap.size 3 1 (.slice A1 c.N k1) c.N ((start c).1.map (.int .i64)) ∧
   w'.ownsRow w.heap.size 3 1 (.slice A2 c.N k2) c.N ((start c).2.map (.int .i64)) ∧ Below w.heap.size w w' := by
 obtain ⟨i0, hi0, hz0, hz1, hz2⟩ := info_parts int_info
 have hf := Cfg.ok hE
 have HB0 := ((Blk.made w 29 #[.int .i64 c.ci, .int .i64 c.ch, .int .i64 c.co, .int .u64 c.seed, .int .i64 c.batch, .int .i64 c.steps, .int .i64 c.rate, .int .i64 c.decay, .int .i64 c.how, .int .i64 c.keep, .int .i64 c.clip]).alloc (.cells #[.slice none 0 0, .slice none 0 0] 106)).alloc (.cells #[.slice none 0 0, .slice none 0 0] 106)
 have HB1 := (Blk.made' (w.alloc (.cells #[.int .i64 c.ci, .int .i64 c.ch, .int .i64 c.co, .int .u64 c.seed, .int .i64 c.batch, .int .i64 c.steps, .int .i64 c.rate, .int .i64 c.decay, .int .i64 c.how, .int .i64 c.keep, .int .i64 c.clip] 29)) 106 #[.slice none 0 0, .slice none 0 0] (g := w.heap.size + 1) (by simp)).alloc (.cells #[.slice none 0 0, .slice none 0 0] 106)
 have HB2 := Blk.made' ((w.alloc (.cells #[.int .i64 c.ci, .int .i64 c.ch, .int .i64 c.co, .int .u64 c.seed, .int .i64 c.batch, .int .i64 c.steps, .int .i64 c.rate, .int .i64 c.decay, .int .i64 c.how, .int .i64 c.keep, .int .i64 c.clip] 29)).alloc (.cells #[.slice none 0 0, .slice none 0 0] 106)) 106 #[.slice none 0 0, .slice none 0 0] (g := w.heap.size + 1 + 1) (by simp)
 have hbw : Below w.heap.size w (((w.alloc (.cells #[.int .i64 c.ci, .int .i64 c.ch, .int .i64 c.co, .int .u64 c.seed, .int .i64 c.batch, .int .i64 c.steps, .int .i64 c.rate, .int .i64 c.decay, .int .i64 c.how, .int .i64 c.keep, .int .i64 c.clip] 29)).alloc (.cells #[.slice none 0 0, .slice none 0 0] 106)).alloc (.cells #[.slice none 0 0, .slice none 0 0] 106)) := (by repeat (first | exact Below.refl _ _ | assumption | refine bel_drewN ?_ _ | refine Below.drew ?_ | (refine Below.alloc ?_ (by simp <;> omega) _) | (refine Below.setCell ?_ (by simp <;> omega) _)))
 have HS := Lib.hid (fun W => rsize_fine c hf W)
 have HST := Lib.hid (show (start c).1 = upto (fun i : Nat => wordI c.seed ((1000 + i : Nat) : Int) % 131073 - 65536) c.N ∧ (start c).2 = upto (fun _ => 0) c.N from ⟨rfl, rfl⟩)
 have n40 := hf.n40
 obtain ⟨N, hN⟩ : ∃ N, N = c.N := ⟨_, rfl⟩
 rw [← hN] at HS n40 HST ⊢
 clear hE hf hN
 go_enter Tryz.func97, Tryz.ntmps97
 go_wp2
 obtain ⟨x, hX⟩ : ∃ x, x = (((w.alloc (.cells #[.int .i64 c.ci, .int .i64 c.ch, .int .i64 c.co, .int .u64 c.seed, .int .i64 c.batch, .int .i64 c.steps, .int .i64 c.rate, .int .i64 c.decay, .int .i64 c.how, .int .i64 c.keep, .int .i64 c.clip] 29)).alloc (.cells #[.slice none 0 0, .slice none 0 0] 106)).alloc (.cells #[.slice none 0 0, .slice none 0 0] 106)) := ⟨_, rfl⟩
 rw [← hX] at HB0 HB1 HB2 hbw ⊢
 clear hX
 obtain ⟨m, hm⟩ : ∃ m, m = w.heap.size + 1 + 1 := ⟨_, rfl⟩
 have HM := Lib.hid hm
 have hmw : w.heap.size + 1 < m := by omega
 rw [← hm] at HB2 ⊢
 clear hm
 go_loopw [4] (fun i wr => ∃ k : Nat, k ≤ N ∧ i = .int .i64 k ∧ TwoL x m (fun i : Nat => wordI c.seed ((1000 + i : Nat) : Int) % 131073 - 65536) (fun _ => 0) k k wr) (fun i _ => N - (intOf i).toNat)
 case atStart => exact ⟨0, Nat.zero_le _, rfl, _, _, Below.refl _ _, HB2, World.ownsRow_nil _ _ _ _, World.ownsRow_nil _ _ _ _, fun _ h => (by cases h)⟩
 case round =>
  clear HB2
  obtain ⟨k, hk, rfl, v1, v2, hb, hblk, o1, o2, hd⟩ := hrel
  have hbx := hbw.trans (hb.mono (by omega))
  have HC := HB0.below hb (by omega)
  obtain ⟨d0, d1, d2, d3, _⟩ := HC.cfg
  by_cases hlt : k < N
  ·have c0 : wr.cell? ⟨m, 0, none⟩ = some v1 := hblk.cell 0
   have ltm := hblk.lt
   have ltc : w.heap.size < wr.heap.size := HC.lt
   have W1 := ofI_lo 2 [c.seed, ((1000 + k : Nat) : Int)]
   have W2 := ofI_hi 2 [c.seed, ((1000 + k : Nat) : Int)]
   obtain ⟨y, hy⟩ : ∃ y, y = wordI c.seed ((1000 + k : Nat) : Int) := ⟨_, rfl⟩
   have HW := Lib.hid (fun W => show Calls Tryz.prog 144 #[.int .u64 c.seed, .int .u64 (1000 + (k : Int))] W fun e w' => e = .returned (.int .u64 y) ∧ Below W.heap.size W w' from by
    rw [hy, show ((1000 + k : Nat) : Int) = 1000 + (k : Int) by omega]
    exact ref_WordD c.seed (1000 + (k : Int)) W s0 s1 (by omega) (by omega))
   have X0 : 0 ≤ y := by rw [hy]; exact W1
   have wk1 : IntKind.u64.wrap (k : Int) = (k : Int) := wrap_u64_in (by omega) (by omega)
   have wk2 : IntKind.u64.wrap (1000 + (k : Int)) = 1000 + (k : Int) := wrap_u64_in (by omega) (by omega)
   have wk3 : IntKind.u64.wrap (1000 + IntKind.u64.wrap (k : Int)) = 1000 + (k : Int) := by rw [wk1, wk2]
   have HWK1 := Lib.hid wk1
   have HWK2 := Lib.hid wk2
   have HWK3 := Lib.hid wk3
   clear wk1 wk2 wk3
   obtain ⟨r, hr⟩ : ∃ r, y % 131073 = r := ⟨_, rfl⟩
   have hr' : y.tmod 131073 = r := by rw [Int.tmod_eq_emod_of_nonneg X0]; exact hr
   have R0 : 0 ≤ r ∧ r < 131073 := by omega
   have FK := Lib.hid (show (fun i : Nat => wordI c.seed ((1000 + i : Nat) : Int) % 131073 - 65536) k = IntKind.i64.wrap (IntKind.i64.wrap r - 65536) by rw [wrap_weight R0.1 R0.2]; show wordI c.seed ((1000 + k : Nat) : Int) % 131073 - 65536 = _; rw [← hy, hr])
   obtain ⟨f, hf⟩ : ∃ f, f = (fun i : Nat => wordI c.seed ((1000 + i : Nat) : Int) % 131073 - 65536) := ⟨_, rfl⟩
   rw [← hf] at FK o1 ⊢
   obtain ⟨r1, r2⟩ := R0
   have HDD := Lib.hid hd
   clear hy hr W1 W2 hf hd
   go_wp2_with (go_at_call 143; refine (HS.out _).mono ?_; rintro e w' ⟨rfl, rfl⟩)
   go_region_law (first
    | (go_simp; go_at_call 144; (first | rw [HWK3.out] | rw [HWK2.out] | skip); (with_reducible refine (HW.out _).mono ?_); rintro e u1 ⟨rfl, hb1⟩; have y0 := (hb1.cell (p := ⟨m, 0, none⟩) ltm).trans c0; have y3 := (hb1.cell (p := ⟨w.heap.size, 3, none⟩) ltc).trans d3; have hb1' : Below wr.heap.size wr u1 := bel_trans ((Below.refl _ _).drew) hb1; have OW := own_below o1 hb1'; have hsz1 := hb1'.size; have y0' : ∀ o, (u1.alloc o).cell? ⟨m, 0, none⟩ = some v1 := fun o => ((hblk.below hb1' ltm).alloc o).cell 0)
    | (refine step_append_lies _ (by rfl) _ _ _ (by rfl) (m + 1) 3 i0 _ 1 8 Tryz.underlying56 hi0 hz0 hz1 hz2 rfl (by omega) v1 k _ (by rfl) (by exact OW.alloc _) ⟨u1.heap.size, 0, none⟩ 1 1 [.int .i64 (IntKind.i64.wrap (IntKind.i64.wrap r - 65536))] (by rfl) (by rfl) (World.news_of_block (cs := #[.int .i64 (IntKind.i64.wrap (IntKind.i64.wrap r - 65536))]) (t := 3) (fr := (0, 0)) (heap_alloc_new _ _)) (by simp [Value.oneCell']) (by omega) (by unfold maxLen; omega) (by omega) (by simp; omega) (u1.heap.size + 1) (by simp) ?_; intro gg cp w3 hown3 hgrow hat hlt3; obtain ⟨hR, e0, ez, hkk⟩ := two_left (x := x) FK.out hb hblk o1 o2 HDD.out hb1' _ hgrow hown3 hat; have e3 : w3.cell? ⟨w.heap.size, 3, none⟩ = some (.int .u64 c.seed) := (hkk _ _ _ HC (by omega)).cell 3)
    | fail)
   all_goals
    obtain ⟨z, hz⟩ : ∃ z, z = w3.setCell ⟨m, 0, none⟩ (.slice (some ⟨gg, 0, none⟩) (k + 1) cp) := ⟨_, rfl⟩
    rw [← hz] at hR ⊢
    clear hz hgrow hat e0 ez e3 hkk hown3 y0 y3 y0' OW c0 d0 d1 d2 d3
    obtain ⟨a1, a2, zb, zB, z1, z2, zd⟩ := hR
    have q1 : z.cell? ⟨m, 1, none⟩ = some a2 := zB.cell 1
    have zl := zB.lt
    have HZD := Lib.hid zd
    clear zd
    go_wp2_with (at_builtin; refine wpList_append_lies _ rfl _ _ 56 rfl (m + 1) 3 i0 (.int .i64 0) 1 8 Tryz.underlying56 hi0 hz0 hz1 hz2 rfl (by decide) a2 k _ rfl (z2.alloc _) ⟨z.heap.size, 0, none⟩ 1 1 [.int .i64 0] rfl rfl (cell_one_new _ _ _) (by simp [Value.oneCell']) (by decide) (by unfold maxLen; omega) (by omega) (by simp; omega) (z.heap.size + 1) (by simp) ?_; intro g5 c5 w5 hM5 hgrow hat hlt5; obtain ⟨hR5, p1, rz⟩ := two_right (x := x) (xv := 0) (fM := fun _ => 0) (k2 := k) rfl zb zB z1 z2 HZD.out (Below.refl _ _) _ hgrow hM5 hat)
    clear hgrow hat hM5
    go_roundw
    case rel => exact ⟨k + 1, by omega, by go_num, hR5⟩
    case measure => simp [intOf]; omega
  ·obtain rfl : k = N := by omega
   obtain ⟨A1, k1, rfl⟩ := own_slice o1
   obtain ⟨A2, k2, rfl⟩ := own_slice o2
   have c0 : wr.cell? ⟨m, 0, none⟩ = some (.slice A1 k k1) := hblk.cell 0
   have c1 : wr.cell? ⟨m, 1, none⟩ = some (.slice A2 k k2) := hblk.cell 1
   have hr := HB1.below hb (by omega)
   have r0 : wr.cell? ⟨w.heap.size + 1, 0, none⟩ = some (.slice none 0 0) := hr.cell 0
   have r1 : wr.cell? ⟨w.heap.size + 1, 1, none⟩ = some (.slice none 0 0) := hr.cell 1
   have r2 := hr.frozen 0
   have r3 := hr.frozen 1
   have hlr := hr.lt
   have ltm := hblk.lt
   have p1 := own_base (own_far (own_far o1 (p := ⟨w.heap.size + 1, 0, none⟩) (by simp <;> omega) (.slice A1 k k1)) (p := ⟨w.heap.size + 1, 1, none⟩) (by simp <;> omega) (.slice A2 k k2)) (base' := w.heap.size) (by omega)
   have p2 := own_base (own_far (own_far o2 (p := ⟨w.heap.size + 1, 0, none⟩) (by simp <;> omega) (.slice A1 k k1)) (p := ⟨w.heap.size + 1, 1, none⟩) (by simp <;> omega) (.slice A2 k k2)) (base' := w.heap.size) (by omega)
   have hb2 := (hbx.setCell (p := ⟨w.heap.size + 1, 0, none⟩) (by simp) (.slice A1 k k1)).setCell (p := ⟨w.heap.size + 1, 1, none⟩) (by simp) (.slice A2 k k2)
   rw [← HST.out.1] at p1
   rw [← HST.out.2] at p2
   have hne : m ≠ w.heap.size + 1 := by omega
   have HI1 := Lib.hid p1
   have HI2 := Lib.hid p2
   clear o1 o2 p1 p2
   go_wp2_with (go_at_call 143; refine (HS.out _).mono ?_; rintro e w' ⟨rfl, rfl⟩)
   refine bodyPost_ret (v := .agg #[.slice A1 k k1, .slice A2 k k2]) (by simp [results, Tryz.results97, go_sem, r0, r1]) rfl ?_
   exact ⟨A1, k1, A2, k2, rfl, HI1.out, HI2.out, hb2⟩
end Go.Proofs.YtgodgedhddngeaaGreatDoor
