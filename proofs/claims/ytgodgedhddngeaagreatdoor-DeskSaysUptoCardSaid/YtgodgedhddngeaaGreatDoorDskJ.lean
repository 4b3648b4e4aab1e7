/- The reference's loss: a walk. -/
import Derived.Test.YtgodgedhddngeaaGreatDoorDskT
set_option maxRecDepth 100000
set_option maxHeartbeats 16000000
namespace Go.Proofs.YtgodgedhddngeaaGreatDoor
open Go.ChangeShapes Go.WideShapes Go.ChangeAt Go.RowKit Go.Sort Pl
def PupQ (w6 : World) (P : Pup) (a : Value) (wx : World) : Prop := ∃ g A1 k1 A2 k2 B1 d1 B2 d2, a = .pointer (some ⟨g, 0, none⟩) ∧ Blk wx g 102 #[.int .i64 P.r1, .int .i64 P.c1, .slice A1 P.a1.length k1, .int .i64 P.r2, .int .i64 P.c2, .slice A2 P.a2.length k2, .slice B1 P.b1.length d1, .slice B2 P.b2.length d2] ∧ Ints .i64 wx A1 P.a1.length P.a1 ∧ Ints .i64 wx A2 P.a2.length P.a2 ∧ Ints .i64 wx B1 P.b1.length P.b1 ∧ Ints .i64 wx B2 P.b2.length P.b2 ∧ Below w6.heap.size w6 wx
def SameB (A A' : Option Addr) : Prop := ∀ a', A' = some a' → ∃ a, A = some a ∧ a.block = a'.block
theorem sameB_map (A : Option Addr) (i : Nat) : SameB A (A.map (·.add i)) := by
 rintro a' h
 cases A with
 | none => cases h
 | some a =>
  injection h with h
  subst h
  exact ⟨a, rfl, by show a.block = (Addr.add a i).block; unfold Addr.add; split <;> rfl⟩
theorem sameB_refl (A : Option Addr) : SameB A A := fun a' h => ⟨a', h, rfl⟩
theorem ints_butN {w w' : World} {g : Nat} {X A : Option Addr} {n : Nat} {xs : List Int} (h : Ints .i64 w A n xs) (hb : But g w w') (hs : SameB X A) (hX : ∀ a, X = some a → a.block ≠ g) : Ints .i64 w' A n xs :=
 ⟨h.len, fun hn => by
  obtain ⟨b, off, e, hl, hc⟩ := h.cells hn
  obtain ⟨a, ea, eb⟩ := hs _ e
  have hne : b ≠ g := fun x => hX a ea (by rw [eb]; exact x)
  exact ⟨b, off, e, Nat.lt_of_lt_of_le hl hb.size, fun j hj => (World.cell?_of_block (a := ⟨b, off + j, none⟩) (hb.block b hl hne)).trans (hc j hj)⟩⟩
theorem ints_not_pup {w : World} {g : Nat} {A : Option Addr} {n : Nat} {xs : List Int} (hz : Blk w g 102 #[.int .i64 0, .int .i64 0, .slice none 0 0, .int .i64 0, .int .i64 0, .slice none 0 0, .slice none 0 0, .slice none 0 0]) (h : Ints .i64 w A n xs) (hn : 4 ≤ n) : ∀ a, A = some a → a.block ≠ g := by
 rintro a rfl e
 obtain ⟨b, off, ea, hb, hc⟩ := h.cells (by omega)
 injection ea with ea
 subst ea
 have e : b = g := e
 subst e
 have h0 := hc 0 (by omega)
 have h1 := hc 1 (by omega)
 have h2 := hc 2 (by omega)
 rw [hz.cell] at h0 h1 h2
 have ho : off = 0 ∨ off = 1 ∨ off = 2 ∨ off = 3 ∨ off = 4 ∨ off = 5 ∨ off = 6 ∨ off = 7 ∨ 8 ≤ off := by omega
 rcases ho with rfl | rfl | rfl | rfl | rfl | rfl | rfl | rfl | ho
 ·simp at h2
 ·simp at h1
 ·simp at h0
 ·simp at h2
 ·simp at h1
 ·simp at h0
 ·simp at h0
 ·simp at h0
 ·rw [Array.getElem?_eq_none (by simp; omega)] at h0
  cases h0
theorem ints_lt_ne {w : World} {g : Nat} {A : Option Addr} {n : Nat} {xs : List Int} (h : Ints .i64 w A n xs) (hn : 4 ≤ n) (hg : w.heap.size ≤ g) : ∀ a, A = some a → a.block ≠ g := by
 rintro a rfl e
 obtain ⟨b, off, ea, hb, hc⟩ := h.cells (by omega)
 injection ea with ea
 subst ea
 have e : b = g := e
 omega
theorem cfg_N4 {c : Cfg} (h : c.Ok) : 4 ≤ c.N := by
 obtain ⟨⟨e1, a1, a2⟩, ⟨e2, a3, a4⟩, ⟨e3, a5, a6⟩, _⟩ := cfg_nat h
 have h1 : 1 ≤ c.ch.toNat * c.ci.toNat := Nat.mul_pos a3 a1
 have h2 : 1 ≤ c.co.toNat * c.ch.toNat := Nat.mul_pos a5 a3
 rw [cfg_N h]
 omega
def PupInX (X : Option Addr) (w : World) (P : Pup) (e : Ending) (w' : World) : Prop :=
 ∃ A1 k1 A2 k2 B1 d1 B2 d2, e = .returned (.agg #[.int .i64 P.r1, .int .i64 P.c1, .slice A1 P.a1.length k1, .int .i64 P.r2, .int .i64 P.c2, .slice A2 P.a2.length k2, .slice B1 P.b1.length d1, .slice B2 P.b2.length d2]) ∧ Ints .i64 w' A1 P.a1.length P.a1 ∧ Ints .i64 w' A2 P.a2.length P.a2 ∧ Ints .i64 w' B1 P.b1.length P.b1 ∧ Ints .i64 w' B2 P.b2.length P.b2 ∧ SameB X A1 ∧ SameB X A2 ∧ SameB X B1 ∧ SameB X B2 ∧ Below w.heap.size w w'
theorem rshape_raw (c : Cfg) (h : c.Ok) (A : Option Addr) (k : Nat) (wt : List Int) (hk : c.N ≤ k) (w : World) (hx : Ints .i64 w A c.N wt) {P : Pup} (hP : P = shapeP c.ci.toNat c.ch.toNat c.co.toNat wt) :
  Calls Tryz.prog 64 #[.int .i64 c.ci, .int .i64 c.ch, .int .i64 c.co, .slice A c.N k] w (PupInX A w P) := by
 subst hP
 obtain ⟨⟨e1, a1, a2⟩, ⟨e2, a3, a4⟩, ⟨e3, a5, a6⟩, _⟩ := cfg_nat h
 have hN := cfg_N h
 have H := ref_Shape c.ci.toNat c.ch.toNat c.co.toNat A c.N k w hk ⟨a1, a2⟩ ⟨a3, a4⟩ ⟨a5, a6⟩ _ _ rfl rfl hN
 rw [← e1, ← e2, ← e3] at H
 refine H.mono ?_
 rintro e w' ⟨rfl, hb⟩
 obtain ⟨i, hi⟩ : ∃ i, i = c.ci.toNat := ⟨_, rfl⟩
 obtain ⟨m, hm⟩ : ∃ m, m = c.ch.toNat := ⟨_, rfl⟩
 obtain ⟨o, ho⟩ : ∃ o, o = c.co.toNat := ⟨_, rfl⟩
 rw [← hi, ← hm, ← ho] at hN ⊢
 rw [show c.ch = (m : Int) from by rw [hm]; exact e2, show c.ci = (i : Int) from by rw [hi]; exact e1, show c.co = (o : Int) from by rw [ho]; exact e3]
 replace hx := hx.below hb
 have c1 := ints_piece hx 0 (m := m * i) (by omega)
 have c2 := ints_piece hx (m * i + m) (m := o * m) (by omega)
 have c3 := ints_piece hx (m * i) (m := m) (by omega)
 have c4 := ints_piece hx (m * i + m + o * m) (m := o) (by omega)
 have e0 : A.map (·.add 0) = A := by
  cases A with
  | none => rfl
  | some a => rfl
 rw [e0, List.drop_zero] at c1
 have m1 := c1.len
 have m2 := c2.len
 have m3 := c3.len
 have m4 := c4.len
 refine ⟨A, k, A.map (·.add (m * i + m)), k - (m * i + m), A.map (·.add (m * i)), k - m * i, A.map (·.add (m * i + m + o * m)), k - (m * i + m + o * m), ?_, ?_, ?_, ?_, ?_, sameB_refl _, sameB_map _ _, sameB_map _ _, sameB_map _ _, hb⟩
 ·simp only [shapeP, m1, m2, m3, m4]
 ·simp only [shapeP]; rw [m1]; exact c1
 ·simp only [shapeP]; rw [m2]; exact c2
 ·simp only [shapeP]; rw [m3]; exact c3
 ·simp only [shapeP]; rw [m4]; exact c4
theorem rloss_fine (c : Cfg) (h : c.Ok) (wt : List Int) (hl : wt.length = c.N) (p : List Int × List Int) (hp : exB c.ci c.co p = true) {P : Pup} (hP : P = shapeP c.ci.toNat c.ch.toNat c.co.toNat wt)
  {A1 A2 B1 B2 X T : Option Addr} {k1 k2 d1 d2 ni no xc tc : Nat} {w : World} (i1 : Ints .i64 w A1 P.a1.length P.a1) (i2 : Ints .i64 w A2 P.a2.length P.a2) (j1 : Ints .i64 w B1 P.b1.length P.b1) (j2 : Ints .i64 w B2 P.b2.length P.b2)
  (ix : Ints .i64 w X ni p.1) (it : Ints .i64 w T no p.2) :
  Calls Tryz.prog 66 #[.agg #[.int .i64 P.r1, .int .i64 P.c1, .slice A1 P.a1.length k1, .int .i64 P.r2, .int .i64 P.c2, .slice A2 P.a2.length k2, .slice B1 P.b1.length d1, .slice B2 P.b2.length d2], .agg #[.slice X ni xc, .slice T no tc]] w
   (fun e w' => e = .returned (.int .i64 (lossW c wt p)) ∧ Below w.heap.size w w') := by
 obtain ⟨⟨e1, a1, a2⟩, ⟨e2, a3, a4⟩, ⟨e3, a5, a6⟩, _⟩ := cfg_nat h
 have hN := cfg_N h
 obtain ⟨q1, q2, _, _⟩ := exB_ok hp
 have hni : ni = c.ci.toNat := by have := ix.len; omega
 have hno : no = c.co.toNat := by have := it.len; omega
 subst hni; subst hno
 have er1 : P.r1 = (c.ch.toNat : Int) := by rw [hP]; rfl
 have ec1 : P.c1 = (c.ci.toNat : Int) := by rw [hP]; rfl
 have er2 : P.r2 = (c.co.toNat : Int) := by rw [hP]; rfl
 have ec2 : P.c2 = (c.ch.toNat : Int) := by rw [hP]; rfl
 have l1 : P.a1.length = c.ch.toNat * c.ci.toNat := by rw [hP]; simp only [shapeP, List.length_take]; omega
 have l2 : P.a2.length = c.co.toNat * c.ch.toNat := by rw [hP]; simp only [shapeP, List.length_take, List.length_drop]; omega
 have l3 : P.b1.length = c.ch.toNat := by rw [hP]; simp only [shapeP, List.length_take, List.length_drop]; omega
 have l4 : P.b2.length = c.co.toNat := by rw [hP]; simp only [shapeP, List.length_take, List.length_drop]; omega
 have hg : lossW c wt p = lossP c.ch.toNat c.ci.toNat c.co.toNat P.a1 P.b1 P.a2 P.b2 p.1 p.2 := by rw [hP]; rfl
 have H := ref_Loss c.ch.toNat c.ci.toNat c.co.toNat A1 P.a1.length k1 P.a1 A2 P.a2.length k2 P.a2 B1 d1 P.b1 B2 d2 P.b2 X xc p.1 T tc p.2 w i1 i2 (l3 ▸ j1) (l4 ▸ j2) ix it ⟨a3, a4⟩ ⟨a1, a2⟩ ⟨a5, a6⟩ l1 l2
 rw [er1, ec1, er2, ec2, l3, l4, hg]
 exact H
theorem pupQ_stored {w6 u : World} {g : Nat} {P : Pup} {X A1 A2 B1 B2 : Option Addr} {k1 k2 d1 d2 : Nat} (hz : Blk u g 102 #[.int .i64 0, .int .i64 0, .slice none 0 0, .int .i64 0, .int .i64 0, .slice none 0 0, .slice none 0 0, .slice none 0 0]) (i1 : Ints .i64 u A1 P.a1.length P.a1) (i2 : Ints .i64 u A2 P.a2.length P.a2) (i3 : Ints .i64 u B1 P.b1.length P.b1) (i4 : Ints .i64 u B2 P.b2.length P.b2)
  (s1 : SameB X A1) (s2 : SameB X A2) (s3 : SameB X B1) (s4 : SameB X B2) (hX : ∀ a, X = some a → a.block ≠ g) (hg : w6.heap.size ≤ g) (hw : Below w6.heap.size w6 u) :
  PupQ w6 P (.pointer (some ⟨g, 0, none⟩)) ((((((((u.setCell ⟨g, 0, none⟩ (.int .i64 P.r1)).setCell ⟨g, 1, none⟩ (.int .i64 P.c1)).setCell ⟨g, 2, none⟩ (.slice A1 P.a1.length k1)).setCell ⟨g, 3, none⟩ (.int .i64 P.r2)).setCell ⟨g, 4, none⟩ (.int .i64 P.c2)).setCell ⟨g, 5, none⟩ (.slice A2 P.a2.length k2)).setCell ⟨g, 6, none⟩ (.slice B1 P.b1.length d1)).setCell ⟨g, 7, none⟩ (.slice B2 P.b2.length d2)) := by
 have hb := ((((((((But.refl g u).put 0 (.int .i64 P.r1)).put 1 (.int .i64 P.c1)).put 2 (.slice A1 P.a1.length k1)).put 3 (.int .i64 P.r2)).put 4 (.int .i64 P.c2)).put 5 (.slice A2 P.a2.length k2)).put 6 (.slice B1 P.b1.length d1)).put 7 (.slice B2 P.b2.length d2)
 have hB := (((((((hz.put 0 (.int .i64 P.r1)).put 1 (.int .i64 P.c1)).put 2 (.slice A1 P.a1.length k1)).put 3 (.int .i64 P.r2)).put 4 (.int .i64 P.c2)).put 5 (.slice A2 P.a2.length k2)).put 6 (.slice B1 P.b1.length d1)).put 7 (.slice B2 P.b2.length d2)
 exact ⟨g, A1, k1, A2, k2, B1, d1, B2, d2, rfl, by simpa using hB, ints_butN i1 hb s1 hX, ints_butN i2 hb s2 hX, ints_butN i3 hb s3 hX, ints_butN i4 hb s4 hX, but_to hw hb hg hw.size⟩
theorem pupQ_laid {w6 u : World} {P : Pup} {A1 A2 B1 B2 : Option Addr} {k1 k2 d1 d2 : Nat} (i1 : Ints .i64 u A1 P.a1.length P.a1) (i2 : Ints .i64 u A2 P.a2.length P.a2) (i3 : Ints .i64 u B1 P.b1.length P.b1) (i4 : Ints .i64 u B2 P.b2.length P.b2) (hw : Below w6.heap.size w6 u) :
  PupQ w6 P (.pointer (some ⟨u.heap.size, 0, none⟩)) (u.alloc (.cells #[.int .i64 P.r1, .int .i64 P.c1, .slice A1 P.a1.length k1, .int .i64 P.r2, .int .i64 P.c2, .slice A2 P.a2.length k2, .slice B1 P.b1.length d1, .slice B2 P.b2.length d2] 102)) :=
 ⟨_, A1, k1, A2, k2, B1, d1, B2, d2, rfl, Blk.made _ _ _, i1.alloc _, i2.alloc _, i3.alloc _, i4.alloc _, hw.alloc hw.size _⟩
theorem crs_loss (B q : Nat) (c : Cfg) (v : Value) (ds : Data) (bs : List UInt8) (sy : Nat) (w : World) (h : BenchIn B w q c v ds bs sy) (ok : DSt.Ok ⟨c, ds, bs, sy⟩) (V : ByteArray) (hV : V.toList = vLoss) (ab ao nc : Nat) (i : Int) (hab : ab < w.heap.size) (hac : w.cell? ⟨ab, ao, none⟩ = some (.int .i64 i)) (LA : Option Addr) (lc k : Nat) (hk : DSt.k ⟨c, ds, bs, sy⟩ = k) (ht : ∀ W, Below B w W → Tabs W) :
  Calls Tryz.prog 39 #[.pointer (some ⟨q, 0, none⟩), .string V, .slice (some ⟨ab, ao, none⟩) 1 nc, .slice LA k lc] w (BenchPost B q (lossD ⟨c, ds, bs, sy⟩ i, ⟨c, ds, bs, sy⟩) w) := by
 obtain ⟨D, dc, rfl, hd, hdc, hdm⟩ := h.data.duos
 have hb4 : bs.length ≤ 4096 := ok.b
 have hBw : B ≤ w.heap.size := Nat.le_of_lt (Nat.lt_of_le_of_lt h.bq h.dq.lt)
 have hk4 : k ≤ 4096 := by rw [← hk]; exact Nat.le_trans (beg_len bs) hb4
 have HK := Lib.hid hk
 have HI := Lib.hid (fun W (hb : Below w.heap.size w W) => h.below hb)
 have HD := Lib.hid (fun W (hb : Below w.heap.size w W) => hd.below hb)
 have HT := Lib.hid (fun W (hb : Below w.heap.size w W) => ht W (hb.mono hBw))
 have hql := h.dq.lt
 have hcb := crs_small (ds := ds) ok.c
 have hs0 : 0 ≤ c.seed := ok.s0
 have hs1 : c.seed < 18446744073709551616 := by have : c.seed < 10000000000 := ok.s1; omega
 have hn : ds.length ≤ 9223372036854775806 := by have : ds.length ≤ 16 := ok.n; omega
 have k1 : (V.toList == [115, 116, 101, 112]) = false := by rw [hV]; decide
 have k5 : (V.toList == [97, 117, 100, 105, 116]) = false := by rw [hV]; decide
 have k6 : (V.toList == [108, 111, 115, 115]) = true := by rw [hV]; decide
 have F0 := Lib.hid (show lossD ⟨c, ds, bs, sy⟩ i = if ¬ (0 ≤ i ∧ i < (ds.length : Int)) then errT 4 else if crs c ds ≠ 0 then errT (crs c ds) else if c.steps < (k : Int) then errT 1 else Lib.itoa (lossW c (states c ds k).1 (duoAt ds i.toNat)) from by rw [← hk]; rfl)
 have HAC := Lib.hid (fun W (hb : Below w.heap.size w W) => show W.cell? ⟨ab, ao, none⟩ = some (.int .i64 i) from (hb.cell (p := ⟨ab, ao, none⟩) hab).trans hac)
 have hn16 : ds.length ≤ 16 := ok.n
 clear hk hd ht ok hV
 obtain ⟨N, hN⟩ : ∃ N, N = ds.length := ⟨_, rfl⟩
 have HN := Lib.hid hN
 rw [← hN] at hdc hn HI HD F0 hn16
 clear hN
 have HS := Lib.hid (fun W (hb : Below w.heap.size w W) => show (W.cell? ⟨q, 0, none⟩ = some (.int .i64 c.ci) ∧ W.cell? ⟨q, 1, none⟩ = some (.int .i64 c.ch) ∧ W.cell? ⟨q, 2, none⟩ = some (.int .i64 c.co) ∧ W.cell? ⟨q, 3, none⟩ = some (.int .u64 c.seed) ∧ W.cell? ⟨q, 4, none⟩ = some (.int .i64 c.batch) ∧ W.cell? ⟨q, 5, none⟩ = some (.int .i64 c.steps) ∧ W.cell? ⟨q, 6, none⟩ = some (.int .i64 c.rate) ∧ W.cell? ⟨q, 7, none⟩ = some (.int .i64 c.decay) ∧ W.cell? ⟨q, 8, none⟩ = some (.int .i64 c.how) ∧ W.cell? ⟨q, 9, none⟩ = some (.int .i64 c.keep) ∧ W.cell? ⟨q, 10, none⟩ = some (.int .i64 c.clip)) ∧ W.cell? ⟨q, 11, none⟩ = some (.slice D N dc) from ⟨(HI.out W hb).cfg, (HI.out W hb).dv⟩)
 have HCR := Lib.hid (fun W (hb : Below w.heap.size w W) => ref_Course c D N dc ds W (HD.out W hb) hn)
 have e0 : IntKind.i64.wrap ((N : Int) - 1) = (N : Int) - 1 := by rw [IntKind.wrap_i64]; omega
 have HIN := Lib.hid (fun W => ref_In i 0 ((N : Int) - 1) W)
 have hdv : w.cell? ⟨q, 11, none⟩ = some (.slice D N dc) := by rw [h.dv, HN.out]
 by_cases hi : 0 ≤ i ∧ i < (N : Int)
 ·obtain ⟨j, rfl⟩ : ∃ j : Nat, i = (j : Int) := ⟨i.toNat, by omega⟩
  have hj : j < N := by omega
  rw [inB_yes (show (0 : Int) ≤ (j : Int) ∧ (j : Int) ≤ (N : Int) - 1 from by omega)] at HIN
  go_enter Tryz.func39, Tryz.ntmps39
  go_upto_region 1 with fail
  go_quiet ((go_at_call 58; exact Calls.quiet_of ((HIN.out _).mono fun _ _ ⟨he, hw⟩ => ⟨he, 0, hw.symm⟩)))
  go_upto_region 3 with fail
  obtain ⟨x, hx⟩ : ∃ x, x = crs c ds := ⟨_, rfl⟩
  rw [← hx] at HCR hcb
  have HX := Lib.hid hx
  clear hx hdv hac
  go_region_held3 (fun W => (W.cell? ⟨q, 0, none⟩ = some (.int .i64 c.ci) ∧ W.cell? ⟨q, 1, none⟩ = some (.int .i64 c.ch) ∧ W.cell? ⟨q, 2, none⟩ = some (.int .i64 c.co) ∧ W.cell? ⟨q, 3, none⟩ = some (.int .u64 c.seed) ∧ W.cell? ⟨q, 4, none⟩ = some (.int .i64 c.batch) ∧ W.cell? ⟨q, 5, none⟩ = some (.int .i64 c.steps) ∧ W.cell? ⟨q, 6, none⟩ = some (.int .i64 c.rate) ∧ W.cell? ⟨q, 7, none⟩ = some (.int .i64 c.decay) ∧ W.cell? ⟨q, 8, none⟩ = some (.int .i64 c.how) ∧ W.cell? ⟨q, 9, none⟩ = some (.int .i64 c.keep) ∧ W.cell? ⟨q, 10, none⟩ = some (.int .i64 c.clip)) ∧ W.cell? ⟨q, 11, none⟩ = some (.slice D N dc)) (first | (with_reducible exact HS.out _ (bel_drewN (Below.refl w.heap.size w) _)) | (with_reducible exact HS.out _ (bel_drewN (Below.refl w.heap.size w) _).drew) | (with_reducible exact HS.out _ hd1) | fail) (first
   | (go_at_call 60; (with_reducible refine (HCR.out _ (bel_drewN (Below.refl w.heap.size w) _)).mono ?_); rintro e y ⟨rfl, hb2⟩; have hd1 := bel_trans (bel_drewN (Below.refl w.heap.size w) _) hb2)
   | fail)
  all_goals
   have h2 := HI.out _ hd1
   have n0 := HAC.out _ hd1
   have HAY := Lib.hid (fun W (hb : Below y.heap.size y W) => HAC.out W (bel_trans hd1 hb))
   clear hb2 HCR
   by_cases hC : x = 0
   ·have hC' : crs c ds = 0 := by rw [← HX.out]; exact hC
    subst hC
    obtain ⟨d0, d1, d2, d3, d4, d5, d6, d7, d8, d9, da⟩ := h2.cfg
    by_cases hst : (k : Int) ≤ c.steps
    ·have hf := fine hC'
     have F := Lib.hid (show lossD ⟨c, ds, bs, sy⟩ j = Lib.itoa (lossW c (states c ds k).1 (duoAt ds j)) from by rw [F0.out, if_neg (by simpa using hi), if_neg (by simpa using hC'), if_neg (by omega), Int.toNat_natCast])
     have HMK := Lib.hid (fun W (hb : Below y.heap.size y W) => ref_States c ds hf hs0 hs1 D N dc W (HD.out W (bel_trans hd1 hb)) k hst)
     have HOK := Lib.hid hf.ok
     have HEX := Lib.hid (hf.ex j (by rw [← HN.out]; exact hj))
     have HFS := Lib.hid (fits_iff.1 (fits_states c ds k))
     have h4N := cfg_N4 hf.ok
     obtain ⟨wt, hwt⟩ : ∃ wt, wt = (states c ds k).1 := ⟨_, rfl⟩
     have HWT := Lib.hid hwt
     have hwl : wt.length = c.N := by rw [hwt]; exact HFS.out.1
     obtain ⟨P, hP⟩ : ∃ P, P = shapeP c.ci.toNat c.ch.toNat c.co.toNat wt := ⟨_, rfl⟩
     have HSH := Lib.hid (fun (A : Option Addr) (p : Nat) (hp : c.N ≤ p) (W : World) (hx : Ints .i64 W A c.N wt) => rshape_raw c HOK.out A p wt hp W hx hP)
     have HLS := Lib.hid (fun (A1 A2 B1 B2 X T : Option Addr) (k1 k2 d1 d2 ni no xc tc : Nat) (W : World) i1 i2 j1 j2 ix it => rloss_fine c HOK.out wt hwl (duoAt ds j) HEX.out hP (A1 := A1) (A2 := A2) (B1 := B1) (B2 := B2) (X := X) (T := T) (k1 := k1) (k2 := k2) (d1 := d1) (d2 := d2) (ni := ni) (no := no) (xc := xc) (tc := tc) (w := W) i1 i2 j1 j2 ix it)
     have hLB := lossW_bd c wt (duoAt ds j)
     rw [← hwt] at F
     obtain ⟨lw, hlw⟩ : ∃ lw, lw = lossW c wt (duoAt ds j) := ⟨_, rfl⟩
     rw [← hlw] at F HLS hLB
     have z0 : (0 : Int) ≤ (k : Int) := by omega
     have z1 : (k : Int) < (k : Int) + 1 := by omega
     have z2 : k < k + 1 := by omega
     have z5 : ¬ c.steps < (k : Int) := by omega
     have HS2 := Lib.hid (fun W (hb : Below y.heap.size y W) => HS.out W (bel_trans hd1 hb))
     have hyd : Below y.heap.size y y.drew := (Below.refl _ _).drew
     have hya : Below y.heap.size y (y.alloc (.cells #[.int .i64 0, .int .i64 0, .slice none 0 0, .int .i64 0, .int .i64 0, .slice none 0 0, .slice none 0 0, .slice none 0 0] 102)).drew := ((Below.refl _ _).alloc (Nat.le_refl _) _).drew
     have hyz : Blk (y.alloc (.cells #[.int .i64 0, .int .i64 0, .slice none 0 0, .int .i64 0, .int .i64 0, .slice none 0 0, .slice none 0 0, .slice none 0 0] 102)).drew y.heap.size 102 #[.int .i64 0, .int .i64 0, .slice none 0 0, .int .i64 0, .int .i64 0, .slice none 0 0, .slice none 0 0, .slice none 0 0] := Blk.made y 102 #[.int .i64 0, .int .i64 0, .slice none 0 0, .int .i64 0, .int .i64 0, .slice none 0 0, .slice none 0 0, .slice none 0 0]
     have hys : y.heap.size < (y.alloc (.cells #[.int .i64 0, .int .i64 0, .slice none 0 0, .int .i64 0, .int .i64 0, .slice none 0 0, .slice none 0 0, .slice none 0 0] 102)).drew.heap.size := hyz.lt
     clear hP hwt hlw hC' hst hf HS n0
     go_upto_region 22 with fail
     clear d0 d1 d2 d3 d4 d5 d6 d7 d8 d9 da
     go_cut [12] (fun a wx => PupQ y P a wx)
     case first =>
      refine wp_region_held_drew (S := (fun W => (W.cell? ⟨q, 0, none⟩ = some (.int .i64 c.ci) ∧ W.cell? ⟨q, 1, none⟩ = some (.int .i64 c.ch) ∧ W.cell? ⟨q, 2, none⟩ = some (.int .i64 c.co) ∧ W.cell? ⟨q, 3, none⟩ = some (.int .u64 c.seed) ∧ W.cell? ⟨q, 4, none⟩ = some (.int .i64 c.batch) ∧ W.cell? ⟨q, 5, none⟩ = some (.int .i64 c.steps) ∧ W.cell? ⟨q, 6, none⟩ = some (.int .i64 c.rate) ∧ W.cell? ⟨q, 7, none⟩ = some (.int .i64 c.decay) ∧ W.cell? ⟨q, 8, none⟩ = some (.int .i64 c.how) ∧ W.cell? ⟨q, 9, none⟩ = some (.int .i64 c.keep) ∧ W.cell? ⟨q, 10, none⟩ = some (.int .i64 c.clip)) ∧ W.cell? ⟨q, 11, none⟩ = some (.slice D N dc))) (by kernel_rfl) (HS2.out _ hyd) (fun hHeld => ?_)
      refine wpAnyH_take (i := 0) (v := ?v1) rfl (by kernel_rfl) (by kernel_rfl) (by kernel_rfl) (fun _ _ _ h => h) (Or.inl ⟨by rfl, ?hy1⟩) hHeld ?rest1
      case hy1 => (intro W hW; (try dsimp only at hW); go_simp; (try with_reducible rfl))
      simp only [Act.put, List.setIfInBounds_toArray]
      refine wpAnyH_take (i := 1) (v := ?v2) rfl (by kernel_rfl) (by kernel_rfl) (by kernel_rfl) (fun _ _ _ h => h) (Or.inl ⟨by rfl, ?hy2⟩) hHeld ?rest2
      case hy2 => (intro W hW; (try dsimp only at hW); go_simp; (try with_reducible rfl))
      simp only [Act.put]
      refine wpAnyH_take (i := 2) (v := ?v3) rfl (by kernel_rfl) (by kernel_rfl) (by kernel_rfl) (fun _ _ _ h => h) (Or.inl ⟨by rfl, ?hy3⟩) hHeld ?rest3
      case hy3 => (intro W hW; (try dsimp only at hW); go_simp; (try with_reducible rfl))
      simp only [Act.put]
      refine wpAnyH_take (i := 3) (v := ?v4) rfl (by kernel_rfl) (by kernel_rfl) (by kernel_rfl) (fun _ _ _ h => h) (Or.inl ⟨by rfl, ?hy4⟩) hHeld ?rest4
      case hy4 => (intro W hW; (try dsimp only at hW); go_simp; (try with_reducible rfl))
      simp only [Act.put]
      refine wpAnyH_take (i := 4) (v := ?v5) rfl (by kernel_rfl) (by kernel_rfl) (by kernel_rfl) (fun _ _ _ h => h) (Or.inl ⟨by rfl, ?hy5⟩) hHeld ?rest5
      case hy5 => (intro W hW; (try dsimp only at hW); go_simp; (try with_reducible rfl))
      simp only [Act.put]
      refine wpAnyH_take (i := 5) (v := ?v6) rfl (by kernel_rfl) (by kernel_rfl) (by kernel_rfl) (fun _ _ _ h => h) (Or.inl ⟨by rfl, ?hy6⟩) hHeld ?rest6
      case hy6 => (intro W hW; (try dsimp only at hW); go_simp; (try with_reducible rfl))
      simp only [Act.put]
      refine wpAnyH_take (i := 6) (v := ?v7) rfl (by kernel_rfl) (by kernel_rfl) (by kernel_rfl) (fun _ _ _ h => h) (Or.inl ⟨by rfl, ?hy7⟩) hHeld ?rest7
      case hy7 => (intro W hW; (try dsimp only at hW); go_simp; (try with_reducible rfl))
      simp only [Act.put]
      refine wpAnyH_take (i := 7) (v := ?v8) rfl (by kernel_rfl) (by kernel_rfl) (by kernel_rfl) (fun _ _ _ h => h) (Or.inl ⟨by rfl, ?hy8⟩) hHeld ?rest8
      case hy8 => (intro W hW; (try dsimp only at hW); go_simp; (try with_reducible rfl))
      simp only [Act.put]
      refine wpAnyH_take (i := 8) (v := ?v9) rfl (by kernel_rfl) (by kernel_rfl) (by kernel_rfl) (fun _ _ _ h => h) (Or.inl ⟨by rfl, ?hy9⟩) hHeld ?rest9
      case hy9 => (intro W hW; (try dsimp only at hW); go_simp; (try with_reducible rfl))
      simp only [Act.put]
      refine wpAnyH_take (i := 9) (v := ?v10) rfl (by kernel_rfl) (by kernel_rfl) (by kernel_rfl) (fun _ _ _ h => h) (Or.inl ⟨by rfl, ?hy10⟩) hHeld ?rest10
      case hy10 => (intro W hW; (try dsimp only at hW); go_simp; (try with_reducible rfl))
      simp only [Act.put]
      refine wpAnyH_take (i := 10) (v := ?v11) rfl (by kernel_rfl) (by kernel_rfl) (by kernel_rfl) (fun _ _ _ h => h) (Or.inl ⟨by rfl, ?hy11⟩) hHeld ?rest11
      case hy11 => (intro W hW; (try dsimp only at hW); go_simp; (try with_reducible rfl))
      simp only [Act.put]
      refine wpAnyH_take (i := 11) (v := ?v12) rfl (by kernel_rfl) (by kernel_rfl) (by kernel_rfl) (fun _ _ _ h => h) (Or.inl ⟨by rfl, ?hy12⟩) hHeld ?rest12
      case hy12 => (intro W hW; (try dsimp only at hW); go_simp; (try with_reducible rfl))
      simp only [Act.put]
      refine wpAnyH_take (i := 12) (v := ?v13) rfl (by kernel_rfl) (by kernel_rfl) (by kernel_rfl) (fun _ _ _ h => h) (Or.inl ⟨by rfl, ?hy13⟩) hHeld ?rest13
      case hy13 => (intro W hW; (try dsimp only at hW); go_simp; (try with_reducible rfl))
      simp only [Act.put]
      refine wpAnyH_take (i := 13) (v := ?v14) rfl (by kernel_rfl) (by kernel_rfl) (by kernel_rfl) (fun _ _ _ h => h) (Or.inl ⟨by rfl, ?hy14⟩) hHeld ?rest14
      case hy14 => (intro W hW; (try dsimp only at hW); go_simp; (try with_reducible rfl))
      simp only [Act.put]
      refine wpAnyH_take (i := 14) (v := ?v15) rfl (by kernel_rfl) (by kernel_rfl) (by kernel_rfl) (fun _ _ _ h => h) (Or.inl ⟨by rfl, ?hy15⟩) hHeld ?rest15
      case hy15 => (intro W hW; (try dsimp only at hW); go_simp; (try with_reducible rfl))
      simp only [Act.put]
      refine wpAnyH_take (i := 15) (v := ?v16) rfl (by kernel_rfl) (by kernel_rfl) (by kernel_rfl) (fun _ _ _ h => h) (Or.inl ⟨by rfl, ?hy16⟩) hHeld ?rest16
      case hy16 => (intro W hW; (try dsimp only at hW); go_simp; (try with_reducible rfl))
      simp only [Act.put]
      refine wpAnyH_take (i := 16) (v := ?v17) rfl (by kernel_rfl) (by kernel_rfl) (by kernel_rfl) (fun _ _ _ h => h) (Or.inl ⟨by rfl, ?hy17⟩) hHeld ?rest17
      case hy17 => (intro W hW; (try dsimp only at hW); go_simp; (try with_reducible rfl))
      simp only [Act.put]
      refine wpAnyH_take (i := 17) (v := ?v18) rfl (by kernel_rfl) (by kernel_rfl) (by kernel_rfl) (fun _ _ _ h => h) (Or.inl ⟨by rfl, ?hy18⟩) hHeld ?rest18
      case hy18 => (intro W hW; (try dsimp only at hW); go_simp; (try with_reducible rfl))
      simp only [Act.put]
      refine wpAnyH_take (i := 18) (v := ?v19) rfl (by kernel_rfl) (by kernel_rfl) (by kernel_rfl) (fun _ _ _ h => h) (Or.inl ⟨by rfl, ?hy19⟩) hHeld ?rest19
      case hy19 => (intro W hW; (try dsimp only at hW); go_simp; (try with_reducible rfl))
      simp only [Act.put]
      refine wpAnyH_take (i := 19) (v := ?v20) rfl (by kernel_rfl) (by kernel_rfl) (by kernel_rfl) (fun _ _ _ h => h) (Or.inl ⟨by rfl, ?hy20⟩) hHeld ?rest20
      case hy20 => (intro W hW; (try dsimp only at hW); go_simp; (try with_reducible rfl))
      simp only [Act.put]
      refine wpAnyH_take (i := 20) (v := ?v21) rfl (by kernel_rfl) (by kernel_rfl) (by kernel_rfl) (fun _ _ _ h => h) (Or.inl ⟨by rfl, ?hy21⟩) hHeld ?rest21
      case hy21 => (intro W hW; (try dsimp only at hW); go_simp; (try with_reducible rfl))
      simp only [Act.put]
      refine wpAnyH_take (i := 21) (v := ?v22) rfl (by kernel_rfl) (by kernel_rfl) (by kernel_rfl) (fun _ _ _ h => h) (Or.inl ⟨by rfl, ?hy22⟩) hHeld ?rest22
      case hy22 => (intro W hW; (try dsimp only at hW); go_simp; (try with_reducible rfl))
      simp only [Act.put]
      refine wpAnyH_take (i := 22) (v := ?v23) rfl (by kernel_rfl) (by kernel_rfl) (by kernel_rfl) (fun _ _ _ h => h) (Or.inl ⟨by rfl, ?hy23⟩) hHeld ?rest23
      case hy23 => (intro W hW; (try dsimp only at hW); go_simp; (try with_reducible rfl))
      simp only [Act.put]
      refine wpAnyH_take (i := 23) (v := ?v24) rfl (by kernel_rfl) (by kernel_rfl) (by kernel_rfl) (fun _ _ _ h => h) (Or.inl ⟨by rfl, ?hy24⟩) hHeld ?rest24
      case hy24 => (intro W hW; (try dsimp only at hW); go_simp; (try with_reducible rfl))
      simp only [Act.put]
      refine wpAnyH_take (i := 25) (v := ?v25) rfl (by kernel_rfl) (by kernel_rfl) (by kernel_rfl) (fun _ _ _ h => h) (Or.inl ⟨by rfl, ?hy25⟩) hHeld ?rest25
      case hy25 => (intro W hW; (try dsimp only at hW); go_simp; (try with_reducible rfl))
      simp only [Act.put]
      refine wpAnyH_ready (rs := [24, 30]) (by kernel_rfl) (by simp) ?_
      refine (AllReadyH.cons rfl (fun K hK => ?_) (AllReadyH.cons rfl (fun K hK => ?_) AllReadyH.nil))
      ·skip
       go_simp
       go_at_call 65
       refine (HMK.out _ hyd).mono ?_
       rintro e u1 ⟨gs, sk, rfl, hSH, hb1⟩
       have hu1 : Below y.heap.size y u1 := hyd.trans (hb1.mono (Nat.le_refl _))
       obtain ⟨X1, p1, X2, p2, m0, m1, J1, J2, lN1, lX⟩ := StHeld.at' hSH (j := k) (by omega) HFS.out.1 HFS.out.2.1
       rw [← HWT.out] at J1
       clear hSH m1 J2
       refine hK.out _ _ (HS2.out _ hu1) (fun hHeld => ?_)
       clear hK K
       (try simp only [Act.put, List.setIfInBounds_toArray, List.set_cons_zero, List.set_cons_succ])
       refine wpAnyH_take (i := 26) (v := ?v26) rfl (by kernel_rfl) (by kernel_rfl) (by kernel_rfl) (fun _ _ _ h => h) (Or.inl ⟨by rfl, ?hy26⟩) hHeld ?rest26
       case hy26 => (intro W hW; (try dsimp only at hW); go_simp; (try with_reducible rfl))
       simp only [Act.put, List.setIfInBounds_toArray]
       refine wpAnyH_take (i := 27) (v := ?v27) rfl (by kernel_rfl) (by kernel_rfl) (by kernel_rfl) (fun _ _ _ h => h) (Or.inl ⟨by rfl, ?hy27⟩) hHeld ?rest27
       case hy27 => (intro W hW; (try dsimp only at hW); go_simp; (try with_reducible rfl))
       simp only [Act.put]
       refine wpAnyH_ready (rs := [28, 30]) (by kernel_rfl) (by simp) ?_
       refine (AllReadyH.cons rfl (fun K hK => ?_) (AllReadyH.cons rfl (fun K hK => ?_) AllReadyH.nil))
       ·go_simp
        refine hK.out _ _ (HS2.out _ hu1) (fun hHeld => ?_)
        clear hK K
        (try simp only [Act.put, List.setIfInBounds_toArray, List.set_cons_zero, List.set_cons_succ])
        refine wpAnyH_ready (rs := [29, 30]) (by kernel_rfl) (by simp) ?_
        refine (AllReadyH.cons rfl (fun K hK => ?_) (AllReadyH.cons rfl (fun K hK => ?_) AllReadyH.nil))
        ·skip
         go_simp
         go_at_call 64
         refine (HSH.out X1 p1 lN1 _ J1).mono ?_
         rintro e u2 ⟨G1, q1, G2, q2, G3, q3, G4, q4, rfl, P1, P2, P3, P4, s1, s2, s3, s4, hbG⟩
         have hu2 : Below y.heap.size y u2 := bel_trans hu1 hbG
         refine hK.out _ _ (HS2.out _ hu2) (fun hHeld => ?_)
         clear hK K
         (try simp only [Act.put, List.setIfInBounds_toArray, List.set_cons_zero, List.set_cons_succ])
         refine wpAnyH_ready (rs := [30]) (by kernel_rfl) (by simp) ?_
         refine (AllReadyH.cons rfl (fun K hK => ?_) AllReadyH.nil)
         go_simp
         refine hK.out _ _ (HS2.out _ (hu2.alloc hu2.size _)) (fun hHeld => ?_)
         clear hK K
         (try simp only [Act.put, List.setIfInBounds_toArray, List.set_cons_zero, List.set_cons_succ])
         refine wpAnyH_ready (rs := [31]) (by kernel_rfl) (by simp) ?_
         refine (AllReadyH.cons rfl (fun K hK => ?_) AllReadyH.nil)
         go_simp
         refine hK.out _ _ (by first | (with_reducible exact HS2.out _ (hu2.alloc hu2.size _)) | (with_reducible exact HS2.out _ (bel8 (hu2.alloc hu2.size _) hu2.size))) (fun hHeld => ?_)
         clear hK K
         (try simp only [Act.put, List.setIfInBounds_toArray, List.set_cons_zero, List.set_cons_succ])
         refine wpAnyH_done (by kernel_rfl) ?_ _
         go_wp2
         go_meet
         case rel => with_reducible exact pupQ_laid (w6 := y) P1 P2 P3 P4 hu2
        ·go_simp
         refine hK.out _ _ (HS2.out _ (hu1.alloc hu1.size _)) (fun hHeld => ?_)
         clear hK K
         (try simp only [Act.put, List.setIfInBounds_toArray, List.set_cons_zero, List.set_cons_succ])
         refine wpAnyH_ready (rs := [29]) (by kernel_rfl) (by simp) ?_
         refine (AllReadyH.cons rfl (fun K hK => ?_) AllReadyH.nil)
         go_simp
         go_at_call 64
         refine (HSH.out X1 p1 lN1 _ (J1.alloc _)).mono ?_
         rintro e u2 ⟨G1, q1, G2, q2, G3, q3, G4, q4, rfl, P1, P2, P3, P4, s1, s2, s3, s4, hbG⟩
         have hu2 : Below y.heap.size y u2 := bel_trans (hu1.alloc hu1.size _) hbG
         have hz5 : Blk u2 u1.heap.size 102 #[.int .i64 0, .int .i64 0, .slice none 0 0, .int .i64 0, .int .i64 0, .slice none 0 0, .slice none 0 0, .slice none 0 0] := (Blk.made u1 102 #[.int .i64 0, .int .i64 0, .slice none 0 0, .int .i64 0, .int .i64 0, .slice none 0 0, .slice none 0 0, .slice none 0 0]).below hbG (Blk.made u1 102 #[.int .i64 0, .int .i64 0, .slice none 0 0, .int .i64 0, .int .i64 0, .slice none 0 0, .slice none 0 0, .slice none 0 0]).lt
         have hcl := hz5.pup
         have hfr := hz5.pupz
         refine hK.out _ _ (HS2.out _ hu2) (fun hHeld => ?_)
         clear hK K
         (try simp only [Act.put, List.setIfInBounds_toArray, List.set_cons_zero, List.set_cons_succ])
         refine wpAnyH_ready (rs := [31]) (by kernel_rfl) (by simp) ?_
         refine (AllReadyH.cons rfl (fun K hK => ?_) AllReadyH.nil)
         go_simp
         refine hK.out _ _ (HS2.out _ (bel8 hu2 hu1.size)) (fun hHeld => ?_)
         clear hK K
         (try simp only [Act.put, List.setIfInBounds_toArray, List.set_cons_zero, List.set_cons_succ])
         refine wpAnyH_done (by kernel_rfl) ?_ _
         go_wp2
         go_meet
         case rel => with_reducible exact pupQ_stored (w6 := y) hz5 P1 P2 P3 P4 s1 s2 s3 s4 (ints_lt_ne J1 h4N (Nat.le_refl _)) hu1.size hu2
       ·go_simp
        refine hK.out _ _ (HS2.out _ (hu1.alloc hu1.size _)) (fun hHeld => ?_)
        clear hK K
        (try simp only [Act.put, List.setIfInBounds_toArray, List.set_cons_zero, List.set_cons_succ])
        have m0a := (((Below.refl u1.heap.size u1).alloc (Nat.le_refl _) (.cells #[.int .i64 0, .int .i64 0, .slice none 0 0, .int .i64 0, .int .i64 0, .slice none 0 0, .slice none 0 0, .slice none 0 0] 102)).cell (p := ⟨gs, k * 2, none⟩) lX).trans m0
        refine wpAnyH_ready (rs := [28]) (by kernel_rfl) (by simp) ?_
        refine (AllReadyH.cons rfl (fun K hK => ?_) AllReadyH.nil)
        go_simp
        refine hK.out _ _ (HS2.out _ (hu1.alloc hu1.size _)) (fun hHeld => ?_)
        clear hK K
        (try simp only [Act.put, List.setIfInBounds_toArray, List.set_cons_zero, List.set_cons_succ])
        refine wpAnyH_ready (rs := [29]) (by kernel_rfl) (by simp) ?_
        refine (AllReadyH.cons rfl (fun K hK => ?_) AllReadyH.nil)
        go_simp
        go_at_call 64
        refine (HSH.out X1 p1 lN1 _ (J1.alloc _)).mono ?_
        rintro e u2 ⟨G1, q1, G2, q2, G3, q3, G4, q4, rfl, P1, P2, P3, P4, s1, s2, s3, s4, hbG⟩
        have hu2 : Below y.heap.size y u2 := bel_trans (hu1.alloc hu1.size _) hbG
        have hz5 : Blk u2 u1.heap.size 102 #[.int .i64 0, .int .i64 0, .slice none 0 0, .int .i64 0, .int .i64 0, .slice none 0 0, .slice none 0 0, .slice none 0 0] := (Blk.made u1 102 #[.int .i64 0, .int .i64 0, .slice none 0 0, .int .i64 0, .int .i64 0, .slice none 0 0, .slice none 0 0, .slice none 0 0]).below hbG (Blk.made u1 102 #[.int .i64 0, .int .i64 0, .slice none 0 0, .int .i64 0, .int .i64 0, .slice none 0 0, .slice none 0 0, .slice none 0 0]).lt
        have hcl := hz5.pup
        have hfr := hz5.pupz
        refine hK.out _ _ (HS2.out _ hu2) (fun hHeld => ?_)
        clear hK K
        (try simp only [Act.put, List.setIfInBounds_toArray, List.set_cons_zero, List.set_cons_succ])
        refine wpAnyH_ready (rs := [31]) (by kernel_rfl) (by simp) ?_
        refine (AllReadyH.cons rfl (fun K hK => ?_) AllReadyH.nil)
        go_simp
        refine hK.out _ _ (HS2.out _ (bel8 hu2 hu1.size)) (fun hHeld => ?_)
        clear hK K
        (try simp only [Act.put, List.setIfInBounds_toArray, List.set_cons_zero, List.set_cons_succ])
        refine wpAnyH_done (by kernel_rfl) ?_ _
        go_wp2
        go_meet
        case rel => with_reducible exact pupQ_stored (w6 := y) hz5 P1 P2 P3 P4 s1 s2 s3 s4 (ints_lt_ne J1 h4N (Nat.le_refl _)) hu1.size hu2
      ·go_simp
       refine hK.out _ _ (HS2.out _ hya) (fun hHeld => ?_)
       clear hK K
       (try simp only [Act.put, List.setIfInBounds_toArray, List.set_cons_zero, List.set_cons_succ])
       refine wpAnyH_ready (rs := [24]) (by kernel_rfl) (by simp) ?_
       refine (AllReadyH.cons rfl (fun K hK => ?_) AllReadyH.nil)
       go_simp
       go_at_call 65
       refine (HMK.out _ hya).mono ?_
       rintro e u1 ⟨gs, sk, rfl, hSH, hb1⟩
       have hu1 : Below y.heap.size y u1 := hya.trans (hb1.mono (Nat.le_of_lt hys))
       obtain ⟨X1, p1, X2, p2, m0, m1, J1, J2, lN1, lX⟩ := StHeld.at' hSH (j := k) (by omega) HFS.out.1 HFS.out.2.1
       rw [← HWT.out] at J1
       have hz1 : Blk u1 y.heap.size 102 #[.int .i64 0, .int .i64 0, .slice none 0 0, .int .i64 0, .int .i64 0, .slice none 0 0, .slice none 0 0, .slice none 0 0] := hyz.below hb1 hys
       clear hSH m1 J2
       refine hK.out _ _ (HS2.out _ hu1) (fun hHeld => ?_)
       clear hK K
       (try simp only [Act.put, List.setIfInBounds_toArray, List.set_cons_zero, List.set_cons_succ])
       refine wpAnyH_take (i := 26) (v := ?v28) rfl (by kernel_rfl) (by kernel_rfl) (by kernel_rfl) (fun _ _ _ h => h) (Or.inl ⟨by rfl, ?hy28⟩) hHeld ?rest28
       case hy28 => (intro W hW; (try dsimp only at hW); go_simp; (try with_reducible rfl))
       simp only [Act.put, List.setIfInBounds_toArray]
       refine wpAnyH_take (i := 27) (v := ?v29) rfl (by kernel_rfl) (by kernel_rfl) (by kernel_rfl) (fun _ _ _ h => h) (Or.inl ⟨by rfl, ?hy29⟩) hHeld ?rest29
       case hy29 => (intro W hW; (try dsimp only at hW); go_simp; (try with_reducible rfl))
       simp only [Act.put]
       refine wpAnyH_ready (rs := [28]) (by kernel_rfl) (by simp) ?_
       refine (AllReadyH.cons rfl (fun K hK => ?_) AllReadyH.nil)
       go_simp
       refine hK.out _ _ (HS2.out _ hu1) (fun hHeld => ?_)
       clear hK K
       (try simp only [Act.put, List.setIfInBounds_toArray, List.set_cons_zero, List.set_cons_succ])
       refine wpAnyH_ready (rs := [29]) (by kernel_rfl) (by simp) ?_
       refine (AllReadyH.cons rfl (fun K hK => ?_) AllReadyH.nil)
       go_simp
       go_at_call 64
       refine (HSH.out X1 p1 lN1 _ J1).mono ?_
       rintro e u2 ⟨G1, q1, G2, q2, G3, q3, G4, q4, rfl, P1, P2, P3, P4, s1, s2, s3, s4, hbG⟩
       have hu2 : Below y.heap.size y u2 := bel_trans hu1 hbG
       have hz4 : Blk u2 y.heap.size 102 #[.int .i64 0, .int .i64 0, .slice none 0 0, .int .i64 0, .int .i64 0, .slice none 0 0, .slice none 0 0, .slice none 0 0] := hz1.below hbG hz1.lt
       have hcl := hz4.pup
       have hfr := hz4.pupz
       refine hK.out _ _ (HS2.out _ hu2) (fun hHeld => ?_)
       clear hK K
       (try simp only [Act.put, List.setIfInBounds_toArray, List.set_cons_zero, List.set_cons_succ])
       refine wpAnyH_ready (rs := [31]) (by kernel_rfl) (by simp) ?_
       refine (AllReadyH.cons rfl (fun K hK => ?_) AllReadyH.nil)
       go_simp
       refine hK.out _ _ (HS2.out _ (bel8 hu2 (Nat.le_refl _))) (fun hHeld => ?_)
       clear hK K
       (try simp only [Act.put, List.setIfInBounds_toArray, List.set_cons_zero, List.set_cons_succ])
       refine wpAnyH_done (by kernel_rfl) ?_ _
       go_wp2
       go_meet
       case rel => with_reducible exact pupQ_stored (w6 := y) hz4 P1 P2 P3 P4 s1 s2 s3 s4 (ints_not_pup hz1 J1 h4N) (Nat.le_refl _) hu2
     case rest =>
      obtain ⟨gp, A1, k1, A2, k2, B1, d1, B2, d2, rfl, BG, I1, I2, I3, I4, hbx⟩ := hcut
      obtain ⟨z, hz⟩ : ∃ z : World, z = wc := ⟨_, rfl⟩
      rw [← hz] at BG I1 I2 I3 I4 hbx ⊢
      have hwz := bel_trans hd1 hbx
      have hIz := HI.out _ hwz
      have hDz := HD.out _ hwz
      obtain ⟨s0, s1, s2, s3, s4, s5, s6, s7⟩ := BG.pup
      have sD : z.cell? ⟨q, 11, none⟩ = some (.slice D N dc) := hIz.dv
      have sN := HAY.out _ hbx
      obtain ⟨db, dO, hDe, hdb, hdc'⟩ := hDz.cells (by omega)
      subst hDe
      obtain ⟨X, ni, xc, T, no, tc, t1, t2, ix, it, _, _, _, _⟩ := hdc' j hj
      have HL := fun W (hb : Below z.heap.size z W) => HLS.out A1 A2 B1 B2 X T k1 k2 d1 d2 ni no xc tc W (I1.below hb) (I2.below hb) (I3.below hb) (I4.below hb) (ix.below hb) (it.below hb)
      have HTO := fun W (hb : Below z.heap.size z W) => lib_ItoaL lw (by omega) (by omega) W (HT.out _ (bel_trans hwz hb))
      have Y0 := cell_regrown s0
      have Y1 := cell_regrown s1
      have Y2 := cell_regrown s2
      have Y3 := cell_regrown s3
      have Y4 := cell_regrown s4
      have Y5 := cell_regrown s5
      have Y6 := cell_regrown s6
      have Y7 := cell_regrown s7
      have YD := cell_regrown sD
      have YN := cell_regrown sN
      have YX := cell_regrown t1
      have YT := cell_regrown t2
      obtain ⟨tx, htx⟩ : ∃ tx, tx = bytesOf (Lib.itoa lw) := ⟨_, rfl⟩
      rw [← htx] at HTO
      have HTX := Lib.hid htx
      have cL := Lib.hid (fun d os => Calls.regrown_of (HL (grow (redrawn z d) os) (below_regrown z d os)))
      have cT := Lib.hid (fun d os => Calls.regrown_of (HTO (grow (redrawn z d) os) (below_regrown z d os)))
      clear hz htx HL HTO BG I1 I2 I3 I4 hdc' ix it s0 s1 s2 s3 s4 s5 s6 s7 sD sN t1 t2 HLS HSH HMK HS2 hyd hya hyz hys
      go_upto_region 23 with fail
      refine wp_region_quiet_below (by kernel_rfl) (by kernel_rfl) ?_
      iterate 13 (go_big_quiet_step (first | with_reducible exact cL.out _ _ | with_reducible exact cT.out _ _))
      refine wpQuiet_nil ?_
      intro _ hw'
      obtain ⟨⟨dq, osq⟩, hw''⟩ := hw'
      have hu := below_regrown z dq osq
      subst hw''
      go_wp2
      go_ret
      have hwf := bel_trans hwz hu
      rw [F.out, HTX.out]
      exact ⟨rfl, ⟨_, HI.out _ hwf⟩, Kp.of_below hwf⟩
    ·have F := Lib.hid (show lossD ⟨c, ds, bs, sy⟩ j = errT 1 from by rw [F0.out, if_neg (by simpa using hi), if_neg (by simpa using hC'), if_pos (by omega)])
     have HFA := Lib.hid (ref_wrong 1 y (by omega) (by omega) (HT.out _ hd1))
     have z5 : c.steps < (k : Int) := by omega
     clear hC' hst F0 n0
     go_wp2_with fail
     refine HFA.out.mono ?_
     rintro e w3 ⟨rfl, hb3⟩
     go_wp2
     go_ret
     rw [F.out]
     exact ⟨rfl, ⟨_, h2.below hb3⟩, Kp.of_below (bel_trans hd1 hb3)⟩
   ·have F := Lib.hid (show lossD ⟨c, ds, bs, sy⟩ j = errT x from by rw [F0.out, HX.out, if_neg (by simpa using hi), if_pos (by rw [← HX.out]; exact hC)])
    have t0 : (x != 0) = true := by rw [bne_iff_ne]; exact hC
    have HFA := Lib.hid (ref_wrong x y (by omega) (by omega) (HT.out _ hd1))
    clear hC F0 n0
    go_wp2_with fail
    refine HFA.out.mono ?_
    rintro e w3 ⟨rfl, hb3⟩
    go_wp2
    go_ret
    rw [F.out]
    exact ⟨rfl, ⟨_, h2.below hb3⟩, Kp.of_below (bel_trans hd1 hb3)⟩
 ·rw [inB_no (show ¬ ((0 : Int) ≤ i ∧ i ≤ (N : Int) - 1) from by omega)] at HIN
  have F := Lib.hid (show lossD ⟨c, ds, bs, sy⟩ i = errT 4 from by rw [F0.out, if_pos hi])
  have HFA := Lib.hid (fun W (hb : Below w.heap.size w W) => ref_wrong 4 W (by omega) (by omega) (HT.out W hb))
  clear hi F0
  go_enter Tryz.func39, Tryz.ntmps39
  go_upto_region 1 with fail
  go_quiet ((go_at_call 58; exact Calls.quiet_of ((HIN.out _).mono fun _ _ ⟨he, hw⟩ => ⟨he, 0, hw.symm⟩)))
  go_wp2_with fail
  refine (HFA.out _ (bel_drewN (Below.refl w.heap.size w) _)).mono ?_
  rintro e w3 ⟨rfl, hb3⟩
  have hw3 := bel_trans (bel_drewN (Below.refl w.heap.size w) _) hb3
  go_wp2
  go_ret
  rw [F.out]
  exact ⟨rfl, ⟨_, HI.out _ hw3⟩, Kp.of_below hw3⟩
end Go.Proofs.YtgodgedhddngeaaGreatDoor
