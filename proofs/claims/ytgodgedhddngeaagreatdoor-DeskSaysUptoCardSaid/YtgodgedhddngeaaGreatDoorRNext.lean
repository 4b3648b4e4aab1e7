/- The document's own next state: a walk. -/
import Derived.Test.YtgodgedhddngeaaGreatDoorRFin
set_option maxRecDepth 100000
set_option maxHeartbeats 16000000
namespace Go.Proofs.YtgodgedhddngeaaGreatDoor
open Go.RowKit Pl
theorem own_butN {w w' : World} {base g : Nat} {e : TypeId} {size : Nat} {v : Value} {n : Nat} {xs : List Value} (h : w.ownsRow base e size v n xs) (hb : But g w w') (hne : v.ownBlock ≠ some g) : w'.ownsRow base e size v n xs :=
 own_keep h fun k hk => hb.block k (h.lt k hk).2 (fun e => hne (by rw [hk, e]))
def RecBx (x : World) (N : Nat) (bt : List Int) (st ra : Int) (v : Value) (wx : World) : Prop :=
 ∃ m E ec, v = .pointer (some ⟨m, 0, none⟩) ∧ Blk wx m 90 #[.int .i64 st, .slice E N ec, .int .i64 ra, .int .u64 0, .int .u64 0] ∧ wx.ownsRow x.heap.size 3 1 (.slice E N ec) N (bt.map (.int .i64)) ∧
  (Value.slice E N ec).ownBlock ≠ some m ∧ x.heap.size ≤ m ∧ Below x.heap.size x wx
theorem rec_laid {x u : World} {b N : Nat} {bt : List Int} {st ra : Int} {E : Option Addr} {ec : Nat} (h : Below x.heap.size x u) (ho : u.ownsRow b 3 1 (.slice E N ec) N (bt.map (.int .i64))) (hb : x.heap.size ≤ b) :
  RecBx x N bt st ra (.pointer (some ⟨u.heap.size, 0, none⟩)) (u.alloc (.cells #[.int .i64 st, .slice E N ec, .int .i64 ra, .int .u64 0, .int .u64 0] 90)) :=
 ⟨_, E, ec, rfl, Blk.made _ _ _, own_base (ho.alloc _) hb, (fun e => by have := (ho.lt _ e).2; omega), h.size, h.alloc h.size _⟩
theorem rec_stored {x u : World} {b m N : Nat} {bt : List Int} {st ra : Int} {E : Option Addr} {ec : Nat} {a0 a1 a2 a3 a4 : Value} (h : Below x.heap.size x u) (ho : u.ownsRow b 3 1 (.slice E N ec) N (bt.map (.int .i64))) (hb : x.heap.size ≤ b)
  (hz : Blk u m 90 #[a0, a1, a2, a3, a4]) (hne : (Value.slice E N ec).ownBlock ≠ some m) (hm : x.heap.size ≤ m) :
  RecBx x N bt st ra (.pointer (some ⟨m, 0, none⟩)) (((((u.setCell ⟨m, 0, none⟩ (.int .i64 st)).setCell ⟨m, 1, none⟩ (.slice E N ec)).setCell ⟨m, 2, none⟩ (.int .i64 ra)).setCell ⟨m, 3, none⟩ (.int .u64 0)).setCell ⟨m, 4, none⟩ (.int .u64 0)) := by
 have hB := ((((But.refl m u).put 0 (.int .i64 st)).put 1 (.slice E N ec)).put 2 (.int .i64 ra)).put 3 (.int .u64 0) |>.put 4 (.int .u64 0)
 exact ⟨m, E, ec, rfl, ((((hz.put 0 _).put 1 _).put 2 _).put 3 _).put 4 _, own_base (own_butN ho hB hne) hb, hne, hm, but_to h hB hm h.size⟩
theorem recs_below {x u : World} {m : Nat} {a0 a1 a2 a3 a4 : Value} (h : Below x.heap.size x u) (hm : x.heap.size ≤ m) :
  Below x.heap.size x (((((u.setCell ⟨m, 0, none⟩ a0).setCell ⟨m, 1, none⟩ a1).setCell ⟨m, 2, none⟩ a2).setCell ⟨m, 3, none⟩ a3).setCell ⟨m, 4, none⟩ a4) :=
 ((((h.setCell (p := ⟨m, 0, none⟩) hm _).setCell (p := ⟨m, 1, none⟩) hm _).setCell (p := ⟨m, 2, none⟩) hm _).setCell (p := ⟨m, 3, none⟩) hm _).setCell (p := ⟨m, 4, none⟩) hm _
def StBx (x : World) (N : Nat) (s : List Int × List Int) (v : Value) (wx : World) : Prop :=
 ∃ m B1 q1 B2 q2, v = .pointer (some ⟨m, 0, none⟩) ∧ Blk wx m 106 #[.slice B1 N q1, .slice B2 N q2] ∧ wx.ownsRow x.heap.size 3 1 (.slice B1 N q1) N (s.1.map (.int .i64)) ∧ wx.ownsRow x.heap.size 3 1 (.slice B2 N q2) N (s.2.map (.int .i64)) ∧
  x.heap.size ≤ m ∧ Below x.heap.size x wx
theorem st_laid {x u : World} {b N : Nat} {s : List Int × List Int} {B1 B2 : Option Addr} {q1 q2 : Nat} (h : Below x.heap.size x u) (o1 : u.ownsRow b 3 1 (.slice B1 N q1) N (s.1.map (.int .i64))) (o2 : u.ownsRow b 3 1 (.slice B2 N q2) N (s.2.map (.int .i64))) (hb : x.heap.size ≤ b) :
  StBx x N s (.pointer (some ⟨u.heap.size, 0, none⟩)) (u.alloc (.cells #[.slice B1 N q1, .slice B2 N q2] 106)) :=
 ⟨_, B1, q1, B2, q2, rfl, Blk.made _ _ _, own_base (o1.alloc _) hb, own_base (o2.alloc _) hb, h.size, h.alloc h.size _⟩
theorem st_stored {x u : World} {b m N : Nat} {s : List Int × List Int} {B1 B2 : Option Addr} {q1 q2 : Nat} {a0 a1 : Value} (h : Below x.heap.size x u) (o1 : u.ownsRow b 3 1 (.slice B1 N q1) N (s.1.map (.int .i64))) (o2 : u.ownsRow b 3 1 (.slice B2 N q2) N (s.2.map (.int .i64))) (hb : x.heap.size ≤ b)
  (hz : Blk u m 106 #[a0, a1]) (hmb : m < b) (hm : x.heap.size ≤ m) :
  StBx x N s (.pointer (some ⟨m, 0, none⟩)) ((u.setCell ⟨m, 0, none⟩ (.slice B1 N q1)).setCell ⟨m, 1, none⟩ (.slice B2 N q2)) := by
 have hB := ((But.refl m u).put 0 (.slice B1 N q1)).put 1 (.slice B2 N q2)
 exact ⟨m, B1, q1, B2, q2, rfl, (hz.put 0 _).put 1 _, own_base (own_but o1 hB hmb) hb, own_base (own_but o2 hB hmb) hb, hm, but_to h hB hm h.size⟩
def RNextOwn (w : World) (c : Cfg) (ds : Data) (s : List Int × List Int) (step : Nat) (e : Ending) (w' : World) : Prop :=
 ∃ B1 k1 B2 k2 E ec, e = .returned (.tuple #[.agg #[.slice B1 c.N k1, .slice B2 c.N k2], .agg #[.int .i64 step, .slice E c.batch.toNat ec, .int .i64 (ratI c step), .int .u64 (rootS (nextS c ds s step)), .int .u64 0]]) ∧
  w'.ownsRow w.heap.size 3 1 (.slice B1 c.N k1) c.N ((nextS c ds s step).1.map (.int .i64)) ∧ w'.ownsRow w.heap.size 3 1 (.slice B2 c.N k2) c.N ((nextS c ds s step).2.map (.int .i64)) ∧
  w'.ownsRow w.heap.size 3 1 (.slice E c.batch.toNat ec) c.batch.toNat (((batI c ds step).map fun (n : Nat) => (n : Int)).map (.int .i64)) ∧ Below w.heap.size w w'
theorem rnext_fin {w y : World} {c : Cfg} {ds : Data} {s : List Int × List Int} {step N k base a b : Nat} {ra : Int} {bt : List Int} {B1 B2 E : Option Addr} {r1 r2 ec : Nat}
  (o1 : y.ownsRow base 3 1 (.slice B1 N r1) N ((nextS c ds s step).1.map (.int .i64))) (o2 : y.ownsRow base 3 1 (.slice B2 N r2) N ((nextS c ds s step).2.map (.int .i64))) (o3 : y.ownsRow base 3 1 (.slice E k ec) k (bt.map (.int .i64)))
  (h : Below w.heap.size w y) (ha : w.heap.size ≤ a) (hb : w.heap.size ≤ b) (ha' : a < base) (hb' : b < base) (hN : N = c.N) (hk : k = c.batch.toNat) (hra : ra = ratI c step) (hbt : bt = (batI c ds step).map fun (n : Nat) => (n : Int)) (x0 x1 v0 v1 v2 v3 v4 : Value) :
  RNextOwn w c ds s step (.returned (.tuple #[.agg #[.slice B1 N r1, .slice B2 N r2], .agg #[.int .i64 step, .slice E k ec, .int .i64 ra, .int .u64 (rootS (nextS c ds s step)), .int .u64 0]])) (((((((y.setCell ⟨a, 0, none⟩ x0).setCell ⟨a, 1, none⟩ x1).setCell ⟨b, 0, none⟩ v0).setCell ⟨b, 1, none⟩ v1).setCell ⟨b, 2, none⟩ v2).setCell ⟨b, 3, none⟩ v3).setCell ⟨b, 4, none⟩ v4) ∧
  RNextOwn w c ds s step (.returned (.tuple #[.agg #[.slice B1 N r1, .slice B2 N r2], .agg #[.int .i64 step, .slice E k ec, .int .i64 ra, .int .u64 (rootS (nextS c ds s step)), .int .u64 0]])) (((((((y.setCell ⟨b, 0, none⟩ v0).setCell ⟨b, 1, none⟩ v1).setCell ⟨b, 2, none⟩ v2).setCell ⟨b, 3, none⟩ v3).setCell ⟨b, 4, none⟩ v4).setCell ⟨a, 0, none⟩ x0).setCell ⟨a, 1, none⟩ x1) := by
 subst hN; subst hk; subst hra; subst hbt
 have hbase : w.heap.size ≤ base := by omega
 have f1 : ∀ {u : World} {v : Value} {n : Nat} {xs : List Value}, u.ownsRow base 3 1 v n xs → ∀ i x, (u.setCell ⟨a, i, none⟩ x).ownsRow base 3 1 v n xs := fun h i x => own_far h (p := ⟨a, i, none⟩) ha' x
 have f2 : ∀ {u : World} {v : Value} {n : Nat} {xs : List Value}, u.ownsRow base 3 1 v n xs → ∀ i x, (u.setCell ⟨b, i, none⟩ x).ownsRow base 3 1 v n xs := fun h i x => own_far h (p := ⟨b, i, none⟩) hb' x
 have g1 : ∀ {u : World}, Below w.heap.size w u → ∀ i x, Below w.heap.size w (u.setCell ⟨a, i, none⟩ x) := fun h i x => h.setCell (p := ⟨a, i, none⟩) ha x
 have g2 : ∀ {u : World}, Below w.heap.size w u → ∀ i x, Below w.heap.size w (u.setCell ⟨b, i, none⟩ x) := fun h i x => h.setCell (p := ⟨b, i, none⟩) hb x
 have A : ∀ {v : Value} {n : Nat} {xs : List Value}, y.ownsRow base 3 1 v n xs → (((((((y.setCell ⟨a, 0, none⟩ x0).setCell ⟨a, 1, none⟩ x1).setCell ⟨b, 0, none⟩ v0).setCell ⟨b, 1, none⟩ v1).setCell ⟨b, 2, none⟩ v2).setCell ⟨b, 3, none⟩ v3).setCell ⟨b, 4, none⟩ v4).ownsRow w.heap.size 3 1 v n xs :=
  fun h => own_base (f2 (f2 (f2 (f2 (f2 (f1 (f1 h 0 x0) 1 x1) 0 v0) 1 v1) 2 v2) 3 v3) 4 v4) hbase
 have B : ∀ {v : Value} {n : Nat} {xs : List Value}, y.ownsRow base 3 1 v n xs → (((((((y.setCell ⟨b, 0, none⟩ v0).setCell ⟨b, 1, none⟩ v1).setCell ⟨b, 2, none⟩ v2).setCell ⟨b, 3, none⟩ v3).setCell ⟨b, 4, none⟩ v4).setCell ⟨a, 0, none⟩ x0).setCell ⟨a, 1, none⟩ x1).ownsRow w.heap.size 3 1 v n xs :=
  fun h => own_base (f1 (f1 (f2 (f2 (f2 (f2 (f2 h 0 v0) 1 v1) 2 v2) 3 v3) 4 v4) 0 x0) 1 x1) hbase
 exact ⟨⟨B1, r1, B2, r2, E, ec, rfl, A o1, A o2, A o3, g2 (g2 (g2 (g2 (g2 (g1 (g1 h 0 x0) 1 x1) 0 v0) 1 v1) 2 v2) 3 v3) 4 v4⟩,
  ⟨B1, r1, B2, r2, E, ec, rfl, B o1, B o2, B o3, g1 (g1 (g2 (g2 (g2 (g2 (g2 h 0 v0) 1 v1) 2 v2) 3 v3) 4 v4) 0 x0) 1 x1⟩⟩
theorem rnext_drew {w W : World} {c : Cfg} {ds : Data} {s : List Int × List Int} {step : Nat} {e : Ending} (h : RNextOwn w c ds s step e W) : RNextOwn w c ds s step e W.drew := by
 obtain ⟨B1, r1, B2, r2, E, ec, he, o1, o2, o3, hb⟩ := h
 exact ⟨B1, r1, B2, r2, E, ec, he, own_drew o1, own_drew o2, own_drew o3, hb.drew⟩
theorem rflat_fine_at {c : Cfg} {wt : List Int} {p : List Int × List Int} {Lx : List Int} {G : Pup} {N : Nat}
  (h : ∀ {A1 A2 B1 B2 : Option Addr} {k1 k2 d1 d2 : Nat} {w : World}, Ints .i64 w A1 G.a1.length G.a1 → Ints .i64 w A2 G.a2.length G.a2 → Ints .i64 w B1 G.b1.length G.b1 → Ints .i64 w B2 G.b2.length G.b2 →
   Calls Tryz.prog 150 #[.agg #[.int .i64 G.r1, .int .i64 G.c1, .slice A1 G.a1.length k1, .int .i64 G.r2, .int .i64 G.c2, .slice A2 G.a2.length k2, .slice B1 G.b1.length d1, .slice B2 G.b2.length d2]] w
    (fun e w' => ∃ S s, e = .returned (.slice S N s) ∧ w'.ownsRow w.heap.size 3 1 (.slice S N s) N ((gradL c.ch.toNat c.ci.toNat c.co.toNat wt p).map (.int .i64)) ∧ Below w.heap.size w w'))
  (hL : Lx = gradL c.ch.toNat c.ci.toNat c.co.toNat wt p) (w : World) (A1 A2 B1 B2 : Option Addr) (k1 k2 d1 d2 : Nat) (i1 : Ints .i64 w A1 G.a1.length G.a1) (i2 : Ints .i64 w A2 G.a2.length G.a2) (j1 : Ints .i64 w B1 G.b1.length G.b1) (j2 : Ints .i64 w B2 G.b2.length G.b2) :
  Calls Tryz.prog 150 #[.agg #[.int .i64 G.r1, .int .i64 G.c1, .slice A1 G.a1.length k1, .int .i64 G.r2, .int .i64 G.c2, .slice A2 G.a2.length k2, .slice B1 G.b1.length d1, .slice B2 G.b2.length d2]] w
   (fun e w' => ∃ S s, e = .returned (.slice S N s) ∧ w'.ownsRow w.heap.size 3 1 (.slice S N s) N (Lx.map (.int .i64)) ∧ Below w.heap.size w w') := by
 rw [hL]; exact h i1 i2 j1 j2
theorem ref_Next (c : Cfg) (ds : Data) (hf : Fine c ds) (s0 : 0 ≤ c.seed) (s1 : c.seed < 18446744073709551616) (D : Option Addr) (n dc : Nat) (w : World) (hd : Duos w D n ds) (s : List Int × List Int) (hs : fits c s = true) (A1 A2 : Option Addr) (k1 k2 : Nat)
  (i1 : Ints .i64 w A1 c.N s.1) (i2 : Ints .i64 w A2 c.N s.2) (hk1 : c.N ≤ k1) (step : Nat) (hst : (step : Int) < c.steps) :
  Calls Tryz.prog 99 #[.agg #[.int .i64 c.ci, .int .i64 c.ch, .int .i64 c.co, .int .u64 c.seed, .int .i64 c.batch, .int .i64 c.steps, .int .i64 c.rate, .int .i64 c.decay, .int .i64 c.how, .int .i64 c.keep, .int .i64 c.clip], .slice D n dc, .agg #[.slice A1 c.N k1, .slice A2 c.N k2], .int .i64 step] w (RNextOwn w c ds s step) := by
 have hok := hf.ok
 have hdl := hd.len
 have n1 := hok.n1
 have n40 := hok.n40
 have hba := hok.ba
 obtain ⟨f1, f2, f3, f4⟩ := fits_iff.1 hs
 have hx0 : Below w.heap.size w ((((w.alloc (.cells #[.int .i64 c.ci, .int .i64 c.ch, .int .i64 c.co, .int .u64 c.seed, .int .i64 c.batch, .int .i64 c.steps, .int .i64 c.rate, .int .i64 c.decay, .int .i64 c.how, .int .i64 c.keep, .int .i64 c.clip] 29)).alloc (.cells #[.slice A1 c.N k1, .slice A2 c.N k2] 106)).alloc (.cells #[.slice none 0 0, .slice none 0 0] 106)).alloc (.cells #[.int .i64 0, .slice none 0 0, .int .i64 0, .int .u64 0, .int .u64 0] 90)) := (by repeat (first | exact Below.refl _ _ | assumption | refine bel_drewN ?_ _ | refine Below.drew ?_ | (refine Below.alloc ?_ (by simp <;> omega) _) | (refine Below.setCell ?_ (by simp <;> omega) _)))
 have HB0 := (((Blk.made w 29 #[.int .i64 c.ci, .int .i64 c.ch, .int .i64 c.co, .int .u64 c.seed, .int .i64 c.batch, .int .i64 c.steps, .int .i64 c.rate, .int .i64 c.decay, .int .i64 c.how, .int .i64 c.keep, .int .i64 c.clip]).alloc (.cells #[.slice A1 c.N k1, .slice A2 c.N k2] 106)).alloc (.cells #[.slice none 0 0, .slice none 0 0] 106)).alloc (.cells #[.int .i64 0, .slice none 0 0, .int .i64 0, .int .u64 0, .int .u64 0] 90)
 have HB1 := ((Blk.made' (w.alloc (.cells #[.int .i64 c.ci, .int .i64 c.ch, .int .i64 c.co, .int .u64 c.seed, .int .i64 c.batch, .int .i64 c.steps, .int .i64 c.rate, .int .i64 c.decay, .int .i64 c.how, .int .i64 c.keep, .int .i64 c.clip] 29)) 106 #[.slice A1 c.N k1, .slice A2 c.N k2] (g := w.heap.size + 1) (by simp)).alloc (.cells #[.slice none 0 0, .slice none 0 0] 106)).alloc (.cells #[.int .i64 0, .slice none 0 0, .int .i64 0, .int .u64 0, .int .u64 0] 90)
 have HB2 := (Blk.made' ((w.alloc (.cells #[.int .i64 c.ci, .int .i64 c.ch, .int .i64 c.co, .int .u64 c.seed, .int .i64 c.batch, .int .i64 c.steps, .int .i64 c.rate, .int .i64 c.decay, .int .i64 c.how, .int .i64 c.keep, .int .i64 c.clip] 29)).alloc (.cells #[.slice A1 c.N k1, .slice A2 c.N k2] 106)) 106 #[.slice none 0 0, .slice none 0 0] (g := w.heap.size + 1 + 1) (by simp)).alloc (.cells #[.int .i64 0, .slice none 0 0, .int .i64 0, .int .u64 0, .int .u64 0] 90)
 have HB3 := Blk.made' (((w.alloc (.cells #[.int .i64 c.ci, .int .i64 c.ch, .int .i64 c.co, .int .u64 c.seed, .int .i64 c.batch, .int .i64 c.steps, .int .i64 c.rate, .int .i64 c.decay, .int .i64 c.how, .int .i64 c.keep, .int .i64 c.clip] 29)).alloc (.cells #[.slice A1 c.N k1, .slice A2 c.N k2] 106)).alloc (.cells #[.slice none 0 0, .slice none 0 0] 106)) 90 #[.int .i64 0, .slice none 0 0, .int .i64 0, .int .u64 0, .int .u64 0] (g := w.heap.size + 1 + 1 + 1) (by simp)
 have HSZ0 : ((((w.alloc (.cells #[.int .i64 c.ci, .int .i64 c.ch, .int .i64 c.co, .int .u64 c.seed, .int .i64 c.batch, .int .i64 c.steps, .int .i64 c.rate, .int .i64 c.decay, .int .i64 c.how, .int .i64 c.keep, .int .i64 c.clip] 29)).alloc (.cells #[.slice A1 c.N k1, .slice A2 c.N k2] 106)).alloc (.cells #[.slice none 0 0, .slice none 0 0] 106)).alloc (.cells #[.int .i64 0, .slice none 0 0, .int .i64 0, .int .u64 0, .int .u64 0] 90)).heap.size = w.heap.size + 1 + 1 + 1 + 1 := by simp
 obtain ⟨x, hX⟩ : ∃ x, x = ((((w.alloc (.cells #[.int .i64 c.ci, .int .i64 c.ch, .int .i64 c.co, .int .u64 c.seed, .int .i64 c.batch, .int .i64 c.steps, .int .i64 c.rate, .int .i64 c.decay, .int .i64 c.how, .int .i64 c.keep, .int .i64 c.clip] 29)).alloc (.cells #[.slice A1 c.N k1, .slice A2 c.N k2] 106)).alloc (.cells #[.slice none 0 0, .slice none 0 0] 106)).alloc (.cells #[.int .i64 0, .slice none 0 0, .int .i64 0, .int .u64 0, .int .u64 0] 90)) := ⟨_, rfl⟩
 rw [← hX] at hx0 HB0 HB1 HB2 HB3 HSZ0
 have HSZ := Lib.hid HSZ0
 have lw : w.heap.size + 3 < x.heap.size := by omega
 have lw0 : w.heap.size < x.heap.size := by omega
 have lw1 : w.heap.size + 1 < x.heap.size := by omega
 clear HSZ0
 have hdx := hd.below hx0
 have ix1 := i1.below hx0
 have ix2 := i2.below hx0
 have HBT := Lib.hid (fun W => rbatch_fine c hok ds n hdl (by rw [← hdl]; exact hf.d1) (by rw [← hdl]; exact hf.d16) s0 s1 step hst W)
 have HRT := Lib.hid (fun W => rrate_fine c hf.e step hst W)
 have HSH := Lib.hid (fun W (h : Below x.heap.size x W) => rshape_fine c hok A1 k1 s.1 hk1 (ix1.below h))
 have HGR := Lib.hid (fun p hp => @rgrad_fine c hok s.1 f1 p hp)
 have HFL := Lib.hid (fun p hp => @rflat_fine c hok s.1 p hp)
 have HCL := Lib.hid (fun g A k W => rclip_fine c hok g A k W)
 have HSTP := Lib.hid (fun W (h : Below x.heap.size x W) A3 c3 => rstep_fine c hok s (gradC c ds s.1 step) step A1 A2 A3 k1 k2 c3 W (ix1.below h) (ix2.below h))
 have HRO := Lib.hid (fun B1 B2 q1 q2 W => rroot_fine c hok (nextS c ds s step) B1 B2 q1 q2 W)
 have HGC := Lib.hid (show gradC c ds s.1 step = clipL (meanL c.ch.toNat c.ci.toNat c.co.toNat c.N (c.batch.toNat : Int) s.1 ds (batI c ds step)) c.clip from rfl)
 have HNS := Lib.hid (show weightsL c.how c.keep (ratI c step) s.1 s.2 (gradC c ds s.1 step) = (nextS c ds s step).1 ∧ movesL c.how c.keep s.2 (gradC c ds s.1 step) = (nextS c ds s step).2 from ⟨rfl, rfl⟩)
 obtain ⟨g1, g2, _, _⟩ := fits_iff.1 (fits_next ds hs step)
 have HNL := Lib.hid (⟨g1, g2⟩ : (nextS c ds s step).1.length = c.N ∧ (nextS c ds s step).2.length = c.N)
 have hbl : (batI c ds step).length = c.batch.toNat := batI_length _ _ _
 have HBL := Lib.hid (show ((batI c ds step).map fun (n : Nat) => (n : Int)).length = c.batch.toNat by rw [List.length_map, hbl])
 have HEX := Lib.hid (fun i (hi : i < n) => hf.ex i (by rw [hdl]; exact hi))
 have HBA := Lib.hid (fun k (hk : k < c.batch.toNat) => (⟨natL_at (batI c ds step) (by rw [hbl]; exact hk), by have := batI_lt c ds hf.d1 step _ (atN_mem (batI c ds step) (k := k) (by rw [hbl]; exact hk)); rwa [hdl] at this⟩ : at0 ((batI c ds step).map fun (n : Nat) => (n : Int)) k = (atN (batI c ds step) k : Int) ∧ atN (batI c ds step) k < n))
 have hbe : (c.batch.toNat : Int) = c.batch := by omega
 have HME := Lib.hid (show meanL c.ch.toNat c.ci.toNat c.co.toNat c.N (c.batch.toNat : Int) s.1 ds (batI c ds step) = upto (fun i => divF (at0 (sumN c.ch.toNat c.ci.toNat c.co.toNat c.N s.1 ds (batI c ds step) c.batch.toNat) i) (c.batch * 65536)) c.N by unfold meanL; rw [hbl, hbe])
 have HSU := Lib.hid (sumN_succ c.ch.toNat c.ci.toNat c.co.toNat c.N s.1 ds (batI c ds step))
 have HSL := Lib.hid (sumN_length c.ch.toNat c.ci.toNat c.co.toNat c.N s.1 ds (batI c ds step))
 have HS0 := Lib.hid (show sumN c.ch.toNat c.ci.toNat c.co.toNat c.N s.1 ds (batI c ds step) 0 = zerosL c.N from rfl)
 obtain ⟨sm, hsm⟩ : ∃ sm, sm = sumN c.ch.toNat c.ci.toNat c.co.toNat c.N s.1 ds (batI c ds step) := ⟨_, rfl⟩
 rw [← hsm] at HSU HSL HME HS0
 obtain ⟨bt, hbt⟩ : ∃ bt, bt = (batI c ds step).map fun (n : Nat) => (n : Int) := ⟨_, rfl⟩
 have HBTE := Lib.hid hbt
 rw [← hbt] at HBT HBL HBA
 obtain ⟨ra, hra⟩ : ∃ ra, ra = ratI c step := ⟨_, rfl⟩
 have HRA := Lib.hid hra
 rw [← hra] at HRT HSTP HNS
 obtain ⟨P, hP⟩ : ∃ P, P = shapeP c.ci.toNat c.ch.toNat c.co.toNat s.1 := ⟨_, rfl⟩
 rw [← hP] at HSH
 have HP := Lib.hid hP
 obtain ⟨nb, hnb⟩ : ∃ nb, nb = c.batch.toNat := ⟨_, rfl⟩
 have HNB := Lib.hid hnb
 rw [← hnb] at HBT HBL HBA HME
 have nb8 : nb ≤ 8 := by omega
 have HGN := Lib.hid HGC.out.symm
 rw [← hnb] at HGN
 obtain ⟨N, hN⟩ : ∃ N, N = c.N := ⟨_, rfl⟩
 have HNN := Lib.hid hN
 rw [← hN] at HB1 HSH HFL HCL HSTP HRO HNL HME HSL HS0 n1 n40 ix1 ix2 hX HGN
 have HX := Lib.hid hX
 have hmk := mk_zeros (N := N) (by omega)
 obtain ⟨hb1, hb2⟩ := hba
 clear hX hsm hbt hra hP hnb hN hf hok hdl hs f1 f2 f3 f4 g1 g2 hbl hbe i1 i2 hd hst
 go_enter Tryz.func99, Tryz.ntmps99
 go_upto_region 1 with fail
 rw [← HNN.out, ← HX.out]
 obtain ⟨d0, d1, d2, d3, d4, d5, d6, d7, d8, d9, da⟩ := HB0.cfg
 go_cut [10] (fun v wx => RecBx x nb bt step ra v wx)
 case first =>
  have HFB := Lib.hid (fun W (h : Below x.heap.size x W) => (HB0.below h (by omega)).cfg)
  go_region_held3 (fun W => W.cell? ⟨w.heap.size, 0, none⟩ = some (.int .i64 c.ci) ∧ W.cell? ⟨w.heap.size, 1, none⟩ = some (.int .i64 c.ch) ∧ W.cell? ⟨w.heap.size, 2, none⟩ = some (.int .i64 c.co) ∧ W.cell? ⟨w.heap.size, 3, none⟩ = some (.int .u64 c.seed) ∧ W.cell? ⟨w.heap.size, 4, none⟩ = some (.int .i64 c.batch) ∧ W.cell? ⟨w.heap.size, 5, none⟩ = some (.int .i64 c.steps) ∧ W.cell? ⟨w.heap.size, 6, none⟩ = some (.int .i64 c.rate) ∧ W.cell? ⟨w.heap.size, 7, none⟩ = some (.int .i64 c.decay) ∧ W.cell? ⟨w.heap.size, 8, none⟩ = some (.int .i64 c.how) ∧ W.cell? ⟨w.heap.size, 9, none⟩ = some (.int .i64 c.keep) ∧ W.cell? ⟨w.heap.size, 10, none⟩ = some (.int .i64 c.clip))
   (first | (with_reducible exact HFB.out _ ((Below.refl _ _).drew)) | (with_reducible exact HFB.out _ (((Below.refl _ _).alloc (Nat.le_refl _) _).drew)) | (with_reducible exact HFB.out _ (((Below.refl _ _).drew).alloc (Nat.le_refl _) _)) | (with_reducible exact HFB.out _ hx1) | (with_reducible exact HFB.out _ (hx1.alloc hx1.size _)) | (with_reducible exact HFB.out _ hx2) | (with_reducible exact HFB.out _ (hx2.alloc hx2.size _)) | exact HFB.out _ (recs_below hx2 hm2) | go_keep) (first
   | (go_at_call 148; (refine (HBT.out _).mono ?_); rintro e u1 ⟨E, ec, rfl, OE, hbE⟩; first
       | (have hx1 : Below x.heap.size x u1 := bel_trans ((Below.refl _ _).drew) hbE; have hs1 := hx1.size; have OE1 : u1.ownsRow x.heap.size 3 1 (.slice E nb ec) nb (bt.map (.int .i64)) := OE)
       | (have hx1 : Below x.heap.size x u1 := bel_trans (((Below.refl _ _).alloc (Nat.le_refl _) _).drew) hbE; have hs1 := hx1.size; have hz1 : Blk u1 x.heap.size 90 #[.int .i64 0, .slice none 0 0, .int .i64 0, .int .u64 0, .int .u64 0] := (((Blk.made x 90 #[.int .i64 0, .slice none 0 0, .int .i64 0, .int .u64 0, .int .u64 0]).drewN 1).below hbE (by simp)); have hne : (Value.slice E nb ec).ownBlock ≠ some x.heap.size := (fun e => by have := (OE.lt _ e).1; simp at this; omega); have OE1 : u1.ownsRow x.heap.size 3 1 (.slice E nb ec) nb (bt.map (.int .i64)) := own_base OE (by simp)))
   | (go_at_call 149; (refine (HRT.out _).mono ?_); rintro e u2 ⟨rfl, hbR⟩; first
       | (have hx2 : Below x.heap.size x u2 := bel_trans hx1 hbR; have hz2 := hz1.below hbR hz1.lt; have OE2 := own_below OE1 hbR; have hm2 : x.heap.size ≤ x.heap.size := Nat.le_refl _; obtain ⟨⟨q0, q1, q2, q3, q4⟩, v0, v1, v2, v3, v4⟩ := hz2.rec5)
       | (have hx2 : Below x.heap.size x u2 := bel_trans (hx1.alloc hx1.size (.cells #[.int .i64 0, .slice none 0 0, .int .i64 0, .int .u64 0, .int .u64 0] 90)) hbR; have hz2 : Blk u2 u1.heap.size 90 #[.int .i64 0, .slice none 0 0, .int .i64 0, .int .u64 0, .int .u64 0] := (Blk.made u1 90 #[.int .i64 0, .slice none 0 0, .int .i64 0, .int .u64 0, .int .u64 0]).below hbR (by simp); have OE2 := own_below OE1 (bel_trans ((Below.refl _ _).alloc (Nat.le_refl _) _) hbR); have hne : (Value.slice E nb ec).ownBlock ≠ some u1.heap.size := (fun e => by have := (OE1.lt _ e).2; omega); have hm2 : x.heap.size ≤ u1.heap.size := hx1.size; obtain ⟨⟨q0, q1, q2, q3, q4⟩, v0, v1, v2, v3, v4⟩ := hz2.rec5)
       | (have hx2 : Below x.heap.size x u2 := bel_trans hx1 hbR; have OE2 := own_below OE1 hbR))
   | fail)
  all_goals
   go_wp2
   go_meet
   case rel => first
    | (with_reducible exact rec_laid hx2 OE2 (Nat.le_refl _))
    | (with_reducible exact rec_stored hx2 OE2 (Nat.le_refl _) hz2 hne hm2)
    | trace_state
 case rest =>
  obtain ⟨m, E, ec, rfl, BR, OE, hneE, hmx, hb1⟩ := hcut
  obtain ⟨x1, rfl⟩ : ∃ x1 : World, x1 = wc := ⟨_, rfl⟩
  have hml := BR.lt
  clear d0 d1 d2 d3 d4 d5 d6 d7 d8 d9 da
  obtain ⟨d0, d1, d2, d3, d4, d5, d6, d7, d8, d9, da⟩ := (HB0.below hb1 (by omega)).cfg
  have e0 : x1.cell? ⟨w.heap.size + 1, 0, none⟩ = some (.slice A1 N k1) := (HB1.below hb1 (by omega)).cell 0
  go_wp2_with fail
  refine (HSH.out x1 hb1).mono ?_
  rintro e x2 ⟨P1, p1, P2, p2, P3, p3, P4, p4, rfl, I1, I2, I3, I4, hb2⟩
  have h02 : Below x.heap.size x x2 := bel_trans hb1 hb2
  have BR2 := BR.below hb2 hml
  have OE2 := own_below OE hb2
  have hl2 := BR2.lt
  have BP0 : Blk ((x2.alloc (.cells #[.int .i64 P.r1, .int .i64 P.c1, .slice P1 P.a1.length p1, .int .i64 P.r2, .int .i64 P.c2, .slice P2 P.a2.length p2, .slice P3 P.b1.length p3, .slice P4 P.b2.length p4] 102)).alloc (.cells (madeCells #[.int .i64 0] N) 3)) x2.heap.size 102 #[.int .i64 P.r1, .int .i64 P.c1, .slice P1 P.a1.length p1, .int .i64 P.r2, .int .i64 P.c2, .slice P2 P.a2.length p2, .slice P3 P.b1.length p3, .slice P4 P.b2.length p4] := (Blk.made _ _ _).alloc _
  have OZ0 : ((x2.alloc (.cells #[.int .i64 P.r1, .int .i64 P.c1, .slice P1 P.a1.length p1, .int .i64 P.r2, .int .i64 P.c2, .slice P2 P.a2.length p2, .slice P3 P.b1.length p3, .slice P4 P.b2.length p4] 102)).alloc (.cells (madeCells #[.int .i64 0] N) 3)).ownsRow (x2.heap.size + 1) 3 1 (.slice (some ⟨x2.heap.size + 1, 0, none⟩) N N) N ((zerosL N).map (.int .i64)) := own_zeros (by omega) _ (by simp) (by simp)
  have bz : Below x2.heap.size x2 ((x2.alloc (.cells #[.int .i64 P.r1, .int .i64 P.c1, .slice P1 P.a1.length p1, .int .i64 P.r2, .int .i64 P.c2, .slice P2 P.a2.length p2, .slice P3 P.b1.length p3, .slice P4 P.b2.length p4] 102)).alloc (.cells (madeCells #[.int .i64 0] N) 3)) := (by repeat (first | exact Below.refl _ _ | assumption | refine bel_drewN ?_ _ | refine Below.drew ?_ | (refine Below.alloc ?_ (by simp <;> omega) _) | (refine Below.setCell ?_ (by simp <;> omega) _)))
  obtain ⟨zs, hzs⟩ : ∃ zs, zs = ((x2.alloc (.cells #[.int .i64 P.r1, .int .i64 P.c1, .slice P1 P.a1.length p1, .int .i64 P.r2, .int .i64 P.c2, .slice P2 P.a2.length p2, .slice P3 P.b1.length p3, .slice P4 P.b2.length p4] 102)).alloc (.cells (madeCells #[.int .i64 0] N) 3)) := ⟨_, rfl⟩
  have hzl : zs.heap.size = x2.heap.size + 1 + 1 := by rw [hzs]; simp
  rw [← hzs] at BP0 OZ0 bz
  have HZS := Lib.hid hzs
  have HZL := Lib.hid hzl
  have l21 : x2.heap.size + 1 < zs.heap.size := by omega
  obtain ⟨z, hz⟩ : ∃ z, z = x2.heap.size + 1 := ⟨_, rfl⟩
  have HZ := Lib.hid hz
  have lz2 : x2.heap.size < z := by omega
  rw [← hz] at OZ0 l21
  clear hzs hzl hz
  have h0z : Below x.heap.size x zs := bel_trans h02 bz
  have BRz := BR2.below bz hl2
  have OEz := own_below OE2 bz
  have lE := own_capT OE
  have hrc : z < zs.heap.size := l21
  have HB0z := HB0.below h0z (by omega)
  have HB1z := HB1.below h0z (by omega)
  have HB2z := HB2.below h0z (by omega)
  have HB3z := HB3.below h0z (by omega)
  have hEz : ∀ q, (Value.slice E nb ec).ownBlock = some q → q < x2.heap.size := fun q hq => (OE2.lt q hq).2
  have HEZ := Lib.hid hEz
  have hKP : ∀ A n xs W, Ints .i64 x2 A n xs → Below z zs W → Ints .i64 W A n xs := fun A n xs W hi h => hi.keep (by have := h.size; omega) (fun q hq => (h.cell (by omega)).trans (bz.cell hq))
  have HKP := Lib.hid hKP
  have IE2 := Ints.of_own OE2 HBL.out
  have e2 : x2.cell? ⟨w.heap.size + 1, 0, none⟩ = some (.slice A1 N k1) := (HB1.below h02 (by omega)).cell 0
  have lx2 : w.heap.size + 1 < x2.heap.size := by have := h02.size; omega
  clear hEz hKP OE2 BR2 BR OE hb1 hb2 d0 d1 d2 d3 d4 d5 d6 d7 d8 d9 da e0
  rw [← HS0.out] at OZ0
  go_wp2
  rw [← HZS.out, ← HZ.out]
  go_loopw [13, 14, 15] (fun kk _ _ wr => ∃ k : Nat, k ≤ nb ∧ kk = .int .i64 k ∧ wr.ownsRow z 3 1 (.slice (some ⟨z, 0, none⟩) N N) N ((sm k).map (.int .i64)) ∧ Below z zs wr) (fun kk _ _ _ => nb - (intOf kk).toNat)
  case atStart => exact ⟨0, by omega, rfl, OZ0, Below.refl _ _⟩
  case round =>
   clear OZ0
   obtain ⟨k, hk, rfl, hown, hb⟩ := hrel
   have hbs := hb.size
   have hmz : m < z := by omega
   have q1 : wr.cell? ⟨m, 1, none⟩ = some (.slice E nb ec) := (BRz.below hb hmz).cell 1
   have h0r : Below x.heap.size x wr := h0z.trans (hb.mono (by omega))
   by_cases hlt : k < nb
   ·obtain ⟨eb, eo, hEe, heb, hec⟩ := (HKP.out _ _ _ wr IE2 hb).cells (by omega)
    subst hEe
    obtain ⟨bat, bltn⟩ := HBA.out k hlt
    have g0 := hec k hlt
    rw [bat] at g0
    have HK := Lib.hid (HSU.out k)
    obtain ⟨i, hi⟩ : ∃ i, i = atN (batI c ds step) k := ⟨_, rfl⟩
    rw [← hi] at g0 HK bltn
    obtain ⟨db, dO, hDe, hdb, hdc⟩ := (hdx.below h0r).cells (by omega)
    subst hDe
    obtain ⟨X, ni, xc, T, no, tc, g1, g2, ix, it, z1, z2, z3, z4⟩ := hdc i bltn
    have HXX := Lib.hid (HEX.out i bltn)
    obtain ⟨p, hp⟩ : ∃ p, p = duoAt ds i := ⟨_, rfl⟩
    rw [← hp] at HK HXX ix it
    obtain ⟨G, hG⟩ : ∃ G, G = gradW c.ch.toNat c.ci.toNat c.co.toNat s.1 p := ⟨_, rfl⟩
    have HG := Lib.hid hG
    have K1 := HKP.out _ _ _ wr I1 hb
    have K2 := HKP.out _ _ _ wr I2 hb
    have K3 := HKP.out _ _ _ wr I3 hb
    have K4 := HKP.out _ _ _ wr I4 hb
    obtain ⟨b0, b1, b2, b3, b4, b5, b6, b7⟩ := (BP0.below hb lz2).pup
    have HGC := Lib.hid (fun W (h : Below wr.heap.size wr W) => HGR.out p HXX.out HP.out (k1 := p1) (k2 := p2) (d1 := p3) (d2 := p4) (xc := xc) (tc := tc) (K1.below h) (K2.below h) (K3.below h) (K4.below h) (ix.below h) (it.below h))
    rw [← hG] at HGC
    obtain ⟨Lx, hLx⟩ : ∃ Lx, Lx = gradL c.ch.toNat c.ci.toNat c.co.toNat s.1 p := ⟨_, rfl⟩
    have HFC := Lib.hid (fun W A1 A2 B1 B2 k1 k2 d1 d2 i1 i2 j1 j2 => @rflat_fine_at c s.1 p Lx G N (HFL.out p HXX.out HG.out) hLx W A1 A2 B1 B2 k1 k2 d1 d2 i1 i2 j1 j2)
    rw [← hLx] at HK
    obtain ⟨S, hS⟩ : ∃ S, S = sm k := ⟨_, rfl⟩
    have SL := Lib.hid (show S.length = N by rw [hS]; exact HSL.out k)
    rw [← hS] at HK hown
    have k0 : (0 : Int) ≤ (k : Int) := by omega
    have k1' : (k : Int) < (nb : Int) := by omega
    have i0 : (0 : Int) ≤ (i : Int) := by omega
    have i1' : (i : Int) < (n : Int) := by omega
    clear hec hdc bat hi hp hG hLx hS K1 K2 K3 K4 ix it z1 z2 z3 z4
    obtain ⟨wa, rfl⟩ : ∃ wa : World, wa = wr := ⟨_, rfl⟩
    go_upto_region 7 with fail
    go_cut [14] (fun v wx => ∃ L lc, v = .slice L N lc ∧ wx.ownsRow wa.heap.size 3 1 (.slice L N lc) N (Lx.map (.int .i64)) ∧ Below wa.heap.size wa wx)
    case first =>
     go_region_law (first
      | (go_simp; go_at_call 151; (refine (HGC.out _ ((Below.refl _ _).drew)).mono ?_); rintro e u1 ⟨G1, r1, G2, r2, G3, r3, G4, r4, rfl, O1, O2, O3, O4, hbG⟩; have hu1 : Below wa.heap.size wa u1 := bel_trans ((Below.refl _ _).drew) hbG; have J1 := Ints.of_own O1 rfl; have J2 := Ints.of_own O2 rfl; have J3 := Ints.of_own O3 rfl; have J4 := Ints.of_own O4 rfl)
      | (go_simp; go_at_call 150; (refine (HFC.out u1 _ _ _ _ _ _ _ _ J1 J2 J3 J4).mono ?_); rintro e u2 ⟨L, lc, rfl, OL, hbF⟩; have hu2 : Below wa.heap.size wa u2 := bel_trans hu1 hbF)
      | fail)
     all_goals
      go_wp2
      go_meet
      case rel => exact ⟨L, lc, rfl, own_base OL hu1.size, hu2⟩
    case rest =>
     obtain ⟨L, lc, rfl, OL, hu2⟩ := hcut
     obtain ⟨u2, rfl⟩ : ∃ u2 : World, u2 = wc := ⟨_, rfl⟩
     have hown2 := own_below hown hu2
     have hb2 : Below z zs u2 := hb.trans (hu2.mono (by omega))
     have OL2 := own_base OL (base' := z + 1) (by omega)
     clear b0 b1 b2 b3 b4 b5 b6 b7 g0 g1 g2 q1 hown hb OL
     have hin : u2.ownsRow z 3 1 (.slice (some ⟨z, 0, none⟩) N N) N ((fillL (fun i => addF (at0 S i) (at0 Lx i)) (at0 S) N 0).map (.int .i64)) := by
      rw [fillL_zero, ← SL.out, upto_at0, SL.out]
      exact hown2
     have HKS := Lib.hid (show upto (fun i => addF (at0 S i) (at0 Lx i)) N = sm (k + 1) by rw [HK.out]; unfold sumL; rw [SL.out])
     clear hown2 HK hu2
     go_wp2
     go_loopw [15] (fun i wr => ∃ j : Nat, j ≤ N ∧ i = .int .i64 j ∧ wr.ownsRow z 3 1 (.slice (some ⟨z, 0, none⟩) N N) N ((fillL (fun i => addF (at0 S i) (at0 Lx i)) (at0 S) N j).map (.int .i64)) ∧ Below z zs wr ∧ wr.ownsRow (z + 1) 3 1 (.slice L N lc) N (Lx.map (.int .i64))) (fun i _ => N - (intOf i).toNat)
     case atStart => exact ⟨0, by omega, rfl, hin, hb2, OL2⟩
     case round =>
      clear hin hb2 OL2
      obtain ⟨j, hj, rfl, hown, hb, OL⟩ := hrel
      have hzl := (hown.lt z rfl).2
      by_cases hl2 : j < N
      ·have q1 := hown.cellAt j (by omega)
       rw [fillL_at _ _ hl2] at q1
       have q2 := hown.frozenAt j
       have hll : Lx.length = N := by have := OL.1; rw [List.length_map] at this; omega
       obtain ⟨lb, lo, hLe, hlb, hlc⟩ := (Ints.of_own OL hll).cells (by omega)
       subst hLe
       have q3 := hlc j hl2
       have F := Lib.hid (fillL_set (fun i => addF (at0 S i) (at0 Lx i)) (at0 S) N j)
       have HA := Lib.hid (fun W => ref_Add (at0 S j) (at0 Lx j) W)
       obtain ⟨v, hv⟩ : ∃ v, v = addF (at0 S j) (at0 Lx j) := ⟨_, rfl⟩
       have HV := Lib.hid hv
       rw [← hv] at HA
       obtain ⟨a1, ha1⟩ : ∃ a, a = at0 S j := ⟨_, rfl⟩
       obtain ⟨a2, ha2⟩ : ∃ a, a = at0 Lx j := ⟨_, rfl⟩
       rw [← ha1, ← ha2] at HA
       rw [← ha1] at q1
       rw [← ha2] at q3
       have j0 : (0 : Int) ≤ (j : Int) := by omega
       have j1 : (j : Int) < (N : Int) := by omega
       clear hv ha1 ha2 hlc hll
       go_wp2
       go_region_law (first
        | (go_simp; go_at_call 104; (refine (HA.out _).mono ?_); rintro e w' ⟨rfl, rfl⟩)
        | fail)
       all_goals
        go_wp2
        have hown3 := (hown.stored j (.int .i64 v)).1
        rw [← List.map_set, HV.out, F.out] at hown3
        have hb3 := hb.setCell (p := ⟨z, j, none⟩) (Nat.le_refl _) (.int .i64 v)
        have OL3 := own_far OL (p := ⟨z, j, none⟩) (by simp) (.int .i64 v)
        go_roundw
        case rel => exact ⟨j + 1, by omega, by go_num, by rw [HV.out]; exact own_drewN hown3 1, bel_drewN hb3 1, own_drewN OL3 1⟩
        case measure => simp [intOf]; omega
      ·obtain rfl : N = j := by omega
       rw [fillL_all, HKS.out] at hown
       go_wp2
       go_roundw
       case rel => exact ⟨k + 1, by omega, by go_num, hown, hb⟩
       case measure => simp [intOf]; omega
   ·obtain rfl : k = nb := by omega
    obtain ⟨Y, hY⟩ : ∃ Y, Y = sm k := ⟨_, rfl⟩
    have YL := Lib.hid (show Y.length = N by rw [hY]; exact HSL.out k)
    have hin : wr.ownsRow z 3 1 (.slice (some ⟨z, 0, none⟩) N N) N ((fillL (fun i => divF (at0 Y i) (c.batch * 65536)) (at0 Y) N 0).map (.int .i64)) := by
     rw [fillL_zero, ← YL.out, upto_at0, YL.out, hY]
     exact hown
    rw [← hY] at HME
    clear hown hY HGR HFL HSH HBT HRT HEX HBA HSU HSL HS0 I1 I2 I3 I4 BP0
    obtain ⟨wa, hwa⟩ : ∃ wa : World, wa = wr := ⟨_, rfl⟩
    rw [← hwa] at hin hb hbs h0r
    have HWA := Lib.hid hwa
    clear hwa
    go_wp2
    rw [← HWA.out]
    go_loopw [16] (fun j ws => ∃ q : Nat, q ≤ N ∧ j = .int .i64 q ∧ ws.ownsRow z 3 1 (.slice (some ⟨z, 0, none⟩) N N) N ((fillL (fun i => divF (at0 Y i) (c.batch * 65536)) (at0 Y) N q).map (.int .i64)) ∧ Below z zs ws) (fun j _ => N - (intOf j).toNat)
    case atStart => exact ⟨0, by omega, rfl, hin, hb⟩
    case round =>
     clear hin hb hbs h0r q1
     obtain ⟨j, hj, rfl, hown, hb⟩ := hrel
     have hzl := (hown.lt z rfl).2
     obtain ⟨ws, rfl⟩ : ∃ ws : World, ws = wr := ⟨_, rfl⟩
     by_cases hl2 : j < N
     ·have q1 := hown.cellAt j (by omega)
      rw [fillL_at _ _ hl2] at q1
      have q2 := hown.frozenAt j
      have q4 : ws.cell? ⟨w.heap.size, 4, none⟩ = some (.int .i64 c.batch) := (HB0z.below hb (by omega)).cell 4
      have F := Lib.hid (fillL_set (fun i => divF (at0 Y i) (c.batch * 65536)) (at0 Y) N j)
      have HD := Lib.hid (fun W => ref_Div (at0 Y j) (c.batch * 65536) (clamp_pos (by omega)) W)
      have HWB := Lib.hid (show IntKind.i64.wrap (c.batch * 65536) = c.batch * 65536 from wrap_small _ (by omega) (by omega))
      obtain ⟨v, hv⟩ : ∃ v, v = divF (at0 Y j) (c.batch * 65536) := ⟨_, rfl⟩
      have HV := Lib.hid hv
      rw [← hv] at HD
      obtain ⟨u, hu⟩ : ∃ u, u = at0 Y j := ⟨_, rfl⟩
      rw [← hu] at HD q1
      have j0 : (0 : Int) ≤ (j : Int) := by omega
      have j1 : (j : Int) < (N : Int) := by omega
      clear hv hu
      go_wp2
      go_region_law (first
       | (go_simp; go_at_call 152; try rw [HWB.out]; (refine (HD.out _).mono ?_); rintro e w' ⟨rfl, km, rfl⟩)
       | fail)
      all_goals
       go_wp2
       have hown3 := (hown.stored j (.int .i64 v)).1
       rw [← List.map_set, HV.out, F.out] at hown3
       have hb3 := hb.setCell (p := ⟨z, j, none⟩) (Nat.le_refl _) (.int .i64 v)
       go_roundw
       case rel => exact ⟨j + 1, by omega, by go_num, by rw [HV.out]; exact own_drewN hown3 _, bel_drewN hb3 _⟩
       case measure => simp [intOf]; omega
     ·obtain rfl : N = j := by omega
      rw [fillL_all, ← HME.out] at hown
      have hbs : z ≤ ws.heap.size := by omega
      have h0r : Below x.heap.size x ws := h0z.trans (hb.mono (by omega))
      have BRs := BRz.below hb (by omega)
      have HFA := Lib.hid (fun W (h : Below ws.heap.size ws W) => (⟨(HB0z.below (hb.trans (h.mono hbs)) (by omega)).cfg, (HB1z.below (hb.trans (h.mono hbs)) (by omega)).two.1, (BRs.below h (by omega)).cell 2⟩ :
       (W.cell? ⟨w.heap.size, 0, none⟩ = some (.int .i64 c.ci) ∧ W.cell? ⟨w.heap.size, 1, none⟩ = some (.int .i64 c.ch) ∧ W.cell? ⟨w.heap.size, 2, none⟩ = some (.int .i64 c.co) ∧ W.cell? ⟨w.heap.size, 3, none⟩ = some (.int .u64 c.seed) ∧ W.cell? ⟨w.heap.size, 4, none⟩ = some (.int .i64 c.batch) ∧ W.cell? ⟨w.heap.size, 5, none⟩ = some (.int .i64 c.steps) ∧ W.cell? ⟨w.heap.size, 6, none⟩ = some (.int .i64 c.rate) ∧ W.cell? ⟨w.heap.size, 7, none⟩ = some (.int .i64 c.decay) ∧ W.cell? ⟨w.heap.size, 8, none⟩ = some (.int .i64 c.how) ∧ W.cell? ⟨w.heap.size, 9, none⟩ = some (.int .i64 c.keep) ∧ W.cell? ⟨w.heap.size, 10, none⟩ = some (.int .i64 c.clip)) ∧ (W.cell? ⟨w.heap.size + 1, 0, none⟩ = some (.slice A1 N k1) ∧ W.cell? ⟨w.heap.size + 1, 1, none⟩ = some (.slice A2 N k2)) ∧ W.cell? ⟨m, 2, none⟩ = some (.int .i64 ra)))
      have HLT := Lib.hid (fun W (h : Below ws.heap.size ws W) => (⟨by have := h.size; omega, by have := h.size; omega, by have := h.size; omega⟩ : w.heap.size < W.heap.size ∧ w.heap.size + 1 < W.heap.size ∧ m < W.heap.size))
      have gI := Ints.of_own hown (by have := hown.1; rw [List.length_map] at this; omega)
      go_upto_region 16 with fail
      obtain ⟨⟨d0, d1, d2, d3, d4, d5, d6, d7, d8, d9, da⟩, ⟨e0, e1⟩, f2⟩ := HFA.out ws (Below.refl _ _)
      obtain ⟨l0, l1, l2⟩ := HLT.out ws (Below.refl _ _)
      go_cut [17] (fun v wx => StBx ws N (nextS c ds s step) v wx)
      case first =>
       go_region_held3 (fun W => (W.cell? ⟨w.heap.size, 0, none⟩ = some (.int .i64 c.ci) ∧ W.cell? ⟨w.heap.size, 1, none⟩ = some (.int .i64 c.ch) ∧ W.cell? ⟨w.heap.size, 2, none⟩ = some (.int .i64 c.co) ∧ W.cell? ⟨w.heap.size, 3, none⟩ = some (.int .u64 c.seed) ∧ W.cell? ⟨w.heap.size, 4, none⟩ = some (.int .i64 c.batch) ∧ W.cell? ⟨w.heap.size, 5, none⟩ = some (.int .i64 c.steps) ∧ W.cell? ⟨w.heap.size, 6, none⟩ = some (.int .i64 c.rate) ∧ W.cell? ⟨w.heap.size, 7, none⟩ = some (.int .i64 c.decay) ∧ W.cell? ⟨w.heap.size, 8, none⟩ = some (.int .i64 c.how) ∧ W.cell? ⟨w.heap.size, 9, none⟩ = some (.int .i64 c.keep) ∧ W.cell? ⟨w.heap.size, 10, none⟩ = some (.int .i64 c.clip)) ∧ (W.cell? ⟨w.heap.size + 1, 0, none⟩ = some (.slice A1 N k1) ∧ W.cell? ⟨w.heap.size + 1, 1, none⟩ = some (.slice A2 N k2)) ∧ W.cell? ⟨m, 2, none⟩ = some (.int .i64 ra))
        (first | (with_reducible exact HFA.out _ ((Below.refl _ _).drew)) | (with_reducible exact HFA.out _ (((Below.refl _ _).alloc (Nat.le_refl _) _).drew)) | (with_reducible exact HFA.out _ (((Below.refl _ _).drew).alloc (Nat.le_refl _) _)) | (with_reducible exact HFA.out _ hx1) | (with_reducible exact HFA.out _ (hx1.alloc hx1.size _)) | (with_reducible exact HFA.out _ hx2) | (with_reducible exact HFA.out _ (hx2.alloc hx2.size _)) | exact HFA.out _ ((hx2.setCell (p := ⟨ws.heap.size, 0, none⟩) hm2 (.slice B1 N r1)).setCell (p := ⟨ws.heap.size, 1, none⟩) hm2 (.slice B2 N r2)) | exact HFA.out _ ((hx2.setCell (p := ⟨u1.heap.size, 0, none⟩) hm2 (.slice B1 N r1)).setCell (p := ⟨u1.heap.size, 1, none⟩) hm2 (.slice B2 N r2)) | go_keep) (first
        | (go_at_call 154; (refine (HCL.out _ _ _ _ (by first | exact gI.drew | exact (gI.drew).alloc _ | exact (gI.alloc _).drew)).mono ?_); rintro e u1 ⟨S, sc, rfl, IS, hbC⟩; first
            | (have hx1 : Below ws.heap.size ws u1 := bel_trans ((Below.refl _ _).drew) hbC; have hs1 := hx1.size)
            | (have hx1 : Below ws.heap.size ws u1 := bel_trans (((Below.refl _ _).alloc (Nat.le_refl _) _).drew) hbC; have hs1 := hx1.size; have hz1 : Blk u1 ws.heap.size 106 #[.slice none 0 0, .slice none 0 0] := (((Blk.made ws 106 #[.slice none 0 0, .slice none 0 0]).drewN 1).below hbC (by simp))))
        | (go_at_call 153; (rw [HGN.out] at IS); first
            | ((refine (HSTP.out u1 (bel_trans h0r hx1) S sc IS).mono ?_); rintro e u2 ⟨B1, r1, B2, r2, rfl, O1, O2, hbS⟩; first
                | (have hx2 : Below ws.heap.size ws u2 := bel_trans hx1 hbS; have hz2 := hz1.below hbS hz1.lt; have hmb : ws.heap.size < u1.heap.size := hz1.lt; have hm2 : ws.heap.size ≤ ws.heap.size := Nat.le_refl _; obtain ⟨⟨p0, p1'⟩, p2', p3'⟩ := hz2.two)
                | (have hx2 : Below ws.heap.size ws u2 := bel_trans hx1 hbS))
            | ((refine (HSTP.out (u1.alloc (.cells #[.slice none 0 0, .slice none 0 0] 106)) (bel_trans h0r (hx1.alloc hx1.size _)) S sc (IS.alloc _)).mono ?_); rintro e u2 ⟨B1, r1, B2, r2, rfl, O1, O2, hbS⟩; have hx2 : Below ws.heap.size ws u2 := bel_trans (hx1.alloc hx1.size (.cells #[.slice none 0 0, .slice none 0 0] 106)) hbS; have hz2 : Blk u2 u1.heap.size 106 #[.slice none 0 0, .slice none 0 0] := (Blk.made u1 106 #[.slice none 0 0, .slice none 0 0]).below hbS (by simp); have hmb : u1.heap.size < (u1.alloc (.cells #[.slice none 0 0, .slice none 0 0] 106)).heap.size := (by simp); have hm2 : ws.heap.size ≤ u1.heap.size := hx1.size; obtain ⟨⟨p0, p1'⟩, p2', p3'⟩ := hz2.two))
        | fail)
       all_goals
        rw [HNS.out.1] at O1
        rw [HNS.out.2] at O2
        go_wp2
        go_meet
        case rel => first
         | (with_reducible exact st_laid hx2 O1 O2 hx1.size)
         | (with_reducible exact st_stored hx2 O1 O2 hx1.size hz2 hmb hm2)
         | (with_reducible exact st_stored hx2 O1 O2 (Nat.le_trans hm2 (Nat.le_of_lt hmb)) hz2 hmb hm2)
         | trace_state
      case rest =>
       obtain ⟨m2, B1, r1, B2, r2, rfl, BS, OB1, OB2, hm2, hbc⟩ := hcut
       obtain ⟨y, rfl⟩ : ∃ y : World, y = wc := ⟨_, rfl⟩
       have h0y : Below x.heap.size x y := h0r.trans (hbc.mono (by omega))
       have hbzy : Below z zs y := hb.trans (hbc.mono (by omega))
       have J1 := Ints.of_own OB1 HNL.out.1
       have J2 := Ints.of_own OB2 HNL.out.2
       have hl2 := BS.lt
       have BRy := BRz.below hbzy (by omega)
       have lmy := BRy.lt
       obtain ⟨⟨t0, t1⟩, _⟩ := BS.two
       have OEy : y.ownsRow x.heap.size 3 1 (.slice E k ec) k (bt.map (.int .i64)) := own_keep OEz fun q hq => hbzy.block q (by have := HEZ.out q hq; omega)
       clear d0 d1 d2 d3 d4 d5 d6 d7 d8 d9 da e0 e1 f2 l0 l1 l2
       go_wp2_with fail
       refine (HRO.out B1 B2 r1 r2 y J1 J2).mono ?_
       rintro e u3 ⟨rfl, hb3⟩
       have BR3 := BRy.below hb3 lmy
       have BS3 := BS.below hb3 hl2
       have h03 : Below x.heap.size x u3 := bel_trans h0y hb3
       have s3 := h03.size
       have lm3 := BR3.lt
       have ls3 := BS3.lt
       have hbx : But m u3 (u3.setCell ⟨m, 3, none⟩ (.int .u64 (rootS (nextS c ds s step)))) := (But.refl _ _).put 3 _
       have BRf := BR3.put 3 (.int .u64 (rootS (nextS c ds s step)))
       have BSf := BS3.butB hbx (by omega)
       have B2f := (HB2.below h03 (by omega)).butB hbx (by omega)
       have B3f := (HB3.below h03 (by omega)).butB hbx (by omega)
       have OEf := own_butN (own_below OEy hb3) hbx hneE
       have O1f := own_butN (own_below OB1 hb3) hbx (fun e => by have := (OB1.lt _ e).1; omega)
       have O2f := own_butN (own_below OB2 hb3) hbx (fun e => by have := (OB2.lt _ e).1; omega)
       have hwf : Below w.heap.size w (u3.setCell ⟨m, 3, none⟩ (.int .u64 (rootS (nextS c ds s step)))) := (hx0.trans (h03.mono (by omega))).setCell (p := ⟨m, 3, none⟩) (by simp; omega) _
       obtain ⟨⟨g0, g1, g2, g3, g4⟩, z0, z1, z2, z3, z4⟩ := BR3.rec5
       obtain ⟨y3, hy3⟩ : ∃ y3, y3 = u3.setCell ⟨m, 3, none⟩ (.int .u64 (rootS (nextS c ds s step))) := ⟨_, rfl⟩
       rw [← hy3] at BRf BSf B2f B3f OEf O1f O2f hwf
       have HY3 := Lib.hid hy3
       clear hy3 hbx
       obtain ⟨⟨x0, x1'⟩, _⟩ := BSf.two
       obtain ⟨⟨v0, v1, v2, v3, v4⟩, _⟩ := Blk.rec5 (t := 90) (a0 := .int .i64 step) (a1 := .slice E k ec) (a2 := .int .i64 ra) (a3 := .int .u64 (rootS (nextS c ds s step))) (a4 := .int .u64 0) BRf
       obtain ⟨⟨c0, c1⟩, cz0, cz1⟩ := B2f.two
       obtain ⟨⟨k0', k1', k2', k3', k4'⟩, kz0, kz1, kz2, kz3, kz4⟩ := B3f.rec5
       have ne1 : w.heap.size + 1 + 1 ≠ m := by omega
       have ne2 : w.heap.size + 1 + 1 ≠ m2 := by omega
       have ne3 : w.heap.size + 1 + 1 + 1 ≠ m := by omega
       have ne4 : w.heap.size + 1 + 1 + 1 ≠ m2 := by omega
       have bl2 : w.heap.size + 1 + 1 < w.heap.size + 1 + 1 + 1 + 1 := by omega
       have bl3 : w.heap.size + 1 + 1 + 1 < w.heap.size + 1 + 1 + 1 + 1 := by omega
       have bl4 : w.heap.size ≤ w.heap.size + 1 + 1 + 1 + 1 := by omega
       have bl5 : w.heap.size ≤ w.heap.size + 1 + 1 := by omega
       have bl6 : w.heap.size ≤ w.heap.size + 1 + 1 + 1 := by omega
       have ne5 := Ne.symm ne1
       have ne6 := Ne.symm ne2
       have ne7 := Ne.symm ne3
       have ne8 := Ne.symm ne4
       have OE1 := own_base OEf (base' := w.heap.size + 1 + 1 + 1 + 1) (by have := HSZ.out; omega)
       have OB1' := own_base O1f (base' := w.heap.size + 1 + 1 + 1 + 1) (by omega)
       have OB2' := own_base O2f (base' := w.heap.size + 1 + 1 + 1 + 1) (by omega)
       have HO := Lib.hid (rnext_fin (a := w.heap.size + 1 + 1) (b := w.heap.size + 1 + 1 + 1) OB1' OB2' OE1 hwf bl5 bl6 bl2 bl3 HNN.out HNB.out HRA.out HBTE.out (.slice B1 N r1) (.slice B2 N r2) (.int .i64 step) (.slice E k ec) (.int .i64 ra) (.int .u64 (rootS (nextS c ds s step))) (.int .u64 0))
       clear t0 t1 OE1 OB1' OB2' hwf OEf O1f O2f BRf BSf B2f B3f
       go_wp2
       rw [← HY3.out]
       clear g0 g1 g2 g3 g4 z0 z1 z2 z3 z4
       go_region
       all_goals
        go_wp2
        refine bodyPost_ret (v := .tuple #[.agg #[.slice B1 N r1, .slice B2 N r2], .agg #[.int .i64 step, .slice E k ec, .int .i64 ra, .int .u64 (rootS (nextS c ds s step)), .int .u64 0]]) (by simp [results, Tryz.results99, go_sem, c0, c1, k0', k1', k2', k3', k4']) rfl ?_
        exact rnext_drew HO.out.1
end Go.Proofs.YtgodgedhddngeaaGreatDoor
