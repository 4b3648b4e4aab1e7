/- What a desk has told, in a builder; how long an answer is. -/
import Derived.Test.YtgodgedhddngeaaGreatDoorDskM
import Derived.Shelf.Strings.BuilderK
set_option maxRecDepth 100000
set_option maxHeartbeats 16000000
namespace Go.Proofs.YtgodgedhddngeaaGreatDoor
open Go.ChangeShapes Go.WideShapes Go.ChangeAt Go.RowKit Go.Sort Pl
def outT (t : TypeId) : Bool := t == 40 || t == 5
theorem lib_WriteString (B b : Nat) (l : List UInt8) (s : ByteArray) (w : World) (h : Lib.IsBuilderF 40 5 B b (Lib.byteCells l) w) (hlen : l.length + s.size ≤ 140737488355328) (hBw : B ≤ w.heap.size) :
  Calls Tryz.prog 10 #[.pointer (some ⟨b, 0, none⟩), .string s] w fun e w' => e = .returned (.tuple #[.int .i64 s.size, .nilIface]) ∧ Lib.IsBuilderF 40 5 B b (Lib.byteCells (l ++ s.data.toList)) w' ∧ Kp B outT w w' := by
 refine (Any.Builder_WriteString_k { Tryz.lays156 with } Tryz.Builder_Extra_156 B b (Lib.byteCells l) s w h (by rw [Lib.byteCells_length]; exact hlen) hBw).mono ?_
 rintro e w' ⟨rfl, h1, h2, h3⟩
 have e1 : Lib.byteCells l ++ Lib.strCells s = Lib.byteCells (l ++ s.data.toList) := by
  rw [Lib.strCells_eq]
  unfold Lib.byteCells
  rw [List.map_append]
 rw [e1] at h1
 have hbk : ∃ cs, w.heap[b]? = some (.cells cs 40 (0, 0)) := by
  rcases h with ⟨_, v, hb, _⟩ | ⟨_, v, hb, _⟩
  ·exact ⟨_, hb⟩
  ·exact ⟨_, hb⟩
 refine ⟨rfl, .inr h1, h2.os, h2.tape, h2.output, h2.size, fun g hg hc => ?_⟩
 rcases hc with hc | hc
 ·exact h2.block g hc
 ·obtain ⟨o, ho⟩ : ∃ o, w.heap[g]? = some o := ⟨_, Array.getElem?_eq_getElem hg⟩
  rw [ho]
  refine h3 g o ho (fun e => ?_) (fun cs fz e => ?_)
  ·injection e with e
   subst e
   obtain ⟨cs, hcs⟩ := hbk
   have := hc _ _ _ hcs
   revert this
   decide
  ·subst e
   have := hc _ _ _ ho
   revert this
   decide
theorem builder_kp {B B' b : Nat} {T : TypeId → Bool} {l : List Value} {w w' : World} (h : Lib.IsBuilderF 40 5 B b l w) (hk : Kp B' T w w') (h1 : T 40 = false) (h2 : T 5 = false) : Lib.IsBuilderF 40 5 B b l w' := by
 have key : ∀ p, Lib.BuilderAtF 40 5 B b p l w → Lib.BuilderAtF 40 5 B b p l w' := by
  rintro p ⟨hB, v, hb, ho, hne⟩
  refine ⟨hB, v, hk.blk hb h1, ⟨ho.1, ?_⟩, hne⟩
  rcases ho.2 with hv | ⟨g, cap, cur, fz, hv, hg, hh, rest⟩
  ·exact .inl hv
  ·refine .inr ⟨g, cap, cur, fz, hv, hg, ?_, rest⟩
   refine (hk.block g (Array.getElem?_eq_some_iff.1 hh).1 (.inr fun cs t fr e => ?_)).trans hh
   rw [hh] at e
   injection e with e
   injection e with _ e _
   rw [← e]
   exact h2
 exact h.imp (key _) (key _)
theorem builder_made (w : World) : Lib.IsBuilderF 40 5 w.heap.size w.heap.size (Lib.byteCells []) (w.alloc (.cells #[.pointer none, .slice none 0 0] 40)) :=
 .inl ⟨Nat.le_refl _, _, Blk.made w 40 #[.pointer none, .slice none 0 0], World.ownsRowF_nil _ _ _ _, by simp [Value.ownBlock]⟩
theorem builder_base {B B' b : Nat} {w : World} (h : Lib.IsBuilderF 40 5 B b (Lib.byteCells []) w) (hB : B' ≤ B) : Lib.IsBuilderF 40 5 B' b (Lib.byteCells []) w := by
 have key : ∀ p, Lib.BuilderAtF 40 5 B b p (Lib.byteCells []) w → Lib.BuilderAtF 40 5 B' b p (Lib.byteCells []) w := by
  rintro p ⟨h1, v, hb, ho, hne⟩
  refine ⟨Nat.le_trans hB h1, v, hb, ⟨ho.1, ?_⟩, hne⟩
  rcases ho.2 with hv | ⟨g, cap, cur, fz, hv, hg, rest⟩
  ·exact .inl hv
  ·exact .inr ⟨g, cap, cur, fz, hv, Nat.le_trans hB hg, rest⟩
 exact h.imp (key _) (key _)
theorem Kp.both {B : Nat} {T T' : TypeId → Bool} {w w' : World} (h : Kp B T w w') (hT : ∀ t, T' t = false → T t = false) : Kp B T' w w' :=
 ⟨h.os, h.tape, h.output, h.size, fun g hg hc => h.block g hg (hc.imp id fun hc cs t fr e => hT t (hc cs t fr e))⟩
theorem itoa_len {x : Int} (h0 : -9223372036854775808 ≤ x) (h1 : x ≤ 9223372036854775807) : (Lib.itoa x).length ≤ 300 := Nat.le_trans (Lib.itoa_length_le x h0 h1) (by omega)
theorem err_len {e : Int} (h0 : -9223372036854775808 ≤ e) (h1 : e ≤ 9223372036854775807) : (errT e).length ≤ 300 := Nat.le_trans (errT_len h0 h1) (by omega)
theorem cfgE_small (c : Cfg) : 0 ≤ c.E ∧ c.E ≤ 1 := by
 unfold Cfg.E cfgE
 split <;> omega
theorem lossW_small (c : Cfg) (wt : List Int) (p : List Int × List Int) : -9223372036854775808 ≤ lossW c wt p ∧ lossW c wt p ≤ 9223372036854775807 := by
 have h1 := dotN_lo (offL (outpL c.ch.toNat c.ci.toNat c.co.toNat (shapeP c.ci.toNat c.ch.toNat c.co.toNat wt).a1 (shapeP c.ci.toNat c.ch.toNat c.co.toNat wt).b1 (shapeP c.ci.toNat c.ch.toNat c.co.toNat wt).a2 (shapeP c.ci.toNat c.ch.toNat c.co.toNat wt).b2 p.1) p.2) (offL (outpL c.ch.toNat c.ci.toNat c.co.toNat (shapeP c.ci.toNat c.ch.toNat c.co.toNat wt).a1 (shapeP c.ci.toNat c.ch.toNat c.co.toNat wt).b1 (shapeP c.ci.toNat c.ch.toNat c.co.toNat wt).a2 (shapeP c.ci.toNat c.ch.toNat c.co.toNat wt).b2 p.1) p.2) c.co.toNat
 have h2 := dotN_hi (offL (outpL c.ch.toNat c.ci.toNat c.co.toNat (shapeP c.ci.toNat c.ch.toNat c.co.toNat wt).a1 (shapeP c.ci.toNat c.ch.toNat c.co.toNat wt).b1 (shapeP c.ci.toNat c.ch.toNat c.co.toNat wt).a2 (shapeP c.ci.toNat c.ch.toNat c.co.toNat wt).b2 p.1) p.2) (offL (outpL c.ch.toNat c.ci.toNat c.co.toNat (shapeP c.ci.toNat c.ch.toNat c.co.toNat wt).a1 (shapeP c.ci.toNat c.ch.toNat c.co.toNat wt).b1 (shapeP c.ci.toNat c.ch.toNat c.co.toNat wt).a2 (shapeP c.ci.toNat c.ch.toNat c.co.toNat wt).b2 p.1) p.2) c.co.toNat
 unfold lossW lossP
 omega
theorem verbD_len {d : DSt} (h : d.Ok) (v : List UInt8) (n : List Int) : (verbD d v n).1.length ≤ 300 := by
 have hc := crs_small (ds := d.ds) h.c
 have hb := h.b
 have hk := h.k
 have he := @DSt.Ok.end_ d
 have hE := cfgE_small (confC n)
 unfold verbD
 split
 ·unfold confD
  split
  ·show (okT).length ≤ 300; decide
  ·show (errT (confC n).E).length ≤ 300; exact err_len (by omega) (by omega)
 split
 ·unfold stepD
  split
  ·show (errT (crs d.c d.ds)).length ≤ 300; exact err_len (by omega) (by omega)
  split
  ·show (errT 1).length ≤ 300; exact err_len (by omega) (by omega)
  split
  ·show (errT 6).length ≤ 300; exact err_len (by omega) (by omega)
  ·rename_i h1 h2 h3
   have hC : crs d.c d.ds = 0 := by simpa using h1
   have hg := ((recC_good (fine hC) (m := d.k + 1) (by omega)) d.k (by omega)).1
   have hll := line_len hg
   show ((lineT (recC d.c d.ds d.k)).dropLast).length ≤ 300
   rw [List.length_dropLast]
   unfold lineT
   rw [List.length_append, List.length_singleton]
   omega
 split
 ·show (okT).length ≤ 300; decide
 split
 ·show (okT).length ≤ 300; decide
 split
 ·show (Lib.itoa ((d.by_.length : Int) - ((beg d.by_).2 : Nat))).length ≤ 300; exact itoa_len (by omega) (by omega)
 split
 ·show (auditD d).length ≤ 300
  unfold auditD
  split
  ·exact err_len (by omega) (by omega)
  split
  ·exact err_len (by omega) (by omega)
  ·have := audN_le d.k (recAt (beg d.by_).1) (recC d.c d.ds)
   exact itoa_len (by omega) (by omega)
 split
 ·show (lossD d (at0 n 0)).length ≤ 300
  unfold lossD
  split
  ·exact err_len (by omega) (by omega)
  split
  ·exact err_len (by omega) (by omega)
  split
  ·exact err_len (by omega) (by omega)
  ·obtain ⟨l1, l2⟩ := lossW_small d.c (states d.c d.ds d.k).1 (duoAt d.ds (at0 n 0).toNat)
   exact itoa_len l1 l2
 split
 ·show (Lib.itoa (d.by_.length : Nat)).length ≤ 300; exact itoa_len (by omega) (by omega)
 ·show (errT 3).length ≤ 300; exact err_len (by omega) (by omega)
theorem lineD_len {d : DSt} (h : d.Ok) (v : List UInt8) (w : List (List UInt8)) : (lineD d v w).1.length ≤ 300 := by
 unfold lineD
 split
 ·unfold moreD
  split
  ·show (errT 3).length ≤ 300; exact err_len (by omega) (by omega)
  ·split
   ·split
    ·show (errT 2).length ≤ 300; exact err_len (by omega) (by omega)
    ·show (okT).length ≤ 300; decide
   ·show (errT 3).length ≤ 300; exact err_len (by omega) (by omega)
 ·split
  ·show (errT 3).length ≤ 300; exact err_len (by omega) (by omega)
  ·exact verbD_len h v _
def runK (ls : List (List UInt8)) (p : Nat) : List UInt8 × DSt := (ls.take p).foldl goL ([], DSt.start)
theorem runK_succ {ls : List (List UInt8)} {p : Nat} {l : List UInt8} (h : ls[p]? = some l) : runK ls (p + 1) = goL (runK ls p) l := by
 unfold runK
 rw [List.take_add_one, h, List.foldl_append]
 rfl
theorem runK_ok (ls : List (List UInt8)) : ∀ p, (runK ls p).2.Ok ∧ (runK ls p).1.length ≤ 301 * p
 | 0 => ⟨DSt.Ok.start, Nat.zero_le _⟩
 | p + 1 => by
  obtain ⟨h1, h2⟩ := runK_ok ls p
  rcases Nat.lt_or_ge p ls.length with hp | hp
  ·rw [runK_succ (List.getElem?_eq_getElem hp)]
   refine ⟨goL_ok h1 _, ?_⟩
   unfold goL
   split
   ·omega
   ·split
    ·omega
    ·rename_i v w _ _
     have := lineD_len h1 v w
     show ((runK ls p).1 ++ ((lineD (runK ls p).2 v w).1 ++ [10])).length ≤ _
     rw [List.length_append, List.length_append, List.length_singleton]
     omega
  ·have e : runK ls (p + 1) = runK ls p := by
    unfold runK
    rw [List.take_of_length_le (by omega), List.take_of_length_le hp]
   rw [e]
   exact ⟨h1, by omega⟩
theorem cfg_put13 {w : World} {q : Nat} {t : TypeId} {a0 a1 a2 a3 a4 a5 a6 a7 a8 a9 a10 t0 t1 : Value} (b0 b1 b2 b3 b4 b5 b6 b7 b8 b9 b10 : Value) (h : Blk w q t #[a0, a1, a2, a3, a4, a5, a6, a7, a8, a9, a10, t0, t1]) :
  Blk (((((((((((w.setCell ⟨q, 0, none⟩ b0).setCell ⟨q, 1, none⟩ b1).setCell ⟨q, 2, none⟩ b2).setCell ⟨q, 3, none⟩ b3).setCell ⟨q, 4, none⟩ b4).setCell ⟨q, 5, none⟩ b5).setCell ⟨q, 6, none⟩ b6).setCell ⟨q, 7, none⟩ b7).setCell ⟨q, 8, none⟩ b8).setCell ⟨q, 9, none⟩ b9).setCell ⟨q, 10, none⟩ b10) q t #[b0, b1, b2, b3, b4, b5, b6, b7, b8, b9, b10, t0, t1] ∧ But q w (((((((((((w.setCell ⟨q, 0, none⟩ b0).setCell ⟨q, 1, none⟩ b1).setCell ⟨q, 2, none⟩ b2).setCell ⟨q, 3, none⟩ b3).setCell ⟨q, 4, none⟩ b4).setCell ⟨q, 5, none⟩ b5).setCell ⟨q, 6, none⟩ b6).setCell ⟨q, 7, none⟩ b7).setCell ⟨q, 8, none⟩ b8).setCell ⟨q, 9, none⟩ b9).setCell ⟨q, 10, none⟩ b10) := by
 have h0 : Blk _ q t #[b0, a1, a2, a3, a4, a5, a6, a7, a8, a9, a10, t0, t1] := h.put 0 b0
 have h1 : Blk _ q t #[b0, b1, a2, a3, a4, a5, a6, a7, a8, a9, a10, t0, t1] := h0.put 1 b1
 have h2 : Blk _ q t #[b0, b1, b2, a3, a4, a5, a6, a7, a8, a9, a10, t0, t1] := h1.put 2 b2
 have h3 : Blk _ q t #[b0, b1, b2, b3, a4, a5, a6, a7, a8, a9, a10, t0, t1] := h2.put 3 b3
 have h4 : Blk _ q t #[b0, b1, b2, b3, b4, a5, a6, a7, a8, a9, a10, t0, t1] := h3.put 4 b4
 have h5 : Blk _ q t #[b0, b1, b2, b3, b4, b5, a6, a7, a8, a9, a10, t0, t1] := h4.put 5 b5
 have h6 : Blk _ q t #[b0, b1, b2, b3, b4, b5, b6, a7, a8, a9, a10, t0, t1] := h5.put 6 b6
 have h7 : Blk _ q t #[b0, b1, b2, b3, b4, b5, b6, b7, a8, a9, a10, t0, t1] := h6.put 7 b7
 have h8 : Blk _ q t #[b0, b1, b2, b3, b4, b5, b6, b7, b8, a9, a10, t0, t1] := h7.put 8 b8
 have h9 : Blk _ q t #[b0, b1, b2, b3, b4, b5, b6, b7, b8, b9, a10, t0, t1] := h8.put 9 b9
 have h10 : Blk _ q t #[b0, b1, b2, b3, b4, b5, b6, b7, b8, b9, b10, t0, t1] := h9.put 10 b10
 have g0 := (But.refl q w).put 0 b0
 have g1 := g0.put 1 b1
 have g2 := g1.put 2 b2
 have g3 := g2.put 3 b3
 have g4 := g3.put 4 b4
 have g5 := g4.put 5 b5
 have g6 := g5.put 6 b6
 have g7 := g6.put 7 b7
 have g8 := g7.put 8 b8
 have g9 := g8.put 9 b9
 have g10 := g9.put 10 b10
 exact ⟨h10, g10⟩
theorem cfg_put14 {w : World} {q : Nat} {t : TypeId} {a0 a1 a2 a3 a4 a5 a6 a7 a8 a9 a10 t0 t1 t2 : Value} (b0 b1 b2 b3 b4 b5 b6 b7 b8 b9 b10 : Value) (h : Blk w q t #[a0, a1, a2, a3, a4, a5, a6, a7, a8, a9, a10, t0, t1, t2]) :
  Blk (((((((((((w.setCell ⟨q, 0, none⟩ b0).setCell ⟨q, 1, none⟩ b1).setCell ⟨q, 2, none⟩ b2).setCell ⟨q, 3, none⟩ b3).setCell ⟨q, 4, none⟩ b4).setCell ⟨q, 5, none⟩ b5).setCell ⟨q, 6, none⟩ b6).setCell ⟨q, 7, none⟩ b7).setCell ⟨q, 8, none⟩ b8).setCell ⟨q, 9, none⟩ b9).setCell ⟨q, 10, none⟩ b10) q t #[b0, b1, b2, b3, b4, b5, b6, b7, b8, b9, b10, t0, t1, t2] ∧ But q w (((((((((((w.setCell ⟨q, 0, none⟩ b0).setCell ⟨q, 1, none⟩ b1).setCell ⟨q, 2, none⟩ b2).setCell ⟨q, 3, none⟩ b3).setCell ⟨q, 4, none⟩ b4).setCell ⟨q, 5, none⟩ b5).setCell ⟨q, 6, none⟩ b6).setCell ⟨q, 7, none⟩ b7).setCell ⟨q, 8, none⟩ b8).setCell ⟨q, 9, none⟩ b9).setCell ⟨q, 10, none⟩ b10) := by
 have h0 : Blk _ q t #[b0, a1, a2, a3, a4, a5, a6, a7, a8, a9, a10, t0, t1, t2] := h.put 0 b0
 have h1 : Blk _ q t #[b0, b1, a2, a3, a4, a5, a6, a7, a8, a9, a10, t0, t1, t2] := h0.put 1 b1
 have h2 : Blk _ q t #[b0, b1, b2, a3, a4, a5, a6, a7, a8, a9, a10, t0, t1, t2] := h1.put 2 b2
 have h3 : Blk _ q t #[b0, b1, b2, b3, a4, a5, a6, a7, a8, a9, a10, t0, t1, t2] := h2.put 3 b3
 have h4 : Blk _ q t #[b0, b1, b2, b3, b4, a5, a6, a7, a8, a9, a10, t0, t1, t2] := h3.put 4 b4
 have h5 : Blk _ q t #[b0, b1, b2, b3, b4, b5, a6, a7, a8, a9, a10, t0, t1, t2] := h4.put 5 b5
 have h6 : Blk _ q t #[b0, b1, b2, b3, b4, b5, b6, a7, a8, a9, a10, t0, t1, t2] := h5.put 6 b6
 have h7 : Blk _ q t #[b0, b1, b2, b3, b4, b5, b6, b7, a8, a9, a10, t0, t1, t2] := h6.put 7 b7
 have h8 : Blk _ q t #[b0, b1, b2, b3, b4, b5, b6, b7, b8, a9, a10, t0, t1, t2] := h7.put 8 b8
 have h9 : Blk _ q t #[b0, b1, b2, b3, b4, b5, b6, b7, b8, b9, a10, t0, t1, t2] := h8.put 9 b9
 have h10 : Blk _ q t #[b0, b1, b2, b3, b4, b5, b6, b7, b8, b9, b10, t0, t1, t2] := h9.put 10 b10
 have g0 := (But.refl q w).put 0 b0
 have g1 := g0.put 1 b1
 have g2 := g1.put 2 b2
 have g3 := g2.put 3 b3
 have g4 := g3.put 4 b4
 have g5 := g4.put 5 b5
 have g6 := g5.put 6 b6
 have g7 := g6.put 7 b7
 have g8 := g7.put 8 b8
 have g9 := g8.put 9 b9
 have g10 := g9.put 10 b10
 exact ⟨h10, g10⟩
theorem ints_at0 {w : World} {A : Option Addr} {m : Nat} {n : List Int} (h : Ints .i64 w A m n) (hm : 0 < m) : ∃ b off, A = some ⟨b, off, none⟩ ∧ b < w.heap.size ∧ ∀ W, Below w.heap.size w W → ∀ j, j < m → W.cell? ⟨b, off + j, none⟩ = some (.int .i64 (at0 n j)) := by
 obtain ⟨b, off, e, hb, hc⟩ := h.cells hm
 exact ⟨b, off, e, hb, fun W hW j hj => (hW.cell (p := ⟨b, off + j, none⟩) hb).trans (hc j hj)⟩
theorem dsk_configure (B q sq : Nat) (c : Cfg) (v : Value) (ds : Data) (bs : List UInt8) (sy : Nat) (w : World) (h : DeskIn B w q sq c v ds bs sy) (A : Option Addr) (nc : Nat) (n : List Int) (hx : Ints .i64 w A 11 n) (hbd : ∀ x ∈ n, -10000000000 < x ∧ x < 10000000000) (ht : ∀ W, Below B w W → Tabs W) :
  Calls Tryz.prog 22 #[.pointer (some ⟨q, 0, none⟩), .slice A 11 nc] w (DeskPost B q sq (confD ⟨c, ds, bs, sy⟩ n) w) := by
 have hBw : B ≤ w.heap.size := Nat.le_of_lt (Nat.lt_of_le_of_lt h.bq h.dq.lt)
 have HTK := Lib.hid (fun W (hb : Kp B deskT w W) => ht W (hb.low hBw))
 obtain ⟨b, off, rfl, hbl, hc⟩ := ints_at0 hx (by omega)
 have hb3 := at0_bd hbd 3
 obtain ⟨f, hf⟩ : ∃ f, f = at0 n := ⟨_, rfl⟩
 have HF := Lib.hid hf
 rw [← hf] at hc hb3
 have HS := Lib.hid (fun W (hb : Below w.heap.size w W) => show W.cell? ⟨b, off, none⟩ = some (.int .i64 (f 0)) ∧ W.cell? ⟨b, off + 1, none⟩ = some (.int .i64 (f 1)) ∧ W.cell? ⟨b, off + 2, none⟩ = some (.int .i64 (f 2)) ∧ W.cell? ⟨b, off + 3, none⟩ = some (.int .i64 (f 3)) ∧ W.cell? ⟨b, off + 4, none⟩ = some (.int .i64 (f 4)) ∧ W.cell? ⟨b, off + 5, none⟩ = some (.int .i64 (f 5)) ∧ W.cell? ⟨b, off + 6, none⟩ = some (.int .i64 (f 6)) ∧ W.cell? ⟨b, off + 7, none⟩ = some (.int .i64 (f 7)) ∧ W.cell? ⟨b, off + 8, none⟩ = some (.int .i64 (f 8)) ∧ W.cell? ⟨b, off + 9, none⟩ = some (.int .i64 (f 9)) ∧ W.cell? ⟨b, off + 10, none⟩ = some (.int .i64 (f 10)) from
  ⟨hc W hb 0 (by omega), hc W hb 1 (by omega), hc W hb 2 (by omega), hc W hb 3 (by omega), hc W hb 4 (by omega), hc W hb 5 (by omega), hc W hb 6 (by omega), hc W hb 7 (by omega), hc W hb 8 (by omega), hc W hb 9 (by omega), hc W hb 10 (by omega)⟩)
 have hd0 : Below w.heap.size w w.drew := (Below.refl _ _).drew
 have hmx : ∃ S : Int, max (f 3) 0 = S ∧ 0 ≤ S ∧ S < 10000000000 := ⟨_, rfl, by omega, by omega⟩
 obtain ⟨S, hS, hS0, hS1⟩ := hmx
 have hSw : IntKind.u64.wrap S = S := wrap_u64_in (by omega) (by omega)
 clear hf hx hc hbd ht
 go_enter Tryz.func22, Tryz.ntmps22
 go_upto_region 1 with fail
 go_cut [5] (fun v5 wx => v5 = .pointer (some ⟨w.heap.size, 0, none⟩) ∧ Below w.heap.size w wx ∧ Blk wx w.heap.size 29 #[.int .i64 (f 0), .int .i64 (f 1), .int .i64 (f 2), .int .u64 S, .int .i64 (f 4), .int .i64 (f 5), .int .i64 (f 6), .int .i64 (f 7), .int .i64 (f 8), .int .i64 (f 9), .int .i64 (f 10)])
 case first =>
  obtain ⟨l0, l1, l2, l3, l4, l5, l6, l7, l8, l9, la⟩ := HS.out _ hd0
  go_region_held3 (fun W => W.cell? ⟨b, off, none⟩ = some (.int .i64 (f 0)) ∧ W.cell? ⟨b, off + 1, none⟩ = some (.int .i64 (f 1)) ∧ W.cell? ⟨b, off + 2, none⟩ = some (.int .i64 (f 2)) ∧ W.cell? ⟨b, off + 3, none⟩ = some (.int .i64 (f 3)) ∧ W.cell? ⟨b, off + 4, none⟩ = some (.int .i64 (f 4)) ∧ W.cell? ⟨b, off + 5, none⟩ = some (.int .i64 (f 5)) ∧ W.cell? ⟨b, off + 6, none⟩ = some (.int .i64 (f 6)) ∧ W.cell? ⟨b, off + 7, none⟩ = some (.int .i64 (f 7)) ∧ W.cell? ⟨b, off + 8, none⟩ = some (.int .i64 (f 8)) ∧ W.cell? ⟨b, off + 9, none⟩ = some (.int .i64 (f 9)) ∧ W.cell? ⟨b, off + 10, none⟩ = some (.int .i64 (f 10))) (first | (with_reducible exact ⟨l0, l1, l2, l3, l4, l5, l6, l7, l8, l9, la⟩) | (exact HS.out _ ((by repeat (first | exact Below.refl _ _ | assumption | refine bel_drewN ?_ _ | refine Below.drew ?_ | (refine Below.alloc ?_ (by simp <;> omega) _) | (refine Below.setCell ?_ (by simp <;> omega) _))))) | fail) (first | fail)
  all_goals
   go_wp2
   go_meet
   case rel => exact ⟨rfl, (by repeat (first | exact Below.refl _ _ | assumption | refine bel_drewN ?_ _ | refine Below.drew ?_ | (refine Below.alloc ?_ (by simp <;> omega) _) | (refine Below.setCell ?_ (by simp <;> omega) _))), Blk.made' w.drew 29 _ rfl⟩
 case rest =>
  obtain ⟨rfl, hb1, hB1⟩ := hcut
  obtain ⟨y, hy⟩ : ∃ y : World, y = wc := ⟨_, rfl⟩
  rw [← hy] at hb1 hB1 ⊢
  clear hy
  have h1 := h.below hb1
  have HCK := Lib.hid (opt_Check (f 0) (f 1) (f 2) S (f 4) (f 5) (f 6) (f 7) (f 8) (f 9) (f 10) y)
  obtain ⟨d0, d1, d2, d3, d4, d5, d6, d7, d8, d9, da⟩ := hB1.cfg
  obtain ⟨E, hE⟩ : ∃ E, E = cfgE (f 0) (f 1) (f 2) (f 4) (f 5) (f 6) (f 7) (f 8) (f 9) (f 10) := ⟨_, rfl⟩
  rw [← hE] at HCK
  have HCF := Lib.hid (show confC n = ⟨f 0, f 1, f 2, S, f 4, f 5, f 6, f 7, f 8, f 9, f 10⟩ from by rw [HF.out, ← hS, HF.out]; rfl)
  have HEE := Lib.hid (show (confC n).E = E from by rw [HCF.out, hE]; rfl)
  have hEb : 0 ≤ E ∧ E ≤ 1 := by rw [hE]; unfold cfgE; split <;> omega
  clear hE hS
  go_wp2_with fail
  refine HCK.out.mono ?_
  rintro e w2 ⟨rfl, hb2⟩
  have hb12 := bel_trans hb1 hb2
  have h2 := h.below hb12
  have hB2 := hB1.below hb2 hB1.lt
  clear HCK d0 d1 d2 d3 d4 d5 d6 d7 d8 d9 da
  by_cases hE0 : E = 0
  ·have F := Lib.hid (show confD ⟨c, ds, bs, sy⟩ n = (okT, ⟨confC n, ds, bs, sy⟩) from by unfold confD; rw [if_pos (by rw [HEE.out]; exact hE0)])
   subst hE0
   obtain ⟨d0, d1, d2, d3, d4, d5, d6, d7, d8, d9, da⟩ := hB2.cfg
   have hq := h2.dq
   obtain ⟨p0, p1, p2, p3, p4, p5, p6, p7, p8, p9, pa⟩ := h2.cfg
   have q0 := hq.frozen 0
   have q1 := hq.frozen 1
   have q2 := hq.frozen 2
   have q3 := hq.frozen 3
   have q4 := hq.frozen 4
   have q5 := hq.frozen 5
   have q6 := hq.frozen 6
   have q7 := hq.frozen 7
   have q8 := hq.frozen 8
   have q9 := hq.frozen 9
   have qa := hq.frozen 10
   have HPB := Lib.hid (cfg_put13 (.int .i64 (f 0)) (.int .i64 (f 1)) (.int .i64 (f 2)) (.int .u64 S) (.int .i64 (f 4)) (.int .i64 (f 5)) (.int .i64 (f 6)) (.int .i64 (f 7)) (.int .i64 (f 8)) (.int .i64 (f 9)) (.int .i64 (f 10)) hq)
   clear hq
   go_wp2
   go_ret
   have hk : Kp B (fun t => t == 33) w2 _ := Kp.of_but HPB.out.2 h2.dq (by decide) h2.bq
   have hk2 : Kp B deskT w2 _ := Kp.of_but HPB.out.2 h2.dq (by decide) h2.bq
   rw [F.out, HCF.out]
   exact ⟨rfl, ⟨v, HPB.out.1, hk.blk h2.st (by decide), h2.data.kp hk (by decide) (by decide), h2.bq, h2.bs⟩, (Kp.of_below hb12).trans hk2⟩
  ·have F := Lib.hid (show confD ⟨c, ds, bs, sy⟩ n = (errT E, ⟨c, ds, bs, sy⟩) from by unfold confD; rw [if_neg (by rw [HEE.out]; exact hE0), HEE.out])
   have HFA := Lib.hid (dsk_failed E w2 (by omega) (by omega) (HTK.out _ (Kp.of_below hb12)))
   have t0 : (E != 0) = true := by rw [bne_iff_ne]; exact hE0
   clear hE0
   go_wp2_with fail
   refine HFA.out.mono ?_
   rintro e w3 ⟨rfl, hb3⟩
   go_wp2
   go_ret
   rw [F.out]
   exact ⟨rfl, ⟨v, h2.below hb3⟩, Kp.of_below (bel_trans hb12 hb3)⟩
end Go.Proofs.YtgodgedhddngeaaGreatDoor
