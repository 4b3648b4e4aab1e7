/- What a desk has told, in a builder; how long an answer is. -/
import Derived.Test.YtaeeonnjkplohaaGreatDoorDskM
import Derived.Shelf.Strings.BuilderK
namespace Go.Proofs.YtaeeonnjkplohaaGreatDoor
open Go.ChangeShapes Go.WideShapes Go.ChangeAt Go.RowKit Go.Sort Pl

def outT (t : TypeId) : Bool := t == 82 || t == 5
theorem lib_WriteString (B b : Nat) (l : List UInt8) (s : ByteArray) (w : World) (h : Lib.IsBuilderF 82 5 B b (Lib.byteCells l) w) (hlen : l.length + s.size ≤ 140737488355328) (hBw : B ≤ w.heap.size) :
    Calls Tryz.prog 41 #[.pointer (some ⟨b, 0, none⟩), .string s] w fun e w' => e = .returned (.tuple #[.int .i64 s.size, .nilIface]) ∧ Lib.IsBuilderF 82 5 B b (Lib.byteCells (l ++ s.data.toList)) w' ∧ Kp B outT w w' := by
  refine (Any.Builder_WriteString_k { Tryz.lays156 with } Tryz.Builder_Extra_156 B b (Lib.byteCells l) s w h (by rw [Lib.byteCells_length]; exact hlen) hBw).mono ?_
  rintro e w' ⟨rfl, h1, h2, h3⟩
  have e1 : Lib.byteCells l ++ Lib.strCells s = Lib.byteCells (l ++ s.data.toList) := by
    rw [Lib.strCells_eq]
    unfold Lib.byteCells
    rw [List.map_append]
  rw [e1] at h1
  have hbk : ∃ cs, w.heap[b]? = some (.cells cs 82 (0, 0)) := by
    rcases h with ⟨_, v, hb, _⟩ | ⟨_, v, hb, _⟩
    · exact ⟨_, hb⟩
    · exact ⟨_, hb⟩
  refine ⟨rfl, .inr h1, h2.os, h2.tape, h2.output, h2.size, fun g hg hc => ?_⟩
  rcases hc with hc | hc
  · exact h2.block g hc
  · obtain ⟨o, ho⟩ : ∃ o, w.heap[g]? = some o := ⟨_, Array.getElem?_eq_getElem hg⟩
    rw [ho]
    refine h3 g o ho (fun e => ?_) (fun cs fz e => ?_)
    · injection e with e
      subst e
      obtain ⟨cs, hcs⟩ := hbk
      have := hc _ _ _ hcs
      revert this
      decide
    · subst e
      have := hc _ _ _ ho
      revert this
      decide
theorem builder_kp {B B' b : Nat} {T : TypeId → Bool} {l : List Value} {w w' : World} (h : Lib.IsBuilderF 82 5 B b l w) (hk : Kp B' T w w') (h1 : T 82 = false) (h2 : T 5 = false) : Lib.IsBuilderF 82 5 B b l w' := by
  have key : ∀ p, Lib.BuilderAtF 82 5 B b p l w → Lib.BuilderAtF 82 5 B b p l w' := by
    rintro p ⟨hB, v, hb, ho, hne⟩
    refine ⟨hB, v, hk.blk hb h1, ⟨ho.1, ?_⟩, hne⟩
    rcases ho.2 with hv | ⟨g, cap, cur, fz, hv, hg, hh, rest⟩
    · exact .inl hv
    · refine .inr ⟨g, cap, cur, fz, hv, hg, ?_, rest⟩
      refine (hk.block g (Array.getElem?_eq_some_iff.1 hh).1 (.inr fun cs t fr e => ?_)).trans hh
      rw [hh] at e
      injection e with e
      injection e with _ e _
      rw [← e]
      exact h2
  exact h.imp (key _) (key _)
theorem builder_made (w : World) : Lib.IsBuilderF 82 5 w.heap.size w.heap.size (Lib.byteCells []) (w.alloc (.cells #[.pointer none, .slice none 0 0] 82)) :=
  .inl ⟨Nat.le_refl _, _, Blk.made w 82 #[.pointer none, .slice none 0 0], World.ownsRowF_nil _ _ _ _, by simp [Value.ownBlock]⟩
theorem builder_base {B B' b : Nat} {w : World} (h : Lib.IsBuilderF 82 5 B b (Lib.byteCells []) w) (hB : B' ≤ B) : Lib.IsBuilderF 82 5 B' b (Lib.byteCells []) w := by
  have key : ∀ p, Lib.BuilderAtF 82 5 B b p (Lib.byteCells []) w → Lib.BuilderAtF 82 5 B' b p (Lib.byteCells []) w := by
    rintro p ⟨h1, v, hb, ho, hne⟩
    refine ⟨Nat.le_trans hB h1, v, hb, ⟨ho.1, ?_⟩, hne⟩
    rcases ho.2 with hv | ⟨g, cap, cur, fz, hv, hg, rest⟩
    · exact .inl hv
    · exact .inr ⟨g, cap, cur, fz, hv, Nat.le_trans hB hg, rest⟩
  exact h.imp (key _) (key _)
theorem Kp.both {B : Nat} {T T' : TypeId → Bool} {w w' : World} (h : Kp B T w w') (hT : ∀ t, T' t = false → T t = false) : Kp B T' w w' :=
  ⟨h.os, h.tape, h.output, h.size, fun g hg hc => h.block g hg (hc.imp id fun hc cs t fr e => hT t (hc cs t fr e))⟩

/-! ### How long an answer is -/
theorem itoa_len {x : Int} (h0 : -9223372036854775808 ≤ x) (h1 : x ≤ 9223372036854775807) : (Lib.itoa x).length ≤ 300 := Nat.le_trans (Lib.itoa_length_le x h0 h1) (by omega)
theorem err_len {e : Int} (h0 : -9223372036854775808 ≤ e) (h1 : e ≤ 9223372036854775807) : (errT e).length ≤ 300 := Nat.le_trans (errT_len h0 h1) (by omega)
theorem cfgE_small (c : Cfg) : 0 ≤ c.E ∧ c.E ≤ 1 := by
  unfold Cfg.E cfgE
  split <;> omega
theorem lossW_small (c : Cfg) (wt : List Int) (p : List Int × List Int) : -9223372036854775808 ≤ lossW c wt p ∧ lossW c wt p ≤ 9223372036854775807 := by
  have h1 := dotN_lo (offL (outpL c.ch.toNat c.ci.toNat c.co.toNat (shapeP c.ci.toNat c.ch.toNat c.co.toNat wt).a1 (shapeP c.ci.toNat c.ch.toNat c.co.toNat wt).b1 (shapeP c.ci.toNat c.ch.toNat c.co.toNat wt).a2 (shapeP c.ci.toNat c.ch.toNat c.co.toNat wt).b2 p.1) p.2) (offL (outpL c.ch.toNat c.ci.toNat c.co.toNat (shapeP c.ci.toNat c.ch.toNat c.co.toNat wt).a1 (shapeP c.ci.toNat c.ch.toNat c.co.toNat wt).b1 (shapeP c.ci.toNat c.ch.toNat c.co.toNat wt).a2 (shapeP c.ci.toNat c.ch.toNat c.co.toNat wt).b2 p.1) p.2) c.co.toNat
  have h2 := dotN_hi (offL (outpL c.ch.toNat c.ci.toNat c.co.toNat (shapeP c.ci.toNat c.ch.toNat c.co.toNat wt).a1 (shapeP c.ci.toNat c.ch.toNat c.co.toNat wt).b1 (shapeP c.ci.toNat c.ch.toNat c.co.toNat wt).a2 (shapeP c.ci.toNat c.ch.toNat c.co.toNat wt).b2 p.1) p.2) (offL (outpL c.ch.toNat c.ci.toNat c.co.toNat (shapeP c.ci.toNat c.ch.toNat c.co.toNat wt).a1 (shapeP c.ci.toNat c.ch.toNat c.co.toNat wt).b1 (shapeP c.ci.toNat c.ch.toNat c.co.toNat wt).a2 (shapeP c.ci.toNat c.ch.toNat c.co.toNat wt).b2 p.1) p.2) c.co.toNat
  unfold lossW lossP
  omega
theorem verbD_len {d : DSt} (h : d.Ok) (v : List UInt8) (n : List Int) : (verbD d v n).1.length ≤ 300 := by
  have hc := crs_small (ds := d.ds) h.c
  have hb := h.b
  have hk := h.k
  have he := @DSt.Ok.end_ d
  have hE := cfgE_small (confC n)
  unfold verbD
  split
  · unfold confD
    split
    · show (okT).length ≤ 300; decide
    · show (errT (confC n).E).length ≤ 300; exact err_len (by omega) (by omega)
  split
  · unfold stepD
    split
    · show (errT (crs d.c d.ds)).length ≤ 300; exact err_len (by omega) (by omega)
    split
    · show (errT 1).length ≤ 300; exact err_len (by omega) (by omega)
    split
    · show (errT 6).length ≤ 300; exact err_len (by omega) (by omega)
    · rename_i h1 h2 h3
      have hC : crs d.c d.ds = 0 := by simpa using h1
      have hg := ((recC_good (fine hC) (m := d.k + 1) (by omega)) d.k (by omega)).1
      have hll := line_len hg
      show ((lineT (recC d.c d.ds d.k)).dropLast).length ≤ 300
      rw [List.length_dropLast]
      unfold lineT
      rw [List.length_append, List.length_singleton]
      omega
  split
  · show (okT).length ≤ 300; decide
  split
  · show (okT).length ≤ 300; decide
  split
  · show (Lib.itoa ((d.by_.length : Int) - ((beg d.by_).2 : Nat))).length ≤ 300; exact itoa_len (by omega) (by omega)
  split
  · show (auditD d).length ≤ 300
    unfold auditD
    split
    · exact err_len (by omega) (by omega)
    split
    · exact err_len (by omega) (by omega)
    · have := audN_le d.k (recAt (beg d.by_).1) (recC d.c d.ds)
      exact itoa_len (by omega) (by omega)
  split
  · show (lossD d (at0 n 0)).length ≤ 300
    unfold lossD
    split
    · exact err_len (by omega) (by omega)
    split
    · exact err_len (by omega) (by omega)
    split
    · exact err_len (by omega) (by omega)
    · obtain ⟨l1, l2⟩ := lossW_small d.c (states d.c d.ds d.k).1 (duoAt d.ds (at0 n 0).toNat)
      exact itoa_len l1 l2
  split
  · show (Lib.itoa (d.by_.length : Nat)).length ≤ 300; exact itoa_len (by omega) (by omega)
  · show (errT 3).length ≤ 300; exact err_len (by omega) (by omega)
theorem lineD_len {d : DSt} (h : d.Ok) (v : List UInt8) (w : List (List UInt8)) : (lineD d v w).1.length ≤ 300 := by
  unfold lineD
  split
  · unfold moreD
    split
    · show (errT 3).length ≤ 300; exact err_len (by omega) (by omega)
    · split
      · split
        · show (errT 2).length ≤ 300; exact err_len (by omega) (by omega)
        · show (okT).length ≤ 300; decide
      · show (errT 3).length ≤ 300; exact err_len (by omega) (by omega)
  · split
    · show (errT 3).length ≤ 300; exact err_len (by omega) (by omega)
    · exact verbD_len h v _
def runK (ls : List (List UInt8)) (p : Nat) : List UInt8 × DSt := (ls.take p).foldl goL ([], DSt.start)
theorem runK_zero (ls : List (List UInt8)) : runK ls 0 = ([], DSt.start) := rfl
theorem runK_succ {ls : List (List UInt8)} {p : Nat} {l : List UInt8} (h : ls[p]? = some l) : runK ls (p + 1) = goL (runK ls p) l := by
  unfold runK
  rw [List.take_add_one, h, List.foldl_append]
  rfl
theorem runK_ok (ls : List (List UInt8)) : ∀ p, (runK ls p).2.Ok ∧ (runK ls p).1.length ≤ 301 * p
  | 0 => ⟨DSt.Ok.start, Nat.zero_le _⟩
  | p + 1 => by
    obtain ⟨h1, h2⟩ := runK_ok ls p
    rcases Nat.lt_or_ge p ls.length with hp | hp
    · rw [runK_succ (List.getElem?_eq_getElem hp)]
      refine ⟨goL_ok h1 _, ?_⟩
      unfold goL
      split
      · omega
      · split
        · omega
        · rename_i v w _ _
          have := lineD_len h1 v w
          show ((runK ls p).1 ++ ((lineD (runK ls p).2 v w).1 ++ [10])).length ≤ _
          rw [List.length_append, List.length_append, List.length_singleton]
          omega
    · have e : runK ls (p + 1) = runK ls p := by
        unfold runK
        rw [List.take_of_length_le (by omega), List.take_of_length_le hp]
      rw [e]
      exact ⟨h1, by omega⟩
end Go.Proofs.YtaeeonnjkplohaaGreatDoor
