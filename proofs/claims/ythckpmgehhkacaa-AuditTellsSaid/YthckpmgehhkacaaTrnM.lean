/- Package train: the mean of gradients: a walk. -/
import Derived.Test.YthckpmgehhkacaaTrnW
namespace Go.Proofs.Ythckpmgehhkacaa
open Go.RowKit Pl

/-- The weights, as a pupil. -/
theorem shape_fine (c : Cfg) (h : c.Ok) (A : Option Addr) (k : Nat) (wt : List Int) (hl : wt.length = c.N) (hw : okL wt = true) (hk : c.N ≤ k) {w : World} (hA : Ints .i64 w A c.N wt) :
    Calls Try.prog 49 #[.int .i64 c.ci, .int .i64 c.ch, .int .i64 c.co, .slice A c.N k] w (PupOwn w (shapeP c.ci.toNat c.ch.toNat c.co.toNat wt) 0) := by
  have h40 := h.n40
  have H := pup_Shape_any c.ci c.ch c.co A c.N k wt w hA hk (by omega)
  have h1 := h.ci
  have h2 := h.ch
  have h3 := h.co
  have e : shapeE c.ci c.ch c.co wt = 0 := by
    unfold shapeE
    rw [if_neg (by rw [sideB_iff.2 h1, sideB_iff.2 h2, sideB_iff.2 h3]; simp), if_neg (by rw [hl, hw, h.n]; simp)]
  have e2 : shapeO c.ci c.ch c.co wt = shapeP c.ci.toNat c.ch.toNat c.co.toNat wt := if_pos e
  rw [e, e2] at H
  exact H
theorem cfg_nat {c : Cfg} (h : c.Ok) : (c.ci = (c.ci.toNat : Int) ∧ 1 ≤ c.ci.toNat ∧ c.ci.toNat ≤ 4) ∧ (c.ch = (c.ch.toNat : Int) ∧ 1 ≤ c.ch.toNat ∧ c.ch.toNat ≤ 4) ∧ (c.co = (c.co.toNat : Int) ∧ 1 ≤ c.co.toNat ∧ c.co.toNat ≤ 4) ∧ (c.batch = (c.batch.toNat : Int) ∧ 1 ≤ c.batch.toNat ∧ c.batch.toNat ≤ 8) := by
  obtain ⟨h1, h2, h3, h4, _⟩ := h
  omega
/-- A gradient at the weights. -/
theorem grad_fine (c : Cfg) (h : c.Ok) (wt : List Int) (hl : wt.length = c.N) (hw : okL wt = true) (p : List Int × List Int) (hp : exB c.ci c.co p = true) {P : Pup} (hP : P = shapeP c.ci.toNat c.ch.toNat c.co.toNat wt)
    {A1 A2 B1 B2 X T : Option Addr} {k1 k2 d1 d2 ni no xc tc : Nat} {w : World} (i1 : Ints .i64 w A1 P.a1.length P.a1) (i2 : Ints .i64 w A2 P.a2.length P.a2) (j1 : Ints .i64 w B1 P.b1.length P.b1) (j2 : Ints .i64 w B2 P.b2.length P.b2)
    (g1 : P.a1.length ≤ k1) (g2 : P.a2.length ≤ k2) (ix : Ints .i64 w X ni p.1) (it : Ints .i64 w T no p.2) :
    Calls Try.prog 51 #[.agg #[.int .i64 P.r1, .int .i64 P.c1, .slice A1 P.a1.length k1, .int .i64 P.r2, .int .i64 P.c2, .slice A2 P.a2.length k2, .slice B1 P.b1.length d1, .slice B2 P.b2.length d2], .agg #[.slice X ni xc, .slice T no tc]] w
      (PupOwn w (gradW c.ch.toNat c.ci.toNat c.co.toNat wt p) 0) := by
  obtain ⟨⟨e1, a1, a2⟩, ⟨e2, a3, a4⟩, ⟨e3, a5, a6⟩, _⟩ := cfg_nat h
  have hn := h.n
  have h40 := h.n40
  obtain ⟨q1, q2, _, _⟩ := exB_ok hp
  have hpe := shapeP_fine (I := c.ci.toNat) (H := c.ch.toNat) (O := c.co.toNat) (N := c.N) (wt := wt) ⟨a3, a4⟩ ⟨a1, a2⟩ ⟨a5, a6⟩ (by rw [hn, e1, e2, e3]; simp) hl hw
  have L : P.a1.length ≤ 40 ∧ P.a2.length ≤ 40 ∧ P.b1.length ≤ 40 ∧ P.b2.length ≤ 40 := by
    rw [hP]
    simp only [shapeP, List.length_take, List.length_drop]
    omega
  have H := pup_Grad_any P.r1 P.c1 A1 P.a1.length k1 P.a1 P.r2 P.c2 A2 P.a2.length k2 P.a2 B1 P.b1.length d1 P.b1 B2 P.b2.length d2 P.b2 X T ni no xc tc p.1 p.2 w i1 i2 j1 j2 ix it g1 g2 (by omega) (by omega) (by omega) (by omega)
  have er1 : P.r1 = (c.ch.toNat : Int) := by rw [hP]; rfl
  have ec1 : P.c1 = (c.ci.toNat : Int) := by rw [hP]; rfl
  have er2 : P.r2 = (c.co.toNat : Int) := by rw [hP]; rfl
  have ec2 : P.c2 = (c.ch.toNat : Int) := by rw [hP]; rfl
  have hb : bothE P.r1 P.c1 P.a1 P.r2 P.c2 P.a2 P.b1 P.b2 p.1.length p.2.length = 0 := by
    unfold bothE
    have hpe' : pupE P.r1 P.c1 P.a1 P.r2 P.c2 P.a2 P.b1 P.b2 = 0 := by rw [er1, ec1, er2, ec2, hP]; exact hpe
    rw [if_neg (by simp [hpe']), if_neg (by rw [ec1, er2]; omega)]
  have hg : gradO P.r1 P.c1 P.a1 P.r2 P.c2 P.a2 P.b1 P.b2 p.1 p.2 = gradW c.ch.toNat c.ci.toNat c.co.toNat wt p := by
    unfold gradO gradW
    rw [if_pos hb, er1, ec1, er2, hP]
    simp only [Int.toNat_natCast]
  rw [← ix.len, ← it.len, hb, hg] at H
  rw [← ix.len, ← it.len]
  exact H
/-- A gradient as a row. -/
theorem flat_fine (c : Cfg) (h : c.Ok) (wt : List Int) (p : List Int × List Int) (hp : exB c.ci c.co p = true) {P : Pup} (hP : P = gradW c.ch.toNat c.ci.toNat c.co.toNat wt p)
    {A1 A2 B1 B2 : Option Addr} {k1 k2 d1 d2 : Nat} {w : World} (i1 : Ints .i64 w A1 P.a1.length P.a1) (i2 : Ints .i64 w A2 P.a2.length P.a2) (j1 : Ints .i64 w B1 P.b1.length P.b1) (j2 : Ints .i64 w B2 P.b2.length P.b2) :
    Calls Try.prog 48 #[.agg #[.int .i64 P.r1, .int .i64 P.c1, .slice A1 P.a1.length k1, .int .i64 P.r2, .int .i64 P.c2, .slice A2 P.a2.length k2, .slice B1 P.b1.length d1, .slice B2 P.b2.length d2]] w
      (fun e w' => ∃ S s, e = .returned (.tuple #[.slice S c.N s, .int .i64 0]) ∧ Ints .i64 w' S c.N (gradL c.ch.toNat c.ci.toNat c.co.toNat wt p) ∧ Below w.heap.size w w') := by
  obtain ⟨⟨e1, a1, a2⟩, ⟨e2, a3, a4⟩, ⟨e3, a5, a6⟩, _⟩ := cfg_nat h
  obtain ⟨q1, q2, _, _⟩ := exB_ok hp
  have hx : p.1.length = c.ci.toNat := by omega
  have hpe := gradW_fine (O := c.co.toNat) (wt := wt) (p := p) ⟨a3, a4⟩ ⟨a1, a2⟩ ⟨a5, a6⟩ hx
  obtain ⟨l1, l2, l3, l4⟩ := gradW_len (H := c.ch.toNat) (O := c.co.toNat) (wt := wt) (p := p) hx
  have m1 := Nat.mul_le_mul a4 a2
  have m2 := Nat.mul_le_mul a6 a4
  have L : P.a1.length ≤ 16 ∧ P.a2.length ≤ 16 ∧ P.b1.length ≤ 16 ∧ P.b2.length ≤ 16 := by rw [hP, l1, l2, l3, l4]; omega
  have H := pup_Flat_any P.r1 P.c1 A1 P.a1.length k1 P.a1 P.r2 P.c2 A2 P.a2.length k2 P.a2 B1 P.b1.length d1 P.b1 B2 P.b2.length d2 P.b2 w i1 i2 j1 j2 (by omega) (by omega) (by omega) (by omega)
  have hpe' : pupE P.r1 P.c1 P.a1 P.r2 P.c2 P.a2 P.b1 P.b2 = 0 := by rw [hP]; exact hpe
  have hfl : flatO P.r1 P.c1 P.a1 P.r2 P.c2 P.a2 P.b1 P.b2 = gradL c.ch.toNat c.ci.toNat c.co.toNat wt p := by unfold flatO gradL; rw [if_pos hpe', hP]
  rw [hpe', hfl] at H
  have hlen := gradL_length (H := c.ch.toNat) (I := c.ci.toNat) (O := c.co.toNat) (N := c.N) (wt := wt) hx (by rw [h.n, e1, e2, e3]; simp)
  refine H.mono ?_
  rintro e w' ⟨S, s, rfl, hI, hb⟩
  rw [hlen] at hI ⊢
  exact ⟨S, s, rfl, hI, hb⟩
/-- Sums of rows. -/
theorem sum_fine (N : Nat) (hN : N ≤ 200) {S L : Option Addr} {cs cl : Nat} {xs ys : List Int} {w : World} (hx : Ints .i64 w S N xs) (hy : Ints .i64 w L N ys) :
    Calls Try.prog 52 #[.slice S N cs, .slice L N cl] w (fun e w' => ∃ A c, e = .returned (.tuple #[.slice A N c, .int .i64 0]) ∧ w'.ownsRow w.heap.size 3 1 (.slice A N c) N ((sumL xs ys).map (.int .i64)) ∧ Below w.heap.size w w') := by
  refine (vec_Sum_ok S L N cs cl xs ys w hx hy hN).mono ?_
  rintro e w' ⟨A, c, rfl, hO, hb⟩
  rw [sumL_length, hx.len] at hO ⊢
  exact ⟨A, c, rfl, hO, hb⟩
theorem sumN_succ (H I O N : Nat) (wt : List Int) (ds : Data) (bt : List Nat) (k : Nat) : sumN H I O N wt ds bt (k + 1) = sumL (sumN H I O N wt ds bt k) (gradL H I O wt (duoAt ds (atN bt k))) := rfl
theorem natL_at (bt : List Nat) {k : Nat} (h : k < bt.length) : at0 (bt.map fun (n : Nat) => (n : Int)) k = (atN bt k : Int) := by
  unfold at0 atN
  rw [List.getElem?_map, List.getElem?_eq_getElem h]
  rfl
theorem atN_mem (bt : List Nat) {k : Nat} (h : k < bt.length) : atN bt k ∈ bt := by
  unfold atN
  rw [List.getElem?_eq_getElem h]
  exact List.getElem_mem _

set_option maxHeartbeats 4000000 in
/-- A pupil stored into its box. -/
theorem pup_stored {u : World} {g b : Nat} {G : Pup} {A1 A2 B1 B2 : Option Addr} {k1 k2 d1 d2 : Nat} (hz : Blk u g 82 #[.int .i64 0, .int .i64 0, .slice none 0 0, .int .i64 0, .int .i64 0, .slice none 0 0, .slice none 0 0, .slice none 0 0]) (hgb : g < b) (o1 : u.ownsRow b 3 1 (.slice A1 G.a1.length k1) G.a1.length (G.a1.map (.int .i64)))
    (o2 : u.ownsRow b 3 1 (.slice A2 G.a2.length k2) G.a2.length (G.a2.map (.int .i64))) (o3 : u.ownsRow b 3 1 (.slice B1 G.b1.length d1) G.b1.length (G.b1.map (.int .i64))) (o4 : u.ownsRow b 3 1 (.slice B2 G.b2.length d2) G.b2.length (G.b2.map (.int .i64))) :
    PupBox ((((((((u.setCell ⟨g, 0, none⟩ (.int .i64 G.r1)).setCell ⟨g, 1, none⟩ (.int .i64 G.c1)).setCell ⟨g, 2, none⟩ (.slice A1 G.a1.length k1)).setCell ⟨g, 3, none⟩ (.int .i64 G.r2)).setCell ⟨g, 4, none⟩ (.int .i64 G.c2)).setCell ⟨g, 5, none⟩ (.slice A2 G.a2.length k2)).setCell ⟨g, 6, none⟩ (.slice B1 G.b1.length d1)).setCell ⟨g, 7, none⟩ (.slice B2 G.b2.length d2)) g G ∧
    But g u ((((((((u.setCell ⟨g, 0, none⟩ (.int .i64 G.r1)).setCell ⟨g, 1, none⟩ (.int .i64 G.c1)).setCell ⟨g, 2, none⟩ (.slice A1 G.a1.length k1)).setCell ⟨g, 3, none⟩ (.int .i64 G.r2)).setCell ⟨g, 4, none⟩ (.int .i64 G.c2)).setCell ⟨g, 5, none⟩ (.slice A2 G.a2.length k2)).setCell ⟨g, 6, none⟩ (.slice B1 G.b1.length d1)).setCell ⟨g, 7, none⟩ (.slice B2 G.b2.length d2)) := by
  have hb := ((((((((But.refl g u).put 0 (.int .i64 G.r1)).put 1 (.int .i64 G.c1)).put 2 (.slice A1 G.a1.length k1)).put 3 (.int .i64 G.r2)).put 4 (.int .i64 G.c2)).put 5 (.slice A2 G.a2.length k2)).put 6 (.slice B1 G.b1.length d1)).put 7 (.slice B2 G.b2.length d2)
  have hB := (((((((hz.put 0 (.int .i64 G.r1)).put 1 (.int .i64 G.c1)).put 2 (.slice A1 G.a1.length k1)).put 3 (.int .i64 G.r2)).put 4 (.int .i64 G.c2)).put 5 (.slice A2 G.a2.length k2)).put 6 (.slice B1 G.b1.length d1)).put 7 (.slice B2 G.b2.length d2)
  exact ⟨⟨A1, k1, A2, k2, B1, d1, B2, d2, by simpa using hB, Ints.of_own (own_but o1 hb hgb) rfl, Ints.of_own (own_but o2 hb hgb) rfl, Ints.of_own (own_but o3 hb hgb) rfl, Ints.of_own (own_but o4 hb hgb) rfl⟩, hb⟩
theorem pup_laid {u : World} {b : Nat} {G : Pup} {A1 A2 B1 B2 : Option Addr} {k1 k2 d1 d2 : Nat} (o1 : u.ownsRow b 3 1 (.slice A1 G.a1.length k1) G.a1.length (G.a1.map (.int .i64)))
    (o2 : u.ownsRow b 3 1 (.slice A2 G.a2.length k2) G.a2.length (G.a2.map (.int .i64))) (o3 : u.ownsRow b 3 1 (.slice B1 G.b1.length d1) G.b1.length (G.b1.map (.int .i64))) (o4 : u.ownsRow b 3 1 (.slice B2 G.b2.length d2) G.b2.length (G.b2.map (.int .i64))) :
    PupBox (u.alloc (.cells #[.int .i64 G.r1, .int .i64 G.c1, .slice A1 G.a1.length k1, .int .i64 G.r2, .int .i64 G.c2, .slice A2 G.a2.length k2, .slice B1 G.b1.length d1, .slice B2 G.b2.length d2] 82)) u.heap.size G :=
  ⟨A1, k1, A2, k2, B1, d1, B2, d2, Blk.made _ _ _, (Ints.of_own o1 rfl).alloc _, (Ints.of_own o2 rfl).alloc _, (Ints.of_own o3 rfl).alloc _, (Ints.of_own o4 rfl).alloc _⟩

end Go.Proofs.Ythckpmgehhkacaa
