/- Courses: what the document says of them, plainly; slices of pairs of lists in memory. -/
import Derived.Test.YtgodgedhddngeaaGreatDoorOptC
import Derived.Test.YtgodgedhddngeaaGreatDoorDrawW
import Derived.Test.YtgodgedhddngeaaGreatDoorTreeW
namespace Go.Proofs.YtgodgedhddngeaaGreatDoor
open Go.RowKit Pl
def duoAt (ps : List (List Int × List Int)) (j : Nat) : List Int × List Int := ps[j]?.getD ([], [])
theorem duoAt_mem {ps : List (List Int × List Int)} {j : Nat} (h : j < ps.length) : duoAt ps j ∈ ps := by
 unfold duoAt; rw [List.getElem?_eq_getElem h]; exact List.getElem_mem _
def DuoAt (w : World) (b o : Nat) (p : List Int × List Int) : Prop :=
 ∃ A1 n1 c1 A2 n2 c2, w.cell? ⟨b, o, none⟩ = some (.slice A1 n1 c1) ∧ w.cell? ⟨b, o + 1, none⟩ = some (.slice A2 n2 c2) ∧ Ints .i64 w A1 n1 p.1 ∧ Ints .i64 w A2 n2 p.2 ∧ n1 ≤ c1 ∧ c1 ≤ maxLen ∧ n2 ≤ c2 ∧ c2 ≤ maxLen
theorem DuoAt.below {w w' : World} {b o : Nat} {p : List Int × List Int} (h : DuoAt w b o p) (hb : Below w.heap.size w w') (hl : b < w.heap.size) : DuoAt w' b o p := by
 obtain ⟨A1, n1, c1, A2, n2, c2, e1, e2, i1, i2, q⟩ := h
 exact ⟨A1, n1, c1, A2, n2, c2, (hb.cell (p := ⟨b, o, none⟩) hl).trans e1, (hb.cell (p := ⟨b, o + 1, none⟩) hl).trans e2, i1.below hb, i2.below hb, q⟩
structure Duos (w : World) (A : Option Addr) (n : Nat) (ps : List (List Int × List Int)) : Prop where
 len : ps.length = n
 cells : 0 < n → ∃ b off, A = some ⟨b, off, none⟩ ∧ b < w.heap.size ∧ ∀ j, j < n → DuoAt w b (off + j * 2) (duoAt ps j)
theorem Duos.below {w w' : World} {A : Option Addr} {n : Nat} {ps : List (List Int × List Int)} (h : Duos w A n ps) (hb : Below w.heap.size w w') : Duos w' A n ps :=
 ⟨h.len, fun hn => by
  obtain ⟨b, off, e, hl, hc⟩ := h.cells hn
  exact ⟨b, off, e, Nat.lt_of_lt_of_le hl hb.size, fun j hj => (hc j hj).below hb hl⟩⟩
def exB (ci co : Int) (p : List Int × List Int) : Bool := ((p.1.length : Int) == ci) && ((p.2.length : Int) == co) && okL p.1 && okL p.2
theorem exB_ok {ci co : Int} {p : List Int × List Int} (h : exB ci co p = true) : (p.1.length : Int) = ci ∧ (p.2.length : Int) = co ∧ okL p.1 = true ∧ okL p.2 = true := by
 unfold exB at h
 simp only [Bool.and_eq_true, beq_iff_eq] at h
 exact ⟨h.1.1.1, h.1.1.2, h.1.2, h.2⟩
def crsE (x ci co : Int) (ds : List (List Int × List Int)) : Int := if x ≠ 0 then x else if ds.length = 0 then 1 else if 16 < ds.length then 2 else if ds.all (exB ci co) then 0 else 5
theorem crsE_cfg {x ci co : Int} {ds : List (List Int × List Int)} (h : x ≠ 0) : crsE x ci co ds = x := if_pos h
theorem crsE_none {x ci co : Int} {ds : List (List Int × List Int)} (h : x = 0) (h0 : ds.length = 0) : crsE x ci co ds = 1 := by unfold crsE; rw [if_neg (by simp [h]), if_pos h0]
theorem crsE_many {x ci co : Int} {ds : List (List Int × List Int)} (h : x = 0) (h0 : 16 < ds.length) : crsE x ci co ds = 2 := by unfold crsE; rw [if_neg (by simp [h]), if_neg (by omega), if_pos h0]
theorem crsE_form {x ci co : Int} {ds : List (List Int × List Int)} (h : x = 0) (h0 : ds.length ≠ 0) (h1 : ¬ 16 < ds.length) {k : Nat} (hk : k < ds.length) (hb : exB ci co (duoAt ds k) = false) : crsE x ci co ds = 5 := by
 unfold crsE
 rw [if_neg (by simp [h]), if_neg h0, if_neg h1, if_neg]
 intro ha
 rw [List.all_eq_true] at ha
 rw [ha _ (duoAt_mem hk)] at hb
 cases hb
theorem crsE_fine {x ci co : Int} {ds : List (List Int × List Int)} (h : x = 0) (h0 : ds.length ≠ 0) (h1 : ¬ 16 < ds.length) (hb : ∀ j, j < ds.length → exB ci co (duoAt ds j) = true) : crsE x ci co ds = 0 := by
 unfold crsE
 rw [if_neg (by simp [h]), if_neg h0, if_neg h1, if_pos]
 rw [List.all_eq_true]
 intro p hp
 obtain ⟨j, hj, e⟩ := List.mem_iff_getElem.1 hp
 have := hb j hj
 unfold duoAt at this
 rw [List.getElem?_eq_getElem hj, Option.getD_some, e] at this
 exact this
theorem crsE_ok {x ci co : Int} {ds : List (List Int × List Int)} (h : crsE x ci co ds = 0) : x = 0 ∧ 1 ≤ ds.length ∧ ds.length ≤ 16 ∧ ∀ j, j < ds.length → exB ci co (duoAt ds j) = true := by
 unfold crsE at h
 by_cases hx : x = 0
 ·rw [if_neg (by simp [hx])] at h
  by_cases h0 : ds.length = 0
  ·rw [if_pos h0] at h; omega
  ·rw [if_neg h0] at h
   by_cases h1 : 16 < ds.length
   ·rw [if_pos h1] at h; omega
   ·rw [if_neg h1] at h
    by_cases ha : ds.all (exB ci co) = true
    ·rw [List.all_eq_true] at ha
     exact ⟨hx, by omega, by omega, fun j hj => ha _ (duoAt_mem hj)⟩
    ·rw [if_neg ha] at h; omega
 ·rw [if_pos hx] at h; exact absurd h hx
def startW (se : Int) (N : Nat) : List Int := upto (fun i => wordI se ((1000 + i : Nat) : Int) % 131073 - 65536) N
def zerosL (N : Nat) : List Int := upto (fun _ => 0) N
theorem startW_length (se : Int) (N : Nat) : (startW se N).length = N := upto_length _ _
theorem zerosL_length (N : Nat) : (zerosL N).length = N := upto_length _ _
theorem okL_upto {f : Nat → Int} {n : Nat} (h : ∀ k, clamp (f k) = f k) : okL (upto f n) = true := by
 rw [okL_iff]
 intro x hx
 obtain ⟨k, _, rfl⟩ := List.mem_map.1 hx
 exact h k
theorem startW_ok (se : Int) (N : Nat) : okL (startW se N) = true := okL_upto fun k => clamp_id (by omega) (by omega)
theorem zerosL_ok (N : Nat) : okL (zerosL N) = true := okL_upto fun _ => rfl
theorem weightsL_ok (hw ke rate : Int) (wt mv g : List Int) : okL (weightsL hw ke rate wt mv g) = true := okL_upto fun _ => clamp_subF _ _
theorem moveP_ok (hw ke m g : Int) : clamp (moveP hw ke m g) = moveP hw ke m g := by
 unfold moveP; split
 ·exact clamp_addF _ _
 ·exact clamp_clamp _
theorem movesL_ok {hw ke : Int} {mv g : List Int} (h : okL mv = true) : okL (movesL hw ke mv g) = true := by
 unfold movesL; split
 ·exact okL_upto fun _ => moveP_ok _ _ _ _
 ·exact h
theorem movesL_length {hw ke : Int} {mv g : List Int} (h : mv.length = g.length) : (movesL hw ke mv g).length = g.length := by
 unfold movesL; split
 ·exact upto_length _ _
 ·exact h
theorem weightsL_length (hw ke rate : Int) (wt mv g : List Int) : (weightsL hw ke rate wt mv g).length = g.length := upto_length _ _
def gradW (H I O : Nat) (wt : List Int) (p : List Int × List Int) : Pup :=
 gradP H I O (shapeP I H O wt).a1 (shapeP I H O wt).b1 (shapeP I H O wt).a2 (shapeP I H O wt).b2 p.1 p.2
def gradL (H I O : Nat) (wt : List Int) (p : List Int × List Int) : List Int := flatP (gradW H I O wt p).a1 (gradW H I O wt p).b1 (gradW H I O wt p).a2 (gradW H I O wt p).b2
def sumN (H I O N : Nat) (wt : List Int) (ds : List (List Int × List Int)) (bt : List Nat) : Nat → List Int
 | 0 => zerosL N
 | k + 1 => sumL (sumN H I O N wt ds bt k) (gradL H I O wt (duoAt ds (atN bt k)))
theorem sumN_length (H I O N : Nat) (wt : List Int) (ds : List (List Int × List Int)) (bt : List Nat) (k : Nat) : (sumN H I O N wt ds bt k).length = N := by
 induction k with
 | zero => exact zerosL_length N
 | succ k ih => unfold sumN; rw [sumL_length]; exact ih
def meanL (H I O N : Nat) (ba : Int) (wt : List Int) (ds : List (List Int × List Int)) (bt : List Nat) : List Int := upto (fun i => divF (at0 (sumN H I O N wt ds bt bt.length) i) (ba * 65536)) N
theorem meanL_length (H I O N : Nat) (ba : Int) (wt : List Int) (ds : List (List Int × List Int)) (bt : List Nat) : (meanL H I O N ba wt ds bt).length = N := upto_length _ _
theorem okL_take {l : List Int} (h : okL l = true) (k : Nat) : okL (l.take k) = true := by
 rw [okL_iff] at h ⊢
 exact fun n hn => h n (List.mem_of_mem_take hn)
theorem okL_drop {l : List Int} (h : okL l = true) (k : Nat) : okL (l.drop k) = true := by
 rw [okL_iff] at h ⊢
 exact fun n hn => h n (List.mem_of_mem_drop hn)
theorem okL_outer (a b : List Int) : okL (outerL a b) = true := by unfold outerL; exact okL_upto fun _ => clamp_mulF _ _
theorem okL_back (A : List Int) (r c : Nat) (v : List Int) : okL (backL A r c v) = true := by unfold backL; exact okL_upto fun _ => dotN_clamp _ _ _
theorem okL_mask {h g : List Int} (hg : okL g = true) : okL (maskL h g) = true := by
 unfold maskL
 refine okL_upto fun k => ?_
 split
 ·rfl
 ·exact okL_at0 hg k
theorem okL_off (y t : List Int) : okL (offL y t) = true := by unfold offL; exact okL_upto fun _ => clamp_subF _ _
theorem matE_fine {r c : Nat} {A : List Int} (hr : 1 ≤ r ∧ r ≤ 4) (hc : 1 ≤ c ∧ c ≤ 4) (hl : A.length = r * c) (ho : okL A = true) : matE r c A = 0 :=
 matE_5 (sideB_iff.2 (by omega)) (sideB_iff.2 (by omega)) (by rw [hl]; simp) ho
theorem pupE_fine {H I O : Nat} {a1 a2 b1 b2 : List Int} (hh : 1 ≤ H ∧ H ≤ 4) (hi : 1 ≤ I ∧ I ≤ 4) (ho : 1 ≤ O ∧ O ≤ 4) (l1 : a1.length = H * I) (l2 : a2.length = O * H) (l3 : b1.length = H) (l4 : b2.length = O)
  (o1 : okL a1 = true) (o2 : okL a2 = true) (o3 : okL b1 = true) (o4 : okL b2 = true) : pupE H I a1 O H a2 b1 b2 = 0 := by
 unfold pupE
 rw [matE_fine hh hi l1 o1, matE_fine ho hh l2 o2]
 simp [l3, l4, o3, o4]
theorem shapeP_fine {H I O N : Nat} {wt : List Int} (hh : 1 ≤ H ∧ H ≤ 4) (hi : 1 ≤ I ∧ I ≤ 4) (ho : 1 ≤ O ∧ O ≤ 4) (hN : (N : Int) = sizeP I H O) (hl : wt.length = N) (hw : okL wt = true) :
  pupE H I (shapeP I H O wt).a1 O H (shapeP I H O wt).a2 (shapeP I H O wt).b1 (shapeP I H O wt).b2 = 0 := by
 have e : N = H * I + H + O * H + O := by unfold sizeP at hN; rw [← Int.natCast_mul, ← Int.natCast_mul] at hN; omega
 refine pupE_fine hh hi ho ?_ ?_ ?_ ?_ (okL_take hw _) (okL_take (okL_drop hw _) _) (okL_take (okL_drop hw _) _) (okL_take (okL_drop hw _) _) <;> (simp only [shapeP, List.length_take, List.length_drop]; omega)
theorem gradW_len {H I O : Nat} {wt : List Int} {p : List Int × List Int} (hx : p.1.length = I) :
  (gradW H I O wt p).a1.length = H * I ∧ (gradW H I O wt p).a2.length = O * H ∧ (gradW H I O wt p).b1.length = H ∧ (gradW H I O wt p).b2.length = O := by
 have e1 : ∀ a1 b1 a2 b2 t, (gB1 H I O a1 b1 a2 b2 p.1 t).length = H := fun a1 b1 a2 b2 t => by unfold gB1; rw [maskL_length, backL_length]
 have e2 : ∀ a1 b1 a2 b2 t, (offL (outpL H I O a1 b1 a2 b2 p.1) t).length = O := fun a1 b1 a2 b2 t => by rw [offL_length, outpL_length]
 refine ⟨?_, ?_, e1 _ _ _ _ _, e2 _ _ _ _ _⟩
 ·show (outerL _ _).length = _
  rw [outerL_length, e1, hx]
 ·show (outerL _ _).length = _
  rw [outerL_length, e2, hidL_length]
theorem gradW_fine {H I O : Nat} {wt : List Int} {p : List Int × List Int} (hh : 1 ≤ H ∧ H ≤ 4) (hi : 1 ≤ I ∧ I ≤ 4) (ho : 1 ≤ O ∧ O ≤ 4) (hx : p.1.length = I) :
  pupE H I (gradW H I O wt p).a1 O H (gradW H I O wt p).a2 (gradW H I O wt p).b1 (gradW H I O wt p).b2 = 0 := by
 obtain ⟨l1, l2, l3, l4⟩ := gradW_len (H := H) (O := O) (wt := wt) hx
 exact pupE_fine hh hi ho l1 l2 l3 l4 (okL_outer _ _) (okL_outer _ _) (okL_mask (okL_back _ _ _ _)) (okL_off _ _)
theorem gradL_length {H I O N : Nat} {wt : List Int} {p : List Int × List Int} (hx : p.1.length = I) (hN : (N : Int) = sizeP I H O) : (gradL H I O wt p).length = N := by
 obtain ⟨l1, l2, l3, l4⟩ := gradW_len (H := H) (O := O) (wt := wt) hx
 unfold gradL
 rw [flatP_length, l1, l2, l3, l4]
 unfold sizeP at hN
 rw [← Int.natCast_mul, ← Int.natCast_mul] at hN
 omega
def nextB (se : Int) (ba n step : Nat) : List Nat := batchP se.toNat ba n step
def nextG (H I O N ba : Nat) (se cl : Int) (ds : List (List Int × List Int)) (wt : List Int) (step : Nat) : List Int := clipL (meanL H I O N ba wt ds (nextB se ba ds.length step)) cl
theorem nextG_length (H I O N ba : Nat) (se cl : Int) (ds : List (List Int × List Int)) (wt : List Int) (step : Nat) : (nextG H I O N ba se cl ds wt step).length = N := by unfold nextG; rw [clipL_length, meanL_length]
abbrev Data := List (List Int × List Int)
def Cfg.E (c : Cfg) : Int := cfgE c.ci c.ch c.co c.batch c.steps c.rate c.decay c.how c.keep c.clip
def Cfg.N (c : Cfg) : Nat := (sizeP c.ci c.ch c.co).toNat
structure Cfg.Ok (c : Cfg) : Prop where
 ci : 1 ≤ c.ci ∧ c.ci ≤ 4
 ch : 1 ≤ c.ch ∧ c.ch ≤ 4
 co : 1 ≤ c.co ∧ c.co ≤ 4
 ba : 1 ≤ c.batch ∧ c.batch ≤ 8
 st : 1 ≤ c.steps ∧ c.steps ≤ 40
 ra : 0 ≤ c.rate ∧ c.rate ≤ 2147483647
 de : 0 ≤ c.decay ∧ c.decay ≤ 1
 hw : 0 ≤ c.how ∧ c.how ≤ 1
 ke : 0 ≤ c.keep ∧ c.keep ≤ 65536
 cl : 0 ≤ c.clip ∧ c.clip ≤ 2147483647
 n : (c.N : Int) = sizeP c.ci c.ch c.co
 n1 : 1 ≤ c.N
 n40 : c.N ≤ 40
theorem Cfg.ok {c : Cfg} (h : c.E = 0) : c.Ok := by
 obtain ⟨h1, h2, h3, h4, h5, h6, h7, h8, h9, h10⟩ := cfgE_ok h
 have hs := sizeP_bd h1 h2 h3
 have hn : (c.N : Int) = sizeP c.ci c.ch c.co := by unfold Cfg.N; omega
 exact ⟨h1, h2, h3, h4, h5, h6, h7, h8, h9, h10, hn, by omega, by omega⟩
def crs (c : Cfg) (ds : Data) : Int := crsE c.E c.ci c.co ds
structure Fine (c : Cfg) (ds : Data) : Prop where
 ok : c.Ok
 e : c.E = 0
 d1 : 1 ≤ ds.length
 d16 : ds.length ≤ 16
 ex : ∀ j, j < ds.length → exB c.ci c.co (duoAt ds j) = true
theorem fine {c : Cfg} {ds : Data} (h : crs c ds = 0) : Fine c ds := by
 obtain ⟨h1, h2, h3, h4⟩ := crsE_ok h
 exact ⟨Cfg.ok h1, h1, h2, h3, h4⟩
def start (c : Cfg) : List Int × List Int := (startW c.seed c.N, zerosL c.N)
def batI (c : Cfg) (ds : Data) (k : Nat) : List Nat := nextB c.seed c.batch.toNat ds.length k
def ratI (c : Cfg) (k : Nat) : Int := rateP c.decay c.rate c.steps k
def gradC (c : Cfg) (ds : Data) (wt : List Int) (k : Nat) : List Int := nextG c.ch.toNat c.ci.toNat c.co.toNat c.N c.batch.toNat c.seed c.clip ds wt k
def nextS (c : Cfg) (ds : Data) (s : List Int × List Int) (k : Nat) : List Int × List Int :=
 (weightsL c.how c.keep (ratI c k) s.1 s.2 (gradC c ds s.1 k), movesL c.how c.keep s.2 (gradC c ds s.1 k))
def fits (c : Cfg) (s : List Int × List Int) : Bool := (s.1.length == c.N) && (s.2.length == c.N) && okL s.1 && okL s.2
def states (c : Cfg) (ds : Data) : Nat → List Int × List Int
 | 0 => start c
 | k + 1 => nextS c ds (states c ds k) k
theorem states_zero (c : Cfg) (ds : Data) : states c ds 0 = start c := rfl
theorem states_succ (c : Cfg) (ds : Data) (k : Nat) : states c ds (k + 1) = nextS c ds (states c ds k) k := rfl
theorem fits_iff {c : Cfg} {s : List Int × List Int} : fits c s = true ↔ s.1.length = c.N ∧ s.2.length = c.N ∧ okL s.1 = true ∧ okL s.2 = true := by
 unfold fits
 simp only [Bool.and_eq_true, beq_iff_eq]
 exact ⟨fun h => ⟨h.1.1.1, h.1.1.2, h.1.2, h.2⟩, fun h => ⟨⟨⟨h.1, h.2.1⟩, h.2.2.1⟩, h.2.2.2⟩⟩
theorem gradC_length (c : Cfg) (ds : Data) (wt : List Int) (k : Nat) : (gradC c ds wt k).length = c.N := nextG_length _ _ _ _ _ _ _ _ _ _
theorem fits_start (c : Cfg) : fits c (start c) = true := fits_iff.2 ⟨startW_length _ _, zerosL_length _, startW_ok _ _, zerosL_ok _⟩
theorem fits_next {c : Cfg} (ds : Data) {s : List Int × List Int} (h : fits c s = true) (k : Nat) : fits c (nextS c ds s k) = true := by
 obtain ⟨h1, h2, h3, h4⟩ := fits_iff.1 h
 have hg := gradC_length c ds s.1 k
 exact fits_iff.2 ⟨(weightsL_length _ _ _ _ _ _).trans hg, (movesL_length (by rw [h2, hg])).trans hg, weightsL_ok _ _ _ _ _ _, movesL_ok h4⟩
theorem fits_states (c : Cfg) (ds : Data) : ∀ k, fits c (states c ds k) = true
 | 0 => fits_start c
 | k + 1 => fits_next ds (fits_states c ds k) k
def rootS (s : List Int × List Int) : Int := rootO (s.1 ++ s.2)
def chW (before : Int) (r : Rec) : List Int := before :: r.step :: r.rate :: r.root :: (r.batch.length : Int) :: r.batch
def chE (r : Rec) : Int := if 0 ≤ r.step ∧ 0 ≤ r.rate ∧ r.batch.length ≤ 8 ∧ r.batch.all (fun n => decide (0 ≤ n)) = true then 0 else 5
def cfgW (c : Cfg) : List Int := [c.ci, c.ch, c.co, c.seed, c.batch, c.steps, c.rate, c.decay, c.how, c.keep, c.clip]
def exRoot (p : List Int × List Int) : Int := rootO (p.1 ++ p.2)
def headW (c : Cfg) (ds : Data) : List Int := cfgW c ++ ds.map exRoot ++ [rootS (start c)]
def headI (c : Cfg) (ds : Data) : Int := ofI 5 (headW c ds)
def recB (c : Cfg) (ds : Data) (k : Nat) : Rec := ⟨k, (batI c ds k).map fun (n : Nat) => (n : Int), ratI c k, rootS (states c ds (k + 1)), 0⟩
def chainC (c : Cfg) (ds : Data) : Nat → Int
 | 0 => headI c ds
 | k + 1 => ofI 6 (chW (chainC c ds k) (recB c ds k))
def recC (c : Cfg) (ds : Data) (k : Nat) : Rec := { recB c ds k with chain := chainC c ds (k + 1) }
theorem batI_length (c : Cfg) (ds : Data) (k : Nat) : (batI c ds k).length = c.batch.toNat := batchP_length _ _ _ _
theorem chW_len (x : Int) (r : Rec) : (chW x r).length = 5 + r.batch.length := by simp [chW]; omega
theorem headW_length (c : Cfg) (ds : Data) : (headW c ds).length = 12 + ds.length := by simp [headW, cfgW]; omega
theorem batI_lt (c : Cfg) (ds : Data) (h : 1 ≤ ds.length) (k : Nat) : ∀ x ∈ batI c ds k, x < ds.length := by
 intro x hx
 unfold batI nextB batchP at hx
 obtain ⟨j, _, rfl⟩ := List.mem_map.1 hx
 exact comesP_lt _ _ _ (by omega)
theorem chE_recB {c : Cfg} {ds : Data} (hf : Fine c ds) {k : Nat} (hk : (k : Int) < c.steps) : chE (recB c ds k) = 0 := by
 have hr := rateP_le (decay := c.decay) hf.ok.ra.1 hf.ok.ra.2 hf.ok.st.1 hf.ok.st.2 (step := k) (by omega) (by omega)
 unfold chE
 rw [if_pos]
 refine ⟨?_, hr.1, ?_, ?_⟩
 ·show (0 : Int) ≤ (k : Int); omega
 ·show ((batI c ds k).map _).length ≤ 8
  rw [List.length_map, batI_length]; have := hf.ok.ba; omega
 ·show ((batI c ds k).map _).all _ = true
  rw [List.all_eq_true]
  intro x hx
  obtain ⟨n, _, rfl⟩ := List.mem_map.1 hx
  simp
theorem rootO_u64 (xs : List Int) : 0 ≤ rootO xs ∧ rootO xs < 18446744073709551616 := by
 unfold rootO
 split
 ·unfold rootI pairI
  have h1 := ofI_lo 3 [(xs.length : Int), treeI (leavesI xs)]
  have h2 := ofI_hi 3 [(xs.length : Int), treeI (leavesI xs)]
  exact ⟨h1, by omega⟩
 ·omega
theorem U64.of_all {xs : List Int} (h : ∀ x ∈ xs, 0 ≤ x ∧ x < 18446744073709551616) : U64 xs := fun k => by
 unfold at0
 rcases Nat.lt_or_ge k xs.length with hk | hk
 ·rw [List.getElem?_eq_getElem hk]
  exact h _ (List.getElem_mem _)
 ·rw [List.getElem?_eq_none hk]
  exact ⟨Int.le_refl _, by show (0 : Int) < _; omega⟩
theorem headW_u64 {c : Cfg} {ds : Data} (hf : c.Ok) (h0 : 0 ≤ c.seed) (h1 : c.seed < 18446744073709551616) : U64 (headW c ds) := by
 obtain ⟨a1, a2, a3, a4, a5, a6, a7, a8, a9, a10, _⟩ := hf
 refine .of_all fun x hx => ?_
 unfold headW cfgW at hx
 simp only [List.mem_append, List.mem_cons, List.not_mem_nil, or_false, List.mem_map] at hx
 rcases hx with (h | ⟨p, _, rfl⟩) | rfl
 ·rcases h with rfl | rfl | rfl | rfl | rfl | rfl | rfl | rfl | rfl | rfl | rfl <;> omega
 ·exact rootO_u64 _
 ·exact rootO_u64 _
theorem chW_u64 {x : Int} {r : Rec} (h : chE r = 0) (x0 : 0 ≤ x) (x1 : x < 18446744073709551616) (s1 : r.step < 18446744073709551616) (r1 : r.rate < 18446744073709551616) (t0 : 0 ≤ r.root) (t1 : r.root < 18446744073709551616)
  (b1 : ∀ z ∈ r.batch, z < 18446744073709551616) : U64 (chW x r) := by
 unfold chE at h
 split at h
 ·rename_i hh
  obtain ⟨h1, h2, h3, h4⟩ := hh
  rw [List.all_eq_true] at h4
  refine .of_all fun z hz => ?_
  unfold chW at hz
  simp only [List.mem_cons] at hz
  rcases hz with rfl | rfl | rfl | rfl | rfl | hz
  ·exact ⟨x0, x1⟩
  ·exact ⟨h1, s1⟩
  ·exact ⟨h2, r1⟩
  ·exact ⟨t0, t1⟩
  ·omega
  ·exact ⟨by simpa using h4 z hz, b1 z hz⟩
 ·omega
end Go.Proofs.YtgodgedhddngeaaGreatDoor
