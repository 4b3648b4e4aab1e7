/- Courses and their journals: what they make, step by step, plainly. -/
import Derived.Test.YthckpmgehhkacaaTrnP
import Derived.Test.YthckpmgehhkacaaTreeW
import Derived.Test.YthckpmgehhkacaaArgs
namespace Go.Proofs.Ythckpmgehhkacaa
open Go.RowKit Pl

abbrev Data := List (List Int × List Int)
def Cfg.E (c : Cfg) : Int := cfgE c.ci c.ch c.co c.batch c.steps c.rate c.decay c.how c.keep c.clip
def Cfg.N (c : Cfg) : Nat := (sizeP c.ci c.ch c.co).toNat
/-- A config that is right, its sides and its batch as Nats. -/
structure Cfg.Ok (c : Cfg) : Prop where
  ci : 1 ≤ c.ci ∧ c.ci ≤ 4
  ch : 1 ≤ c.ch ∧ c.ch ≤ 4
  co : 1 ≤ c.co ∧ c.co ≤ 4
  ba : 1 ≤ c.batch ∧ c.batch ≤ 8
  st : 1 ≤ c.steps ∧ c.steps ≤ 40
  ra : 0 ≤ c.rate ∧ c.rate ≤ 2147483647
  de : 0 ≤ c.decay ∧ c.decay ≤ 1
  hw : 0 ≤ c.how ∧ c.how ≤ 1
  ke : 0 ≤ c.keep ∧ c.keep ≤ 65536
  cl : 0 ≤ c.clip ∧ c.clip ≤ 2147483647
  n : (c.N : Int) = sizeP c.ci c.ch c.co
  n1 : 1 ≤ c.N
  n40 : c.N ≤ 40
theorem Cfg.ok {c : Cfg} (h : c.E = 0) : c.Ok := by
  obtain ⟨h1, h2, h3, h4, h5, h6, h7, h8, h9, h10⟩ := cfgE_ok h
  have hs := sizeP_bd h1 h2 h3
  have hn : (c.N : Int) = sizeP c.ci c.ch c.co := by unfold Cfg.N; omega
  exact ⟨h1, h2, h3, h4, h5, h6, h7, h8, h9, h10, hn, by omega, by omega⟩
def crs (c : Cfg) (ds : Data) : Int := crsE c.E c.ci c.co ds
/-- A course that is right. -/
structure Fine (c : Cfg) (ds : Data) : Prop where
  ok : c.Ok
  e : c.E = 0
  d1 : 1 ≤ ds.length
  d16 : ds.length ≤ 16
  ex : ∀ j, j < ds.length → exB c.ci c.co (duoAt ds j) = true
theorem fine {c : Cfg} {ds : Data} (h : crs c ds = 0) : Fine c ds := by
  obtain ⟨h1, h2, h3, h4⟩ := crsE_ok h
  exact ⟨Cfg.ok h1, h1, h2, h3, h4⟩

def start (c : Cfg) : List Int × List Int := (startW c.seed c.N, zerosL c.N)
def batI (c : Cfg) (ds : Data) (k : Nat) : List Nat := nextB c.seed c.batch.toNat ds.length k
def ratI (c : Cfg) (k : Nat) : Int := rateP c.decay c.rate c.steps k
def gradC (c : Cfg) (ds : Data) (wt : List Int) (k : Nat) : List Int := nextG c.ch.toNat c.ci.toNat c.co.toNat c.N c.batch.toNat c.seed c.clip ds wt k
def nextS (c : Cfg) (ds : Data) (s : List Int × List Int) (k : Nat) : List Int × List Int :=
  (weightsL c.how c.keep (ratI c k) s.1 s.2 (gradC c ds s.1 k), movesL c.how c.keep s.2 (gradC c ds s.1 k))
def fits (c : Cfg) (s : List Int × List Int) : Bool := (s.1.length == c.N) && (s.2.length == c.N) && okL s.1 && okL s.2
def nextE (c : Cfg) (ds : Data) (s : List Int × List Int) (step : Int) : Int :=
  if crs c ds ≠ 0 then crs c ds else if fits c s = false then 5 else if 0 ≤ step ∧ step < c.steps then 0 else 1
def states (c : Cfg) (ds : Data) : Nat → List Int × List Int
  | 0 => start c
  | k + 1 => nextS c ds (states c ds k) k
theorem states_zero (c : Cfg) (ds : Data) : states c ds 0 = start c := rfl
theorem states_succ (c : Cfg) (ds : Data) (k : Nat) : states c ds (k + 1) = nextS c ds (states c ds k) k := rfl
theorem fits_iff {c : Cfg} {s : List Int × List Int} : fits c s = true ↔ s.1.length = c.N ∧ s.2.length = c.N ∧ okL s.1 = true ∧ okL s.2 = true := by
  unfold fits
  simp only [Bool.and_eq_true, beq_iff_eq]
  exact ⟨fun h => ⟨h.1.1.1, h.1.1.2, h.1.2, h.2⟩, fun h => ⟨⟨⟨h.1, h.2.1⟩, h.2.2.1⟩, h.2.2.2⟩⟩
theorem gradC_length (c : Cfg) (ds : Data) (wt : List Int) (k : Nat) : (gradC c ds wt k).length = c.N := nextG_length _ _ _ _ _ _ _ _ _ _
theorem fits_start (c : Cfg) : fits c (start c) = true := fits_iff.2 ⟨startW_length _ _, zerosL_length _, startW_ok _ _, zerosL_ok _⟩
theorem fits_next {c : Cfg} (ds : Data) {s : List Int × List Int} (h : fits c s = true) (k : Nat) : fits c (nextS c ds s k) = true := by
  obtain ⟨h1, h2, h3, h4⟩ := fits_iff.1 h
  have hg := gradC_length c ds s.1 k
  exact fits_iff.2 ⟨(weightsL_length _ _ _ _ _ _).trans hg, (movesL_length (by rw [h2, hg])).trans hg, weightsL_ok _ _ _ _ _ _, movesL_ok h4⟩
theorem fits_states (c : Cfg) (ds : Data) : ∀ k, fits c (states c ds k) = true
  | 0 => fits_start c
  | k + 1 => fits_next ds (fits_states c ds k) k
theorem nextE_0 {c : Cfg} {ds : Data} {s : List Int × List Int} {step : Int} (h : nextE c ds s step = 0) : crs c ds = 0 ∧ fits c s = true ∧ 0 ≤ step ∧ step < c.steps := by
  unfold nextE at h
  by_cases h1 : crs c ds = 0
  · rw [if_neg (by simp [h1])] at h
    cases h2 : fits c s
    · rw [h2, if_pos rfl] at h; omega
    · rw [h2, if_neg (by simp)] at h
      by_cases h3 : 0 ≤ step ∧ step < c.steps
      · exact ⟨h1, rfl, h3⟩
      · rw [if_neg h3] at h; omega
  · rw [if_pos h1] at h; exact absurd h h1
theorem nextE_crs {c : Cfg} {ds : Data} {s : List Int × List Int} {step : Int} (h : crs c ds ≠ 0) : nextE c ds s step = crs c ds := if_pos h
theorem nextE_fit {c : Cfg} {ds : Data} {s : List Int × List Int} {step : Int} (h : crs c ds = 0) (h2 : fits c s = false) : nextE c ds s step = 5 := by unfold nextE; rw [if_neg (by simp [h]), if_pos h2]
theorem nextE_arg {c : Cfg} {ds : Data} {s : List Int × List Int} {step : Int} (h : crs c ds = 0) (h2 : fits c s = true) (h3 : ¬ (0 ≤ step ∧ step < c.steps)) : nextE c ds s step = 1 := by unfold nextE; rw [if_neg (by simp [h]), if_neg (by simp [h2]), if_neg h3]
theorem nextE_ok {c : Cfg} {ds : Data} {s : List Int × List Int} {step : Int} (h : crs c ds = 0) (h2 : fits c s = true) (h3 : 0 ≤ step ∧ step < c.steps) : nextE c ds s step = 0 := by unfold nextE; rw [if_neg (by simp [h]), if_neg (by simp [h2]), if_pos h3]

/-- A state's root. -/
def rootS (s : List Int × List Int) : Int := rootO (s.1 ++ s.2)
/-- What a record's chain is made of. -/
def chW (before : Int) (r : Rec) : List Int := before :: r.step :: r.rate :: r.root :: (r.batch.length : Int) :: r.batch
def chE (r : Rec) : Int := if 0 ≤ r.step ∧ 0 ≤ r.rate ∧ r.batch.length ≤ 8 ∧ r.batch.all (fun n => decide (0 ≤ n)) = true then 0 else 5
def chO (before : Int) (r : Rec) : Int := if chE r = 0 then ofI 6 (chW before r) else 0
def cfgW (c : Cfg) : List Int := [c.ci, c.ch, c.co, c.seed, c.batch, c.steps, c.rate, c.decay, c.how, c.keep, c.clip]
def exRoot (p : List Int × List Int) : Int := rootO (p.1 ++ p.2)
def headW (c : Cfg) (ds : Data) : List Int := cfgW c ++ ds.map exRoot ++ [rootS (start c)]
def headI (c : Cfg) (ds : Data) : Int := ofI 5 (headW c ds)
/-- The k-th record, its chain but. -/
def recB (c : Cfg) (ds : Data) (k : Nat) : Rec := ⟨k, (batI c ds k).map fun (n : Nat) => (n : Int), ratI c k, rootS (states c ds (k + 1)), 0⟩
def chainC (c : Cfg) (ds : Data) : Nat → Int
  | 0 => headI c ds
  | k + 1 => ofI 6 (chW (chainC c ds k) (recB c ds k))
def recC (c : Cfg) (ds : Data) (k : Nat) : Rec := { recB c ds k with chain := chainC c ds (k + 1) }
def recsC (c : Cfg) (ds : Data) (n : Nat) : List Rec := upto (recC c ds) n
theorem batI_length (c : Cfg) (ds : Data) (k : Nat) : (batI c ds k).length = c.batch.toNat := batchP_length _ _ _ _
theorem chW_len (x : Int) (r : Rec) : (chW x r).length = 5 + r.batch.length := by simp [chW]; omega
theorem headW_length (c : Cfg) (ds : Data) : (headW c ds).length = 12 + ds.length := by simp [headW, cfgW]; omega
theorem batI_lt (c : Cfg) (ds : Data) (h : 1 ≤ ds.length) (k : Nat) : ∀ x ∈ batI c ds k, x < ds.length := by
  intro x hx
  unfold batI nextB batchP at hx
  obtain ⟨j, _, rfl⟩ := List.mem_map.1 hx
  exact comesP_lt _ _ _ (by omega)
theorem chE_recB {c : Cfg} {ds : Data} (hf : Fine c ds) {k : Nat} (hk : (k : Int) < c.steps) : chE (recB c ds k) = 0 := by
  have hr := rateP_le (decay := c.decay) hf.ok.ra.1 hf.ok.ra.2 hf.ok.st.1 hf.ok.st.2 (step := k) (by omega) (by omega)
  unfold chE
  rw [if_pos]
  refine ⟨?_, hr.1, ?_, ?_⟩
  · show (0 : Int) ≤ (k : Int); omega
  · show ((batI c ds k).map _).length ≤ 8
    rw [List.length_map, batI_length]; have := hf.ok.ba; omega
  · show ((batI c ds k).map _).all _ = true
    rw [List.all_eq_true]
    intro x hx
    obtain ⟨n, _, rfl⟩ := List.mem_map.1 hx
    simp
theorem chE_chain (r : Rec) (x : Int) : chE { r with chain := x } = chE r := rfl
theorem chW_chain (y : Int) (r : Rec) (x : Int) : chW y { r with chain := x } = chW y r := rfl
theorem chE_recC {c : Cfg} {ds : Data} (hf : Fine c ds) {k : Nat} (hk : (k : Int) < c.steps) : chE (recC c ds k) = 0 := by unfold recC; rw [chE_chain]; exact chE_recB hf hk
theorem chW_recC (x : Int) (c : Cfg) (ds : Data) (k : Nat) : chW x (recC c ds k) = chW x (recB c ds k) := by unfold recC; exact chW_chain _ _ _

theorem rootO_u64 (xs : List Int) : 0 ≤ rootO xs ∧ rootO xs < 18446744073709551616 := by
  unfold rootO
  split
  · unfold rootI pairI
    have h1 := ofI_lo 3 [(xs.length : Int), treeI (leavesI xs)]
    have h2 := ofI_hi 3 [(xs.length : Int), treeI (leavesI xs)]
    exact ⟨h1, by omega⟩
  · omega
theorem U64.append {a b : List Int} (ha : U64 a) (hb : U64 b) : U64 (a ++ b) := fun k => by
  rcases Nat.lt_or_ge k a.length with h | h
  · have := ha k
    unfold at0 at this ⊢
    rwa [List.getElem?_append_left h]
  · have := hb (k - a.length)
    unfold at0 at this ⊢
    rwa [List.getElem?_append_right h]
theorem U64.of_all {xs : List Int} (h : ∀ x ∈ xs, 0 ≤ x ∧ x < 18446744073709551616) : U64 xs := fun k => by
  unfold at0
  rcases Nat.lt_or_ge k xs.length with hk | hk
  · rw [List.getElem?_eq_getElem hk]
    exact h _ (List.getElem_mem _)
  · rw [List.getElem?_eq_none hk]
    exact ⟨Int.le_refl _, by show (0 : Int) < _; omega⟩
theorem headW_u64 {c : Cfg} {ds : Data} (hf : c.Ok) (h0 : 0 ≤ c.seed) (h1 : c.seed < 18446744073709551616) : U64 (headW c ds) := by
  obtain ⟨a1, a2, a3, a4, a5, a6, a7, a8, a9, a10, _⟩ := hf
  refine .of_all fun x hx => ?_
  unfold headW cfgW at hx
  simp only [List.mem_append, List.mem_cons, List.not_mem_nil, or_false, List.mem_map] at hx
  rcases hx with (h | ⟨p, _, rfl⟩) | rfl
  · rcases h with rfl | rfl | rfl | rfl | rfl | rfl | rfl | rfl | rfl | rfl | rfl <;> omega
  · exact rootO_u64 _
  · exact rootO_u64 _
theorem chW_u64 {x : Int} {r : Rec} (h : chE r = 0) (x0 : 0 ≤ x) (x1 : x < 18446744073709551616) (s1 : r.step < 18446744073709551616) (r1 : r.rate < 18446744073709551616) (t0 : 0 ≤ r.root) (t1 : r.root < 18446744073709551616)
    (b1 : ∀ z ∈ r.batch, z < 18446744073709551616) : U64 (chW x r) := by
  unfold chE at h
  split at h
  · rename_i hh
    obtain ⟨h1, h2, h3, h4⟩ := hh
    rw [List.all_eq_true] at h4
    refine .of_all fun z hz => ?_
    unfold chW at hz
    simp only [List.mem_cons] at hz
    rcases hz with rfl | rfl | rfl | rfl | rfl | hz
    · exact ⟨x0, x1⟩
    · exact ⟨h1, s1⟩
    · exact ⟨h2, r1⟩
    · exact ⟨t0, t1⟩
    · omega
    · exact ⟨by simpa using h4 z hz, b1 z hz⟩
  · omega
end Go.Proofs.Ythckpmgehhkacaa
