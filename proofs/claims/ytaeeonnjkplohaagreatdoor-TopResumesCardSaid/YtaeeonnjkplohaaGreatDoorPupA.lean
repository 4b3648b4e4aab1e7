/- What package pupil's Forward, Loss, Grad answer, right or wrong, as total functions: joined. -/
import Derived.Test.YtaeeonnjkplohaaGreatDoorPupC
import Derived.Test.YtaeeonnjkplohaaGreatDoorArgs
namespace Go.Proofs.YtaeeonnjkplohaaGreatDoor
open Go.RowKit Pl

def hidO (r1 c1 : Int) (a1 : List Int) (r2 c2 : Int) (a2 b1 b2 x : List Int) : List Int := if fwE r1 c1 a1 r2 c2 a2 b1 b2 x.length = 0 then hidL r1.toNat c1.toNat a1 b1 x else []
def outpO (r1 c1 : Int) (a1 : List Int) (r2 c2 : Int) (a2 b1 b2 x : List Int) : List Int := if fwE r1 c1 a1 r2 c2 a2 b1 b2 x.length = 0 then outpL r1.toNat c1.toNat r2.toNat a1 b1 a2 b2 x else []
def lossO (r1 c1 : Int) (a1 : List Int) (r2 c2 : Int) (a2 b1 b2 x t : List Int) : Int := if bothE r1 c1 a1 r2 c2 a2 b1 b2 x.length t.length = 0 then lossP r1.toNat c1.toNat r2.toNat a1 b1 a2 b2 x t else 0
def gradO (r1 c1 : Int) (a1 : List Int) (r2 c2 : Int) (a2 b1 b2 x t : List Int) : Pup := if bothE r1 c1 a1 r2 c2 a2 b1 b2 x.length t.length = 0 then gradP r1.toNat c1.toNat r2.toNat a1 b1 a2 b2 x t else .zero
theorem fwE_ok {r1 c1 : Int} {a1 : List Int} {r2 c2 : Int} {a2 b1 b2 : List Int} {ni : Int} (h : fwE r1 c1 a1 r2 c2 a2 b1 b2 ni = 0) : pupE r1 c1 a1 r2 c2 a2 b1 b2 = 0 ∧ ni = c1 := by
  unfold fwE at h
  by_cases hp : pupE r1 c1 a1 r2 c2 a2 b1 b2 ≠ 0
  · rw [if_pos hp] at h; exact absurd h hp
  · rw [if_neg hp] at h
    by_cases hn : ni ≠ c1
    · rw [if_pos hn] at h; omega
    · exact ⟨by omega, by omega⟩
theorem bothE_ok {r1 c1 : Int} {a1 : List Int} {r2 c2 : Int} {a2 b1 b2 : List Int} {ni no : Int} (h : bothE r1 c1 a1 r2 c2 a2 b1 b2 ni no = 0) : pupE r1 c1 a1 r2 c2 a2 b1 b2 = 0 ∧ ni = c1 ∧ no = r2 := by
  unfold bothE at h
  by_cases hp : pupE r1 c1 a1 r2 c2 a2 b1 b2 ≠ 0
  · rw [if_pos hp] at h; exact absurd h hp
  · rw [if_neg hp] at h
    by_cases hn : ni ≠ c1 ∨ no ≠ r2
    · rw [if_pos hn] at h; omega
    · exact ⟨by omega, by omega, by omega⟩

theorem pup_Loss_any (r1 c1 : Int) (A1 : Option Addr) (n1 k1 : Nat) (a1 : List Int) (r2 c2 : Int) (A2 : Option Addr) (n2 k2 : Nat) (a2 : List Int) (B1 : Option Addr) (m1 d1 : Nat) (b1 : List Int) (B2 : Option Addr) (m2 d2 : Nat) (b2 : List Int) (X T : Option Addr) (ni no xc tc : Nat) (x t : List Int) (w : World) (i1 : Ints .i64 w A1 n1 a1) (i2 : Ints .i64 w A2 n2 a2) (j1 : Ints .i64 w B1 m1 b1) (j2 : Ints .i64 w B2 m2 b2) (ix : Ints .i64 w X ni x) (it : Ints .i64 w T no t) (g1 : n1 ≤ k1) (g2 : n2 ≤ k2) (h1 : n1 ≤ 9223372036854775807) (h2 : n2 ≤ 9223372036854775807) (h3 : m1 ≤ 9223372036854775807) (h4 : m2 ≤ 9223372036854775807) :
    Calls Tryz.prog 114 #[(.agg #[.int .i64 r1, .int .i64 c1, .slice A1 n1 k1, .int .i64 r2, .int .i64 c2, .slice A2 n2 k2, .slice B1 m1 d1, .slice B2 m2 d2]), .agg #[.slice X ni xc, .slice T no tc]] w fun e w' => e = .returned (.tuple #[.int .i64 (lossO r1 c1 a1 r2 c2 a2 b1 b2 x t), .int .i64 (bothE r1 c1 a1 r2 c2 a2 b1 b2 ni no)]) ∧ Below w.heap.size w w' := by
  by_cases hE : bothE r1 c1 a1 r2 c2 a2 b1 b2 ni no = 0
  · obtain ⟨hP, hn, hm⟩ := bothE_ok hE
    obtain ⟨H, I, O, rfl, rfl, rfl, rfl, hH, hI, hO, e1, e2, e3, e4, o1, o2⟩ := pup_dims hP
    obtain rfl : m1 = H := by rw [← j1.len]; exact e3
    obtain rfl : m2 = O := by rw [← j2.len]; exact e4
    obtain rfl : ni = I := by omega
    obtain rfl : no = m2 := by omega
    rw [hE, show lossO m1 ni a1 no m1 a2 b1 b2 x t = lossP m1 ni no a1 b1 a2 b2 x t from if_pos (by rw [ix.len, it.len]; exact hE)]
    exact pup_Loss_ok m1 ni no A1 n1 k1 a1 A2 n2 k2 a2 B1 d1 b1 B2 d2 b2 X xc x T tc t w i1 i2 j1 j2 ix it hP g1 g2
  · rw [show lossO r1 c1 a1 r2 c2 a2 b1 b2 x t = 0 from if_neg (by rw [ix.len, it.len]; exact hE)]
    exact pup_Loss_no r1 c1 A1 n1 k1 a1 r2 c2 A2 n2 k2 a2 B1 m1 d1 b1 B2 m2 d2 b2 X T ni no xc tc w i1 i2 j1 j2 h1 h2 h3 h4 hE
theorem pup_Grad_any (r1 c1 : Int) (A1 : Option Addr) (n1 k1 : Nat) (a1 : List Int) (r2 c2 : Int) (A2 : Option Addr) (n2 k2 : Nat) (a2 : List Int) (B1 : Option Addr) (m1 d1 : Nat) (b1 : List Int) (B2 : Option Addr) (m2 d2 : Nat) (b2 : List Int) (X T : Option Addr) (ni no xc tc : Nat) (x t : List Int) (w : World) (i1 : Ints .i64 w A1 n1 a1) (i2 : Ints .i64 w A2 n2 a2) (j1 : Ints .i64 w B1 m1 b1) (j2 : Ints .i64 w B2 m2 b2) (ix : Ints .i64 w X ni x) (it : Ints .i64 w T no t) (g1 : n1 ≤ k1) (g2 : n2 ≤ k2) (h1 : n1 ≤ 9223372036854775807) (h2 : n2 ≤ 9223372036854775807) (h3 : m1 ≤ 9223372036854775807) (h4 : m2 ≤ 9223372036854775807) :
    Calls Tryz.prog 137 #[(.agg #[.int .i64 r1, .int .i64 c1, .slice A1 n1 k1, .int .i64 r2, .int .i64 c2, .slice A2 n2 k2, .slice B1 m1 d1, .slice B2 m2 d2]), .agg #[.slice X ni xc, .slice T no tc]] w (PupOwn w (gradO r1 c1 a1 r2 c2 a2 b1 b2 x t) (bothE r1 c1 a1 r2 c2 a2 b1 b2 ni no)) := by
  by_cases hE : bothE r1 c1 a1 r2 c2 a2 b1 b2 ni no = 0
  · obtain ⟨hP, hn, hm⟩ := bothE_ok hE
    obtain ⟨H, I, O, rfl, rfl, rfl, rfl, hH, hI, hO, e1, e2, e3, e4, o1, o2⟩ := pup_dims hP
    obtain rfl : m1 = H := by rw [← j1.len]; exact e3
    obtain rfl : m2 = O := by rw [← j2.len]; exact e4
    obtain rfl : ni = I := by omega
    obtain rfl : no = m2 := by omega
    rw [hE, show gradO m1 ni a1 no m1 a2 b1 b2 x t = gradP m1 ni no a1 b1 a2 b2 x t from if_pos (by rw [ix.len, it.len]; exact hE)]
    exact pup_Grad_ok m1 ni no A1 n1 k1 a1 A2 n2 k2 a2 B1 d1 b1 B2 d2 b2 X xc x T tc t w i1 i2 j1 j2 ix it hP g1 g2
  · rw [show gradO r1 c1 a1 r2 c2 a2 b1 b2 x t = .zero from if_neg (by rw [ix.len, it.len]; exact hE)]
    exact pup_Grad_no r1 c1 A1 n1 k1 a1 r2 c2 A2 n2 k2 a2 B1 m1 d1 b1 B2 m2 d2 b2 X T ni no xc tc w i1 i2 j1 j2 h1 h2 h3 h4 hE

/-- A gradient's lists are short. -/
theorem gradO_small (r1 c1 : Int) (a1 : List Int) (r2 c2 : Int) (a2 b1 b2 x t : List Int) : (gradO r1 c1 a1 r2 c2 a2 b1 b2 x t).small := by
  unfold gradO
  split
  · rename_i h
    obtain ⟨hP, hn, hm⟩ := bothE_ok h
    obtain ⟨H, I, O, rfl, rfl, rfl, rfl, hH, hI, hO, e1, e2, e3, e4, o1, o2⟩ := pup_dims hP
    have l1 : (hidL H I a1 b1 x).length = H := hidL_length _ _ _ _ _
    have l2 : (offL (outpL H I O a1 b1 a2 b2 x) t).length = O := by rw [offL_length, outpL_length]
    have l3 : (gB1 H I O a1 b1 a2 b2 x t).length = H := by unfold gB1; rw [maskL_length, backL_length]
    have l4 : (outerL (gB1 H I O a1 b1 a2 b2 x t) x).length ≤ 16 := by
      have hxl : x.length = I := by omega
      unfold outerL; rw [upto_length, l3, hxl]
      exact Nat.mul_le_mul hH.2 hI.2
    have l5 : (outerL (offL (outpL H I O a1 b1 a2 b2 x) t) (hidL H I a1 b1 x)).length ≤ 16 := by
      unfold outerL; rw [upto_length, l1, l2]
      exact Nat.mul_le_mul hO.2 hH.2
    simp only [Int.toNat_natCast]
    exact ⟨l4, l5, by show (gB1 H I O a1 b1 a2 b2 x t).length ≤ 16; omega, by show (offL (outpL H I O a1 b1 a2 b2 x) t).length ≤ 16; omega⟩
  · exact Pup.small_zero
theorem hidO_len (r1 c1 : Int) (a1 : List Int) (r2 c2 : Int) (a2 b1 b2 x : List Int) : (hidO r1 c1 a1 r2 c2 a2 b1 b2 x).length ≤ 4 := by
  unfold hidO
  split
  · rename_i h
    obtain ⟨hP, _⟩ := fwE_ok h
    obtain ⟨H, I, O, rfl, rfl, rfl, rfl, hH, _⟩ := pup_dims hP
    rw [hidL_length]; simp; omega
  · simp
theorem outpO_len (r1 c1 : Int) (a1 : List Int) (r2 c2 : Int) (a2 b1 b2 x : List Int) : (outpO r1 c1 a1 r2 c2 a2 b1 b2 x).length ≤ 4 := by
  unfold outpO
  split
  · rename_i h
    obtain ⟨hP, _⟩ := fwE_ok h
    obtain ⟨H, I, O, rfl, rfl, rfl, rfl, _, _, hO, _⟩ := pup_dims hP
    rw [outpL_length]; simp; omega
  · simp
theorem cells_example : Tryz.prog.cellsOf 53 = 2 := by kernel_rfl
section
variable {H : Type} {enc : TypeId × Value → H} {w : World} {base : Nat} {sp : Nat → Bool} {held : Bool}
set_option maxRecDepth 100000 in
theorem arg_example {r : Reach} {b : Nat} {v : Value} {d : DataW H} {p : List MemPlace} (hsp : ∀ b, sp b = true) (hv : Value.okWide Tryz.prog w r b 53 v) (h : DataW.Trod enc Tryz.prog w base sp held 53 v d p) :
    ∃ (B1 : Option Addr) (m1 d1 : Nat) (b1 : List Int) (B2 : Option Addr) (m2 d2 : Nat) (b2 : List Int), v = .agg #[.slice B1 m1 d1, .slice B2 m2 d2] ∧
      (Ints .i64 w B1 m1 b1 ∧ m1 ≤ d1 ∧ d1 ≤ maxLen) ∧ (Ints .i64 w B2 m2 b2 ∧ m2 ≤ d2 ∧ d2 ≤ maxLen) := by
  obtain ⟨cs, rfl, hsz⟩ := Go.WideShapes.okWide_struct Tryz.underlying53 hv
  obtain ⟨f, h⟩ := h
  obtain ⟨cs⟩ := cs
  rw [cells_example] at hsz
  obtain ⟨xs, n, _, _, hl, hxl, hf⟩ := DataW.trod_struct Tryz.underlying53 h
  match cs, hsz with
  | [e0, e1], _ =>
    obtain ⟨y2, f2⟩ := field_at hf hxl 0 26 0 1 rfl cells_ints
    obtain ⟨y3, f3⟩ := field_at hf hxl 1 26 1 1 rfl cells_ints
    simp only [Value.cells, List.drop_zero, List.drop_succ_cons, List.take_succ_cons, List.take_zero] at f2 f3
    obtain ⟨b1, B1, m1, d1, rfl, s1, s2, s3, _⟩ := intsV_of hsp f2
    obtain ⟨b2, B2, m2, d2, rfl, t1, t2, t3, _⟩ := intsV_of hsp f3
    exact ⟨B1, m1, d1, b1, B2, m2, d2, b2, rfl, ⟨s1, s2, s3⟩, ⟨t1, t2, t3⟩⟩
end
end Go.Proofs.YtaeeonnjkplohaaGreatDoor
