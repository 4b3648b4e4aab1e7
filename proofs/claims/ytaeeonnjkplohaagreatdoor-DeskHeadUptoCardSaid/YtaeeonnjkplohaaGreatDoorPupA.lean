/- What package pupil's Forward, Loss, Grad answer, right or wrong, as total functions: joined. -/
import Derived.Test.YtaeeonnjkplohaaGreatDoorPupC
import Derived.Test.YtaeeonnjkplohaaGreatDoorArgs
namespace Go.Proofs.YtaeeonnjkplohaaGreatDoor
open Go.RowKit Pl

def lossO (r1 c1 : Int) (a1 : List Int) (r2 c2 : Int) (a2 b1 b2 x t : List Int) : Int := if bothE r1 c1 a1 r2 c2 a2 b1 b2 x.length t.length = 0 then lossP r1.toNat c1.toNat r2.toNat a1 b1 a2 b2 x t else 0
def gradO (r1 c1 : Int) (a1 : List Int) (r2 c2 : Int) (a2 b1 b2 x t : List Int) : Pup := if bothE r1 c1 a1 r2 c2 a2 b1 b2 x.length t.length = 0 then gradP r1.toNat c1.toNat r2.toNat a1 b1 a2 b2 x t else .zero
theorem fwE_ok {r1 c1 : Int} {a1 : List Int} {r2 c2 : Int} {a2 b1 b2 : List Int} {ni : Int} (h : fwE r1 c1 a1 r2 c2 a2 b1 b2 ni = 0) : pupE r1 c1 a1 r2 c2 a2 b1 b2 = 0 ∧ ni = c1 := by
  unfold fwE at h
  by_cases hp : pupE r1 c1 a1 r2 c2 a2 b1 b2 ≠ 0
  · rw [if_pos hp] at h; exact absurd h hp
  · rw [if_neg hp] at h
    by_cases hn : ni ≠ c1
    · rw [if_pos hn] at h; omega
    · exact ⟨by omega, by omega⟩
theorem bothE_ok {r1 c1 : Int} {a1 : List Int} {r2 c2 : Int} {a2 b1 b2 : List Int} {ni no : Int} (h : bothE r1 c1 a1 r2 c2 a2 b1 b2 ni no = 0) : pupE r1 c1 a1 r2 c2 a2 b1 b2 = 0 ∧ ni = c1 ∧ no = r2 := by
  unfold bothE at h
  by_cases hp : pupE r1 c1 a1 r2 c2 a2 b1 b2 ≠ 0
  · rw [if_pos hp] at h; exact absurd h hp
  · rw [if_neg hp] at h
    by_cases hn : ni ≠ c1 ∨ no ≠ r2
    · rw [if_pos hn] at h; omega
    · exact ⟨by omega, by omega, by omega⟩

theorem pup_Loss_any (r1 c1 : Int) (A1 : Option Addr) (n1 k1 : Nat) (a1 : List Int) (r2 c2 : Int) (A2 : Option Addr) (n2 k2 : Nat) (a2 : List Int) (B1 : Option Addr) (m1 d1 : Nat) (b1 : List Int) (B2 : Option Addr) (m2 d2 : Nat) (b2 : List Int) (X T : Option Addr) (ni no xc tc : Nat) (x t : List Int) (w : World) (i1 : Ints .i64 w A1 n1 a1) (i2 : Ints .i64 w A2 n2 a2) (j1 : Ints .i64 w B1 m1 b1) (j2 : Ints .i64 w B2 m2 b2) (ix : Ints .i64 w X ni x) (it : Ints .i64 w T no t) (g1 : n1 ≤ k1) (g2 : n2 ≤ k2) (h1 : n1 ≤ 9223372036854775807) (h2 : n2 ≤ 9223372036854775807) (h3 : m1 ≤ 9223372036854775807) (h4 : m2 ≤ 9223372036854775807) :
    Calls Tryz.prog 114 #[(.agg #[.int .i64 r1, .int .i64 c1, .slice A1 n1 k1, .int .i64 r2, .int .i64 c2, .slice A2 n2 k2, .slice B1 m1 d1, .slice B2 m2 d2]), .agg #[.slice X ni xc, .slice T no tc]] w fun e w' => e = .returned (.tuple #[.int .i64 (lossO r1 c1 a1 r2 c2 a2 b1 b2 x t), .int .i64 (bothE r1 c1 a1 r2 c2 a2 b1 b2 ni no)]) ∧ Below w.heap.size w w' := by
  by_cases hE : bothE r1 c1 a1 r2 c2 a2 b1 b2 ni no = 0
  · obtain ⟨hP, hn, hm⟩ := bothE_ok hE
    obtain ⟨H, I, O, rfl, rfl, rfl, rfl, hH, hI, hO, e1, e2, e3, e4, o1, o2⟩ := pup_dims hP
    obtain rfl : m1 = H := by rw [← j1.len]; exact e3
    obtain rfl : m2 = O := by rw [← j2.len]; exact e4
    obtain rfl : ni = I := by omega
    obtain rfl : no = m2 := by omega
    rw [hE, show lossO m1 ni a1 no m1 a2 b1 b2 x t = lossP m1 ni no a1 b1 a2 b2 x t from if_pos (by rw [ix.len, it.len]; exact hE)]
    exact pup_Loss_ok m1 ni no A1 n1 k1 a1 A2 n2 k2 a2 B1 d1 b1 B2 d2 b2 X xc x T tc t w i1 i2 j1 j2 ix it hP g1 g2
  · rw [show lossO r1 c1 a1 r2 c2 a2 b1 b2 x t = 0 from if_neg (by rw [ix.len, it.len]; exact hE)]
    exact pup_Loss_no r1 c1 A1 n1 k1 a1 r2 c2 A2 n2 k2 a2 B1 m1 d1 b1 B2 m2 d2 b2 X T ni no xc tc w i1 i2 j1 j2 h1 h2 h3 h4 hE
theorem pup_Grad_any (r1 c1 : Int) (A1 : Option Addr) (n1 k1 : Nat) (a1 : List Int) (r2 c2 : Int) (A2 : Option Addr) (n2 k2 : Nat) (a2 : List Int) (B1 : Option Addr) (m1 d1 : Nat) (b1 : List Int) (B2 : Option Addr) (m2 d2 : Nat) (b2 : List Int) (X T : Option Addr) (ni no xc tc : Nat) (x t : List Int) (w : World) (i1 : Ints .i64 w A1 n1 a1) (i2 : Ints .i64 w A2 n2 a2) (j1 : Ints .i64 w B1 m1 b1) (j2 : Ints .i64 w B2 m2 b2) (ix : Ints .i64 w X ni x) (it : Ints .i64 w T no t) (g1 : n1 ≤ k1) (g2 : n2 ≤ k2) (h1 : n1 ≤ 9223372036854775807) (h2 : n2 ≤ 9223372036854775807) (h3 : m1 ≤ 9223372036854775807) (h4 : m2 ≤ 9223372036854775807) :
    Calls Tryz.prog 137 #[(.agg #[.int .i64 r1, .int .i64 c1, .slice A1 n1 k1, .int .i64 r2, .int .i64 c2, .slice A2 n2 k2, .slice B1 m1 d1, .slice B2 m2 d2]), .agg #[.slice X ni xc, .slice T no tc]] w (PupOwn w (gradO r1 c1 a1 r2 c2 a2 b1 b2 x t) (bothE r1 c1 a1 r2 c2 a2 b1 b2 ni no)) := by
  by_cases hE : bothE r1 c1 a1 r2 c2 a2 b1 b2 ni no = 0
  · obtain ⟨hP, hn, hm⟩ := bothE_ok hE
    obtain ⟨H, I, O, rfl, rfl, rfl, rfl, hH, hI, hO, e1, e2, e3, e4, o1, o2⟩ := pup_dims hP
    obtain rfl : m1 = H := by rw [← j1.len]; exact e3
    obtain rfl : m2 = O := by rw [← j2.len]; exact e4
    obtain rfl : ni = I := by omega
    obtain rfl : no = m2 := by omega
    rw [hE, show gradO m1 ni a1 no m1 a2 b1 b2 x t = gradP m1 ni no a1 b1 a2 b2 x t from if_pos (by rw [ix.len, it.len]; exact hE)]
    exact pup_Grad_ok m1 ni no A1 n1 k1 a1 A2 n2 k2 a2 B1 d1 b1 B2 d2 b2 X xc x T tc t w i1 i2 j1 j2 ix it hP g1 g2
  · rw [show gradO r1 c1 a1 r2 c2 a2 b1 b2 x t = .zero from if_neg (by rw [ix.len, it.len]; exact hE)]
    exact pup_Grad_no r1 c1 A1 n1 k1 a1 r2 c2 A2 n2 k2 a2 B1 m1 d1 b1 B2 m2 d2 b2 X T ni no xc tc w i1 i2 j1 j2 h1 h2 h3 h4 hE

section
variable {H : Type} {enc : TypeId × Value → H} {w : World} {base : Nat} {sp : Nat → Bool} {held : Bool}
end
end Go.Proofs.YtaeeonnjkplohaaGreatDoor
