/- Which states fit a config, and which are the same: the document's own text: walks. -/
import Derived.Test.YtejkkbjepgghlaaOptT
namespace Go.Proofs.Ytejkkbjepgghlaa
open Go.RowKit Pl

def fitsB (N nw nm : Int) (wt mv : List Int) : Bool := (nw == N) && (nm == N) && okL wt && okL mv
set_option maxRecDepth 100000 in
set_option maxHeartbeats 2000000 in
theorem ref_StateFits (ci ch co se ba st ra de hw ke cl : Int) (A1 A2 : Option Addr) (nw nm c1 c2 : Nat) (wt mv : List Int) (w : World) (i1 : Ints .i64 w A1 nw wt) (i2 : Ints .i64 w A2 nm mv) (hE : cfgE ci ch co ba st ra de hw ke cl = 0) (z1 : nw ≤ 9223372036854775807) (z2 : nm ≤ 9223372036854775807) :
    Calls Try.prog 17 #[.agg #[.int .i64 ci, .int .i64 ch, .int .i64 co, .int .u64 se, .int .i64 ba, .int .i64 st, .int .i64 ra, .int .i64 de, .int .i64 hw, .int .i64 ke, .int .i64 cl], .agg #[.slice A1 nw c1, .slice A2 nm c2]] w fun e w' => e = .returned (.bool (fitsB (sizeP ci ch co) nw nm wt mv)) ∧ Below w.heap.size w w' := by
  obtain ⟨s1, s2, s3, _⟩ := cfgE_ok hE
  have HS := Lib.hid (fun W => ref_Size ci ch co W s1 s2 s3)
  have HR1 := Lib.hid (fun W (q : Ints .i64 W A1 nw wt) => ref_Right A1 nw c1 wt W q z1)
  have HR2 := Lib.hid (fun W (q : Ints .i64 W A2 nm mv) => ref_Right A2 nm c2 mv W q z2)
  have j1 := (i1.alloc (.cells #[.int .i64 ci, .int .i64 ch, .int .i64 co, .int .u64 se, .int .i64 ba, .int .i64 st, .int .i64 ra, .int .i64 de, .int .i64 hw, .int .i64 ke, .int .i64 cl] 24)).alloc (.cells #[.slice A1 nw c1, .slice A2 nm c2] 27)
  have j2 := (i2.alloc (.cells #[.int .i64 ci, .int .i64 ch, .int .i64 co, .int .u64 se, .int .i64 ba, .int .i64 st, .int .i64 ra, .int .i64 de, .int .i64 hw, .int .i64 ke, .int .i64 cl] 24)).alloc (.cells #[.slice A1 nw c1, .slice A2 nm c2] 27)
  clear hE
  cases h1 : ((nw : Int) == sizeP ci ch co)
  · go_enter Try.func17, Try.ntmps17
    go_wp2_with (go_at_call 73; refine (HS.out _).mono ?_; rintro e w' ⟨rfl, rfl⟩)
    go_ret
    exact ⟨ret_bool (by simp [fitsB, h1]), (by repeat (first | exact Below.refl _ _ | assumption | refine bel_drewN ?_ _ | refine Below.drew ?_ | (refine Below.alloc ?_ (by simp <;> omega) _) | (refine Below.setCell ?_ (by simp <;> omega) _)))⟩
  cases h2 : ((nm : Int) == sizeP ci ch co)
  · go_enter Try.func17, Try.ntmps17
    go_wp2_with (go_at_call 73; refine (HS.out _).mono ?_; rintro e w' ⟨rfl, rfl⟩)
    go_ret
    exact ⟨ret_bool (by simp [fitsB, h2]), (by repeat (first | exact Below.refl _ _ | assumption | refine bel_drewN ?_ _ | refine Below.drew ?_ | (refine Below.alloc ?_ (by simp <;> omega) _) | (refine Below.setCell ?_ (by simp <;> omega) _)))⟩
  cases h3 : okL wt
  · rw [h3] at HR1
    go_enter Try.func17, Try.ntmps17
    go_wp2_with (go_at_call 73; refine (HS.out _).mono ?_; rintro e w' ⟨rfl, rfl⟩)
    refine (HR1.out _ (by exact j1)).mono ?_
    rintro e w' ⟨rfl, k1, rfl⟩
    go_wp2
    go_ret
    exact ⟨ret_bool (by simp [fitsB, h3]), (by repeat (first | exact Below.refl _ _ | assumption | refine bel_drewN ?_ _ | refine Below.drew ?_ | (refine Below.alloc ?_ (by simp <;> omega) _) | (refine Below.setCell ?_ (by simp <;> omega) _)))⟩
  rw [h3] at HR1
  have F := Lib.hid (show fitsB (sizeP ci ch co) nw nm wt mv = okL mv by simp [fitsB, h1, h2, h3])
  go_enter Try.func17, Try.ntmps17
  go_wp2_with (go_at_call 73; refine (HS.out _).mono ?_; rintro e w' ⟨rfl, rfl⟩)
  refine (HR1.out _ (by exact j1)).mono ?_
  rintro e w' ⟨rfl, k1, rfl⟩
  go_wp2_with fail
  refine (HR2.out _ (by exact j2.drewN _)).mono ?_
  rintro e w' ⟨rfl, k2, rfl⟩
  go_wp2
  go_ret
  exact ⟨ret_bool (by rw [F.out]), (by repeat (first | exact Below.refl _ _ | assumption | refine bel_drewN ?_ _ | refine Below.drew ?_ | (refine Below.alloc ?_ (by simp <;> omega) _) | (refine Below.setCell ?_ (by simp <;> omega) _)))⟩
set_option maxRecDepth 100000 in
set_option maxHeartbeats 2000000 in
theorem ref_SameState_yes (A1 A2 B1 B2 : Option Addr) (n1 n2 c1 c2 d1 d2 : Nat) (xs ys : List Int) (w : World) (i1 : Ints .i64 w A1 n1 xs) (i2 : Ints .i64 w A2 n2 ys) (j1 : Ints .i64 w B1 n1 xs) (j2 : Ints .i64 w B2 n2 ys) (h1 : n1 ≤ 9223372036854775806) (h2 : n2 ≤ 9223372036854775806) :
    Calls Try.prog 25 #[.agg #[.slice A1 n1 c1, .slice A2 n2 c2], .agg #[.slice B1 n1 d1, .slice B2 n2 d2]] w fun e w' => e = .returned (.bool true) ∧ Below w.heap.size w w' := by
  go_enter Try.func25, Try.ntmps25
  go_wp2_with fail
  refine (equalI_any A1 B1 n1 c1 d1 n1 xs xs _ (by exact (i1.alloc _).alloc _) (by exact (j1.alloc _).alloc _) h1).mono ?_
  rintro e x3 ⟨rfl, k3, rfl⟩
  rw [decide_eq_true rfl]
  go_wp2_with fail
  refine (equalI_any A2 B2 n2 c2 d2 n2 ys ys _ (by exact ((i2.alloc _).alloc _).drewN _) (by exact ((j2.alloc _).alloc _).drewN _) h2).mono ?_
  rintro e x4 ⟨rfl, k4, rfl⟩
  rw [decide_eq_true rfl]
  go_wp2
  go_ret
  exact ⟨rfl, (by repeat (first | exact Below.refl _ _ | assumption | refine bel_drewN ?_ _ | refine Below.drew ?_ | (refine Below.alloc ?_ (by simp <;> omega) _) | (refine Below.setCell ?_ (by simp <;> omega) _)))⟩
end Go.Proofs.Ytejkkbjepgghlaa
