/- Records held against each other: walks. -/
import Derived.Test.YtaeeonnjkplohaaGreatDoorHeld
namespace Go.Proofs.YtaeeonnjkplohaaGreatDoor
open Go.RowKit Pl

def likeR (a b : Rec) : Bool := (a.step == b.step) && (a.rate == b.rate) && (a.root == b.root) && decide (a.batch = b.batch)
def sameR (a b : Rec) : Bool := likeR a b && (a.chain == b.chain)
theorem likeR_self (a : Rec) : likeR a a = true := by simp [likeR]
theorem sameR_self (a : Rec) : sameR a a = true := by simp [sameR, likeR]
theorem likeR_comm (a b : Rec) : likeR a b = likeR b a := by
  unfold likeR
  rw [show (a.step == b.step) = (b.step == a.step) from BEq.comm, show (a.rate == b.rate) = (b.rate == a.rate) from BEq.comm, show (a.root == b.root) = (b.root == a.root) from BEq.comm, show decide (a.batch = b.batch) = decide (b.batch = a.batch) from by simp only [eq_comm]]
theorem sameR_eq {a b : Rec} (h : sameR a b = true) : a = b := by
  cases a; cases b
  simp [sameR, likeR] at h
  simp [h]
/-- Two lists of numbers are held against each other, one of which is not too long. -/
theorem eq_any2 {A B : Option Addr} {n m c d : Nat} {xs ys : List Int} {r : Bool} (hr : decide (xs = ys) = r) {w : World} (hx : Ints .i64 w A n xs) (hy : Ints .i64 w B m ys) (hn : n ≤ 9223372036854775806 ∨ m ≤ 9223372036854775806) :
    Calls Tryz.prog 70 #[.slice A n c, .slice B m d] w fun e w' => e = .returned (.bool r) ∧ Quiet w w' := by
  rw [← hr]
  by_cases h : n = m
  · exact equalI_any A B n c d m xs ys w hx hy (by omega)
  · rw [decide_eq_false (p := xs = ys) (fun e => h (by rw [← hx.len, ← hy.len, e]))]
    exact equalI_no A B n c d m w h

set_option maxRecDepth 100000 in
set_option maxHeartbeats 2000000 in
theorem ref_Like (a b : Rec) (A B : Option Addr) (n k m d : Nat) (w : World) (ha : Ints .i64 w A n a.batch) (hb : Ints .i64 w B m b.batch) (hn : n ≤ 9223372036854775806 ∨ m ≤ 9223372036854775806) :
    Calls Tryz.prog 38 #[.agg #[.int .i64 a.step, .slice A n k, .int .i64 a.rate, .int .u64 a.root, .int .u64 a.chain], .agg #[.int .i64 b.step, .slice B m d, .int .i64 b.rate, .int .u64 b.root, .int .u64 b.chain]] w fun e w' => e = .returned (.bool (likeR a b)) ∧ Below w.heap.size w w' := by
  have bw : Below w.heap.size w ((w.alloc (.cells #[.int .i64 a.step, .slice A n k, .int .i64 a.rate, .int .u64 a.root, .int .u64 a.chain] 40)).alloc (.cells #[.int .i64 b.step, .slice B m d, .int .i64 b.rate, .int .u64 b.root, .int .u64 b.chain] 40)) := (by repeat (first | exact Below.refl _ _ | assumption | refine bel_drewN ?_ _ | refine Below.drew ?_ | (refine Below.alloc ?_ (by simp <;> omega) _) | (refine Below.setCell ?_ (by simp <;> omega) _)))
  have HE := Lib.hid (fun r (hr : decide (a.batch = b.batch) = r) => eq_any2 (c := k) (d := d) hr ((ha.alloc (.cells #[.int .i64 a.step, .slice A n k, .int .i64 a.rate, .int .u64 a.root, .int .u64 a.chain] 40)).alloc (.cells #[.int .i64 b.step, .slice B m d, .int .i64 b.rate, .int .u64 b.root, .int .u64 b.chain] 40)) ((hb.alloc (.cells #[.int .i64 a.step, .slice A n k, .int .i64 a.rate, .int .u64 a.root, .int .u64 a.chain] 40)).alloc (.cells #[.int .i64 b.step, .slice B m d, .int .i64 b.rate, .int .u64 b.root, .int .u64 b.chain] 40)) hn)
  clear ha hb hn
  cases qstep : (a.step == b.step)
  · have F := Lib.hid (show likeR a b = false by unfold likeR; simp [beq_eq_false_iff_ne.1 qstep])
    go_enter Tryz.func38, Tryz.ntmps38
    go_wp2
    go_ret
    rw [F.out]
    exact ⟨rfl, bw⟩
  · have estep := beq_iff_eq.1 qstep
    cases qrate : (a.rate == b.rate)
    · have F := Lib.hid (show likeR a b = false by unfold likeR; simp [estep, beq_eq_false_iff_ne.1 qrate])
      clear estep
      go_enter Tryz.func38, Tryz.ntmps38
      go_wp2
      go_ret
      rw [F.out]
      exact ⟨rfl, bw⟩
    · have erate := beq_iff_eq.1 qrate
      cases qroot : (a.root == b.root)
      · have F := Lib.hid (show likeR a b = false by unfold likeR; simp [estep, erate, beq_eq_false_iff_ne.1 qroot])
        clear estep
        clear erate
        go_enter Tryz.func38, Tryz.ntmps38
        go_wp2
        go_ret
        rw [F.out]
        exact ⟨rfl, bw⟩
      · have eroot := beq_iff_eq.1 qroot
        cases qb : decide (a.batch = b.batch)
        · have HQ := Lib.hid (HE.out false qb)
          have F := Lib.hid (show likeR a b = false by unfold likeR; simp [estep, erate, eroot, of_decide_eq_false qb])
          clear estep
          clear erate
          clear eroot
          go_enter Tryz.func38, Tryz.ntmps38
          go_wp2_with fail
          refine HQ.out.mono ?_
          rintro e w1 ⟨rfl, q, rfl⟩
          go_wp2
          go_ret
          rw [F.out]
          exact ⟨rfl, bel_drewN bw q⟩
        · have HQ := Lib.hid (HE.out true qb)
          have F := Lib.hid (show likeR a b = true by unfold likeR; simp [estep, erate, eroot, of_decide_eq_true qb])
          clear estep
          clear erate
          clear eroot
          go_enter Tryz.func38, Tryz.ntmps38
          go_wp2_with fail
          refine HQ.out.mono ?_
          rintro e w1 ⟨rfl, q, rfl⟩
          go_wp2
          go_ret
          rw [F.out]
          exact ⟨rfl, bel_drewN bw q⟩

set_option maxRecDepth 100000 in
set_option maxHeartbeats 2000000 in
theorem aud_like (a b : Rec) (A B : Option Addr) (n k m d : Nat) (w : World) (ha : Ints .i64 w A n a.batch) (hb : Ints .i64 w B m b.batch) (hn : n ≤ 9223372036854775806 ∨ m ≤ 9223372036854775806) :
    Calls Tryz.prog 52 #[.agg #[.int .i64 a.step, .slice A n k, .int .i64 a.rate, .int .u64 a.root, .int .u64 a.chain], .agg #[.int .i64 b.step, .slice B m d, .int .i64 b.rate, .int .u64 b.root, .int .u64 b.chain]] w fun e w' => e = .returned (.bool (likeR a b)) ∧ Below w.heap.size w w' := by
  have bw : Below w.heap.size w ((w.alloc (.cells #[.int .i64 a.step, .slice A n k, .int .i64 a.rate, .int .u64 a.root, .int .u64 a.chain] 40)).alloc (.cells #[.int .i64 b.step, .slice B m d, .int .i64 b.rate, .int .u64 b.root, .int .u64 b.chain] 40)) := (by repeat (first | exact Below.refl _ _ | assumption | refine bel_drewN ?_ _ | refine Below.drew ?_ | (refine Below.alloc ?_ (by simp <;> omega) _) | (refine Below.setCell ?_ (by simp <;> omega) _)))
  have HE := Lib.hid (fun r (hr : decide (a.batch = b.batch) = r) => eq_any2 (c := k) (d := d) hr ((ha.alloc (.cells #[.int .i64 a.step, .slice A n k, .int .i64 a.rate, .int .u64 a.root, .int .u64 a.chain] 40)).alloc (.cells #[.int .i64 b.step, .slice B m d, .int .i64 b.rate, .int .u64 b.root, .int .u64 b.chain] 40)) ((hb.alloc (.cells #[.int .i64 a.step, .slice A n k, .int .i64 a.rate, .int .u64 a.root, .int .u64 a.chain] 40)).alloc (.cells #[.int .i64 b.step, .slice B m d, .int .i64 b.rate, .int .u64 b.root, .int .u64 b.chain] 40)) hn)
  clear ha hb hn
  cases qstep : (a.step == b.step)
  · have F := Lib.hid (show likeR a b = false by unfold likeR; simp [beq_eq_false_iff_ne.1 qstep])
    go_enter Tryz.func52, Tryz.ntmps52
    go_wp2
    go_ret
    rw [F.out]
    exact ⟨rfl, bw⟩
  · have estep := beq_iff_eq.1 qstep
    cases qb : decide (a.batch = b.batch)
    · have HQ := Lib.hid (HE.out false qb)
      have F := Lib.hid (show likeR a b = false by unfold likeR; simp [estep, of_decide_eq_false qb])
      clear estep
      go_enter Tryz.func52, Tryz.ntmps52
      go_wp2_with fail
      refine HQ.out.mono ?_
      rintro e w1 ⟨rfl, q, rfl⟩
      go_wp2
      go_ret
      rw [F.out]
      exact ⟨rfl, bel_drewN bw q⟩
    · have HQ := Lib.hid (HE.out true qb)
      cases qrate : (a.rate == b.rate)
      · have F := Lib.hid (show likeR a b = false by unfold likeR; simp [estep, of_decide_eq_true qb, beq_eq_false_iff_ne.1 qrate])
        clear estep
        go_enter Tryz.func52, Tryz.ntmps52
        go_wp2_with fail
        refine HQ.out.mono ?_
        rintro e w1 ⟨rfl, q, rfl⟩
        go_wp2
        go_ret
        rw [F.out]
        exact ⟨rfl, bel_drewN bw q⟩
      · have erate := beq_iff_eq.1 qrate
        cases qroot : (a.root == b.root)
        · have F := Lib.hid (show likeR a b = false by unfold likeR; simp [estep, of_decide_eq_true qb, erate, beq_eq_false_iff_ne.1 qroot])
          clear estep
          clear erate
          go_enter Tryz.func52, Tryz.ntmps52
          go_wp2_with fail
          refine HQ.out.mono ?_
          rintro e w1 ⟨rfl, q, rfl⟩
          go_wp2
          go_ret
          rw [F.out]
          exact ⟨rfl, bel_drewN bw q⟩
        · have eroot := beq_iff_eq.1 qroot
          have F := Lib.hid (show likeR a b = true by unfold likeR; simp [estep, of_decide_eq_true qb, erate, eroot])
          clear estep
          clear erate
          clear eroot
          go_enter Tryz.func52, Tryz.ntmps52
          go_wp2_with fail
          refine HQ.out.mono ?_
          rintro e w1 ⟨rfl, q, rfl⟩
          go_wp2
          go_ret
          rw [F.out]
          exact ⟨rfl, bel_drewN bw q⟩

/-- The n records at A, read: values as they stand. -/
def RecAt (w : World) (b o : Nat) (A : Option Addr) (k : Nat) (r : Rec) : Prop := w.cell? ⟨b, o, none⟩ = some (.int .i64 r.step) ∧ w.cell? ⟨b, o + 1, none⟩ = some (.slice A r.batch.length k) ∧ w.cell? ⟨b, o + 2, none⟩ = some (.int .i64 r.rate) ∧ w.cell? ⟨b, o + 3, none⟩ = some (.int .u64 r.root) ∧ w.cell? ⟨b, o + 4, none⟩ = some (.int .u64 r.chain)
theorem RecsK.at {w : World} {A : Option Addr} {n : Nat} {rs : List Rec} (h : RecsK w A n rs) {j : Nat} (hj : j < n) : ∃ b off L k, A = some ⟨b, off, none⟩ ∧ b < w.heap.size ∧ RecAt w b (off + j * 5) L k (recAt rs j) ∧ Ints .i64 w L (recAt rs j).batch.length (recAt rs j).batch ∧ (recAt rs j).batch.length ≤ k ∧ k ≤ maxLen := by
  obtain ⟨b, off, e, hb, hc⟩ := h.cells (by omega)
  obtain ⟨cs, ⟨v, rfl, L, k, rfl, hI, h1, h2, _⟩, hi⟩ := hc j hj
  exact ⟨b, off, L, k, e, hb, ⟨hi 0 (by omega), hi 1 (by omega), hi 2 (by omega), hi 3 (by omega), hi 4 (by omega)⟩, hI, h1, h2⟩
/-- The n records at A, read: the weaker form (of a list's place nothing is said but what it holds). -/
structure RecsR (w : World) (A : Option Addr) (n : Nat) (rs : List Rec) : Prop where
  len : rs.length = n
  cells : 0 < n → ∃ b off, A = some ⟨b, off, none⟩ ∧ b < w.heap.size ∧ ∀ j, j < n → ∃ L k, RecAt w b (off + j * 5) L k (recAt rs j) ∧ Ints .i64 w L (recAt rs j).batch.length (recAt rs j).batch ∧ (recAt rs j).batch.length ≤ k ∧ k ≤ maxLen
theorem RecAt.below {w w' : World} {b o : Nat} {A : Option Addr} {k : Nat} {r : Rec} (h : RecAt w b o A k r) (hb : Below w.heap.size w w') (hl : b < w.heap.size) : RecAt w' b o A k r := by
  obtain ⟨h0, h1, h2, h3, h4⟩ := h
  exact ⟨(hb.cell (p := ⟨b, o, none⟩) hl).trans h0, (hb.cell (p := ⟨b, o + 1, none⟩) hl).trans h1, (hb.cell (p := ⟨b, o + 2, none⟩) hl).trans h2, (hb.cell (p := ⟨b, o + 3, none⟩) hl).trans h3, (hb.cell (p := ⟨b, o + 4, none⟩) hl).trans h4⟩
theorem RecsR.below {w w' : World} {A : Option Addr} {n : Nat} {rs : List Rec} (h : RecsR w A n rs) (hb : Below w.heap.size w w') : RecsR w' A n rs :=
  ⟨h.len, fun hn => by
    obtain ⟨b, off, e, hl, hc⟩ := h.cells hn
    refine ⟨b, off, e, Nat.lt_of_lt_of_le hl hb.size, fun j hj => ?_⟩
    obtain ⟨L, k, h1, h2, h3⟩ := hc j hj
    exact ⟨L, k, h1.below hb hl, h2.below hb, h3⟩⟩
theorem RecsR.at {w : World} {A : Option Addr} {n : Nat} {rs : List Rec} (h : RecsR w A n rs) {j : Nat} (hj : j < n) : ∃ b off L k, A = some ⟨b, off, none⟩ ∧ b < w.heap.size ∧ RecAt w b (off + j * 5) L k (recAt rs j) ∧ Ints .i64 w L (recAt rs j).batch.length (recAt rs j).batch ∧ (recAt rs j).batch.length ≤ k ∧ k ≤ maxLen := by
  obtain ⟨b, off, e, hb, hc⟩ := h.cells (by omega)
  obtain ⟨L, k, h1, h2, h3⟩ := hc j hj
  exact ⟨b, off, L, k, e, hb, h1, h2, h3⟩
theorem RecsK.weak {w : World} {A : Option Addr} {n : Nat} {rs : List Rec} (h : RecsK w A n rs) : RecsR w A n rs :=
  ⟨h.len, fun hn => by
    obtain ⟨b, off, e, hb, hc⟩ := h.cells hn
    refine ⟨b, off, e, hb, fun j hj => ?_⟩
    obtain ⟨cs, ⟨v, rfl, L, k, rfl, hI, h1, h2, _⟩, hi⟩ := hc j hj
    exact ⟨L, k, ⟨hi 0 (by omega), hi 1 (by omega), hi 2 (by omega), hi 3 (by omega), hi 4 (by omega)⟩, hI, h1, h2⟩⟩
def sameL (n : Nat) (rs ss : List Rec) : Prop := ∀ j, j < n → sameR (recAt rs j) (recAt ss j) = true

set_option maxRecDepth 100000 in
set_option maxHeartbeats 2000000 in
theorem ref_Same1 (a b : Rec) (A B : Option Addr) (n k m d : Nat) (w : World) (ha : Ints .i64 w A n a.batch) (hb : Ints .i64 w B m b.batch) (hn : n ≤ 9223372036854775806 ∨ m ≤ 9223372036854775806) :
    Calls Tryz.prog 37 #[.agg #[.int .i64 a.step, .slice A n k, .int .i64 a.rate, .int .u64 a.root, .int .u64 a.chain], .agg #[.int .i64 b.step, .slice B m d, .int .i64 b.rate, .int .u64 b.root, .int .u64 b.chain]] w fun e w' => e = .returned (.bool (sameR a b)) ∧ Below w.heap.size w w' := by
  have bw : Below w.heap.size w ((w.alloc (.cells #[.int .i64 a.step, .slice A n k, .int .i64 a.rate, .int .u64 a.root, .int .u64 a.chain] 40)).alloc (.cells #[.int .i64 b.step, .slice B m d, .int .i64 b.rate, .int .u64 b.root, .int .u64 b.chain] 40)) := (by repeat (first | exact Below.refl _ _ | assumption | refine bel_drewN ?_ _ | refine Below.drew ?_ | (refine Below.alloc ?_ (by simp <;> omega) _) | (refine Below.setCell ?_ (by simp <;> omega) _)))
  have HA := (Blk.made w 40 #[.int .i64 a.step, .slice A n k, .int .i64 a.rate, .int .u64 a.root, .int .u64 a.chain]).alloc (.cells #[.int .i64 b.step, .slice B m d, .int .i64 b.rate, .int .u64 b.root, .int .u64 b.chain] 40)
  have HB := Blk.made' (w.alloc (.cells #[.int .i64 a.step, .slice A n k, .int .i64 a.rate, .int .u64 a.root, .int .u64 a.chain] 40)) 40 #[.int .i64 b.step, .slice B m d, .int .i64 b.rate, .int .u64 b.root, .int .u64 b.chain] (g := w.heap.size + 1) (by simp)
  have HL := Lib.hid (ref_Like a b A B n k m d _ ((ha.alloc (.cells #[.int .i64 a.step, .slice A n k, .int .i64 a.rate, .int .u64 a.root, .int .u64 a.chain] 40)).alloc (.cells #[.int .i64 b.step, .slice B m d, .int .i64 b.rate, .int .u64 b.root, .int .u64 b.chain] 40)) ((hb.alloc (.cells #[.int .i64 a.step, .slice A n k, .int .i64 a.rate, .int .u64 a.root, .int .u64 a.chain] 40)).alloc (.cells #[.int .i64 b.step, .slice B m d, .int .i64 b.rate, .int .u64 b.root, .int .u64 b.chain] 40)) hn)
  clear ha hb hn
  go_enter Tryz.func37, Tryz.ntmps37
  go_wp2_with fail
  refine HL.out.mono ?_
  rintro e w1 ⟨rfl, hb1⟩
  have c0 : w1.cell? ⟨w.heap.size, 4, none⟩ = some (.int .u64 a.chain) := (HA.below hb1 HA.lt).cell 4
  have c1 : w1.cell? ⟨w.heap.size + 1, 4, none⟩ = some (.int .u64 b.chain) := (HB.below hb1 HB.lt).cell 4
  have hbw : Below w.heap.size w w1 := bw.trans (hb1.mono bw.size)
  clear HA HB hb1 bw HL
  cases hl : likeR a b
  · have F := Lib.hid (show sameR a b = false by unfold sameR; rw [hl]; rfl)
    clear hl
    go_wp2
    go_ret
    rw [F.out]
    exact ⟨rfl, hbw⟩
  · cases hc : (a.chain == b.chain)
    · have F := Lib.hid (show sameR a b = false by unfold sameR; rw [hl, hc]; rfl)
      clear hl
      go_wp2
      go_ret
      rw [F.out]
      exact ⟨rfl, hbw⟩
    · have F := Lib.hid (show sameR a b = true by unfold sameR; rw [hl, hc]; rfl)
      clear hl
      go_wp2
      go_ret
      rw [F.out]
      exact ⟨rfl, hbw⟩
end Go.Proofs.YtaeeonnjkplohaaGreatDoor
