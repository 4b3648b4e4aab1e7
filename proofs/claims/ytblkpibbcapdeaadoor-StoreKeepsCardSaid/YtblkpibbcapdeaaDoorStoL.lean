/- The document's Line: may a record be told? A walk. -/
import Derived.Test.YtblkpibbcapdeaaDoorStoR
import Derived.Test.YtblkpibbcapdeaaDoorVecW
import Derived.Deep.DeepCutAuto
import Derived.Deep.CutBlock
namespace Go.Proofs.YtblkpibbcapdeaaDoor
open Go.RowKit Pl

def g0R (r : Rec) : Bool := decide (0 ≤ r.step) && decide (r.step ≤ 99) && decide (0 ≤ r.rate) && decide (r.rate ≤ 2147483647) && decide (r.root < pS) && decide (r.chain < pS) && decide (r.batch.length ≤ 8)
def gR (r : Rec) (k : Nat) : Bool := g0R r && (r.batch.take k).all fun n => inB n 0 99
theorem gR_succ (r : Rec) {k : Nat} (h : k < r.batch.length) : gR r (k + 1) = (gR r k && inB (at0 r.batch k) 0 99) := by
  unfold gR at0
  rw [List.take_add_one, List.getElem?_eq_getElem h, List.all_append]
  simp [Bool.and_assoc]
theorem gR_end (r : Rec) {n : Nat} (h : r.batch.length = n) (b0 : 0 ≤ r.root) (b1 : 0 ≤ r.chain) : gR r n = goodR r := by
  unfold gR goodR g0R inB
  rw [List.take_of_length_le (by omega), decide_eq_true b0, decide_eq_true b1]
  simp only [Bool.and_true, Bool.decide_and]
set_option maxRecDepth 100000 in
set_option maxHeartbeats 4000000 in
theorem ref_Line (r : Rec) (A : Option Addr) (n k : Nat) (w : World) (hx : Ints .i64 w A n r.batch) (hn : n ≤ 9223372036854775807) (b0 : 0 ≤ r.root) (b1 : 0 ≤ r.chain) :
    Calls Tryd.prog 7 #[.agg #[.int .i64 r.step, .slice A n k, .int .i64 r.rate, .int .u64 r.root, .int .u64 r.chain]] w fun e w' => e = .returned (.bool (goodR r)) ∧ Below w.heap.size w w' := by
  obtain ⟨w1, hw1⟩ : ∃ w1, w1 = w.alloc (.cells #[.int .i64 r.step, .slice A n k, .int .i64 r.rate, .int .u64 r.root, .int .u64 r.chain] 25) := ⟨_, rfl⟩
  have bw : Below w.heap.size w w1 := by rw [hw1]; exact (by repeat (first | exact Below.refl _ _ | assumption | refine bel_drewN ?_ _ | refine Below.drew ?_ | (refine Below.alloc ?_ (by simp <;> omega) _) | (refine Below.setCell ?_ (by simp <;> omega) _)))
  have HB : Blk w1 w.heap.size 25 #[.int .i64 r.step, .slice A n k, .int .i64 r.rate, .int .u64 r.root, .int .u64 r.chain] := by rw [hw1]; exact Blk.made w _ _
  have hx1 : Ints .i64 w1 A n r.batch := hx.below bw
  have hl := hx.len
  have HE := Lib.hid (gR_end r hl b0 b1)
  have HG0 := Lib.hid (show gR r 0 = g0R r from by unfold gR; simp)
  have HGS := Lib.hid (fun k (h : k < n) => gR_succ r (show k < r.batch.length by omega))
  rw [← HE.out]
  have HW := Lib.hid hw1
  clear hw1 hx
  go_enter Tryd.func7, Tryd.ntmps7
  go_upto_region 1 with fail
  rw [← HW.out]
  have c0 : w1.cell? ⟨w.heap.size, 0, none⟩ = some (.int .i64 r.step) := HB.cell 0
  have c1 : w1.cell? ⟨w.heap.size, 1, none⟩ = some (.slice A n k) := HB.cell 1
  have c2 : w1.cell? ⟨w.heap.size, 2, none⟩ = some (.int .i64 r.rate) := HB.cell 2
  have c3 : w1.cell? ⟨w.heap.size, 3, none⟩ = some (.int .u64 r.root) := HB.cell 3
  have c4 : w1.cell? ⟨w.heap.size, 4, none⟩ = some (.int .u64 r.chain) := HB.cell 4
  clear HW HB
  go_cut [3] (fun v wx => v = .bool (g0R r) ∧ wx = w1)
  case first =>
    cases qs : inB r.step 0 99
    · have HS := Lib.hid (fun W => by have h := ref_In r.step 0 99 W; rw [qs] at h; exact h)
      have F : g0R r = false := by
        unfold inB at qs
        unfold g0R
        rw [Bool.decide_and] at qs
        rw [qs]
        rfl
      have HF := Lib.hid F
      clear F qs
      go_wp2_with fail
      refine (HS.out _).mono ?_
      rintro e w' ⟨rfl, rfl⟩
      go_wp2
      go_meet
      case rel => exact ⟨by rw [HF.out], rfl⟩
    · have HS := Lib.hid (fun W => by have h := ref_In r.step 0 99 W; rw [qs] at h; exact h)
      have QS := Lib.hid (show decide (0 ≤ r.step) = true ∧ decide (r.step ≤ 99) = true from by unfold inB at qs; rw [Bool.decide_and, Bool.and_eq_true] at qs; exact qs)
      clear qs
      go_wp2_with fail
      refine (HS.out _).mono ?_
      rintro e w' ⟨rfl, rfl⟩
      cases qr : inB r.rate 0 2147483647
      · have HR := Lib.hid (fun W => by have h := ref_In r.rate 0 2147483647 W; rw [qr] at h; exact h)
        have F : g0R r = false := by
          unfold inB at qr
          unfold g0R
          rw [Bool.decide_and] at qr
          rw [QS.out.1, QS.out.2, Bool.true_and, Bool.true_and, qr]
          rfl
        have HF := Lib.hid F
        clear F qr
        go_wp2_with fail
        refine (HR.out _).mono ?_
        rintro e w' ⟨rfl, rfl⟩
        go_wp2
        go_meet
        case rel => exact ⟨by rw [HF.out], rfl⟩
      · have HR := Lib.hid (fun W => by have h := ref_In r.rate 0 2147483647 W; rw [qr] at h; exact h)
        have QR := Lib.hid (show decide (0 ≤ r.rate) = true ∧ decide (r.rate ≤ 2147483647) = true from by unfold inB at qr; rw [Bool.decide_and, Bool.and_eq_true] at qr; exact qr)
        clear qr
        go_wp2_with fail
        refine (HR.out _).mono ?_
        rintro e w' ⟨rfl, rfl⟩
        by_cases h3 : r.root < 2305843009213693951
        · by_cases h4 : r.chain < 2305843009213693951
          · by_cases h5 : (n : Int) ≤ 8
            · have h5' : r.batch.length ≤ 8 := by omega
              have F : g0R r = true := by
                unfold g0R
                simp [h3, h4, h5', pS, of_decide_eq_true QS.out.1, of_decide_eq_true QS.out.2, of_decide_eq_true QR.out.1, of_decide_eq_true QR.out.2]
              have HF := Lib.hid F
              clear F
              go_wp2
              go_meet
              case rel => exact ⟨by rw [HF.out], rfl⟩
            · have h5' : ¬ r.batch.length ≤ 8 := by omega
              have F : g0R r = false := by
                unfold g0R
                simp [h5']
              have HF := Lib.hid F
              clear F
              go_wp2
              go_meet
              case rel => exact ⟨by rw [HF.out, decide_eq_false (by omega)], rfl⟩
          · have F : g0R r = false := by
              unfold g0R
              simp [h4, pS]
            have HF := Lib.hid F
            clear F
            go_wp2
            go_meet
            case rel => exact ⟨by rw [HF.out], rfl⟩
        · have F : g0R r = false := by
            unfold g0R
            simp [h3, pS]
          have HF := Lib.hid F
          clear F
          go_wp2
          go_meet
          case rel => exact ⟨by rw [HF.out], rfl⟩
  case rest =>
    obtain ⟨rfl, rfl⟩ := hcut
    obtain ⟨g, hg⟩ : ∃ g : Nat → Bool, g = gR r := ⟨_, rfl⟩
    rw [← HG0.out]
    rw [← hg] at HGS ⊢
    clear HG0 HE hl
    go_wp2
    go_loopw [3, 4] (fun ok i wr => ∃ q : Nat, q ≤ n ∧ i = .int .i64 q ∧ ok = .bool (g q) ∧ wr = wc) (fun _ i _ => n - (intOf i).toNat)
    case atStart => exact ⟨0, by omega, rfl, rfl, rfl⟩
    case round =>
      obtain ⟨q, hq, rfl, rfl, hwr⟩ := hrel
      subst hwr
      by_cases hlt : q < n
      · obtain ⟨b, off, rfl, hbl, hc⟩ := hx1.cells (by omega)
        have g1 := hc q hlt
        have HG := Lib.hid (HGS.out q hlt)
        obtain ⟨y, hy⟩ : ∃ y, y = at0 r.batch q := ⟨_, rfl⟩
        rw [← hy] at g1 HG
        clear hc hy
        obtain ⟨gq, hgq⟩ : ∃ x, x = g q := ⟨_, rfl⟩
        rw [← hgq] at HG ⊢
        clear hgq
        cases gq
        · go_wp2
          go_roundw
          case rel => exact ⟨q + 1, by omega, by go_num, by rw [HG.out]; rfl, by simp⟩
          case measure => simp [intOf]; omega
        · obtain ⟨bq, hbq⟩ : ∃ x, x = inB y 0 99 := ⟨_, rfl⟩
          have HI := Lib.hid (fun W => by have h := ref_In y 0 99 W; rw [← hbq] at h; exact h)
          rw [← hbq] at HG
          clear hbq
          go_wp2_with (go_at_call 15; refine (HI.out _).mono ?_; rintro e w' ⟨rfl, rfl⟩)
          go_roundw
          case rel => exact ⟨q + 1, by omega, by go_num, by rw [HG.out]; rfl, by simp⟩
          case measure => simp [intOf]; omega
      · obtain rfl : q = n := by omega
        go_wp2
        go_ret
        rw [hg]
        exact ⟨rfl, bw⟩
end Go.Proofs.YtblkpibbcapdeaaDoor
