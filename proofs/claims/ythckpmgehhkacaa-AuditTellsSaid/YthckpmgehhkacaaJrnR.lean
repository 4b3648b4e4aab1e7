/- Package journal: Root, Chain: walks. -/
import Derived.Test.YthckpmgehhkacaaTrnR
namespace Go.Proofs.Ythckpmgehhkacaa
open Go.RowKit Pl

set_option maxRecDepth 100000 in
set_option maxHeartbeats 2000000 in
theorem jrn_Root (A1 A2 : Option Addr) (n1 k1 n2 k2 : Nat) (wt mv : List Int) (w : World) (q1 : Ints .i64 w A1 n1 wt) (q2 : Ints .i64 w A2 n2 mv) (hs : (n1 + n2) * 8 ≤ 140737488351232) :
    Calls Try.prog 40 #[.agg #[.slice A1 n1 k1, .slice A2 n2 k2]] w fun e w' => e = .returned (.tuple #[.int .u64 (rootO (wt ++ mv)), .int .i64 (lvE (n1 + n2))]) ∧ Below w.heap.size w w' := by
  have HL : (wt ++ mv).length = n1 + n2 := by rw [List.length_append, q1.len, q2.len]
  have HS1 := Blk.made w 35 #[.slice A1 n1 k1, .slice A2 n2 k2]
  obtain ⟨⟨f0, f1⟩, _⟩ := HS1.two
  have hv : Vals ((w.alloc (.cells #[.slice A1 n1 k1, .slice A2 n2 k2] 35)).alloc (.cells #[.slice A1 n1 k1, .slice A2 n2 k2] 23)) (some ⟨w.heap.size + 1, 0, none⟩) 2 [.slice A1 n1 k1, .slice A2 n2 k2] := by
    have h := Vals.made (w.alloc (.cells #[.slice A1 n1 k1, .slice A2 n2 k2] 35)) #[.slice A1 n1 k1, .slice A2 n2 k2] 23 2 [.slice A1 n1 k1, .slice A2 n2 k2] rfl rfl
    simpa using h
  have hp : Parts ((w.alloc (.cells #[.slice A1 n1 k1, .slice A2 n2 k2] 35)).alloc (.cells #[.slice A1 n1 k1, .slice A2 n2 k2] 23)) [.slice A1 n1 k1, .slice A2 n2 k2] [wt, mv] := ⟨rfl, fun j hj => by
    match j, hj with
    | 0, _ => exact ⟨A1, n1, k1, rfl, (q1.alloc _).alloc _⟩
    | 1, _ => exact ⟨A2, n2, k2, rfl, (q2.alloc _).alloc _⟩⟩
  have HCC := fun c => sl_Concat (some ⟨w.heap.size + 1, 0, none⟩) 2 c _ _ _ hv hp (n1 + n2) (by simpa using HL) hs (by omega)
  rw [show [wt, mv].flatten = wt ++ mv by simp] at HCC
  have HC := Lib.hid HCC
  have hbw : Below w.heap.size w ((w.alloc (.cells #[.slice A1 n1 k1, .slice A2 n2 k2] 35)).alloc (.cells #[.slice A1 n1 k1, .slice A2 n2 k2] 23)) := ((Below.refl _ _).alloc (Nat.le_refl _) _).alloc (by simp) _
  obtain ⟨xs, hxs⟩ : ∃ xs, xs = wt ++ mv := ⟨_, rfl⟩
  obtain ⟨N, hN⟩ : ∃ N, N = n1 + n2 := ⟨_, rfl⟩
  rw [← hxs] at HC HL ⊢
  rw [← hN] at HL hs ⊢
  have HLL := Lib.hid HL
  clear hv hp HCC q1 q2 hxs hN HS1 HL
  go_enter Try.func40, Try.ntmps40
  go_wp2_with fail
  refine (HC.out _).mono ?_
  rintro e w1 ⟨S, sc, rfl, hown, hb1⟩
  replace hbw := hbw.trans (hb1.mono hbw.size)
  have hx := Ints.of_own hown rfl
  have hc := own_capT hown
  rw [HLL.out] at hx hc ⊢
  clear hown HC f0 f1 hb1
  have HR := Lib.hid (tree_Root_any S N sc xs w1 hx hc (by omega))
  go_wp2_with fail
  refine HR.out.mono ?_
  rintro e w2 ⟨rfl, hb2⟩
  go_wp2
  go_ret2
  exact ⟨rfl, hbw.trans (hb2.mono hbw.size)⟩
theorem root_fine (c : Cfg) (h : c.Ok) (s : List Int × List Int) (A1 A2 : Option Addr) (k1 k2 : Nat) (w : World) (q1 : Ints .i64 w A1 c.N s.1) (q2 : Ints .i64 w A2 c.N s.2) :
    Calls Try.prog 40 #[.agg #[.slice A1 c.N k1, .slice A2 c.N k2]] w fun e w' => e = .returned (.tuple #[.int .u64 (rootS s), .int .i64 0]) ∧ Below w.heap.size w w' := by
  have h1 := h.n1
  have h40 := h.n40
  have H := jrn_Root A1 A2 c.N k1 c.N k2 s.1 s.2 w q1 q2 (by omega)
  rw [show lvE (c.N + c.N) = 0 by unfold lvE; rw [if_neg (by omega), if_neg (by omega)]] at H
  exact H

theorem jrn_Chain1 (n : Int) (w : World) : Calls Try.prog 140 #[.int .i64 n] w fun e w' => e = .returned (.bool (decide (n < 0))) ∧ Quiet w w' := by
  go_enter Try.func140, Try.ntmps140
  go_wp2
  go_ret
  exact ⟨rfl, Quiet.refl _⟩
def negV : Value → Bool
  | .int _ n => decide (n < 0)
  | _ => false
theorem negV_any (k : IntKind) (xs : List Int) : (xs.map (Value.int k)).any negV = !(xs.all fun n => decide (0 ≤ n)) := by
  induction xs with
  | nil => rfl
  | cons x xs ih =>
    rw [List.map_cons, List.any_cons, List.all_cons, ih]
    have : negV (.int k x) = !decide (0 ≤ x) := by
      show decide (x < 0) = _
      by_cases h : 0 ≤ x
      · rw [decide_eq_true h, decide_eq_false (by omega)]; rfl
      · rw [decide_eq_false h, decide_eq_true (by omega)]; rfl
    rw [this]
    cases decide (0 ≤ x) <;> simp
theorem neg_any {A : Option Addr} {n c : Nat} {xs : List Int} {b : Bool} (hb : xs.all (fun n => decide (0 ≤ n)) = !b) {w : World} (hx : Ints .i64 w A n xs) (hn : n ≤ 9223372036854775807) :
    Calls Try.prog 41 #[.slice A n c, .func (.func 140) #[] #[]] w fun e w' => e = .returned (.bool b) ∧ Quiet w w' := by
  have H := chained_any A n c _ negV w hx.vals hn fun v W hv _ => by
    obtain ⟨x, _, rfl⟩ := List.mem_map.1 hv
    exact jrn_Chain1 x W
  rw [negV_any, hb, Bool.not_not] at H
  exact H
end Go.Proofs.Ythckpmgehhkacaa
