/- What digest.of, Of, Numbers, Pair and Word compute: walks, each function once. -/
import Derived.Test.YtgfidgepplfcbaaDigM
namespace Go.Proofs.Ytgfidgepplfcbaa
open Go.RowKit Pl

def nats (xs : List Int) : List Nat := xs.map Int.toNat
theorem nats_length (xs : List Int) : (nats xs).length = xs.length := List.length_map _
theorem nats_at (xs : List Int) (k : Nat) : (nats xs)[k]?.getD 0 = (at0 xs k).toNat := by
  unfold nats at0
  rw [List.getElem?_map]
  cases xs[k]? <;> rfl
/-- A list's digest. -/
def ofI (kind : Int) (xs : List Int) : Int := ((ofP kind.toNat (nats xs) : Nat) : Int)
theorem ofI_lo (kind : Int) (xs : List Int) : 0 ≤ ofI kind xs := Int.natCast_nonneg _
theorem ofI_hi (kind : Int) (xs : List Int) : ofI kind xs < 2305843009213693951 := by
  have h := ofP_lt kind.toNat (nats xs)
  have : P61 = 2305843009213693951 := rfl
  unfold ofI
  omega
/-- All numbers of 64 bits without a sign. -/
def U64 (xs : List Int) : Prop := ∀ k, 0 ≤ at0 xs k ∧ at0 xs k < 18446744073709551616
theorem U64.of_wf {xs : List Int} (h : ∀ z ∈ xs, (Lit.int .u64 z).wf = true) : U64 xs := fun k => by
  unfold at0
  cases hk : xs[k]? with
  | none => exact ⟨Int.le_refl _, by show (0 : Int) < _; omega⟩
  | some z =>
    have hw := h z (List.mem_of_getElem? hk)
    simp [Lit.wf, IntKind.min, IntKind.max, IntKind.signed, IntKind.bits] at hw
    simp only [Option.getD_some]
    omega
theorem U64.nil : U64 [] := fun k => ⟨Int.le_refl _, by show (0 : Int) < _; omega⟩
theorem U64.cons {a : Int} {xs : List Int} (h0 : 0 ≤ a) (h1 : a < 18446744073709551616) (h : U64 xs) : U64 (a :: xs) := fun k => by
  cases k with
  | zero => exact ⟨h0, h1⟩
  | succ k => exact h k

/-- The state's start; the state behind k numbers. -/
def st0 (kind : Int) (xs : List Int) : Nat × Nat × Nat := (kind.toNat % P61, (nats xs).length, 1)
def stK (kind : Int) (xs : List Int) (k : Nat) : Nat × Nat × Nat := ofN (st0 kind xs) (nats xs) k
theorem stK_succ (kind : Int) (xs : List Int) (k : Nat) : stK kind xs (k + 1) = mixP (addP (stK kind xs k).1 (at0 xs k).toNat, (stK kind xs k).2) := by
  show mixP (addP (ofN _ _ k).1 ((nats xs)[k]?.getD 0), (ofN _ _ k).2) = _
  rw [nats_at]; rfl
theorem stK_end (kind : Int) (xs : List Int) : ((stK kind xs xs.length).2.1 : Int) = ofI kind xs := by
  unfold stK ofI ofP st0
  rw [nats_length]
theorem st64_lt {s : Nat × Nat × Nat} (h : s.1 < P61 ∧ s.2.1 < P61 ∧ s.2.2 < P61) : st64 s := by
  have : P61 = 2305843009213693951 := rfl
  exact ⟨by omega, by omega, by omega⟩
theorem stK_lt (kind : Int) (xs : List Int) (k : Nat) : (stK kind xs k).1 < P61 ∧ (stK kind xs k).2.1 < P61 ∧ (stK kind xs k).2.2 < P61 := ofN_lt _ _ _

set_option maxRecDepth 100000 in
set_option maxHeartbeats 1000000 in
theorem dig_of (kind : Int) (A : Option Addr) (n c : Nat) (xs : List Int) (w : World) (h0 : 0 ≤ kind) (h1 : kind < 18446744073709551616) (hx : Ints .u64 w A n xs) (hu : U64 xs) (hn : n ≤ 9223372036854775807) :
    Calls Try.prog 98 #[.int .u64 kind, .slice A n c] w fun e w' => e = .returned (.int .u64 (ofI kind xs)) ∧ Below w.heap.size w w' := by
  have hcv : IntKind.u64.wrap (n : Int) = (n : Int) := wrap_u64_in (by omega) (by omega)
  have HE := Lib.hid (show ((stK kind xs n).2.1 : Int) = ofI kind xs by rw [← hx.len]; exact stK_end kind xs)
  have hs0 : st64 (st0 kind xs) := ⟨by
    show kind.toNat % P61 < _
    have := Nat.mod_lt kind.toNat P61_pos
    have : P61 = 2305843009213693951 := rfl
    omega, by
    show (nats xs).length < _
    rw [nats_length, hx.len]; omega, by show 1 < _; omega⟩
  have hB0 : Blk (w.alloc (.cells #[.int .u64 (nI kind), .int .u64 n, .int .u64 1] 141)) w.heap.size 141 (stC (st0 kind xs)) := by
    have h := Blk.made w 141 #[.int .u64 (nI kind), .int .u64 n, .int .u64 1]
    have e : stC (st0 kind xs) = #[.int .u64 (nI kind), .int .u64 n, .int .u64 1] := by
      unfold stC st0 nI
      rw [nats_length, hx.len]
      rfl
    rw [e]
    exact h
  go_enter Try.func98, Try.ntmps98
  go_wp2_with (first | (go_at_call 123; refine (dig_norm _ h0 h1 _).mono ?_; rintro e w' ⟨rfl, rfl⟩))
  refine (dig_mix w.heap.size (st0 kind xs) _ hs0 (by exact hB0)).mono ?_
  rintro e w1 ⟨rfl, hb1, hG1⟩
  have hbw : Below w.heap.size w w1 := Below.trans (B := w.heap.size) (by repeat (first | exact Below.refl _ _ | assumption | refine bel_drewN ?_ _ | refine Below.drew ?_ | (refine Below.alloc ?_ (by simp <;> omega) _) | (refine Below.setCell ?_ (by simp <;> omega) _))) (hb1.below (Nat.le_refl _) (by simp))
  clear hb1 hB0
  go_wp2
  go_loopw [7, 19] (fun _ i wr => ∃ k : Nat, k ≤ n ∧ i = .int .i64 k ∧ Below w.heap.size w wr ∧ Blk wr w.heap.size 141 (stC (stK kind xs k))) (fun _ i _ => n - (intOf i).toNat)
  case atStart => exact ⟨0, by omega, rfl, hbw, hG1⟩
  case round =>
    clear hbw hG1
    obtain ⟨k, hk, rfl, hb, hG⟩ := hrel
    by_cases hlt : k < n
    · obtain ⟨b, off, rfl, hbl, hc⟩ := hx.cells (by omega)
      have g1 := (hb.cell (p := ⟨b, off + k, none⟩) hbl).trans (hc k hlt)
      obtain ⟨l1, l2, l3⟩ := stK_lt kind xs k
      obtain ⟨u1, u2⟩ := hu k
      have l1' := l1
      have l2' := l2
      have l3' := l3
      have hP : P61 = 2305843009213693951 := rfl
      rw [hP] at l1' l2' l3'
      clear hP
      have F := Lib.hid (stK_succ kind xs k)
      have L := Lib.hid (And.intro l1 (And.intro l2 l3))
      obtain ⟨s, hs⟩ : ∃ s, s = stK kind xs k := ⟨_, rfl⟩
      rw [← hs] at hG F l1' l2' l3' L
      clear hs l1 l2 l3 hc
      obtain ⟨v, hv⟩ : ∃ v, v = at0 xs k := ⟨_, rfl⟩
      rw [← hv] at g1 u1 u2 F
      clear hv
      have c0 : wr.cell? ⟨w.heap.size, 0, none⟩ = some (.int .u64 s.1) := hG.cell 0
      have z0 := hG.frozen 0
      have HA := Lib.hid (dig_add s.1 v (by omega) (by omega) u1 u2)
      clear l1' l2' l3'
      go_wp2_with (go_at_call 125; refine (HA.out _).mono ?_; rintro e w' ⟨rfl, rfl⟩)
      have hG2 : Blk (wr.setCell ⟨w.heap.size, 0, none⟩ (.int .u64 (addI s.1 v))) w.heap.size 141 (stC (addP s.1 v.toNat, s.2)) := hG.put 0 (.int .u64 (addI s.1 v))
      have hs2 : st64 (addP s.1 v.toNat, s.2) := st64_lt ⟨addP_lt _ _, L.out.2.1, L.out.2.2⟩
      refine (dig_mix w.heap.size _ _ hs2 (by exact hG2)).mono ?_
      rintro e w2 ⟨rfl, hb2, hG3⟩
      have hb3 : Below w.heap.size w w2 := (hb.setCell (p := ⟨w.heap.size, 0, none⟩) (Nat.le_refl _) _).trans (hb2.below (Nat.le_refl _) (by have := hb.size; simp [World.setCell]; exact this))
      clear hG2 hb2 c0 z0 hG g1
      go_wp2
      go_roundw
      case rel => exact ⟨k + 1, by omega, by go_num, hb3, by rw [F.out]; exact hG3⟩
      case measure => simp [intOf]; omega
    · obtain rfl : n = k := by omega
      have c1 : wr.cell? ⟨w.heap.size, 1, none⟩ = some (.int .u64 (stK kind xs n).2.1) := hG.cell 1
      go_wp2
      go_ret
      exact ⟨ret_int HE.out, hb⟩

/-- What Of answers: its error; its number. -/
def ofE (xs : List Int) : Int := if 200 < xs.length then 2 else 0
def ofO (kind : Int) (xs : List Int) : Int := if 200 < xs.length then 0 else ofI kind xs
set_option maxHeartbeats 1000000 in
theorem dig_Of (kind : Int) (A : Option Addr) (n c : Nat) (xs : List Int) (w : World) (h0 : 0 ≤ kind) (h1 : kind < 18446744073709551616) (hx : Ints .u64 w A n xs) (hu : U64 xs) :
    Calls Try.prog 39 #[.int .u64 kind, .slice A n c] w fun e w' => e = .returned (.tuple #[.int .u64 (ofO kind xs), .int .i64 (ofE xs)]) ∧ Below w.heap.size w w' := by
  unfold ofO ofE
  rw [hx.len]
  by_cases h : 200 < n
  · rw [if_pos h, if_pos h]
    go_enter Try.func39, Try.ntmps39
    go_wp2
    go_ret2
    exact ⟨rfl, Below.refl _ _⟩
  · rw [if_neg h, if_neg h]
    go_enter Try.func39, Try.ntmps39
    go_wp2_with (go_at_call 98; refine (dig_of kind A n c xs _ h0 h1 hx hu (by omega)).mono ?_; rintro e w1 ⟨rfl, hb⟩)
    go_ret2
    exact ⟨rfl, hb⟩

theorem Ints.made_u64 (w : World) (xs : List Int) (n : Nat) (hn : xs.length = n) (cs : Array Value) (hc : cs = (xs.map (Value.int .u64)).toArray) {g : Nat} (hg : w.heap.size = g) (t : TypeId) : Ints .u64 (w.alloc (.cells cs t)) (some ⟨g, 0, none⟩) n xs := by
  subst hc; subst hg
  refine ⟨hn, fun _ => ⟨w.heap.size, 0, rfl, by simp, fun j hj => ?_⟩⟩
  rw [(Blk.made w t _).cell (0 + j), Nat.zero_add, List.getElem?_toArray, List.getElem?_map, List.getElem?_eq_getElem (by omega), Option.map_some, at0_getElem _ _ (by omega)]

def pairI (a b : Int) : Int := ofI 3 [a, b]
def wordI (a b : Int) : Int := ofI 2 [a, b]
set_option maxHeartbeats 1000000 in
theorem dig_Pair (a b : Int) (w : World) (h0 : 0 ≤ a) (h1 : a < 18446744073709551616) (h2 : 0 ≤ b) (h3 : b < 18446744073709551616) :
    Calls Try.prog 42 #[.int .u64 a, .int .u64 b] w fun e w' => e = .returned (.int .u64 (pairI a b)) ∧ Below w.heap.size w w' := by
  have hI := Ints.made_u64 w [a, b] 2 rfl #[.int .u64 a, .int .u64 b] rfl rfl 42
  have H := Lib.hid (dig_of 3 _ 2 2 [a, b] _ (by omega) (by omega) hI (.cons h0 h1 (.cons h2 h3 .nil)) (by omega))
  clear h0 h1 h2 h3
  go_enter Try.func42, Try.ntmps42
  go_wp2_with (go_at_call 98; refine H.out.mono ?_; rintro e w1 ⟨rfl, hb⟩)
  go_ret
  exact ⟨rfl, Below.trans (B := w.heap.size) (by repeat (first | exact Below.refl _ _ | assumption | refine bel_drewN ?_ _ | refine Below.drew ?_ | (refine Below.alloc ?_ (by simp <;> omega) _) | (refine Below.setCell ?_ (by simp <;> omega) _))) (hb.mono (by simp))⟩
set_option maxHeartbeats 1000000 in
theorem dig_Word (a b : Int) (w : World) (h0 : 0 ≤ a) (h1 : a < 18446744073709551616) (h2 : 0 ≤ b) (h3 : b < 18446744073709551616) :
    Calls Try.prog 44 #[.int .u64 a, .int .u64 b] w fun e w' => e = .returned (.int .u64 (wordI a b)) ∧ Below w.heap.size w w' := by
  have hI := Ints.made_u64 w [a, b] 2 rfl #[.int .u64 a, .int .u64 b] rfl rfl 42
  have H := Lib.hid (dig_of 2 _ 2 2 [a, b] _ (by omega) (by omega) hI (.cons h0 h1 (.cons h2 h3 .nil)) (by omega))
  clear h0 h1 h2 h3
  go_enter Try.func44, Try.ntmps44
  go_wp2_with (go_at_call 98; refine H.out.mono ?_; rintro e w1 ⟨rfl, hb⟩)
  go_ret
  exact ⟨rfl, Below.trans (B := w.heap.size) (by repeat (first | exact Below.refl _ _ | assumption | refine bel_drewN ?_ _ | refine Below.drew ?_ | (refine Below.alloc ?_ (by simp <;> omega) _) | (refine Below.setCell ?_ (by simp <;> omega) _))) (hb.mono (by simp))⟩
end Go.Proofs.Ytgfidgepplfcbaa
