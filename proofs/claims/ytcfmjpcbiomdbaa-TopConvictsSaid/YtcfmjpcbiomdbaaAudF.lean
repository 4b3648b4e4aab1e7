/- Plain laws about search by halves. No program in sight. -/
import Derived.Test.YtcfmjpcbiomdbaaPl
import Derived.Test.YtcfmjpcbiomdbaaFixW
import Derived.Test.YtcfmjpcbiomdbaaMem
import Derived.OwnWalk
import Derived.LoopTactic
import Derived.WalkSmall
namespace Go.Proofs.Ytcfmjpcbiomdbaa.Pl

/-- By halves: from low (the same there, or -1) and high (not the same there); how often it was asked. -/
def bisN (same : Nat → Bool) : Nat → Int → Int → Int → Int × Int
  | 0, _, high, asks => (high, asks)
  | f + 1, low, high, asks => if high ≤ low + 1 then (high, asks) else
      if same (low + (high - low) / 2).toNat then bisN same f (low + (high - low) / 2) high (asks + 1) else bisN same f low (low + (high - low) / 2) (asks + 1)
def findP (same : Nat → Bool) (n : Nat) : Int × Int := if same (n - 1) then (n, 1) else bisN same n (-1) (n - 1) 1

theorem bisN_done (same : Nat → Bool) (f : Nat) (low high asks : Int) (h : high ≤ low + 1) : bisN same f low high asks = (high, asks) := by
  cases f with
  | zero => rfl
  | succ f => rw [bisN, if_pos h]
theorem bisN_yes (same : Nat → Bool) (f : Nat) (low high asks : Int) (h : ¬ high ≤ low + 1) (hs : same (low + (high - low) / 2).toNat = true) :
    bisN same (f + 1) low high asks = bisN same f (low + (high - low) / 2) high (asks + 1) := by rw [bisN, if_neg h, if_pos hs]
theorem bisN_no (same : Nat → Bool) (f : Nat) (low high asks : Int) (h : ¬ high ≤ low + 1) (hs : same (low + (high - low) / 2).toNat = false) :
    bisN same (f + 1) low high asks = bisN same f low (low + (high - low) / 2) (asks + 1) := by rw [bisN, if_neg h, if_neg (by rw [hs]; simp)]

/-- Where it is found that they part, they part, and just ahead they didn't. -/
theorem bisN_place (same : Nat → Bool) (f : Nat) : ∀ (low high asks : Int), -1 ≤ low → low < high → high - low ≤ f → (low = -1 ∨ same low.toNat = true) → same high.toNat = false →
    0 ≤ (bisN same f low high asks).1 ∧ (bisN same f low high asks).1 ≤ high ∧ same (bisN same f low high asks).1.toNat = false ∧
      ((bisN same f low high asks).1 = 0 ∨ same ((bisN same f low high asks).1 - 1).toNat = true) := by
  induction f with
  | zero => intro low high asks h1 h2 h3; omega
  | succ f ih =>
    intro low high asks h1 h2 h3 h4 h5
    by_cases hd : high ≤ low + 1
    · rw [bisN_done _ _ _ _ _ hd]
      refine ⟨by dsimp only; omega, Int.le_refl _, h5, ?_⟩
      rcases h4 with h4 | h4
      · left; dsimp only; omega
      · right; dsimp only; rw [show high - 1 = low by omega]; exact h4
    · cases hs : same (low + (high - low) / 2).toNat
      · rw [bisN_no _ _ _ _ _ hd hs]
        have := ih low (low + (high - low) / 2) (asks + 1) h1 (by omega) (by omega) h4 hs
        exact ⟨this.1, by omega, this.2.2⟩
      · rw [bisN_yes _ _ _ _ _ hd hs]
        have := ih (low + (high - low) / 2) high (asks + 1) (by omega) (by omega) (by omega) (.inr hs) h5
        exact ⟨this.1, by omega, this.2.2⟩
/-- It isn't asked often. -/
theorem bisN_asks (same : Nat → Bool) (j : Nat) : ∀ (f : Nat) (low high asks : Int), low < high → high - low ≤ 2 ^ j → asks ≤ (bisN same f low high asks).2 ∧ (bisN same f low high asks).2 ≤ asks + j := by
  induction j with
  | zero =>
    intro f low high asks h1 h2
    rw [bisN_done _ _ _ _ _ (by omega)]
    exact ⟨Int.le_refl _, by dsimp only; omega⟩
  | succ j ih =>
    intro f low high asks h1 h2
    cases f with
    | zero => exact ⟨Int.le_refl _, by simp only [bisN]; omega⟩
    | succ f =>
      have hp : (2 : Int) ^ (j + 1) = 2 ^ j * 2 := by rw [Int.pow_succ]
      by_cases hd : high ≤ low + 1
      · rw [bisN_done _ _ _ _ _ hd]
        exact ⟨Int.le_refl _, by dsimp only; omega⟩
      · cases hs : same (low + (high - low) / 2).toNat
        · rw [bisN_no _ _ _ _ _ hd hs]
          have := ih f low (low + (high - low) / 2) (asks + 1) (by omega) (by omega)
          omega
        · rw [bisN_yes _ _ _ _ _ hd hs]
          have := ih f (low + (high - low) / 2) high (asks + 1) (by omega) (by omega)
          omega

theorem findP_place (same : Nat → Bool) (n : Nat) (hn : 0 < n) : 0 ≤ (findP same n).1 ∧ (findP same n).1 ≤ n ∧
    ((findP same n).1 = n → same (n - 1) = true) ∧ ((findP same n).1 ≠ n → same (findP same n).1.toNat = false ∧ ((findP same n).1 = 0 ∨ same ((findP same n).1 - 1).toNat = true)) := by
  unfold findP
  cases hs : same (n - 1)
  · rw [if_neg (by simp)]
    have h := bisN_place same n (-1) (n - 1) 1 (by omega) (by omega) (by omega) (.inl rfl) (by rw [show ((n : Int) - 1).toNat = n - 1 by omega]; exact hs)
    exact ⟨h.1, by omega, fun e => by omega, fun _ => h.2.2⟩
  · rw [if_pos rfl]
    exact ⟨by dsimp only; omega, by dsimp only; omega, fun _ => rfl, fun h => absurd rfl h⟩
theorem findP_asks (same : Nat → Bool) (n j : Nat) (hn : 0 < n) (hj : n ≤ 2 ^ j) : 1 ≤ (findP same n).2 ∧ (findP same n).2 ≤ 1 + j := by
  unfold findP
  cases hs : same (n - 1)
  · rw [if_neg (by simp)]
    exact bisN_asks same j n (-1) (n - 1) 1 (by omega) (by have : ((n : Nat) : Int) ≤ ((2 ^ j : Nat) : Int) := by exact_mod_cast hj
                                                           rw [Int.natCast_pow] at this; simpa using this)
  · rw [if_pos rfl]
    exact ⟨by dsimp only; omega, by dsimp only; omega⟩
end Go.Proofs.Ytcfmjpcbiomdbaa.Pl

/- What audit.Find computes: a search by halves, by a function that counts: walks, each function once. -/
namespace Go.Proofs.Ytcfmjpcbiomdbaa
open Go.RowKit Pl

/-- The slice of n records at A has these chains. -/
structure Chains (w : World) (A : Option Addr) (n : Nat) (xs : List Int) : Prop where
  len : xs.length = n
  cells : 0 < n → ∃ b off, A = some ⟨b, off, none⟩ ∧ b < w.heap.size ∧ ∀ j, j < n → w.cell? ⟨b, off + j * 5 + 4, none⟩ = some (.int .u64 (at0 xs j))
theorem Chains.below {w w' : World} {A : Option Addr} {n : Nat} {xs : List Int} (h : Chains w A n xs) (hb : Below w.heap.size w w') : Chains w' A n xs :=
  ⟨h.len, fun hn => by
    obtain ⟨b, off, e, hbl, hc⟩ := h.cells hn
    exact ⟨b, off, e, Nat.lt_of_lt_of_le hbl hb.size, fun j hj => (hb.cell (p := ⟨b, off + j * 5 + 4, none⟩) hbl).trans (hc j hj)⟩⟩

/-- Are the chains at place i the same? -/
def sameC (xs ys : List Int) (i : Nat) : Bool := at0 xs i == at0 ys i

set_option maxHeartbeats 1000000 in
theorem find_ask (i g ga gb b off b' off' n c d : Nat) (x u v : Int) (w : World)
    (hg : w.cell? ⟨g, 0, none⟩ = some (.int .i64 x)) (hgf : w.frozen? ⟨g, 0, none⟩ = false) (ha : w.cell? ⟨ga, 0, none⟩ = some (.slice (some ⟨b, off, none⟩) n c)) (hb : w.cell? ⟨gb, 0, none⟩ = some (.slice (some ⟨b', off', none⟩) n d))
    (hu : w.cell? ⟨b, off + i * 5 + 4, none⟩ = some (.int .u64 u)) (hv : w.cell? ⟨b', off' + i * 5 + 4, none⟩ = some (.int .u64 v))
    (n1 : g ≠ ga) (n2 : g ≠ gb) (n3 : g ≠ b) (n4 : g ≠ b') (hi : i < n) (hx : 0 ≤ x) (hx' : x ≤ 100) :
    Calls Try.prog 60 #[.int .i64 i, .pointer (some ⟨g, 0, none⟩), .pointer (some ⟨ga, 0, none⟩), .pointer (some ⟨gb, 0, none⟩)] w
      fun e w' => e = .returned (.bool (u == v)) ∧ ∃ k, w' = (w.setCell ⟨g, 0, none⟩ (.int .i64 (x + 1))).drewN k := by
  have ha' : (w.setCell ⟨g, 0, none⟩ (.int .i64 (x + 1))).cell? ⟨ga, 0, none⟩ = some (.slice (some ⟨b, off, none⟩) n c) := by rw [World.cell?_setCell_other _ _ _ _ (by intro h; injection h with h; exact n1 h)]; exact ha
  have hb' : (w.setCell ⟨g, 0, none⟩ (.int .i64 (x + 1))).cell? ⟨gb, 0, none⟩ = some (.slice (some ⟨b', off', none⟩) n d) := by rw [World.cell?_setCell_other _ _ _ _ (by intro h; injection h with h; exact n2 h)]; exact hb
  have hu' : (w.setCell ⟨g, 0, none⟩ (.int .i64 (x + 1))).cell? ⟨b, off + i * 5 + 4, none⟩ = some (.int .u64 u) := by rw [World.cell?_setCell_other _ _ _ _ (by intro h; injection h with h; exact n3 h)]; exact hu
  have hv' : (w.setCell ⟨g, 0, none⟩ (.int .i64 (x + 1))).cell? ⟨b', off' + i * 5 + 4, none⟩ = some (.int .u64 v) := by rw [World.cell?_setCell_other _ _ _ _ (by intro h; injection h with h; exact n4 h)]; exact hv
  have z1 : (0 : Int) ≤ (i : Int) := Int.natCast_nonneg _
  have z2 : (i : Int) < (n : Int) := by omega
  clear ha hb hu hv
  go_enter Try.func60, Try.ntmps60
  go_wp2
  go_quiet (fail)
  go_wp2
  go_ret
  exact ⟨rfl, _, rfl⟩

/-- What Find's own variables hold, q being how often it was asked; what was there stands. -/
structure FW (w : World) (A B : Option Addr) (n c d : Nat) (q : Int) (wr : World) : Prop where
  asks : wr.cell? ⟨w.heap.size + 2, 0, none⟩ = some (.int .i64 q)
  free : wr.frozen? ⟨w.heap.size + 2, 0, none⟩ = false
  a : wr.cell? ⟨w.heap.size, 0, none⟩ = some (.slice A n c)
  b : wr.cell? ⟨w.heap.size + 1, 0, none⟩ = some (.slice B n d)
  below : Below w.heap.size w wr
theorem FW.step {w : World} {A B : Option Addr} {n c d : Nat} {q : Int} {wr : World} (h : FW w A B n c d q wr) (k : Nat) : FW w A B n c d (q + 1) ((wr.setCell ⟨w.heap.size + 2, 0, none⟩ (.int .i64 (q + 1))).drewN k) where
  asks := World.cell?_setCell_same' _ _ _ (by rw [h.asks]; rfl)
  free := by
    show (wr.setCell _ _).frozen? _ = false
    rw [World.frozen?_setCell]; exact h.free
  a := by
    show (wr.setCell _ _).cell? _ = _
    rw [World.cell?_setCell_other _ _ _ _ (by intro h; injection h with h; omega)]; exact h.a
  b := by
    show (wr.setCell _ _).cell? _ = _
    rw [World.cell?_setCell_other _ _ _ _ (by intro h; injection h with h; omega)]; exact h.b
  below := bel_drewN (h.below.setCell (by simp) _) _

set_option maxHeartbeats 1000000 in
theorem find_no (A B : Option Addr) (n c m d : Nat) (w : World) (h : n ≠ m ∨ n = 0 ∨ 40 < n) :
    Calls Try.prog 25 #[.slice A n c, .slice B m d] w fun e w' => e = .returned (.tuple #[.int .i64 0, .int .i64 0, .int .i64 5]) ∧ Below w.heap.size w w' := by
  by_cases h1 : n = m
  · subst h1
    by_cases h2 : n = 0
    · subst h2
      go_enter Try.func25, Try.ntmps25
      go_wp2
      go_ret3
      exact ⟨rfl, (by repeat (first | exact Below.refl _ _ | assumption | refine bel_drewN ?_ _ | refine Below.drew ?_ | (refine Below.alloc ?_ (by simp <;> omega) _) | (refine Below.setCell ?_ (by simp <;> omega) _)))⟩
    · have h3 : 40 < n := by omega
      have h4 : ((n : Int) == 0) = false := beq_eq_false_iff_ne.2 (by omega)
      clear h h2
      go_enter Try.func25, Try.ntmps25
      go_wp2
      go_ret3
      exact ⟨rfl, (by repeat (first | exact Below.refl _ _ | assumption | refine bel_drewN ?_ _ | refine Below.drew ?_ | (refine Below.alloc ?_ (by simp <;> omega) _) | (refine Below.setCell ?_ (by simp <;> omega) _)))⟩
  · have h4 : ((m : Int) != (n : Int)) = true := by rw [bne_iff_ne]; omega
    clear h h1
    go_enter Try.func25, Try.ntmps25
    go_wp2
    go_ret3
    exact ⟨rfl, (by repeat (first | exact Below.refl _ _ | assumption | refine bel_drewN ?_ _ | refine Below.drew ?_ | (refine Below.alloc ?_ (by simp <;> omega) _) | (refine Below.setCell ?_ (by simp <;> omega) _)))⟩

set_option maxRecDepth 100000 in
set_option maxHeartbeats 2000000 in
theorem find_ok (A B : Option Addr) (n c d : Nat) (xs ys : List Int) (w : World) (hx : Chains w A n xs) (hy : Chains w B n ys) (hn : 0 < n) (hn' : n ≤ 40) :
    Calls Try.prog 25 #[.slice A n c, .slice B n d] w
      fun e w' => e = .returned (.tuple #[.int .i64 (findP (sameC xs ys) n).1, .int .i64 (findP (sameC xs ys) n).2, .int .i64 0]) ∧ Below w.heap.size w w' := by
  have hmf : ∀ (fn : Fn) (first cap : Array Value) (w : World), (Instr.makeFunc fn first cap).run Try.prog w = .ok (.func fn first cap) w := fun _ _ _ _ => rfl
  have h4 : ((n : Int) == 0) = false := beq_eq_false_iff_ne.2 (by omega)
  obtain ⟨b, off, rfl, hb, hc⟩ := hx.cells hn
  obtain ⟨b', off', rfl, hb', hc'⟩ := hy.cells hn
  have ask : ∀ (i : Nat) (q : Int) (wr : World), i < n → 0 ≤ q → q ≤ 100 → FW w (some ⟨b, off, none⟩) (some ⟨b', off', none⟩) n c d q wr →
      Calls Try.prog 60 #[.int .i64 i, .pointer (some ⟨w.heap.size + 2, 0, none⟩), .pointer (some ⟨w.heap.size, 0, none⟩), .pointer (some ⟨w.heap.size + 1, 0, none⟩)] wr
        fun e w' => e = .returned (.bool (sameC xs ys i)) ∧ FW w (some ⟨b, off, none⟩) (some ⟨b', off', none⟩) n c d (q + 1) w' := fun i q wr hi hq hq' hf =>
    (find_ask i _ _ _ b off b' off' n c d q _ _ wr hf.asks hf.free hf.a hf.b ((hf.below.cell (p := ⟨b, off + i * 5 + 4, none⟩) hb).trans (hc i hi)) ((hf.below.cell (p := ⟨b', off' + i * 5 + 4, none⟩) hb').trans (hc' i hi))
      (by omega) (by omega) (by omega) (by omega) hi hq hq').mono fun e w' ⟨he, k, hw⟩ => ⟨he, by rw [hw]; exact hf.step k⟩
  have ASK := Lib.hid ask
  clear hc hc' ask
  go_enter Try.func25, Try.ntmps25
  go_wp2_with fail
  have hf0 : FW w (some ⟨b, off, none⟩) (some ⟨b', off', none⟩) n c d 0 (((w.alloc (.cells #[.slice (some ⟨b, off, none⟩) n c] 35)).alloc (.cells #[.slice (some ⟨b', off', none⟩) n d] 35)).alloc (.cells #[.int .i64 0] 3)) := {
    asks := by rw [World.cell?_alloc_at _ _ _ _ (by simp)]; rfl
    free := World.frozen?_alloc_at _ _ _ _ (by simp)
    a := by rw [World.cell?_alloc_past _ _ _ (by simp; omega), World.cell?_alloc_past _ _ _ (by simp), World.cell?_alloc_at _ _ _ _ rfl]; rfl
    b := by rw [World.cell?_alloc_past _ _ _ (by simp), World.cell?_alloc_at _ _ _ _ (by simp)]; rfl
    below := ((((Below.refl _ _).alloc (Nat.le_refl _) _).alloc (by simp) _).alloc (by simp; omega) _) }
  have e1 : (n : Int) - 1 = ((n - 1 : Nat) : Int) := by omega
  rw [e1]
  refine (ASK.out (n - 1) 0 _ (by omega) (by omega) (by omega) hf0).mono ?_
  rintro e wr ⟨rfl, hf⟩
  clear hf0
  have E1 := Lib.hid e1
  clear e1
  cases hs : sameC xs ys (n - 1)
  · have HS := Lib.hid hs
    clear hs
    have z1 : (0 : Int) ≤ ((n - 1 : Nat) : Int) := by omega
    have z2 : ((n - 1 : Nat) : Int) ≤ 39 := by omega
    go_wp2_with fail
    have hF : findP (sameC xs ys) n = bisN (sameC xs ys) n (-1) ((n : Int) - 1) 1 := by unfold findP; rw [if_neg (by rw [HS.out]; simp)]
    have HF := Lib.hid hF
    clear hF
    go_loopw [10, 11] (fun lo hi wr => ∃ (l h q : Int) (f : Nat), lo = .int .i64 l ∧ hi = .int .i64 h ∧ -1 ≤ l ∧ l < h ∧ h ≤ 39 ∧ h < n ∧ h - l ≤ f ∧ f ≤ 40 ∧ 1 ≤ q ∧ q + f ≤ 90 ∧
        bisN (sameC xs ys) f l h q = bisN (sameC xs ys) n (-1) ((n : Int) - 1) 1 ∧ FW w (some ⟨b, off, none⟩) (some ⟨b', off', none⟩) n c d q wr) (fun lo hi _ => (intOf hi).toNat + 1 - (intOf lo + 1).toNat)
    case atStart => exact ⟨-1, (n : Int) - 1, 1, n, rfl, rfl, by omega, by omega, by omega, by omega, by omega, by omega, by omega, by omega, rfl, hf⟩
    case round =>
      obtain ⟨l, h, q, f, rfl, rfl, hl, hlh, hh, hhn, hff, hf40, hq, hqf, hbis, hfw⟩ := hrel
      have HB := Lib.hid hbis
      clear hbis
      by_cases hd : h ≤ l + 1
      · have g1 := hfw.asks
        go_wp2
        go_quiet (fail)
        go_wp2
        go_ret3
        have hB := HB.out
        rw [bisN_done _ _ _ _ _ hd] at hB
        rw [HF.out, ← hB]
        exact ⟨rfl, bel_drewN hfw.below _⟩
      · cases f with
        | zero => omega
        | succ f =>
          go_wp2_with fail
          rw [show (l + h) / 2 = ((l + (h - l) / 2).toNat : Int) by omega]
          refine (ASK.out (l + (h - l) / 2).toNat q _ (by omega) (by omega) (by omega) hfw).mono ?_
          rintro e wq ⟨rfl, hfq⟩
          have M1 : 0 ≤ (((l + (h - l) / 2).toNat : Nat) : Int) := Int.natCast_nonneg _
          have M2 := Lib.hid (show (((l + (h - l) / 2).toNat : Nat) : Int) = l + (h - l) / 2 by omega)
          cases hs : sameC xs ys (l + (h - l) / 2).toNat
          · have HM := Lib.hid hs
            clear hs
            go_wp2
            go_roundw
            case rel => exact ⟨l, l + (h - l) / 2, q + 1, f, rfl, by rw [show max (l + (h - l) / 2) 0 = l + (h - l) / 2 by omega], hl, by omega, by omega, by omega, by omega, by omega, by omega, by omega, (by rw [← bisN_no (sameC xs ys) f l h q (by omega) HM.out]; exact HB.out), hfq⟩
            case measure => have := M2.out; simp [intOf]; omega
          · have HM := Lib.hid hs
            clear hs
            go_wp2
            go_roundw
            case rel => exact ⟨l + (h - l) / 2, h, q + 1, f, by rw [show max (l + (h - l) / 2) 0 = l + (h - l) / 2 by omega], rfl, by omega, by omega, by omega, by omega, by omega, by omega, by omega, by omega, (by rw [← bisN_yes (sameC xs ys) f l h q (by omega) HM.out]; exact HB.out), hfq⟩
            case measure => have := M2.out; simp [intOf]; omega
  · have HS := Lib.hid hs
    clear hs
    have g1 := hf.asks
    go_wp2
    go_quiet (fail)
    go_wp2
    go_ret3
    have hF : findP (sameC xs ys) n = ((n : Int), 1) := by unfold findP; rw [if_pos HS.out]
    rw [hF]
    exact ⟨rfl, bel_drewN hf.below _⟩
end Go.Proofs.Ytcfmjpcbiomdbaa
