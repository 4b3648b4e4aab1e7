/- AuditTells: the walk, given what audit.Whole answers. -/
import Derived.Test.YtblkpibbcapdeaaBent
namespace Go.Proofs.Ytblkpibbcapdeaa
open Go.ChangeShapes Go.WideShapes Go.ChangeAt Go.RowKit Pl

/-- The first record that is not as it should be. -/
def FirstOff (n : Nat) (f g : Nat → Rec) (k : Nat) : Prop := k ≤ n ∧ (∀ j, j < k → sameR (f j) (g j) = true) ∧ (k < n → sameR (f k) (g k) = false)
theorem first_self {N k : Nat} {f : Nat → Rec} (h : FirstOff N f f k) : k = N := by
  obtain ⟨h1, _, h3⟩ := h
  rcases Nat.lt_or_ge k N with hk | hk
  · rw [sameR_self] at h3; exact absurd (h3 hk) (by simp)
  · omega
theorem first_bent {N k K : Nat} {f : Nat → Rec} {x : Rec} (hK : K < N) (h : FirstOff N (bentF f K x) f k) : (sameR x (f K) = true → k = N) ∧ (sameR x (f K) = false → k = K) := by
  obtain ⟨h1, h2, h3⟩ := h
  refine ⟨fun hs => ?_, fun hs => ?_⟩
  · have e := sameR_eq hs
    rcases Nat.lt_or_ge k N with hk | hk
    · have := h3 hk
      unfold bentF at this
      by_cases hkK : k = K
      · subst hkK; rw [if_pos rfl, hs] at this; cases this
      · rw [if_neg hkK, sameR_self] at this; cases this
    · omega
  · rcases Nat.lt_trichotomy k K with hk | hk | hk
    · have := h3 (by omega)
      unfold bentF at this
      rw [if_neg (by omega), sameR_self] at this
      cases this
    · exact hk
    · have := h2 K hk
      unfold bentF at this
      rw [if_pos rfl, hs] at this
      cases this
theorem sameB_one (x r : Rec) : sameB 1 1 [x] [r] = sameR x r := by
  unfold sameB
  simp [List.range_succ, recAt]
theorem recs_one {w : World} {g o k : Nat} {A : Option Addr} {x : Rec} (hg : g < w.heap.size) (h : RecAt w g o A k x) (hI : Ints .i64 w A x.batch.length x.batch) (h1 : x.batch.length ≤ k) (h2 : k ≤ maxLen) : RecsR w (some ⟨g, o, none⟩) 1 [x] :=
  ⟨rfl, fun _ => ⟨g, o, rfl, hg, fun j hj => by
    obtain rfl : j = 0 := by omega
    exact ⟨A, k, by show RecAt w g (o + 0 * 5) A k x; simpa using h, hI, h1, h2⟩⟩⟩

end Go.Proofs.Ytblkpibbcapdeaa
