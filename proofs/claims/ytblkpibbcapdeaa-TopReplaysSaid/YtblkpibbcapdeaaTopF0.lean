/- Records read, clones: what the laws of coachtop share. -/
import Derived.Test.YtblkpibbcapdeaaSaidT
import Derived.Test.YtblkpibbcapdeaaSpotJ
import Derived.Test.YtblkpibbcapdeaaArgR
import Derived.Test.YtblkpibbcapdeaaMixC
import Derived.BigQuiet
namespace Go.Proofs.Ytblkpibbcapdeaa
open Go.ChangeShapes Go.WideShapes Go.ChangeAt Go.RowKit Go.Sort Pl

theorem RecHeld.plain {m : Option Nat} {B : Nat} {f : Nat → Rec} {k : Nat} {A : Option Addr} {c : Nat} {w : World} (h : RecHeld m B f k (.slice A k c) w) : ∀ ad, A = some ad → ∃ b off, ad = ⟨b, off, none⟩ := by
  obtain ⟨vs, ho, _⟩ := h
  intro ad e
  subst e
  rcases ho.2 with ⟨hv, _⟩ | ⟨g, cap, cur, hv, _⟩
  · cases hv
  · injection hv with a _ _
    injection a with a
    exact ⟨g, 0, a⟩
theorem RecsR.pre {w : World} {A : Option Addr} {n k : Nat} {f : Nat → Rec} (h : RecsR w A n (upto f n)) (hk : k ≤ n) : RecsR w A k (upto f k) :=
  ⟨upto_length _ _, fun h0 => by
    obtain ⟨b, off, e, hb, hc⟩ := h.cells (by omega)
    refine ⟨b, off, e, hb, fun j hj => ?_⟩
    have h1 := hc j (by omega)
    rw [recAt_upto _ (by omega)] at h1 ⊢
    exact h1⟩
theorem RecsR.single {w : World} {b off n k : Nat} {f : Nat → Rec} (h : RecsR w (some ⟨b, off, none⟩) n (upto f n)) (hk : k < n) : RecsR w (some ⟨b, off + k * 5, none⟩) 1 [f k] := by
  obtain ⟨b', off', L, kk, e, hb, ha, hI, h1, h2⟩ := h.at hk
  cases e
  rw [recAt_upto _ hk] at ha hI h1
  exact recs_one hb ha hI h1 h2
theorem RecsR.at0 {w : World} {b n k : Nat} {f : Nat → Rec} (h : RecsR w (some ⟨b, 0, none⟩) n (upto f n)) (hk : k < n) : ∃ L q, RecAt w b (k * 5) L q (f k) ∧ Ints .i64 w L (f k).batch.length (f k).batch ∧ (f k).batch.length ≤ q ∧ q ≤ maxLen ∧ b < w.heap.size := by
  obtain ⟨b', off', L, kk, e, hb, ha, hI, h1, h2⟩ := h.at hk
  cases e
  rw [recAt_upto _ hk, Nat.zero_add] at ha
  rw [recAt_upto _ hk] at hI h1
  exact ⟨L, kk, ha, hI, h1, h2, hb⟩
theorem like_recN (c : Cfg) (ds : Data) (x : Rec) (k : Nat) : likeR x (recN c ds (states c ds k) k) = likeR x (recC c ds k) := by
  have e1 : (recN c ds (states c ds k) k).step = (recC c ds k).step := rfl
  have e2 : (recN c ds (states c ds k) k).batch = (recC c ds k).batch := rfl
  have e3 : (recN c ds (states c ds k) k).rate = (recC c ds k).rate := rfl
  have e4 : (recN c ds (states c ds k) k).root = (recC c ds k).root := by
    show rootS (nextS c ds (states c ds k) k) = rootS (states c ds (k + 1))
    rw [states_succ]
  unfold likeR
  rw [e1, e2, e3, e4]
theorem judge_first (c : Cfg) (ds : Data) (x : Rec) (k : Nat) : judgeN x (recC c ds k) (recN c ds (states c ds k) k) = if likeR x (recC c ds k) then 3 else 2 := by
  unfold judgeN
  rw [like_recN, like_recN, likeR_self]
  cases likeR x (recC c ds k) <;> rfl

end Go.Proofs.Ytblkpibbcapdeaa
