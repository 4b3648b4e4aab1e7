/- What spot.Opens and spot.Chunk answer, right or wrong, as total functions. Walks. -/
import Derived.Test.YtblkpibbcapdeaaTreeS
import Derived.Test.YtblkpibbcapdeaaPupD
namespace Go.Proofs.Ytblkpibbcapdeaa
open Go.RowKit Pl

def opensE (i n : Int) (L m : Nat) : Int := if climbE i n L ≠ 0 then climbE i n L else if (m : Int) ≠ min 4 (n - 4 * i) then 5 else 0
def opensO (root i n : Int) (chunk path : List Int) : Bool := decide (opensE i n path.length chunk.length = 0) && (climbO i n (at0 (leavesI chunk) 0) path == root % 2305843009213693951)
theorem climbE_ok {i n : Int} {L : Nat} (h : climbE i n L = 0) : climbB i n ∧ L = deepP i.toNat ((n.toNat + 3) / 4) := by
  unfold climbE at h
  by_cases hb : climbB i n
  · rw [if_pos hb] at h
    by_cases hL : L = deepP i.toNat ((n.toNat + 3) / 4)
    · exact ⟨hb, hL⟩
    · rw [if_neg hL] at h; omega
  · rw [if_neg hb] at h; omega


theorem own_le {w : World} {base n c : Nat} {e : TypeId} {A : Option Addr} {xs : List Value} (h : w.ownsRow base e 1 (.slice A n c) n xs) : n ≤ c := by
  rcases h.2 with ⟨hv, h0⟩ | ⟨g, cap, cur, hv, _, _, h1, _⟩
  · omega
  · injection hv with _ _ hc; omega
/-- The numbers of chunk i, where there is one. -/
def chunkO (xs : List Int) (i : Int) : List Int := if pathE xs.length i = 0 then (xs.drop (4 * i.toNat)).take 4 else []
theorem chunkO_len (xs : List Int) (i : Int) : (chunkO xs i).length ≤ 4 := by
  unfold chunkO; split
  · rw [List.length_take]; omega
  · simp
theorem pathE_ok {n : Nat} {i : Int} (h : pathE n i = 0) : (1 ≤ n ∧ n ≤ 200) ∧ 0 ≤ i ∧ i ≤ (((n + 3) / 4 : Nat) : Int) - 1 := by
  unfold pathE at h
  by_cases h0 : lvE n = 0
  · rw [if_neg (by simp [h0])] at h
    by_cases hI : inB i 0 (((n + 3) / 4 : Nat) - 1 : Int) = true
    · exact ⟨lvE_ok h0, inB_iffT.1 hI⟩
    · rw [if_neg hI] at h; omega
  · rw [if_pos h0] at h; exact absurd h h0
/-- Two lists beside an error. -/
def ChunkRes (w : World) (cs ps : List Int) (x : Int) (e : Ending) (w' : World) : Prop :=
  ∃ S s T t, e = .returned (.tuple #[.slice S cs.length s, .slice T ps.length t, .int .i64 x]) ∧ Ints .i64 w' S cs.length cs ∧ Ints .u64 w' T ps.length ps ∧ Below w.heap.size w w'

/-- The same, the chunk's room told too. -/
def ChunkCap (w : World) (cs ps : List Int) (x : Int) (e : Ending) (w' : World) : Prop :=
  ∃ S s T t, e = .returned (.tuple #[.slice S cs.length s, .slice T ps.length t, .int .i64 x]) ∧ Ints .i64 w' S cs.length cs ∧ Ints .u64 w' T ps.length ps ∧ Below w.heap.size w w' ∧ cs.length ≤ s
theorem ChunkCap.res {w : World} {cs ps : List Int} {x : Int} {e : Ending} {w' : World} (h : ChunkCap w cs ps x e w') : ChunkRes w cs ps x e w' := by
  obtain ⟨S, s, T, t, h1, h2, h3, h4, _⟩ := h
  exact ⟨S, s, T, t, h1, h2, h3, h4⟩

end Go.Proofs.Ytblkpibbcapdeaa
