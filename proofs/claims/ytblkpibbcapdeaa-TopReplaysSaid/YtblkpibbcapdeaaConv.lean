/- Chained records, plainly: two well chained runs with one last chain tell unlike words of which the same is made, or are alike by the prime. -/
import Derived.Test.YtblkpibbcapdeaaMixC
import Derived.Test.YtblkpibbcapdeaaBindL
namespace Go.Proofs.Ytblkpibbcapdeaa
open Go.RowKit Pl

def modW (xs : List Int) : List Int := xs.map (· % 2305843009213693951)
theorem modW_length (xs : List Int) : (modW xs).length = xs.length := List.length_map _
theorem nats_modW {xs : List Int} (h : ∀ x ∈ xs, 0 ≤ x) : nats (modW xs) = (nats xs).map (· % P61) := by
  unfold nats modW
  rw [List.map_map, List.map_map]
  refine List.map_congr_left fun x hx => ?_
  have := h x hx
  show (x % 2305843009213693951).toNat = x.toNat % 2305843009213693951
  omega
theorem ofI_modW {kind : Int} {xs : List Int} (h : ∀ x ∈ xs, 0 ≤ x) : ofI kind (modW xs) = ofI kind xs := by
  unfold ofI
  rw [nats_modW h, ofP_mod]
/-- A record's words, by the prime. -/
def wordsI (before : Int) (r : Rec) : List Int := modW (chW before r)
theorem wordsI_length (before : Int) (r : Rec) : (wordsI before r).length = 5 + r.batch.length := by unfold wordsI; rw [modW_length, chW_len]
theorem wordsI_chain (y : Int) (r : Rec) (x : Int) : wordsI y { r with chain := x } = wordsI y r := rfl
def chainX (head : Int) (f : Nat → Rec) : Nat → Int
  | 0 => head
  | k + 1 => ofI 6 (chW (chainX head f k) (f k))
def chainF (head : Int) (f : Nat → Rec) (k : Nat) : Rec := { f k with chain := chainX head f (k + 1) }
theorem chainX_chainF (head : Int) (f : Nat → Rec) : ∀ k, chainX head (chainF head f) k = chainX head f k
  | 0 => rfl
  | k + 1 => by
    show ofI 6 (chW (chainX head (chainF head f) k) (chainF head f k)) = ofI 6 (chW (chainX head f k) (f k))
    rw [chainX_chainF head f k]
    rfl
theorem chainX_congr {head : Int} {f g : Nat → Rec} {n : Nat} (h : ∀ j, j < n → chW 0 (f j) = chW 0 (g j)) : ∀ k, k ≤ n → chainX head f k = chainX head g k
  | 0, _ => rfl
  | k + 1, hk => by
    have e := chainX_congr (head := head) h k (by omega)
    have e2 : ∀ x, chW x (f k) = chW x (g k) := fun x => by
      have h3 := h k (by omega)
      unfold chW at h3 ⊢
      simp only [List.cons.injEq, true_and] at h3 ⊢
      exact h3
    show ofI 6 (chW (chainX head f k) (f k)) = ofI 6 (chW (chainX head g k) (g k))
    rw [e, e2]
theorem chainX_lo {head : Int} (h : 0 ≤ head) (f : Nat → Rec) : ∀ k, 0 ≤ chainX head f k
  | 0 => h
  | _ + 1 => ofI_lo _ _
theorem chainX_hi {head : Int} (h : head < 18446744073709551616) (f : Nat → Rec) : ∀ k, chainX head f k < 18446744073709551616
  | 0 => h
  | k + 1 => by have := ofI_hi 6 (chW (chainX head f k) (f k)); show ofI 6 _ < _; omega
theorem chW_pos {x : Int} {r : Rec} (h0 : 0 ≤ x) (hE : chE r = 0) (hr : 0 ≤ r.root) : ∀ z ∈ chW x r, 0 ≤ z := by
  obtain ⟨e1, e2, e3, e4⟩ := chE_ok hE
  intro z hz
  unfold chW at hz
  simp only [List.mem_cons] at hz
  rcases hz with rfl | rfl | rfl | rfl | rfl | hz
  · exact h0
  · exact e1
  · exact e2
  · exact hr
  · omega
  · rw [List.all_eq_true] at e4
    simpa using e4 z hz
theorem chainX_words {head : Int} (h0 : 0 ≤ head) {f : Nat → Rec} {k : Nat} (hE : chE (f k) = 0) (hr : 0 ≤ (f k).root) : ofI 6 (wordsI (chainX head f k) (f k)) = chainX head f (k + 1) :=
  ofI_modW (chW_pos (chainX_lo h0 f k) hE hr)

/-- Do they tell, at k, unlike words of which the same is made? -/
def collK (head : Int) (f g : Nat → Rec) (k : Nat) : Bool := !decide (wordsI (chainX head f k) (f k) = wordsI (chainX head g k) (g k)) && (chainX head f (k + 1) == chainX head g (k + 1))
def collB (head : Int) (f g : Nat → Rec) (n : Nat) : Bool := (List.range n).any (collK head f g)
def alikeB (f g : Nat → Rec) (n : Nat) : Bool := (List.range n).all fun k => decide (wordsI 0 (f k) = wordsI 0 (g k))
theorem words_apart {x y : Int} {r s : Rec} (h : wordsI x r = wordsI y s) : x % 2305843009213693951 = y % 2305843009213693951 ∧ wordsI 0 r = wordsI 0 s := by
  unfold wordsI modW chW at h ⊢
  simp only [List.map_cons, List.cons.injEq] at h ⊢
  exact ⟨h.1, trivial, h.2⟩
/-- One last chain: unlike words of which the same is made, or all alike. -/
theorem coll_or_alike {head : Int} {f g : Nat → Rec} : ∀ n, chainX head f n = chainX head g n → collB head f g n = true ∨ alikeB f g n = true
  | 0, _ => .inr rfl
  | n + 1, h => by
    have up : ∀ b, collB head f g (n + 1) = b → (collB head f g n || collK head f g n) = b := fun b e => by
      rw [← e]; unfold collB; rw [List.range_succ, List.any_append]; simp
    have up2 : alikeB f g (n + 1) = (alikeB f g n && decide (wordsI 0 (f n) = wordsI 0 (g n))) := by
      unfold alikeB; rw [List.range_succ, List.all_append]; simp
    by_cases hw : wordsI (chainX head f n) (f n) = wordsI (chainX head g n) (g n)
    · obtain ⟨h1, h2⟩ := words_apart hw
      have h3 : chainX head f n = chainX head g n := by
        cases n with
        | zero => rfl
        | succ m =>
          have a0 := ofI_lo 6 (chW (chainX head f m) (f m))
          have a1 := ofI_hi 6 (chW (chainX head f m) (f m))
          have b0 := ofI_lo 6 (chW (chainX head g m) (g m))
          have b1 := ofI_hi 6 (chW (chainX head g m) (g m))
          have e1 : chainX head f (m + 1) = ofI 6 (chW (chainX head f m) (f m)) := rfl
          have e2 : chainX head g (m + 1) = ofI 6 (chW (chainX head g m) (g m)) := rfl
          rw [e1, e2] at h1 ⊢
          omega
      rcases coll_or_alike n h3 with h4 | h4
      · left
        rw [← up _ rfl, h4]
        rfl
      · right
        rw [up2, h4, decide_eq_true h2]
        rfl
    · left
      have : collK head f g n = true := by
        unfold collK
        rw [decide_eq_false hw, h]
        simp
      rw [← up _ rfl, this]
      simp
theorem collB_false {head : Int} {f g : Nat → Rec} {n : Nat} (h : ∀ k, k < n → collK head f g k = false) : collB head f g n = false := by
  unfold collB
  rw [List.any_eq_false]
  intro k hk
  rw [h k (List.mem_range.1 hk)]
  simp
theorem collB_true {head : Int} {f g : Nat → Rec} {n k : Nat} (hk : k < n) (h : collK head f g k = true) : collB head f g n = true := by
  unfold collB
  rw [List.any_eq_true]
  exact ⟨k, List.mem_range.2 hk, h⟩
theorem alikeB_true {f g : Nat → Rec} {n : Nat} (h : ∀ k, k < n → wordsI 0 (f k) = wordsI 0 (g k)) : alikeB f g n = true := by
  unfold alikeB
  rw [List.all_eq_true]
  intro k hk
  exact decide_eq_true (h k (List.mem_range.1 hk))
theorem alikeB_false {f g : Nat → Rec} {n k : Nat} (hk : k < n) (h : wordsI 0 (f k) ≠ wordsI 0 (g k)) : alikeB f g n = false := by
  cases e : alikeB f g n
  · rfl
  · unfold alikeB at e
    rw [List.all_eq_true] at e
    exact absurd (of_decide_eq_true (e k (List.mem_range.2 hk))) h
/-- The course's own journal is well chained. -/
theorem chainX_course (c : Cfg) (ds : Data) : ∀ k, chainX (headI c ds) (recC c ds) k = chainC c ds k
  | 0 => rfl
  | k + 1 => by
    show ofI 6 (chW (chainX (headI c ds) (recC c ds) k) (recC c ds k)) = chainC c ds (k + 1)
    rw [chainX_course c ds k, chW_recC]
    rfl
theorem like_words {r s : Rec} (h : likeR r s = true) (x : Int) : chW x r = chW x s := by
  simp only [likeR, Bool.and_eq_true, beq_iff_eq, decide_eq_true_eq] at h
  obtain ⟨⟨⟨h1, h2⟩, h3⟩, h4⟩ := h
  unfold chW
  rw [h1, h2, h3, h4]
/-- Where the chains part first, the records part. -/
theorem part_first {head : Int} {f g : Nat → Rec} {k : Nat} (h0 : k = 0 ∨ chainX head f k = chainX head g k) (h1 : chainX head f (k + 1) ≠ chainX head g (k + 1)) : likeR (f k) (g k) = false := by
  cases e : likeR (f k) (g k)
  · rfl
  · refine absurd ?_ h1
    have h2 : chainX head f k = chainX head g k := by
      rcases h0 with rfl | h0
      · rfl
      · exact h0
    show ofI 6 (chW (chainX head f k) (f k)) = ofI 6 (chW (chainX head g k) (g k))
    rw [h2, like_words e]
theorem likeR_chain (r : Rec) (s : Rec) (x : Int) : likeR r { s with chain := x } = likeR r s := rfl
end Go.Proofs.Ytblkpibbcapdeaa

/- coachtop.words: a walk. -/
namespace Go.Proofs.Ytblkpibbcapdeaa
open Go.RowKit Pl

theorem words_made (before : Int) (r : Rec) (n : Nat) (hl : r.batch.length = n) (hn : n ≤ 8) : [before % 2305843009213693951, r.step % 2305843009213693951, r.rate % 2305843009213693951, r.root % 2305843009213693951, (n : Int)] ++ upto (fun j => at0 r.batch j % 2305843009213693951) n = wordsI before r := by
  unfold wordsI modW chW
  have e : (r.batch.map (· % 2305843009213693951)) = upto (fun j => at0 r.batch j % 2305843009213693951) n := by
    conv => lhs; rw [← upto_at0 r.batch]
    unfold upto
    rw [List.map_map, hl]
    rfl
  simp only [List.map_cons]
  rw [e, hl]
  have : (n : Int) % 2305843009213693951 = n := by omega
  rw [this]
  rfl
theorem modW_u64 (xs : List Int) : U64 (modW xs) := by
  refine U64.of_all fun x hx => ?_
  unfold modW at hx
  obtain ⟨y, _, rfl⟩ := List.mem_map.1 hx
  omega

end Go.Proofs.Ytblkpibbcapdeaa

/- coachtop.chained: a walk. -/
namespace Go.Proofs.Ytblkpibbcapdeaa
open Go.ChangeShapes Go.WideShapes Go.ChangeAt Go.RowKit Pl

/-- A record's numbers are within the machine's. -/
def RecB (r : Rec) : Prop := r.step < 9223372036854775808 ∧ r.rate < 9223372036854775808 ∧ 0 ≤ r.root ∧ r.root < 18446744073709551616 ∧ ∀ z ∈ r.batch, z < 9223372036854775808

def chF (f : Nat → Rec) (K : Nat) (v : Int) (j : Nat) : Rec := if j = K then { f K with chain := v } else f j
theorem chF_at (f : Nat → Rec) (K : Nat) (v : Int) : chF f K v K = { f K with chain := v } := if_pos rfl
theorem chF_far {f : Nat → Rec} {K j : Nat} (v : Int) (h : j ≠ K) : chF f K v j = f j := if_neg h
theorem RunR.chain {y : World} {g N K : Nat} {f : Nat → Rec} (h : RunR y g N f) (hK : K < N) (v : Int) :
    RunR (y.setCell ⟨g, K * 5 + 4, none⟩ (.int .u64 v)) g N (chF f K v) ∧ But g y (y.setCell ⟨g, K * 5 + 4, none⟩ (.int .u64 v)) := by
  have hBt := (But.refl g y).put (K * 5 + 4) (.int .u64 v)
  obtain ⟨cur, hB, hs, hp⟩ := h
  have hB5 := hB.put (K * 5 + 4) (.int .u64 v)
  have keepI : ∀ {L : Option Addr} {n : Nat} {xs : List Int}, Ints .i64 y L n xs → (∀ b off, L = some ⟨b, off, none⟩ → 0 < n → b ≠ g) → Ints .i64 (y.setCell ⟨g, K * 5 + 4, none⟩ (.int .u64 v)) L n xs := fun hI' hn' => ⟨hI'.len, fun hn => by
    obtain ⟨b, off, e, hb, hc⟩ := hI'.cells hn
    exact ⟨b, off, e, Nat.lt_of_lt_of_le hb hBt.size, fun i hi => (World.cell?_of_block (a := ⟨b, off + i, none⟩) (hBt.block b hb (hn' b off e hn))).trans (hc i hi)⟩⟩
  refine ⟨⟨_, hB5, by simpa using hs, fun j hj => ?_⟩, hBt⟩
  obtain ⟨L, kk, ⟨q0, q1, q2, q3, q4⟩, hI', hn', l1, l2⟩ := hp j hj
  have far : ∀ i, K * 5 + 4 ≠ j * 5 + i → (cur.setIfInBounds (K * 5 + 4) (.int .u64 v))[j * 5 + i]? = cur[j * 5 + i]? := fun i hi => Array.getElem?_setIfInBounds_ne hi
  by_cases hjK : j = K
  · subst hjK
    rw [chF_at]
    refine ⟨L, kk, ⟨(far 0 (by omega)).trans q0, (far 1 (by omega)).trans q1, (far 2 (by omega)).trans q2, (far 3 (by omega)).trans q3, ?_⟩, keepI hI' hn', hn', l1, l2⟩
    simp [Array.getElem?_setIfInBounds]
    omega
  · rw [chF_far v hjK]
    exact ⟨L, kk, ⟨(far 0 (by omega)).trans q0, (far 1 (by omega)).trans q1, (far 2 (by omega)).trans q2, (far 3 (by omega)).trans q3, (far 4 (by omega)).trans q4⟩, keepI hI' hn', hn', l1, l2⟩
/-- The first q of them chained. -/
def mixC (head : Int) (f : Nat → Rec) (q j : Nat) : Rec := if j < q then chainF head f j else f j
theorem mixC_zero (head : Int) (f : Nat → Rec) : mixC head f 0 = f := by funext j; exact if_neg (by omega)
theorem mixC_at (head : Int) (f : Nat → Rec) (q : Nat) : mixC head f q q = f q := if_neg (by omega)
theorem mixC_succ (head : Int) (f : Nat → Rec) (q : Nat) : chF (mixC head f q) q (chainX head f (q + 1)) = mixC head f (q + 1) := by
  funext j
  unfold chF mixC
  by_cases h : j = q
  · subst h
    rw [if_pos rfl, if_neg (by omega), if_pos (by omega)]
    rfl
  · rw [if_neg h]
    by_cases h2 : j < q
    · rw [if_pos h2, if_pos (by omega)]
    · rw [if_neg h2, if_neg (by omega)]
theorem mixC_end {head : Int} {f : Nat → Rec} {n j : Nat} (h : j < n) : mixC head f n j = chainF head f j := if_pos h

end Go.Proofs.Ytblkpibbcapdeaa

/- coachtop.collide, alike: walks. -/
namespace Go.Proofs.Ytblkpibbcapdeaa
open Go.ChangeShapes Go.WideShapes Go.ChangeAt Go.RowKit Pl

theorem of_words (before : Int) (r : Rec) (A : Option Addr) (c : Nat) (W : World) (hl : r.batch.length ≤ 8) (hx : Ints .u64 W A (5 + r.batch.length) (wordsI before r)) :
    Calls Try.prog 32 #[.int .u64 6, .slice A (5 + r.batch.length) c] W fun e w' => e = .returned (.tuple #[.int .u64 (ofI 6 (wordsI before r)), .int .i64 0]) ∧ Below W.heap.size W w' :=
  of_fine 6 (wordsI before r) (5 + r.batch.length) (wordsI_length _ _) (by omega) (by omega) (by omega) (modW_u64 _) A c W hx
def Good (r : Rec) : Prop := chE r = 0 ∧ RecB r
end Go.Proofs.Ytblkpibbcapdeaa
