/- Chained records, plainly: two well chained runs with one last chain tell unlike words of which the same is made, or are alike by the prime. -/
import Derived.Test.YtcfmjpcbiomdbaaMixC
import Derived.Test.YtcfmjpcbiomdbaaBindL
namespace Go.Proofs.Ytcfmjpcbiomdbaa
open Go.RowKit Pl

def modW (xs : List Int) : List Int := xs.map (· % 2305843009213693951)
theorem modW_length (xs : List Int) : (modW xs).length = xs.length := List.length_map _
theorem nats_modW {xs : List Int} (h : ∀ x ∈ xs, 0 ≤ x) : nats (modW xs) = (nats xs).map (· % P61) := by
  unfold nats modW
  rw [List.map_map, List.map_map]
  refine List.map_congr_left fun x hx => ?_
  have := h x hx
  show (x % 2305843009213693951).toNat = x.toNat % 2305843009213693951
  omega
theorem ofI_modW {kind : Int} {xs : List Int} (h : ∀ x ∈ xs, 0 ≤ x) : ofI kind (modW xs) = ofI kind xs := by
  unfold ofI
  rw [nats_modW h, ofP_mod]
/-- A record's words, by the prime. -/
def wordsI (before : Int) (r : Rec) : List Int := modW (chW before r)
theorem wordsI_length (before : Int) (r : Rec) : (wordsI before r).length = 5 + r.batch.length := by unfold wordsI; rw [modW_length, chW_len]
theorem wordsI_chain (y : Int) (r : Rec) (x : Int) : wordsI y { r with chain := x } = wordsI y r := rfl
def chainX (head : Int) (f : Nat → Rec) : Nat → Int
  | 0 => head
  | k + 1 => ofI 6 (chW (chainX head f k) (f k))
def chainF (head : Int) (f : Nat → Rec) (k : Nat) : Rec := { f k with chain := chainX head f (k + 1) }
theorem chainX_chainF (head : Int) (f : Nat → Rec) : ∀ k, chainX head (chainF head f) k = chainX head f k
  | 0 => rfl
  | k + 1 => by
    show ofI 6 (chW (chainX head (chainF head f) k) (chainF head f k)) = ofI 6 (chW (chainX head f k) (f k))
    rw [chainX_chainF head f k]
    rfl
theorem chainX_congr {head : Int} {f g : Nat → Rec} {n : Nat} (h : ∀ j, j < n → chW 0 (f j) = chW 0 (g j)) : ∀ k, k ≤ n → chainX head f k = chainX head g k
  | 0, _ => rfl
  | k + 1, hk => by
    have e := chainX_congr (head := head) h k (by omega)
    have e2 : ∀ x, chW x (f k) = chW x (g k) := fun x => by
      have h3 := h k (by omega)
      unfold chW at h3 ⊢
      simp only [List.cons.injEq, true_and] at h3 ⊢
      exact h3
    show ofI 6 (chW (chainX head f k) (f k)) = ofI 6 (chW (chainX head g k) (g k))
    rw [e, e2]
theorem chainX_lo {head : Int} (h : 0 ≤ head) (f : Nat → Rec) : ∀ k, 0 ≤ chainX head f k
  | 0 => h
  | _ + 1 => ofI_lo _ _
theorem chainX_hi {head : Int} (h : head < 18446744073709551616) (f : Nat → Rec) : ∀ k, chainX head f k < 18446744073709551616
  | 0 => h
  | k + 1 => by have := ofI_hi 6 (chW (chainX head f k) (f k)); show ofI 6 _ < _; omega
theorem chW_pos {x : Int} {r : Rec} (h0 : 0 ≤ x) (hE : chE r = 0) (hr : 0 ≤ r.root) : ∀ z ∈ chW x r, 0 ≤ z := by
  obtain ⟨e1, e2, e3, e4⟩ := chE_ok hE
  intro z hz
  unfold chW at hz
  simp only [List.mem_cons] at hz
  rcases hz with rfl | rfl | rfl | rfl | rfl | hz
  · exact h0
  · exact e1
  · exact e2
  · exact hr
  · omega
  · rw [List.all_eq_true] at e4
    simpa using e4 z hz
theorem chainX_words {head : Int} (h0 : 0 ≤ head) {f : Nat → Rec} {k : Nat} (hE : chE (f k) = 0) (hr : 0 ≤ (f k).root) : ofI 6 (wordsI (chainX head f k) (f k)) = chainX head f (k + 1) :=
  ofI_modW (chW_pos (chainX_lo h0 f k) hE hr)

/-- Do they tell, at k, unlike words of which the same is made? -/
def collK (head : Int) (f g : Nat → Rec) (k : Nat) : Bool := !decide (wordsI (chainX head f k) (f k) = wordsI (chainX head g k) (g k)) && (chainX head f (k + 1) == chainX head g (k + 1))
def collB (head : Int) (f g : Nat → Rec) (n : Nat) : Bool := (List.range n).any (collK head f g)
def alikeB (f g : Nat → Rec) (n : Nat) : Bool := (List.range n).all fun k => decide (wordsI 0 (f k) = wordsI 0 (g k))
theorem words_apart {x y : Int} {r s : Rec} (h : wordsI x r = wordsI y s) : x % 2305843009213693951 = y % 2305843009213693951 ∧ wordsI 0 r = wordsI 0 s := by
  unfold wordsI modW chW at h ⊢
  simp only [List.map_cons, List.cons.injEq] at h ⊢
  exact ⟨h.1, trivial, h.2⟩
/-- One last chain: unlike words of which the same is made, or all alike. -/
theorem coll_or_alike {head : Int} {f g : Nat → Rec} : ∀ n, chainX head f n = chainX head g n → collB head f g n = true ∨ alikeB f g n = true
  | 0, _ => .inr rfl
  | n + 1, h => by
    have up : ∀ b, collB head f g (n + 1) = b → (collB head f g n || collK head f g n) = b := fun b e => by
      rw [← e]; unfold collB; rw [List.range_succ, List.any_append]; simp
    have up2 : alikeB f g (n + 1) = (alikeB f g n && decide (wordsI 0 (f n) = wordsI 0 (g n))) := by
      unfold alikeB; rw [List.range_succ, List.all_append]; simp
    by_cases hw : wordsI (chainX head f n) (f n) = wordsI (chainX head g n) (g n)
    · obtain ⟨h1, h2⟩ := words_apart hw
      have h3 : chainX head f n = chainX head g n := by
        cases n with
        | zero => rfl
        | succ m =>
          have a0 := ofI_lo 6 (chW (chainX head f m) (f m))
          have a1 := ofI_hi 6 (chW (chainX head f m) (f m))
          have b0 := ofI_lo 6 (chW (chainX head g m) (g m))
          have b1 := ofI_hi 6 (chW (chainX head g m) (g m))
          have e1 : chainX head f (m + 1) = ofI 6 (chW (chainX head f m) (f m)) := rfl
          have e2 : chainX head g (m + 1) = ofI 6 (chW (chainX head g m) (g m)) := rfl
          rw [e1, e2] at h1 ⊢
          omega
      rcases coll_or_alike n h3 with h4 | h4
      · left
        rw [← up _ rfl, h4]
        rfl
      · right
        rw [up2, h4, decide_eq_true h2]
        rfl
    · left
      have : collK head f g n = true := by
        unfold collK
        rw [decide_eq_false hw, h]
        simp
      rw [← up _ rfl, this]
      simp
theorem collB_false {head : Int} {f g : Nat → Rec} {n : Nat} (h : ∀ k, k < n → collK head f g k = false) : collB head f g n = false := by
  unfold collB
  rw [List.any_eq_false]
  intro k hk
  rw [h k (List.mem_range.1 hk)]
  simp
theorem collB_true {head : Int} {f g : Nat → Rec} {n k : Nat} (hk : k < n) (h : collK head f g k = true) : collB head f g n = true := by
  unfold collB
  rw [List.any_eq_true]
  exact ⟨k, List.mem_range.2 hk, h⟩
theorem alikeB_true {f g : Nat → Rec} {n : Nat} (h : ∀ k, k < n → wordsI 0 (f k) = wordsI 0 (g k)) : alikeB f g n = true := by
  unfold alikeB
  rw [List.all_eq_true]
  intro k hk
  exact decide_eq_true (h k (List.mem_range.1 hk))
theorem alikeB_false {f g : Nat → Rec} {n k : Nat} (hk : k < n) (h : wordsI 0 (f k) ≠ wordsI 0 (g k)) : alikeB f g n = false := by
  cases e : alikeB f g n
  · rfl
  · unfold alikeB at e
    rw [List.all_eq_true] at e
    exact absurd (of_decide_eq_true (e k (List.mem_range.2 hk))) h
/-- The course's own journal is well chained. -/
theorem chainX_course (c : Cfg) (ds : Data) : ∀ k, chainX (headI c ds) (recC c ds) k = chainC c ds k
  | 0 => rfl
  | k + 1 => by
    show ofI 6 (chW (chainX (headI c ds) (recC c ds) k) (recC c ds k)) = chainC c ds (k + 1)
    rw [chainX_course c ds k, chW_recC]
    rfl
theorem like_words {r s : Rec} (h : likeR r s = true) (x : Int) : chW x r = chW x s := by
  simp only [likeR, Bool.and_eq_true, beq_iff_eq, decide_eq_true_eq] at h
  obtain ⟨⟨⟨h1, h2⟩, h3⟩, h4⟩ := h
  unfold chW
  rw [h1, h2, h3, h4]
/-- Where the chains part first, the records part. -/
theorem part_first {head : Int} {f g : Nat → Rec} {k : Nat} (h0 : k = 0 ∨ chainX head f k = chainX head g k) (h1 : chainX head f (k + 1) ≠ chainX head g (k + 1)) : likeR (f k) (g k) = false := by
  cases e : likeR (f k) (g k)
  · rfl
  · refine absurd ?_ h1
    have h2 : chainX head f k = chainX head g k := by
      rcases h0 with rfl | h0
      · rfl
      · exact h0
    show ofI 6 (chW (chainX head f k) (f k)) = ofI 6 (chW (chainX head g k) (g k))
    rw [h2, like_words e]
theorem likeR_chain (r : Rec) (s : Rec) (x : Int) : likeR r { s with chain := x } = likeR r s := rfl
end Go.Proofs.Ytcfmjpcbiomdbaa

/- coachtop.words: a walk. -/
namespace Go.Proofs.Ytcfmjpcbiomdbaa
open Go.RowKit Pl

theorem words_made (before : Int) (r : Rec) (n : Nat) (hl : r.batch.length = n) (hn : n ≤ 8) : [before % 2305843009213693951, r.step % 2305843009213693951, r.rate % 2305843009213693951, r.root % 2305843009213693951, (n : Int)] ++ upto (fun j => at0 r.batch j % 2305843009213693951) n = wordsI before r := by
  unfold wordsI modW chW
  have e : (r.batch.map (· % 2305843009213693951)) = upto (fun j => at0 r.batch j % 2305843009213693951) n := by
    conv => lhs; rw [← upto_at0 r.batch]
    unfold upto
    rw [List.map_map, hl]
    rfl
  simp only [List.map_cons]
  rw [e, hl]
  have : (n : Int) % 2305843009213693951 = n := by omega
  rw [this]
  rfl
theorem modW_u64 (xs : List Int) : U64 (modW xs) := by
  refine U64.of_all fun x hx => ?_
  unfold modW at hx
  obtain ⟨y, _, rfl⟩ := List.mem_map.1 hx
  omega

set_option maxRecDepth 100000 in
set_option maxHeartbeats 4000000 in
theorem top_words (before : Int) (r : Rec) (A : Option Addr) (n k : Nat) (w : World) (hx : Ints .i64 w A n r.batch) (hE : chE r = 0) (b0 : 0 ≤ before) (s1 : r.step < 9223372036854775808) (r1 : r.rate < 9223372036854775808)
    (t0 : 0 ≤ r.root) (z1 : ∀ z ∈ r.batch, z < 9223372036854775808) :
    Calls Try.prog 61 #[.int .u64 before, .agg #[.int .i64 r.step, .slice A n k, .int .i64 r.rate, .int .u64 r.root, .int .u64 r.chain]] w fun e w' => ∃ g c, e = .returned (.slice (some ⟨g, 0, none⟩) (5 + n) c) ∧ w'.ownsRow w.heap.size 22 1 (.slice (some ⟨g, 0, none⟩) (5 + n) c) (5 + n) ((wordsI before r).map (.int .u64)) ∧ Below w.heap.size w w' := by
  obtain ⟨i0, hi0, hz0, hz1, hz2⟩ := info_parts u64_info
  obtain ⟨e1, e2, e3, e4⟩ := chE_ok hE
  have hl := hx.len
  have hn8 : n ≤ 8 := by omega
  have HNN := Lib.hid (fun j (hj : j < n) => show 0 ≤ at0 r.batch j ∧ at0 r.batch j < 9223372036854775808 from by
    have hm : at0 r.batch j ∈ r.batch := by rw [at0_getElem _ _ (by omega)]; exact List.getElem_mem _
    exact ⟨by rw [List.all_eq_true] at e4; simpa using e4 _ hm, z1 _ hm⟩)
  have HW := Lib.hid (words_made before r n hl hn8)
  have w1 : IntKind.u64.wrap r.step = r.step := wrap_u64_in (by omega) (by omega)
  have w2 : IntKind.u64.wrap r.rate = r.rate := wrap_u64_in (by omega) (by omega)
  have w3 : IntKind.u64.wrap (n : Int) = (n : Int) := wrap_u64_in (by omega) (by omega)
  have m0 : before.tmod 2305843009213693951 = before % 2305843009213693951 := Int.tmod_eq_emod_of_nonneg b0
  have m1 : r.step.tmod 2305843009213693951 = r.step % 2305843009213693951 := Int.tmod_eq_emod_of_nonneg e1
  have m2 : r.rate.tmod 2305843009213693951 = r.rate % 2305843009213693951 := Int.tmod_eq_emod_of_nonneg e2
  have m3 : r.root.tmod 2305843009213693951 = r.root % 2305843009213693951 := Int.tmod_eq_emod_of_nonneg t0
  have HB := Blk.made w 30 #[.int .i64 r.step, .slice A n k, .int .i64 r.rate, .int .u64 r.root, .int .u64 r.chain]
  have hbw : Below w.heap.size w (w.alloc (.cells #[.int .i64 r.step, .slice A n k, .int .i64 r.rate, .int .u64 r.root, .int .u64 r.chain] 30)) := (Below.refl _ _).alloc (Nat.le_refl _) _
  obtain ⟨x1, hX⟩ : ∃ x, x = w.alloc (.cells #[.int .i64 r.step, .slice A n k, .int .i64 r.rate, .int .u64 r.root, .int .u64 r.chain] 30) := ⟨_, rfl⟩
  rw [← hX] at HB hbw
  have HX := Lib.hid hX
  have hlx := HB.lt
  obtain ⟨p0, hp0⟩ : ∃ p, p = before % 2305843009213693951 := ⟨_, rfl⟩
  obtain ⟨p1, hp1⟩ : ∃ p, p = r.step % 2305843009213693951 := ⟨_, rfl⟩
  obtain ⟨p2, hp2⟩ : ∃ p, p = r.rate % 2305843009213693951 := ⟨_, rfl⟩
  obtain ⟨p3, hp3⟩ : ∃ p, p = r.root % 2305843009213693951 := ⟨_, rfl⟩
  rw [← hp0] at m0 HW
  rw [← hp1] at m1 HW
  rw [← hp2] at m2 HW
  rw [← hp3] at m3 HW
  have HP0 := Lib.hid hp0
  have HP1 := Lib.hid hp1
  have HP2 := Lib.hid hp2
  have HP3 := Lib.hid hp3
  have O0 : (x1.alloc (.cells #[.int .u64 p0, .int .u64 p1, .int .u64 p2, .int .u64 p3, .int .u64 n] 22)).ownsRow (w.heap.size + 1) 22 1 (.slice (some ⟨x1.heap.size, 0, none⟩) 5 5) 5 ([p0, p1, p2, p3, (n : Int)].map (.int .u64)) := World.ownsRow_lit x1 #[.int .u64 p0, .int .u64 p1, .int .u64 p2, .int .u64 p3, .int .u64 n] 5 hlx (by decide) rfl
  have hb0 : Below (w.heap.size + 1) x1 (x1.alloc (.cells #[.int .u64 p0, .int .u64 p1, .int .u64 p2, .int .u64 p3, .int .u64 n] 22)) := (Below.refl _ _).alloc hlx _
  obtain ⟨⟨g0, g1, g2, g3, g4⟩, _⟩ := HB.rec5
  clear hE e1 e2 e3 e4 hl z1 hX hp0 hp1 hp2 hp3
  obtain ⟨W0, hW0⟩ : ∃ W0, W0 = (x1.alloc (.cells #[.int .u64 p0, .int .u64 p1, .int .u64 p2, .int .u64 p3, .int .u64 n] 22)) := ⟨_, rfl⟩
  rw [← hW0] at O0 hb0
  have HW0 := Lib.hid hW0
  clear hW0
  go_enter Try.func61, Try.ntmps61
  go_upto_region 1 with fail
  rw [← HX.out]
  go_wp2
  rw [← HW0.out]
  go_loopw [5, 7, 29] (fun l _ j wr => ∃ q : Nat, q ≤ n ∧ j = .int .i64 q ∧ wr.ownsRow (w.heap.size + 1) 22 1 l (5 + q) (([p0, p1, p2, p3, (n : Int)] ++ upto (fun j => at0 r.batch j % 2305843009213693951) q).map (.int .u64)) ∧ Below (w.heap.size + 1) x1 wr) (fun _ _ j _ => n - (intOf j).toNat)
  case atStart => exact ⟨0, by omega, rfl, O0, hb0⟩
  case round =>
    clear O0 hb0 g0 g1 g2 g3 g4
    obtain ⟨q, hq, rfl, hown, hb⟩ := hrel
    have hbs := hb.size
    have hbx := hbw.trans (hb.mono (by omega))
    by_cases hlt : q < n
    · obtain ⟨b, off, hA, hbl, hc⟩ := (hx.below hbx).cells (by omega)
      subst hA
      have g2 := hc q hlt
      obtain ⟨y0, y1⟩ := HNN.out q hlt
      have G := Lib.hid (upto_succ (fun j => at0 r.batch j % 2305843009213693951) q)
      have hyv : at0 r.batch q % 2305843009213693951 = at0 r.batch q % 2305843009213693951 := rfl
      obtain ⟨v, hv⟩ : ∃ v, v = at0 r.batch q % 2305843009213693951 := ⟨_, rfl⟩
      have hmv : (at0 r.batch q).tmod 2305843009213693951 = v := by rw [hv]; exact Int.tmod_eq_emod_of_nonneg y0
      rw [← hv] at G
      obtain ⟨y, hy⟩ : ∃ y, y = at0 r.batch q := ⟨_, rfl⟩
      rw [← hy] at g2 y0 y1 hmv
      have wy : IntKind.u64.wrap y = y := wrap_u64_in (by omega) (by omega)
      have q1 : (q : Int) < (n : Int) := by omega
      clear hc hy hv hyv
      go_wp2_with (at_builtin; refine wpList_append_own _ rfl _ _ 82 rfl (w.heap.size + 1) 22 i0 (.int .u64 0) 1 8 Try.underlying82 hi0 hz0 hz1 hz2 rfl (by decide) u5 (5 + q) _ rfl (hown.alloc _) ⟨wr.heap.size, 0, none⟩ 1 1 [.int .u64 v] rfl rfl (cell_one_new _ _ _) (by simp [Value.oneCell']) (by unfold maxLen; omega) (by omega) (by simp; omega) ?_; intro v1 v2 hown1 hgrow _)
      have hb2 : Below (w.heap.size + 1) x1 v2 := Below.grown (hb.alloc (by omega) _) hgrow (by simp; omega) (fun x hx => (hown.lt x hx).1)
      rw [show ([p0, p1, p2, p3, (n : Int)] ++ upto (fun j => at0 r.batch j % 2305843009213693951) q).map (Value.int .u64) ++ [.int .u64 v] = ([p0, p1, p2, p3, (n : Int)] ++ upto (fun j => at0 r.batch j % 2305843009213693951) (q + 1)).map (Value.int .u64) by rw [G.out]; simp] at hown1
      clear hgrow
      go_roundw
      case rel => exact ⟨q + 1, by omega, by go_num, hown1, hb2⟩
      case measure => simp [intOf]; omega
    · obtain rfl : q = n := by omega
      rw [HW.out] at hown
      obtain ⟨g, cap, rfl, _⟩ := hown.form (by omega)
      go_wp2
      go_ret
      exact ⟨g, cap, rfl, own_base hown (by omega), hbx⟩
end Go.Proofs.Ytcfmjpcbiomdbaa

/- coachtop.chained: a walk. -/
namespace Go.Proofs.Ytcfmjpcbiomdbaa
open Go.ChangeShapes Go.WideShapes Go.ChangeAt Go.RowKit Pl

/-- A record's numbers are within the machine's. -/
def RecB (r : Rec) : Prop := r.step < 9223372036854775808 ∧ r.rate < 9223372036854775808 ∧ 0 ≤ r.root ∧ r.root < 18446744073709551616 ∧ ∀ z ∈ r.batch, z < 9223372036854775808

def chF (f : Nat → Rec) (K : Nat) (v : Int) (j : Nat) : Rec := if j = K then { f K with chain := v } else f j
theorem chF_at (f : Nat → Rec) (K : Nat) (v : Int) : chF f K v K = { f K with chain := v } := if_pos rfl
theorem chF_far {f : Nat → Rec} {K j : Nat} (v : Int) (h : j ≠ K) : chF f K v j = f j := if_neg h
theorem RunR.chain {y : World} {g N K : Nat} {f : Nat → Rec} (h : RunR y g N f) (hK : K < N) (v : Int) :
    RunR (y.setCell ⟨g, K * 5 + 4, none⟩ (.int .u64 v)) g N (chF f K v) ∧ But g y (y.setCell ⟨g, K * 5 + 4, none⟩ (.int .u64 v)) := by
  have hBt := (But.refl g y).put (K * 5 + 4) (.int .u64 v)
  obtain ⟨cur, hB, hs, hp⟩ := h
  have hB5 := hB.put (K * 5 + 4) (.int .u64 v)
  have keepI : ∀ {L : Option Addr} {n : Nat} {xs : List Int}, Ints .i64 y L n xs → (∀ b off, L = some ⟨b, off, none⟩ → 0 < n → b ≠ g) → Ints .i64 (y.setCell ⟨g, K * 5 + 4, none⟩ (.int .u64 v)) L n xs := fun hI' hn' => ⟨hI'.len, fun hn => by
    obtain ⟨b, off, e, hb, hc⟩ := hI'.cells hn
    exact ⟨b, off, e, Nat.lt_of_lt_of_le hb hBt.size, fun i hi => (World.cell?_of_block (a := ⟨b, off + i, none⟩) (hBt.block b hb (hn' b off e hn))).trans (hc i hi)⟩⟩
  refine ⟨⟨_, hB5, by simpa using hs, fun j hj => ?_⟩, hBt⟩
  obtain ⟨L, kk, ⟨q0, q1, q2, q3, q4⟩, hI', hn', l1, l2⟩ := hp j hj
  have far : ∀ i, K * 5 + 4 ≠ j * 5 + i → (cur.setIfInBounds (K * 5 + 4) (.int .u64 v))[j * 5 + i]? = cur[j * 5 + i]? := fun i hi => Array.getElem?_setIfInBounds_ne hi
  by_cases hjK : j = K
  · subst hjK
    rw [chF_at]
    refine ⟨L, kk, ⟨(far 0 (by omega)).trans q0, (far 1 (by omega)).trans q1, (far 2 (by omega)).trans q2, (far 3 (by omega)).trans q3, ?_⟩, keepI hI' hn', hn', l1, l2⟩
    simp [Array.getElem?_setIfInBounds]
    omega
  · rw [chF_far v hjK]
    exact ⟨L, kk, ⟨(far 0 (by omega)).trans q0, (far 1 (by omega)).trans q1, (far 2 (by omega)).trans q2, (far 3 (by omega)).trans q3, (far 4 (by omega)).trans q4⟩, keepI hI' hn', hn', l1, l2⟩
/-- The first q of them chained. -/
def mixC (head : Int) (f : Nat → Rec) (q j : Nat) : Rec := if j < q then chainF head f j else f j
theorem mixC_zero (head : Int) (f : Nat → Rec) : mixC head f 0 = f := by funext j; exact if_neg (by omega)
theorem mixC_at (head : Int) (f : Nat → Rec) (q : Nat) : mixC head f q q = f q := if_neg (by omega)
theorem mixC_succ (head : Int) (f : Nat → Rec) (q : Nat) : chF (mixC head f q) q (chainX head f (q + 1)) = mixC head f (q + 1) := by
  funext j
  unfold chF mixC
  by_cases h : j = q
  · subst h
    rw [if_pos rfl, if_neg (by omega), if_pos (by omega)]
    rfl
  · rw [if_neg h]
    by_cases h2 : j < q
    · rw [if_pos h2, if_pos (by omega)]
    · rw [if_neg h2, if_neg (by omega)]
theorem mixC_end {head : Int} {f : Nat → Rec} {n j : Nat} (h : j < n) : mixC head f n j = chainF head f j := if_pos h

set_option maxRecDepth 100000 in
set_option maxHeartbeats 4000000 in
theorem top_chained (head : Int) (h0 : 0 ≤ head) (h1 : head < 18446744073709551616) (A : Option Addr) (n c : Nat) (rs : List Rec) (w : World) (hx : RecsR w A n rs) (hn : n ≤ 40) (hA : ∀ ad, A = some ad → ∃ b off, ad = ⟨b, off, none⟩) (hB : ∀ j, j < n → RecB (recAt rs j)) (hl : ∀ j, j < n → (recAt rs j).batch.length ≤ 9223372036854775807) :
    Calls Try.prog 24 #[.int .u64 head, .slice A n c] w fun e w' => ∃ (b : Bool) (v : Value), e = .returned (.tuple #[v, .bool b]) ∧ Below w.heap.size w w' ∧ (b = true → ∃ B bc, v = .slice B n bc ∧ n ≤ bc ∧ bc ≤ maxLen ∧ (∀ j, j < n → chE (recAt rs j) = 0) ∧ RecsR w' B n (upto (chainF head (recAt rs)) n)) := by
  have HCL := Lib.hid (rec_Clone A n c rs w hx (by omega) hA)
  have HOK := Lib.hid (fun (before : Int) (r : Rec) (A : Option Addr) (n k : Nat) (w : World) hx hE b0 b1 (q : RecB r) => jrn_Chain_ok before r A n k w hx hE b0 b1 q.1 q.2.1 q.2.2.1 q.2.2.2.1 q.2.2.2.2)
  have HB := Lib.hid hB
  have HL := Lib.hid hl
  have HX0 := Lib.hid (chainX_lo h0 (recAt rs))
  have HX1 := Lib.hid (chainX_hi h1 (recAt rs))
  clear hx hB hl
  obtain ⟨f, hf⟩ : ∃ f, f = recAt rs := ⟨_, rfl⟩
  have HF := Lib.hid hf
  rw [← hf] at HB HL HX0 HX1 ⊢
  clear hf
  obtain ⟨X, hX⟩ : ∃ X, X = chainX head f := ⟨_, rfl⟩
  have HX := Lib.hid hX
  rw [← hX] at HX0 HX1
  have hX0 : X 0 = head := by rw [hX]; rfl
  have HXS := Lib.hid (fun k => show ofI 6 (chW (X k) (f k)) = X (k + 1) from by rw [hX]; rfl)
  clear hX
  go_enter Try.func24, Try.ntmps24
  go_wp2_with fail
  refine HCL.out.mono ?_
  rintro e w1 ⟨B, bc, rfl, hbc1, hbc2, hBR, hBG, hb1⟩
  have HE0 := Lib.hid hX0
  clear hX0
  go_wp2
  rw [← HE0.out]
  go_loopw [0, 6, 7, 8, 13] (fun hd _ _ _ i wr => ∃ q : Nat, q ≤ n ∧ i = .int .i64 q ∧ hd = .int .u64 (X q) ∧ (∀ j, j < q → chE (f j) = 0) ∧ (0 < n → ∃ g, B = some ⟨g, 0, none⟩ ∧ w.heap.size ≤ g ∧ RunR wr g n (mixC head f q)) ∧ Below w.heap.size w wr) (fun _ _ _ _ i _ => n - (intOf i).toNat)
  case atStart => exact ⟨0, by omega, rfl, rfl, fun j hj => absurd hj (by omega), fun h => by
    obtain ⟨g, e, h1, h2⟩ := hBG h
    rw [mixC_zero, HF.out]
    exact ⟨g, e, h1, h2⟩, hb1⟩
  case round =>
    clear hBR hBG hb1
    obtain ⟨q, hq, rfl, rfl, hall, hG, hb⟩ := hrel
    have HALL := Lib.hid hall
    clear hall
    by_cases hlt : q < n
    · obtain ⟨g, rfl, hgw, hRun⟩ := hG (by omega)
      obtain ⟨L, k, ⟨x0, x1, x2, x3, x4⟩, hI, l1, l2⟩ := hRun.at hlt
      rw [mixC_at] at x0 x1 x2 x3 x4 hI l1
      have q0 : (0 : Int) ≤ (q : Int) := by omega
      have q1 : (q : Int) < (n : Int) := by omega
      have hll := HL.out q hlt
      obtain ⟨r, hr⟩ : ∃ r, r = f q := ⟨_, rfl⟩
      have HRB := Lib.hid (HB.out q hlt)
      have HR := Lib.hid hr
      have HXq := Lib.hid (HXS.out q)
      rw [← hr] at x0 x1 x2 x3 x4 hI l1 hll HRB HXq
      clear hr
      have X0 := HX0.out q
      have X1 := HX1.out q
      by_cases hE : chE r = 0
      · have HCH := Lib.hid (HOK.out (X q) r L _ k wr hI hE X0 X1 HRB.out)
        rw [HXq.out] at HCH
        have HEE := Lib.hid hE
        clear hE
        go_wp2_with fail
        refine HCH.out.mono ?_
        rintro e w2 ⟨rfl, hb2⟩
        have hb3 := hb.trans (hb2.mono hb.size)
        have hRun2 := hRun.below hb2
        have z4 := hRun2.writes q 4
        obtain ⟨L', kk, ⟨_, _, _, _, y4⟩, _⟩ := hRun2.at hlt
        obtain ⟨hRun3, hBt⟩ := hRun2.chain hlt (X (q + 1))
        have hb4 := but_to hb3 hBt hgw hb3.size
        go_wp2
        go_roundw
        case rel =>
          refine ⟨q + 1, by omega, by go_num, rfl, fun j hj => ?_, fun _ => ⟨g, rfl, hgw, ?_⟩, hb4⟩
          · by_cases hjq : j = q
            · subst hjq; rw [← HR.out]; exact HEE.out
            · exact HALL.out j (by omega)
          · rw [← mixC_succ, ← HX.out]
            exact hRun3
        case measure => simp [intOf]; omega
      · have HCH := Lib.hid (jrn_Chain_no (X q) r L _ k wr hI hll hE)
        clear hE
        go_wp2_with fail
        refine HCH.out.mono ?_
        rintro e w2 ⟨rfl, hb2⟩
        go_wp2
        go_ret2
        exact ⟨false, _, rfl, hb.trans (hb2.mono hb.size), fun h => by cases h⟩
    · obtain rfl : q = n := by omega
      go_wp2
      go_ret2
      refine ⟨true, _, rfl, hb, fun _ => ⟨B, bc, rfl, hbc1, hbc2, HALL.out, ?_⟩⟩
      rcases Nat.eq_zero_or_pos q with h0 | h0
      · subst h0
        exact ⟨rfl, fun h => absurd h (by omega)⟩
      · obtain ⟨g, rfl, _, hRun⟩ := hG h0
        exact (hRun.congr (fun j hj => mixC_end hj)).recs
end Go.Proofs.Ytcfmjpcbiomdbaa

/- coachtop.collide, alike: walks. -/
namespace Go.Proofs.Ytcfmjpcbiomdbaa
open Go.ChangeShapes Go.WideShapes Go.ChangeAt Go.RowKit Pl

theorem of_words (before : Int) (r : Rec) (A : Option Addr) (c : Nat) (W : World) (hl : r.batch.length ≤ 8) (hx : Ints .u64 W A (5 + r.batch.length) (wordsI before r)) :
    Calls Try.prog 59 #[.int .u64 6, .slice A (5 + r.batch.length) c] W fun e w' => e = .returned (.tuple #[.int .u64 (ofI 6 (wordsI before r)), .int .i64 0]) ∧ Below W.heap.size W w' :=
  of_fine 6 (wordsI before r) (5 + r.batch.length) (wordsI_length _ _) (by omega) (by omega) (by omega) (modW_u64 _) A c W hx
def Good (r : Rec) : Prop := chE r = 0 ∧ RecB r
theorem words_good (before : Int) (r : Rec) (A : Option Addr) (k : Nat) (w : World) (hx : Ints .i64 w A r.batch.length r.batch) (hg : Good r) (b0 : 0 ≤ before) :
    Calls Try.prog 61 #[.int .u64 before, .agg #[.int .i64 r.step, .slice A r.batch.length k, .int .i64 r.rate, .int .u64 r.root, .int .u64 r.chain]] w fun e w' => ∃ g c, e = .returned (.slice (some ⟨g, 0, none⟩) (5 + r.batch.length) c) ∧ Ints .u64 w' (some ⟨g, 0, none⟩) (5 + r.batch.length) (wordsI before r) ∧ Below w.heap.size w w' := by
  obtain ⟨hE, q1, q2, q3, _, q5⟩ := hg
  refine (top_words before r A _ k w hx hE b0 q1 q2 q3 q5).mono ?_
  rintro e w' ⟨g, c, rfl, h1, h2⟩
  exact ⟨g, c, rfl, Ints.of_own h1 (wordsI_length _ _), h2⟩

set_option maxRecDepth 100000 in
set_option maxHeartbeats 8000000 in
theorem top_collide (head : Int) (h0 : 0 ≤ head) (A B : Option Addr) (n ac bc : Nat) (f g : Nat → Rec) (w : World) (hx : RecsR w A n (upto f n)) (hy : RecsR w B n (upto g n)) (hn : n ≤ 40) (hf : ∀ j, j < n → Good (f j)) (hg : ∀ j, j < n → Good (g j)) :
    Calls Try.prog 26 #[.int .u64 head, .slice A n ac, .slice B n bc] w fun e w' => e = .returned (.bool (collB head f g n)) ∧ Below w.heap.size w w' := by
  have HXW := Lib.hid (fun j (hj : j < n) => chainX_words (f := f) (k := j) h0 (hf j hj).1 (hf j hj).2.2.2.1)
  have HYW := Lib.hid (fun j (hj : j < n) => chainX_words (f := g) (k := j) h0 (hg j hj).1 (hg j hj).2.2.2.1)
  have HX0 := Lib.hid (chainX_lo h0 f)
  have HY0 := Lib.hid (chainX_lo h0 g)
  have HGF := Lib.hid hf
  have HGG := Lib.hid hg
  have HLF := Lib.hid (fun j (hj : j < n) => (chE_ok (hf j hj).1).2.2.1)
  have HLG := Lib.hid (fun j (hj : j < n) => (chE_ok (hg j hj).1).2.2.1)
  have HCF := Lib.hid (fun h => collB_false (head := head) (f := f) (g := g) (n := n) h)
  have HCT := Lib.hid (fun k hk h => collB_true (head := head) (f := f) (g := g) (n := n) (k := k) hk h)
  have HCK := Lib.hid (fun k => show collK head f g k = (!decide (wordsI (chainX head f k) (f k) = wordsI (chainX head g k) (g k)) && (chainX head f (k + 1) == chainX head g (k + 1))) from rfl)
  clear hf hg
  obtain ⟨cB, hcB⟩ : ∃ cB, cB = collB head f g n := ⟨_, rfl⟩
  rw [← hcB] at HCF HCT ⊢
  clear hcB
  obtain ⟨cK, hcK⟩ : ∃ cK, cK = collK head f g := ⟨_, rfl⟩
  rw [← hcK] at HCF HCT HCK
  clear hcK
  obtain ⟨X, hX⟩ : ∃ X, X = chainX head f := ⟨_, rfl⟩
  obtain ⟨Y, hY⟩ : ∃ Y, Y = chainX head g := ⟨_, rfl⟩
  have HXZ := Lib.hid (show X 0 = head by rw [hX]; rfl)
  have HYZ := Lib.hid (show Y 0 = head by rw [hY]; rfl)
  rw [← hX] at HXW HX0 HCK
  rw [← hY] at HYW HY0 HCK
  clear hX hY
  go_enter Try.func26, Try.ntmps26
  go_wp2
  go_loopw [7, 8, 9, 10, 11, 12, 13, 14, 15, 20] (fun x y _ _ _ _ _ _ _ i wr => ∃ q : Nat, q ≤ n ∧ i = .int .i64 q ∧ x = .int .u64 (X q) ∧ y = .int .u64 (Y q) ∧ (∀ j, j < q → cK j = false) ∧ Below w.heap.size w wr) (fun _ _ _ _ _ _ _ _ _ i _ => n - (intOf i).toNat)
  case atStart => exact ⟨0, by omega, rfl, by rw [HXZ.out], by rw [HYZ.out], fun j hj => absurd hj (by omega), Below.refl _ _⟩
  case round =>
    obtain ⟨q, hq, rfl, rfl, rfl, hall, hb⟩ := hrel
    have HALL := Lib.hid hall
    clear hall
    by_cases hlt : q < n
    · obtain ⟨xb, xo, XL, xk, rfl, xlt, ⟨x0, x1, x2, x3, x4⟩, XI, _⟩ := (hx.below hb).at hlt
      obtain ⟨yb, yo, YL, yk, rfl, ylt, ⟨y0, y1, y2, y3, y4⟩, YI, _⟩ := (hy.below hb).at hlt
      rw [recAt_upto f hlt] at x0 x1 x2 x3 x4 XI
      rw [recAt_upto g hlt] at y0 y1 y2 y3 y4 YI
      have k0 : (0 : Int) ≤ (q : Int) := by omega
      have k1 : (q : Int) < (n : Int) := by omega
      have WA := Lib.hid (fun W (h : Below wr.heap.size wr W) => words_good (X q) (f q) XL xk W (XI.below h) (HGF.out q hlt) (HX0.out q))
      have WB := Lib.hid (fun W (h : Below wr.heap.size wr W) => words_good (Y q) (g q) YL yk W (YI.below h) (HGG.out q hlt) (HY0.out q))
      have OA := Lib.hid (fun A c W hx => of_words (X q) (f q) A c W (HLF.out q hlt) hx)
      have OB := Lib.hid (fun A c W hx => of_words (Y q) (g q) A c W (HLG.out q hlt) hx)
      rw [HXW.out q hlt] at OA
      rw [HYW.out q hlt] at OB
      have la := HLF.out q hlt
      have CK := Lib.hid (HCK.out q)
      obtain ⟨xa, hxa⟩ : ∃ xa, xa = wordsI (X q) (f q) := ⟨_, rfl⟩
      obtain ⟨xc, hxc⟩ : ∃ xc, xc = wordsI (Y q) (g q) := ⟨_, rfl⟩
      rw [← hxa] at WA OA CK
      rw [← hxc] at WB OB CK
      obtain ⟨r, hr⟩ : ∃ r, r = f q := ⟨_, rfl⟩
      obtain ⟨s, hs⟩ : ∃ s, s = g q := ⟨_, rfl⟩
      rw [← hr] at x0 x1 x2 x3 x4 WA OA la
      rw [← hs] at y0 y1 y2 y3 y4 WB OB
      obtain ⟨na, hna⟩ : ∃ na, na = 5 + r.batch.length := ⟨_, rfl⟩
      obtain ⟨nb, hnb⟩ : ∃ nb, nb = 5 + s.batch.length := ⟨_, rfl⟩
      rw [← hna] at WA OA
      rw [← hnb] at WB OB
      have na1 : na ≤ 13 := by omega
      clear hxa hxc hr hs hna hnb XI YI la
      obtain ⟨z, rfl⟩ : ∃ z : World, z = wr := ⟨_, rfl⟩
      have HSS := Lib.hid (fun W (h : Below z.heap.size z W) => (⟨(h.cell (p := ⟨xb, xo + q * 5, none⟩) xlt).trans x0, (h.cell (p := ⟨xb, xo + q * 5 + 1, none⟩) xlt).trans x1, (h.cell (p := ⟨xb, xo + q * 5 + 2, none⟩) xlt).trans x2, (h.cell (p := ⟨xb, xo + q * 5 + 3, none⟩) xlt).trans x3, (h.cell (p := ⟨xb, xo + q * 5 + 4, none⟩) xlt).trans x4,
          (h.cell (p := ⟨yb, yo + q * 5, none⟩) ylt).trans y0, (h.cell (p := ⟨yb, yo + q * 5 + 1, none⟩) ylt).trans y1, (h.cell (p := ⟨yb, yo + q * 5 + 2, none⟩) ylt).trans y2, (h.cell (p := ⟨yb, yo + q * 5 + 3, none⟩) ylt).trans y3, (h.cell (p := ⟨yb, yo + q * 5 + 4, none⟩) ylt).trans y4⟩ :
        W.cell? ⟨xb, xo + q * 5, none⟩ = some (.int .i64 r.step) ∧ W.cell? ⟨xb, xo + q * 5 + 1, none⟩ = some (.slice XL r.batch.length xk) ∧ W.cell? ⟨xb, xo + q * 5 + 2, none⟩ = some (.int .i64 r.rate) ∧ W.cell? ⟨xb, xo + q * 5 + 3, none⟩ = some (.int .u64 r.root) ∧ W.cell? ⟨xb, xo + q * 5 + 4, none⟩ = some (.int .u64 r.chain) ∧
        W.cell? ⟨yb, yo + q * 5, none⟩ = some (.int .i64 s.step) ∧ W.cell? ⟨yb, yo + q * 5 + 1, none⟩ = some (.slice YL s.batch.length yk) ∧ W.cell? ⟨yb, yo + q * 5 + 2, none⟩ = some (.int .i64 s.rate) ∧ W.cell? ⟨yb, yo + q * 5 + 3, none⟩ = some (.int .u64 s.root) ∧ W.cell? ⟨yb, yo + q * 5 + 4, none⟩ = some (.int .u64 s.chain)))
      clear x0 x1 x2 x3 x4 y0 y1 y2 y3 y4
      go_upto_region 5 with fail
      go_region_held3 (fun W => W.cell? ⟨xb, xo + q * 5, none⟩ = some (.int .i64 r.step) ∧ W.cell? ⟨xb, xo + q * 5 + 1, none⟩ = some (.slice XL r.batch.length xk) ∧ W.cell? ⟨xb, xo + q * 5 + 2, none⟩ = some (.int .i64 r.rate) ∧ W.cell? ⟨xb, xo + q * 5 + 3, none⟩ = some (.int .u64 r.root) ∧ W.cell? ⟨xb, xo + q * 5 + 4, none⟩ = some (.int .u64 r.chain) ∧
        W.cell? ⟨yb, yo + q * 5, none⟩ = some (.int .i64 s.step) ∧ W.cell? ⟨yb, yo + q * 5 + 1, none⟩ = some (.slice YL s.batch.length yk) ∧ W.cell? ⟨yb, yo + q * 5 + 2, none⟩ = some (.int .i64 s.rate) ∧ W.cell? ⟨yb, yo + q * 5 + 3, none⟩ = some (.int .u64 s.root) ∧ W.cell? ⟨yb, yo + q * 5 + 4, none⟩ = some (.int .u64 s.chain)) (first | (with_reducible exact HSS.out _ ((Below.refl _ _).drew)) | (with_reducible exact HSS.out _ hu1) | (with_reducible exact HSS.out _ hu2) | fail) (first
        | (go_at_call 61; (with_reducible refine (WA.out _ ((Below.refl _ _).drew)).mono ?_); rintro e u1 ⟨ga, ca, rfl, ia, hbu⟩; have hu1 : Below z.heap.size z u1 := bel_trans ((Below.refl _ _).drew) hbu)
        | (go_at_call 61; (with_reducible refine (WB.out _ hu1).mono ?_); rintro e u2 ⟨gb, cb, rfl, ib, hbv⟩; have hu2 : Below z.heap.size z u2 := bel_trans hu1 hbv)
        | fail)
      have ia2 := ia.below hbv
      clear ia hbu hbv hu1
      go_wp2_with fail
      refine (OA.out _ _ _ ia2).mono ?_
      rintro e u3 ⟨rfl, hb3⟩
      go_wp2_with fail
      refine (OB.out _ _ _ (ib.below hb3)).mono ?_
      rintro e u4 ⟨rfl, hb4⟩
      have ja := (ia2.below hb3).below hb4
      have jb := (ib.below hb3).below hb4
      have hu4 := bel_trans (bel_trans hu2 hb3) hb4
      clear ia2 ib hb3 hb4 hu2
      cases hw : decide (xa = xc)
      · have HEQ := Lib.hid (equalU_told (c := ca) (d := cb) hw ja jb (by omega))
        cases hc : (X (q + 1) == Y (q + 1))
        · have hF := Lib.hid (show cK q = false by rw [CK.out, hw, hc]; rfl)
          clear hw
          go_wp2_with fail
          refine HEQ.out.mono ?_
          rintro e u5 ⟨rfl, hq5⟩
          go_wp2
          go_roundw
          case rel =>
            refine ⟨q + 1, by omega, by go_num, rfl, rfl, fun j hj => ?_, Quiet.after (hb.trans (hu4.mono hb.size)) hq5⟩
            by_cases hjq : j = q
            · subst hjq; exact hF.out
            · exact HALL.out j (by omega)
          case measure => simp [intOf]; omega
        · have hF := Lib.hid (HCT.out q hlt (by rw [CK.out, hw, hc]; rfl))
          clear hw
          go_wp2_with fail
          refine HEQ.out.mono ?_
          rintro e u5 ⟨rfl, hq5⟩
          go_wp2
          go_ret
          rw [hF.out]
          exact ⟨rfl, Quiet.after (hb.trans (hu4.mono hb.size)) hq5⟩
      · have HEQ := Lib.hid (equalU_told (c := ca) (d := cb) hw ja jb (by omega))
        have hF := Lib.hid (show cK q = false by rw [CK.out, hw]; rfl)
        clear hw
        go_wp2_with fail
        refine HEQ.out.mono ?_
        rintro e u5 ⟨rfl, hq5⟩
        go_wp2
        go_roundw
        case rel =>
          refine ⟨q + 1, by omega, by go_num, rfl, rfl, fun j hj => ?_, Quiet.after (hb.trans (hu4.mono hb.size)) hq5⟩
          by_cases hjq : j = q
          · subst hjq; exact hF.out
          · exact HALL.out j (by omega)
        case measure => simp [intOf]; omega
    · obtain rfl : q = n := by omega
      go_wp2
      go_ret
      rw [HCF.out HALL.out]
      exact ⟨rfl, hb⟩

set_option maxRecDepth 100000 in
set_option maxHeartbeats 8000000 in
theorem top_alike (A B : Option Addr) (n ac bc : Nat) (f g : Nat → Rec) (w : World) (hx : RecsR w A n (upto f n)) (hy : RecsR w B n (upto g n)) (hn : n ≤ 40) (hf : ∀ j, j < n → Good (f j)) (hg : ∀ j, j < n → Good (g j)) :
    Calls Try.prog 27 #[.slice A n ac, .slice B n bc] w fun e w' => e = .returned (.bool (alikeB f g n)) ∧ Below w.heap.size w w' := by
  have HGF := Lib.hid hf
  have HGG := Lib.hid hg
  have HLF := Lib.hid (fun j (hj : j < n) => (chE_ok (hf j hj).1).2.2.1)
  have HT := Lib.hid (fun h => alikeB_true (f := f) (g := g) (n := n) h)
  have HF := Lib.hid (fun k hk h => alikeB_false (f := f) (g := g) (n := n) (k := k) hk h)
  clear hf hg
  obtain ⟨cB, hcB⟩ : ∃ cB, cB = alikeB f g n := ⟨_, rfl⟩
  rw [← hcB] at HT HF ⊢
  clear hcB
  go_enter Try.func27, Try.ntmps27
  go_wp2
  go_loopw [5, 8] (fun _ i wr => ∃ q : Nat, q ≤ n ∧ i = .int .i64 q ∧ (∀ j, j < q → wordsI 0 (f j) = wordsI 0 (g j)) ∧ Below w.heap.size w wr) (fun _ i _ => n - (intOf i).toNat)
  case atStart => exact ⟨0, by omega, rfl, fun j hj => absurd hj (by omega), Below.refl _ _⟩
  case round =>
    obtain ⟨q, hq, rfl, hall, hb⟩ := hrel
    have HALL := Lib.hid hall
    clear hall
    by_cases hlt : q < n
    · obtain ⟨xb, xo, XL, xk, rfl, xlt, ⟨x0, x1, x2, x3, x4⟩, XI, _⟩ := (hx.below hb).at hlt
      obtain ⟨yb, yo, YL, yk, rfl, ylt, ⟨y0, y1, y2, y3, y4⟩, YI, _⟩ := (hy.below hb).at hlt
      rw [recAt_upto f hlt] at x0 x1 x2 x3 x4 XI
      rw [recAt_upto g hlt] at y0 y1 y2 y3 y4 YI
      have k0 : (0 : Int) ≤ (q : Int) := by omega
      have k1 : (q : Int) < (n : Int) := by omega
      have WA := Lib.hid (fun W (h : Below wr.heap.size wr W) => words_good 0 (f q) XL xk W (XI.below h) (HGF.out q hlt) (by omega))
      have WB := Lib.hid (fun W (h : Below wr.heap.size wr W) => words_good 0 (g q) YL yk W (YI.below h) (HGG.out q hlt) (by omega))
      have la := HLF.out q hlt
      have HFq := Lib.hid (HF.out q hlt)
      obtain ⟨xa, hxa⟩ : ∃ xa, xa = wordsI 0 (f q) := ⟨_, rfl⟩
      obtain ⟨xc, hxc⟩ : ∃ xc, xc = wordsI 0 (g q) := ⟨_, rfl⟩
      have XA := Lib.hid hxa
      have XC := Lib.hid hxc
      rw [← hxa] at WA HFq
      rw [← hxc] at WB HFq
      obtain ⟨r, hr⟩ : ∃ r, r = f q := ⟨_, rfl⟩
      obtain ⟨s, hs⟩ : ∃ s, s = g q := ⟨_, rfl⟩
      rw [← hr] at x0 x1 x2 x3 x4 WA la
      rw [← hs] at y0 y1 y2 y3 y4 WB
      obtain ⟨na, hna⟩ : ∃ na, na = 5 + r.batch.length := ⟨_, rfl⟩
      obtain ⟨nb, hnb⟩ : ∃ nb, nb = 5 + s.batch.length := ⟨_, rfl⟩
      rw [← hna] at WA
      rw [← hnb] at WB
      have na1 : na ≤ 13 := by omega
      clear hxa hxc hr hs hna hnb XI YI la
      obtain ⟨z, rfl⟩ : ∃ z : World, z = wr := ⟨_, rfl⟩
      have HSS := Lib.hid (fun W (h : Below z.heap.size z W) => (⟨(h.cell (p := ⟨xb, xo + q * 5, none⟩) xlt).trans x0, (h.cell (p := ⟨xb, xo + q * 5 + 1, none⟩) xlt).trans x1, (h.cell (p := ⟨xb, xo + q * 5 + 2, none⟩) xlt).trans x2, (h.cell (p := ⟨xb, xo + q * 5 + 3, none⟩) xlt).trans x3, (h.cell (p := ⟨xb, xo + q * 5 + 4, none⟩) xlt).trans x4,
          (h.cell (p := ⟨yb, yo + q * 5, none⟩) ylt).trans y0, (h.cell (p := ⟨yb, yo + q * 5 + 1, none⟩) ylt).trans y1, (h.cell (p := ⟨yb, yo + q * 5 + 2, none⟩) ylt).trans y2, (h.cell (p := ⟨yb, yo + q * 5 + 3, none⟩) ylt).trans y3, (h.cell (p := ⟨yb, yo + q * 5 + 4, none⟩) ylt).trans y4⟩ :
        W.cell? ⟨xb, xo + q * 5, none⟩ = some (.int .i64 r.step) ∧ W.cell? ⟨xb, xo + q * 5 + 1, none⟩ = some (.slice XL r.batch.length xk) ∧ W.cell? ⟨xb, xo + q * 5 + 2, none⟩ = some (.int .i64 r.rate) ∧ W.cell? ⟨xb, xo + q * 5 + 3, none⟩ = some (.int .u64 r.root) ∧ W.cell? ⟨xb, xo + q * 5 + 4, none⟩ = some (.int .u64 r.chain) ∧
        W.cell? ⟨yb, yo + q * 5, none⟩ = some (.int .i64 s.step) ∧ W.cell? ⟨yb, yo + q * 5 + 1, none⟩ = some (.slice YL s.batch.length yk) ∧ W.cell? ⟨yb, yo + q * 5 + 2, none⟩ = some (.int .i64 s.rate) ∧ W.cell? ⟨yb, yo + q * 5 + 3, none⟩ = some (.int .u64 s.root) ∧ W.cell? ⟨yb, yo + q * 5 + 4, none⟩ = some (.int .u64 s.chain)))
      clear x0 x1 x2 x3 x4 y0 y1 y2 y3 y4
      obtain ⟨bo, hbo⟩ : ∃ bo, decide (xa = xc) = bo := ⟨_, rfl⟩
      have HEQ := Lib.hid (fun A B c d W (h1 : Ints .u64 W A na xa) (h2 : Ints .u64 W B nb xc) => equalU_told (c := c) (d := d) hbo h1 h2 (by omega))
      have HBO := Lib.hid hbo
      clear hbo
      go_upto_region 4 with fail
      go_region_held3 (fun W => W.cell? ⟨xb, xo + q * 5, none⟩ = some (.int .i64 r.step) ∧ W.cell? ⟨xb, xo + q * 5 + 1, none⟩ = some (.slice XL r.batch.length xk) ∧ W.cell? ⟨xb, xo + q * 5 + 2, none⟩ = some (.int .i64 r.rate) ∧ W.cell? ⟨xb, xo + q * 5 + 3, none⟩ = some (.int .u64 r.root) ∧ W.cell? ⟨xb, xo + q * 5 + 4, none⟩ = some (.int .u64 r.chain) ∧
        W.cell? ⟨yb, yo + q * 5, none⟩ = some (.int .i64 s.step) ∧ W.cell? ⟨yb, yo + q * 5 + 1, none⟩ = some (.slice YL s.batch.length yk) ∧ W.cell? ⟨yb, yo + q * 5 + 2, none⟩ = some (.int .i64 s.rate) ∧ W.cell? ⟨yb, yo + q * 5 + 3, none⟩ = some (.int .u64 s.root) ∧ W.cell? ⟨yb, yo + q * 5 + 4, none⟩ = some (.int .u64 s.chain)) (first | (with_reducible exact HSS.out _ ((Below.refl _ _).drew)) | (with_reducible exact HSS.out _ hu1) | (with_reducible exact HSS.out _ hu2) | (with_reducible exact HSS.out _ hu3) | fail) (first
        | (go_at_call 61; (with_reducible refine (WA.out _ ((Below.refl _ _).drew)).mono ?_); rintro e u1 ⟨ga, ca, rfl, ia, hbu⟩; have hu1 : Below z.heap.size z u1 := bel_trans ((Below.refl _ _).drew) hbu)
        | (go_at_call 61; (with_reducible refine (WB.out _ hu1).mono ?_); rintro e u2 ⟨gb, cb, rfl, ib, hbv⟩; have hu2 : Below z.heap.size z u2 := bel_trans hu1 hbv)
        | (go_at_call 55; (with_reducible refine (HEQ.out _ _ _ _ _ (ia.below hbv) ib).mono ?_); rintro e u3 ⟨rfl, hq3⟩; have hu3 : Below z.heap.size z u3 := Quiet.after hu2 hq3)
        | fail)
      cases bo
      · have hF := Lib.hid (HFq.out (of_decide_eq_false HBO.out))
        go_wp2
        go_ret
        rw [hF.out]
        exact ⟨rfl, hb.trans (hu3.mono hb.size)⟩
      · have hF := Lib.hid (of_decide_eq_true HBO.out)
        go_wp2
        go_roundw
        case rel =>
          refine ⟨q + 1, by omega, by go_num, fun j hj => ?_, hb.trans (hu3.mono hb.size)⟩
          by_cases hjq : j = q
          · subst hjq; rw [← XA.out, ← XC.out]; exact hF.out
          · exact HALL.out j (by omega)
        case measure => simp [intOf]; omega
    · obtain rfl : q = n := by omega
      go_wp2
      go_ret
      rw [HT.out HALL.out]
      exact ⟨rfl, hb⟩
end Go.Proofs.Ytcfmjpcbiomdbaa
