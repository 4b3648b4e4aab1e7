/- A course's arguments, opened. -/
import Derived.Test.YtblkpibbcapdeaaJrnA
import Derived.Test.YtblkpibbcapdeaaArgs
namespace Go.Proofs.Ytblkpibbcapdeaa
open Go.ChangeShapes Go.WideShapes Go.ChangeAt Go.RowKit Pl

section
variable {H : Type} {enc : TypeId × Value → H} {w : World} {base : Nat} {sp : Nat → Bool} {held : Bool}
set_option maxRecDepth 100000 in
theorem open_ex {fuel : Nat} {cs : List Value} {x : DataW H × List MemPlace} (hsp : ∀ b, sp b = true) (h : DataW.trod enc Try.prog w base sp held fuel 51 cs = some x) :
    ∃ (A1 : Option Addr) (n1 c1 : Nat) (p1 : List Int) (A2 : Option Addr) (n2 c2 : Nat) (p2 : List Int), cs = [.slice A1 n1 c1, .slice A2 n2 c2] ∧ Ints .i64 w A1 n1 p1 ∧ Ints .i64 w A2 n2 p2 ∧ n1 ≤ c1 ∧ c1 ≤ maxLen ∧ n2 ≤ c2 ∧ c2 ≤ maxLen := by
  obtain ⟨xs, n, _, _, hl, hxl, hf⟩ := DataW.trod_struct Try.underlying51 h
  rw [cells_example] at hl
  match cs, hl with
  | [e0, e1], _ =>
    obtain ⟨y2, f2⟩ := field_at hf hxl 0 26 0 1 rfl cells_ints
    obtain ⟨y3, f3⟩ := field_at hf hxl 1 26 1 1 rfl cells_ints
    simp only [List.drop_zero, List.drop_succ_cons, List.take_succ_cons, List.take_zero] at f2 f3
    obtain ⟨b1, B1, m1, d1, rfl, s1, s2, s3, _⟩ := intsV_of hsp f2
    obtain ⟨b2, B2, m2, d2, rfl, t1, t2, t3, _⟩ := intsV_of hsp f3
    exact ⟨B1, m1, d1, b1, B2, m2, d2, b2, rfl, s1, t1, s2, s3, t2, t3⟩
set_option maxRecDepth 100000 in
theorem arg_data {r : Reach} {b : Nat} {v : Value} {d : DataW H} {p : List MemPlace} {ts : List TypeId} {ds : List (DataW H)} {j : Nat} (hsp : ∀ b, sp b = true)
    (hv : Value.okWide Try.prog w r b 25 v) (h : DataW.Trod enc Try.prog w base sp held 25 v d p) (hsz : (DataW.weightsEach Try.prog ts ds).all (· ≤ reachBytes) = true) (ht : ts[j]? = some 25) (hd : ds[j]? = some d) :
    ∃ (A : Option Addr) (n c : Nat) (xs : Data), v = .slice A n c ∧ Duos w A n xs ∧ n ≤ 9223372036854775806 := by
  obtain ⟨A, n, c, rfl⟩ := okWide_slice Try.underlying25 hv
  obtain ⟨f, h⟩ := h
  obtain ⟨A', n', c', e, h1, h2, h3, h4⟩ := open_rows Try.underlying25 cells_example (by omega) hsp h
  have e' : Value.slice A n c = .slice A' n' c' := by simpa [Value.cells] using e
  injection e' with e1 e2 e3
  subst e1; subst e2; subst e3
  have hn : n ≤ 9223372036854775806 := by
    rcases h3 with ⟨_, rfl⟩ | ⟨ys, zs, hy, hl, _⟩
    · omega
    · dsimp only at hy
      subst hy
      have h5 := sized_slice hsz ht hd Try.underlying25
      have hb : Try.prog.bytesOf 51 = 48 := by kernel_rfl
      have hr : reachBytes = 140737488351232 := rfl
      rw [hb, hr] at h5
      omega
  rcases Nat.eq_zero_or_pos n with h0 | h0
  · subst h0
    exact ⟨A, 0, c, [], rfl, Duos.nil _ _, hn⟩
  · obtain ⟨bb, off, rfl, hb, hr⟩ := h4 h0
    have hch : ∀ i, ∃ q : List Int × List Int, i < n → DuoAt w bb (off + i * 2) q := fun i => by
      by_cases hi : i < n
      · obtain ⟨cs', f', y, _, hc, ht'⟩ := hr i hi
        obtain ⟨A1, n1, c1, p1, A2, n2, c2, p2, rfl, i1, i2, q1, q2, q3, q4⟩ := open_ex hsp ht'
        exact ⟨(p1, p2), fun _ => ⟨A1, n1, c1, A2, n2, c2, hc 0 (by omega), hc 1 (by omega), i1, i2, q1, q2, q3, q4⟩⟩
      · exact ⟨([], []), fun h => absurd h hi⟩
    obtain ⟨g, hg⟩ := Classical.axiomOfChoice hch
    refine ⟨_, n, c, (List.range n).map g, rfl, ⟨by simp, fun _ => ⟨bb, off, rfl, hb, fun j hj => ?_⟩⟩, hn⟩
    have : duoAt ((List.range n).map g) j = g j := by
      unfold duoAt
      rw [List.getElem?_map, List.getElem?_range hj]
      rfl
    rw [this]
    exact hg j hj
end
end Go.Proofs.Ytblkpibbcapdeaa
