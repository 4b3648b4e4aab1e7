/- What is off, and what is wrong with a pupil and an example; gradients: package pupil: walks. -/
import Derived.Test.YtblkpibbcapdeaaPupF
namespace Go.Proofs.Ytblkpibbcapdeaa
open Go.RowKit Pl

def offL (y t : List Int) : List Int := upto (fun k => subF (at0 y k) (at0 t k)) y.length
theorem offL_length (y t : List Int) : (offL y t).length = y.length := upto_length _ _
set_option maxRecDepth 100000 in
set_option maxHeartbeats 2000000 in
theorem pup_off (A B : Option Addr) (n c d : Nat) (xs ys : List Int) (w : World) (hx : Ints .i64 w A n xs) (hy : Ints .i64 w B n ys) (hn : n ≤ 200) :
    Calls Try.prog 77 #[.slice A n c, .slice B n d] w (Own1 w (offL xs ys)) := by
  obtain ⟨i0, hi0, hz0, hz1, hz2⟩ := info_parts int_info
  go_enter Try.func77, Try.ntmps77
  go_wp2
  go_loopw [5, 6, 9] (fun o _ i wr => ∃ k : Nat, k ≤ n ∧ i = .int .i64 k ∧ wr.ownsRow w.heap.size 3 1 o k ((upto (fun k => subF (at0 xs k) (at0 ys k)) k).map (.int .i64)) ∧ Below w.heap.size w wr) (fun _ _ i _ => n - (intOf i).toNat)
  case atStart => exact ⟨0, Nat.zero_le _, rfl, World.ownsRow_nil _ _ _ _, Below.refl _ _⟩
  case round =>
    obtain ⟨k, hk, rfl, hown, hb⟩ := hrel
    by_cases hlt : k < n
    · obtain ⟨b, off, rfl, hbl, hc⟩ := hx.cells (by omega)
      obtain ⟨b', off', rfl, hbl', hc'⟩ := hy.cells (by omega)
      have g1 := (hb.cell (p := ⟨b, off + k, none⟩) hbl).trans (hc k hlt)
      have g2 := (hb.cell (p := ⟨b', off' + k, none⟩) hbl').trans (hc' k hlt)
      have z1 : (0 : Int) ≤ (k : Int) := Int.natCast_nonneg _
      have z2 : (k : Int) < (n : Int) := by omega
      have ne1 : u5.ownBlock ≠ some b := fun h => by have := (hown.lt b h).1; omega
      have ne2 : u5.ownBlock ≠ some b' := fun h => by have := (hown.lt b' h).1; omega
      have hbs := hb.size
      clear hc hc'
      go_wp2
      go_region_held3 (fun w' => w'.cell? ⟨b, off + k, none⟩ = some (.int .i64 (at0 xs k)) ∧ w'.cell? ⟨b', off' + k, none⟩ = some (.int .i64 (at0 ys k)))
        (first
          | go_keep
          | (go_split_ands
             refine ⟨?_, ?_⟩
             · (rw [hgrow.cell_far _ (by simp; omega) (Ne.symm ne1)]; assumption)
             · (rw [hgrow.cell_far _ (by simp; omega) (Ne.symm ne2)]; assumption)))
        (first
          | (go_at_call 66; refine (fix_Sub _ _ _).mono ?_; rintro e w' ⟨rfl, rfl⟩)
          | (refine step_append_lies _ (by rfl) _ _ _ (by rfl) w.heap.size 3 i0 _ 1 8 Try.underlying26 hi0 hz0 hz1 hz2 rfl (by omega) u5 k _ (by rfl) (by exact (hown.alloc _).drew)
              ⟨wr.heap.size, 0, none⟩ 1 1 [.int .i64 (subF (at0 xs k) (at0 ys k))] (by rfl) (by rfl) (World.news_of_block (cs := #[.int .i64 (subF (at0 xs k) (at0 ys k))]) (t := 3) (fr := (0, 0)) (heap_alloc_new wr _)) (by simp [Value.oneCell'])
              (by omega) (by unfold maxLen; omega) (by omega) (by simp; omega) (wr.heap.size + 1) (by simp) ?_; intro gg cap w1 hown1 hgrow hat hlt1))
      have hb2 : Below w.heap.size w w1 := Below.grown (hb.alloc hbs _).drew hgrow (by simp; omega) (fun x hx => (hown.lt x hx).1)
      rw [← List.map_singleton, ← List.map_append, ← upto_succ (fun k => subF (at0 xs k) (at0 ys k))] at hown1
      clear hgrow hat hlt1 ne1 ne2 g1 g2
      go_wp2
      go_roundw
      case rel => exact ⟨k + 1, by omega, by go_num, hown1, hb2⟩
      case measure => simp [intOf]; omega
    · obtain rfl : n = k := by omega
      go_wp2
      go_ret
      exact own_one (offL_length xs ys |>.trans hx.len) (by unfold offL; rw [hx.len]; exact hown) hb

/-- What is wrong with a pupil and lists that come in and should come out. -/
def fwE (r1 c1 : Int) (a1 : List Int) (r2 c2 : Int) (a2 b1 b2 : List Int) (ni : Int) : Int := if pupE r1 c1 a1 r2 c2 a2 b1 b2 ≠ 0 then pupE r1 c1 a1 r2 c2 a2 b1 b2 else if ni ≠ c1 then 5 else 0
def bothE (r1 c1 : Int) (a1 : List Int) (r2 c2 : Int) (a2 b1 b2 : List Int) (ni no : Int) : Int := if pupE r1 c1 a1 r2 c2 a2 b1 b2 ≠ 0 then pupE r1 c1 a1 r2 c2 a2 b1 b2 else if ni ≠ c1 ∨ no ≠ r2 then 5 else 0
set_option maxRecDepth 100000 in
set_option maxHeartbeats 2000000 in
theorem pup_both (r1 c1 : Int) (A1 : Option Addr) (n1 k1 : Nat) (a1 : List Int) (r2 c2 : Int) (A2 : Option Addr) (n2 k2 : Nat) (a2 : List Int) (B1 : Option Addr) (m1 d1 : Nat) (b1 : List Int) (B2 : Option Addr) (m2 d2 : Nat) (b2 : List Int) (X T : Option Addr) (ni no xc tc : Nat) (w : World) (i1 : Ints .i64 w A1 n1 a1) (i2 : Ints .i64 w A2 n2 a2) (j1 : Ints .i64 w B1 m1 b1) (j2 : Ints .i64 w B2 m2 b2) (h1 : n1 ≤ 9223372036854775807) (h2 : n2 ≤ 9223372036854775807) (h3 : m1 ≤ 9223372036854775807) (h4 : m2 ≤ 9223372036854775807) :
    Calls Try.prog 75 #[(.agg #[.int .i64 r1, .int .i64 c1, .slice A1 n1 k1, .int .i64 r2, .int .i64 c2, .slice A2 n2 k2, .slice B1 m1 d1, .slice B2 m2 d2]), .agg #[.slice X ni xc, .slice T no tc]] w fun e w' => e = .returned (.int .i64 (bothE r1 c1 a1 r2 c2 a2 b1 b2 ni no)) ∧ Below w.heap.size w w' := by
  have HB := (Blk.made w 100 #[.int .i64 r1, .int .i64 c1, .slice A1 n1 k1, .int .i64 r2, .int .i64 c2, .slice A2 n2 k2, .slice B1 m1 d1, .slice B2 m2 d2]).alloc (.cells #[.slice X ni xc, .slice T no tc] 51)
  have HX := Blk.made' (w.alloc (.cells #[.int .i64 r1, .int .i64 c1, .slice A1 n1 k1, .int .i64 r2, .int .i64 c2, .slice A2 n2 k2, .slice B1 m1 d1, .slice B2 m2 d2] 100)) 51 #[.slice X ni xc, .slice T no tc] (g := w.heap.size + 1) (by simp)
  have bw : Below w.heap.size w ((w.alloc (.cells #[.int .i64 r1, .int .i64 c1, .slice A1 n1 k1, .int .i64 r2, .int .i64 c2, .slice A2 n2 k2, .slice B1 m1 d1, .slice B2 m2 d2] 100)).alloc (.cells #[.slice X ni xc, .slice T no tc] 51)) := ((Below.refl _ _).alloc (Nat.le_refl _) _).alloc (by simp) _
  have HC := Lib.hid (pup_Check r1 c1 A1 n1 k1 a1 r2 c2 A2 n2 k2 a2 B1 m1 d1 b1 B2 m2 d2 b2 _ ((i1.alloc (.cells #[.int .i64 r1, .int .i64 c1, .slice A1 n1 k1, .int .i64 r2, .int .i64 c2, .slice A2 n2 k2, .slice B1 m1 d1, .slice B2 m2 d2] 100)).alloc (.cells #[.slice X ni xc, .slice T no tc] 51)) ((i2.alloc (.cells #[.int .i64 r1, .int .i64 c1, .slice A1 n1 k1, .int .i64 r2, .int .i64 c2, .slice A2 n2 k2, .slice B1 m1 d1, .slice B2 m2 d2] 100)).alloc (.cells #[.slice X ni xc, .slice T no tc] 51)) ((j1.alloc (.cells #[.int .i64 r1, .int .i64 c1, .slice A1 n1 k1, .int .i64 r2, .int .i64 c2, .slice A2 n2 k2, .slice B1 m1 d1, .slice B2 m2 d2] 100)).alloc (.cells #[.slice X ni xc, .slice T no tc] 51)) ((j2.alloc (.cells #[.int .i64 r1, .int .i64 c1, .slice A1 n1 k1, .int .i64 r2, .int .i64 c2, .slice A2 n2 k2, .slice B1 m1 d1, .slice B2 m2 d2] 100)).alloc (.cells #[.slice X ni xc, .slice T no tc] 51)) h1 h2 h3 h4)
  obtain ⟨f0, f1, f2, f3, f4, f5, f6, f7⟩ := HB.pup
  unfold bothE
  obtain ⟨z, hz⟩ : ∃ z, z = pupE r1 c1 a1 r2 c2 a2 b1 b2 := ⟨_, rfl⟩
  rw [← hz] at HC ⊢
  clear hz
  by_cases hE : z ≠ 0
  · rw [if_pos hE]
    have t : (z != 0) = true := by rw [bne_iff_ne]; exact hE
    clear hE
    go_enter Try.func75, Try.ntmps75
    go_wp2_with fail
    refine HC.out.mono ?_
    rintro e w1 ⟨rfl, hb1⟩
    go_wp2
    go_ret
    exact ⟨rfl, bw.trans (hb1.mono bw.size)⟩
  · obtain rfl : z = 0 := by omega
    rw [if_neg (by simp)]
    have hh : ∀ w1 : World, Below ((w.alloc (.cells #[.int .i64 r1, .int .i64 c1, .slice A1 n1 k1, .int .i64 r2, .int .i64 c2, .slice A2 n2 k2, .slice B1 m1 d1, .slice B2 m2 d2] 100)).alloc (.cells #[.slice X ni xc, .slice T no tc] 51)).heap.size ((w.alloc (.cells #[.int .i64 r1, .int .i64 c1, .slice A1 n1 k1, .int .i64 r2, .int .i64 c2, .slice A2 n2 k2, .slice B1 m1 d1, .slice B2 m2 d2] 100)).alloc (.cells #[.slice X ni xc, .slice T no tc] 51)) w1 →
        (w1.cell? ⟨w.heap.size, 1, none⟩ = some (.int .i64 c1) ∧ w1.cell? ⟨w.heap.size, 3, none⟩ = some (.int .i64 r2)) ∧ w1.cell? ⟨w.heap.size + 1, 0, none⟩ = some (.slice X ni xc) ∧ w1.cell? ⟨w.heap.size + 1, 1, none⟩ = some (.slice T no tc) := fun w1 hb1 =>
      ⟨⟨(HB.below hb1 HB.lt).cell 1, (HB.below hb1 HB.lt).cell 3⟩, (HX.below hb1 HX.lt).cell 0, (HX.below hb1 HX.lt).cell 1⟩
    have HH := Lib.hid hh
    clear hh
    by_cases q1 : (ni : Int) = c1
    · have t1 : ((ni : Int) != c1) = false := by rw [bne_eq_false_iff_eq]; exact q1
      by_cases q2 : (no : Int) = r2
      · have t2 : ((no : Int) != r2) = false := by rw [bne_eq_false_iff_eq]; exact q2
        rw [if_neg (by simp [q1, q2])]
        clear q1 q2 hE
        go_enter Try.func75, Try.ntmps75
        go_wp2_with fail
        refine HC.out.mono ?_
        rintro e w1 ⟨rfl, hb1⟩
        obtain ⟨⟨u1, u2⟩, u3, u4⟩ := HH.out w1 hb1
        clear f0 f1 f2 f3 f4 f5 f6 f7
        go_wp2
        go_ret
        exact ⟨rfl, bw.trans (hb1.mono bw.size)⟩
      · have t2 : ((no : Int) != r2) = true := by rw [bne_iff_ne]; exact q2
        rw [if_pos (.inr q2)]
        clear q1 q2 hE
        go_enter Try.func75, Try.ntmps75
        go_wp2_with fail
        refine HC.out.mono ?_
        rintro e w1 ⟨rfl, hb1⟩
        obtain ⟨⟨u1, u2⟩, u3, u4⟩ := HH.out w1 hb1
        clear f0 f1 f2 f3 f4 f5 f6 f7
        go_wp2
        go_ret
        exact ⟨rfl, bw.trans (hb1.mono bw.size)⟩
    · have t1 : ((ni : Int) != c1) = true := by rw [bne_iff_ne]; exact q1
      rw [if_pos (.inl q1)]
      clear q1 hE
      go_enter Try.func75, Try.ntmps75
      go_wp2_with fail
      refine HC.out.mono ?_
      rintro e w1 ⟨rfl, hb1⟩
      obtain ⟨⟨u1, u2⟩, u3, u4⟩ := HH.out w1 hb1
      clear f0 f1 f2 f3 f4 f5 f6 f7
      go_wp2
      go_ret
      exact ⟨rfl, bw.trans (hb1.mono bw.size)⟩
end Go.Proofs.Ytblkpibbcapdeaa
