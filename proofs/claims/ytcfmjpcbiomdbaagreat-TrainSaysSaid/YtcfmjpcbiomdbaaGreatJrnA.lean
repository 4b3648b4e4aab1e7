/- Package journal: Root, Chain: walks. -/
import Derived.Test.YtcfmjpcbiomdbaaGreatTrnA
namespace Go.Proofs.YtcfmjpcbiomdbaaGreat
open Go.RowKit Pl

set_option maxRecDepth 100000 in
set_option maxHeartbeats 2000000 in
theorem jrn_Root (A1 A2 : Option Addr) (n1 k1 n2 k2 : Nat) (wt mv : List Int) (w : World) (q1 : Ints .i64 w A1 n1 wt) (q2 : Ints .i64 w A2 n2 mv) (hs : (n1 + n2) * 8 ≤ 140737488351232) :
    Calls Tryz.prog 42 #[.agg #[.slice A1 n1 k1, .slice A2 n2 k2]] w fun e w' => e = .returned (.tuple #[.int .u64 (rootO (wt ++ mv)), .int .i64 (lvE (n1 + n2))]) ∧ Below w.heap.size w w' := by
  have HL : (wt ++ mv).length = n1 + n2 := by rw [List.length_append, q1.len, q2.len]
  have HS1 := Blk.made w 28 #[.slice A1 n1 k1, .slice A2 n2 k2]
  obtain ⟨⟨f0, f1⟩, _⟩ := HS1.two
  have hv : Vals ((w.alloc (.cells #[.slice A1 n1 k1, .slice A2 n2 k2] 28)).alloc (.cells #[.slice A1 n1 k1, .slice A2 n2 k2] 26)) (some ⟨w.heap.size + 1, 0, none⟩) 2 [.slice A1 n1 k1, .slice A2 n2 k2] := by
    have h := Vals.made (w.alloc (.cells #[.slice A1 n1 k1, .slice A2 n2 k2] 28)) #[.slice A1 n1 k1, .slice A2 n2 k2] 26 2 [.slice A1 n1 k1, .slice A2 n2 k2] rfl rfl
    simpa using h
  have hp : Parts ((w.alloc (.cells #[.slice A1 n1 k1, .slice A2 n2 k2] 28)).alloc (.cells #[.slice A1 n1 k1, .slice A2 n2 k2] 26)) [.slice A1 n1 k1, .slice A2 n2 k2] [wt, mv] := ⟨rfl, fun j hj => by
    match j, hj with
    | 0, _ => exact ⟨A1, n1, k1, rfl, (q1.alloc _).alloc _⟩
    | 1, _ => exact ⟨A2, n2, k2, rfl, (q2.alloc _).alloc _⟩⟩
  have HCC := fun c => sl_Concat (some ⟨w.heap.size + 1, 0, none⟩) 2 c _ _ _ hv hp (n1 + n2) (by simpa using HL) hs (by omega)
  rw [show [wt, mv].flatten = wt ++ mv by simp] at HCC
  have HC := Lib.hid HCC
  have hbw : Below w.heap.size w ((w.alloc (.cells #[.slice A1 n1 k1, .slice A2 n2 k2] 28)).alloc (.cells #[.slice A1 n1 k1, .slice A2 n2 k2] 26)) := ((Below.refl _ _).alloc (Nat.le_refl _) _).alloc (by simp) _
  obtain ⟨xs, hxs⟩ : ∃ xs, xs = wt ++ mv := ⟨_, rfl⟩
  obtain ⟨N, hN⟩ : ∃ N, N = n1 + n2 := ⟨_, rfl⟩
  rw [← hxs] at HC HL ⊢
  rw [← hN] at HL hs ⊢
  have HLL := Lib.hid HL
  clear hv hp HCC q1 q2 hxs hN HS1 HL
  go_enter Tryz.func42, Tryz.ntmps42
  go_wp2_with fail
  refine (HC.out _).mono ?_
  rintro e w1 ⟨S, sc, rfl, hown, hb1⟩
  replace hbw := hbw.trans (hb1.mono hbw.size)
  have hx := Ints.of_own hown rfl
  have hc := own_capT hown
  rw [HLL.out] at hx hc ⊢
  clear hown HC f0 f1 hb1
  have HR := Lib.hid (tree_Root_any S N sc xs w1 hx hc (by omega))
  go_wp2_with fail
  refine HR.out.mono ?_
  rintro e w2 ⟨rfl, hb2⟩
  go_wp2
  go_ret2
  exact ⟨rfl, hbw.trans (hb2.mono hbw.size)⟩
theorem root_fine (c : Cfg) (h : c.Ok) (s : List Int × List Int) (A1 A2 : Option Addr) (k1 k2 : Nat) (w : World) (q1 : Ints .i64 w A1 c.N s.1) (q2 : Ints .i64 w A2 c.N s.2) :
    Calls Tryz.prog 42 #[.agg #[.slice A1 c.N k1, .slice A2 c.N k2]] w fun e w' => e = .returned (.tuple #[.int .u64 (rootS s), .int .i64 0]) ∧ Below w.heap.size w w' := by
  have h1 := h.n1
  have h40 := h.n40
  have H := jrn_Root A1 A2 c.N k1 c.N k2 s.1 s.2 w q1 q2 (by omega)
  rw [show lvE (c.N + c.N) = 0 by unfold lvE; rw [if_neg (by omega), if_neg (by omega)]] at H
  exact H

def negV : Value → Bool
  | .int _ n => decide (n < 0)
  | _ => false
theorem negV_any (k : IntKind) (xs : List Int) : (xs.map (Value.int k)).any negV = !(xs.all fun n => decide (0 ≤ n)) := by
  induction xs with
  | nil => rfl
  | cons x xs ih =>
    rw [List.map_cons, List.any_cons, List.all_cons, ih]
    have : negV (.int k x) = !decide (0 ≤ x) := by
      show decide (x < 0) = _
      by_cases h : 0 ≤ x
      · rw [decide_eq_true h, decide_eq_false (by omega)]; rfl
      · rw [decide_eq_false h, decide_eq_true (by omega)]; rfl
    rw [this]
    cases decide (0 ≤ x) <;> simp
end Go.Proofs.YtcfmjpcbiomdbaaGreat

/- Package journal: Chain: a walk. -/
namespace Go.Proofs.YtcfmjpcbiomdbaaGreat
open Go.RowKit Pl

theorem of_fine (kind : Int) (xs : List Int) (n : Nat) (hl : xs.length = n) (hn : n ≤ 200) (k0 : 0 ≤ kind) (k1 : kind < 18446744073709551616) (hu : U64 xs) (A : Option Addr) (c : Nat) (W : World) (hx : Ints .u64 W A n xs) :
    Calls Tryz.prog 105 #[.int .u64 kind, .slice A n c] W fun e w' => e = .returned (.tuple #[.int .u64 (ofI kind xs), .int .i64 0]) ∧ Below W.heap.size W w' := by
  have h := dig_Of kind A n c xs W k0 k1 hx hu
  have e1 : ofE xs = 0 := if_neg (by omega)
  have e2 : ofO kind xs = ofI kind xs := if_neg (by omega)
  rw [e1, e2] at h
  exact h
theorem chE_ok {r : Rec} (h : chE r = 0) : 0 ≤ r.step ∧ 0 ≤ r.rate ∧ r.batch.length ≤ 8 ∧ r.batch.all (fun n => decide (0 ≤ n)) = true := by
  unfold chE at h
  split at h
  · assumption
  · omega
theorem chE_01 (r : Rec) : chE r = 0 ∨ chE r = 5 := by unfold chE; split <;> simp

end Go.Proofs.YtcfmjpcbiomdbaaGreat

/- Package journal: Head: a walk. -/
namespace Go.Proofs.YtcfmjpcbiomdbaaGreat
open Go.RowKit Pl

/-- Two lists that stand in a new block are laid behind each other. -/
theorem cat_fine (A1 A2 : Option Addr) (n1 k1 n2 k2 : Nat) (p1 p2 : List Int) (W : World) (q1 : Ints .i64 W A1 n1 p1) (q2 : Ints .i64 W A2 n2 p2) (hs : (n1 + n2) * 8 ≤ 140737488351232) (g c : Nat) (hg : W.heap.size = g) (K : Nat) (hK : n1 + n2 = K) :
    Calls Tryz.prog 66 #[.slice (some ⟨g, 0, none⟩) 2 c] (W.alloc (.cells #[.slice A1 n1 k1, .slice A2 n2 k2] 26)) (fun e w' => ∃ S s, e = .returned (.slice S K s) ∧ Ints .i64 w' S K (p1 ++ p2) ∧ K ≤ s ∧ Below (W.alloc (.cells #[.slice A1 n1 k1, .slice A2 n2 k2] 26)).heap.size (W.alloc (.cells #[.slice A1 n1 k1, .slice A2 n2 k2] 26)) w') := by
  subst hg
  subst hK
  have HL : (p1 ++ p2).length = n1 + n2 := by rw [List.length_append, q1.len, q2.len]
  have hv := Vals.made W #[.slice A1 n1 k1, .slice A2 n2 k2] 26 2 [.slice A1 n1 k1, .slice A2 n2 k2] rfl rfl
  have hp : Parts (W.alloc (.cells #[.slice A1 n1 k1, .slice A2 n2 k2] 26)) [.slice A1 n1 k1, .slice A2 n2 k2] [p1, p2] := ⟨rfl, fun j hj => by
    match j, hj with
    | 0, _ => exact ⟨A1, n1, k1, rfl, q1.alloc _⟩
    | 1, _ => exact ⟨A2, n2, k2, rfl, q2.alloc _⟩⟩
  have HC := sl_Concat (some ⟨W.heap.size, 0, none⟩) 2 c _ _ _ hv hp (n1 + n2) (by simpa using HL) hs (by omega)
  rw [show [p1, p2].flatten = p1 ++ p2 by simp] at HC
  refine HC.mono ?_
  rintro e w' ⟨S, s, rfl, hO, hb⟩
  have h1 := Ints.of_own hO rfl
  have h2 := own_capT hO
  rw [HL] at h1 h2 ⊢
  exact ⟨S, s, rfl, h1, h2, hb⟩
theorem lit_step {L n g H : Nat} {xs : List Int} {wr wx w1 : World} {l : Value} (hI : Ints .i64 wr (some ⟨L, 0, none⟩) n xs) (hne : l.ownBlock ≠ some L) (hL : L < wr.heap.size) (hb : Below wr.heap.size wr wx) (hg : wx.grownBy w1 l.ownBlock) (hgg : l.ownBlock = some g ∨ g = H) (hH : wr.heap.size ≤ H) :
    Ints .i64 w1 (some ⟨L, 0, none⟩) n xs ∧ some g ≠ some L ∧ L < w1.heap.size := by
  refine ⟨ints_grown (hI.below hb) hg (fun b off e => by cases e; exact hne), fun e => ?_, Nat.lt_of_lt_of_le (Nat.lt_of_lt_of_le hL hb.size) hg.size⟩
  injection e with e
  subst e
  rcases hgg with h | h
  · exact hne h
  · omega
theorem upto_duo (f : List Int × List Int → Int) (ds : Data) {n : Nat} (h : ds.length = n) : upto (fun i => f (duoAt ds i)) n = ds.map f := by
  subst h
  apply List.ext_getElem (by simp [upto])
  intro j h1 h2
  simp only [upto, List.length_map, List.length_range] at h1
  simp [upto, duoAt, List.getElem?_eq_getElem h1]

end Go.Proofs.YtcfmjpcbiomdbaaGreat

/- Package journal: Make: a walk. -/
namespace Go.Proofs.YtcfmjpcbiomdbaaGreat
open Go.RowKit Pl

theorem rec_info : (Tryz.prog.info? 33).map (fun i => (i.zero, i.size, i.bytes)) = some (some (.agg #[.int .i64 0, .slice none 0 0, .int .i64 0, .int .u64 0, .int .u64 0]), 5, 56) := by kernel_rfl
theorem chainC_bd (c : Cfg) (ds : Data) : ∀ k, 0 ≤ chainC c ds k ∧ chainC c ds k < 18446744073709551616
  | 0 => by
    have h1 := ofI_lo 5 (headW c ds)
    have h2 := ofI_hi 5 (headW c ds)
    show 0 ≤ ofI 5 (headW c ds) ∧ ofI 5 (headW c ds) < _
    omega
  | k + 1 => by
    have h1 := ofI_lo 6 (chW (chainC c ds k) (recB c ds k))
    have h2 := ofI_hi 6 (chW (chainC c ds k) (recB c ds k))
    show 0 ≤ ofI 6 (chW (chainC c ds k) (recB c ds k)) ∧ ofI 6 (chW (chainC c ds k) (recB c ds k)) < _
    omega
theorem recC_K {m : Option Nat} {w : World} {o : Option Nat} {b : Value} (c : Cfg) (ds : Data) (k : Nat) (h : ListV m w o b ((batI c ds k).map fun (n : Nat) => (n : Int))) :
    RecK m w o [.int .i64 k, b, .int .i64 (ratI c k), .int .u64 (rootS (states c ds (k + 1))), .int .u64 (chainC c ds (k + 1))] (recC c ds k) := ⟨b, rfl, h⟩
theorem But.far {g : Nat} {a b : World} (h : But g a b) {p : Addr} (hp : a.heap.size ≤ p.block) (v : Value) : But g a (b.setCell p v) :=
  ⟨h.os, h.tape, h.output, by have := h.size; simpa using this, fun k hk hn => (heap_setCell_other b p k v (by omega)).trans (h.block k hk hn)⟩
theorem Blk.rec5 {w : World} {g : Nat} {t : TypeId} {a0 a1 a2 a3 a4 : Value} (h : Blk w g t #[a0, a1, a2, a3, a4]) : (w.cell? ⟨g, 0, none⟩ = some a0 ∧ w.cell? ⟨g, 1, none⟩ = some a1 ∧ w.cell? ⟨g, 2, none⟩ = some a2 ∧ w.cell? ⟨g, 3, none⟩ = some a3 ∧ w.cell? ⟨g, 4, none⟩ = some a4) ∧
    w.frozen? ⟨g, 0, none⟩ = false ∧ w.frozen? ⟨g, 1, none⟩ = false ∧ w.frozen? ⟨g, 2, none⟩ = false ∧ w.frozen? ⟨g, 3, none⟩ = false ∧ w.frozen? ⟨g, 4, none⟩ = false :=
  ⟨⟨h.cell 0, h.cell 1, h.cell 2, h.cell 3, h.cell 4⟩, h.frozen 0, h.frozen 1, h.frozen 2, h.frozen 3, h.frozen 4⟩

end Go.Proofs.YtcfmjpcbiomdbaaGreat

/- The document's own check of a course; a small course: walks. -/
namespace Go.Proofs.YtcfmjpcbiomdbaaGreat
open Go.RowKit Pl

theorem ref_Right_told {A : Option Addr} {n c : Nat} {xs : List Int} {b : Bool} (hb : okL xs = b) {w : World} (hx : Ints .i64 w A n xs) (hn : n ≤ 9223372036854775807) :
    Calls Tryz.prog 24 #[.slice A n c] w fun e w' => e = .returned (.bool b) ∧ Quiet w w' := by
  subst hb
  exact ref_Right A n c xs w hx hn
theorem rcfg_Check (c : Cfg) (w : World) : Calls Tryz.prog 5 #[.agg #[.int .i64 c.ci, .int .i64 c.ch, .int .i64 c.co, .int .u64 c.seed, .int .i64 c.batch, .int .i64 c.steps, .int .i64 c.rate, .int .i64 c.decay, .int .i64 c.how, .int .i64 c.keep, .int .i64 c.clip]] w fun e w' => e = .returned (.int .i64 c.E) ∧ Below w.heap.size w w' := ref_Config c.ci c.ch c.co c.seed c.batch c.steps c.rate c.decay c.how c.keep c.clip w

set_option maxRecDepth 100000 in
set_option maxHeartbeats 4000000 in
theorem ref_Course (c : Cfg) (D : Option Addr) (n dc : Nat) (ds : Data) (w : World) (hd : Duos w D n ds) (hn : n ≤ 9223372036854775806) :
    Calls Tryz.prog 6 #[.agg #[.int .i64 c.ci, .int .i64 c.ch, .int .i64 c.co, .int .u64 c.seed, .int .i64 c.batch, .int .i64 c.steps, .int .i64 c.rate, .int .i64 c.decay, .int .i64 c.how, .int .i64 c.keep, .int .i64 c.clip], .slice D n dc] w fun e w' => e = .returned (.int .i64 (crs c ds)) ∧ Below w.heap.size w w' := by
  have HB := Blk.made w 24 #[.int .i64 c.ci, .int .i64 c.ch, .int .i64 c.co, .int .u64 c.seed, .int .i64 c.batch, .int .i64 c.steps, .int .i64 c.rate, .int .i64 c.decay, .int .i64 c.how, .int .i64 c.keep, .int .i64 c.clip]
  have HL := Lib.hid hd.len
  by_cases hE : c.E = 0
  · have HE := Lib.hid hE
    by_cases h0 : n = 0
    · have F := Lib.hid (show crs c ds = 1 from crsE_none hE (by rw [HL.out]; exact h0))
      have t : ((n : Int) == 0) = true := by rw [beq_iff_eq]; omega
      clear hE
      go_enter Tryz.func6, Tryz.ntmps6
      go_wp2_with fail
      refine (rcfg_Check c _).mono ?_
      rintro e x1 ⟨rfl, hb1⟩
      rw [HE.out]
      have hbw : Below w.heap.size w x1 := Below.trans (B := w.heap.size) (by repeat (first | exact Below.refl _ _ | assumption | refine bel_drewN ?_ _ | refine Below.drew ?_ | (refine Below.alloc ?_ (by simp <;> omega) _) | (refine Below.setCell ?_ (by simp <;> omega) _))) (hb1.mono (by simp))
      go_wp2
      go_ret
      rw [F.out]
      exact ⟨rfl, hbw⟩
    · have t : ((n : Int) == 0) = false := by rw [beq_eq_false_iff_ne]; omega
      by_cases h16 : 16 < n
      · have F := Lib.hid (show crs c ds = 2 from crsE_many hE (by rw [HL.out]; exact h16))
        have t2 : (16 : Int) < (n : Int) := by omega
        clear hE h0
        go_enter Tryz.func6, Tryz.ntmps6
        go_wp2_with fail
        refine (rcfg_Check c _).mono ?_
        rintro e x1 ⟨rfl, hb1⟩
        rw [HE.out]
        have hbw : Below w.heap.size w x1 := Below.trans (B := w.heap.size) (by repeat (first | exact Below.refl _ _ | assumption | refine bel_drewN ?_ _ | refine Below.drew ?_ | (refine Below.alloc ?_ (by simp <;> omega) _) | (refine Below.setCell ?_ (by simp <;> omega) _))) (hb1.mono (by simp))
        go_wp2
        go_ret
        rw [F.out]
        exact ⟨rfl, hbw⟩
      · have FB := Lib.hid (fun k hk hb => show crs c ds = 5 from crsE_form hE (by rw [HL.out]; exact h0) (by rw [HL.out]; exact h16) (k := k) (by rw [HL.out]; exact hk) hb)
        have FG := Lib.hid (fun hb => show crs c ds = 0 from crsE_fine hE (by rw [HL.out]; exact h0) (by rw [HL.out]; exact h16) (by rw [HL.out]; exact hb))
        have t2 : ¬ (16 : Int) < (n : Int) := by omega
        clear hE h0
        go_enter Tryz.func6, Tryz.ntmps6
        go_wp2_with fail
        refine (rcfg_Check c _).mono ?_
        rintro e x1 ⟨rfl, hb1⟩
        rw [HE.out]
        have HB1 := HB.below hb1 (by simp)
        have hbw : Below w.heap.size w x1 := Below.trans (B := w.heap.size) (by repeat (first | exact Below.refl _ _ | assumption | refine bel_drewN ?_ _ | refine Below.drew ?_ | (refine Below.alloc ?_ (by simp <;> omega) _) | (refine Below.setCell ?_ (by simp <;> omega) _))) (hb1.mono (by simp))
        have hlt1 := HB1.lt
        have hd1 := hd.below hbw
        clear HB hb1 hd
        go_wp2
        go_loopw [6] (fun j wr => ∃ k : Nat, k ≤ n ∧ j = .int .i64 k ∧ (∀ i, i < k → exB c.ci c.co (duoAt ds i) = true) ∧ Below x1.heap.size x1 wr) (fun j _ => n - (intOf j).toNat)
        case atStart => exact ⟨0, Nat.zero_le _, rfl, fun i hi => absurd hi (by omega), Below.refl _ _⟩
        case round =>
          obtain ⟨k, hk, rfl, hall, hb⟩ := hrel
          have HALL := Lib.hid hall
          clear hall
          by_cases hlt : k < n
          · obtain ⟨b, off, hD, hbl, hc⟩ := (hd1.below hb).cells (by omega)
            obtain ⟨A1, n1, c1, A2, n2, c2, g1, g2, i1, i2, z1, z2, z3, z4⟩ := hc k hlt
            subst hD
            have k0 : (0 : Int) ≤ (k : Int) := by omega
            have k1 : (k : Int) < (n : Int) := by omega
            obtain ⟨d0, d1, d2, _⟩ := (HB1.below hb hlt1).cfg
            have l1 := i1.len
            have l2 := i2.len
            have zz1 : n1 ≤ 9223372036854775807 := by unfold maxLen at *; omega
            have zz2 : n2 ≤ 9223372036854775807 := by unfold maxLen at *; omega
            have hbs := hb.size
            clear hc
            by_cases q1 : (n1 : Int) = c.ci
            · have t3 : ((n1 : Int) != c.ci) = false := by rw [bne_eq_false_iff_eq]; exact q1
              by_cases q2 : (n2 : Int) = c.co
              · have t4 : ((n2 : Int) != c.co) = false := by rw [bne_eq_false_iff_eq]; exact q2
                cases q3 : okL (duoAt ds k).1
                · have FX := Lib.hid (show exB c.ci c.co (duoAt ds k) = false by unfold exB; rw [q3]; simp)
                  have H3 := Lib.hid (fun W (q : Ints .i64 W A1 n1 (duoAt ds k).1) => ref_Right_told (c := c1) q3 q zz1)
                  clear q1 q2 q3
                  go_wp2
                  go_quiet ((go_at_call 24; exact Calls.quiet_of (H3.out _ (i1.drewN _))))
                  go_wp2
                  go_ret
                  rw [FB.out k hlt FX.out]
                  exact ⟨rfl, hbw.trans ((bel_drewN hb _).mono hbw.size)⟩
                · have H3 := Lib.hid (fun W (q : Ints .i64 W A1 n1 (duoAt ds k).1) => ref_Right_told (c := c1) q3 q zz1)
                  cases q4 : okL (duoAt ds k).2
                  · have FX := Lib.hid (show exB c.ci c.co (duoAt ds k) = false by unfold exB; rw [q4]; simp)
                    have H4 := Lib.hid (fun W (q : Ints .i64 W A2 n2 (duoAt ds k).2) => ref_Right_told (c := c2) q4 q zz2)
                    clear q1 q2 q3 q4
                    go_wp2
                    go_quiet ((go_at_call 24; first | (with_reducible exact Calls.quiet_of (H3.out _ (i1.drewN _))) | (with_reducible exact Calls.quiet_of (H4.out _ (i2.drewN _)))))
                    go_wp2
                    go_ret
                    rw [FB.out k hlt FX.out]
                    exact ⟨rfl, hbw.trans ((bel_drewN hb _).mono hbw.size)⟩
                  · have FX := Lib.hid (show exB c.ci c.co (duoAt ds k) = true by unfold exB; rw [l1, l2, q1, q2, q3, q4]; simp)
                    have H4 := Lib.hid (fun W (q : Ints .i64 W A2 n2 (duoAt ds k).2) => ref_Right_told (c := c2) q4 q zz2)
                    clear q1 q2 q3 q4
                    go_wp2
                    go_quiet ((go_at_call 24; first | (with_reducible exact Calls.quiet_of (H3.out _ (i1.drewN _))) | (with_reducible exact Calls.quiet_of (H4.out _ (i2.drewN _)))))
                    go_wp2
                    go_roundw
                    case rel =>
                      refine ⟨k + 1, by omega, by go_num, fun i hi => ?_, bel_drewN hb _⟩
                      by_cases hik : i = k
                      · subst hik; exact FX.out
                      · exact HALL.out i (by omega)
                    case measure => simp [intOf]; omega
              · have t4 : ((n2 : Int) != c.co) = true := by rw [bne_iff_ne]; exact q2
                have FX := Lib.hid (show exB c.ci c.co (duoAt ds k) = false by unfold exB; rw [l2, beq_eq_false_iff_ne.2 q2]; simp)
                clear q1 q2
                go_wp2
                go_quiet (fail)
                go_wp2
                go_ret
                rw [FB.out k hlt FX.out]
                exact ⟨rfl, hbw.trans ((bel_drewN hb _).mono hbw.size)⟩
            · have t3 : ((n1 : Int) != c.ci) = true := by rw [bne_iff_ne]; exact q1
              have FX := Lib.hid (show exB c.ci c.co (duoAt ds k) = false by unfold exB; rw [l1, beq_eq_false_iff_ne.2 q1]; simp)
              clear q1
              go_wp2
              go_quiet (fail)
              go_wp2
              go_ret
              rw [FB.out k hlt FX.out]
              exact ⟨rfl, hbw.trans ((bel_drewN hb _).mono hbw.size)⟩
          · obtain rfl : k = n := by omega
            go_wp2
            go_ret
            rw [FG.out HALL.out]
            exact ⟨rfl, hbw.trans (hb.mono hbw.size)⟩
  · have t : (c.E != 0) = true := by rw [bne_iff_ne]; exact hE
    have F := Lib.hid (show crs c ds = c.E from crsE_cfg hE)
    clear hE
    go_enter Tryz.func6, Tryz.ntmps6
    go_wp2_with fail
    refine (rcfg_Check c _).mono ?_
    rintro e x1 ⟨rfl, hb1⟩
    have hbw : Below w.heap.size w x1 := Below.trans (B := w.heap.size) (by repeat (first | exact Below.refl _ _ | assumption | refine bel_drewN ?_ _ | refine Below.drew ?_ | (refine Below.alloc ?_ (by simp <;> omega) _) | (refine Below.setCell ?_ (by simp <;> omega) _))) (hb1.mono (by simp))
    go_wp2
    go_ret
    rw [F.out]
    exact ⟨rfl, hbw⟩

/-- A state in its box. -/
def StAt (w : World) (m N : Nat) (s : List Int × List Int) : Prop := ∃ A1 k1 A2 k2, Blk w m 28 #[.slice A1 N k1, .slice A2 N k2] ∧ Ints .i64 w A1 N s.1 ∧ Ints .i64 w A2 N s.2 ∧ N ≤ k1
theorem stat_laid {u : World} {b N : Nat} {s : List Int × List Int} {A1 A2 : Option Addr} {k1 k2 : Nat} (l1 : s.1.length = N) (l2 : s.2.length = N) (o1 : u.ownsRow b 3 1 (.slice A1 N k1) N (s.1.map (.int .i64))) (o2 : u.ownsRow b 3 1 (.slice A2 N k2) N (s.2.map (.int .i64))) :
    StAt (u.alloc (.cells #[.slice A1 N k1, .slice A2 N k2] 28)) u.heap.size N s :=
  ⟨A1, k1, A2, k2, Blk.made _ _ _, (Ints.of_own o1 l1).alloc _, (Ints.of_own o2 l2).alloc _, own_capT o1⟩
theorem stat_stored {u : World} {b g N : Nat} {s : List Int × List Int} {A1 A2 : Option Addr} {k1 k2 : Nat} {x y : Value} (hz : Blk u g 28 #[x, y]) (hgb : g < b) (l1 : s.1.length = N) (l2 : s.2.length = N) (o1 : u.ownsRow b 3 1 (.slice A1 N k1) N (s.1.map (.int .i64))) (o2 : u.ownsRow b 3 1 (.slice A2 N k2) N (s.2.map (.int .i64))) :
    StAt ((u.setCell ⟨g, 0, none⟩ (.slice A1 N k1)).setCell ⟨g, 1, none⟩ (.slice A2 N k2)) g N s ∧ But g u ((u.setCell ⟨g, 0, none⟩ (.slice A1 N k1)).setCell ⟨g, 1, none⟩ (.slice A2 N k2)) := by
  have hb := ((But.refl g u).put 0 (.slice A1 N k1)).put 1 (.slice A2 N k2)
  exact ⟨⟨A1, k1, A2, k2, (hz.put 0 _).put 1 _, Ints.of_own (own_but o1 hb hgb) l1, Ints.of_own (own_but o2 hb hgb) l2, own_capT o1⟩, hb⟩

theorem StHeld.at' {m : Option Nat} {B : Nat} {f : Nat → List Int × List Int} {k g c N : Nat} {w : World} (h : StHeld m B f k (.slice (some ⟨g, 0, none⟩) k c) w) {j : Nat} (hj : j < k) (h1 : (f j).1.length = N) (h2 : (f j).2.length = N) :
    ∃ A1 c1 A2 c2, w.cell? ⟨g, j * 2, none⟩ = some (.slice A1 N c1) ∧ w.cell? ⟨g, j * 2 + 1, none⟩ = some (.slice A2 N c2) ∧ Ints .i64 w A1 N (f j).1 ∧ Ints .i64 w A2 N (f j).2 ∧ N ≤ c1 ∧ g < w.heap.size := by
  obtain ⟨A1, c1, A2, c2, e1, e2, i1, i2, l1, _, hg⟩ := StHeld.duos h hj
  rw [h1] at e1 i1 l1
  rw [h2] at e2 i2
  exact ⟨A1, c1, A2, c2, e1, e2, i1, i2, l1, hg⟩

/-- Two lists of numbers are held against each other: what the call answers, told ahead. -/
theorem equalI_told {A B : Option Addr} {n m c d : Nat} {xs ys : List Int} {r : Bool} (hr : decide (xs = ys) = r) {w : World} (hx : Ints .i64 w A n xs) (hy : Ints .i64 w B m ys) (hn : n ≤ 9223372036854775806) :
    Calls Tryz.prog 17 #[.slice A n c, .slice B m d] w fun e w' => e = .returned (.bool r) ∧ Quiet w w' := by
  rw [← hr]
  exact equalI_any A B n c d m xs ys w hx hy hn

end Go.Proofs.YtcfmjpcbiomdbaaGreat
