/- The law TopConvicts holds of the given program for every input. No condition. -/
import Derived.Test.YtcfmjpcbiomdbaaTopF0
import Derived.Test.YtcfmjpcbiomdbaaConv
import Derived.Test.YtcfmjpcbiomdbaaAudF
namespace Go.Proofs.Ytcfmjpcbiomdbaa
open Go.ChangeShapes Go.WideShapes Go.ChangeAt Go.RowKit Go.Sort Pl

theorem RecsR.chains {w : World} {A : Option Addr} {n : Nat} {f : Nat → Rec} (h : RecsR w A n (upto f n)) : Chains w A n (upto (fun j => (f j).chain) n) :=
  ⟨upto_length _ _, fun hn => by
    obtain ⟨b, off, e, hb, hc⟩ := h.cells hn
    refine ⟨b, off, e, hb, fun j hj => ?_⟩
    obtain ⟨L, k, ha, _⟩ := hc j hj
    rw [recAt_upto _ hj] at ha
    have e2 : Pl.at0 (upto (fun j => (f j).chain) n) j = (f j).chain := by
      unfold Pl.at0 upto
      rw [List.getElem?_map, List.getElem?_range hj]
      rfl
    rw [e2]
    exact ha.2.2.2.2⟩
theorem sameC_at {a b : Nat → Rec} {n i : Nat} (h : i < n) : sameC (upto (fun j => (a j).chain) n) (upto (fun j => (b j).chain) n) i = ((a i).chain == (b i).chain) := by
  unfold sameC at0 upto
  rw [List.getElem?_map, List.getElem?_map, List.getElem?_range h]
  rfl
/-- What the search tells. -/
theorem convict (head : Int) (f g a b : Nat → Rec) (n : Nat) (h1 : 1 ≤ n) (h5 : n ≤ 5) (ha : ∀ j, j < n → (a j).chain = chainX head f (j + 1)) (hb : ∀ j, j < n → (b j).chain = chainX head g (j + 1)) :
    ∃ (K : Nat) (q : Int), (findP (sameC (upto (fun j => (a j).chain) n) (upto (fun j => (b j).chain) n)) n).1 = (K : Int) ∧ (findP (sameC (upto (fun j => (a j).chain) n) (upto (fun j => (b j).chain) n)) n).2 = q ∧ q ≤ 4 ∧ K ≤ n ∧ (K = n → chainX head f n = chainX head g n) ∧ (K < n → likeR (f K) (g K) = false) := by
  obtain ⟨p0, p1, p2, p3⟩ := findP_place (sameC (upto (fun j => (a j).chain) n) (upto (fun j => (b j).chain) n)) n (by omega)
  obtain ⟨_, q1⟩ := findP_asks (sameC (upto (fun j => (a j).chain) n) (upto (fun j => (b j).chain) n)) n 3 (by omega) (by omega)
  obtain ⟨K, hK⟩ : ∃ K : Nat, (findP (sameC (upto (fun j => (a j).chain) n) (upto (fun j => (b j).chain) n)) n).1 = (K : Int) := ⟨_, (Int.toNat_of_nonneg p0).symm⟩
  rw [hK] at p1 p2 p3
  refine ⟨K, _, hK, rfl, by omega, by omega, fun e => ?_, fun e => ?_⟩
  · have h2 := p2 (by rw [e])
    rw [sameC_at (by omega), ha _ (by omega), hb _ (by omega), show n - 1 + 1 = n by omega] at h2
    exact eq_of_beq h2
  · obtain ⟨h2, h3⟩ := p3 (by omega)
    rw [Int.toNat_natCast, sameC_at e, ha _ e, hb _ e] at h2
    refine part_first (head := head) ?_ (by simpa using h2)
    rcases Nat.eq_zero_or_pos K with h0 | h0
    · exact .inl h0
    · right
      rcases h3 with h3 | h3
      · omega
      · rw [show ((K : Int) - 1).toNat = K - 1 by omega, sameC_at (by omega), ha _ (by omega), hb _ (by omega), show K - 1 + 1 = K by omega] at h3
        exact eq_of_beq h3
theorem overF_of (f l : Nat → Rec) : ∀ q j, overF f l q j = f j ∨ ∃ i, i < q ∧ overF f l q j = l i
  | 0, _ => .inl rfl
  | q + 1, j => by
    have up : (overF f l q j = f j ∨ ∃ i, i < q ∧ overF f l q j = l i) → (overF f l q j = f j ∨ ∃ i, i < q + 1 ∧ overF f l q j = l i) := fun h => by
      rcases h with h | ⟨i, h1, h2⟩
      · exact .inl h
      · exact .inr ⟨i, by omega, h2⟩
    by_cases h : (l q).step = -1
    · rw [overF_skip h]
      exact up (overF_of f l q j)
    · rw [overF_put h]
      unfold bentF
      by_cases hj : j = q
      · rw [if_pos hj]
        exact .inr ⟨q, by omega, rfl⟩
      · rw [if_neg hj]
        exact up (overF_of f l q j)
theorem good_course {c : Cfg} {ds : Data} (hf : Fine c ds) {k : Nat} (hk : (k : Int) < c.steps) : Good (recC c ds k) := by
  have hr := ratI_bd c hf.ok k hk
  have hst := hf.ok.st
  have ht := rootO_u64 ((states c ds (k + 1)).1 ++ (states c ds (k + 1)).2)
  have h16 := hf.d16
  refine ⟨chE_recC hf hk, ?_, ?_, ht.1, ht.2, fun z hz => ?_⟩
  · show (k : Int) < _; omega
  · show ratI c k < _; omega
  · obtain ⟨x, hx, rfl⟩ := List.mem_map.1 (show z ∈ (batI c ds k).map (fun (n : Nat) => (n : Int)) from hz)
    have := batI_lt c ds hf.d1 k x hx
    omega
theorem Recs.wf {w : World} {A : Option Addr} {n : Nat} {rs : List Rec} (h : Recs w A n rs) {j : Nat} (hj : j < n) : RecB (recAt rs j) := by
  obtain ⟨b, off, e, hb, hc⟩ := h.cells (by omega)
  obtain ⟨cs, ⟨L, m, c, _, hI, _, _, w0, w1, w2, _, w4⟩, _⟩ := hc j hj
  have i64 : ∀ z, (Lit.int .i64 z).wf = true → z < 9223372036854775808 := fun z hz => by
    simp [Lit.wf, IntKind.min, IntKind.max, IntKind.signed, IntKind.bits] at hz
    omega
  have hs := wf_u64 w2
  exact ⟨i64 _ w0, i64 _ w1, hs.1, by omega, fun z hz => i64 _ (w4 z hz)⟩
theorem upto_congr {α : Type} {f g : Nat → α} {n : Nat} (h : ∀ j, j < n → f j = g j) : upto f n = upto g n := by
  unfold upto
  exact List.map_congr_left fun j hj => h j (List.mem_range.1 hj)
theorem top_chainedF (head : Int) (h0 : 0 ≤ head) (h1 : head < 18446744073709551616) (A : Option Addr) (n c : Nat) (f : Nat → Rec) (w : World) (hx : RecsR w A n (upto f n)) (hn : n ≤ 40) (hA : ∀ ad, A = some ad → ∃ b off, ad = ⟨b, off, none⟩) (hB : ∀ j, j < n → RecB (f j)) (hl : ∀ j, j < n → (f j).batch.length ≤ 9223372036854775807) :
    Calls Try.prog 24 #[.int .u64 head, .slice A n c] w fun e w' => ∃ (b : Bool) (v : Value), e = .returned (.tuple #[v, .bool b]) ∧ Below w.heap.size w w' ∧ (b = true → ∃ B bc, v = .slice B n bc ∧ n ≤ bc ∧ (∀ j, j < n → chE (f j) = 0) ∧ RecsR w' B n (upto (chainF head f) n)) := by
  refine (top_chained head h0 h1 A n c (upto f n) w hx hn hA (fun j hj => by rw [recAt_upto _ hj]; exact hB j hj) (fun j hj => by rw [recAt_upto _ hj]; exact hl j hj)).mono ?_
  rintro e w' ⟨b, v, rfl, hb, h⟩
  refine ⟨b, v, rfl, hb, fun hbt => ?_⟩
  obtain ⟨B, bc, rfl, h2, _, h3, h4⟩ := h hbt
  refine ⟨B, bc, rfl, h2, fun j hj => by have := h3 j hj; rwa [recAt_upto _ hj] at this, ?_⟩
  rw [upto_congr (g := chainF head f) (fun j hj => ?_)] at h4
  · exact h4
  · show { recAt (upto f n) j with chain := chainX head (recAt (upto f n)) (j + 1) } = { f j with chain := chainX head f (j + 1) }
    rw [recAt_upto _ hj, chainX_congr (g := f) (n := n) (fun i hi => by rw [recAt_upto _ hi]) (j + 1) hj]
def allL (f g : Nat → Rec) (n : Nat) : Bool := (List.range n).all fun j => likeR (f j) (g j)
theorem allL_succ (f g : Nat → Rec) (n : Nat) : allL f g (n + 1) = (allL f g n && likeR (f n) (g n)) := by
  unfold allL
  rw [List.range_succ, List.all_append]
  simp
theorem allL_at {f g : Nat → Rec} {n k : Nat} (h : allL f g n = true) (hk : k < n) : likeR (f k) (g k) = true := by
  unfold allL at h
  rw [List.all_eq_true] at h
  exact h k (List.mem_range.2 hk)
theorem judge_one {c : Cfg} {ds : Data} {x : Rec} {k : Nat} (h : likeR (recC c ds k) x = false) : judgeN (recC c ds k) x (recN c ds (states c ds k) k) = 1 := by
  unfold judgeN
  rw [like_recN, like_recN, likeR_self, likeR_comm x, h]
  rfl

set_option maxRecDepth 100000 in
set_option maxHeartbeats 8000000 in
theorem topConvicts_walk (c : Cfg) (s0 : 0 ≤ c.seed) (s1 : c.seed < 18446744073709551616) (D : Option Addr) (n dc : Nat) (ds : Data) (w : World) (hd : Duos w D n ds) (hn : n ≤ 9223372036854775806) (N0 : Int) (A : Option Addr) (m ac : Nat) (rs : List Rec) (hx : RecsR w A m rs) (hwf : ∀ j, j < m → RecB (recAt rs j)) (hmc : m ≤ ac) :
    Calls Try.prog 5 #[.agg #[.int .i64 c.ci, .int .i64 c.ch, .int .i64 c.co, .int .u64 c.seed, .int .i64 c.batch, .int .i64 c.steps, .int .i64 c.rate, .int .i64 c.decay, .int .i64 c.how, .int .i64 c.keep, .int .i64 c.clip], .slice D n dc, .int .i64 N0, .slice A m ac] w fun e w' => e = .returned (.bool true) ∧ Below w.heap.size w w' := by
  have HD := Lib.hid (fun W (h : Below w.heap.size w W) => hd.below h)
  have HCO := Lib.hid (fun W (h : Below w.heap.size w W) => ref_Course c D n dc ds W (hd.below h) hn)
  have HB0 := Blk.made w 24 #[.int .i64 c.ci, .int .i64 c.ch, .int .i64 c.co, .int .u64 c.seed, .int .i64 c.batch, .int .i64 c.steps, .int .i64 c.rate, .int .i64 c.decay, .int .i64 c.how, .int .i64 c.keep, .int .i64 c.clip]
  have b0 : Below w.heap.size w (w.alloc (.cells #[.int .i64 c.ci, .int .i64 c.ch, .int .i64 c.co, .int .u64 c.seed, .int .i64 c.batch, .int .i64 c.steps, .int .i64 c.rate, .int .i64 c.decay, .int .i64 c.how, .int .i64 c.keep, .int .i64 c.clip] 24)) := (by repeat (first | exact Below.refl _ _ | assumption | refine bel_drewN ?_ _ | refine Below.drew ?_ | (refine Below.alloc ?_ (by simp <;> omega) _) | (refine Below.setCell ?_ (by simp <;> omega) _)))
  go_enter Try.func5, Try.ntmps5
  go_wp2_with fail
  refine (top_said _).mono ?_
  rintro e w1 ⟨rfl, hb1⟩
  replace HB0 := HB0.below hb1 HB0.lt
  have hw1 := b0.trans (hb1.mono b0.size)
  clear hb1 b0
  obtain ⟨d0, d1, d2, d3, d4, d5, d6, d7, d8, d9, da⟩ := HB0.cfg
  go_wp2_with fail
  refine (HCO.out _ hw1).mono ?_
  rintro e w2 ⟨rfl, hb2⟩
  have hw2 := hw1.trans (hb2.mono hw1.size)
  replace HB0 := HB0.below hb2 HB0.lt
  clear d0 d1 d2 d3 d4 d5 d6 d7 d8 d9 da hb2 hw1
  obtain ⟨d0, d1, d2, d3, d4, d5, d6, d7, d8, d9, da⟩ := HB0.cfg
  by_cases hC : crs c ds = 0
  · have hf := fine hC
    have HMK := Lib.hid (fun W (h : Below w.heap.size w W) (N : Nat) (hN : (N : Int) ≤ c.steps) => jrn_Make_ok c ds hC s0 s1 D n dc W (HD.out W h) N hN)
    have HPR := Lib.hid (fun W (h : Below w.heap.size w W) (k : Nat) (hk : (k : Int) < c.steps) => spot_Prove c ds hC s0 s1 D n dc W (HD.out W h) k hk)
    have HJU := Lib.hid (fun W (h : Below w.heap.size w W) (j : Nat) A1 A2 k1 k2 i1 i2 hk1 hj L1 L2 m1 q1 m2 q2 x hI1 hI2 => aud_Judge_ok c ds hC s0 s1 D n dc W (HD.out W h) (states c ds j) (fits_states c ds j) A1 A2 k1 k2 i1 i2 hk1 j hj L1 L2 m1 q1 m2 q2 (recC c ds j) x hI1 hI2)
    have HJN := Lib.hid (fun x k h => judge_one (c := c) (ds := ds) (x := x) (k := k) h)
    have HHD := Lib.hid (fun W (h : Below w.heap.size w W) => jrn_Head_ok c ds hC s0 s1 D n dc W (HD.out W h))
    have HGC := Lib.hid (fun (k : Nat) (hk : (k : Int) < c.steps) => good_course hf hk)
    have HCC := Lib.hid (fun k => show (recC c ds k).chain = chainX (headI c ds) (recC c ds) (k + 1) from by rw [chainX_course]; rfl)
    have hh0 := ofI_lo 5 (headW c ds)
    have hh1 := ofI_hi 5 (headW c ds)
    have hst := hf.ok.st
    have hba := hf.ok.ba
    have HR := Lib.hid (fun (x M : Int) h1 h2 W => rest_of x M h1 h2 W)
    have HSH := Lib.hid (fun K => show (recC c ds K).batch.length ≤ 9223372036854775806 from by
      show ((batI c ds K).map _).length ≤ _
      rw [List.length_map, batI_length]
      omega)
    rw [hC]
    clear hC HCO hf
    obtain ⟨jn, hjn⟩ : ∃ jn, jn = fun x j => judgeN (recC c ds j) x (recN c ds (states c ds j) j) := ⟨_, rfl⟩
    have HJE := Lib.hid (fun x j => show judgeN (recC c ds j) x (recN c ds (states c ds j) j) = jn x j from by rw [hjn])
    clear hjn
    obtain ⟨hdI, hhd⟩ : ∃ h, h = headI c ds := ⟨_, rfl⟩
    rw [show ofI 5 (headW c ds) = hdI from hhd.symm] at hh0 hh1
    rw [← hhd] at HHD HCC
    clear hhd
    obtain ⟨rc, hrc⟩ : ∃ rc, rc = recC c ds := ⟨_, rfl⟩
    obtain ⟨st, hst'⟩ : ∃ st, st = states c ds := ⟨_, rfl⟩
    rw [← hrc] at HMK HSH HJU HJN HJE HGC HCC
    rw [← hst'] at HPR HJU HJN HJE
    clear hrc hst'
    go_upto_region 5 with fail
    go_cut [2] (fun v wx => ∃ r : Nat, 1 ≤ r ∧ (r : Int) ≤ c.steps ∧ r ≤ 5 ∧ v = .int .i64 r ∧ wx = w2)
    case first =>
      go_wp2_with fail
      all_goals
        refine (HR.out _ _ (by omega) (by omega) _).mono ?_
        rintro e w' ⟨r, hr, rfl, rfl⟩
        have er : IntKind.i64.wrap (1 + (r : Int)) = ((r + 1 : Nat) : Int) := by rw [wrap_small _ (by omega) (by omega)]; omega
        go_wp2
        go_meet
        case rel => exact ⟨r + 1, by omega, by omega, by omega, by go_num, rfl⟩
    case rest =>
      obtain ⟨N, N1, hN, hN5, rfl, rfl⟩ := hcut
      go_wp2_with fail
      refine (HMK.out _ hw2 N hN).mono ?_
      rintro e w3 ⟨A', k', rfl, hL, hb3⟩
      have hw3 := hw2.trans (hb3.mono hw2.size)
      replace HB0 := HB0.below hb3 HB0.lt
      have hca : N ≤ k' := by
        obtain ⟨A2, c2, e2, h1, _⟩ := Held.slice hL
        cases e2
        exact h1
      have HRA := (RecHeld.recs hL).weak
      have HAF := Lib.hid (fun (h : 0 < N) => show ∃ g, A' = some ⟨g, 0, none⟩ from by
        obtain ⟨g, c', hv, _⟩ := hL.form h
        injection hv with a _ _
        exact ⟨g, a⟩)
      clear d0 d1 d2 d3 d4 d5 d6 d7 d8 d9 da hb3
      obtain ⟨d0, d1, d2, d3, d4, d5, d6, d7, d8, d9, da⟩ := HB0.cfg
      go_wp2_with fail
      refine (HHD.out _ hw3).mono ?_
      rintro e wh ⟨rfl, hbh⟩
      have hwh := hw3.trans (hbh.mono hw3.size)
      replace HB0 := HB0.below hbh HB0.lt
      replace HRA := HRA.below hbh
      have HCL := Lib.hid (rec_Clone A' N k' (upto rc N) wh HRA (by omega) hL.plain)
      clear d0 d1 d2 d3 d4 d5 d6 d7 d8 d9 da hbh hL hw2
      go_wp2_with fail
      refine HCL.out.mono ?_
      rintro e w4 ⟨B, bc, rfl, hbc1, hbc2, hBR, hBG, hb4⟩
      have hw4 := hwh.trans (hb4.mono hwh.size)
      go_upto_region 11 with fail
      go_cut [61, 62, 63] (fun v l j wx => ∃ M : Nat, M ≤ m ∧ M ≤ N ∧ v = .slice A M ac ∧ l = .int .i64 M ∧ j = .int .i64 0 ∧ wx = w4)
      case first =>
        by_cases hNm : N < m
        · have q1 : (N : Int) < (m : Int) := by omega
          have q2 : (N : Int) ≤ (ac : Int) := by omega
          go_wp2
          go_meet
          case rel => exact ⟨N, by omega, by omega, by simp, rfl, rfl, rfl⟩
        · have q1 : ¬ (N : Int) < (m : Int) := by omega
          have q2 : (m : Int) ≤ (ac : Int) := by omega
          go_wp2
          go_meet
          case rel => exact ⟨m, by omega, by omega, by simp, rfl, rfl, rfl⟩
      case rest =>
        obtain ⟨M, hMm, hMN, rfl, rfl, rfl, rfl⟩ := hcut
        obtain ⟨y, rfl⟩ : ∃ y : World, y = wc := ⟨_, rfl⟩
        have HF0 : overF rc (recAt rs) 0 = rc := rfl
        go_wp2
        go_loopw [14, 15, 63] (fun _ _ j wr => ∃ q : Nat, q ≤ M ∧ j = .int .i64 q ∧ RecsR wr B N (upto (overF rc (recAt rs) q) N) ∧ (0 < N → ∃ g, B = some ⟨g, 0, none⟩ ∧ wh.heap.size ≤ g ∧ RunR wr g N (overF rc (recAt rs) q)) ∧ Below wh.heap.size wh wr) (fun _ _ j _ => M - (intOf j).toNat)
        case atStart => exact ⟨0, by omega, rfl, hBR, fun h => by
          obtain ⟨g, e, h1, h2⟩ := hBG h
          exact ⟨g, e, h1, h2.congr (fun j hj => recAt_upto rc hj)⟩, hb4⟩
        case round =>
          clear hBR hBG
          obtain ⟨q, hq, rfl, hR, hG, hb⟩ := hrel
          by_cases hlt : q < M
          · obtain ⟨g, rfl, hg3, hRun⟩ := hG (by omega)
            have hbw := hwh.trans (hb.mono hwh.size)
            obtain ⟨xb, xo, XL, xk, rfl, xlt, ⟨x0, x1, x2, x3, x4⟩, XI, xl1, xl2⟩ := hx.at (show q < m by omega)
            replace x0 := (hbw.cell (p := ⟨xb, xo + q * 5, none⟩) xlt).trans x0
            replace x1 := (hbw.cell (p := ⟨xb, xo + q * 5 + 1, none⟩) xlt).trans x1
            replace x2 := (hbw.cell (p := ⟨xb, xo + q * 5 + 2, none⟩) xlt).trans x2
            replace x3 := (hbw.cell (p := ⟨xb, xo + q * 5 + 3, none⟩) xlt).trans x3
            replace x4 := (hbw.cell (p := ⟨xb, xo + q * 5 + 4, none⟩) xlt).trans x4
            have XIw := (XI.below hbw).alloc (.cells #[.int .i64 (recAt rs q).step, .slice XL (recAt rs q).batch.length xk, .int .i64 (recAt rs q).rate, .int .u64 (recAt rs q).root, .int .u64 (recAt rs q).chain] 30)
            have hXb : ∀ b off, XL = some ⟨b, off, none⟩ → 0 < (recAt rs q).batch.length → b ≠ g := fun b off e hp => by
              obtain ⟨b', off', e', hlt', _⟩ := XI.cells hp
              rw [e] at e'
              cases e'
              have := hwh.size
              omega
            have HOS := Lib.hid (fun (h : (recAt rs q).step = -1) => overF_skip (f := rc) h)
            have HOP := Lib.hid (fun (h : (recAt rs q).step ≠ -1) => overF_put (f := rc) h)
            obtain ⟨r, hr⟩ : ∃ r, r = recAt rs q := ⟨_, rfl⟩
            rw [← hr] at x0 x1 x2 x3 x4 XI xl1 HOS HOP XIw hXb
            clear hr
            have k0 : (0 : Int) ≤ (q : Int) := by omega
            have k1 : (q : Int) < (M : Int) := by omega
            have k2 : (q : Int) < (N : Int) := by omega
            have bX : Below wr.heap.size wr (wr.alloc (.cells #[.int .i64 r.step, .slice XL r.batch.length xk, .int .i64 r.rate, .int .u64 r.root, .int .u64 r.chain] 30)) := (Below.refl _ _).alloc (Nat.le_refl _) _
            by_cases hs : r.step = -1
            · have t : (r.step != -1) = false := by rw [hs]; rfl
              have HS := Lib.hid (HOS.out hs)
              clear hs
              go_wp2
              go_roundw
              case rel =>
                refine ⟨q + 1, by omega, by go_num, ?_, fun _ => ⟨g, rfl, hg3, ?_⟩, hb.trans (bX.mono hb.size)⟩
                · rw [HS.out]; exact hR.below bX
                · rw [HS.out]; exact hRun.below bX
              case measure => simp [intOf]; omega
            · have t : (r.step != -1) = true := by rw [bne_iff_ne]; exact hs
              have HS := Lib.hid (HOP.out hs)
              clear hs
              have BB := Blk.made wr 30 #[.int .i64 r.step, .slice XL r.batch.length xk, .int .i64 r.rate, .int .u64 r.root, .int .u64 r.chain]
              have hRunX := hRun.below bX
              have hbX := hb.trans (bX.mono hb.size)
              obtain ⟨W1, hW1⟩ : ∃ W1, W1 = wr.alloc (.cells #[.int .i64 r.step, .slice XL r.batch.length xk, .int .i64 r.rate, .int .u64 r.root, .int .u64 r.chain] 30) := ⟨_, rfl⟩
              rw [← hW1] at XIw BB hRunX hbX
              have HW1 := Lib.hid hW1
              clear hW1 bX
              obtain ⟨⟨c0, c1, c2, c3, c4⟩, _⟩ := BB.rec5
              obtain ⟨hRun2, hBt⟩ := hRunX.put (show q < N by omega) XIw hXb xl1 xl2
              have hb2 := but_to hbX hBt hg3 hbX.size
              obtain ⟨L', kk, ⟨y0, y1, y2, y3, y4⟩, _⟩ := hRunX.at (show q < N by omega)
              have z0 : W1.frozen? ⟨g, q * 5, none⟩ = false := hRunX.writes q 0
              have z1 := hRunX.writes q 1
              have z2 := hRunX.writes q 2
              have z3 := hRunX.writes q 3
              have z4 := hRunX.writes q 4
              have hgw := hRun.lt
              have hne1 : wr.heap.size ≠ g := by omega
              have hne2 : g ≠ wr.heap.size := by omega
              clear XIw hXb
              go_upto_region 15 with fail
              rw [← HW1.out]
              go_wp2
              go_roundw
              case rel =>
                refine ⟨q + 1, by omega, by go_num, ?_, fun _ => ⟨g, rfl, hg3, ?_⟩, hb2⟩
                · rw [HS.out]; exact hRun2.recs
                · rw [HS.out]; exact hRun2
              case measure => simp [intOf]; omega
          · obtain rfl : q = M := by omega
            have hw5 := hwh.trans (hb.mono hwh.size)
            have HFB := Lib.hid (fun j => overF_of rc (recAt rs) q j)
            obtain ⟨fb, hfb⟩ : ∃ fb, fb = overF rc (recAt rs) q := ⟨_, rfl⟩
            rw [← hfb] at hR hG HFB
            clear hfb hlt
            have HB5 := HB0.below hb HB0.lt
            have HA5 := HRA.below hb
            clear hb4 hb
            obtain ⟨z, rfl⟩ : ∃ z : World, z = wr := ⟨_, rfl⟩
            have HRB := Lib.hid (fun j (hj : j < N) => show RecB (fb j) ∧ (fb j).batch.length ≤ 9223372036854775807 from by
              rcases HFB.out j with e | ⟨i, hi, e⟩
              · rw [e]
                exact ⟨(HGC.out j (by omega)).2, by have := HSH.out j; omega⟩
              · rw [e]
                refine ⟨hwf i (by omega), ?_⟩
                obtain ⟨_, _, _, _, _, _, _, _, l1, l2⟩ := hx.at (show i < m by omega)
                unfold maxLen at l2
                omega)
            obtain ⟨g0, hg0, _, _⟩ := hG (by omega)
            have HCH := Lib.hid (top_chainedF hdI hh0 (by omega) B N bc fb z hR (by omega) (fun ad e => by rw [hg0] at e; cases e; exact ⟨g0, 0, rfl⟩) (fun j hj => (HRB.out j hj).1) (fun j hj => (HRB.out j hj).2))
            clear hG hR hg0
            go_wp2_with fail
            refine HCH.out.mono ?_
            rintro e w6 ⟨cb, cv, rfl, hb6, hok⟩
            have hw6 := hw5.trans (hb6.mono hw5.size)
            have HB6 := HB5.below hb6 HB5.lt
            have HA6 := HA5.below hb6
            clear HB5 HA5 hb6 HCH
            cases cb
            · clear hok
              go_wp2
              go_ret
              exact ⟨rfl, hw6⟩
            · obtain ⟨B2, bc2, rfl, hbc3, hchE, HR6⟩ := hok rfl
              have HGF := Lib.hid (fun j (hj : j < N) => show Good (chainF hdI fb j) from ⟨hchE j hj, (HRB.out j hj).1⟩)
              have HKV := Lib.hid (convict hdI rc fb rc (chainF hdI fb) N N1 hN5 (fun j _ => HCC.out j) (fun j _ => rfl))
              have HCO2 := Lib.hid (fun h => coll_or_alike (head := hdI) (f := rc) (g := chainF hdI fb) N h)
              have HXX := Lib.hid (chainX_chainF hdI fb N)
              have HLC := Lib.hid (fun j => show likeR (rc j) (chainF hdI fb j) = likeR (rc j) (fb j) from rfl)
              clear hchE hok
              obtain ⟨gb, hgb⟩ : ∃ gb, gb = chainF hdI fb := ⟨_, rfl⟩
              rw [← hgb] at HGF HKV HCO2 HXX HLC HR6
              clear hgb
              obtain ⟨ga, rfl⟩ := HAF.out (by omega)
              obtain ⟨gB, oB, _, _, rfl, _⟩ := HR6.at (show 0 < N by omega)
              obtain ⟨y, rfl⟩ : ∃ y : World, y = w6 := ⟨_, rfl⟩
              obtain ⟨aL, haL⟩ : ∃ aL, aL = allL rc gb := ⟨_, rfl⟩
              have HAS := Lib.hid (fun q => show aL (q + 1) = (aL q && likeR (rc q) (gb q)) from by rw [haL]; exact allL_succ rc gb q)
              have HA0 := Lib.hid (show aL 0 = true by rw [haL]; rfl)
              have HAA := Lib.hid (fun k (h : aL N = true) (hk : k < N) => show likeR (rc k) (gb k) = true from allL_at (by rw [haL] at h; exact h) hk)
              clear haL
              go_wp2
              go_loopw [17, 18, 86] (fun sm _ j wr => ∃ p : Nat, p ≤ N ∧ j = .int .i64 p ∧ sm = .bool (aL p) ∧ Below y.heap.size y wr) (fun _ _ j _ => N - (intOf j).toNat)
              case atStart => exact ⟨0, by omega, rfl, by rw [HA0.out], Below.refl _ _⟩
              case round =>
                obtain ⟨p, hp, rfl, rfl, hbr⟩ := hrel
                by_cases hlt : p < N
                · obtain ⟨XL, xk, ⟨x0, x1, x2, x3, x4⟩, XI, _, _, _⟩ := (HA6.below hbr).at0 hlt
                  obtain ⟨b2, o2, YL, yk, e2, ylt, ⟨y0, y1, y2, y3, y4⟩, YI, _⟩ := (HR6.below hbr).at hlt
                  cases e2
                  rw [recAt_upto _ hlt] at y0 y1 y2 y3 y4 YI
                  obtain ⟨z, rfl⟩ : ∃ z : World, z = wr := ⟨_, rfl⟩
                  have hLK := fun W (h : Below z.heap.size z W) => ref_Like (rc p) (gb p) XL YL _ xk _ yk W (XI.below h) (YI.below h) (.inl (HSH.out p))
                  have HE := Lib.hid (HAS.out p)
                  obtain ⟨ra, hra⟩ : ∃ ra, ra = rc p := ⟨_, rfl⟩
                  obtain ⟨rb, hrb⟩ : ∃ rb, rb = gb p := ⟨_, rfl⟩
                  rw [← hra] at x0 x1 x2 x3 x4 hLK HE
                  rw [← hrb] at y0 y1 y2 y3 y4 hLK HE
                  obtain ⟨lb, hlb⟩ : ∃ lb, lb = likeR ra rb := ⟨_, rfl⟩
                  rw [← hlb] at hLK HE
                  obtain ⟨sb, hsb⟩ : ∃ sb, sb = aL p := ⟨_, rfl⟩
                  rw [← hsb] at HE ⊢
                  clear hra hrb hlb hsb XI YI
                  have cK := Lib.hid (fun d os => Calls.regrown_of (hLK (grow (redrawn z d) os) (below_regrown z d os)))
                  clear hLK
                  have k0 : (0 : Int) ≤ (p : Int) := by omega
                  have k1 : (p : Int) < (N : Int) := by omega
                  have K_x0 := cell_regrown x0
                  have K_x1 := cell_regrown x1
                  have K_x2 := cell_regrown x2
                  have K_x3 := cell_regrown x3
                  have K_x4 := cell_regrown x4
                  have K_y0 := cell_regrown y0
                  have K_y1 := cell_regrown y1
                  have K_y2 := cell_regrown y2
                  have K_y3 := cell_regrown y3
                  have K_y4 := cell_regrown y4
                  clear x0 x1 x2 x3 x4 y0 y1 y2 y3 y4
                  cases sb
                  · go_upto_region 24 with fail
                    refine wp_region_quiet_below (by kernel_rfl) (by kernel_rfl) ?_
                    iterate 13 (go_big_quiet_step (with_reducible exact cK.out _ _))
                    refine wpQuiet_nil ?_
                    intro _ hw'
                    obtain ⟨⟨dq, osq⟩, hw''⟩ := hw'
                    have hu : Below z.heap.size z (grow (redrawn z dq) osq) := below_regrown z dq osq
                    subst hw''
                    go_wp2
                    go_roundw
                    case rel => exact ⟨p + 1, by omega, by go_num, by rw [HE.out]; rfl, hbr.trans (hu.mono hbr.size)⟩
                    case measure => simp [intOf]; omega
                  · go_upto_region 24 with fail
                    refine wp_region_quiet_below (by kernel_rfl) (by kernel_rfl) ?_
                    iterate 13 (go_big_quiet_step (with_reducible exact cK.out _ _))
                    refine wpQuiet_nil ?_
                    intro _ hw'
                    obtain ⟨⟨dq, osq⟩, hw''⟩ := hw'
                    have hu : Below z.heap.size z (grow (redrawn z dq) osq) := below_regrown z dq osq
                    subst hw''
                    go_wp2
                    go_roundw
                    case rel => exact ⟨p + 1, by omega, by go_num, by rw [HE.out]; rfl, hbr.trans (hu.mono hbr.size)⟩
                    case measure => simp [intOf]; omega
                · obtain rfl : p = N := by omega
                  have hwr := hw6.trans (hbr.mono hw6.size)
                  obtain ⟨K, kq, hK1, hK2, hK3, hK4, hK5, hK6⟩ := HKV.out
                  have HFI := find_ok (some ⟨ga, 0, none⟩) (some ⟨gB, oB, none⟩) p k' bc2 _ _ wr (HA6.below hbr).chains (HR6.below hbr).chains (by omega) (by omega)
                  rw [hK1, hK2] at HFI
                  have HFH := Lib.hid HFI
                  have HK5 := Lib.hid hK5
                  have HK6 := Lib.hid hK6
                  clear HFI hK1 hK2 hK5 hK6 HKV hlt
                  obtain ⟨sb, hsb⟩ : ∃ sb, sb = aL p := ⟨_, rfl⟩
                  rw [← hsb]
                  have HSB := Lib.hid hsb
                  clear hsb
                  obtain ⟨z, rfl⟩ : ∃ z : World, z = wr := ⟨_, rfl⟩
                  go_wp2_with fail
                  refine HFH.out.mono ?_
                  rintro e w8 ⟨rfl, hb8⟩
                  have hw8 := hwr.trans (hb8.mono hwr.size)
                  have h68 := hbr.trans (hb8.mono hbr.size)
                  have HA8 := HA6.below h68
                  have HR8 := HR6.below h68
                  have HB8 := HB6.below h68 HB6.lt
                  have kd1 : decide (4 < kq) = false := decide_eq_false (by omega)
                  have kd2 : ¬ 4 < kq := by omega
                  clear HFH hb8 hbr hwr HB6 HA6 HR6
                  cases sb
                  · by_cases hKp : K = p
                    · have hcol := HCO2.out ((HK5.out hKp).trans HXX.out.symm)
                      have HCB := top_collide hdI hh0 (some ⟨ga, 0, none⟩) (some ⟨gB, oB, none⟩) p k' bc2 rc gb w8 HA8 HR8 (by omega) (fun j hj => HGC.out j (by omega)) HGF.out
                      have HAL := fun W (h : Below w8.heap.size w8 W) => top_alike (some ⟨ga, 0, none⟩) (some ⟨gB, oB, none⟩) p k' bc2 rc gb W (HA8.below h) (HR8.below h) (by omega) (fun j hj => HGC.out j (by omega)) HGF.out
                      obtain ⟨cB, hcB⟩ : ∃ cB, cB = collB hdI rc gb p := ⟨_, rfl⟩
                      rw [← hcB] at HCB hcol
                      obtain ⟨qB, hqB⟩ : ∃ qB, qB = alikeB rc gb p := ⟨_, rfl⟩
                      rw [← hqB] at HAL hcol
                      clear hcB hqB
                      have HC := Lib.hid HCB
                      have HL := Lib.hid HAL
                      clear HCB HAL
                      subst hKp
                      cases cB
                      · obtain rfl : qB = true := by simpa using hcol
                        clear hcol
                        go_wp2_with fail
                        refine HC.out.mono ?_
                        rintro e w9 ⟨rfl, hb9⟩
                        go_wp2_with fail
                        refine (HL.out _ hb9).mono ?_
                        rintro e wA ⟨rfl, hbA⟩
                        have hw9 := hw8.trans (hb9.mono hw8.size)
                        go_wp2
                        go_ret
                        exact ⟨rfl, hw9.trans (hbA.mono hw9.size)⟩
                      · clear hcol
                        go_wp2_with fail
                        refine HC.out.mono ?_
                        rintro e w9 ⟨rfl, hb9⟩
                        go_wp2
                        go_ret
                        exact ⟨rfl, hw8.trans (hb9.mono hw8.size)⟩
                    · have hKN : K < p := by omega
                      have hlk : likeR (rc K) (gb K) = false := by rw [HLC.out]; exact HK6.out hKN
                      have kq6 : ((K : Int) == (p : Int)) = false := by rw [beq_eq_false_iff_ne]; omega
                      have kp0 : (0 : Int) ≤ (K : Int) := by omega
                      have kq0 : (K : Int) < (p : Int) := by omega
                      have hks : (K : Int) < c.steps := by omega
                      obtain ⟨XL, xk, ⟨x0, x1, x2, x3, x4⟩, XI, _, _, xlt⟩ := HA8.at0 hKN
                      obtain ⟨b2, o2, YL, yk, e2, ylt, ⟨y0, y1, y2, y3, y4⟩, YI, _⟩ := HR8.at hKN
                      cases e2
                      rw [recAt_upto _ hKN] at y0 y1 y2 y3 y4 YI
                      obtain ⟨d0, d1, d2, d3, d4, d5, d6, d7, d8, d9, da⟩ := HB8.cfg
                      go_wp2_with fail
                      refine (HPR.out w8 hw8 K hks).mono ?_
                      rintro e w7 ⟨A1, k1, A2, k2, rfl, i1, i2, l1, hb7⟩
                      have hw7 := hw8.trans (hb7.mono hw8.size)
                      have bA : Below w7.heap.size w7 (w7.alloc (.cells #[.slice A1 c.N k1, .slice A2 c.N k2] 28)) := (Below.refl _ _).alloc (Nat.le_refl _) _
                      have BS := Blk.made w7 28 #[.slice A1 c.N k1, .slice A2 c.N k2]
                      have HB7 := HB8.below (hb7.trans (bA.mono hb7.size)) HB8.lt
                      have h6A := hb7.trans (bA.mono hb7.size)
                      have hwA := hw7.trans (bA.mono hw7.size)
                      replace i1 := i1.below bA
                      replace i2 := i2.below bA
                      obtain ⟨W8, hW8⟩ : ∃ W8, W8 = w7.alloc (.cells #[.slice A1 c.N k1, .slice A2 c.N k2] 28) := ⟨_, rfl⟩
                      rw [← hW8] at BS HB7 h6A hwA i1 i2
                      have HW8 := Lib.hid hW8
                      clear hW8 bA d0 d1 d2 d3 d4 d5 d6 d7 d8 d9 da HB8 hb7
                      obtain ⟨e0, e1, e2, e3, e4, e5, e6, e7, e8, e9, ea⟩ := HB7.cfg
                      obtain ⟨⟨t0, t1⟩, _⟩ := BS.two
                      replace x0 := (h6A.cell (p := ⟨ga, K * 5, none⟩) xlt).trans x0
                      replace x1 := (h6A.cell (p := ⟨ga, K * 5 + 1, none⟩) xlt).trans x1
                      replace x2 := (h6A.cell (p := ⟨ga, K * 5 + 2, none⟩) xlt).trans x2
                      replace x3 := (h6A.cell (p := ⟨ga, K * 5 + 3, none⟩) xlt).trans x3
                      replace x4 := (h6A.cell (p := ⟨ga, K * 5 + 4, none⟩) xlt).trans x4
                      replace y0 := (h6A.cell (p := ⟨gB, oB + K * 5, none⟩) ylt).trans y0
                      replace y1 := (h6A.cell (p := ⟨gB, oB + K * 5 + 1, none⟩) ylt).trans y1
                      replace y2 := (h6A.cell (p := ⟨gB, oB + K * 5 + 2, none⟩) ylt).trans y2
                      replace y3 := (h6A.cell (p := ⟨gB, oB + K * 5 + 3, none⟩) ylt).trans y3
                      replace y4 := (h6A.cell (p := ⟨gB, oB + K * 5 + 4, none⟩) ylt).trans y4
                      have XI8 := XI.below h6A
                      have YI8 := YI.below h6A
                      have hJ := fun W (h : Below W8.heap.size W8 W) => HJU.out W (hwA.trans (h.mono hwA.size)) K A1 A2 k1 k2 (i1.below h) (i2.below h) l1 hks XL YL _ xk _ yk (gb K) (XI8.below h) (YI8.below h)
                      simp only [HJN.out _ _ hlk] at hJ
                      clear XI YI XI8 YI8 i1 i2 BS HB7 HJU HJE HJN
                      obtain ⟨ra, hra⟩ : ∃ ra, ra = rc K := ⟨_, rfl⟩
                      obtain ⟨rb, hrb⟩ : ∃ rb, rb = gb K := ⟨_, rfl⟩
                      rw [← hra] at x0 x1 x2 x3 x4 hJ
                      rw [← hrb] at y0 y1 y2 y3 y4 hJ
                      clear hra hrb
                      have cJ := Lib.hid (fun d os => Calls.regrown_of (hJ (grow (redrawn W8 d) os) (below_regrown W8 d os)))
                      clear hJ
                      have K_e0 := cell_regrown e0
                      have K_e1 := cell_regrown e1
                      have K_e2 := cell_regrown e2
                      have K_e3 := cell_regrown e3
                      have K_e4 := cell_regrown e4
                      have K_e5 := cell_regrown e5
                      have K_e6 := cell_regrown e6
                      have K_e7 := cell_regrown e7
                      have K_e8 := cell_regrown e8
                      have K_e9 := cell_regrown e9
                      have K_ea := cell_regrown ea
                      have K_t0 := cell_regrown t0
                      have K_t1 := cell_regrown t1
                      have K_x0 := cell_regrown x0
                      have K_x1 := cell_regrown x1
                      have K_x2 := cell_regrown x2
                      have K_x3 := cell_regrown x3
                      have K_x4 := cell_regrown x4
                      have K_y0 := cell_regrown y0
                      have K_y1 := cell_regrown y1
                      have K_y2 := cell_regrown y2
                      have K_y3 := cell_regrown y3
                      have K_y4 := cell_regrown y4
                      clear x0 x1 x2 x3 x4 y0 y1 y2 y3 y4
                      go_upto_region 36 with fail
                      rw [← HW8.out]
                      clear e0 e1 e2 e3 e4 e5 e6 e7 e8 e9 ea t0 t1
                      refine wp_region_quiet_below (by kernel_rfl) (by kernel_rfl) ?_
                      iterate 18 (go_big_quiet_step (with_reducible exact cJ.out _ _))
                      refine wpQuiet_nil ?_
                      intro _ hw'
                      obtain ⟨⟨dr, osr⟩, hw''⟩ := hw'
                      have hu2 : Below W8.heap.size W8 (grow (redrawn W8 dr) osr) := below_regrown W8 dr osr
                      subst hw''
                      go_wp2
                      go_ret
                      exact ⟨rfl, hwA.trans (hu2.mono hwA.size)⟩
                  · have hKp : K = p := by
                      rcases Nat.lt_or_ge K p with h | h
                      · have h2 := HAA.out K HSB.out.symm h
                        rw [HLC.out, HK6.out h] at h2
                        cases h2
                      · omega
                    subst hKp
                    go_wp2
                    go_ret
                    exact ⟨by simp, hw8⟩
  · have t : (crs c ds != 0) = true := by rw [bne_iff_ne]; exact hC
    obtain ⟨x, hx⟩ : ∃ x, x = crs c ds := ⟨_, rfl⟩
    rw [← hx] at t ⊢
    clear hC hx HCO
    go_wp2
    go_ret
    exact ⟨rfl, hw2⟩

set_option maxRecDepth 100000 in
theorem topConvicts_lifted (os : Os) (started : os.Started) (H : Type) (enc : TypeId × Value → H) :
    ReturnsInHanded {} Try.checked os 5 .any (Rows.topConvictsSpec.pre6 enc Try.prog Try.f5 Rows.topConvictsRow.domain false) (Rows.topConvictsSpec.post enc Try.prog Try.f5 false true false false) := by
  refine lift_law (fn := Try.f5) started (by kernel_rfl) Try.func5
    (ChangeSpec.witness6 (enc := enc) (C := Try.checked) false ⟨#[], #[.agg #[.int .i64 0, .int .i64 0, .int .i64 0, .int .u64 0, .int .i64 0, .int .i64 0, .int .i64 0, .int .i64 0, .int .i64 0, .int .i64 0, .int .i64 0], .slice none 0 0, .int .i64 0, .slice none 0 0], []⟩ 8 (by kernel_rfl) (by kernel_rfl) (by kernel_rfl) (by kernel_rfl)) (by kernel_rfl) rfl Try.underlying4 rfl ?_ ?_
  · intro ds h
    rw [Try.params5] at h
    match ds, h with
    | [d0, d1, d2, d3], _ => rfl
  · intro W args ds ps hA hlt hval hsz
    rw [Try.params5] at hA hval hsz
    obtain ⟨v0, vs0, d0, ds0, p0, q0, hargs, rfl, rfl, H0, T0⟩ := trodAll_cons hA
    obtain ⟨v1, vs1, d1, ds1, p1, q1, rfl, rfl, rfl, H1, T1⟩ := trodAll_cons T0
    obtain ⟨v2, vs2, d2, ds2, p2, q2, rfl, rfl, rfl, H2, T2⟩ := trodAll_cons T1
    obtain ⟨v3, vs3, d3, ds3, p3, q3, rfl, rfl, rfl, H3, T3⟩ := trodAll_cons T2
    obtain ⟨rfl, rfl, rfl⟩ := trodAll_nil T3
    obtain rfl : args = #[v0, v1, v2, v3] := by cases args; simp_all
    obtain ⟨b0, hv0⟩ := hval 0 24 v0 rfl rfl
    obtain ⟨b1, hv1⟩ := hval 1 25 v1 rfl rfl
    obtain ⟨b2, hv2⟩ := hval 2 3 v2 rfl rfl
    obtain ⟨b3, hv3⟩ := hval 3 35 v3 rfl rfl
    obtain ⟨c, rfl, cw⟩ := arg_cfg hv0 H0
    obtain ⟨D, n, dc, ds, rfl, hd, hn⟩ := arg_data (j := 1) (fun _ => rfl) hv1 H1 hsz rfl rfl
    obtain ⟨m0, rfl, _⟩ := arg_int hv2 H2
    obtain ⟨A, m, ac, rs, rfl, hR, _, hmc, _⟩ := arg_recs2 (j := 3) (fun _ => rfl) hv3 H3 hsz rfl rfl
    have hs := wf_u64 cw.2.2.2.1
    exact topConvicts_walk c hs.1 (by omega) D n dc ds W hd hn m0 A m ac rs hR.weak (fun j hj => hR.wf hj) hmc
theorem TopConvicts_holds : Rows.TopConvictsSaid :=
  OpenClaim.holds_of_wide 5 Try.f5 rfl rfl rfl rfl rfl rfl rfl ⟨rfl, rfl, rfl, rfl, rfl⟩ rfl rfl rfl rfl rfl (by kernel_rfl) Try.func5 (by kernel_rfl)
    (of_decide_eq_true (by kernel_rfl)) (by unfold Func.isWrapper; first | (rw [if_pos (by decide +kernel)]; kernel_rfl) | (rw [if_neg (by decide +kernel)]; exact ⟨rfl, rfl⟩))
    (fun os started H enc _ => topConvicts_lifted os started H enc)

end Go.Proofs.Ytcfmjpcbiomdbaa
