/- The desk's do: a walk. -/
import Derived.Test.YtgodgedhddngeaaGreatDoorDskC
import Derived.Test.YtgodgedhddngeaaGreatDoorDskD
import Derived.Test.YtgodgedhddngeaaGreatDoorDskE
set_option maxRecDepth 100000
set_option maxHeartbeats 16000000
namespace Go.Proofs.YtgodgedhddngeaaGreatDoor
open Go.ChangeShapes Go.WideShapes Go.ChangeAt Go.RowKit Go.Sort Pl
theorem verb_vConfig {d : DSt} {n : List Int} (h : n.length = 11) : verbD d vConfig n = confD d n := by
 unfold verbD
 rw [if_pos ⟨rfl, h⟩]
theorem verb_vConfig_no {d : DSt} {n : List Int} (hk : ¬ n.length = 11) : verbD d vConfig n = (errT 3, d) := by
 unfold verbD
 rw [if_neg (fun h => hk h.2), if_neg (fun h => absurd h.1 (by decide)), if_neg (fun h => absurd h.1 (by decide)), if_neg (fun h => absurd h.1 (by decide)), if_neg (fun h => absurd h.1 (by decide)), if_neg (fun h => absurd h.1 (by decide)), if_neg (fun h => absurd h.1 (by decide)), if_neg (fun h => absurd h.1 (by decide))]
theorem verb_vStep {d : DSt} {n : List Int} (h : n.length = 0) : verbD d vStep n = stepD d := by
 unfold verbD
 rw [if_neg (fun h => absurd h.1 (by decide)), if_pos ⟨rfl, h⟩]
theorem verb_vStep_no {d : DSt} {n : List Int} (hk : ¬ n.length = 0) : verbD d vStep n = (errT 3, d) := by
 unfold verbD
 rw [if_neg (fun h => absurd h.1 (by decide)), if_neg (fun h => hk h.2), if_neg (fun h => absurd h.1 (by decide)), if_neg (fun h => absurd h.1 (by decide)), if_neg (fun h => absurd h.1 (by decide)), if_neg (fun h => absurd h.1 (by decide)), if_neg (fun h => absurd h.1 (by decide)), if_neg (fun h => absurd h.1 (by decide))]
theorem verb_vSync {d : DSt} {n : List Int} (h : n.length = 0) : verbD d vSync n = (okT, { d with sy := d.by_.length }) := by
 unfold verbD
 rw [if_neg (fun h => absurd h.1 (by decide)), if_neg (fun h => absurd h.1 (by decide)), if_pos ⟨rfl, h⟩]
theorem verb_vSync_no {d : DSt} {n : List Int} (hk : ¬ n.length = 0) : verbD d vSync n = (errT 3, d) := by
 unfold verbD
 rw [if_neg (fun h => absurd h.1 (by decide)), if_neg (fun h => absurd h.1 (by decide)), if_neg (fun h => hk h.2), if_neg (fun h => absurd h.1 (by decide)), if_neg (fun h => absurd h.1 (by decide)), if_neg (fun h => absurd h.1 (by decide)), if_neg (fun h => absurd h.1 (by decide)), if_neg (fun h => absurd h.1 (by decide))]
theorem verb_vCrash {d : DSt} {n : List Int} (h : n.length = 1) : verbD d vCrash n = (okT, crashD d (at0 n 0)) := by
 unfold verbD
 rw [if_neg (fun h => absurd h.1 (by decide)), if_neg (fun h => absurd h.1 (by decide)), if_neg (fun h => absurd h.1 (by decide)), if_pos ⟨rfl, h⟩]
theorem verb_vCrash_no {d : DSt} {n : List Int} (hk : ¬ n.length = 1) : verbD d vCrash n = (errT 3, d) := by
 unfold verbD
 rw [if_neg (fun h => absurd h.1 (by decide)), if_neg (fun h => absurd h.1 (by decide)), if_neg (fun h => absurd h.1 (by decide)), if_neg (fun h => hk h.2), if_neg (fun h => absurd h.1 (by decide)), if_neg (fun h => absurd h.1 (by decide)), if_neg (fun h => absurd h.1 (by decide)), if_neg (fun h => absurd h.1 (by decide))]
theorem verb_vRepair {d : DSt} {n : List Int} (h : n.length = 0) : verbD d vRepair n = repairD d := by
 unfold verbD
 rw [if_neg (fun h => absurd h.1 (by decide)), if_neg (fun h => absurd h.1 (by decide)), if_neg (fun h => absurd h.1 (by decide)), if_neg (fun h => absurd h.1 (by decide)), if_pos ⟨rfl, h⟩]
theorem verb_vRepair_no {d : DSt} {n : List Int} (hk : ¬ n.length = 0) : verbD d vRepair n = (errT 3, d) := by
 unfold verbD
 rw [if_neg (fun h => absurd h.1 (by decide)), if_neg (fun h => absurd h.1 (by decide)), if_neg (fun h => absurd h.1 (by decide)), if_neg (fun h => absurd h.1 (by decide)), if_neg (fun h => hk h.2), if_neg (fun h => absurd h.1 (by decide)), if_neg (fun h => absurd h.1 (by decide)), if_neg (fun h => absurd h.1 (by decide))]
theorem verb_vAudit {d : DSt} {n : List Int} (h : n.length = 0) : verbD d vAudit n = (auditD d, d) := by
 unfold verbD
 rw [if_neg (fun h => absurd h.1 (by decide)), if_neg (fun h => absurd h.1 (by decide)), if_neg (fun h => absurd h.1 (by decide)), if_neg (fun h => absurd h.1 (by decide)), if_neg (fun h => absurd h.1 (by decide)), if_pos ⟨rfl, h⟩]
theorem verb_vAudit_no {d : DSt} {n : List Int} (hk : ¬ n.length = 0) : verbD d vAudit n = (errT 3, d) := by
 unfold verbD
 rw [if_neg (fun h => absurd h.1 (by decide)), if_neg (fun h => absurd h.1 (by decide)), if_neg (fun h => absurd h.1 (by decide)), if_neg (fun h => absurd h.1 (by decide)), if_neg (fun h => absurd h.1 (by decide)), if_neg (fun h => hk h.2), if_neg (fun h => absurd h.1 (by decide)), if_neg (fun h => absurd h.1 (by decide))]
theorem verb_vLoss {d : DSt} {n : List Int} (h : n.length = 1) : verbD d vLoss n = (lossD d (at0 n 0), d) := by
 unfold verbD
 rw [if_neg (fun h => absurd h.1 (by decide)), if_neg (fun h => absurd h.1 (by decide)), if_neg (fun h => absurd h.1 (by decide)), if_neg (fun h => absurd h.1 (by decide)), if_neg (fun h => absurd h.1 (by decide)), if_neg (fun h => absurd h.1 (by decide)), if_pos ⟨rfl, h⟩]
theorem verb_vLoss_no {d : DSt} {n : List Int} (hk : ¬ n.length = 1) : verbD d vLoss n = (errT 3, d) := by
 unfold verbD
 rw [if_neg (fun h => absurd h.1 (by decide)), if_neg (fun h => absurd h.1 (by decide)), if_neg (fun h => absurd h.1 (by decide)), if_neg (fun h => absurd h.1 (by decide)), if_neg (fun h => absurd h.1 (by decide)), if_neg (fun h => absurd h.1 (by decide)), if_neg (fun h => hk h.2), if_neg (fun h => absurd h.1 (by decide))]
theorem verb_vBytes {d : DSt} {n : List Int} (h : n.length = 0) : verbD d vBytes n = (Lib.itoa (d.by_.length : Nat), d) := by
 unfold verbD
 rw [if_neg (fun h => absurd h.1 (by decide)), if_neg (fun h => absurd h.1 (by decide)), if_neg (fun h => absurd h.1 (by decide)), if_neg (fun h => absurd h.1 (by decide)), if_neg (fun h => absurd h.1 (by decide)), if_neg (fun h => absurd h.1 (by decide)), if_neg (fun h => absurd h.1 (by decide)), if_pos ⟨rfl, h⟩]
theorem verb_vBytes_no {d : DSt} {n : List Int} (hk : ¬ n.length = 0) : verbD d vBytes n = (errT 3, d) := by
 unfold verbD
 rw [if_neg (fun h => absurd h.1 (by decide)), if_neg (fun h => absurd h.1 (by decide)), if_neg (fun h => absurd h.1 (by decide)), if_neg (fun h => absurd h.1 (by decide)), if_neg (fun h => absurd h.1 (by decide)), if_neg (fun h => absurd h.1 (by decide)), if_neg (fun h => absurd h.1 (by decide)), if_neg (fun h => hk h.2)]
theorem verb_none {d : DSt} {v : List UInt8} {n : List Int} (h0 : v ≠ vConfig) (h1 : v ≠ vStep) (h2 : v ≠ vSync) (h3 : v ≠ vCrash) (h4 : v ≠ vRepair) (h5 : v ≠ vAudit) (h6 : v ≠ vLoss) (h7 : v ≠ vBytes) : verbD d v n = (errT 3, d) := by
 unfold verbD
 rw [if_neg (fun h => h0 h.1), if_neg (fun h => h1 h.1), if_neg (fun h => h2 h.1), if_neg (fun h => h3 h.1), if_neg (fun h => h4 h.1), if_neg (fun h => h5 h.1), if_neg (fun h => h6 h.1), if_neg (fun h => h7 h.1)]
theorem line_some {d : DSt} {v : List UInt8} {L : List (List UInt8)} {n : List Int} (h : v ≠ vData) (hn : numsW L = some n) : lineD d v L = verbD d v n := by
 unfold lineD
 rw [if_neg h, hn]
theorem line_none {d : DSt} {v : List UInt8} {L : List (List UInt8)} (h : v ≠ vData) (hn : numsW L = none) : lineD d v L = (errT 3, d) := by
 unfold lineD
 rw [if_neg h, hn]
theorem own_blk {w : World} {b1 n1 s1 : Nat} {e1 : TypeId} {v1 : Value} {x1 : List Value} (h1 : w.ownsRow b1 e1 s1 v1 n1 x1) {k g : Nat} (hk : v1.ownBlock = some k) {t : TypeId} {cs : Array Value} (hg : Blk w g t cs) (hne : (t == e1) = false) : k ≠ g := fun e => by
 subst e
 rcases h1.2 with ⟨hv, _⟩ | ⟨g1, _, _, hv, _, hg1, _⟩
 ·rw [hv] at hk; cases hk
 ·rw [hv] at hk
  have hk : some g1 = some k := hk
  injection hk with hk
  subst hk
  unfold Blk at hg
  rw [hg] at hg1
  injection hg1 with hg1
  injection hg1 with _ hg1 _
  rw [hg1] at hne
  exact absurd hne (by simp)
theorem kf_vConfig {V : ByteArray} (h : V.toList = vConfig) : (V.toList == [99, 111, 110, 102, 105, 103]) = true ∧ (V.toList == [115, 116, 101, 112]) = false ∧ (V.toList == [115, 121, 110, 99]) = false ∧ (V.toList == [99, 114, 97, 115, 104]) = false ∧ (V.toList == [114, 101, 112, 97, 105, 114]) = false ∧ (V.toList == [97, 117, 100, 105, 116]) = false ∧ (V.toList == [108, 111, 115, 115]) = false ∧ (V.toList == [98, 121, 116, 101, 115]) = false := by rw [h]; decide
theorem kf_vStep {V : ByteArray} (h : V.toList = vStep) : (V.toList == [99, 111, 110, 102, 105, 103]) = false ∧ (V.toList == [115, 116, 101, 112]) = true ∧ (V.toList == [115, 121, 110, 99]) = false ∧ (V.toList == [99, 114, 97, 115, 104]) = false ∧ (V.toList == [114, 101, 112, 97, 105, 114]) = false ∧ (V.toList == [97, 117, 100, 105, 116]) = false ∧ (V.toList == [108, 111, 115, 115]) = false ∧ (V.toList == [98, 121, 116, 101, 115]) = false := by rw [h]; decide
theorem kf_vSync {V : ByteArray} (h : V.toList = vSync) : (V.toList == [99, 111, 110, 102, 105, 103]) = false ∧ (V.toList == [115, 116, 101, 112]) = false ∧ (V.toList == [115, 121, 110, 99]) = true ∧ (V.toList == [99, 114, 97, 115, 104]) = false ∧ (V.toList == [114, 101, 112, 97, 105, 114]) = false ∧ (V.toList == [97, 117, 100, 105, 116]) = false ∧ (V.toList == [108, 111, 115, 115]) = false ∧ (V.toList == [98, 121, 116, 101, 115]) = false := by rw [h]; decide
theorem kf_vCrash {V : ByteArray} (h : V.toList = vCrash) : (V.toList == [99, 111, 110, 102, 105, 103]) = false ∧ (V.toList == [115, 116, 101, 112]) = false ∧ (V.toList == [115, 121, 110, 99]) = false ∧ (V.toList == [99, 114, 97, 115, 104]) = true ∧ (V.toList == [114, 101, 112, 97, 105, 114]) = false ∧ (V.toList == [97, 117, 100, 105, 116]) = false ∧ (V.toList == [108, 111, 115, 115]) = false ∧ (V.toList == [98, 121, 116, 101, 115]) = false := by rw [h]; decide
theorem kf_vRepair {V : ByteArray} (h : V.toList = vRepair) : (V.toList == [99, 111, 110, 102, 105, 103]) = false ∧ (V.toList == [115, 116, 101, 112]) = false ∧ (V.toList == [115, 121, 110, 99]) = false ∧ (V.toList == [99, 114, 97, 115, 104]) = false ∧ (V.toList == [114, 101, 112, 97, 105, 114]) = true ∧ (V.toList == [97, 117, 100, 105, 116]) = false ∧ (V.toList == [108, 111, 115, 115]) = false ∧ (V.toList == [98, 121, 116, 101, 115]) = false := by rw [h]; decide
theorem kf_vAudit {V : ByteArray} (h : V.toList = vAudit) : (V.toList == [99, 111, 110, 102, 105, 103]) = false ∧ (V.toList == [115, 116, 101, 112]) = false ∧ (V.toList == [115, 121, 110, 99]) = false ∧ (V.toList == [99, 114, 97, 115, 104]) = false ∧ (V.toList == [114, 101, 112, 97, 105, 114]) = false ∧ (V.toList == [97, 117, 100, 105, 116]) = true ∧ (V.toList == [108, 111, 115, 115]) = false ∧ (V.toList == [98, 121, 116, 101, 115]) = false := by rw [h]; decide
theorem kf_vLoss {V : ByteArray} (h : V.toList = vLoss) : (V.toList == [99, 111, 110, 102, 105, 103]) = false ∧ (V.toList == [115, 116, 101, 112]) = false ∧ (V.toList == [115, 121, 110, 99]) = false ∧ (V.toList == [99, 114, 97, 115, 104]) = false ∧ (V.toList == [114, 101, 112, 97, 105, 114]) = false ∧ (V.toList == [97, 117, 100, 105, 116]) = false ∧ (V.toList == [108, 111, 115, 115]) = true ∧ (V.toList == [98, 121, 116, 101, 115]) = false := by rw [h]; decide
theorem kf_vBytes {V : ByteArray} (h : V.toList = vBytes) : (V.toList == [99, 111, 110, 102, 105, 103]) = false ∧ (V.toList == [115, 116, 101, 112]) = false ∧ (V.toList == [115, 121, 110, 99]) = false ∧ (V.toList == [99, 114, 97, 115, 104]) = false ∧ (V.toList == [114, 101, 112, 97, 105, 114]) = false ∧ (V.toList == [97, 117, 100, 105, 116]) = false ∧ (V.toList == [108, 111, 115, 115]) = false ∧ (V.toList == [98, 121, 116, 101, 115]) = true := by rw [h]; decide
theorem dsk_do (B q sq : Nat) (c : Cfg) (v : Value) (ds : Data) (bs : List UInt8) (sy : Nat) (w : World) (h : DeskIn B w q sq c v ds bs sy) (ok : DSt.Ok ⟨c, ds, bs, sy⟩) (vb : List UInt8) (A : Option Addr) (n cw : Nat) (L : List (List UInt8)) (hx : StrsR w A n L) (hn : n ≤ 1000000) (hcw : n ≤ cw) (ht : ∀ W, Below B w W → Tabs W) :
  Calls Tryz.prog 11 #[.pointer (some ⟨q, 0, none⟩), .string (bytesOf vb), .slice A n cw] w (DeskPost B q sq (lineD ⟨c, ds, bs, sy⟩ vb L) w) := by
 have hBw : B ≤ w.heap.size := Nat.le_of_lt (Nat.lt_of_le_of_lt h.bq h.dq.lt)
 have hb4 : bs.length ≤ 4096 := ok.b
 have hsy : sy ≤ bs.length := ok.sy
 have HT := Lib.hid (fun W (hb : Below w.heap.size w W) => ht W (hb.mono hBw))
 have HTK := Lib.hid (fun W (hb : Kp B deskT w W) => ht W (hb.low hBw))
 obtain ⟨V, hV⟩ : ∃ V, V = bytesOf vb := ⟨_, rfl⟩
 rw [← hV]
 have HV := Lib.hid (show V.toList = vb from by rw [hV, Lib.toList_data, bytesOf_data])
 clear hV
 by_cases hd : vb = vData
 ·have k0 : (V.toList == [100, 97, 116, 97]) = true := by rw [HV.out, hd]; rfl
  have F := Lib.hid (show lineD ⟨c, ds, bs, sy⟩ vb L = moreD ⟨c, ds, bs, sy⟩ L from if_pos hd)
  have HCA := Lib.hid (dsk_more B q sq c v ds bs sy w h ok.n A n cw L hx hn hcw ht)
  clear hd
  go_enter Tryz.func11, Tryz.ntmps11
  go_wp2_with fail
  refine HCA.out.mono ?_
  rintro e w4 ⟨rfl, ⟨v4, h4⟩, hk4⟩
  go_wp2
  go_ret
  rw [F.out]
  exact ⟨rfl, ⟨v4, h4⟩, hk4⟩
 ·have kd : (V.toList == [100, 97, 116, 97]) = false := by rw [HV.out]; exact beq_eq_false_iff_ne.2 hd
  have HNU := Lib.hid (dsk_numbers A n cw L w hx hn)
  go_enter Tryz.func11, Tryz.ntmps11
  go_wp2_with fail
  refine HNU.out.mono ?_
  rintro e w3 ⟨v1, rfl, ho1, hb3⟩
  have h3 := h.below hb3
  have HTB := Lib.hid (fun W (hb : Below B w3 W) => ht W ((hb3.mono hBw).trans hb))
  unfold numsL at ho1
  cases hns : numsW L with
  | none =>
   have F := Lib.hid (line_none (d := ⟨c, ds, bs, sy⟩) hd hns)
   rw [show (none : Option (List Int)).isSome = false from rfl]
   clear hns ho1
   have HFA := Lib.hid (dsk_failed 3 w3 (by omega) (by omega) (HT.out _ hb3))
   go_wp2_with fail
   refine HFA.out.mono ?_
   rintro e w4 ⟨rfl, hb4⟩
   go_wp2
   go_ret
   rw [F.out]
   exact ⟨rfl, ⟨v, h3.below hb4⟩, Kp.of_below (bel_trans hb3 hb4)⟩
  | some ns =>
  rw [hns] at ho1
  have HN := Lib.hid hns
  have ho1 : w3.ownsRow w.heap.size 3 1 v1 ns.length (ns.map (.int .i64)) := ho1
  have hbd : ∀ x ∈ ns, -10000000000 < x ∧ x < 10000000000 := fun x hx => by
   obtain ⟨y, _, hy⟩ := numsW_mem hns x hx
   exact numW_bd hy
  rw [show (some ns : Option (List Int)).isSome = true from rfl]
  obtain ⟨A1, c1, rfl, hI1⟩ := own_ints ho1
  obtain ⟨M, hM0⟩ : ∃ M, M = ns.length := ⟨_, rfl⟩
  have HM := Lib.hid hM0
  rw [← hM0] at ho1 hI1 ⊢
  clear hns hM0 HNU hx
  have hv : vb = vConfig ∨ vb = vStep ∨ vb = vSync ∨ vb = vCrash ∨ vb = vRepair ∨ vb = vAudit ∨ vb = vLoss ∨ vb = vBytes ∨ (vb ≠ vConfig ∧ vb ≠ vStep ∧ vb ≠ vSync ∧ vb ≠ vCrash ∧ vb ≠ vRepair ∧ vb ≠ vAudit ∧ vb ≠ vLoss ∧ vb ≠ vBytes) := by
   by_cases e0 : vb = vConfig
   ·exact .inl e0
   by_cases e1 : vb = vStep
   ·exact .inr (.inl e1)
   by_cases e2 : vb = vSync
   ·exact .inr (.inr (.inl e2))
   by_cases e3 : vb = vCrash
   ·exact .inr (.inr (.inr (.inl e3)))
   by_cases e4 : vb = vRepair
   ·exact .inr (.inr (.inr (.inr (.inl e4))))
   by_cases e5 : vb = vAudit
   ·exact .inr (.inr (.inr (.inr (.inr (.inl e5)))))
   by_cases e6 : vb = vLoss
   ·exact .inr (.inr (.inr (.inr (.inr (.inr (.inl e6))))))
   by_cases e7 : vb = vBytes
   ·exact .inr (.inr (.inr (.inr (.inr (.inr (.inr (.inl e7)))))))
   exact .inr (.inr (.inr (.inr (.inr (.inr (.inr (.inr (⟨e0, e1, e2, e3, e4, e5, e6, e7⟩))))))))
  rcases hv with rfl | rfl | rfl | rfl | rfl | rfl | rfl | rfl | ⟨e0, e1, e2, e3, e4, e5, e6, e7⟩
  ·obtain ⟨k0, k1, k2, k3, k4, k5, k6, k7⟩ := kf_vConfig HV.out
   by_cases hM : M = 11
   ·have F := Lib.hid ((line_some (d := ⟨c, ds, bs, sy⟩) (by decide) HN.out).trans (verb_vConfig (by rw [← HM.out]; exact hM)))
    subst hM
    have HCA := Lib.hid (dsk_configure B q sq c v ds bs sy w3 h3 A1 c1 ns hI1 hbd HTB.out)
    go_wp2_with fail
    refine HCA.out.mono ?_
    rintro e w4 ⟨rfl, ⟨v4, h4⟩, hk4⟩
    go_wp2
    go_ret
    rw [F.out]
    exact ⟨rfl, ⟨v4, h4⟩, (Kp.of_below hb3).trans hk4⟩
   ·have F := Lib.hid ((line_some (d := ⟨c, ds, bs, sy⟩) (by decide) HN.out).trans (verb_vConfig_no (by rw [← HM.out]; exact hM)))
    have m0 : ((M : Int) == 11) = false := by rw [beq_eq_false_iff_ne]; omega
    have m1 : (M == 11) = false := by rw [beq_eq_false_iff_ne]; exact hM
    have m2 : ¬ (M : Int) = 11 := by omega
    have HFA := Lib.hid (dsk_failed 3 w3 (by omega) (by omega) (HT.out _ hb3))
    go_wp2_with fail
    refine HFA.out.mono ?_
    rintro e w4 ⟨rfl, hb4⟩
    go_wp2
    go_ret
    rw [F.out]
    exact ⟨rfl, ⟨v, h3.below hb4⟩, Kp.of_below (bel_trans hb3 hb4)⟩
  ·obtain ⟨k0, k1, k2, k3, k4, k5, k6, k7⟩ := kf_vStep HV.out
   by_cases hM : M = 0
   ·have F := Lib.hid ((line_some (d := ⟨c, ds, bs, sy⟩) (by decide) HN.out).trans (verb_vStep (by rw [← HM.out]; exact hM)))
    subst hM
    have HCA := Lib.hid (dsk_step B q sq c v ds bs sy w3 h3 ok HTB.out)
    go_wp2_with fail
    refine HCA.out.mono ?_
    rintro e w4 ⟨rfl, ⟨v4, h4⟩, hk4⟩
    go_wp2
    go_ret
    rw [F.out]
    exact ⟨rfl, ⟨v4, h4⟩, (Kp.of_below hb3).trans hk4⟩
   ·have F := Lib.hid ((line_some (d := ⟨c, ds, bs, sy⟩) (by decide) HN.out).trans (verb_vStep_no (by rw [← HM.out]; exact hM)))
    have m0 : ((M : Int) == 0) = false := by rw [beq_eq_false_iff_ne]; omega
    have m1 : (M == 0) = false := by rw [beq_eq_false_iff_ne]; exact hM
    have m2 : ¬ (M : Int) = 0 := by omega
    have HFA := Lib.hid (dsk_failed 3 w3 (by omega) (by omega) (HT.out _ hb3))
    go_wp2_with fail
    refine HFA.out.mono ?_
    rintro e w4 ⟨rfl, hb4⟩
    go_wp2
    go_ret
    rw [F.out]
    exact ⟨rfl, ⟨v, h3.below hb4⟩, Kp.of_below (bel_trans hb3 hb4)⟩
  ·obtain ⟨k0, k1, k2, k3, k4, k5, k6, k7⟩ := kf_vSync HV.out
   by_cases hM : M = 0
   ·have F := Lib.hid ((line_some (d := ⟨c, ds, bs, sy⟩) (by decide) HN.out).trans (verb_vSync (by rw [← HM.out]; exact hM)))
    subst hM
    have sp := h3.sp
    have HSY := Lib.hid (sto_Sync sq 4096 sy _ w3 h3.st)
    go_wp2_with fail
    refine HSY.out.mono ?_
    rintro e w4 ⟨rfl, hB4, hb4⟩
    rw [bytesOf_size] at hB4
    clear sp
    go_wp2
    go_ret
    rw [F.out]
    exact ⟨rfl, ⟨v, h3.store hb4 hB4⟩, (Kp.of_below hb3).trans (Kp.desk_but h3 hb4)⟩
   ·have F := Lib.hid ((line_some (d := ⟨c, ds, bs, sy⟩) (by decide) HN.out).trans (verb_vSync_no (by rw [← HM.out]; exact hM)))
    have m0 : ((M : Int) == 0) = false := by rw [beq_eq_false_iff_ne]; omega
    have m1 : (M == 0) = false := by rw [beq_eq_false_iff_ne]; exact hM
    have m2 : ¬ (M : Int) = 0 := by omega
    have HFA := Lib.hid (dsk_failed 3 w3 (by omega) (by omega) (HT.out _ hb3))
    go_wp2_with fail
    refine HFA.out.mono ?_
    rintro e w4 ⟨rfl, hb4⟩
    go_wp2
    go_ret
    rw [F.out]
    exact ⟨rfl, ⟨v, h3.below hb4⟩, Kp.of_below (bel_trans hb3 hb4)⟩
  ·obtain ⟨k0, k1, k2, k3, k4, k5, k6, k7⟩ := kf_vCrash HV.out
   by_cases hM : M = 1
   ·have F := Lib.hid ((line_some (d := ⟨c, ds, bs, sy⟩) (by decide) HN.out).trans (verb_vCrash (by rw [← HM.out]; exact hM)))
    subst hM
    obtain ⟨ab, ao, rfl, hab, hac⟩ := hI1.cells (by omega)
    have n0 := hac 0 (by omega)
    rw [Nat.add_zero] at n0
    obtain ⟨x, hx0⟩ : ∃ x, x = at0 ns 0 := ⟨_, rfl⟩
    rw [← hx0] at n0 F
    clear hx0 hac
    obtain ⟨sp, nd⟩ : w3.drew.cell? ⟨q, 12, none⟩ = some (.pointer (some ⟨sq, 0, none⟩)) ∧ w3.drew.cell? ⟨ab, ao, none⟩ = some (.int .i64 x) := ⟨h3.sp, n0⟩
    have HCR := Lib.hid (sto_Crash sq 4096 sy _ x w3.drew h3.st (by rw [bytesOf_size]; omega) (by rw [bytesOf_size]; exact ok.sy))
    have hqs := h3.ne
    have hql := h3.dq.lt
    have has : ab ≠ sq := fun e => own_blk ho1 (show (Value.slice (some ⟨ab, ao, none⟩) 1 c1).ownBlock = some ab from rfl) h3.st (by decide) e
    go_upto_region 14 with fail
    go_region_held3 (fun W => W.cell? ⟨q, 12, none⟩ = some (.pointer (some ⟨sq, 0, none⟩)) ∧ W.cell? ⟨ab, ao, none⟩ = some (.int .i64 x)) (first | (with_reducible exact ⟨sp, nd⟩) | (with_reducible exact ⟨y0, y1⟩) | fail) (first
     | (go_at_call 25; (with_reducible refine HCR.out.mono ?_); rintro e u ⟨rfl, hB4, hb4⟩; have y0 := (hb4.cell (p := ⟨q, 12, none⟩) hql hqs).trans sp; have y1 := (hb4.cell (p := ⟨ab, ao, none⟩) hab has).trans nd)
     | fail)
    all_goals
     rw [bytesOf_take, bytesOf_size] at hB4
     have hb4' : But sq w3 u := ⟨hb4.os, hb4.tape, hb4.output, hb4.size, hb4.block⟩
     clear y0 y1 sp nd
     go_wp2
     go_ret
     rw [F.out]
     exact ⟨rfl, ⟨v, h3.store hb4' hB4⟩, (Kp.of_below hb3).trans (Kp.desk_but h3 hb4')⟩
   ·have F := Lib.hid ((line_some (d := ⟨c, ds, bs, sy⟩) (by decide) HN.out).trans (verb_vCrash_no (by rw [← HM.out]; exact hM)))
    have m0 : ((M : Int) == 1) = false := by rw [beq_eq_false_iff_ne]; omega
    have m1 : (M == 1) = false := by rw [beq_eq_false_iff_ne]; exact hM
    have m2 : ¬ (M : Int) = 1 := by omega
    have HFA := Lib.hid (dsk_failed 3 w3 (by omega) (by omega) (HT.out _ hb3))
    go_wp2_with fail
    refine HFA.out.mono ?_
    rintro e w4 ⟨rfl, hb4⟩
    go_wp2
    go_ret
    rw [F.out]
    exact ⟨rfl, ⟨v, h3.below hb4⟩, Kp.of_below (bel_trans hb3 hb4)⟩
  ·obtain ⟨k0, k1, k2, k3, k4, k5, k6, k7⟩ := kf_vRepair HV.out
   by_cases hM : M = 0
   ·have F := Lib.hid ((line_some (d := ⟨c, ds, bs, sy⟩) (by decide) HN.out).trans (verb_vRepair (by rw [← HM.out]; exact hM)))
    subst hM
    have sp := h3.sp
    have HRP := sto_Repair sq 4096 sy _ w3 h3.st (by rw [bytesOf_size]; omega) (HT.out _ hb3)
    rw [bytesOf_data, bytesOf_size, bytesOf_take] at HRP
    have HRQ := Lib.hid HRP
    have hel := beg_le bs
    obtain ⟨x, hx0⟩ : ∃ x : Int, x = (bs.length : Int) - ((beg bs).2 : Nat) := ⟨_, rfl⟩
    have hxb : 0 ≤ x ∧ x ≤ 4096 := by omega
    have F := Lib.hid (F.out.trans (show repairD ⟨c, ds, bs, sy⟩ = (Lib.itoa x, ⟨c, ds, bs.take (beg bs).2, (beg bs).2⟩) from by rw [hx0]; rfl))
    rw [← hx0] at HRQ
    clear HRP hx0 hel
    go_wp2_with fail
    refine HRQ.out.mono ?_
    rintro e w4 ⟨rfl, hB4, hb4⟩
    have hk4 := (Kp.of_below hb3).trans (Kp.desk_but h3 hb4)
    have h4 := h3.store hb4 hB4
    have HTO := Lib.hid (dsk_told x 0 w4 (by omega) (by omega) (by omega) (by omega) (HTK.out _ hk4))
    clear sp
    go_wp2_with fail
    refine HTO.out.mono ?_
    rintro e w5 ⟨rfl, hb5⟩
    go_wp2
    go_ret
    rw [F.out]
    exact ⟨rfl, ⟨v, h4.below hb5⟩, hk4.trans (Kp.of_below hb5)⟩
   ·have F := Lib.hid ((line_some (d := ⟨c, ds, bs, sy⟩) (by decide) HN.out).trans (verb_vRepair_no (by rw [← HM.out]; exact hM)))
    have m0 : ((M : Int) == 0) = false := by rw [beq_eq_false_iff_ne]; omega
    have m1 : (M == 0) = false := by rw [beq_eq_false_iff_ne]; exact hM
    have m2 : ¬ (M : Int) = 0 := by omega
    have HFA := Lib.hid (dsk_failed 3 w3 (by omega) (by omega) (HT.out _ hb3))
    go_wp2_with fail
    refine HFA.out.mono ?_
    rintro e w4 ⟨rfl, hb4⟩
    go_wp2
    go_ret
    rw [F.out]
    exact ⟨rfl, ⟨v, h3.below hb4⟩, Kp.of_below (bel_trans hb3 hb4)⟩
  ·obtain ⟨k0, k1, k2, k3, k4, k5, k6, k7⟩ := kf_vAudit HV.out
   by_cases hM : M = 0
   ·have F := Lib.hid ((line_some (d := ⟨c, ds, bs, sy⟩) (by decide) HN.out).trans (verb_vAudit (by rw [← HM.out]; exact hM)))
    subst hM
    obtain ⟨D, dc, rfl, hdd, hdc, hdm⟩ := h3.data.duos
    obtain ⟨N, hN0⟩ : ∃ N, N = ds.length := ⟨_, rfl⟩
    have HNN := Lib.hid hN0
    have HS := Lib.hid (fun W (hb : Below w3.heap.size w3 W) => show (W.cell? ⟨q, 0, none⟩ = some (.int .i64 c.ci) ∧ W.cell? ⟨q, 1, none⟩ = some (.int .i64 c.ch) ∧ W.cell? ⟨q, 2, none⟩ = some (.int .i64 c.co) ∧ W.cell? ⟨q, 3, none⟩ = some (.int .u64 c.seed) ∧ W.cell? ⟨q, 4, none⟩ = some (.int .i64 c.batch) ∧ W.cell? ⟨q, 5, none⟩ = some (.int .i64 c.steps) ∧ W.cell? ⟨q, 6, none⟩ = some (.int .i64 c.rate) ∧ W.cell? ⟨q, 7, none⟩ = some (.int .i64 c.decay) ∧ W.cell? ⟨q, 8, none⟩ = some (.int .i64 c.how) ∧ W.cell? ⟨q, 9, none⟩ = some (.int .i64 c.keep) ∧ W.cell? ⟨q, 10, none⟩ = some (.int .i64 c.clip)) ∧ W.cell? ⟨q, 11, none⟩ = some (.slice D N dc) ∧ W.cell? ⟨q, 12, none⟩ = some (.pointer (some ⟨sq, 0, none⟩)) from ⟨(h3.below hb).cfg, (h3.below hb).dv.trans (by rw [hN0]), (h3.below hb).sp⟩)
    have HRC0 := sto_Records sq 4096 sy _ w3.drew h3.st (by rw [bytesOf_size]; omega) (HT.out _ (hb3.trans ((Below.refl _ w3).drew.mono hb3.size)))
    rw [bytesOf_data] at HRC0
    obtain ⟨f, hf0⟩ : ∃ f, f = recAt (beg bs).1 := ⟨_, rfl⟩
    obtain ⟨k, hk0⟩ : ∃ k, k = (beg bs).1.length := ⟨_, rfl⟩
    rw [← hf0, ← hk0] at HRC0
    have hk4 : k ≤ 4096 := by rw [hk0]; exact Nat.le_trans (beg_len bs) hb4
    have HRC := Lib.hid HRC0
    have HAU := Lib.hid (show auditD ⟨c, ds, bs, sy⟩ = if crs c ds ≠ 0 then errT (crs c ds) else if c.steps < (k : Int) then errT 2 else Lib.itoa (audN k f (recC c ds) : Nat) from by rw [hf0, hk0]; rfl)
    have hcb := crs_small (ds := ds) ok.c
    have hs0 : 0 ≤ c.seed := ok.s0
    have hs1 : c.seed < 18446744073709551616 := by have : c.seed < 10000000000 := ok.s1; omega
    have hnn : N ≤ 9223372036854775806 := by have : ds.length ≤ 16 := ok.n; omega
    rw [← hN0] at hdd hdc
    have hd0 : Below w3.heap.size w3 w3.drew := (Below.refl _ _).drew
    have HD := Lib.hid (fun W (hb : Below w3.heap.size w3 W) => hdd.below hb)
    have HT3 := Lib.hid (fun W (hb : Below w3.heap.size w3 W) => HT.out W (hb3.trans (hb.mono hb3.size)))
    clear hdd HRC0 hf0 hk0 hN0 ok
    by_cases hC : crs c ds = 0
    ·by_cases hst : (k : Int) ≤ c.steps
     ·have F := Lib.hid (F.out.trans (show (auditD ⟨c, ds, bs, sy⟩, (⟨c, ds, bs, sy⟩ : DSt)) = (Lib.itoa (audN k f (recC c ds) : Nat), ⟨c, ds, bs, sy⟩) from by rw [HAU.out, if_neg (by simpa using hC), if_neg (by omega)]))
      have HWH := Lib.hid (fun W (hb : Below w3.heap.size w3 W) A0 k0 hR => aud_Whole c ds hC hs0 hs1 D N dc W (HD.out W hb) A0 k k0 f hR hst)
      have hal := audN_le k f (recC c ds)
      have HFB := Lib.hid (fun (kk : Nat) (hh : FirstBad k f (recC c ds) kk) => firstBad_aud hh)
      obtain ⟨x, hx0⟩ : ∃ x, x = audN k f (recC c ds) := ⟨_, rfl⟩
      rw [← hx0] at F hal HFB
      have HTO := Lib.hid (fun W (hb : Below w3.heap.size w3 W) => show Calls Tryz.prog 26 #[.int .i64 (x : Int), .int .i64 0] W fun r w' => r = .returned (.string (bytesOf (Lib.itoa (x : Int)))) ∧ Below W.heap.size W w' from dsk_told (x : Int) 0 W (by omega) (by omega) (by omega) (by omega) (HT3.out _ hb))
      clear hC hst hx0
      go_upto_region 19 with fail
      go_region_held3 (fun W => (W.cell? ⟨q, 0, none⟩ = some (.int .i64 c.ci) ∧ W.cell? ⟨q, 1, none⟩ = some (.int .i64 c.ch) ∧ W.cell? ⟨q, 2, none⟩ = some (.int .i64 c.co) ∧ W.cell? ⟨q, 3, none⟩ = some (.int .u64 c.seed) ∧ W.cell? ⟨q, 4, none⟩ = some (.int .i64 c.batch) ∧ W.cell? ⟨q, 5, none⟩ = some (.int .i64 c.steps) ∧ W.cell? ⟨q, 6, none⟩ = some (.int .i64 c.rate) ∧ W.cell? ⟨q, 7, none⟩ = some (.int .i64 c.decay) ∧ W.cell? ⟨q, 8, none⟩ = some (.int .i64 c.how) ∧ W.cell? ⟨q, 9, none⟩ = some (.int .i64 c.keep) ∧ W.cell? ⟨q, 10, none⟩ = some (.int .i64 c.clip)) ∧ W.cell? ⟨q, 11, none⟩ = some (.slice D N dc) ∧ W.cell? ⟨q, 12, none⟩ = some (.pointer (some ⟨sq, 0, none⟩))) (first | (with_reducible exact HS.out _ hd0) | (with_reducible exact HS.out _ hu1) | (with_reducible exact HS.out _ hu2) | (with_reducible exact HS.out _ hu3) | fail) (first
       | (go_at_call 29; (with_reducible refine HRC.out.mono ?_); rintro e u1 ⟨v2, rfl, hH, hbu⟩; obtain ⟨A0, k0, rfl, _, _⟩ := Held.slice hH; have hu1 := bel_trans hd0 hbu; have hR := (RecHeld.recs hH).weak)
       | (go_at_call 28; (refine (HWH.out _ hu1 _ _ hR).mono ?_); rintro e u2 ⟨kk, hkk, rfl, hbw⟩; obtain rfl : kk = x := HFB.out _ hkk; have hu2 := bel_trans hu1 hbw)
       | (go_at_call 26; (refine (HTO.out _ hu2).mono ?_); rintro e u3 ⟨rfl, hbx⟩; have hu3 := bel_trans hu2 hbx)
       | fail)
      all_goals
       go_wp2
       go_ret
       rw [F.out]
       exact ⟨rfl, ⟨_, h3.below hu3⟩, Kp.of_below (bel_trans hb3 hu3)⟩
     ·have F := Lib.hid (F.out.trans (show (auditD ⟨c, ds, bs, sy⟩, (⟨c, ds, bs, sy⟩ : DSt)) = (errT 2, ⟨c, ds, bs, sy⟩) from by rw [HAU.out, if_neg (by simpa using hC), if_pos (by omega)]))
      have hW2 : wholeE c ds k = 2 := by unfold wholeE; rw [if_neg (by simpa using hC), if_neg hst]
      have HWH := Lib.hid (fun W (hb : Below w3.heap.size w3 W) A0 k0 => show Calls Tryz.prog 28 #[.agg #[.int .i64 c.ci, .int .i64 c.ch, .int .i64 c.co, .int .u64 c.seed, .int .i64 c.batch, .int .i64 c.steps, .int .i64 c.rate, .int .i64 c.decay, .int .i64 c.how, .int .i64 c.keep, .int .i64 c.clip], .slice D N dc, .slice A0 k k0] W fun e w' => e = .returned (.tuple #[.int .i64 0, .int .i64 2]) ∧ Below W.heap.size W w' from by
       have hh := aud_Whole_no c ds D N dc W (HD.out W hb) hnn A0 k k0 (by rw [hW2]; decide)
       rwa [hW2] at hh)
      have HTO := Lib.hid (fun W (hb : Below w3.heap.size w3 W) => show Calls Tryz.prog 26 #[.int .i64 0, .int .i64 2] W fun r w' => r = .returned (.string (bytesOf (errT 2))) ∧ Below W.heap.size W w' from dsk_told 0 2 W (by omega) (by omega) (by omega) (by omega) (HT3.out _ hb))
      clear hC hst hW2
      go_upto_region 19 with fail
      go_region_held3 (fun W => (W.cell? ⟨q, 0, none⟩ = some (.int .i64 c.ci) ∧ W.cell? ⟨q, 1, none⟩ = some (.int .i64 c.ch) ∧ W.cell? ⟨q, 2, none⟩ = some (.int .i64 c.co) ∧ W.cell? ⟨q, 3, none⟩ = some (.int .u64 c.seed) ∧ W.cell? ⟨q, 4, none⟩ = some (.int .i64 c.batch) ∧ W.cell? ⟨q, 5, none⟩ = some (.int .i64 c.steps) ∧ W.cell? ⟨q, 6, none⟩ = some (.int .i64 c.rate) ∧ W.cell? ⟨q, 7, none⟩ = some (.int .i64 c.decay) ∧ W.cell? ⟨q, 8, none⟩ = some (.int .i64 c.how) ∧ W.cell? ⟨q, 9, none⟩ = some (.int .i64 c.keep) ∧ W.cell? ⟨q, 10, none⟩ = some (.int .i64 c.clip)) ∧ W.cell? ⟨q, 11, none⟩ = some (.slice D N dc) ∧ W.cell? ⟨q, 12, none⟩ = some (.pointer (some ⟨sq, 0, none⟩))) (first | (with_reducible exact HS.out _ hd0) | (with_reducible exact HS.out _ hu1) | (with_reducible exact HS.out _ hu2) | (with_reducible exact HS.out _ hu3) | fail) (first
       | (go_at_call 29; (with_reducible refine HRC.out.mono ?_); rintro e u1 ⟨v2, rfl, hH, hbu⟩; obtain ⟨A0, k0, rfl, _, _⟩ := Held.slice hH; have hu1 := bel_trans hd0 hbu; have hR := (RecHeld.recs hH).weak)
       | (go_at_call 28; (refine (HWH.out _ hu1 _ _).mono ?_); rintro e u2 ⟨rfl, hbw⟩; have hu2 := bel_trans hu1 hbw)
       | (go_at_call 26; (refine (HTO.out _ hu2).mono ?_); rintro e u3 ⟨rfl, hbx⟩; have hu3 := bel_trans hu2 hbx)
       | fail)
      all_goals
       go_wp2
       go_ret
       rw [F.out]
       exact ⟨rfl, ⟨_, h3.below hu3⟩, Kp.of_below (bel_trans hb3 hu3)⟩
    ·have F := Lib.hid (F.out.trans (show (auditD ⟨c, ds, bs, sy⟩, (⟨c, ds, bs, sy⟩ : DSt)) = (errT (crs c ds), ⟨c, ds, bs, sy⟩) from by rw [HAU.out, if_pos hC]))
     have hW2 : wholeE c ds k = crs c ds := by unfold wholeE; rw [if_pos hC]
     have HWH := Lib.hid (fun W (hb : Below w3.heap.size w3 W) A0 k0 => show Calls Tryz.prog 28 #[.agg #[.int .i64 c.ci, .int .i64 c.ch, .int .i64 c.co, .int .u64 c.seed, .int .i64 c.batch, .int .i64 c.steps, .int .i64 c.rate, .int .i64 c.decay, .int .i64 c.how, .int .i64 c.keep, .int .i64 c.clip], .slice D N dc, .slice A0 k k0] W fun e w' => e = .returned (.tuple #[.int .i64 0, .int .i64 (crs c ds)]) ∧ Below W.heap.size W w' from by
      have hh := aud_Whole_no c ds D N dc W (HD.out W hb) hnn A0 k k0 (by rw [hW2]; exact hC)
      rwa [hW2] at hh)
     have hC0 := hC
     obtain ⟨x, hx0⟩ : ∃ x, x = crs c ds := ⟨_, rfl⟩
     rw [← hx0] at F HWH hcb hC0
     have HTO := Lib.hid (fun W (hb : Below w3.heap.size w3 W) => show Calls Tryz.prog 26 #[.int .i64 0, .int .i64 x] W fun r w' => r = .returned (.string (bytesOf (errT x))) ∧ Below W.heap.size W w' from by
      have hh := dsk_told 0 x W (by omega) (by omega) (by omega) (by omega) (HT3.out _ hb)
      unfold toldT at hh
      rwa [if_neg hC0] at hh)
     clear hC hC0 hW2 hx0
     go_upto_region 19 with fail
     go_region_held3 (fun W => (W.cell? ⟨q, 0, none⟩ = some (.int .i64 c.ci) ∧ W.cell? ⟨q, 1, none⟩ = some (.int .i64 c.ch) ∧ W.cell? ⟨q, 2, none⟩ = some (.int .i64 c.co) ∧ W.cell? ⟨q, 3, none⟩ = some (.int .u64 c.seed) ∧ W.cell? ⟨q, 4, none⟩ = some (.int .i64 c.batch) ∧ W.cell? ⟨q, 5, none⟩ = some (.int .i64 c.steps) ∧ W.cell? ⟨q, 6, none⟩ = some (.int .i64 c.rate) ∧ W.cell? ⟨q, 7, none⟩ = some (.int .i64 c.decay) ∧ W.cell? ⟨q, 8, none⟩ = some (.int .i64 c.how) ∧ W.cell? ⟨q, 9, none⟩ = some (.int .i64 c.keep) ∧ W.cell? ⟨q, 10, none⟩ = some (.int .i64 c.clip)) ∧ W.cell? ⟨q, 11, none⟩ = some (.slice D N dc) ∧ W.cell? ⟨q, 12, none⟩ = some (.pointer (some ⟨sq, 0, none⟩))) (first | (with_reducible exact HS.out _ hd0) | (with_reducible exact HS.out _ hu1) | (with_reducible exact HS.out _ hu2) | (with_reducible exact HS.out _ hu3) | fail) (first
      | (go_at_call 29; (with_reducible refine HRC.out.mono ?_); rintro e u1 ⟨v2, rfl, hH, hbu⟩; obtain ⟨A0, k0, rfl, _, _⟩ := Held.slice hH; have hu1 := bel_trans hd0 hbu; have hR := (RecHeld.recs hH).weak)
      | (go_at_call 28; (refine (HWH.out _ hu1 _ _).mono ?_); rintro e u2 ⟨rfl, hbw⟩; have hu2 := bel_trans hu1 hbw)
      | (go_at_call 26; (refine (HTO.out _ hu2).mono ?_); rintro e u3 ⟨rfl, hbx⟩; have hu3 := bel_trans hu2 hbx)
      | fail)
     all_goals
      go_wp2
      go_ret
      rw [F.out]
      exact ⟨rfl, ⟨_, h3.below hu3⟩, Kp.of_below (bel_trans hb3 hu3)⟩
   ·have F := Lib.hid ((line_some (d := ⟨c, ds, bs, sy⟩) (by decide) HN.out).trans (verb_vAudit_no (by rw [← HM.out]; exact hM)))
    have m0 : ((M : Int) == 0) = false := by rw [beq_eq_false_iff_ne]; omega
    have m1 : (M == 0) = false := by rw [beq_eq_false_iff_ne]; exact hM
    have m2 : ¬ (M : Int) = 0 := by omega
    have HFA := Lib.hid (dsk_failed 3 w3 (by omega) (by omega) (HT.out _ hb3))
    go_wp2_with fail
    refine HFA.out.mono ?_
    rintro e w4 ⟨rfl, hb4⟩
    go_wp2
    go_ret
    rw [F.out]
    exact ⟨rfl, ⟨v, h3.below hb4⟩, Kp.of_below (bel_trans hb3 hb4)⟩
  ·obtain ⟨k0, k1, k2, k3, k4, k5, k6, k7⟩ := kf_vLoss HV.out
   by_cases hM : M = 1
   ·have F := Lib.hid ((line_some (d := ⟨c, ds, bs, sy⟩) (by decide) HN.out).trans (verb_vLoss (by rw [← HM.out]; exact hM)))
    subst hM
    obtain ⟨ab, ao, rfl, hab, hac⟩ := hI1.cells (by omega)
    have n0 := hac 0 (by omega)
    rw [Nat.add_zero] at n0
    obtain ⟨x, hx0⟩ : ∃ x, x = at0 ns 0 := ⟨_, rfl⟩
    rw [← hx0] at n0 F
    clear hx0 hac
    have HCA := Lib.hid (dsk_loss B q sq c v ds bs sy w3 h3 ok x HTB.out)
    go_wp2_with fail
    refine HCA.out.mono ?_
    rintro e w4 ⟨rfl, ⟨v4, h4⟩, hk4⟩
    go_wp2
    go_ret
    rw [F.out]
    exact ⟨rfl, ⟨v4, h4⟩, (Kp.of_below hb3).trans hk4⟩
   ·have F := Lib.hid ((line_some (d := ⟨c, ds, bs, sy⟩) (by decide) HN.out).trans (verb_vLoss_no (by rw [← HM.out]; exact hM)))
    have m0 : ((M : Int) == 1) = false := by rw [beq_eq_false_iff_ne]; omega
    have m1 : (M == 1) = false := by rw [beq_eq_false_iff_ne]; exact hM
    have m2 : ¬ (M : Int) = 1 := by omega
    have HFA := Lib.hid (dsk_failed 3 w3 (by omega) (by omega) (HT.out _ hb3))
    go_wp2_with fail
    refine HFA.out.mono ?_
    rintro e w4 ⟨rfl, hb4⟩
    go_wp2
    go_ret
    rw [F.out]
    exact ⟨rfl, ⟨v, h3.below hb4⟩, Kp.of_below (bel_trans hb3 hb4)⟩
  ·obtain ⟨k0, k1, k2, k3, k4, k5, k6, k7⟩ := kf_vBytes HV.out
   by_cases hM : M = 0
   ·have F := Lib.hid ((line_some (d := ⟨c, ds, bs, sy⟩) (by decide) HN.out).trans (verb_vBytes (by rw [← HM.out]; exact hM)))
    subst hM
    have sp := h3.sp
    have HBY := Lib.hid (sto_Bytes sq 4096 sy _ w3 h3.st)
    obtain ⟨M, hM⟩ : ∃ M, M = bytesOf bs := ⟨_, rfl⟩
    have hMs : M.size = bs.length := by rw [hM]; rfl
    rw [← hM] at HBY
    have hMb : M.size ≤ 4096 := by rw [hMs]; exact hb4
    rw [show ((⟨c, ds, bs, sy⟩ : DSt).by_.length : Int) = (M.size : Int) from by rw [hMs]] at F
    have HTO := Lib.hid (fun W (hb : Below w.heap.size w W) => dsk_told (M.size : Int) 0 W (by omega) (by omega) (by omega) (by omega) (HT.out _ hb))
    clear hM hMs
    go_wp2_with fail
    refine HBY.out.mono ?_
    rintro e w4 ⟨rfl, rfl⟩
    clear sp
    go_wp2_with fail
    refine (HTO.out _ hb3).mono ?_
    rintro e w5 ⟨rfl, hb5⟩
    go_wp2
    go_ret
    rw [F.out]
    exact ⟨rfl, ⟨v, h3.below hb5⟩, Kp.of_below (bel_trans hb3 hb5)⟩
   ·have F := Lib.hid ((line_some (d := ⟨c, ds, bs, sy⟩) (by decide) HN.out).trans (verb_vBytes_no (by rw [← HM.out]; exact hM)))
    have m0 : ((M : Int) == 0) = false := by rw [beq_eq_false_iff_ne]; omega
    have m1 : (M == 0) = false := by rw [beq_eq_false_iff_ne]; exact hM
    have m2 : ¬ (M : Int) = 0 := by omega
    have HFA := Lib.hid (dsk_failed 3 w3 (by omega) (by omega) (HT.out _ hb3))
    go_wp2_with fail
    refine HFA.out.mono ?_
    rintro e w4 ⟨rfl, hb4⟩
    go_wp2
    go_ret
    rw [F.out]
    exact ⟨rfl, ⟨v, h3.below hb4⟩, Kp.of_below (bel_trans hb3 hb4)⟩
  ·have k0 : (V.toList == [99, 111, 110, 102, 105, 103]) = false := by rw [HV.out]; exact beq_eq_false_iff_ne.2 e0
   have k1 : (V.toList == [115, 116, 101, 112]) = false := by rw [HV.out]; exact beq_eq_false_iff_ne.2 e1
   have k2 : (V.toList == [115, 121, 110, 99]) = false := by rw [HV.out]; exact beq_eq_false_iff_ne.2 e2
   have k3 : (V.toList == [99, 114, 97, 115, 104]) = false := by rw [HV.out]; exact beq_eq_false_iff_ne.2 e3
   have k4 : (V.toList == [114, 101, 112, 97, 105, 114]) = false := by rw [HV.out]; exact beq_eq_false_iff_ne.2 e4
   have k5 : (V.toList == [97, 117, 100, 105, 116]) = false := by rw [HV.out]; exact beq_eq_false_iff_ne.2 e5
   have k6 : (V.toList == [108, 111, 115, 115]) = false := by rw [HV.out]; exact beq_eq_false_iff_ne.2 e6
   have k7 : (V.toList == [98, 121, 116, 101, 115]) = false := by rw [HV.out]; exact beq_eq_false_iff_ne.2 e7
   have F := Lib.hid ((line_some (d := ⟨c, ds, bs, sy⟩) hd HN.out).trans (verb_none e0 e1 e2 e3 e4 e5 e6 e7))
   clear e0 e1 e2 e3 e4 e5 e6 e7
   have HFA := Lib.hid (dsk_failed 3 w3 (by omega) (by omega) (HT.out _ hb3))
   go_wp2_with fail
   refine HFA.out.mono ?_
   rintro e w4 ⟨rfl, hb4⟩
   go_wp2
   go_ret
   rw [F.out]
   exact ⟨rfl, ⟨v, h3.below hb4⟩, Kp.of_below (bel_trans hb3 hb4)⟩
end Go.Proofs.YtgodgedhddngeaaGreatDoor
