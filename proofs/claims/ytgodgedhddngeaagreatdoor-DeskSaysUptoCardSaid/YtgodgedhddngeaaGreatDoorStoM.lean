/- Beginnings of bytes: the document's Beginning, the store's: walks. -/
import Derived.Test.YtgodgedhddngeaaGreatDoorStoX
set_option maxRecDepth 100000
set_option maxHeartbeats 16000000
namespace Go.Proofs.YtgodgedhddngeaaGreatDoor
open Go.RowKit Go.Sort Pl
theorem begK_len : ∀ (m : Nat) (s : List UInt8) (k : Nat), s.length ≤ m → (begK s k).1.length ≤ (begK s k).2
 | 0, s, k, hm => by
  obtain rfl : s = [] := List.length_eq_zero_iff.1 (by omega)
  exact Nat.le_refl _
 | m + 1, s, k, hm => by
  rcases begK_cases s k with ⟨e, _⟩ | ⟨r, n, hp, hs, h1, h2, e⟩
  ·rw [e]
   exact Nat.le_refl _
  ·have ih := begK_len m (s.drop n) (k + 1) (by rw [List.length_drop]; omega)
   rw [e]
   show (begK (s.drop n) (k + 1)).1.length + 1 ≤ n + (begK (s.drop n) (k + 1)).2
   omega
theorem beg_len (s : List UInt8) : (beg s).1.length ≤ s.length := Nat.le_trans (begK_len _ s 0 (Nat.le_refl _)) (beg_le s)
structure BegAt (l : List UInt8) (k at_ : Nat) : Prop where
 two : (beg l).2 = at_ + (begK (l.drop at_) k).2
 one : (beg l).1.drop k = (begK (l.drop at_) k).1
 le : at_ ≤ l.length
 kl : k ≤ (beg l).1.length
theorem BegAt.zero (l : List UInt8) : BegAt l 0 0 := ⟨by rw [List.drop_zero]; rw [beg_K]; omega, rfl, Nat.zero_le _, Nat.zero_le _⟩
theorem BegAt.stop {l : List UInt8} {k at_ : Nat} (h : BegAt l k at_) (he : (parseR (l.drop at_)).2.2 ≠ 0 ∨ (parseR (l.drop at_)).1.step ≠ (k : Int)) : (beg l).1.length = k ∧ (beg l).2 = at_ := by
 have e : begK (l.drop at_) k = ([], 0) := begK_end fun r n hp => by
  unfold parseR at he
  rw [hp] at he
  rcases he with he | he
  ·exact absurd rfl he
  ·exact he
 have h1 := h.one
 have h2 := h.two
 rw [e] at h1 h2
 have h3 := congrArg List.length h1
 rw [List.length_drop] at h3
 have := h.kl
 simp only [List.length_nil] at h3
 exact ⟨by omega, h2⟩
theorem BegAt.go {l : List UInt8} {k at_ : Nat} (h : BegAt l k at_) (he : (parseR (l.drop at_)).2.2 = 0) (hs : (parseR (l.drop at_)).1.step = (k : Int)) :
  BegAt l (k + 1) (at_ + (parseR (l.drop at_)).2.1) ∧ recAt (beg l).1 k = (parseR (l.drop at_)).1 ∧ 1 ≤ (parseR (l.drop at_)).2.1 := by
 unfold parseR at he hs ⊢
 cases hp : parse (l.drop at_) with
 | none =>
  rw [hp] at he
  cases he
 | some p =>
  obtain ⟨r, n⟩ := p
  rw [hp] at hs
  simp only at hs ⊢
  obtain ⟨_, h3, _, h4⟩ := parse_some hp
  have e := begK_step hp hs
  have h1 := h.one
  have h2 := h.two
  rw [e] at h1 h2
  rw [List.length_drop] at h3
  have hle := h.le
  have hk : k < (beg l).1.length := by
   have h5 := congrArg List.length h1
   rw [List.length_drop] at h5
   simp only [List.length_cons] at h5
   omega
  rw [List.drop_eq_getElem_cons hk] at h1
  injection h1 with h6 h7
  refine ⟨⟨?_, ?_, by omega, hk⟩, ?_, h4⟩
  ·rw [← List.drop_drop]
   show (beg l).2 = _
   rw [h2]
   show at_ + (n + _) = _
   omega
  ·rw [List.drop_drop] at h7
   exact h7
  ·unfold recAt
   rw [List.getElem?_eq_getElem hk]
   exact h6
theorem rec_infoB : (Tryz.prog.info? 90).map (fun i => (i.zero, i.size, i.bytes)) = some (some (.agg #[.int .i64 0, .slice none 0 0, .int .i64 0, .int .u64 0, .int .u64 0]), 5, 56) := by kernel_rfl
theorem but_bel {g : Nat} {a b c : World} (h : But g a b) (hb : Below b.heap.size b c) : But g a c :=
 ⟨hb.os.trans h.os, hb.tape.trans h.tape, hb.output.trans h.output, Nat.le_trans h.size hb.size, fun k hk hne => (hb.block k (Nat.lt_of_lt_of_le hk h.size)).trans (h.block k hk hne)⟩
def BegPost (l : List UInt8) (w : World) (e : Ending) (w' : World) : Prop :=
 ∃ v, e = .returned (.tuple #[v, .int .i64 ((beg l).2 : Nat)]) ∧ RecHeld none w.heap.size (recAt (beg l).1) (beg l).1.length v w' ∧ Below w.heap.size w w'
theorem ref_Beginning (s : ByteArray) (w : World) (hs : s.size ≤ 4294967280) (ht : Tabs w) :
  Calls Tryz.prog 36 #[.string s] w (BegPost s.data.toList w) := by
 have hsz : s.data.toList.length = s.size := by rw [Array.length_toList]; rfl
 obtain ⟨i0, hi0, hz0, hz1, hz2⟩ := info_parts rec_infoB
 have HLN := Lib.hid (show (beg s.data.toList).1.length ≤ s.size from by rw [← hsz]; exact beg_len _)
 go_enter Tryz.func36, Tryz.ntmps36
 go_wp2
 go_loopw [4, 5, 6, 7, 8] (fun v av _ _ _ wr => ∃ k at_ : Nat, av = .int .i64 at_ ∧ BegAt s.data.toList k at_ ∧ RecHeld none w.heap.size (recAt (beg s.data.toList).1) k v wr ∧ Below w.heap.size w wr) (fun _ av _ _ _ _ => s.size - (intOf av).toNat)
 case atStart => exact ⟨0, 0, rfl, BegAt.zero _, Held.zero, Below.refl _ _⟩
 case round =>
  obtain ⟨k, at_, rfl, hB, hH, hb⟩ := hrel
  have hle := hB.le
  rw [hsz] at hle
  have hkl := hB.kl
  have hld : (s.extract at_ s.size).data.toList = s.data.toList.drop at_ := by
   rw [Lib.extract_data, List.take_of_length_le (by rw [List.length_drop, hsz]; omega)]
  have hRL := ref_ReadLine (s.extract at_ s.size) wr (by rw [Lib.size_eq, hld, List.length_drop, hsz]; omega) (ht.below hb)
  unfold ParsePost at hRL
  rw [hld] at hRL
  have HST := Lib.hid (fun h => hB.stop h)
  have HGO := Lib.hid (fun h1 h2 => hB.go h1 h2)
  obtain ⟨P, hP⟩ : ∃ P, P = parseR (s.data.toList.drop at_) := ⟨_, rfl⟩
  rw [← hP] at hRL HST HGO
  obtain ⟨x, N, E⟩ := P
  simp only at hRL HST HGO
  have HRL := Lib.hid hRL
  have z1 : (at_ : Int) ≤ (s.size : Int) := by omega
  clear hP hRL hld hB
  go_wp2_with fail
  refine HRL.out.mono ?_
  rintro e u ⟨A, ka, rfl, ho, hbu⟩
  have hbs := hb.size
  have hbus := hbu.size
  have hwu := hb.trans (hbu.mono hbs)
  have O1 := Lib.hid (fun W (h : Below u.heap.size u W) => own_below ho h)
  obtain ⟨Ao, co, hvo, hco1, hco2⟩ := hH.slice
  have HFR := Lib.hid (fun b (e : u4.ownBlock = some b) => hH.lt b e)
  have hHu := hH.below (keeps_rec none) hbu
  rw [hvo] at HFR hHu
  subst hvo
  clear hH ho
  have bA : Below u.heap.size u (u.alloc (.cells #[.int .i64 x.step, .slice A x.batch.length ka, .int .i64 x.rate, .int .u64 x.root, .int .u64 x.chain] 90)) := (by repeat (first | exact Below.refl _ _ | assumption | refine bel_drewN ?_ _ | refine Below.drew ?_ | (refine Below.alloc ?_ (by simp <;> omega) _) | (refine Below.setCell ?_ (by simp <;> omega) _)))
  by_cases hE : E = 0
  ·by_cases hS : x.step = (k : Int)
   ·obtain ⟨hB2, hrk, hN1⟩ := HGO.out hE hS
    have HB2 := Lib.hid hB2
    have hN2 := hB2.le
    have hkl2 := hB2.kl
    rw [hsz] at hN2
    subst hE
    have hkb : k ≤ 4294967280 := by have := HLN.out; omega
    have bB : Below u.heap.size u ((u.alloc (.cells #[.int .i64 x.step, .slice A x.batch.length ka, .int .i64 x.rate, .int .u64 x.root, .int .u64 x.chain] 90)).alloc (.cells #[.int .i64 x.step, .slice A x.batch.length ka, .int .i64 x.rate, .int .u64 x.root, .int .u64 x.chain] 90)) := (by repeat (first | exact Below.refl _ _ | assumption | refine bel_drewN ?_ _ | refine Below.drew ?_ | (refine Below.alloc ?_ (by simp <;> omega) _) | (refine Below.setCell ?_ (by simp <;> omega) _)))
    obtain ⟨vs, hoV, hpV⟩ := hHu.below (keeps_rec none) bB
    have hvl := hoV.1
    have hbW := hwu.trans (bB.mono hwu.size)
    have X3 : RecK none ((u.alloc (.cells #[.int .i64 x.step, .slice A x.batch.length ka, .int .i64 x.rate, .int .u64 x.root, .int .u64 x.chain] 90)).alloc (.cells #[.int .i64 x.step, .slice A x.batch.length ka, .int .i64 x.rate, .int .u64 x.root, .int .u64 x.chain] 90)) (Value.slice Ao k co).ownBlock [.int .i64 x.step, .slice A x.batch.length ka, .int .i64 x.rate, .int .u64 x.root, .int .u64 x.chain] (recAt (beg s.data.toList).1 k) := by
     rw [hrk]
     exact ⟨_, rfl, ListV.own (O1.out _ bB) rfl (fun b h1 _ => ⟨by simp, fun e => by have := (HFR.out b e).2; omega⟩)⟩
    have hNB := Blk.made' (u.alloc (.cells #[.int .i64 x.step, .slice A x.batch.length ka, .int .i64 x.rate, .int .u64 x.root, .int .u64 x.chain] 90)) 90 #[.int .i64 x.step, .slice A x.batch.length ka, .int .i64 x.rate, .int .u64 x.root, .int .u64 x.chain] (g := u.heap.size + 1) (by simp)
    have t0 : (x.step != (k : Int)) = false := by rw [hS]; simp
    have e5 : IntKind.i64.wrap ((at_ : Int) + (N : Int)) = ((at_ + N : Nat) : Int) := by rw [wrap_small _ (by omega) (by omega)]; omega
    clear hB2 hrk hkl2 HGO HST hS hHu
    go_wp2_with (at_builtin; refine wpList_append_lies _ rfl _ _ 66 rfl w.heap.size 90 i0 (.agg #[.int .i64 0, .slice none 0 0, .int .i64 0, .int .u64 0, .int .u64 0]) 5 56 Tryz.underlying66 hi0 hz0 hz1 hz2 rfl (by decide) (.slice Ao k co) k vs rfl hoV ⟨u.heap.size + 1, 0, none⟩ 1 1 [.int .i64 x.step, .slice A x.batch.length ka, .int .i64 x.rate, .int .u64 x.root, .int .u64 x.chain] rfl rfl (World.news_of_block (cs := #[.int .i64 x.step, .slice A x.batch.length ka, .int .i64 x.rate, .int .u64 x.root, .int .u64 x.chain]) hNB) (by simp [Value.oneCell']) (by omega) (by unfold maxLen; omega) (by omega) (by simp <;> omega) (u.heap.size + 1 + 1) (by simp) ?_; intro g1 cap1 w1 hown1 hgrow hgg hlt1)
    have hgg' : (Value.slice Ao k co).ownBlock = some g1 ∨ ((u.alloc (.cells #[.int .i64 x.step, .slice A x.batch.length ka, .int .i64 x.rate, .int .u64 x.root, .int .u64 x.chain] 90)).alloc (.cells #[.int .i64 x.step, .slice A x.batch.length ka, .int .i64 x.rate, .int .u64 x.root, .int .u64 x.chain] 90)).heap.size ≤ g1 := hgg.imp id (fun h => by simp; omega)
    have hH2 := Held.push (keeps_rec none) hown1 hvl rfl hpV X3 hgrow hgg'
    have hB3 := Below.grown hbW hgrow (by simp; omega) (fun x hx => (HFR.out x hx).1)
    clear hown1 hgrow hgg hgg' X3 hpV hoV hNB
    go_roundw
    case rel => exact ⟨k + 1, at_ + N, by go_num, HB2.out, hH2, hB3⟩
    case measure => simp [intOf]; omega
   ·obtain ⟨hkk, haa⟩ := HST.out (.inr hS)
    subst hE
    have t1 : (x.step != (k : Int)) = true := by rw [bne_iff_ne]; exact hS
    clear HST HGO hS O1
    go_wp2
    go_ret2
    unfold BegPost
    rw [hkk, haa]
    exact ⟨_, rfl, hHu.below (keeps_rec none) bA, hwu.trans (bA.mono hwu.size)⟩
  ·obtain ⟨hkk, haa⟩ := HST.out (.inl hE)
   have t1 : (E != 0) = true := by rw [bne_iff_ne]; exact hE
   clear HST HGO hE O1
   go_wp2
   go_ret2
   unfold BegPost
   rw [hkk, haa]
   exact ⟨_, rfl, hHu.below (keeps_rec none) bA, hwu.trans (bA.mono hwu.size)⟩
def BegPostQ (q : Nat) (l : List UInt8) (w : World) (e : Ending) (w' : World) : Prop :=
 ∃ v, e = .returned (.tuple #[v, .int .i64 ((beg l).2 : Nat)]) ∧ RecHeld (some q) w.heap.size (recAt (beg l).1) (beg l).1.length v w' ∧ Below w.heap.size w w'
theorem sto_beginning (q : Nat) (room sy : Int) (s : ByteArray) (w : World) (hq : Blk w q 54 #[.int .i64 room, .string s, .int .i64 sy]) (hs : s.size ≤ 4294967280) (ht : Tabs w) :
  Calls Tryz.prog 50 #[.pointer (some ⟨q, 0, none⟩)] w (BegPostQ q s.data.toList w) := by
 have hsz : s.data.toList.length = s.size := by rw [Array.length_toList]; rfl
 obtain ⟨i0, hi0, hz0, hz1, hz2⟩ := info_parts rec_infoB
 have hql := hq.lt
 have HLN := Lib.hid (show (beg s.data.toList).1.length ≤ s.size from by rw [← hsz]; exact beg_len _)
 go_enter Tryz.func50, Tryz.ntmps50
 go_wp2
 go_loopw [4, 5, 6, 7, 8] (fun v av _ _ _ wr => ∃ k at_ : Nat, av = .int .i64 at_ ∧ BegAt s.data.toList k at_ ∧ RecHeld (some q) w.heap.size (recAt (beg s.data.toList).1) k v wr ∧ Below w.heap.size w wr) (fun _ av _ _ _ _ => s.size - (intOf av).toNat)
 case atStart => exact ⟨0, 0, rfl, BegAt.zero _, Held.zero, Below.refl _ _⟩
 case round =>
  obtain ⟨k, at_, rfl, hB, hH, hb⟩ := hrel
  have hle := hB.le
  rw [hsz] at hle
  have hkl := hB.kl
  have hld : (s.extract at_ s.size).data.toList = s.data.toList.drop at_ := by
   rw [Lib.extract_data, List.take_of_length_le (by rw [List.length_drop, hsz]; omega)]
  have q1 : wr.cell? ⟨q, 1, none⟩ = some (.string s) := (hq.below hb hq.lt).cell 1
  have hRL := sto_Parse (s.extract at_ s.size) wr (by rw [Lib.size_eq, hld, List.length_drop, hsz]; omega) (ht.below hb)
  unfold ParsePost at hRL
  rw [hld] at hRL
  have HST := Lib.hid (fun h => hB.stop h)
  have HGO := Lib.hid (fun h1 h2 => hB.go h1 h2)
  obtain ⟨P, hP⟩ : ∃ P, P = parseR (s.data.toList.drop at_) := ⟨_, rfl⟩
  rw [← hP] at hRL HST HGO
  obtain ⟨x, N, E⟩ := P
  simp only at hRL HST HGO
  have HRL := Lib.hid hRL
  have z1 : (at_ : Int) ≤ (s.size : Int) := by omega
  clear hP hRL hld hB
  go_wp2_with fail
  refine HRL.out.mono ?_
  rintro e u ⟨A, ka, rfl, ho, hbu⟩
  have hbs := hb.size
  have hbus := hbu.size
  have hwu := hb.trans (hbu.mono hbs)
  have O1 := Lib.hid (fun W (h : Below u.heap.size u W) => own_below ho h)
  obtain ⟨Ao, co, hvo, hco1, hco2⟩ := hH.slice
  have HFR := Lib.hid (fun b (e : u4.ownBlock = some b) => hH.lt b e)
  have hHu := hH.below (keeps_rec (some q)) hbu
  rw [hvo] at HFR hHu
  subst hvo
  clear hH ho
  have bA : Below u.heap.size u (u.alloc (.cells #[.int .i64 x.step, .slice A x.batch.length ka, .int .i64 x.rate, .int .u64 x.root, .int .u64 x.chain] 90)) := (by repeat (first | exact Below.refl _ _ | assumption | refine bel_drewN ?_ _ | refine Below.drew ?_ | (refine Below.alloc ?_ (by simp <;> omega) _) | (refine Below.setCell ?_ (by simp <;> omega) _)))
  by_cases hE : E = 0
  ·by_cases hS : x.step = (k : Int)
   ·obtain ⟨hB2, hrk, hN1⟩ := HGO.out hE hS
    have HB2 := Lib.hid hB2
    have hN2 := hB2.le
    have hkl2 := hB2.kl
    rw [hsz] at hN2
    subst hE
    have hkb : k ≤ 4294967280 := by have := HLN.out; omega
    have bB : Below u.heap.size u ((u.alloc (.cells #[.int .i64 x.step, .slice A x.batch.length ka, .int .i64 x.rate, .int .u64 x.root, .int .u64 x.chain] 90)).alloc (.cells #[.int .i64 x.step, .slice A x.batch.length ka, .int .i64 x.rate, .int .u64 x.root, .int .u64 x.chain] 90)) := (by repeat (first | exact Below.refl _ _ | assumption | refine bel_drewN ?_ _ | refine Below.drew ?_ | (refine Below.alloc ?_ (by simp <;> omega) _) | (refine Below.setCell ?_ (by simp <;> omega) _)))
    obtain ⟨vs, hoV, hpV⟩ := hHu.below (keeps_rec (some q)) bB
    have hvl := hoV.1
    have hbW := hwu.trans (bB.mono hwu.size)
    have X3 : RecK (some q) ((u.alloc (.cells #[.int .i64 x.step, .slice A x.batch.length ka, .int .i64 x.rate, .int .u64 x.root, .int .u64 x.chain] 90)).alloc (.cells #[.int .i64 x.step, .slice A x.batch.length ka, .int .i64 x.rate, .int .u64 x.root, .int .u64 x.chain] 90)) (Value.slice Ao k co).ownBlock [.int .i64 x.step, .slice A x.batch.length ka, .int .i64 x.rate, .int .u64 x.root, .int .u64 x.chain] (recAt (beg s.data.toList).1 k) := by
     rw [hrk]
     exact ⟨_, rfl, ListV.own (O1.out _ bB) rfl (fun b h1 _ => ⟨fun e => by injection e with e; omega, fun e => by have := (HFR.out b e).2; omega⟩)⟩
    have hNB := Blk.made' (u.alloc (.cells #[.int .i64 x.step, .slice A x.batch.length ka, .int .i64 x.rate, .int .u64 x.root, .int .u64 x.chain] 90)) 90 #[.int .i64 x.step, .slice A x.batch.length ka, .int .i64 x.rate, .int .u64 x.root, .int .u64 x.chain] (g := u.heap.size + 1) (by simp)
    have t0 : (x.step != (k : Int)) = false := by rw [hS]; simp
    have e5 : IntKind.i64.wrap ((at_ : Int) + (N : Int)) = ((at_ + N : Nat) : Int) := by rw [wrap_small _ (by omega) (by omega)]; omega
    clear hB2 hrk hkl2 HGO HST hS hHu
    go_wp2_with (at_builtin; refine wpList_append_lies _ rfl _ _ 66 rfl w.heap.size 90 i0 (.agg #[.int .i64 0, .slice none 0 0, .int .i64 0, .int .u64 0, .int .u64 0]) 5 56 Tryz.underlying66 hi0 hz0 hz1 hz2 rfl (by decide) (.slice Ao k co) k vs rfl hoV ⟨u.heap.size + 1, 0, none⟩ 1 1 [.int .i64 x.step, .slice A x.batch.length ka, .int .i64 x.rate, .int .u64 x.root, .int .u64 x.chain] rfl rfl (World.news_of_block (cs := #[.int .i64 x.step, .slice A x.batch.length ka, .int .i64 x.rate, .int .u64 x.root, .int .u64 x.chain]) hNB) (by simp [Value.oneCell']) (by omega) (by unfold maxLen; omega) (by omega) (by simp <;> omega) (u.heap.size + 1 + 1) (by simp) ?_; intro g1 cap1 w1 hown1 hgrow hgg hlt1)
    have hgg' : (Value.slice Ao k co).ownBlock = some g1 ∨ ((u.alloc (.cells #[.int .i64 x.step, .slice A x.batch.length ka, .int .i64 x.rate, .int .u64 x.root, .int .u64 x.chain] 90)).alloc (.cells #[.int .i64 x.step, .slice A x.batch.length ka, .int .i64 x.rate, .int .u64 x.root, .int .u64 x.chain] 90)).heap.size ≤ g1 := hgg.imp id (fun h => by simp; omega)
    have hH2 := Held.push (keeps_rec (some q)) hown1 hvl rfl hpV X3 hgrow hgg'
    have hB3 := Below.grown hbW hgrow (by simp; omega) (fun x hx => (HFR.out x hx).1)
    clear hown1 hgrow hgg hgg' X3 hpV hoV hNB
    go_roundw
    case rel => exact ⟨k + 1, at_ + N, by go_num, HB2.out, hH2, hB3⟩
    case measure => simp [intOf]; omega
   ·obtain ⟨hkk, haa⟩ := HST.out (.inr hS)
    subst hE
    have t1 : (x.step != (k : Int)) = true := by rw [bne_iff_ne]; exact hS
    clear HST HGO hS O1
    go_wp2
    go_ret2
    unfold BegPostQ
    rw [hkk, haa]
    exact ⟨_, rfl, hHu.below (keeps_rec (some q)) bA, hwu.trans (bA.mono hwu.size)⟩
  ·obtain ⟨hkk, haa⟩ := HST.out (.inl hE)
   have t1 : (E != 0) = true := by rw [bne_iff_ne]; exact hE
   clear HST HGO hE O1
   go_wp2
   go_ret2
   unfold BegPostQ
   rw [hkk, haa]
   exact ⟨_, rfl, hHu.below (keeps_rec (some q)) bA, hwu.trans (bA.mono hwu.size)⟩
theorem sto_RecordsQ (q : Nat) (room sy : Int) (s : ByteArray) (w : World) (hq : Blk w q 54 #[.int .i64 room, .string s, .int .i64 sy]) (hs : s.size ≤ 4294967280) (ht : Tabs w) :
  Calls Tryz.prog 29 #[.pointer (some ⟨q, 0, none⟩)] w fun e w' => ∃ v, e = .returned v ∧ RecHeld (some q) w.heap.size (recAt (beg s.data.toList).1) (beg s.data.toList).1.length v w' ∧ Below w.heap.size w w' := by
 have HB := Lib.hid (sto_beginning q room sy s w hq hs ht)
 clear hq
 go_enter Tryz.func29, Tryz.ntmps29
 go_wp2_with fail
 refine HB.out.mono ?_
 rintro e w1 ⟨v, rfl, hH, hb⟩
 go_wp2
 go_ret
 exact ⟨v, rfl, hH, hb⟩
theorem sto_Records (q : Nat) (room sy : Int) (s : ByteArray) (w : World) (hq : Blk w q 54 #[.int .i64 room, .string s, .int .i64 sy]) (hs : s.size ≤ 4294967280) (ht : Tabs w) :
  Calls Tryz.prog 29 #[.pointer (some ⟨q, 0, none⟩)] w fun e w' => ∃ v, e = .returned v ∧ RecHeld none w.heap.size (recAt (beg s.data.toList).1) (beg s.data.toList).1.length v w' ∧ Below w.heap.size w w' := by
 exact (sto_RecordsQ q room sy s w hq hs ht).mono fun e w' ⟨v, e1, h, hb⟩ => ⟨v, e1, Held.imp (fun h => RecK.drop h) h, hb⟩
theorem sto_Bytes (q : Nat) (room sy : Int) (s : ByteArray) (w : World) (hq : Blk w q 54 #[.int .i64 room, .string s, .int .i64 sy]) :
  Calls Tryz.prog 31 #[.pointer (some ⟨q, 0, none⟩)] w fun e w' => e = .returned (.string s) ∧ w' = w := by
 have q1 : w.cell? ⟨q, 1, none⟩ = some (.string s) := hq.cell 1
 go_enter Tryz.func31, Tryz.ntmps31
 go_wp2
 go_ret
 exact ⟨rfl, rfl⟩
theorem sto_Sync (q : Nat) (room sy : Int) (s : ByteArray) (w : World) (hq : Blk w q 54 #[.int .i64 room, .string s, .int .i64 sy]) :
  Calls Tryz.prog 24 #[.pointer (some ⟨q, 0, none⟩)] w fun e w' => e = .returned (.tuple #[]) ∧ Blk w' q 54 #[.int .i64 room, .string s, .int .i64 s.size] ∧ But q w w' := by
 have q1 : w.cell? ⟨q, 1, none⟩ = some (.string s) := hq.cell 1
 have q2 : w.cell? ⟨q, 2, none⟩ = some (.int .i64 sy) := hq.cell 2
 have f2 := hq.frozen 2
 go_enter Tryz.func24, Tryz.ntmps24
 go_wp2
 exact bodyPost_end (v := .tuple #[]) (by simp [results, Tryz.results24, go_sem]) rfl ⟨rfl, hq.put 2 _, (But.refl q w).put 2 _⟩
def crashN (sy n : Nat) (keep : Int) : Nat := sy + (min (max keep 0) ((n : Int) - sy)).toNat
theorem crashN_le {sy n : Nat} (h : sy ≤ n) (keep : Int) : sy ≤ crashN sy n keep ∧ crashN sy n keep ≤ n := by
 unfold crashN
 omega
theorem sto_Crash (q : Nat) (room : Int) (sy : Nat) (s : ByteArray) (keep : Int) (w : World) (hq : Blk w q 54 #[.int .i64 room, .string s, .int .i64 sy]) (hs : s.size ≤ 4294967280) (hy : sy ≤ s.size) :
  Calls Tryz.prog 25 #[.pointer (some ⟨q, 0, none⟩), .int .i64 keep] w fun e w' => e = .returned (.tuple #[]) ∧ Blk w' q 54 #[.int .i64 room, .string (s.extract 0 (crashN sy s.size keep)), .int .i64 (crashN sy s.size keep)] ∧ But q w w' := by
 have q1 : w.cell? ⟨q, 1, none⟩ = some (.string s) := hq.cell 1
 have q2 : w.cell? ⟨q, 2, none⟩ = some (.int .i64 sy) := hq.cell 2
 have f1 := hq.frozen 1
 have f2 := hq.frozen 2
 obtain ⟨c1, c2⟩ := crashN_le hy keep
 have e1 : IntKind.i64.wrap ((s.size : Int) - (sy : Int)) = ((s.size : Int) - (sy : Int)) := by rw [wrap_small _ (by omega) (by omega)]
 have e2 : IntKind.i64.wrap ((sy : Int) + min (max keep 0) ((s.size : Int) - (sy : Int))) = ((crashN sy s.size keep : Nat) : Int) := by
  unfold crashN
  rw [wrap_small _ (by omega) (by omega)]
  omega
 obtain ⟨C, hC⟩ : ∃ C, C = crashN sy s.size keep := ⟨_, rfl⟩
 rw [← hC] at c1 c2 e2 ⊢
 have c3 : (C : Int) ≤ (s.size : Int) := by omega
 clear hC
 go_enter Tryz.func25, Tryz.ntmps25
 go_upto_region 0 with fail
 go_region
 all_goals
  go_upto_region 1 with fail
  go_region
  have hq2 : Blk (w.setCell ⟨q, 1, none⟩ (.string (s.extract 0 C))).drew.drew q 54 #[.int .i64 room, .string (s.extract 0 C), .int .i64 sy] := hq.put 1 _
  have hz : (s.extract 0 C).size = C := by
   rw [Lib.size_eq, Lib.extract_data, List.length_take, List.length_drop, Array.length_toList]
   show min (C - 0) (s.size - 0) = C
   omega
  have HS := sto_Sync q room sy (s.extract 0 C) _ hq2
  rw [hz] at HS
  have HSY := Lib.hid HS
  have hbt : But q w (w.setCell ⟨q, 1, none⟩ (.string (s.extract 0 C))).drew.drew := ((But.refl q w).put 1 (.string (s.extract 0 C))).drewN 2
  clear HS hz hq2 q1 q2 f1 f2 hq
  go_wp2_with fail
  refine HSY.out.mono ?_
  rintro e w2 ⟨rfl, hq3, hb3⟩
  go_wp2
  exact bodyPost_end (v := .tuple #[]) (by simp [results, Tryz.results25, go_sem]) rfl ⟨rfl, hq3, hbt.trans hb3⟩
theorem sto_Repair (q : Nat) (room sy : Int) (s : ByteArray) (w : World) (hq : Blk w q 54 #[.int .i64 room, .string s, .int .i64 sy]) (hs : s.size ≤ 4294967280) (ht : Tabs w) :
  Calls Tryz.prog 27 #[.pointer (some ⟨q, 0, none⟩)] w fun e w' => e = .returned (.int .i64 ((s.size : Int) - ((beg s.data.toList).2 : Nat))) ∧ Blk w' q 54 #[.int .i64 room, .string (s.extract 0 (beg s.data.toList).2), .int .i64 ((beg s.data.toList).2 : Nat)] ∧ But q w w' := by
 have HB := sto_beginning q room sy s w hq hs ht
 unfold BegPostQ at HB
 have hle := beg_le s.data.toList
 rw [Array.length_toList] at hle
 have hle : (beg s.data.toList).2 ≤ s.size := hle
 obtain ⟨C, hC⟩ : ∃ C, C = (beg s.data.toList).2 := ⟨_, rfl⟩
 rw [← hC] at hle HB ⊢
 have HBH := Lib.hid HB
 have c3 : (C : Int) ≤ (s.size : Int) := by omega
 have e1 : IntKind.i64.wrap ((s.size : Int) - (C : Int)) = ((s.size : Int) - (C : Int)) := by rw [wrap_small _ (by omega) (by omega)]
 clear hC HB
 go_enter Tryz.func27, Tryz.ntmps27
 go_wp2_with fail
 refine HBH.out.mono ?_
 rintro e w1 ⟨v, rfl, _, hb⟩
 have hq1 := hq.below hb hq.lt
 have q1 : w1.cell? ⟨q, 1, none⟩ = some (.string s) := hq1.cell 1
 have f1 := hq1.frozen 1
 have hq2 : Blk (w1.setCell ⟨q, 1, none⟩ (.string (s.extract 0 C))) q 54 #[.int .i64 room, .string (s.extract 0 C), .int .i64 sy] := hq1.put 1 _
 have hz : (s.extract 0 C).size = C := by
  rw [Lib.size_eq, Lib.extract_data, List.length_take, List.length_drop, Array.length_toList]
  show min (C - 0) (s.size - 0) = C
  omega
 have HS := sto_Sync q room sy (s.extract 0 C) _ hq2
 rw [hz] at HS
 have HSY := Lib.hid HS
 have hbt : But q w (w1.setCell ⟨q, 1, none⟩ (.string (s.extract 0 C))) := (but_bel (But.refl q w) hb).put 1 (.string (s.extract 0 C))
 clear HS hz hq2 hq1 hq
 go_wp2_with fail
 refine HSY.out.mono ?_
 rintro e w2 ⟨rfl, hq3, hb3⟩
 go_wp2
 go_ret
 exact ⟨rfl, hq3, hbt.trans hb3⟩
theorem sto_New_ok (room : Int) (w : World) (h0 : 0 ≤ room) (h1 : room ≤ 8192) :
  Calls Tryz.prog 7 #[.int .i64 room] w fun e w' => e = .returned (.tuple #[.pointer (some ⟨w.heap.size, 0, none⟩), .int .i64 0]) ∧ Blk w' w.heap.size 54 #[.int .i64 room, .string ByteArray.empty, .int .i64 0] ∧ Below w.heap.size w w' := by
 have bw : Below w.heap.size w (w.alloc (.cells #[.int .i64 room, .string ByteArray.empty, .int .i64 0] 54)) := (by repeat (first | exact Below.refl _ _ | assumption | refine bel_drewN ?_ _ | refine Below.drew ?_ | (refine Below.alloc ?_ (by simp <;> omega) _) | (refine Below.setCell ?_ (by simp <;> omega) _)))
 go_enter Tryz.func7, Tryz.ntmps7
 go_wp2
 go_ret2
 exact ⟨rfl, Blk.made _ _ _, bw⟩
def appFits (room : Int) (s : ByteArray) (r : Rec) : Bool := decide ((s.size : Int) + (lineT r).length ≤ room)
def appE (room : Int) (s : ByteArray) (r : Rec) : Int := if goodR r = true then (if appFits room s r = true then 0 else 6) else 5
def appB (room : Int) (s : ByteArray) (r : Rec) : ByteArray := if goodR r = true ∧ appFits room s r = true then s ++ bytesOf (lineT r) else s
theorem sto_Append (q : Nat) (room sy : Int) (s : ByteArray) (r : Rec) (A : Option Addr) (n k : Nat) (w : World) (hq : Blk w q 54 #[.int .i64 room, .string s, .int .i64 sy]) (hs : s.size ≤ 4294967280) (hx : Ints .i64 w A n r.batch) (hn : n ≤ 9223372036854775807) (b0 : 0 ≤ r.root) (b1 : 0 ≤ r.chain) (ht : Tabs w) :
  Calls Tryz.prog 48 #[.pointer (some ⟨q, 0, none⟩), .agg #[.int .i64 r.step, .slice A n k, .int .i64 r.rate, .int .u64 r.root, .int .u64 r.chain]] w fun e w' => e = .returned (.int .i64 (appE room s r)) ∧ Blk w' q 54 #[.int .i64 room, .string (appB room s r), .int .i64 sy] ∧ But q w w' := by
 have bw : Below w.heap.size w (w.alloc (.cells #[.int .i64 r.step, .slice A n k, .int .i64 r.rate, .int .u64 r.root, .int .u64 r.chain] 90)) := (by repeat (first | exact Below.refl _ _ | assumption | refine bel_drewN ?_ _ | refine Below.drew ?_ | (refine Below.alloc ?_ (by simp <;> omega) _) | (refine Below.setCell ?_ (by simp <;> omega) _)))
 have HP := Lib.hid (sto_Print r A n k _ (hx.below bw) hn b0 b1 (ht.below bw))
 clear hx
 go_enter Tryz.func48, Tryz.ntmps48
 go_wp2_with fail
 refine HP.out.mono ?_
 rintro e w1 ⟨rfl, hb1⟩
 have hw1 := bw.trans (hb1.mono bw.size)
 have hq1 := hq.below hw1 hq.lt
 have hbt := but_bel (But.refl q w) hw1
 obtain ⟨⟨q0, q1, q2⟩, f0, f1, f2⟩ : (w1.cell? ⟨q, 0, none⟩ = some (.int .i64 room) ∧ w1.cell? ⟨q, 1, none⟩ = some (.string s) ∧ w1.cell? ⟨q, 2, none⟩ = some (.int .i64 sy)) ∧ w1.frozen? ⟨q, 0, none⟩ = false ∧ w1.frozen? ⟨q, 1, none⟩ = false ∧ w1.frozen? ⟨q, 2, none⟩ = false := ⟨⟨hq1.cell 0, hq1.cell 1, hq1.cell 2⟩, hq1.frozen 0, hq1.frozen 1, hq1.frozen 2⟩
 clear HP hb1 bw hw1 ht
 cases hg : goodR r
 ·rw [show printT r = [] from by unfold printT; rw [hg]; rfl, show printE r = 5 from by unfold printE; rw [hg]; rfl]
  have FE := Lib.hid (show appE room s r = 5 ∧ appB room s r = s from ⟨by unfold appE; rw [hg]; rfl, by unfold appB; rw [hg]; exact if_neg (fun h => by cases h.1)⟩)
  clear hg
  go_wp2
  go_ret
  rw [FE.out.1, FE.out.2]
  exact ⟨rfl, hq1, hbt⟩
 ·rw [show printT r = lineT r from if_pos hg, show printE r = 0 from if_pos hg]
  have hll := line_len hg
  have hl1 : (lineT r).length ≤ 241 := by unfold lineT; rw [List.length_append]; show _ + 1 ≤ _; omega
  have hsz : (bytesOf (lineT r)).size = (lineT r).length := rfl
  by_cases hf : appFits room s r = true
  ·have FE := Lib.hid (show appE room s r = 0 ∧ appB room s r = s ++ bytesOf (lineT r) from ⟨by unfold appE; rw [if_pos hg, if_pos hf], if_pos ⟨hg, hf⟩⟩)
   unfold appFits at hf
   rw [decide_eq_true_eq] at hf
   obtain ⟨T, hT⟩ : ∃ T, T = bytesOf (lineT r) := ⟨_, rfl⟩
   obtain ⟨L, hL⟩ : ∃ L, L = (lineT r).length := ⟨_, rfl⟩
   rw [← hT, ← hL] at hsz
   rw [← hL] at hf hl1
   rw [← hT] at FE ⊢
   have e1 : IntKind.i64.wrap ((s.size : Int) + (L : Int)) = (s.size : Int) + (L : Int) := wrap_small _ (by omega) (by omega)
   have g1 : ¬ room < (s.size : Int) + (L : Int) := by omega
   clear hT hL hg hll hf
   go_upto_region 4 with fail
   go_region
   all_goals
    have hs1 : s.size + T.size ≤ 9223372036854775807 := by omega
    go_wp2
    go_ret
    rw [FE.out.1, FE.out.2]
    exact ⟨rfl, hq1.put 1 _, (hbt.put 1 _).drewN 1⟩
  ·have FE := Lib.hid (show appE room s r = 6 ∧ appB room s r = s from ⟨by unfold appE; rw [if_pos hg, if_neg hf], if_neg (fun h => hf h.2)⟩)
   unfold appFits at hf
   rw [decide_eq_true_eq] at hf
   obtain ⟨T, hT⟩ : ∃ T, T = bytesOf (lineT r) := ⟨_, rfl⟩
   obtain ⟨L, hL⟩ : ∃ L, L = (lineT r).length := ⟨_, rfl⟩
   rw [← hT, ← hL] at hsz
   rw [← hL] at hf hl1
   rw [← hT]
   have e1 : IntKind.i64.wrap ((s.size : Int) + (L : Int)) = (s.size : Int) + (L : Int) := wrap_small _ (by omega) (by omega)
   have g1 : room < (s.size : Int) + (L : Int) := by omega
   clear hT hL hg hll hf
   go_upto_region 4 with fail
   go_region
   all_goals
    go_wp2
    go_ret
    rw [FE.out.1, FE.out.2]
    exact ⟨rfl, hq1, hbt.drewN 1⟩
end Go.Proofs.YtgodgedhddngeaaGreatDoor
