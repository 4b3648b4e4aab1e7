/- The reference's bench in memory. -/
import Derived.Test.YtgodgedhddngeaaGreatDoorDskC
import Derived.Test.YtgodgedhddngeaaGreatDoorDskD
namespace Go.Proofs.YtgodgedhddngeaaGreatDoor
open Go.ChangeShapes Go.WideShapes Go.ChangeAt Go.RowKit Go.Sort Pl
def benchT (t : TypeId) : Bool := t == 51 || t == 73
structure BenchIn (B : Nat) (w : World) (q : Nat) (c : Cfg) (v : Value) (ds : Data) (bs : List UInt8) (sy : Nat) : Prop where
 dq : Blk w q 51 #[.int .i64 c.ci, .int .i64 c.ch, .int .i64 c.co, .int .u64 c.seed, .int .i64 c.batch, .int .i64 c.steps, .int .i64 c.rate, .int .i64 c.decay, .int .i64 c.how, .int .i64 c.keep, .int .i64 c.clip, v, .string (bytesOf bs), .int .i64 (sy : Nat)]
 data : DataH w B v ds
 bq : B ≤ q
def BenchPost (B q : Nat) (x : List UInt8 × DSt) (w : World) (e : Ending) (w' : World) : Prop := e = .returned (.string (bytesOf x.1)) ∧ (∃ v, BenchIn B w' q x.2.c v x.2.ds x.2.by_ x.2.sy) ∧ Kp B benchT w w'
section
variable {B q : Nat} {w w' : World} {c : Cfg} {v : Value} {ds : Data} {bs : List UInt8} {sy : Nat}
theorem BenchIn.below (h : BenchIn B w q c v ds bs sy) (hb : Below w.heap.size w w') : BenchIn B w' q c v ds bs sy :=
 ⟨h.dq.below hb h.dq.lt, h.data.below hb, h.bq⟩
theorem BenchIn.cfg (h : BenchIn B w q c v ds bs sy) : w.cell? ⟨q, 0, none⟩ = some (.int .i64 c.ci) ∧ w.cell? ⟨q, 1, none⟩ = some (.int .i64 c.ch) ∧ w.cell? ⟨q, 2, none⟩ = some (.int .i64 c.co) ∧ w.cell? ⟨q, 3, none⟩ = some (.int .u64 c.seed) ∧ w.cell? ⟨q, 4, none⟩ = some (.int .i64 c.batch) ∧ w.cell? ⟨q, 5, none⟩ = some (.int .i64 c.steps) ∧ w.cell? ⟨q, 6, none⟩ = some (.int .i64 c.rate) ∧ w.cell? ⟨q, 7, none⟩ = some (.int .i64 c.decay) ∧ w.cell? ⟨q, 8, none⟩ = some (.int .i64 c.how) ∧ w.cell? ⟨q, 9, none⟩ = some (.int .i64 c.keep) ∧ w.cell? ⟨q, 10, none⟩ = some (.int .i64 c.clip) :=
 ⟨h.dq.cell 0, h.dq.cell 1, h.dq.cell 2, h.dq.cell 3, h.dq.cell 4, h.dq.cell 5, h.dq.cell 6, h.dq.cell 7, h.dq.cell 8, h.dq.cell 9, h.dq.cell 10⟩
theorem BenchIn.dv (h : BenchIn B w q c v ds bs sy) : w.cell? ⟨q, 11, none⟩ = some v := h.dq.cell 11
theorem BenchIn.db (h : BenchIn B w q c v ds bs sy) : w.cell? ⟨q, 12, none⟩ = some (.string (bytesOf bs)) := h.dq.cell 12
theorem BenchIn.dy (h : BenchIn B w q c v ds bs sy) : w.cell? ⟨q, 13, none⟩ = some (.int .i64 (sy : Nat)) := h.dq.cell 13
theorem BenchIn.own (h : BenchIn B w q c v ds bs sy) {c' : Cfg} {bs' : List UInt8} {sy' : Nat} (hb : But q w w') (hs : Blk w' q 51 #[.int .i64 c'.ci, .int .i64 c'.ch, .int .i64 c'.co, .int .u64 c'.seed, .int .i64 c'.batch, .int .i64 c'.steps, .int .i64 c'.rate, .int .i64 c'.decay, .int .i64 c'.how, .int .i64 c'.keep, .int .i64 c'.clip, v, .string (bytesOf bs'), .int .i64 (sy' : Nat)]) : BenchIn B w' q c' v ds bs' sy' := by
 have hk : Kp B (fun t => t == 51) w w' := .of_but hb h.dq (by decide) h.bq
 exact ⟨hs, h.data.kp hk (by decide) (by decide), h.bq⟩
theorem Kp.bench_but (h : BenchIn B w q c v ds bs sy) (hb : But q w w') : Kp B benchT w w' := .of_but hb h.dq (by decide) h.bq
end
end Go.Proofs.YtgodgedhddngeaaGreatDoor
