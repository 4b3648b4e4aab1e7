/- The document's own head of a journal: a walk. -/
import Derived.Test.YtcfmjpcbiomdbaaGreatRFin
namespace Go.Proofs.YtcfmjpcbiomdbaaGreat
open Go.RowKit Pl

theorem u64_of_wf {c : Cfg} (h : c.Ok) : IntKind.u64.wrap c.ci = c.ci ∧ IntKind.u64.wrap c.ch = c.ch ∧ IntKind.u64.wrap c.co = c.co ∧ IntKind.u64.wrap c.batch = c.batch ∧ IntKind.u64.wrap c.steps = c.steps ∧ IntKind.u64.wrap c.rate = c.rate ∧ IntKind.u64.wrap c.decay = c.decay ∧ IntKind.u64.wrap c.how = c.how ∧ IntKind.u64.wrap c.keep = c.keep ∧ IntKind.u64.wrap c.clip = c.clip := by
  obtain ⟨a1, a2, a3, a4, a5, a6, a7, a8, a9, a10, _⟩ := h
  exact ⟨wrap_u64_in (by omega) (by omega), wrap_u64_in (by omega) (by omega), wrap_u64_in (by omega) (by omega), wrap_u64_in (by omega) (by omega), wrap_u64_in (by omega) (by omega), wrap_u64_in (by omega) (by omega), wrap_u64_in (by omega) (by omega), wrap_u64_in (by omega) (by omega), wrap_u64_in (by omega) (by omega), wrap_u64_in (by omega) (by omega)⟩

end Go.Proofs.YtcfmjpcbiomdbaaGreat
