/- The step from a law's walk to its tied card, of the second form: the library's tables, the witness. -/
import Derived.Test.YtaeeonnjkplohaaGreatDoorCards
import Derived.Test.YtaeeonnjkplohaaGreatDoorTie
import Derived.Test.YtaeeonnjkplohaaGreatDoorStoF
import Derived.Test.YtaeeonnjkplohaaGreatDoorArgs
import Derived.Deep.DeepHandedRow
import Derived.Lib.LaidTab
import Derived.LaidSub
import Derived.MakeChecks
namespace Go.Proofs.YtaeeonnjkplohaaGreatDoor
open Go.ChangeShapes Go.WideShapes Go.ChangeAt Go.RowKit Pl

def tabsListed : List (String × DataW Unit) := [("math/bits.deBruijn32tab", Rows.laid_math_bits_deBruijn32tab), ("math/bits.deBruijn64tab", Rows.laid_math_bits_deBruijn64tab), ("internal/strconv.uint64pow10", Rows.laid_internal_strconv_uint64pow10), ("unicode/utf8.acceptRanges", Rows.laid_unicode_utf8_acceptRanges), ("unicode/utf8.first", Rows.laid_unicode_utf8_first)]
theorem cells_pow : Tryz.prog.cellsOf 210 = 20 := by kernel_rfl
theorem type_pow : (Tryz.prog.globals[1]?).map (·.type) = some 210 := by kernel_rfl
theorem pow_datum : (Rows.laid_internal_strconv_uint64pow10 : DataW Unit) = Lib.tabData .u64 Lib.pow10Tab := by kernel_rfl
set_option maxRecDepth 100000 in
theorem tabs_met {W : World} (h : laidMetH Tryz.prog tabsListed W) (hs : W.ShapedOpen Tryz.prog) : Tabs W := by
  have h2 := h.filter (fun x => x.1 == "internal/strconv.uint64pow10")
  have e : (tabsListed.filter fun x => x.1 == "internal/strconv.uint64pow10") = [("internal/strconv.uint64pow10", Lib.tabData .u64 Lib.pow10Tab)] := by
    rw [← pow_datum]
    kernel_rfl
  rw [e, MakeChecks.laidMetH_plain _ _ _ (by kernel_rfl)] at h2
  exact ⟨Lib.tabIs_of_head (rest := []) gPow type_pow Tryz.underlying210 Tryz.underlying22 (by kernel_rfl) cells_pow h2, Tryz.laysM145.s1_3 W hs⟩

/-! ### A world in which the tables lie -/
def litsOf : List (DataW Unit) → List Value
  | [] => []
  | .lit l :: r => l.value :: litsOf r
  | _ :: r => litsOf r
def partsOf : DataW Unit → List (DataW Unit)
  | .agg l => l
  | _ => []
def layAt (h : Array Obj) (g : Nat) (cs : List Value) : Array Obj := h.modify g fun
  | .cells _ t frozen => .cells cs.toArray t frozen
  | o => o
noncomputable def laidWorld (os : Os) (args : Array Value) : World :=
  { World.holding Tryz.prog os ⟨#[], args, []⟩ with heap := layAt (layAt (layAt (layAt (layAt (World.holding Tryz.prog os ⟨#[], args, []⟩).heap 4 (litsOf (partsOf Rows.laid_math_bits_deBruijn32tab))) 5 (litsOf (partsOf Rows.laid_math_bits_deBruijn64tab))) 1 (litsOf (partsOf Rows.laid_internal_strconv_uint64pow10))) 3 ((partsOf Rows.laid_unicode_utf8_acceptRanges).flatMap fun p => litsOf (partsOf p))) 2 (litsOf (partsOf Rows.laid_unicode_utf8_first)) }

set_option maxRecDepth 100000 in
theorem lift_card {os : Os} (started : os.Started) {H : Type} {enc : TypeId × Value → H} {f : FuncId} {fn : Func} {s : OpenSpec} {k : (H : Type) → List (DataW H) → Bool} (hk : s.cond = some k) {F : Stop.Interp} {conds : List PathCond}
    (noInit : Tryz.checked.prog.inits.idxOf? f = none) (hfn : Tryz.checked.prog.funcs[f]? = some fn)
    (witness : ∃ (w : World) (tape : Tape) (i : Input), w.os = os ∧ (w.forCall tape i).Shaped Tryz.checked.prog ∧ i.vars = [] ∧ Input.okWide Tryz.checked.prog (w.forCall tape i) .any w.heap.size f i ∧
      s.preRow enc Tryz.checked.prog fn conds false tabsListed (w.forCall tape i).memory i.args ∧ Assume.holds {} Tryz.checked.prog (lone (Frame.enter Tryz.checked.prog f i.args .normal) [] (w.forCall tape i)))
    (hts : (fn.params.toList.all fun t => Tryz.checked.prog.readableRec t && decide (t < Tryz.checked.prog.types.size)) = true) {tb : TypeId} (htb : fn.resultTypes = #[tb]) (hbool : Tryz.checked.prog.underlying tb = some .bool)
    (hv : s.vars = []) (hsp : ∀ ds : List (DataW H), ds.length = fn.params.toList.length → s.fn F H ds = { results := [.lit (.bool true)], args := ds })
    (core : ∀ (W : World) (args : Array Value) (ds : List (DataW H)) (ps : List MemPlace), DataW.TrodAll enc Tryz.prog W 0 (fun _ => true) true fn.params.toList args.toList ds ps → (∀ x ∈ ps, x.block < W.heap.size) →
      (∀ (j : Nat) t v, fn.params[j]? = some t → args[j]? = some v → ∃ base, Value.okWide Tryz.prog W .any base t v) →
      (DataW.weightsEach Tryz.prog fn.params.toList ds).all (· ≤ reachBytes) = true → k H ds = true → Tabs W →
      Calls Tryz.prog f args W fun e W' => e = .returned (.bool true) ∧ Below W.heap.size W W') :
    ReturnsInHanded {} Tryz.checked os f .any (s.preRow enc Tryz.checked.prog fn conds false tabsListed) ((s.at F).post enc Tryz.checked.prog fn false true false false) := by
  refine returnsInHanded_of_row own started noInit hfn witness ?_
  intro W base args ds gs before hval hW _ hkk hsz hL hS _
  have hW' := hW
  obtain ⟨p, q, hA, hV, rfl, hfz, hnd⟩ := hW
  have hV' := hV
  rw [hv] at hV
  obtain ⟨rfl, rfl⟩ := trodVars_none hV
  have hlen : ds.length = fn.params.toList.length := (trodAll_length hA).2
  have e0 : s.bare.plain.varTypes Tryz.checked.prog = [] := by
    show s.vars.filterMap _ = []
    rw [hv]; rfl
  rw [e0, List.append_nil, List.append_nil] at hsz
  have hkk := hkk k hk
  rw [List.append_nil] at hkk
  refine (core W args ds p hA (fun x hx => hW'.lt x (by simpa using hx)) (fun j t v h1 h2 => ⟨base, hval j t v h1 h2⟩) hsz hkk (tabs_met hL hS)).mono fun e W' ⟨he, hb⟩ => ⟨_, he, ?_⟩
  exact post_true (s := s.at F) laidOut hts htb hbool hv (by rw [List.append_nil]; exact hsp ds hlen) hW' hb

end Go.Proofs.YtaeeonnjkplohaaGreatDoor
