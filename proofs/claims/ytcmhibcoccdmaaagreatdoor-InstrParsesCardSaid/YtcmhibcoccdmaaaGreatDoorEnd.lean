/- What the rows' list of package-level variables gives; a world that meets it. -/
import Derived.Test.YtcmhibcoccdmaaaGreatDoorRows
import Derived.Test.YtcmhibcoccdmaaaGreatDoorInE
import Derived.WalkKit
import Derived.ProofKit
import Derived.OpenShut
import Derived.Deep.DeepHandedRow
import Derived.Lib.LaidTab
import Derived.LaidLaws
namespace Go.Proofs.YtcmhibcoccdmaaaGreatDoor.End
open Go.ChangeShapes Go.WideShapes Go.ChangeAt Go.RowKit
def list : List (String × DataW Unit) := [("math/bits.deBruijn32tab", Rows.laid_math_bits_deBruijn32tab), ("math/bits.deBruijn64tab", Rows.laid_math_bits_deBruijn64tab), ("internal/strconv.uint64pow10", Rows.laid_internal_strconv_uint64pow10), ("unicode/utf8.acceptRanges", Rows.laid_unicode_utf8_acceptRanges), ("strconv.ErrRange", Rows.laid_strconv_ErrRange), ("strconv.ErrSyntax", Rows.laid_strconv_ErrSyntax), ("unicode/utf8.first", Rows.laid_unicode_utf8_first)]
theorem own : ownKnob Tryz.prog.godebug = none := by kernel_rfl
theorem gR : Tryz.prog.globalNamed "strconv.ErrRange" = some 3 := by kernel_rfl
theorem gS : Tryz.prog.globalNamed "strconv.ErrSyntax" = some 2 := by kernel_rfl
theorem gRType : (Tryz.prog.globals[3]?).map (·.type) = some 78 := by kernel_rfl
theorem gSType : (Tryz.prog.globals[2]?).map (·.type) = some 78 := by kernel_rfl
theorem err {W : World} (h0 : laidMetH Tryz.prog list W) : (∃ ev, W.cell? ⟨2, 0, none⟩ = some ev ∧ P.isErrV ev) ∧ ∃ ev, W.cell? ⟨3, 0, none⟩ = some ev ∧ P.isErrV ev := by
  have h : laidMet Tryz.prog list W := h0
  obtain ⟨ps, hv, _, _⟩ := h
  obtain ⟨_, _, _, _, _, _, _, _, _, _, hv, _⟩ := hv
  obtain ⟨_, _, _, _, _, _, _, _, _, _, hv, _⟩ := hv
  obtain ⟨_, _, _, _, _, _, _, _, _, _, hv, _⟩ := hv
  obtain ⟨_, _, _, _, _, _, _, _, _, _, hv, _⟩ := hv
  obtain ⟨g, t, cs, fuel, p, q, hg, ht, hc, hd, hv, _⟩ := hv
  obtain rfl := Option.some.inj (gR.symm.trans hg)
  obtain rfl := Option.some.inj (gRType.symm.trans ht)
  obtain ⟨g', t', cs', fuel', p', q', hg', ht', hc', hd', _, _⟩ := hv
  obtain rfl := Option.some.inj (gS.symm.trans hg')
  obtain rfl := Option.some.inj (gSType.symm.trans ht')
  obtain ⟨_, u, v, e, _, _⟩ := iface_of_trod Tryz.underlying78 hd
  obtain ⟨_, u', v', e', _, _⟩ := iface_of_trod Tryz.underlying78 hd'
  refine ⟨⟨.iface u' v', ?_, .inr ⟨_, _, rfl⟩⟩, .iface u v, ?_, .inr ⟨_, _, rfl⟩⟩
  · rw [World.var?_cell gS hc' 0, ← Array.getElem?_toList, e']; rfl
  · rw [World.var?_cell gR hc 0, ← Array.getElem?_toList, e]; rfl
abbrev rangeS : ByteArray := { data := #[118, 97, 108, 117, 101, 32, 111, 117, 116, 32, 111, 102, 32, 114, 97, 110, 103, 101] }
abbrev syntaxS : ByteArray := { data := #[105, 110, 118, 97, 108, 105, 100, 32, 115, 121, 110, 116, 97, 120] }
noncomputable def low : Nat := (World.holding Tryz.prog default ⟨#[], #[], []⟩).heap.size
/-- What a variable's datum lays, cell by cell. -/
def nums (k : IntKind) : DataW Unit → Array Value
  | .agg l => (l.flatMap fun | .lit (.int _ n) => [Value.int k n] | .agg [.lit (.int _ a), .lit (.int _ b)] => [Value.int k a, Value.int k b] | _ => [.nilIface]).toArray
  | _ => #[]
/-- A world that meets the list. -/
noncomputable def world (os : Os) : World :=
  let w0 := World.holding Tryz.prog os ⟨#[.cells #[.string rangeS] 168, .cells #[.string syntaxS] 168], #[], []⟩
  { w0 with heap := ((((((w0.heap.modify 6 fun
      | .cells _ t frozen => .cells (nums .u8 Rows.laid_math_bits_deBruijn32tab) t frozen
      | o => o).modify 7 fun
      | .cells _ t frozen => .cells (nums .u8 Rows.laid_math_bits_deBruijn64tab) t frozen
      | o => o).modify 1 fun
      | .cells _ t frozen => .cells (nums .u64 Rows.laid_internal_strconv_uint64pow10) t frozen
      | o => o).modify 5 fun
      | .cells _ t frozen => .cells (nums .u8 Rows.laid_unicode_utf8_acceptRanges) t frozen
      | o => o).modify 4 fun
      | .cells _ t frozen => .cells (nums .u8 Rows.laid_unicode_utf8_first) t frozen
      | o => o).modify 3 fun
      | .cells _ t frozen => .cells #[.iface 166 (.pointer (some ⟨low, 0, none⟩))] t frozen
      | o => o).modify 2 fun
      | .cells _ t frozen => .cells #[.iface 166 (.pointer (some ⟨low + 1, 0, none⟩))] t frozen
      | o => o }
set_option maxRecDepth 100000 in
theorem world_met (os : Os) (args : Array Value) : laidMet Tryz.prog list ((world os).forCall (fun _ _ => 0) ⟨#[], args, []⟩).memory :=
  laidMet_of_run' 8 (by kernel_rfl) (by kernel_rfl)
theorem gT : Tryz.prog.globalNamed "internal/strconv.uint64pow10" = some 1 := by kernel_rfl
theorem gTType : (Tryz.prog.globals[1]?).map (·.type) = some 148 := by kernel_rfl
theorem cT : Tryz.prog.cellsOf 148 = 20 := by kernel_rfl
theorem cE : Tryz.prog.cellsOf 133 = 1 := by kernel_rfl
theorem tabData : (Rows.laid_internal_strconv_uint64pow10 : DataW Unit) = Lib.tabData .u64 Lib.pow10Tab := by kernel_rfl
theorem tab {W : World} (h0 : laidMetH Tryz.prog list W) : Lib.TabIs Tryz.prog W "internal/strconv.uint64pow10" .u64 Lib.pow10Tab := by
  have h : laidMet Tryz.prog list W := h0
  obtain ⟨ps, hv, _, _⟩ := h
  obtain ⟨_, _, _, _, _, _, _, _, _, _, hv, _⟩ := hv
  obtain ⟨_, _, _, _, _, _, _, _, _, _, hv, _⟩ := hv
  obtain ⟨g, t, cs, fuel, p, q, hg, ht, hc, hd, hv, _⟩ := hv
  obtain rfl := Option.some.inj (gT.symm.trans hg)
  obtain rfl := Option.some.inj (gTType.symm.trans ht)
  rw [tabData] at hd
  have e : cs.toList = Lib.pow10Tab.map fun z => Value.int .u64 z := Lib.cells_of_tab (zs := Lib.pow10Tab) Tryz.underlying148 Tryz.underlying133 cE cT hd
  unfold Lib.TabIs
  rw [hc, ← e]
theorem gt {W : World} (h : laidMetH Tryz.prog list W) (hs : W.ShapedOpen Tryz.prog) : P.GT W := ⟨tab h, (err h).1, (err h).2, Tryz.laysM143.s1_3 W hs⟩
end Go.Proofs.YtcmhibcoccdmaaaGreatDoor.End
