/- What the rows' lists of package-level variables give (the two variables that the numbers' reader looks at); a world that meets them. -/
import Derived.Test.YtfnidapliohdjaaDoorRows
import Derived.Test.YtfnidapliohdjaaDoorFault
import Derived.WalkKit
import Derived.ProofKit
import Derived.OpenShut
import Derived.Deep.DeepHandedRow
import Derived.Lib.LaidTab
import Derived.LaidLaws
namespace Go.Proofs.YtfnidapliohdjaaDoor.End
open Go.ChangeShapes Go.WideShapes Go.ChangeAt Go.RowKit
def list : List (String × DataW Unit) := [("math/bits.deBruijn32tab", Rows.laid_math_bits_deBruijn32tab), ("math/bits.deBruijn64tab", Rows.laid_math_bits_deBruijn64tab), ("internal/strconv.uint64pow10", Rows.laid_internal_strconv_uint64pow10), ("strconv.ErrRange", Rows.laid_strconv_ErrRange), ("strconv.ErrSyntax", Rows.laid_strconv_ErrSyntax)]
theorem own : ownKnob Tryd.prog.godebug = none := by kernel_rfl
theorem gR : Tryd.prog.globalNamed "strconv.ErrRange" = some 2 := by kernel_rfl
theorem gS : Tryd.prog.globalNamed "strconv.ErrSyntax" = some 1 := by kernel_rfl
theorem gRType : (Tryd.prog.globals[2]?).map (·.type) = some 57 := by kernel_rfl
theorem gSType : (Tryd.prog.globals[1]?).map (·.type) = some 57 := by kernel_rfl
/-- What the row's list gives. -/
theorem gok {W : World} (h0 : laidMetH Tryd.prog list W) : P.GOK W := by
  have h : laidMet Tryd.prog list W := h0
  obtain ⟨ps, hv, _, _⟩ := h
  obtain ⟨_, _, _, _, _, _, _, _, _, _, hv, _⟩ := hv
  obtain ⟨_, _, _, _, _, _, _, _, _, _, hv, _⟩ := hv
  obtain ⟨_, _, _, _, _, _, _, _, _, _, hv, _⟩ := hv
  obtain ⟨g, t, cs, fuel, p, q, hg, ht, hc, hd, hv, _⟩ := hv
  obtain rfl := Option.some.inj (gR.symm.trans hg)
  obtain rfl := Option.some.inj (gRType.symm.trans ht)
  obtain ⟨g', t', cs', fuel', p', q', hg', ht', hc', hd', _, _⟩ := hv
  obtain rfl := Option.some.inj (gS.symm.trans hg')
  obtain rfl := Option.some.inj (gSType.symm.trans ht')
  obtain ⟨_, u, v, e, _, _⟩ := iface_of_trod Tryd.underlying57 hd
  obtain ⟨_, u', v', e', _, _⟩ := iface_of_trod Tryd.underlying57 hd'
  refine ⟨⟨.iface u' v', ?_, .inr ⟨_, _, rfl⟩⟩, .iface u v, ?_, .inr ⟨_, _, rfl⟩⟩
  · rw [World.var?_cell gS hc' 0, ← Array.getElem?_toList, e']; rfl
  · rw [World.var?_cell gR hc 0, ← Array.getElem?_toList, e]; rfl
abbrev rangeS : ByteArray := { data := #[118, 97, 108, 117, 101, 32, 111, 117, 116, 32, 111, 102, 32, 114, 97, 110, 103, 101] }
abbrev syntaxS : ByteArray := { data := #[105, 110, 118, 97, 108, 105, 100, 32, 115, 121, 110, 116, 97, 120] }
noncomputable def low : Nat := (World.holding Tryd.prog default ⟨#[], #[], []⟩).heap.size
/-- What a variable's datum lays, cell by cell. -/
def nums (k : IntKind) : DataW Unit → Array Value
  | .agg l => (l.map fun | .lit (.int _ n) => Value.int k n | _ => .nilIface).toArray
  | _ => #[]
/-- A world that meets the list. -/
noncomputable def world (os : Os) : World :=
  let w0 := World.holding Tryd.prog os ⟨#[.cells #[.string rangeS] 107, .cells #[.string syntaxS] 107], #[], []⟩
  { w0 with heap := ((((w0.heap.modify 4 fun
      | .cells _ t frozen => .cells (nums .u8 Rows.laid_math_bits_deBruijn32tab) t frozen
      | o => o).modify 5 fun
      | .cells _ t frozen => .cells (nums .u8 Rows.laid_math_bits_deBruijn64tab) t frozen
      | o => o).modify 3 fun
      | .cells _ t frozen => .cells (nums .u64 Rows.laid_internal_strconv_uint64pow10) t frozen
      | o => o).modify 2 fun
      | .cells _ t frozen => .cells #[.iface 105 (.pointer (some ⟨low, 0, none⟩))] t frozen
      | o => o).modify 1 fun
      | .cells _ t frozen => .cells #[.iface 105 (.pointer (some ⟨low + 1, 0, none⟩))] t frozen
      | o => o }
theorem world_met (os : Os) (args : Array Value) : laidMet Tryd.prog list ((world os).forCall (fun _ _ => 0) ⟨#[], args, []⟩).memory :=
  laidMet_of_run' 8 (by kernel_rfl) (by kernel_rfl)
theorem gT : Tryd.prog.globalNamed "internal/strconv.uint64pow10" = some 3 := by kernel_rfl
theorem gTType : (Tryd.prog.globals[3]?).map (·.type) = some 98 := by kernel_rfl
theorem cT : Tryd.prog.cellsOf 98 = 20 := by kernel_rfl
theorem cE : Tryd.prog.cellsOf 84 = 1 := by kernel_rfl
theorem tabData : (Rows.laid_internal_strconv_uint64pow10 : DataW Unit) = Lib.tabData .u64 Lib.pow10Tab := by kernel_rfl
theorem tab {W : World} (h0 : laidMetH Tryd.prog list W) : P.TabOK W := by
  have h : laidMet Tryd.prog list W := h0
  obtain ⟨ps, hv, _, _⟩ := h
  obtain ⟨_, _, _, _, _, _, _, _, _, _, hv, _⟩ := hv
  obtain ⟨_, _, _, _, _, _, _, _, _, _, hv, _⟩ := hv
  obtain ⟨g, t, cs, fuel, p, q, hg, ht, hc, hd, hv, _⟩ := hv
  obtain rfl := Option.some.inj (gT.symm.trans hg)
  obtain rfl := Option.some.inj (gTType.symm.trans ht)
  rw [tabData] at hd
  have e : cs.toList = Lib.pow10Tab.map fun z => Value.int .u64 z := Lib.cells_of_tab (zs := Lib.pow10Tab) Tryd.underlying98 Tryd.underlying84 cE cT hd
  unfold P.TabOK Lib.TabIs
  rw [hc, ← e]
theorem gt {W : World} (h : laidMetH Tryd.prog list W) : P.GT W := ⟨gok h, tab h⟩
end Go.Proofs.YtfnidapliohdjaaDoor.End
