/- What the rows' lists of package-level variables give (the two variables that the numbers' reader looks at); a world that meets them. -/
import Derived.Test.YtiioanpmfpefcaaDoorRows
import Derived.Test.YtiioanpmfpefcaaDoorScan
import Derived.WalkKit
import Derived.ProofKit
import Derived.OpenShut
import Derived.Deep.DeepHandedRow
import Derived.Lib.LaidTab
import Derived.LaidLaws
namespace Go.Proofs.YtiioanpmfpefcaaDoor.End
open Go.ChangeShapes Go.WideShapes Go.ChangeAt Go.RowKit
def list : List (String × DataW Unit) := [("math/bits.deBruijn32tab", Rows.laid_math_bits_deBruijn32tab), ("math/bits.deBruijn64tab", Rows.laid_math_bits_deBruijn64tab), ("internal/strconv.uint64pow10", Rows.laid_internal_strconv_uint64pow10), ("strconv.ErrRange", Rows.laid_strconv_ErrRange), ("strconv.ErrSyntax", Rows.laid_strconv_ErrSyntax)]
theorem own : ownKnob Tryd.prog.godebug = none := by kernel_rfl
theorem gR : Tryd.prog.globalNamed "strconv.ErrRange" = some 3 := by kernel_rfl
theorem gS : Tryd.prog.globalNamed "strconv.ErrSyntax" = some 2 := by kernel_rfl
theorem gRType : (Tryd.prog.globals[3]?).map (·.type) = some 73 := by kernel_rfl
theorem gSType : (Tryd.prog.globals[2]?).map (·.type) = some 73 := by kernel_rfl
/-- What the row's list gives. -/
theorem gok {W : World} (h0 : laidMetH Tryd.prog list W) : Tok.GOK W := by
  have h : laidMet Tryd.prog list W := h0
  obtain ⟨ps, hv, _, _⟩ := h
  obtain ⟨_, _, _, _, _, _, _, _, _, _, hv, _⟩ := hv
  obtain ⟨_, _, _, _, _, _, _, _, _, _, hv, _⟩ := hv
  obtain ⟨_, _, _, _, _, _, _, _, _, _, hv, _⟩ := hv
  obtain ⟨g, t, cs, fuel, p, q, hg, ht, hc, hd, hv, _⟩ := hv
  obtain rfl := Option.some.inj (gR.symm.trans hg)
  obtain rfl := Option.some.inj (gRType.symm.trans ht)
  obtain ⟨g', t', cs', fuel', p', q', hg', ht', hc', hd', _, _⟩ := hv
  obtain rfl := Option.some.inj (gS.symm.trans hg')
  obtain rfl := Option.some.inj (gSType.symm.trans ht')
  obtain ⟨_, u, v, e, _, _⟩ := iface_of_trod Tryd.underlying73 hd
  obtain ⟨_, u', v', e', _, _⟩ := iface_of_trod Tryd.underlying73 hd'
  refine ⟨⟨.iface u' v', ?_, .inr ⟨_, _, rfl⟩⟩, .iface u v, ?_, .inr ⟨_, _, rfl⟩⟩
  · rw [World.var?_cell gS hc' 0, ← Array.getElem?_toList, e']; rfl
  · rw [World.var?_cell gR hc 0, ← Array.getElem?_toList, e]; rfl
abbrev rangeS : ByteArray := { data := #[118, 97, 108, 117, 101, 32, 111, 117, 116, 32, 111, 102, 32, 114, 97, 110, 103, 101] }
abbrev syntaxS : ByteArray := { data := #[105, 110, 118, 97, 108, 105, 100, 32, 115, 121, 110, 116, 97, 120] }
noncomputable def low : Nat := (World.holding Tryd.prog default ⟨#[], #[], []⟩).heap.size
/-- What a variable's datum lays, cell by cell. -/
def nums (k : IntKind) : DataW Unit → Array Value
  | .agg l => (l.map fun | .lit (.int _ n) => Value.int k n | _ => .nilIface).toArray
  | _ => #[]
/-- A world that meets the list. -/
noncomputable def world (os : Os) : World :=
  let w0 := World.holding Tryd.prog os ⟨#[.cells #[.string rangeS] 129, .cells #[.string syntaxS] 129], #[], []⟩
  { w0 with heap := ((((w0.heap.modify 4 fun
      | .cells _ t frozen => .cells (nums .u8 Rows.laid_math_bits_deBruijn32tab) t frozen
      | o => o).modify 5 fun
      | .cells _ t frozen => .cells (nums .u8 Rows.laid_math_bits_deBruijn64tab) t frozen
      | o => o).modify 1 fun
      | .cells _ t frozen => .cells (nums .u64 Rows.laid_internal_strconv_uint64pow10) t frozen
      | o => o).modify 3 fun
      | .cells _ t frozen => .cells #[.iface 127 (.pointer (some ⟨low, 0, none⟩))] t frozen
      | o => o).modify 2 fun
      | .cells _ t frozen => .cells #[.iface 127 (.pointer (some ⟨low + 1, 0, none⟩))] t frozen
      | o => o }
theorem world_met (os : Os) (args : Array Value) : laidMet Tryd.prog list ((world os).forCall (fun _ _ => 0) ⟨#[], args, []⟩).memory :=
  laidMet_of_run' 8 (by kernel_rfl) (by kernel_rfl)
end Go.Proofs.YtiioanpmfpefcaaDoor.End
