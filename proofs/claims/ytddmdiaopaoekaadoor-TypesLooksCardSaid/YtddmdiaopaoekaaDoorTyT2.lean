import Derived.Test.YtddmdiaopaoekaaDoorTyU
namespace Go.Proofs.YtddmdiaopaoekaaDoor.P
open Go.RowKit Go.Proofs.YtddmdiaopaoekaaDoorW.PrintWords
set_option linter.unusedVariables false
def types_letter.f (a0 : Int) : Option ByteArray := if 0 ≤ a0 ∧ a0 ≤ 9223372036854775807 then some ⟨(letterL a0).toArray⟩ else none
theorem types_letter.calls (a0 : Int) (r : ByteArray) (w : World) (h : types_letter.f a0 = some r) (hG : Hid (TabOK w)) : Calls Tryd.prog 79 #[.int .i64 a0] w fun e w' => e = .returned (.string r) ∧ Below w.heap.size w w' := by
  unfold types_letter.f at h
  split at h
  · rename_i hb
    obtain rfl := Option.some.inj h
    exact letter_calls a0 w hb.1 hb.2 hG.out
  · cases h
def types_Right.f (a0 a1 : Int) (a2 : ByteArray) (l : List S31) : Option Bool := some (rightB 400 ⟨a0, a1, a2, l⟩)
theorem types_Right.calls (a0 a1 : Int) (a2 : ByteArray) (A : Option Addr) (c : Nat) (l : List S31) (r : Bool) (w : World) (hC : Kd.C k31 w A l.length l) (hc : l.length ≤ c) (h : types_Right.f a0 a1 a2 l = some r) :
    Calls Tryd.prog 21 #[.agg #[.int .i64 a0, .int .i64 a1, .string a2, .slice A l.length c]] w fun e w' => e = .returned (.bool r) ∧ Below w.heap.size w w' := by
  obtain rfl := Option.some.inj h
  exact Right_calls ⟨a0, a1, a2, l⟩ A c w hc hC
end Go.Proofs.YtddmdiaopaoekaaDoor.P
