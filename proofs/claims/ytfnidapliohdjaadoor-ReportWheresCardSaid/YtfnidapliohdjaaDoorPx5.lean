-- written by a program of this session's (wip/tools/extprint.py) over the kit's print
import Derived.Test.YtfnidapliohdjaaDoorPx0
import Derived.Test.YtfnidapliohdjaaDoorPx1
import Derived.Test.YtfnidapliohdjaaDoorFault
import Derived.Test.YtfnidapliohdjaaDoorGlyA
namespace Go.Proofs.YtfnidapliohdjaaDoor.P
open Go.Proofs.YtfnidapliohdjaaDoor
open Go.RowKit Go.Proofs.YtfnidapliohdjaaDoorW.PrintWords Go.Proofs.YtfnidapliohdjaaDoorW.PrintLast Go.Proofs.YtfnidapliohdjaaDoorW.PrintMore
attribute [local go_sem] max2_int min2_int max_two min_two max_three min_three max_four min_four   -- for this text's walks alone
set_option linter.unusedVariables false
set_option linter.unusedSimpArgs false

-- NOT PRINTED: function 33 (utf8_RuneCountInString)

-- NOT PRINTED: function 34 (bytealg_CountString)

-- NOT PRINTED: function 64 (bytealg_IndexByteString)

-- NOT PRINTED: function 51 (stringslite_IndexByte)

-- NOT PRINTED: function 58 (bytealg_IndexString)

-- NOT PRINTED: function 59 (bytealg_Cutover)

-- NOT PRINTED: function 70 (bytealg_hashStr_string)

-- NOT PRINTED: function 60 (bytealg_IndexRabinKarp_string)

-- NOT PRINTED: function 44 (stringslite_Index)

-- NOT PRINTED: function 35 (strings_Index)

/-! ### hammocklaw28_knows: function 5 -/
def hammocklaw28_knows.f  : Option (Bool) := (report_Fault.f (⟨#[121]⟩ : ByteArray) 0 30).bind fun t126 => (if t126.toList = ([108, 105, 110, 101, 32, 49, 44, 32, 99, 111, 108, 117, 109, 110, 32, 49, 58, 32, 110, 111, 98, 111, 100, 121, 32, 109, 97, 100, 101, 32, 116, 104, 105, 115, 32, 110, 97, 109, 101, 10, 121, 10, 94, 10] : List UInt8) then ((report_Word.f 41).bind fun t127 => (some (t127.toList == ([116, 104, 105, 115, 32, 116, 121, 112, 101, 32, 119, 111, 117, 108, 100, 32, 98, 101, 32, 112, 97, 114, 116, 32, 111, 102, 32, 105, 116, 115, 101, 108, 102] : List UInt8)))) else (some false))
set_option maxHeartbeats 8000000 in
set_option maxRecDepth 100000 in
theorem hammocklaw28_knows.calls  (r : Bool) (w : World) (h : hammocklaw28_knows.f  = some r) (hG : Hid (GT w)) :
    Calls Tryd.prog 5 #[] w fun e w' => e = .returned (.bool r) ∧ Below w.heap.size w w' := by
  have hu29 := Tryd.underlying29
  have HB := Aside0.mk (Below.refl w.heap.size w)
  have H : ((report_Fault.f (⟨#[121]⟩ : ByteArray) 0 30).bind fun t126 => (if t126.toList = ([108, 105, 110, 101, 32, 49, 44, 32, 99, 111, 108, 117, 109, 110, 32, 49, 58, 32, 110, 111, 98, 111, 100, 121, 32, 109, 97, 100, 101, 32, 116, 104, 105, 115, 32, 110, 97, 109, 101, 10, 121, 10, 94, 10] : List UInt8) then ((report_Word.f 41).bind fun t127 => (some (t127.toList == ([116, 104, 105, 115, 32, 116, 121, 112, 101, 32, 119, 111, 117, 108, 100, 32, 98, 101, 32, 112, 97, 114, 116, 32, 111, 102, 32, 105, 116, 115, 101, 108, 102] : List UInt8)))) else (some false))) = some r := h
  clear h
  replace H := Option.bind_eq_some_iff.mp H
  obtain ⟨t126, A10, H⟩ := H
  replace H : (if t126.toList = ([108, 105, 110, 101, 32, 49, 44, 32, 99, 111, 108, 117, 109, 110, 32, 49, 58, 32, 110, 111, 98, 111, 100, 121, 32, 109, 97, 100, 101, 32, 116, 104, 105, 115, 32, 110, 97, 109, 101, 10, 121, 10, 94, 10] : List UInt8) then ((report_Word.f 41).bind fun t127 => (some (t127.toList == ([116, 104, 105, 115, 32, 116, 121, 112, 101, 32, 119, 111, 117, 108, 100, 32, 98, 101, 32, 112, 97, 114, 116, 32, 111, 102, 32, 105, 116, 115, 101, 108, 102] : List UInt8)))) else (some false)) = some r := H
  have A1 := Aside0.mk A10
  clear A10
  by_cases c2 : t126.toList = ([108, 105, 110, 101, 32, 49, 44, 32, 99, 111, 108, 117, 109, 110, 32, 49, 58, 32, 110, 111, 98, 111, 100, 121, 32, 109, 97, 100, 101, 32, 116, 104, 105, 115, 32, 110, 97, 109, 101, 10, 121, 10, 94, 10] : List UInt8)
  · rw [if_pos c2] at H
    have c2b0 : (t126.toList == ([108, 105, 110, 101, 32, 49, 44, 32, 99, 111, 108, 117, 109, 110, 32, 49, 58, 32, 110, 111, 98, 111, 100, 121, 32, 109, 97, 100, 101, 32, 116, 104, 105, 115, 32, 110, 97, 109, 101, 10, 121, 10, 94, 10] : List UInt8)) = true := beq_iff_eq.mpr c2
    have c2b1 : (t126.toList != ([108, 105, 110, 101, 32, 49, 44, 32, 99, 111, 108, 117, 109, 110, 32, 49, 58, 32, 110, 111, 98, 111, 100, 121, 32, 109, 97, 100, 101, 32, 116, 104, 105, 115, 32, 110, 97, 109, 101, 10, 121, 10, 94, 10] : List UInt8)) = false := bne_eq_false_iff_eq.mpr c2
    clear c2
    replace H := Option.bind_eq_some_iff.mp H
    obtain ⟨t127, A30, H⟩ := H
    replace H : (some (t127.toList == ([116, 104, 105, 115, 32, 116, 121, 112, 101, 32, 119, 111, 117, 108, 100, 32, 98, 101, 32, 112, 97, 114, 116, 32, 111, 102, 32, 105, 116, 115, 101, 108, 102] : List UInt8))) = some r := H
    have A3 := Aside0.mk A30
    clear A30
    obtain rfl := Option.some.inj H
    go_enter Tryd.func5, Tryd.ntmps5
    go_wp2_with (first | ((with_reducible refine gate_callee (f := 8) rfl ?_); refine goesL_ (some 2) rfl rfl Tryd.func8 (by kernel_rfl) rfl #[.string (⟨#[121]⟩ : ByteArray), .agg #[.int .i64 0, .int .i64 30]] rfl (by (try simp only [List.map_toArray, List.map_cons, List.map_nil]); first | done | rfl | (simp only [List.length_drop, List.length_take]; rfl)) ?_; (with_reducible refine (report_Fault.calls (⟨#[121]⟩ : ByteArray) 0 30 t126 _ A1.out (Lib.hid (GT.below hG.out (by repeat (first | (with_reducible first | exact HB.out | apply below_alloc | apply pw_below_drewN | apply below_drew1) | exact HB.out))))).mono ?_); rintro e w4 ⟨rfl, hb⟩; refine ⟨_, rfl, ?_⟩; have n0_ := Aside0.mk (below_step (by repeat (first | (with_reducible first | exact HB.out | apply below_alloc | apply pw_below_drewN | apply below_drew1) | exact HB.out)) hb); clear HB; have HB := n0_; clear n0_; (try clear hb); (try clear hb2); (try clear hk); (try clear hi)) | (go_at_call 10; (with_reducible refine (report_Word.calls 41 t127 _ A3.out).mono ?_); rintro e w' ⟨rfl, ⟨nd, rfl⟩⟩))
    go_ret
    exact ⟨by first | rfl | (simp [errW_none, errW_some] <;> rfl) | (simp [*, errW_none, errW_some] <;> rfl), by repeat (first | (with_reducible first | exact HB.out | apply below_alloc | apply pw_below_drewN | apply below_drew1) | exact HB.out)⟩
  · rw [if_neg c2] at H
    have c2b0 : (t126.toList == ([108, 105, 110, 101, 32, 49, 44, 32, 99, 111, 108, 117, 109, 110, 32, 49, 58, 32, 110, 111, 98, 111, 100, 121, 32, 109, 97, 100, 101, 32, 116, 104, 105, 115, 32, 110, 97, 109, 101, 10, 121, 10, 94, 10] : List UInt8)) = false := beq_eq_false_iff_ne.mpr c2
    have c2b1 : (t126.toList != ([108, 105, 110, 101, 32, 49, 44, 32, 99, 111, 108, 117, 109, 110, 32, 49, 58, 32, 110, 111, 98, 111, 100, 121, 32, 109, 97, 100, 101, 32, 116, 104, 105, 115, 32, 110, 97, 109, 101, 10, 121, 10, 94, 10] : List UInt8)) = true := bne_iff_ne.mpr c2
    obtain rfl := Option.some.inj H
    go_enter Tryd.func5, Tryd.ntmps5
    go_wp2_with (first | ((with_reducible refine gate_callee (f := 8) rfl ?_); refine goesL_ (some 2) rfl rfl Tryd.func8 (by kernel_rfl) rfl #[.string (⟨#[121]⟩ : ByteArray), .agg #[.int .i64 0, .int .i64 30]] rfl (by (try simp only [List.map_toArray, List.map_cons, List.map_nil]); first | done | rfl | (simp only [List.length_drop, List.length_take]; rfl)) ?_; (with_reducible refine (report_Fault.calls (⟨#[121]⟩ : ByteArray) 0 30 t126 _ A1.out (Lib.hid (GT.below hG.out (by repeat (first | (with_reducible first | exact HB.out | apply below_alloc | apply pw_below_drewN | apply below_drew1) | exact HB.out))))).mono ?_); rintro e w5 ⟨rfl, hb⟩; refine ⟨_, rfl, ?_⟩; have n0_ := Aside0.mk (below_step (by repeat (first | (with_reducible first | exact HB.out | apply below_alloc | apply pw_below_drewN | apply below_drew1) | exact HB.out)) hb); clear HB; have HB := n0_; clear n0_; (try clear hb); (try clear hb2); (try clear hk); (try clear hi)))
    go_ret
    exact ⟨by first | rfl | (simp [errW_none, errW_some] <;> rfl) | (simp [*, errW_none, errW_some] <;> rfl), by repeat (first | (with_reducible first | exact HB.out | apply below_alloc | apply pw_below_drewN | apply below_drew1) | exact HB.out)⟩

end Go.Proofs.YtfnidapliohdjaaDoor.P
