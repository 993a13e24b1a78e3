/- What an instruction reads and leaves. -/
import Derived.Test.YtcmhibcoccdmaaaGreatDoorInC
namespace Go.Proofs.YtcmhibcoccdmaaaGreatDoor.P
open Go.RowKit Go.Proofs.YtcmhibcoccdmaaaGreatDoorW.PrintWords Go.Proofs.YtcmhibcoccdmaaaGreatDoorW.PrintLast Go.Proofs.YtcmhibcoccdmaaaGreatDoor.Rw
set_option linter.unusedVariables false
set_option linter.unusedSimpArgs false
theorem right_op {x : Ins} (h : RightI x = true) : 0 ≤ x.op ∧ x.op < 17 := by
  unfold RightI at h
  split at h
  · assumption
  · cases h
def readsI (x : Ins) : Int := if RightI x = true then wrap64 (wrap64 ((fmAt x.op.toNat).reads + wrap64 ((fmAt x.op.toNat).readsA * x.a)) + x.b) else 0
def leavesI (x : Ins) : Int := if RightI x = true then wrap64 (wrap64 ((fmAt x.op.toNat).leaves + wrap64 ((fmAt x.op.toNat).leavesA * x.a)) - x.b) else 0
set_option maxHeartbeats 4000000 in
set_option maxRecDepth 100000 in
theorem reads_calls (x : Ins) (A : Option Addr) (c : Nat) (w : World) (hc : x.tb.length ≤ c) (hC : kP.C w A x.tb.length x.tb) :
    Calls Tryz.prog 16 #[.agg #[.int .i64 x.op, .int .i64 x.a, .int .i64 x.b, .slice A x.tb.length c]] w fun e w' => e = .returned (.int .i64 (readsI x)) ∧ Below w.heap.size w w' := by
  have HC := Lib.hid hC
  clear hC
  go_enter Tryz.func16, Tryz.ntmps16
  go_wp2_with fail
  have ha := (Below.refl _ w).alloc (Nat.le_refl _) (.cells #[.int .i64 x.op, .int .i64 x.a, .int .i64 x.b, .slice A x.tb.length c] 46)
  refine (rightI_calls x A c _ hc (Kd.C_below HC.out ha)).mono ?_
  rintro e w2 ⟨rfl, hb2⟩
  have HX2 := Lib.hid ((hb2.block w.heap.size (by simp)).trans (heap_new w (.cells #[.int .i64 x.op, .int .i64 x.a, .int .i64 x.b, .slice A x.tb.length c] 46)))
  have HB2 := Lib.hid (ha.trans (hb2.mono ha.size))
  clear hb2 ha
  have x0 := cell_in HX2.out 0
  have x1 := cell_in HX2.out 1
  have x2 := cell_in HX2.out 2
  have x3 := cell_in HX2.out 3
  cases hR : RightI x with
  | false =>
    have hv : readsI x = 0 := by unfold readsI; rw [hR]; rfl
    go_wp2_with fail
    go_ret
    exact ⟨by rw [hv]; rfl, HB2.out⟩
  | true =>
    have hv : readsI x = wrap64 (wrap64 ((fmAt x.op.toNat).reads + wrap64 ((fmAt x.op.toNat).readsA * x.a)) + x.b) := by unfold readsI; rw [if_pos hR]
    have hop := right_op hR
    have HV := Lib.hid hv
    have HOP := Lib.hid hop
    clear hv hop hR
    go_wp2_with fail
    refine (form_calls x.op x.a x.b A x.tb.length c w2 HOP.out.1 HOP.out.2).mono ?_
    rintro e w3 ⟨rfl, hb3⟩
    generalize fmAt x.op.toNat = fm at HV ⊢
    have HX3 := Lib.hid ((hb3.block w.heap.size (Array.getElem?_eq_some_iff.1 HX2.out).1).trans HX2.out)
    have HB3 := Lib.hid (bel2 HB2.out hb3)
    clear hb3 x0 x1 x2 x3
    have x1 := fun o => cell_allocN o (cell_in HX3.out 1)
    have x2 := fun o => cell_allocN o (cell_in HX3.out 2)
    go_wp2_with fail
    go_ret
    exact ⟨by rw [HV.out]; rfl, HB3.out.alloc HB3.out.size _⟩
set_option maxHeartbeats 4000000 in
set_option maxRecDepth 100000 in
theorem leaves_calls (x : Ins) (A : Option Addr) (c : Nat) (w : World) (hc : x.tb.length ≤ c) (hC : kP.C w A x.tb.length x.tb) :
    Calls Tryz.prog 17 #[.agg #[.int .i64 x.op, .int .i64 x.a, .int .i64 x.b, .slice A x.tb.length c]] w fun e w' => e = .returned (.int .i64 (leavesI x)) ∧ Below w.heap.size w w' := by
  have HC := Lib.hid hC
  clear hC
  go_enter Tryz.func17, Tryz.ntmps17
  go_wp2_with fail
  have ha := (Below.refl _ w).alloc (Nat.le_refl _) (.cells #[.int .i64 x.op, .int .i64 x.a, .int .i64 x.b, .slice A x.tb.length c] 46)
  refine (rightI_calls x A c _ hc (Kd.C_below HC.out ha)).mono ?_
  rintro e w2 ⟨rfl, hb2⟩
  have HX2 := Lib.hid ((hb2.block w.heap.size (by simp)).trans (heap_new w (.cells #[.int .i64 x.op, .int .i64 x.a, .int .i64 x.b, .slice A x.tb.length c] 46)))
  have HB2 := Lib.hid (ha.trans (hb2.mono ha.size))
  clear hb2 ha
  have x0 := cell_in HX2.out 0
  have x1 := cell_in HX2.out 1
  have x2 := cell_in HX2.out 2
  have x3 := cell_in HX2.out 3
  cases hR : RightI x with
  | false =>
    have hv : leavesI x = 0 := by unfold leavesI; rw [hR]; rfl
    go_wp2_with fail
    go_ret
    exact ⟨by rw [hv]; rfl, HB2.out⟩
  | true =>
    have hv : leavesI x = wrap64 (wrap64 ((fmAt x.op.toNat).leaves + wrap64 ((fmAt x.op.toNat).leavesA * x.a)) - x.b) := by unfold leavesI; rw [if_pos hR]
    have hop := right_op hR
    have HV := Lib.hid hv
    have HOP := Lib.hid hop
    clear hv hop hR
    go_wp2_with fail
    refine (form_calls x.op x.a x.b A x.tb.length c w2 HOP.out.1 HOP.out.2).mono ?_
    rintro e w3 ⟨rfl, hb3⟩
    generalize fmAt x.op.toNat = fm at HV ⊢
    have HX3 := Lib.hid ((hb3.block w.heap.size (Array.getElem?_eq_some_iff.1 HX2.out).1).trans HX2.out)
    have HB3 := Lib.hid (bel2 HB2.out hb3)
    clear hb3 x0 x1 x2 x3
    have x1 := fun o => cell_allocN o (cell_in HX3.out 1)
    have x2 := fun o => cell_allocN o (cell_in HX3.out 2)
    go_wp2_with fail
    go_ret
    exact ⟨by rw [HV.out]; rfl, HB3.out.alloc HB3.out.size _⟩
end Go.Proofs.YtcmhibcoccdmaaaGreatDoor.P
