/- InstrParses: the walk. -/
import Derived.Test.YtcmhibcoccdmaaaGreatDoorRfH
import Derived.Test.YtcmhibcoccdmaaaGreatDoorRfI
import Derived.Test.YtcmhibcoccdmaaaGreatDoorInS
namespace Go.Proofs.YtcmhibcoccdmaaaGreatDoor.P
open Go.RowKit Go.Shelf Go.Proofs.YtcmhibcoccdmaaaGreatDoorW.PrintWords Go.Proofs.YtcmhibcoccdmaaaGreatDoorW.PrintLast Go.Proofs.YtcmhibcoccdmaaaGreatDoor.Rw
set_option linter.unusedVariables false
set_option linter.unusedSimpArgs false
theorem sameJ (gs : List S52) (xs : List Ins) : sameC gs gs xs xs = true := by
  have hI : ∀ x : Ins, eqI x x = true := fun x => by
    unfold eqI
    rw [eqAt_yes (e := eqPr) (z := zP) (xs := x.tb) rfl (fun k _ => by unfold eqPr; simp)]
    simp
  unfold sameC
  rw [eqAt_yes (e := eqG) (z := z52) (xs := gs) rfl (fun k _ => by unfold eqG; simp), eqAt_yes (e := eqI) (z := zI) (xs := xs) rfl (fun k _ => hI _)]
  rfl
theorem rightJ_len {x : Ins} (h : RightI x = true) : x.tb.length ≤ 65536 := by
  by_cases hn : (fmAt x.op.toNat).nums ≥ 0
  · rw [(right_parts h).2.2.2 hn]
    simp
  · have h0 := (right_parts h).1
    unfold RightI at h
    rw [if_pos h0] at h
    simp only [if_pos (show (fmAt x.op.toNat).nums < 0 by omega), Bool.and_eq_true] at h
    have h1 := h.2
    unfold pairsB at h1
    rw [Bool.and_eq_true, decide_eq_true_eq] at h1
    have h2 := h1.1.2
    unfold mostP at h2
    split at h2 <;> omega
/-- What a text is parsed as, in one form. -/
def CodeV (l : List UInt8) (gs : List S52) (xs : List Ins) (m : Nat) : Prop := (parseC l = (none, m) ∧ gs = [] ∧ xs = []) ∨ parseC l = (some (gs, xs), m)
theorem CodeV.one {l : List UInt8} {gs hs : List S52} {xs ys : List Ins} {m n : Nat} (h : CodeV l gs xs m) (k : CodeV l hs ys n) : hs = gs ∧ ys = xs ∧ n = m := by
  rcases h with ⟨h, rfl, rfl⟩ | h
  · rcases k with ⟨k, rfl, rfl⟩ | k
    · rw [h] at k
      exact ⟨rfl, rfl, by simpa using k.symm⟩
    · rw [h] at k
      simp at k
  · rcases k with ⟨k, rfl, rfl⟩ | k
    · rw [h] at k
      simp at k
    · rw [h] at k
      simp only [Prod.mk.injEq, Option.some.injEq] at k
      exact ⟨k.1.1.symm, k.1.2.symm, k.2.symm⟩
theorem CodeV.few {l : List UInt8} {gs : List S52} {xs : List Ins} {m : Nat} (h : CodeV l gs xs m) : gs.length ≤ 65536 ∧ xs.length ≤ 65536 ∧ ∀ x ∈ xs, x.tb.length ≤ 1000000 := by
  rcases h with ⟨_, rfl, rfl⟩ | h
  · simp
  · unfold parseC at h
    obtain ⟨_, _, r3, r4, r5, _⟩ := go_some _ 0 [] [] gs xs m (fun g hg => by cases hg) (fun x hx => by cases hx) (by simp) (by simp) h
    exact ⟨r4, r5, fun x hx => Nat.le_trans (rightJ_len (r3 x hx).1) (by omega)⟩
theorem CodeR.uni {l : List UInt8} {w : World} {e : Ending} {w' : World} (h : CodeR l w e w') : ∃ (gs : List S52) (xs : List Ins) (Ag : Option Addr) (cg : Nat) (Ai : Option Addr) (ci m : Nat), e = .returned (.tuple #[.agg #[.slice Ag gs.length cg, .slice Ai xs.length ci], .int .i64 m]) ∧ CodeV l gs xs m ∧ k52.C w' Ag gs.length gs ∧ kI.C w' Ai xs.length xs ∧ Below w.heap.size w w' := by
  rcases h with ⟨m, hp, rfl, hb⟩ | ⟨gs, xs, Ag, cg, Ai, ci, hp, rfl, _, _, hG, hI, hb⟩
  · exact ⟨[], [], none, 0, none, 0, m, rfl, .inl ⟨hp, rfl, rfl⟩, Kd.C_nil _ _, Kd.C_nil _ _, hb⟩
  · exact ⟨gs, xs, Ag, cg, Ai, ci, 0, rfl, .inr hp, hG, hI, hb⟩
set_option maxHeartbeats 4000000 in
set_option maxRecDepth 100000 in
theorem parses_calls (s : ByteArray) (w : World) (hs : s.size ≤ 9223372036854775807) (hT : GT w) :
    Calls Tryz.prog 3 #[.string s] w fun e w' => e = .returned (.bool true) ∧ Below w.heap.size w w' := by
  have HT := Lib.hid hT
  have HKN := Lib.hid (fun W (hb : Below w.heap.size w W) => knows_calls W (hT.below hb))
  clear hT
  go_enter Tryz.func3, Tryz.ntmps3
  by_cases h3 : (3000 : Int) < (s.size : Int)
  · go_wp2_with fail
    refine (HKN.out w (Below.refl _ _)).mono ?_
    rintro e w3 ⟨rfl, hb3⟩
    have HB3 := Lib.hid hb3
    clear hb3
    go_wp2_with fail
    go_ret
    exact ⟨rfl, HB3.out⟩
  · have hs3 : s.size ≤ 3000 := by omega
    go_wp2_with fail
    refine (code_calls s (by omega) w HT.out).mono ?_
    intro e w3 hcr
    obtain ⟨gs, xs, Ag, cg, Ai, ci, m, rfl, hv, hG, hI, hb3⟩ := hcr.uni
    clear hcr
    have HV := Lib.hid hv
    have HB3 := Lib.hid (hb3.alloc hb3.size (.cells #[.slice Ag gs.length cg, .slice Ai xs.length ci] 26))
    have HG3 := Lib.hid (Kd.C_alloc hG (.cells #[.slice Ag gs.length cg, .slice Ai xs.length ci] 26))
    have HI3 := Lib.hid (Kd.C_alloc hI (.cells #[.slice Ag gs.length cg, .slice Ai xs.length ci] 26))
    have HQ3 := Lib.hid (heap_new w3 (.cells #[.slice Ag gs.length cg, .slice Ai xs.length ci] 26))
    clear hv hG hI hb3
    go_upto_region 4 with (fail)
    generalize w3.alloc (.cells #[.slice Ag gs.length cg, .slice Ai xs.length ci] 26) = w4 at HB3 HG3 HI3 HQ3 ⊢
    generalize w3.heap.size = q at HQ3 ⊢
    go_wp2_with fail
    refine (rcode_calls s (by omega) w4).mono ?_
    intro e w5 hcr
    obtain ⟨hs', ys, Bg, dg, Bi, di, m', rfl, hv, hG, hI, hb5⟩ := hcr.uni
    obtain ⟨rfl, rfl, rfl⟩ := HV.out.one hv
    clear hcr hv
    have HB5 := Lib.hid (bel2 HB3.out (hb5.alloc hb5.size (.cells #[.slice Bg hs'.length dg, .slice Bi ys.length di] 32)))
    have hbb := hb5.alloc hb5.size (.cells #[.slice Bg hs'.length dg, .slice Bi ys.length di] 32)
    have HQ5 := Lib.hid ((hbb.block q (lt_heap HQ3.out)).trans HQ3.out)
    have HG5 := Lib.hid (Kd.C_below HG3.out hbb)
    have HI5 := Lib.hid (Kd.C_below HI3.out hbb)
    have HRG := Lib.hid (Kd.C_alloc hG (.cells #[.slice Bg hs'.length dg, .slice Bi ys.length di] 32))
    have HRI := Lib.hid (Kd.C_alloc hI (.cells #[.slice Bg hs'.length dg, .slice Bi ys.length di] 32))
    have HQR := Lib.hid (heap_new w5 (.cells #[.slice Bg hs'.length dg, .slice Bi ys.length di] 32))
    clear hG hI hb5 hbb HB3 HG3 HI3 HQ3
    go_upto_region 5 with (fail)
    generalize w5.alloc (.cells #[.slice Bg hs'.length dg, .slice Bi ys.length di] 32) = w6 at HB5 HQ5 HG5 HI5 HRG HRI HQR ⊢
    generalize w5.heap.size = r at HQR ⊢
    have a0 := cell_in HQ5.out 0
    have a1 := cell_in HQ5.out 1
    have b0 := cell_in HQR.out 0
    have b1 := cell_in HQR.out 1
    have HFW := Lib.hid HV.out.few
    have HREF := Lib.hid (fun W (hb : Below w6.heap.size w6 W) => ref_calls hs' ys Ag Ai cg ci W (Kd.C_below HG5.out hb) (Kd.C_below HI5.out hb) HFW.out.1 HFW.out.2.1 HFW.out.2.2)
    have HSM := Lib.hid (sameJ hs' ys)
    have HAF := Lib.hid (fun w7 (hb : Below w6.heap.size w6 w7) => (show w7.heap[r]? = some (.cells #[.slice Bg hs'.length dg, .slice Bi ys.length di] 32 (0, 0)) ∧ k52.C w7 Bg hs'.length hs' ∧ kI.C w7 Bi ys.length ys from ⟨(hb.block _ (lt_heap HQR.out)).trans HQR.out, Kd.C_below HRG.out hb, Kd.C_below HRI.out hb⟩))
    have HKN6 := Lib.hid (fun W (hb : Below w6.heap.size w6 W) => HKN.out W (bel2 HB5.out hb))
    have HD := Lib.hid (show Below w6.heap.size w6 w6.drew from (Below.refl _ w6).drew)
    refine wp_calm ?_
    go_region_with (first
      | (go_at_call 10; refine (HREF.out _ HD.out).mono ?_; rintro e w7 ⟨Dg, eg, Dx, ex, rfl, heg, hex, hDg, hDx, hb7⟩; have hb67 := HD.out.trans hb7; obtain ⟨hq7, hcg7, hcx7⟩ := HAF.out w7 hb67; have y0 := cell_in hq7 0; have y1 := cell_in hq7 1)
      | (go_at_call 9; refine (rsame_calls hs' hs' ys ys Dg Bg Dx Bi eg dg ex di _ hDg hcg7 hDx hcx7).mono ?_; rintro e w8 ⟨rfl, hb8⟩; rw [HSM.out]; have hb68 := bel2 hb67 hb8)
      | (go_at_call 6; refine (HKN6.out _ hb68).mono ?_; rintro e w9 ⟨rfl, hb9⟩))
    all_goals (
      go_wp2_with fail
      go_ret
      exact ⟨rfl, bel2 (bel2 HB5.out hb68) hb9⟩)
end Go.Proofs.YtcmhibcoccdmaaaGreatDoor.P
