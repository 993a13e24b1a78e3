/- The reference's same and Same. -/
import Derived.Test.YtcmhibcoccdmaaaGreatDoorRfE
import Derived.Deep.DeepCutAuto
namespace Go.Proofs.YtcmhibcoccdmaaaGreatDoor.P
open Go.RowKit Go.Shelf Go.Proofs.YtcmhibcoccdmaaaGreatDoorW.PrintWords Go.Proofs.YtcmhibcoccdmaaaGreatDoorW.PrintLast Go.Proofs.YtcmhibcoccdmaaaGreatDoorW.PrintMore Go.Proofs.YtcmhibcoccdmaaaGreatDoor.Rw
set_option linter.unusedVariables false
set_option linter.unusedSimpArgs false
theorem eqA64 (d : Nat) (w : World) (x0 y0 : ByteArray) (x1 y1 : Int) (x2 y2 : Int) :
    (Op.equalIn (d + 2) 64 (.agg #[.string x0, .int .i64 x1, .int .i64 x2]) (.agg #[.string y0, .int .i64 y1, .int .i64 y2])).run Tryz.prog w = .ok (x0.toList == y0.toList && (x1 == y1 && (x2 == y2))) w := by
  refine eqA_of Tryz.underlying64 (by kernel_rfl) ?_
  refine eqf_cons (by rfl) (by go_simp; rfl) (by go_simp; rfl) (by go_simp) ?_
  refine eqf_cons (by rfl) (by go_simp; rfl) (by go_simp; rfl) (by go_simp) ?_
  exact eqf_last (by rfl) (by go_simp; rfl) (by go_simp; rfl) (by go_simp)
attribute [local go_sem high] eqA64 eqP90
theorem eqI_eq (x y : Ins) : eqI x y = (!(x.op != y.op) && (!(x.a != y.a) && (!(x.b != y.b) && eqAt eqPr zP x.tb y.tb))) := by
  unfold eqI bne
  simp only [Bool.not_not]
set_option maxHeartbeats 4000000 in
set_option maxRecDepth 100000 in
theorem rsame1_calls (x y : Ins) (A B : Option Addr) (c d : Nat) (w : World) (hC : kP.C w A x.tb.length x.tb) (hD : kP.C w B y.tb.length y.tb) :
    Calls Tryz.prog 26 #[.agg #[.int .i64 x.op, .int .i64 x.a, .int .i64 x.b, .slice A x.tb.length c], .agg #[.int .i64 y.op, .int .i64 y.a, .int .i64 y.b, .slice B y.tb.length d]] w fun e w' => e = .returned (.bool (eqI x y)) ∧ Below w.heap.size w w' := by
  have hbig := hC.2.1
  have hbig2 := hD.2.1
  have HC := Lib.hid hC
  have HD := Lib.hid hD
  have HE := Lib.hid (eqI_eq x y)
  clear hC hD
  obtain ⟨xop, xa, xb, xt⟩ := x
  obtain ⟨yop, ya, yb, yt⟩ := y
  simp only at hbig hbig2 HC HD HE ⊢
  have HA := Lib.hid (((Below.refl _ w).alloc (Nat.le_refl _) (.cells #[.int .i64 xop, .int .i64 xa, .int .i64 xb, .slice A xt.length c] 45)).alloc (by simp) (.cells #[.int .i64 yop, .int .i64 ya, .int .i64 yb, .slice B yt.length d] 45))
  have HX := Lib.hid (new2_a w (.cells #[.int .i64 xop, .int .i64 xa, .int .i64 xb, .slice A xt.length c] 45) (.cells #[.int .i64 yop, .int .i64 ya, .int .i64 yb, .slice B yt.length d] 45))
  have HY := Lib.hid (new2_b w (.cells #[.int .i64 xop, .int .i64 xa, .int .i64 xb, .slice A xt.length c] 45) (.cells #[.int .i64 yop, .int .i64 ya, .int .i64 yb, .slice B yt.length d] 45))
  go_enter Tryz.func26, Tryz.ntmps26
  go_upto_region 1 with (fail)
  generalize (w.alloc (.cells #[.int .i64 xop, .int .i64 xa, .int .i64 xb, .slice A xt.length c] 45)).alloc (.cells #[.int .i64 yop, .int .i64 ya, .int .i64 yb, .slice B yt.length d] 45) = w1 at HA HX HY ⊢
  have x0 := cell_in HX.out 0
  have x1 := cell_in HX.out 1
  have x2 := cell_in HX.out 2
  have x3 := cell_in HX.out 3
  have y0 := cell_in HY.out 0
  have y1 := cell_in HY.out 1
  have y2 := cell_in HY.out 2
  have y3 := cell_in HY.out 3
  cases h1 : (xop != yop) with
  | true =>
    have HF := Lib.hid (show eqI ⟨xop, xa, xb, xt⟩ ⟨yop, ya, yb, yt⟩ = false by rw [HE.out, h1]; rfl)
    go_wp2_with fail
    go_ret
    exact ⟨by rw [HF.out]; rfl, HA.out⟩
  | false =>
  cases h2 : (xa != ya) with
  | true =>
    have HF := Lib.hid (show eqI ⟨xop, xa, xb, xt⟩ ⟨yop, ya, yb, yt⟩ = false by rw [HE.out, h1, h2]; rfl)
    go_wp2_with fail
    go_ret
    exact ⟨by rw [HF.out]; rfl, HA.out⟩
  | false =>
  cases h3 : (xb != yb) with
  | true =>
    have HF := Lib.hid (show eqI ⟨xop, xa, xb, xt⟩ ⟨yop, ya, yb, yt⟩ = false by rw [HE.out, h1, h2, h3]; rfl)
    go_wp2_with fail
    go_ret
    exact ⟨by rw [HF.out]; rfl, HA.out⟩
  | false =>
  have HE2 := Lib.hid (show eqI ⟨xop, xa, xb, xt⟩ ⟨yop, ya, yb, yt⟩ = eqAt eqPr zP xt yt by rw [HE.out, h1, h2, h3]; simp)
  clear HE
  by_cases hl : xt.length = yt.length
  · have e1 : ((xt.length : Int) != (yt.length : Int)) = false := bne_eq_false_iff_eq.2 (by omega)
    have HL := Lib.hid hl
    clear hl
    go_wp2_with fail
    go_loopg [5] (xt.length + 1) (fun gg s5 wr => ∃ kk : Nat, kk ≤ xt.length ∧ xt.length - kk < gg ∧ s5 = .int .i64 kk ∧ Hid (Below w1.heap.size w1 wr) ∧ Hid (∀ j, j < kk → eqPr (xt.getD j zP) (yt.getD j zP) = true))
    case atStart => exact ⟨0, Nat.zero_le _, by omega, rfl, Lib.hid (Below.refl _ _), Lib.hid (fun j hj => absurd hj (Nat.not_lt_zero _))⟩
    case round =>
      obtain ⟨kk, hkk, hg, rfl, BW, AL⟩ := hrel
      rcases gk with _ | gf
      · omega
      clear x0 x1 x2 x3 y0 y1 y2 y3 h1 h2 h3
      have x3 := cell_in ((BW.out.block _ (lt_heap HX.out)).trans HX.out) 3
      have y3 := cell_in ((BW.out.block _ (lt_heap HY.out)).trans HY.out) 3
      by_cases hlt : kk < xt.length
      · have hltz : (kk : Int) < (xt.length : Int) := by omega
        have hltm : (kk : Int) < (yt.length : Int) := by have := HL.out; omega
        obtain ⟨ad, rfl, p0, p1⟩ := at_P (Kd.C_below HC.out (bel2 HA.out BW.out)) kk hlt
        obtain ⟨bd, rfl, r0, r1⟩ := at_P (Kd.C_below HD.out (bel2 HA.out BW.out)) kk (by have := HL.out; omega)
        generalize hx : xt.getD kk zP = px at p0 p1
        generalize hy : yt.getD kk zP = py at r0 r1
        have HPX := Lib.hid hx
        have HPY := Lib.hid hy
        clear hx hy
        cases hq : eqPr px py with
        | true =>
          have HQ := Lib.hid hq
          have hq' : (px.1 == py.1 && (px.2 == py.2)) = true := hq
          have hq1 : (px.1 == py.1) = true ∧ (px.2 == py.2) = true := by simpa using hq'
          obtain ⟨hqa, hqb⟩ := hq1
          clear hq hq'
          go_wp2_with fail
          go_quiet (fail)
          go_wp2_with fail
          go_roundg gf
          case measure => omega
          case rel =>
            refine ⟨kk + 1, by omega, by omega, by go_num, Lib.hid (pw_below_drewN BW.out _), Lib.hid (fun j hj => ?_)⟩
            rcases Nat.lt_succ_iff_lt_or_eq.1 hj with h | rfl
            · exact AL.out j h
            · rw [HPX.out, HPY.out]; exact HQ.out
        | false =>
          have HQ := Lib.hid hq
          have hq' : (px.1 == py.1 && (px.2 == py.2)) = false := hq
          clear hq
          go_wp2_with fail
          go_quiet (fail)
          go_wp2_with fail
          go_ret
          exact ⟨by rw [HE2.out, eqAt_no kk hlt (by rw [HPX.out, HPY.out]; exact HQ.out)]; rfl, pw_below_drewN (bel2 HA.out BW.out) _⟩
      · have hltz : ¬ (kk : Int) < (xt.length : Int) := by omega
        obtain rfl : kk = xt.length := by omega
        go_wp2_with fail
        go_ret
        exact ⟨by rw [HE2.out, eqAt_yes HL.out AL.out]; rfl, bel2 HA.out BW.out⟩
  · have e1 : ((xt.length : Int) != (yt.length : Int)) = true := bne_iff_ne.2 (by omega)
    have HL := Lib.hid hl
    clear hl
    go_wp2_with fail
    go_ret
    exact ⟨by rw [HE2.out, eqAt_len HL.out]; rfl, HA.out⟩
set_option maxHeartbeats 4000000 in
set_option maxRecDepth 100000 in
theorem rsame_calls (gs hs : List S52) (xs ys : List Ins) (Ag Ah Ax Ay : Option Addr) (cg ch cx cy : Nat) (w : World) (hg : k52.C w Ag gs.length gs) (hh : k52.C w Ah hs.length hs) (hx : kI.C w Ax xs.length xs) (hy : kI.C w Ay ys.length ys) :
    Calls Tryz.prog 9 #[.agg #[.slice Ag gs.length cg, .slice Ax xs.length cx], .agg #[.slice Ah hs.length ch, .slice Ay ys.length cy]] w fun e w' => e = .returned (.bool (sameC gs hs xs ys)) ∧ Below w.heap.size w w' := by
  have hb1 := hg.2.1
  have hb2 := hh.2.1
  have hb3 := hx.2.1
  have hb4 := hy.2.1
  have HG := Lib.hid hg
  have HH := Lib.hid hh
  have HX := Lib.hid hx
  have HY := Lib.hid hy
  have HS := Lib.hid (show sameC gs hs xs ys = (eqAt eqG z52 gs hs && eqAt eqI zI xs ys) from rfl)
  clear hg hh hx hy
  have HA := Lib.hid (((Below.refl _ w).alloc (Nat.le_refl _) (.cells #[.slice Ag gs.length cg, .slice Ax xs.length cx] 32)).alloc (by simp) (.cells #[.slice Ah hs.length ch, .slice Ay ys.length cy] 32))
  have HU := Lib.hid (new2_a w (.cells #[.slice Ag gs.length cg, .slice Ax xs.length cx] 32) (.cells #[.slice Ah hs.length ch, .slice Ay ys.length cy] 32))
  have HV := Lib.hid (new2_b w (.cells #[.slice Ag gs.length cg, .slice Ax xs.length cx] 32) (.cells #[.slice Ah hs.length ch, .slice Ay ys.length cy] 32))
  go_enter Tryz.func9, Tryz.ntmps9
  go_upto_region 1 with (fail)
  generalize (w.alloc (.cells #[.slice Ag gs.length cg, .slice Ax xs.length cx] 32)).alloc (.cells #[.slice Ah hs.length ch, .slice Ay ys.length cy] 32) = w1 at HA HU HV ⊢
  have x0 := cell_in HU.out 0
  have x1 := cell_in HU.out 1
  have y0 := cell_in HV.out 0
  have y1 := cell_in HV.out 1
  by_cases hl : gs.length = hs.length
  rotate_left
  · have e1 : ((gs.length : Int) != (hs.length : Int)) = true := bne_iff_ne.2 (by omega)
    have HF := Lib.hid (show sameC gs hs xs ys = false by rw [HS.out, eqAt_len hl]; rfl)
    clear hl
    go_wp2_with fail
    go_ret
    exact ⟨by rw [HF.out]; rfl, HA.out⟩
  have e1 : ((gs.length : Int) != (hs.length : Int)) = false := bne_eq_false_iff_eq.2 (by omega)
  by_cases hm : xs.length = ys.length
  rotate_left
  · have e2 : ((xs.length : Int) != (ys.length : Int)) = true := bne_iff_ne.2 (by omega)
    have HF := Lib.hid (show sameC gs hs xs ys = false by rw [HS.out, eqAt_len hm, Bool.and_false])
    clear hl hm
    go_wp2_with fail
    go_ret
    exact ⟨by rw [HF.out]; rfl, HA.out⟩
  have e2 : ((xs.length : Int) != (ys.length : Int)) = false := bne_eq_false_iff_eq.2 (by omega)
  have HL := Lib.hid hl
  have HM := Lib.hid hm
  clear hl hm
  go_wp2_with fail
  clear x0 x1 y0 y1
  go_loopg [5] (gs.length + 1) (fun gg s5 wr => ∃ kk : Nat, kk ≤ gs.length ∧ gs.length - kk < gg ∧ s5 = .int .i64 kk ∧ Hid (Below w1.heap.size w1 wr) ∧ Hid (∀ j, j < kk → eqG (gs.getD j z52) (hs.getD j z52) = true))
  case atStart => exact ⟨0, Nat.zero_le _, by omega, rfl, Lib.hid (Below.refl _ _), Lib.hid (fun j hj => absurd hj (Nat.not_lt_zero _))⟩
  case round =>
    obtain ⟨kk, hkk, hg, rfl, BW, AL⟩ := hrel
    rcases gk with _ | gf
    · omega
    have x0 := cell_in ((BW.out.block _ (lt_heap HU.out)).trans HU.out) 0
    have y0 := cell_in ((BW.out.block _ (lt_heap HV.out)).trans HV.out) 0
    have x1 := cell_in ((BW.out.block _ (lt_heap HU.out)).trans HU.out) 1
    have y1 := cell_in ((BW.out.block _ (lt_heap HV.out)).trans HV.out) 1
    by_cases hlt : kk < gs.length
    · have hltz : (kk : Int) < (gs.length : Int) := by omega
      have hltm : (kk : Int) < (hs.length : Int) := by have := HL.out; omega
      obtain ⟨ad, rfl, p0, p1, p2⟩ := at_G (Kd.C_below HG.out (bel2 HA.out BW.out)) kk hlt
      obtain ⟨bd, rfl, r0, r1, r2⟩ := at_G (Kd.C_below HH.out (bel2 HA.out BW.out)) kk (by have := HL.out; omega)
      generalize hx : gs.getD kk z52 = px at p0 p1 p2
      generalize hy : hs.getD kk z52 = py at r0 r1 r2
      have HPX := Lib.hid hx
      have HPY := Lib.hid hy
      clear hx hy
      cases hq : eqG px py with
      | true =>
        have HQ := Lib.hid hq
        have hq' : (px.f0.toList == py.f0.toList && (px.f1 == py.f1 && (px.f2 == py.f2))) = true := hq
        clear hq
        go_wp2_with fail
        go_quiet (fail)
        go_wp2_with fail
        go_roundg gf
        case measure => omega
        case rel =>
          refine ⟨kk + 1, by omega, by omega, by go_num, Lib.hid (pw_below_drewN BW.out _), Lib.hid (fun j hj => ?_)⟩
          rcases Nat.lt_succ_iff_lt_or_eq.1 hj with h | rfl
          · exact AL.out j h
          · rw [HPX.out, HPY.out]; exact HQ.out
      | false =>
        have HQ := Lib.hid hq
        have hq' : (px.f0.toList == py.f0.toList && (px.f1 == py.f1 && (px.f2 == py.f2))) = false := hq
        have HF := Lib.hid (show sameC gs hs xs ys = false by rw [HS.out, eqAt_no kk hlt (by rw [HPX.out, HPY.out]; exact HQ.out)]; rfl)
        clear hq
        go_wp2_with fail
        go_quiet (fail)
        go_wp2_with fail
        go_ret
        exact ⟨by rw [HF.out]; rfl, pw_below_drewN (bel2 HA.out BW.out) _⟩
    · have hltz : ¬ (kk : Int) < (gs.length : Int) := by omega
      obtain rfl : kk = gs.length := by omega
      have HS2 := Lib.hid (show sameC gs hs xs ys = eqAt eqI zI xs ys by rw [HS.out, eqAt_yes HL.out AL.out]; rfl)
      have HB2 := Lib.hid (bel2 HA.out BW.out)
      have HU2 := Lib.hid ((BW.out.block _ (lt_heap HU.out)).trans HU.out)
      have HV2 := Lib.hid ((BW.out.block _ (lt_heap HV.out)).trans HV.out)
      clear HS AL
      obtain ⟨wa, hwa⟩ : ∃ wa, wa = wr := ⟨_, rfl⟩
      subst hwa
      go_wp2_with fail
      clear x0 x1 y0 y1
      go_loopg [6] (xs.length + 1) (fun gg s6 wz => ∃ kk : Nat, kk ≤ xs.length ∧ xs.length - kk < gg ∧ s6 = .int .i64 kk ∧ Hid (Below wa.heap.size wa wz) ∧ Hid (∀ j, j < kk → eqI (xs.getD j zI) (ys.getD j zI) = true))
      case atStart => exact ⟨0, Nat.zero_le _, by omega, rfl, Lib.hid (Below.refl _ _), Lib.hid (fun j hj => absurd hj (Nat.not_lt_zero _))⟩
      case round =>
        obtain ⟨kk, hkk, hg, rfl, BZ, AL⟩ := hrel
        rcases gk with _ | gz
        · omega
        have x1 := cell_in ((BZ.out.block _ (lt_heap HU2.out)).trans HU2.out) 1
        have y1 := cell_in ((BZ.out.block _ (lt_heap HV2.out)).trans HV2.out) 1
        by_cases hlt : kk < xs.length
        · have hltz : (kk : Int) < (xs.length : Int) := by omega
          have hltm : (kk : Int) < (ys.length : Int) := by have := HM.out; omega
          obtain ⟨ad, A3, c3, rfl, p0, p1, p2, p3, pl, pc⟩ := at_I (Kd.C_below HX.out (bel2 HB2.out BZ.out)) kk hlt
          obtain ⟨bd, B3, d3, rfl, r0, r1, r2, r3, rl, rc⟩ := at_I (Kd.C_below HY.out (bel2 HB2.out BZ.out)) kk (by have := HM.out; omega)
          generalize hx : xs.getD kk zI = px at p0 p1 p2 p3 pl pc
          generalize hy : ys.getD kk zI = py at r0 r1 r2 r3 rl rc
          have HPX := Lib.hid hx
          have HPY := Lib.hid hy
          have HPC := Lib.hid pc
          have HRC := Lib.hid rc
          clear hx hy pc rc
          go_upto_region 11 with (fail)
          go_cut [6, 59] from 48 to 59 (fun s6 s59 wx => s6 = .int .i64 kk ∧ s59 = .bool (!eqI px py) ∧ Hid (Below wa.heap.size wa wx))
          case first =>
            go_region_with (go_at_call 26; refine (rsame1_calls px py A3 B3 c3 d3 _ (Kd.C_drew HPC.out) (Kd.C_drew HRC.out)).mono ?_; rintro e w9 ⟨rfl, hb9⟩)
            all_goals (
              go_wp2_with fail
              go_meet
              exact ⟨rfl, rfl, Lib.hid (bel2 BZ.out (((Below.refl _ wr).drew).trans hb9))⟩)
          case rest =>
          obtain ⟨rfl, rfl, HBC⟩ := hcut
          clear HPC HRC p0 p1 p2 p3 r0 r1 r2 r3 x1 y1
          cases hq : eqI px py with
          | true =>
            have HAL := Lib.hid (show ∀ j, j < kk + 1 → eqI (xs.getD j zI) (ys.getD j zI) = true from fun j hj => by
              rcases Nat.lt_succ_iff_lt_or_eq.1 hj with h | rfl
              · exact AL.out j h
              · rw [HPX.out, HPY.out]; exact hq)
            clear hq
            go_wp2_with fail
            go_roundg gz
            case measure => omega
            case rel => exact ⟨kk + 1, by omega, by omega, by go_num, HBC, HAL⟩
          | false =>
            have HF := Lib.hid (show sameC gs hs xs ys = false by rw [HS2.out, eqAt_no kk hlt (by rw [HPX.out, HPY.out]; exact hq)])
            clear hq
            go_wp2_with fail
            go_ret
            exact ⟨by rw [HF.out]; rfl, bel2 HB2.out HBC.out⟩
        · have hltz : ¬ (kk : Int) < (xs.length : Int) := by omega
          obtain rfl : kk = xs.length := by omega
          have HF := Lib.hid (show sameC gs hs xs ys = true by rw [HS2.out, eqAt_yes HM.out AL.out])
          go_wp2_with fail
          go_ret
          exact ⟨by rw [HF.out]; rfl, bel2 HB2.out BZ.out⟩
end Go.Proofs.YtcmhibcoccdmaaaGreatDoor.P
