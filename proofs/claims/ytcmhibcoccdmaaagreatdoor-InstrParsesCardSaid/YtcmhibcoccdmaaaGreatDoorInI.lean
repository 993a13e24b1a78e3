/- Are two codes the same? -/
import Derived.Test.YtcmhibcoccdmaaaGreatDoorInH
import Derived.Test.YtcmhibcoccdmaaaGreatDoorPx1
namespace Go.Proofs.YtcmhibcoccdmaaaGreatDoor.P
open Go.RowKit Go.Shelf Go.Proofs.YtcmhibcoccdmaaaGreatDoorW.PrintWords Go.Proofs.YtcmhibcoccdmaaaGreatDoorW.PrintLast Go.Proofs.YtcmhibcoccdmaaaGreatDoor.Rw
set_option linter.unusedVariables false
set_option linter.unusedSimpArgs false
theorem eqP90 (d : Nat) (w : World) (a b c e : Int) : (Op.equalIn (d + 2) 90 (.agg #[.int .i64 a, .int .i64 b]) (.agg #[.int .i64 c, .int .i64 e])).run Tryz.prog w = .ok (a == c && (b == e)) w := by
  rw [Op.equalIn]
  cases h1 : a == c <;> cases h2 : b == e <;> simp [run_underlying Tryz.underlying90, go_sem, List.range', Tryz.isAgg3, Tryz.underlying3, h1, h2]
attribute [local go_sem high] eqA52 eqP90
section
variable {α : Type}
/-- As many, and alike at each place. -/
def eqAt (e : α → α → Bool) (z : α) (xs ys : List α) : Bool := decide (xs.length = ys.length) && (List.range xs.length).all fun i => e (xs.getD i z) (ys.getD i z)
theorem eqAt_len {e : α → α → Bool} {z : α} {xs ys : List α} (h : ¬ xs.length = ys.length) : eqAt e z xs ys = false := by unfold eqAt; rw [decide_eq_false h, Bool.false_and]
theorem eqAt_no {e : α → α → Bool} {z : α} {xs ys : List α} (k : Nat) (hk : k < xs.length) (h : e (xs.getD k z) (ys.getD k z) = false) : eqAt e z xs ys = false := by
  unfold eqAt
  rw [Bool.and_eq_false_iff]
  right
  rw [List.all_eq_false]
  exact ⟨k, List.mem_range.2 hk, by rw [h]; decide⟩
theorem eqAt_yes {e : α → α → Bool} {z : α} {xs ys : List α} (hl : xs.length = ys.length) (h : ∀ k, k < xs.length → e (xs.getD k z) (ys.getD k z) = true) : eqAt e z xs ys = true := by
  unfold eqAt
  rw [decide_eq_true hl, Bool.true_and, List.all_eq_true]
  intro k hk
  exact h k (List.mem_range.1 hk)
end
def eqG (x y : S52) : Bool := x.f0.toList == y.f0.toList && (x.f1 == y.f1 && (x.f2 == y.f2))
def eqPr (x y : Int × Int) : Bool := x.1 == y.1 && (x.2 == y.2)
def eqI (x y : Ins) : Bool := x.op == y.op && (x.a == y.a && (x.b == y.b && eqAt eqPr zP x.tb y.tb))
def sameC (gs hs : List S52) (xs ys : List Ins) : Bool := eqAt eqG z52 gs hs && eqAt eqI zI xs ys
set_option maxHeartbeats 4000000 in
set_option maxRecDepth 100000 in
theorem equalG (A B : Option Addr) (c d : Nat) (l m : List S52) (w : World) (hC : Kd.C k52 w A l.length l) (hD : Kd.C k52 w B m.length m) :
    Calls Tryz.prog 38 #[.slice A l.length c, .slice B m.length d] w fun e w' => e = .returned (.bool (eqAt eqG z52 l m)) ∧ Below w.heap.size w w' := by
  have hbig := hC.2.1
  have hbig2 := hD.2.1
  have HC := Lib.hid hC
  have HD := Lib.hid hD
  clear hC hD
  by_cases hl : l.length = m.length
  · have e1 : ((l.length : Int) != (m.length : Int)) = false := bne_eq_false_iff_eq.2 (by omega)
    have e2 : ((l.length : Int) == (m.length : Int)) = true := beq_iff_eq.2 (by omega)
    have HL := Lib.hid hl
    clear hl
    go_enter Tryz.func38, Tryz.ntmps38
    go_wp2
    repeat (go_quiet (fail); try go_wp2)
    go_loopg [13] l.length (fun gg s13 wr => ∃ kk : Nat, kk ≤ l.length ∧ l.length - kk ≤ gg ∧ s13 = .int .i64 kk ∧ Hid (Below w.heap.size w wr) ∧ Hid (∀ j, j < kk → eqG (l.getD j z52) (m.getD j z52) = true))
    case atStart => exact ⟨0, Nat.zero_le _, by omega, rfl, Lib.hid (by first | exact Below.refl _ _ | exact (Below.refl _ _).drew | exact (Drawn0.below ⟨_, rfl⟩)), Lib.hid (fun j hj => absurd hj (Nat.not_lt_zero _))⟩
    case round =>
      obtain ⟨kk, hkk, hg, rfl, BW, AL⟩ := hrel
      by_cases hlt : kk < l.length
      · have hltz : (kk : Int) < (l.length : Int) := by omega
        have hltm : (kk : Int) < (m.length : Int) := by have := HL.out; omega
        obtain ⟨ad, rfl, h0, h1, h2⟩ := at_G (Kd.C_below HC.out BW.out) kk hlt
        obtain ⟨bd, rfl, g0, g1, g2⟩ := at_G (Kd.C_below HD.out BW.out) kk (by have := HL.out; omega)
        generalize hx : l.getD kk z52 = x at h0 h1 h2
        generalize hy : m.getD kk z52 = y at g0 g1 g2
        have HX := Lib.hid hx
        have HY := Lib.hid hy
        clear hx hy
        cases hq : eqG x y with
        | true =>
          have HQ := Lib.hid hq
          have hq' : (x.f0.toList == y.f0.toList && (x.f1 == y.f1 && (x.f2 == y.f2))) = true := hq
          clear hq
          go_wp2
          repeat (go_quiet (fail); try go_wp2)
          go_roundg (l.length - (kk + 1))
          case measure => omega
          case rel =>
            refine ⟨kk + 1, by omega, by omega, by go_num, Lib.hid (by first | exact BW.out | exact BW.out.drew | exact bel2 BW.out (Drawn0.below ⟨_, rfl⟩)), Lib.hid (fun j hj => ?_)⟩
            rcases Nat.lt_succ_iff_lt_or_eq.1 hj with h | rfl
            · exact AL.out j h
            · rw [HX.out, HY.out]; exact HQ.out
        | false =>
          have HQ := Lib.hid hq
          have hq' : (x.f0.toList == y.f0.toList && (x.f1 == y.f1 && (x.f2 == y.f2))) = false := hq
          clear hq
          go_wp2
          repeat (go_quiet (fail); try go_wp2)
          go_ret
          exact ⟨by rw [eqAt_no kk hlt (by rw [HX.out, HY.out]; exact HQ.out)]; rfl, by first | exact BW.out | exact BW.out.drew | exact bel2 BW.out (Drawn0.below ⟨_, rfl⟩)⟩
      · have hltz : ¬ (kk : Int) < (l.length : Int) := by omega
        obtain rfl : kk = l.length := by omega
        go_wp2
        go_ret
        exact ⟨by rw [eqAt_yes HL.out AL.out]; rfl, BW.out⟩
  · have e1 : ((l.length : Int) != (m.length : Int)) = true := bne_iff_ne.2 (by omega)
    have e2 : ((l.length : Int) == (m.length : Int)) = false := beq_eq_false_iff_ne.2 (by omega)
    have HL := Lib.hid hl
    clear hl
    go_enter Tryz.func38, Tryz.ntmps38
    go_wp2
    repeat (go_quiet (fail); try go_wp2)
    go_ret
    exact ⟨by rw [eqAt_len HL.out]; rfl, by first | exact Below.refl _ _ | exact (Below.refl _ _).drew | exact (Drawn0.below ⟨_, rfl⟩)⟩
set_option maxHeartbeats 4000000 in
set_option maxRecDepth 100000 in
theorem equalP (A B : Option Addr) (c d : Nat) (l m : List (Int × Int)) (w : World) (hC : Kd.C kP w A l.length l) (hD : Kd.C kP w B m.length m) :
    Calls Tryz.prog 41 #[.slice A l.length c, .slice B m.length d] w fun e w' => e = .returned (.bool (eqAt eqPr zP l m)) ∧ Below w.heap.size w w' := by
  have hbig := hC.2.1
  have hbig2 := hD.2.1
  have HC := Lib.hid hC
  have HD := Lib.hid hD
  clear hC hD
  by_cases hl : l.length = m.length
  · have e1 : ((l.length : Int) != (m.length : Int)) = false := bne_eq_false_iff_eq.2 (by omega)
    have e2 : ((l.length : Int) == (m.length : Int)) = true := beq_iff_eq.2 (by omega)
    have HL := Lib.hid hl
    clear hl
    go_enter Tryz.func41, Tryz.ntmps41
    go_wp2
    repeat (go_quiet (fail); try go_wp2)
    go_loopg [13] l.length (fun gg s13 wr => ∃ kk : Nat, kk ≤ l.length ∧ l.length - kk ≤ gg ∧ s13 = .int .i64 kk ∧ Hid (Below w.heap.size w wr) ∧ Hid (∀ j, j < kk → eqPr (l.getD j zP) (m.getD j zP) = true))
    case atStart => exact ⟨0, Nat.zero_le _, by omega, rfl, Lib.hid (by first | exact Below.refl _ _ | exact (Below.refl _ _).drew | exact (Drawn0.below ⟨_, rfl⟩)), Lib.hid (fun j hj => absurd hj (Nat.not_lt_zero _))⟩
    case round =>
      obtain ⟨kk, hkk, hg, rfl, BW, AL⟩ := hrel
      by_cases hlt : kk < l.length
      · have hltz : (kk : Int) < (l.length : Int) := by omega
        have hltm : (kk : Int) < (m.length : Int) := by have := HL.out; omega
        obtain ⟨ad, rfl, h0, h1⟩ := at_P (Kd.C_below HC.out BW.out) kk hlt
        obtain ⟨bd, rfl, g0, g1⟩ := at_P (Kd.C_below HD.out BW.out) kk (by have := HL.out; omega)
        generalize hx : l.getD kk zP = x at h0 h1
        generalize hy : m.getD kk zP = y at g0 g1
        have HX := Lib.hid hx
        have HY := Lib.hid hy
        clear hx hy
        cases hq : eqPr x y with
        | true =>
          have HQ := Lib.hid hq
          have hq' : (x.1 == y.1 && (x.2 == y.2)) = true := hq
          clear hq
          go_wp2
          repeat (go_quiet (fail); try go_wp2)
          go_roundg (l.length - (kk + 1))
          case measure => omega
          case rel =>
            refine ⟨kk + 1, by omega, by omega, by go_num, Lib.hid (by first | exact BW.out | exact BW.out.drew | exact bel2 BW.out (Drawn0.below ⟨_, rfl⟩)), Lib.hid (fun j hj => ?_)⟩
            rcases Nat.lt_succ_iff_lt_or_eq.1 hj with h | rfl
            · exact AL.out j h
            · rw [HX.out, HY.out]; exact HQ.out
        | false =>
          have HQ := Lib.hid hq
          have hq' : (x.1 == y.1 && (x.2 == y.2)) = false := hq
          clear hq
          go_wp2
          repeat (go_quiet (fail); try go_wp2)
          go_ret
          exact ⟨by rw [eqAt_no kk hlt (by rw [HX.out, HY.out]; exact HQ.out)]; rfl, by first | exact BW.out | exact BW.out.drew | exact bel2 BW.out (Drawn0.below ⟨_, rfl⟩)⟩
      · have hltz : ¬ (kk : Int) < (l.length : Int) := by omega
        obtain rfl : kk = l.length := by omega
        go_wp2
        go_ret
        exact ⟨by rw [eqAt_yes HL.out AL.out]; rfl, BW.out⟩
  · have e1 : ((l.length : Int) != (m.length : Int)) = true := bne_iff_ne.2 (by omega)
    have e2 : ((l.length : Int) == (m.length : Int)) = false := beq_eq_false_iff_ne.2 (by omega)
    have HL := Lib.hid hl
    clear hl
    go_enter Tryz.func41, Tryz.ntmps41
    go_wp2
    repeat (go_quiet (fail); try go_wp2)
    go_ret
    exact ⟨by rw [eqAt_len HL.out]; rfl, by first | exact Below.refl _ _ | exact (Below.refl _ _).drew | exact (Drawn0.below ⟨_, rfl⟩)⟩
set_option maxHeartbeats 4000000 in
set_option maxRecDepth 100000 in
theorem eqI_calls (x y : Ins) (A B : Option Addr) (c d : Nat) (w : World) (hC : kP.C w A x.tb.length x.tb) (hD : kP.C w B y.tb.length y.tb) :
    Calls Tryz.prog 40 #[.agg #[.int .i64 x.op, .int .i64 x.a, .int .i64 x.b, .slice A x.tb.length c], .agg #[.int .i64 y.op, .int .i64 y.a, .int .i64 y.b, .slice B y.tb.length d]] w fun e w' => e = .returned (.bool (eqI x y)) ∧ Below w.heap.size w w' := by
  have HC := Lib.hid hC
  have HD := Lib.hid hD
  have hE : eqI x y = (x.op == y.op && (x.a == y.a && (x.b == y.b && eqAt eqPr zP x.tb y.tb))) := rfl
  have HE := Lib.hid hE
  have HB := Lib.hid (((Below.refl _ w).alloc (Nat.le_refl _) (.cells #[.int .i64 x.op, .int .i64 x.a, .int .i64 x.b, .slice A x.tb.length c] 46)).alloc (by simp) (.cells #[.int .i64 y.op, .int .i64 y.a, .int .i64 y.b, .slice B y.tb.length d] 46))
  clear hC hD hE
  rcases Bool.eq_false_or_eq_true (x.op == y.op) with b1 | b1
  all_goals (rcases Bool.eq_false_or_eq_true (x.a == y.a) with b2 | b2)
  all_goals (rcases Bool.eq_false_or_eq_true (x.b == y.b) with b3 | b3)
  all_goals (
    rw [b1, b2, b3] at HE
    go_enter Tryz.func40, Tryz.ntmps40
    go_wp2_with fail
    first
      | (go_ret; exact ⟨by rw [HE.out]; rfl, HB.out⟩)
      | (refine (equalP A B c d x.tb y.tb _ (Kd.C_below HC.out HB.out) (Kd.C_below HD.out HB.out)).mono ?_
         rintro e w1 ⟨rfl, hb1⟩
         have HB1 := Lib.hid (bel2 HB.out hb1)
         clear hb1
         go_wp2_with fail
         go_ret
         exact ⟨by rw [HE.out]; rfl, HB1.out⟩))
set_option maxHeartbeats 8000000 in
set_option maxRecDepth 100000 in
theorem equalI (A B : Option Addr) (c d : Nat) (l m : List Ins) (w : World) (hC : kI.C w A l.length l) (hD : kI.C w B m.length m) :
    Calls Tryz.prog 39 #[.slice A l.length c, .slice B m.length d, .func (.func 40) #[] #[]] w fun e w' => e = .returned (.bool (eqAt eqI zI l m)) ∧ Below w.heap.size w w' := by
  have hbig := hC.2.1
  have hbig2 := hD.2.1
  have HC := Lib.hid hC
  have HD := Lib.hid hD
  clear hC hD
  by_cases hl : l.length = m.length
  · have e1 : ((l.length : Int) != (m.length : Int)) = false := bne_eq_false_iff_eq.2 (by omega)
    have HL := Lib.hid hl
    clear hl
    go_enter Tryz.func39, Tryz.ntmps39
    go_wp2
    go_loopg [17] l.length (fun gg s17 wr => ∃ kk : Nat, kk ≤ l.length ∧ l.length - kk ≤ gg ∧ s17 = .int .i64 kk ∧ Hid (Below w.heap.size w wr) ∧ Hid (∀ j, j < kk → eqI (l.getD j zI) (m.getD j zI) = true))
    case atStart => exact ⟨0, Nat.zero_le _, by omega, rfl, Lib.hid (Below.refl _ w), Lib.hid (fun j hj => absurd hj (Nat.not_lt_zero _))⟩
    case round =>
      obtain ⟨kk, hkk, hg, rfl, BW, AL⟩ := hrel
      by_cases hlt : kk < l.length
      · have hltz : (kk : Int) < (l.length : Int) := by omega
        have hltm : (kk : Int) < (m.length : Int) := by have := HL.out; omega
        obtain ⟨ad, A3, c3, rfl, h0, h1, h2, h3, hl3, hC3⟩ := at_I (Kd.C_below HC.out BW.out) kk hlt
        obtain ⟨bd, B3, d3, rfl, g0, g1, g2, g3, gl3, gC3⟩ := at_I (Kd.C_below HD.out BW.out) kk (by have := HL.out; omega)
        generalize hx : l.getD kk zI = x at h0 h1 h2 h3 hl3 hC3
        generalize hy : m.getD kk zI = y at g0 g1 g2 g3 gl3 gC3
        have HX := Lib.hid hx
        have HY := Lib.hid hy
        have HC3 := Lib.hid hC3
        have HD3 := Lib.hid gC3
        clear hx hy hC3 gC3 hl3 gl3
        have m0 := fun o => cell_allocN o g0
        have m1 := fun o => cell_allocN o g1
        have m2 := fun o => cell_allocN o g2
        have m3 := fun o => cell_allocN o g3
        have HA := Lib.hid (((Below.refl _ wr).alloc (Nat.le_refl _) (.cells #[.int .i64 x.op, .int .i64 x.a, .int .i64 x.b, .slice A3 x.tb.length c3] 46)).alloc (by simp) (.cells #[.int .i64 y.op, .int .i64 y.a, .int .i64 y.b, .slice B3 y.tb.length d3] 46))
        go_wp2_with fail
        refine (eqI_calls x y A3 B3 c3 d3 _ (Kd.C_below HC3.out HA.out) (Kd.C_below HD3.out HA.out)).mono ?_
        rintro e w1 ⟨rfl, hb1⟩
        have HB1 := Lib.hid (bel2 BW.out (bel2 HA.out hb1))
        clear hb1
        cases hq : eqI x y with
        | true =>
          have HQ := Lib.hid hq
          clear hq
          go_wp2_with fail
          go_roundg (l.length - (kk + 1))
          case measure => omega
          case rel =>
            refine ⟨kk + 1, by omega, by omega, by go_num, HB1, Lib.hid (fun j hj => ?_)⟩
            rcases Nat.lt_succ_iff_lt_or_eq.1 hj with h | rfl
            · exact AL.out j h
            · rw [HX.out, HY.out]; exact HQ.out
        | false =>
          have HQ := Lib.hid hq
          clear hq
          go_wp2_with fail
          go_ret
          exact ⟨by rw [eqAt_no kk hlt (by rw [HX.out, HY.out]; exact HQ.out)]; rfl, HB1.out⟩
      · have hltz : ¬ (kk : Int) < (l.length : Int) := by omega
        obtain rfl : kk = l.length := by omega
        go_wp2
        go_ret
        exact ⟨by rw [eqAt_yes HL.out AL.out]; rfl, BW.out⟩
  · have e1 : ((l.length : Int) != (m.length : Int)) = true := bne_iff_ne.2 (by omega)
    have HL := Lib.hid hl
    clear hl
    go_enter Tryz.func39, Tryz.ntmps39
    go_wp2
    go_ret
    exact ⟨by rw [eqAt_len HL.out]; rfl, Below.refl _ _⟩
set_option maxHeartbeats 4000000 in
set_option maxRecDepth 100000 in
theorem same_calls (gs hs : List S52) (xs ys : List Ins) (Ag Ah Ax Ay : Option Addr) (cg ch cx cy : Nat) (w : World) (hg : k52.C w Ag gs.length gs) (hh : k52.C w Ah hs.length hs) (hx : kI.C w Ax xs.length xs) (hy : kI.C w Ay ys.length ys) :
    Calls Tryz.prog 14 #[.agg #[.slice Ag gs.length cg, .slice Ax xs.length cx], .agg #[.slice Ah hs.length ch, .slice Ay ys.length cy]] w fun e w' => e = .returned (.bool (sameC gs hs xs ys)) ∧ Below w.heap.size w w' := by
  have HG := Lib.hid hg
  have HH := Lib.hid hh
  have HX := Lib.hid hx
  have HY := Lib.hid hy
  have hS : sameC gs hs xs ys = (eqAt eqG z52 gs hs && eqAt eqI zI xs ys) := rfl
  have HS := Lib.hid hS
  clear hg hh hx hy hS
  have HA := Lib.hid (((Below.refl _ w).alloc (Nat.le_refl _) (.cells #[.slice Ag gs.length cg, .slice Ax xs.length cx] 26)).alloc (by simp) (.cells #[.slice Ah hs.length ch, .slice Ay ys.length cy] 26))
  go_enter Tryz.func14, Tryz.ntmps14
  go_wp2_with fail
  refine (equalG Ag Ah cg ch gs hs _ (Kd.C_below HG.out HA.out) (Kd.C_below HH.out HA.out)).mono ?_
  rintro e w1 ⟨rfl, hb1⟩
  have HX1 := Lib.hid ((hb1.block w.heap.size (by simp; omega)).trans (new2_a w (.cells #[.slice Ag gs.length cg, .slice Ax xs.length cx] 26) (.cells #[.slice Ah hs.length ch, .slice Ay ys.length cy] 26)))
  have HY1 := Lib.hid ((hb1.block (w.heap.size + 1) (by simp)).trans (new2_b w (.cells #[.slice Ag gs.length cg, .slice Ax xs.length cx] 26) (.cells #[.slice Ah hs.length ch, .slice Ay ys.length cy] 26)))
  have HB1 := Lib.hid (bel2 HA.out hb1)
  clear hb1
  have x1 := cell_in HX1.out 1
  have y1 := cell_in HY1.out 1
  rcases Bool.eq_false_or_eq_true (eqAt eqG z52 gs hs) with b1 | b1
  all_goals (rw [b1] at HS ⊢)
  · go_wp2_with fail
    refine (equalI Ax Ay cx cy xs ys _ (Kd.C_below HX.out HB1.out) (Kd.C_below HY.out HB1.out)).mono ?_
    rintro e w2 ⟨rfl, hb2⟩
    have HB2 := Lib.hid (bel2 HB1.out hb2)
    clear hb2
    go_wp2_with fail
    go_ret
    exact ⟨by rw [HS.out]; rfl, HB2.out⟩
  · go_wp2_with fail
    go_ret
    exact ⟨by rw [HS.out]; rfl, HB1.out⟩
end Go.Proofs.YtcmhibcoccdmaaaGreatDoor.P
