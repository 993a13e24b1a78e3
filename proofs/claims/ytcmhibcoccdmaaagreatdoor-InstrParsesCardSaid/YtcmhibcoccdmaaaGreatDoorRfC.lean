/- The reference's tables and Right are the program's. -/
import Derived.Test.YtcmhibcoccdmaaaGreatDoorRfB
namespace Go.Proofs.YtcmhibcoccdmaaaGreatDoor.P
open Go.RowKit Go.Shelf Go.Proofs.YtcmhibcoccdmaaaGreatDoorW.PrintWords Go.Proofs.YtcmhibcoccdmaaaGreatDoorW.PrintLast Go.Proofs.YtcmhibcoccdmaaaGreatDoor.Rw
set_option linter.unusedVariables false
set_option linter.unusedSimpArgs false
theorem rok_iff (tags : Bool) (l : List (Int × Int)) (i : Nat) : rokAt tags l i = true ↔ (0 ≤ (l.getD i zP).2 ∧ (l.getD i zP).2 ≤ 65536) ∧ ¬ ((l.getD i zP).1 = -1 ∧ 0 < i) ∧ (tags = true → ¬ (l.getD i zP).1 = -1 → 0 ≤ (l.getD i zP).1 ∧ (l.getD i zP).1 ≤ 255) ∧ (0 < i → (l.getD i zP).1 ≤ (l.getD (i - 1) zP).1 → i = 1 ∧ (l.getD 0 zP).1 = -1) := by
  unfold rokAt rok6 rbad8
  generalize l.getD i zP = y
  generalize l.getD (i - 1) zP = p
  generalize l.getD 0 zP = z
  cases tags <;> simp <;> omega
theorem ok_iff (op : Int) (l : List (Int × Int)) (i : Nat) : okAt op l i = true ↔ (0 ≤ (l.getD i zP).2 ∧ (l.getD i zP).2 ≤ 65536) ∧ ((l.getD i zP).1 = -1 → i = 0) ∧ (¬ (l.getD i zP).1 = -1 → (op = 11 → 0 ≤ (l.getD i zP).1 ∧ (l.getD i zP).1 ≤ 255) ∧ (0 < i → (l.getD (i - 1) zP).1 = -1 ∨ (l.getD (i - 1) zP).1 < (l.getD i zP).1)) := by
  unfold okAt
  generalize l.getD i zP = y
  generalize l.getD (i - 1) zP = p
  by_cases h : y.1 = -1
  · simp only [h, if_true]; simp
  · simp only [h, if_false]; simp; omega
theorem tab_eq (tags : Bool) (op : Int) (h : (tags = true ∧ op = 11) ∨ (tags = false ∧ op = 13)) (l : List (Int × Int)) : rtab tags l = pairsB op l := by
  have hall : ((List.range l.length).all (rokAt tags l) = true) ↔ ((List.range l.length).all (okAt op l) = true) := by
    rw [List.all_eq_true, List.all_eq_true]
    have ht : tags = true ↔ op = 11 := by rcases h with ⟨rfl, rfl⟩ | ⟨rfl, rfl⟩ <;> simp
    constructor
    · intro H i hi
      have h1 := (rok_iff tags l i).1 (H i hi)
      rw [ok_iff]
      refine ⟨h1.1, fun e => by have := h1.2.1; omega, fun e => ⟨fun e2 => h1.2.2.1 (ht.2 e2) e, fun h0 => ?_⟩⟩
      by_cases hp : (l.getD i zP).1 ≤ (l.getD (i - 1) zP).1
      · obtain ⟨rfl, hz⟩ := h1.2.2.2 h0 hp
        exact .inl hz
      · exact .inr (by omega)
    · intro H i hi
      have h1 := (ok_iff op l i).1 (H i hi)
      rw [rok_iff]
      refine ⟨h1.1, fun e => by have := h1.2.1 e.1; omega, fun e e2 => (h1.2.2 e2).1 (ht.1 e), fun h0 hp => ?_⟩
      have hn : ¬ (l.getD i zP).1 = -1 := fun e => by have := h1.2.1 e; omega
      rcases (h1.2.2 hn).2 h0 with h2 | h2
      · have h3 := (ok_iff op l (i - 1)).1 (H (i - 1) (List.mem_range.2 (by have := List.mem_range.1 hi; omega)))
        have h4 := h3.2.1 h2
        rw [h4] at h2
        exact ⟨by omega, h2⟩
      · omega
  have hall2 : (List.range l.length).all (rokAt tags l) = (List.range l.length).all (okAt op l) := Bool.eq_iff_iff.2 hall
  unfold rtab pairsB
  rw [hall2]
  rcases h with ⟨rfl, rfl⟩ | ⟨rfl, rfl⟩
  · have e : decide (1 ≤ l.length ∧ l.length ≤ 65536 ∧ (true = true → l.length ≤ 257)) = decide ((1 : Int) ≤ (l.length : Int) ∧ (l.length : Int) ≤ mostP 11) := decide_eq_decide.2 (by unfold mostP; simp; omega)
    rw [e]
    simp
  · have e : decide (1 ≤ l.length ∧ l.length ≤ 65536 ∧ (false = true → l.length ≤ 257)) = decide ((1 : Int) ≤ (l.length : Int) ∧ (l.length : Int) ≤ mostP 13) := decide_eq_decide.2 (by unfold mostP; simp; omega)
    rw [e]
    have e2 : (!(decide ((13 : Int) = 13) && decide ((l.getD 0 zP).1 ≠ -1))) = ((l.getD 0 zP).1 == -1) := by
      generalize (l.getD 0 zP).1 = z
      by_cases hz : z = -1 <;> simp [hz]
    rw [e2, Bool.false_or, Bool.and_comm ((l.getD 0 zP).1 == -1)]
theorem len0 (tb : List (Int × Int)) : decide (0 < tb.length) = !((tb.length : Int) == 0) := by
  by_cases h : tb.length = 0
  · rw [h]; rfl
  · rw [decide_eq_true (by omega), beq_eq_false_iff_ne.2 (by omega)]; rfl
theorem right_one (x : Ins) (lo hi : Int) (h : 0 < x.op ∧ x.op < 17) (hn : (fmAt x.op.toNat).nums = 1) (hlo : (fmAt x.op.toNat).least = lo) (hhi : (fmAt x.op.toNat).most = hi) :
    RightI x = (decide (lo ≤ x.a ∧ x.a ≤ hi) && ((x.b == 0) && ((x.tb.length : Int) == 0))) := by
  have ho : (x.op == 0) = false := beq_eq_false_iff_ne.2 (by omega)
  unfold RightI
  rw [if_pos (by omega)]
  simp only [hn, hlo, hhi, len0, ho]
  by_cases hb : x.b = 0
  · rw [hb]; cases ((x.tb.length : Int) == 0) <;> simp
  · rw [beq_eq_false_iff_ne.2 hb, bne_iff_ne.2 hb]; simp
theorem right_int (x : Ins) (h : x.op = 0) (hn : (fmAt 0).nums = 1) : RightI x = ((x.b == 0) && ((x.tb.length : Int) == 0)) := by
  unfold RightI
  rw [if_pos (by omega), h]
  simp only [show Int.toNat 0 = 0 from rfl, hn, len0]
  by_cases hb : x.b = 0
  · rw [hb]; cases ((x.tb.length : Int) == 0) <;> simp
  · rw [beq_eq_false_iff_ne.2 hb, bne_iff_ne.2 hb]; simp
theorem right_two (x : Ins) (lo hi : Int) (h : 0 < x.op ∧ x.op < 17) (hn : (fmAt x.op.toNat).nums = 2) (hlo : (fmAt x.op.toNat).least = lo) (hhi : (fmAt x.op.toNat).most = hi) :
    RightI x = (decide (lo ≤ x.a ∧ x.a ≤ hi) && (decide (0 ≤ x.b ∧ x.b ≤ 255) && ((x.tb.length : Int) == 0))) := by
  have ho : (x.op == 0) = false := beq_eq_false_iff_ne.2 (by omega)
  unfold RightI
  rw [if_pos (by omega)]
  simp only [hn, hlo, hhi, len0, ho]
  cases ((x.tb.length : Int) == 0) <;> simp
theorem right_non (x : Ins) (h : 0 < x.op ∧ x.op < 17) (hn : (fmAt x.op.toNat).nums = 0) : RightI x = ((x.a == 0) && ((x.b == 0) && ((x.tb.length : Int) == 0))) := by
  have ho : (x.op == 0) = false := beq_eq_false_iff_ne.2 (by omega)
  unfold RightI
  rw [if_pos (by omega)]
  simp only [hn, len0, ho]
  by_cases hb : x.b = 0
  · by_cases ha : x.a = 0
    · rw [hb, ha]; cases ((x.tb.length : Int) == 0) <;> simp
    · rw [hb, beq_eq_false_iff_ne.2 ha, bne_iff_ne.2 ha]; simp
  · rw [beq_eq_false_iff_ne.2 hb, bne_iff_ne.2 hb]; simp
theorem right_tab (x : Ins) (h : 0 < x.op ∧ x.op < 17) (hn : (fmAt x.op.toNat).nums = -1) : RightI x = ((x.a == 0) && ((x.b == 0) && pairsB x.op x.tb)) := by
  unfold RightI
  rw [if_pos (by omega)]
  simp only [hn]
  by_cases hb : x.b = 0
  · by_cases ha : x.a = 0
    · rw [hb, ha]; simp
    · rw [hb, beq_eq_false_iff_ne.2 ha, bne_iff_ne.2 ha]; simp
  · rw [beq_eq_false_iff_ne.2 hb, bne_iff_ne.2 hb]; simp
theorem r0_eq (a b : Int) (tb : List (Int × Int)) : RightI ⟨0, a, b, tb⟩ = ((b == 0) && ((tb.length : Int) == 0)) := right_int ⟨0, a, b, tb⟩ rfl (by kernel_rfl)
theorem r1_eq (a b : Int) (tb : List (Int × Int)) : RightI ⟨1, a, b, tb⟩ = (decide ((0 : Int) ≤ a ∧ a ≤ 65536) && ((b == 0) && ((tb.length : Int) == 0))) := right_one ⟨1, a, b, tb⟩ 0 65536 ⟨(by decide : (0 : Int) < 1), (by decide : (1 : Int) < 17)⟩ (by kernel_rfl) (by kernel_rfl) (by kernel_rfl)
theorem r2_eq (a b : Int) (tb : List (Int × Int)) : RightI ⟨2, a, b, tb⟩ = (decide ((0 : Int) ≤ a ∧ a ≤ 65536) && ((b == 0) && ((tb.length : Int) == 0))) := right_one ⟨2, a, b, tb⟩ 0 65536 ⟨(by decide : (0 : Int) < 2), (by decide : (2 : Int) < 17)⟩ (by kernel_rfl) (by kernel_rfl) (by kernel_rfl)
theorem r3_eq (a b : Int) (tb : List (Int × Int)) : RightI ⟨3, a, b, tb⟩ = ((a == 0) && ((b == 0) && ((tb.length : Int) == 0))) := right_non ⟨3, a, b, tb⟩ ⟨(by decide : (0 : Int) < 3), (by decide : (3 : Int) < 17)⟩ (by kernel_rfl)
theorem r4_eq (a b : Int) (tb : List (Int × Int)) : RightI ⟨4, a, b, tb⟩ = (decide ((0 : Int) ≤ a ∧ a ≤ 65536) && ((b == 0) && ((tb.length : Int) == 0))) := right_one ⟨4, a, b, tb⟩ 0 65536 ⟨(by decide : (0 : Int) < 4), (by decide : (4 : Int) < 17)⟩ (by kernel_rfl) (by kernel_rfl) (by kernel_rfl)
theorem r5_eq (a b : Int) (tb : List (Int × Int)) : RightI ⟨5, a, b, tb⟩ = (decide ((0 : Int) ≤ a ∧ a ≤ 65536) && ((b == 0) && ((tb.length : Int) == 0))) := right_one ⟨5, a, b, tb⟩ 0 65536 ⟨(by decide : (0 : Int) < 5), (by decide : (5 : Int) < 17)⟩ (by kernel_rfl) (by kernel_rfl) (by kernel_rfl)
theorem r6_eq (a b : Int) (tb : List (Int × Int)) : RightI ⟨6, a, b, tb⟩ = (decide ((0 : Int) ≤ a ∧ a ≤ 65536) && ((b == 0) && ((tb.length : Int) == 0))) := right_one ⟨6, a, b, tb⟩ 0 65536 ⟨(by decide : (0 : Int) < 6), (by decide : (6 : Int) < 17)⟩ (by kernel_rfl) (by kernel_rfl) (by kernel_rfl)
theorem r7_eq (a b : Int) (tb : List (Int × Int)) : RightI ⟨7, a, b, tb⟩ = (decide ((1 : Int) ≤ a ∧ a ≤ 65536) && ((b == 0) && ((tb.length : Int) == 0))) := right_one ⟨7, a, b, tb⟩ 1 65536 ⟨(by decide : (0 : Int) < 7), (by decide : (7 : Int) < 17)⟩ (by kernel_rfl) (by kernel_rfl) (by kernel_rfl)
theorem r8_eq (a b : Int) (tb : List (Int × Int)) : RightI ⟨8, a, b, tb⟩ = ((a == 0) && ((b == 0) && ((tb.length : Int) == 0))) := right_non ⟨8, a, b, tb⟩ ⟨(by decide : (0 : Int) < 8), (by decide : (8 : Int) < 17)⟩ (by kernel_rfl)
theorem r9_eq (a b : Int) (tb : List (Int × Int)) : RightI ⟨9, a, b, tb⟩ = ((a == 0) && ((b == 0) && ((tb.length : Int) == 0))) := right_non ⟨9, a, b, tb⟩ ⟨(by decide : (0 : Int) < 9), (by decide : (9 : Int) < 17)⟩ (by kernel_rfl)
theorem r10_eq (a b : Int) (tb : List (Int × Int)) : RightI ⟨10, a, b, tb⟩ = (decide ((0 : Int) ≤ a ∧ a ≤ 255) && (decide ((0 : Int) ≤ b ∧ b ≤ 255) && ((tb.length : Int) == 0))) := right_two ⟨10, a, b, tb⟩ 0 255 ⟨(by decide : (0 : Int) < 10), (by decide : (10 : Int) < 17)⟩ (by kernel_rfl) (by kernel_rfl) (by kernel_rfl)
theorem r11_eq (a b : Int) (tb : List (Int × Int)) : RightI ⟨11, a, b, tb⟩ = ((a == 0) && ((b == 0) && rtab true tb)) := by rw [tab_eq true 11 (by simp) tb]; exact right_tab ⟨11, a, b, tb⟩ ⟨(by decide : (0 : Int) < 11), (by decide : (11 : Int) < 17)⟩ (by kernel_rfl)
theorem r12_eq (a b : Int) (tb : List (Int × Int)) : RightI ⟨12, a, b, tb⟩ = (decide ((0 : Int) ≤ a ∧ a ≤ 65536) && ((b == 0) && ((tb.length : Int) == 0))) := right_one ⟨12, a, b, tb⟩ 0 65536 ⟨(by decide : (0 : Int) < 12), (by decide : (12 : Int) < 17)⟩ (by kernel_rfl) (by kernel_rfl) (by kernel_rfl)
theorem r13_eq (a b : Int) (tb : List (Int × Int)) : RightI ⟨13, a, b, tb⟩ = ((a == 0) && ((b == 0) && rtab false tb)) := by rw [tab_eq false 13 (by simp) tb]; exact right_tab ⟨13, a, b, tb⟩ ⟨(by decide : (0 : Int) < 13), (by decide : (13 : Int) < 17)⟩ (by kernel_rfl)
theorem r14_eq (a b : Int) (tb : List (Int × Int)) : RightI ⟨14, a, b, tb⟩ = (decide ((0 : Int) ≤ a ∧ a ≤ 10) && ((b == 0) && ((tb.length : Int) == 0))) := right_one ⟨14, a, b, tb⟩ 0 10 ⟨(by decide : (0 : Int) < 14), (by decide : (14 : Int) < 17)⟩ (by kernel_rfl) (by kernel_rfl) (by kernel_rfl)
theorem r15_eq (a b : Int) (tb : List (Int × Int)) : RightI ⟨15, a, b, tb⟩ = ((a == 0) && ((b == 0) && ((tb.length : Int) == 0))) := right_non ⟨15, a, b, tb⟩ ⟨(by decide : (0 : Int) < 15), (by decide : (15 : Int) < 17)⟩ (by kernel_rfl)
theorem r16_eq (a b : Int) (tb : List (Int × Int)) : RightI ⟨16, a, b, tb⟩ = (decide ((0 : Int) ≤ a ∧ a ≤ 65536) && ((b == 0) && ((tb.length : Int) == 0))) := right_one ⟨16, a, b, tb⟩ 0 65536 ⟨(by decide : (0 : Int) < 16), (by decide : (16 : Int) < 17)⟩ (by kernel_rfl) (by kernel_rfl) (by kernel_rfl)
set_option maxHeartbeats 4000000 in
set_option maxRecDepth 100000 in
theorem rright_0 (a b : Int) (tb : List (Int × Int)) (A : Option Addr) (c : Nat) (w : World) (hC : kP.C w A tb.length tb) :
    Calls Tryz.prog 62 #[.agg #[.int .i64 0, .int .i64 a, .int .i64 b, .slice A tb.length c]] w fun e w' => e = .returned (.bool (RightI ⟨0, a, b, tb⟩)) ∧ Below w.heap.size w w' := by
  have HC := Lib.hid hC
  clear hC
  go_enter Tryz.func62, Tryz.ntmps62
  have hB := (Below.refl _ w).alloc (Nat.le_refl _) (.cells #[.int .i64 0, .int .i64 a, .int .i64 b, .slice A tb.length c] 45)
  cases hq : (b == 0) with
  | false =>
    have HR := Lib.hid (show RightI ⟨0, a, b, tb⟩ = false by rw [r0_eq, hq, Bool.false_and] <;> rfl)
    go_wp2_with fail
    go_ret
    exact ⟨by rw [HR.out]; rfl, hB⟩
  | true =>
    cases hl : ((tb.length : Int) == 0) with
    | false =>
      have HR := Lib.hid (show RightI ⟨0, a, b, tb⟩ = false by rw [r0_eq, hq, hl] <;> rfl)
      go_wp2_with fail
      go_ret
      exact ⟨by rw [HR.out]; rfl, hB⟩
    | true =>
      have HR := Lib.hid (show RightI ⟨0, a, b, tb⟩ = true by rw [r0_eq, hq, hl] <;> rfl)
      go_wp2_with fail
      go_ret
      exact ⟨by rw [HR.out]; rfl, hB⟩
set_option maxHeartbeats 4000000 in
set_option maxRecDepth 100000 in
theorem rright_1 (a b : Int) (tb : List (Int × Int)) (A : Option Addr) (c : Nat) (w : World) (hC : kP.C w A tb.length tb) :
    Calls Tryz.prog 62 #[.agg #[.int .i64 1, .int .i64 a, .int .i64 b, .slice A tb.length c]] w fun e w' => e = .returned (.bool (RightI ⟨1, a, b, tb⟩)) ∧ Below w.heap.size w w' := by
  have HC := Lib.hid hC
  clear hC
  go_enter Tryz.func62, Tryz.ntmps62
  go_wp2_with fail
  have ha := (Below.refl _ w).alloc (Nat.le_refl _) (.cells #[.int .i64 1, .int .i64 a, .int .i64 b, .slice A tb.length c] 45)
  refine (rin_calls 0 a 65536 _).mono ?_
  rintro e w2 ⟨rfl, hb2⟩
  have HX2 := Lib.hid ((hb2.block w.heap.size (by simp)).trans (heap_new w (.cells #[.int .i64 1, .int .i64 a, .int .i64 b, .slice A tb.length c] 45)))
  have HB2 := Lib.hid (ha.trans (hb2.mono ha.size))
  clear hb2 ha
  have x0 := cell_in HX2.out 0
  have x1 := cell_in HX2.out 1
  have x2 := cell_in HX2.out 2
  have x3 := cell_in HX2.out 3
  cases hd : decide ((0 : Int) ≤ a ∧ a ≤ 65536) with
  | false =>
    have HR := Lib.hid (show RightI ⟨1, a, b, tb⟩ = false by rw [r1_eq, hd, Bool.false_and] <;> rfl)
    go_wp2_with fail
    go_ret
    exact ⟨by rw [HR.out]; rfl, HB2.out⟩
  | true =>
    cases hq : (b == 0) with
    | false =>
      have HR := Lib.hid (show RightI ⟨1, a, b, tb⟩ = false by rw [r1_eq, hd, hq, Bool.true_and, Bool.false_and] <;> rfl)
      go_wp2_with fail
      go_ret
      exact ⟨by rw [HR.out]; rfl, HB2.out⟩
    | true =>
      cases hl : ((tb.length : Int) == 0) with
      | false =>
        have HR := Lib.hid (show RightI ⟨1, a, b, tb⟩ = false by rw [r1_eq, hd, hq, hl] <;> rfl)
        go_wp2_with fail
        go_ret
        exact ⟨by rw [HR.out]; rfl, HB2.out⟩
      | true =>
        have HR := Lib.hid (show RightI ⟨1, a, b, tb⟩ = true by rw [r1_eq, hd, hq, hl] <;> rfl)
        go_wp2_with fail
        go_ret
        exact ⟨by rw [HR.out]; rfl, HB2.out⟩
set_option maxHeartbeats 4000000 in
set_option maxRecDepth 100000 in
theorem rright_2 (a b : Int) (tb : List (Int × Int)) (A : Option Addr) (c : Nat) (w : World) (hC : kP.C w A tb.length tb) :
    Calls Tryz.prog 62 #[.agg #[.int .i64 2, .int .i64 a, .int .i64 b, .slice A tb.length c]] w fun e w' => e = .returned (.bool (RightI ⟨2, a, b, tb⟩)) ∧ Below w.heap.size w w' := by
  have HC := Lib.hid hC
  clear hC
  go_enter Tryz.func62, Tryz.ntmps62
  go_wp2_with fail
  have ha := (Below.refl _ w).alloc (Nat.le_refl _) (.cells #[.int .i64 2, .int .i64 a, .int .i64 b, .slice A tb.length c] 45)
  refine (rin_calls 0 a 65536 _).mono ?_
  rintro e w2 ⟨rfl, hb2⟩
  have HX2 := Lib.hid ((hb2.block w.heap.size (by simp)).trans (heap_new w (.cells #[.int .i64 2, .int .i64 a, .int .i64 b, .slice A tb.length c] 45)))
  have HB2 := Lib.hid (ha.trans (hb2.mono ha.size))
  clear hb2 ha
  have x0 := cell_in HX2.out 0
  have x1 := cell_in HX2.out 1
  have x2 := cell_in HX2.out 2
  have x3 := cell_in HX2.out 3
  cases hd : decide ((0 : Int) ≤ a ∧ a ≤ 65536) with
  | false =>
    have HR := Lib.hid (show RightI ⟨2, a, b, tb⟩ = false by rw [r2_eq, hd, Bool.false_and] <;> rfl)
    go_wp2_with fail
    go_ret
    exact ⟨by rw [HR.out]; rfl, HB2.out⟩
  | true =>
    cases hq : (b == 0) with
    | false =>
      have HR := Lib.hid (show RightI ⟨2, a, b, tb⟩ = false by rw [r2_eq, hd, hq, Bool.true_and, Bool.false_and] <;> rfl)
      go_wp2_with fail
      go_ret
      exact ⟨by rw [HR.out]; rfl, HB2.out⟩
    | true =>
      cases hl : ((tb.length : Int) == 0) with
      | false =>
        have HR := Lib.hid (show RightI ⟨2, a, b, tb⟩ = false by rw [r2_eq, hd, hq, hl] <;> rfl)
        go_wp2_with fail
        go_ret
        exact ⟨by rw [HR.out]; rfl, HB2.out⟩
      | true =>
        have HR := Lib.hid (show RightI ⟨2, a, b, tb⟩ = true by rw [r2_eq, hd, hq, hl] <;> rfl)
        go_wp2_with fail
        go_ret
        exact ⟨by rw [HR.out]; rfl, HB2.out⟩
set_option maxHeartbeats 4000000 in
set_option maxRecDepth 100000 in
theorem rright_3 (a b : Int) (tb : List (Int × Int)) (A : Option Addr) (c : Nat) (w : World) (hC : kP.C w A tb.length tb) :
    Calls Tryz.prog 62 #[.agg #[.int .i64 3, .int .i64 a, .int .i64 b, .slice A tb.length c]] w fun e w' => e = .returned (.bool (RightI ⟨3, a, b, tb⟩)) ∧ Below w.heap.size w w' := by
  have HC := Lib.hid hC
  clear hC
  go_enter Tryz.func62, Tryz.ntmps62
  have hB := (Below.refl _ w).alloc (Nat.le_refl _) (.cells #[.int .i64 3, .int .i64 a, .int .i64 b, .slice A tb.length c] 45)
  cases hp : (a == 0) with
  | false =>
    have HR := Lib.hid (show RightI ⟨3, a, b, tb⟩ = false by rw [r3_eq, hp, Bool.false_and] <;> rfl)
    go_wp2_with fail
    go_ret
    exact ⟨by rw [HR.out]; rfl, hB⟩
  | true =>
    cases hq : (b == 0) with
    | false =>
      have HR := Lib.hid (show RightI ⟨3, a, b, tb⟩ = false by rw [r3_eq, hp, hq, Bool.true_and, Bool.false_and] <;> rfl)
      go_wp2_with fail
      go_ret
      exact ⟨by rw [HR.out]; rfl, hB⟩
    | true =>
      cases hl : ((tb.length : Int) == 0) with
      | false =>
        have HR := Lib.hid (show RightI ⟨3, a, b, tb⟩ = false by rw [r3_eq, hp, hq, hl] <;> rfl)
        go_wp2_with fail
        go_ret
        exact ⟨by rw [HR.out]; rfl, hB⟩
      | true =>
        have HR := Lib.hid (show RightI ⟨3, a, b, tb⟩ = true by rw [r3_eq, hp, hq, hl] <;> rfl)
        go_wp2_with fail
        go_ret
        exact ⟨by rw [HR.out]; rfl, hB⟩
set_option maxHeartbeats 4000000 in
set_option maxRecDepth 100000 in
theorem rright_4 (a b : Int) (tb : List (Int × Int)) (A : Option Addr) (c : Nat) (w : World) (hC : kP.C w A tb.length tb) :
    Calls Tryz.prog 62 #[.agg #[.int .i64 4, .int .i64 a, .int .i64 b, .slice A tb.length c]] w fun e w' => e = .returned (.bool (RightI ⟨4, a, b, tb⟩)) ∧ Below w.heap.size w w' := by
  have HC := Lib.hid hC
  clear hC
  go_enter Tryz.func62, Tryz.ntmps62
  go_wp2_with fail
  have ha := (Below.refl _ w).alloc (Nat.le_refl _) (.cells #[.int .i64 4, .int .i64 a, .int .i64 b, .slice A tb.length c] 45)
  refine (rin_calls 0 a 65536 _).mono ?_
  rintro e w2 ⟨rfl, hb2⟩
  have HX2 := Lib.hid ((hb2.block w.heap.size (by simp)).trans (heap_new w (.cells #[.int .i64 4, .int .i64 a, .int .i64 b, .slice A tb.length c] 45)))
  have HB2 := Lib.hid (ha.trans (hb2.mono ha.size))
  clear hb2 ha
  have x0 := cell_in HX2.out 0
  have x1 := cell_in HX2.out 1
  have x2 := cell_in HX2.out 2
  have x3 := cell_in HX2.out 3
  cases hd : decide ((0 : Int) ≤ a ∧ a ≤ 65536) with
  | false =>
    have HR := Lib.hid (show RightI ⟨4, a, b, tb⟩ = false by rw [r4_eq, hd, Bool.false_and] <;> rfl)
    go_wp2_with fail
    go_ret
    exact ⟨by rw [HR.out]; rfl, HB2.out⟩
  | true =>
    cases hq : (b == 0) with
    | false =>
      have HR := Lib.hid (show RightI ⟨4, a, b, tb⟩ = false by rw [r4_eq, hd, hq, Bool.true_and, Bool.false_and] <;> rfl)
      go_wp2_with fail
      go_ret
      exact ⟨by rw [HR.out]; rfl, HB2.out⟩
    | true =>
      cases hl : ((tb.length : Int) == 0) with
      | false =>
        have HR := Lib.hid (show RightI ⟨4, a, b, tb⟩ = false by rw [r4_eq, hd, hq, hl] <;> rfl)
        go_wp2_with fail
        go_ret
        exact ⟨by rw [HR.out]; rfl, HB2.out⟩
      | true =>
        have HR := Lib.hid (show RightI ⟨4, a, b, tb⟩ = true by rw [r4_eq, hd, hq, hl] <;> rfl)
        go_wp2_with fail
        go_ret
        exact ⟨by rw [HR.out]; rfl, HB2.out⟩
set_option maxHeartbeats 4000000 in
set_option maxRecDepth 100000 in
theorem rright_5 (a b : Int) (tb : List (Int × Int)) (A : Option Addr) (c : Nat) (w : World) (hC : kP.C w A tb.length tb) :
    Calls Tryz.prog 62 #[.agg #[.int .i64 5, .int .i64 a, .int .i64 b, .slice A tb.length c]] w fun e w' => e = .returned (.bool (RightI ⟨5, a, b, tb⟩)) ∧ Below w.heap.size w w' := by
  have HC := Lib.hid hC
  clear hC
  go_enter Tryz.func62, Tryz.ntmps62
  go_wp2_with fail
  have ha := (Below.refl _ w).alloc (Nat.le_refl _) (.cells #[.int .i64 5, .int .i64 a, .int .i64 b, .slice A tb.length c] 45)
  refine (rin_calls 0 a 65536 _).mono ?_
  rintro e w2 ⟨rfl, hb2⟩
  have HX2 := Lib.hid ((hb2.block w.heap.size (by simp)).trans (heap_new w (.cells #[.int .i64 5, .int .i64 a, .int .i64 b, .slice A tb.length c] 45)))
  have HB2 := Lib.hid (ha.trans (hb2.mono ha.size))
  clear hb2 ha
  have x0 := cell_in HX2.out 0
  have x1 := cell_in HX2.out 1
  have x2 := cell_in HX2.out 2
  have x3 := cell_in HX2.out 3
  cases hd : decide ((0 : Int) ≤ a ∧ a ≤ 65536) with
  | false =>
    have HR := Lib.hid (show RightI ⟨5, a, b, tb⟩ = false by rw [r5_eq, hd, Bool.false_and] <;> rfl)
    go_wp2_with fail
    go_ret
    exact ⟨by rw [HR.out]; rfl, HB2.out⟩
  | true =>
    cases hq : (b == 0) with
    | false =>
      have HR := Lib.hid (show RightI ⟨5, a, b, tb⟩ = false by rw [r5_eq, hd, hq, Bool.true_and, Bool.false_and] <;> rfl)
      go_wp2_with fail
      go_ret
      exact ⟨by rw [HR.out]; rfl, HB2.out⟩
    | true =>
      cases hl : ((tb.length : Int) == 0) with
      | false =>
        have HR := Lib.hid (show RightI ⟨5, a, b, tb⟩ = false by rw [r5_eq, hd, hq, hl] <;> rfl)
        go_wp2_with fail
        go_ret
        exact ⟨by rw [HR.out]; rfl, HB2.out⟩
      | true =>
        have HR := Lib.hid (show RightI ⟨5, a, b, tb⟩ = true by rw [r5_eq, hd, hq, hl] <;> rfl)
        go_wp2_with fail
        go_ret
        exact ⟨by rw [HR.out]; rfl, HB2.out⟩
set_option maxHeartbeats 4000000 in
set_option maxRecDepth 100000 in
theorem rright_6 (a b : Int) (tb : List (Int × Int)) (A : Option Addr) (c : Nat) (w : World) (hC : kP.C w A tb.length tb) :
    Calls Tryz.prog 62 #[.agg #[.int .i64 6, .int .i64 a, .int .i64 b, .slice A tb.length c]] w fun e w' => e = .returned (.bool (RightI ⟨6, a, b, tb⟩)) ∧ Below w.heap.size w w' := by
  have HC := Lib.hid hC
  clear hC
  go_enter Tryz.func62, Tryz.ntmps62
  go_wp2_with fail
  have ha := (Below.refl _ w).alloc (Nat.le_refl _) (.cells #[.int .i64 6, .int .i64 a, .int .i64 b, .slice A tb.length c] 45)
  refine (rin_calls 0 a 65536 _).mono ?_
  rintro e w2 ⟨rfl, hb2⟩
  have HX2 := Lib.hid ((hb2.block w.heap.size (by simp)).trans (heap_new w (.cells #[.int .i64 6, .int .i64 a, .int .i64 b, .slice A tb.length c] 45)))
  have HB2 := Lib.hid (ha.trans (hb2.mono ha.size))
  clear hb2 ha
  have x0 := cell_in HX2.out 0
  have x1 := cell_in HX2.out 1
  have x2 := cell_in HX2.out 2
  have x3 := cell_in HX2.out 3
  cases hd : decide ((0 : Int) ≤ a ∧ a ≤ 65536) with
  | false =>
    have HR := Lib.hid (show RightI ⟨6, a, b, tb⟩ = false by rw [r6_eq, hd, Bool.false_and] <;> rfl)
    go_wp2_with fail
    go_ret
    exact ⟨by rw [HR.out]; rfl, HB2.out⟩
  | true =>
    cases hq : (b == 0) with
    | false =>
      have HR := Lib.hid (show RightI ⟨6, a, b, tb⟩ = false by rw [r6_eq, hd, hq, Bool.true_and, Bool.false_and] <;> rfl)
      go_wp2_with fail
      go_ret
      exact ⟨by rw [HR.out]; rfl, HB2.out⟩
    | true =>
      cases hl : ((tb.length : Int) == 0) with
      | false =>
        have HR := Lib.hid (show RightI ⟨6, a, b, tb⟩ = false by rw [r6_eq, hd, hq, hl] <;> rfl)
        go_wp2_with fail
        go_ret
        exact ⟨by rw [HR.out]; rfl, HB2.out⟩
      | true =>
        have HR := Lib.hid (show RightI ⟨6, a, b, tb⟩ = true by rw [r6_eq, hd, hq, hl] <;> rfl)
        go_wp2_with fail
        go_ret
        exact ⟨by rw [HR.out]; rfl, HB2.out⟩
set_option maxHeartbeats 4000000 in
set_option maxRecDepth 100000 in
theorem rright_7 (a b : Int) (tb : List (Int × Int)) (A : Option Addr) (c : Nat) (w : World) (hC : kP.C w A tb.length tb) :
    Calls Tryz.prog 62 #[.agg #[.int .i64 7, .int .i64 a, .int .i64 b, .slice A tb.length c]] w fun e w' => e = .returned (.bool (RightI ⟨7, a, b, tb⟩)) ∧ Below w.heap.size w w' := by
  have HC := Lib.hid hC
  clear hC
  go_enter Tryz.func62, Tryz.ntmps62
  go_wp2_with fail
  have ha := (Below.refl _ w).alloc (Nat.le_refl _) (.cells #[.int .i64 7, .int .i64 a, .int .i64 b, .slice A tb.length c] 45)
  refine (rin_calls 1 a 65536 _).mono ?_
  rintro e w2 ⟨rfl, hb2⟩
  have HX2 := Lib.hid ((hb2.block w.heap.size (by simp)).trans (heap_new w (.cells #[.int .i64 7, .int .i64 a, .int .i64 b, .slice A tb.length c] 45)))
  have HB2 := Lib.hid (ha.trans (hb2.mono ha.size))
  clear hb2 ha
  have x0 := cell_in HX2.out 0
  have x1 := cell_in HX2.out 1
  have x2 := cell_in HX2.out 2
  have x3 := cell_in HX2.out 3
  cases hd : decide ((1 : Int) ≤ a ∧ a ≤ 65536) with
  | false =>
    have HR := Lib.hid (show RightI ⟨7, a, b, tb⟩ = false by rw [r7_eq, hd, Bool.false_and] <;> rfl)
    go_wp2_with fail
    go_ret
    exact ⟨by rw [HR.out]; rfl, HB2.out⟩
  | true =>
    cases hq : (b == 0) with
    | false =>
      have HR := Lib.hid (show RightI ⟨7, a, b, tb⟩ = false by rw [r7_eq, hd, hq, Bool.true_and, Bool.false_and] <;> rfl)
      go_wp2_with fail
      go_ret
      exact ⟨by rw [HR.out]; rfl, HB2.out⟩
    | true =>
      cases hl : ((tb.length : Int) == 0) with
      | false =>
        have HR := Lib.hid (show RightI ⟨7, a, b, tb⟩ = false by rw [r7_eq, hd, hq, hl] <;> rfl)
        go_wp2_with fail
        go_ret
        exact ⟨by rw [HR.out]; rfl, HB2.out⟩
      | true =>
        have HR := Lib.hid (show RightI ⟨7, a, b, tb⟩ = true by rw [r7_eq, hd, hq, hl] <;> rfl)
        go_wp2_with fail
        go_ret
        exact ⟨by rw [HR.out]; rfl, HB2.out⟩
set_option maxHeartbeats 4000000 in
set_option maxRecDepth 100000 in
theorem rright_8 (a b : Int) (tb : List (Int × Int)) (A : Option Addr) (c : Nat) (w : World) (hC : kP.C w A tb.length tb) :
    Calls Tryz.prog 62 #[.agg #[.int .i64 8, .int .i64 a, .int .i64 b, .slice A tb.length c]] w fun e w' => e = .returned (.bool (RightI ⟨8, a, b, tb⟩)) ∧ Below w.heap.size w w' := by
  have HC := Lib.hid hC
  clear hC
  go_enter Tryz.func62, Tryz.ntmps62
  have hB := (Below.refl _ w).alloc (Nat.le_refl _) (.cells #[.int .i64 8, .int .i64 a, .int .i64 b, .slice A tb.length c] 45)
  cases hp : (a == 0) with
  | false =>
    have HR := Lib.hid (show RightI ⟨8, a, b, tb⟩ = false by rw [r8_eq, hp, Bool.false_and] <;> rfl)
    go_wp2_with fail
    go_ret
    exact ⟨by rw [HR.out]; rfl, hB⟩
  | true =>
    cases hq : (b == 0) with
    | false =>
      have HR := Lib.hid (show RightI ⟨8, a, b, tb⟩ = false by rw [r8_eq, hp, hq, Bool.true_and, Bool.false_and] <;> rfl)
      go_wp2_with fail
      go_ret
      exact ⟨by rw [HR.out]; rfl, hB⟩
    | true =>
      cases hl : ((tb.length : Int) == 0) with
      | false =>
        have HR := Lib.hid (show RightI ⟨8, a, b, tb⟩ = false by rw [r8_eq, hp, hq, hl] <;> rfl)
        go_wp2_with fail
        go_ret
        exact ⟨by rw [HR.out]; rfl, hB⟩
      | true =>
        have HR := Lib.hid (show RightI ⟨8, a, b, tb⟩ = true by rw [r8_eq, hp, hq, hl] <;> rfl)
        go_wp2_with fail
        go_ret
        exact ⟨by rw [HR.out]; rfl, hB⟩
set_option maxHeartbeats 4000000 in
set_option maxRecDepth 100000 in
theorem rright_9 (a b : Int) (tb : List (Int × Int)) (A : Option Addr) (c : Nat) (w : World) (hC : kP.C w A tb.length tb) :
    Calls Tryz.prog 62 #[.agg #[.int .i64 9, .int .i64 a, .int .i64 b, .slice A tb.length c]] w fun e w' => e = .returned (.bool (RightI ⟨9, a, b, tb⟩)) ∧ Below w.heap.size w w' := by
  have HC := Lib.hid hC
  clear hC
  go_enter Tryz.func62, Tryz.ntmps62
  have hB := (Below.refl _ w).alloc (Nat.le_refl _) (.cells #[.int .i64 9, .int .i64 a, .int .i64 b, .slice A tb.length c] 45)
  cases hp : (a == 0) with
  | false =>
    have HR := Lib.hid (show RightI ⟨9, a, b, tb⟩ = false by rw [r9_eq, hp, Bool.false_and] <;> rfl)
    go_wp2_with fail
    go_ret
    exact ⟨by rw [HR.out]; rfl, hB⟩
  | true =>
    cases hq : (b == 0) with
    | false =>
      have HR := Lib.hid (show RightI ⟨9, a, b, tb⟩ = false by rw [r9_eq, hp, hq, Bool.true_and, Bool.false_and] <;> rfl)
      go_wp2_with fail
      go_ret
      exact ⟨by rw [HR.out]; rfl, hB⟩
    | true =>
      cases hl : ((tb.length : Int) == 0) with
      | false =>
        have HR := Lib.hid (show RightI ⟨9, a, b, tb⟩ = false by rw [r9_eq, hp, hq, hl] <;> rfl)
        go_wp2_with fail
        go_ret
        exact ⟨by rw [HR.out]; rfl, hB⟩
      | true =>
        have HR := Lib.hid (show RightI ⟨9, a, b, tb⟩ = true by rw [r9_eq, hp, hq, hl] <;> rfl)
        go_wp2_with fail
        go_ret
        exact ⟨by rw [HR.out]; rfl, hB⟩
set_option maxHeartbeats 4000000 in
set_option maxRecDepth 100000 in
theorem rright_10 (a b : Int) (tb : List (Int × Int)) (A : Option Addr) (c : Nat) (w : World) (hC : kP.C w A tb.length tb) :
    Calls Tryz.prog 62 #[.agg #[.int .i64 10, .int .i64 a, .int .i64 b, .slice A tb.length c]] w fun e w' => e = .returned (.bool (RightI ⟨10, a, b, tb⟩)) ∧ Below w.heap.size w w' := by
  have HC := Lib.hid hC
  clear hC
  go_enter Tryz.func62, Tryz.ntmps62
  go_wp2_with fail
  have ha := (Below.refl _ w).alloc (Nat.le_refl _) (.cells #[.int .i64 10, .int .i64 a, .int .i64 b, .slice A tb.length c] 45)
  refine (rin_calls 0 a 255 _).mono ?_
  rintro e w2 ⟨rfl, hb2⟩
  have HX2 := Lib.hid ((hb2.block w.heap.size (by simp)).trans (heap_new w (.cells #[.int .i64 10, .int .i64 a, .int .i64 b, .slice A tb.length c] 45)))
  have HB2 := Lib.hid (ha.trans (hb2.mono ha.size))
  clear hb2 ha
  have x0 := cell_in HX2.out 0
  have x1 := cell_in HX2.out 1
  have x2 := cell_in HX2.out 2
  have x3 := cell_in HX2.out 3
  cases hd : decide ((0 : Int) ≤ a ∧ a ≤ 255) with
  | false =>
    have HR := Lib.hid (show RightI ⟨10, a, b, tb⟩ = false by rw [r10_eq, hd, Bool.false_and] <;> rfl)
    go_wp2_with fail
    go_ret
    exact ⟨by rw [HR.out]; rfl, HB2.out⟩
  | true =>
    go_wp2_with fail
    refine (rin_calls 0 b 255 _).mono ?_
    rintro e w3 ⟨rfl, hb3⟩
    have HX3 := Lib.hid ((hb3.block w.heap.size (Array.getElem?_eq_some_iff.1 HX2.out).1).trans HX2.out)
    have HB3 := Lib.hid (bel2 HB2.out hb3)
    clear hb3 x0 x1 x2 x3
    have x3 := cell_in HX3.out 3
    cases hq : decide ((0 : Int) ≤ b ∧ b ≤ 255) with
    | false =>
      have HR := Lib.hid (show RightI ⟨10, a, b, tb⟩ = false by rw [r10_eq, hd, hq, Bool.true_and, Bool.false_and] <;> rfl)
      go_wp2_with fail
      go_ret
      exact ⟨by rw [HR.out]; rfl, HB3.out⟩
    | true =>
      cases hl : ((tb.length : Int) == 0) with
      | false =>
        have HR := Lib.hid (show RightI ⟨10, a, b, tb⟩ = false by rw [r10_eq, hd, hq, hl] <;> rfl)
        go_wp2_with fail
        go_ret
        exact ⟨by rw [HR.out]; rfl, HB3.out⟩
      | true =>
        have HR := Lib.hid (show RightI ⟨10, a, b, tb⟩ = true by rw [r10_eq, hd, hq, hl] <;> rfl)
        go_wp2_with fail
        go_ret
        exact ⟨by rw [HR.out]; rfl, HB3.out⟩
set_option maxHeartbeats 4000000 in
set_option maxRecDepth 100000 in
theorem rright_11 (a b : Int) (tb : List (Int × Int)) (A : Option Addr) (c : Nat) (w : World) (hC : kP.C w A tb.length tb) :
    Calls Tryz.prog 62 #[.agg #[.int .i64 11, .int .i64 a, .int .i64 b, .slice A tb.length c]] w fun e w' => e = .returned (.bool (RightI ⟨11, a, b, tb⟩)) ∧ Below w.heap.size w w' := by
  have HC := Lib.hid hC
  clear hC
  go_enter Tryz.func62, Tryz.ntmps62
  have hB := (Below.refl _ w).alloc (Nat.le_refl _) (.cells #[.int .i64 11, .int .i64 a, .int .i64 b, .slice A tb.length c] 45)
  cases hp : (a == 0) with
  | false =>
    have HR := Lib.hid (show RightI ⟨11, a, b, tb⟩ = false by rw [r11_eq, hp, Bool.false_and] <;> rfl)
    go_wp2_with fail
    go_ret
    exact ⟨by rw [HR.out]; rfl, hB⟩
  | true =>
    cases hq : (b == 0) with
    | false =>
      have HR := Lib.hid (show RightI ⟨11, a, b, tb⟩ = false by rw [r11_eq, hp, hq, Bool.true_and, Bool.false_and] <;> rfl)
      go_wp2_with fail
      go_ret
      exact ⟨by rw [HR.out]; rfl, hB⟩
    | true =>
      go_wp2_with fail
      have ha := (Below.refl _ w).alloc (Nat.le_refl _) (.cells #[.int .i64 11, .int .i64 a, .int .i64 b, .slice A tb.length c] 45)
      refine (rtable_true tb A c _ (Kd.C_below HC.out ha)).mono ?_
      rintro e w2 ⟨rfl, hb2⟩
      have HX2 := Lib.hid ((hb2.block w.heap.size (by simp)).trans (heap_new w (.cells #[.int .i64 11, .int .i64 a, .int .i64 b, .slice A tb.length c] 45)))
      have HB2 := Lib.hid (ha.trans (hb2.mono ha.size))
      clear hb2 ha
      have x0 := cell_in HX2.out 0
      have x1 := cell_in HX2.out 1
      have x2 := cell_in HX2.out 2
      have x3 := cell_in HX2.out 3
      have HR := Lib.hid (show RightI ⟨11, a, b, tb⟩ = rtab true tb by rw [r11_eq, hp, hq] <;> rfl)
      go_wp2_with fail
      go_ret
      exact ⟨by rw [HR.out]; simp, HB2.out⟩
set_option maxHeartbeats 4000000 in
set_option maxRecDepth 100000 in
theorem rright_12 (a b : Int) (tb : List (Int × Int)) (A : Option Addr) (c : Nat) (w : World) (hC : kP.C w A tb.length tb) :
    Calls Tryz.prog 62 #[.agg #[.int .i64 12, .int .i64 a, .int .i64 b, .slice A tb.length c]] w fun e w' => e = .returned (.bool (RightI ⟨12, a, b, tb⟩)) ∧ Below w.heap.size w w' := by
  have HC := Lib.hid hC
  clear hC
  go_enter Tryz.func62, Tryz.ntmps62
  go_wp2_with fail
  have ha := (Below.refl _ w).alloc (Nat.le_refl _) (.cells #[.int .i64 12, .int .i64 a, .int .i64 b, .slice A tb.length c] 45)
  refine (rin_calls 0 a 65536 _).mono ?_
  rintro e w2 ⟨rfl, hb2⟩
  have HX2 := Lib.hid ((hb2.block w.heap.size (by simp)).trans (heap_new w (.cells #[.int .i64 12, .int .i64 a, .int .i64 b, .slice A tb.length c] 45)))
  have HB2 := Lib.hid (ha.trans (hb2.mono ha.size))
  clear hb2 ha
  have x0 := cell_in HX2.out 0
  have x1 := cell_in HX2.out 1
  have x2 := cell_in HX2.out 2
  have x3 := cell_in HX2.out 3
  cases hd : decide ((0 : Int) ≤ a ∧ a ≤ 65536) with
  | false =>
    have HR := Lib.hid (show RightI ⟨12, a, b, tb⟩ = false by rw [r12_eq, hd, Bool.false_and] <;> rfl)
    go_wp2_with fail
    go_ret
    exact ⟨by rw [HR.out]; rfl, HB2.out⟩
  | true =>
    cases hq : (b == 0) with
    | false =>
      have HR := Lib.hid (show RightI ⟨12, a, b, tb⟩ = false by rw [r12_eq, hd, hq, Bool.true_and, Bool.false_and] <;> rfl)
      go_wp2_with fail
      go_ret
      exact ⟨by rw [HR.out]; rfl, HB2.out⟩
    | true =>
      cases hl : ((tb.length : Int) == 0) with
      | false =>
        have HR := Lib.hid (show RightI ⟨12, a, b, tb⟩ = false by rw [r12_eq, hd, hq, hl] <;> rfl)
        go_wp2_with fail
        go_ret
        exact ⟨by rw [HR.out]; rfl, HB2.out⟩
      | true =>
        have HR := Lib.hid (show RightI ⟨12, a, b, tb⟩ = true by rw [r12_eq, hd, hq, hl] <;> rfl)
        go_wp2_with fail
        go_ret
        exact ⟨by rw [HR.out]; rfl, HB2.out⟩
set_option maxHeartbeats 4000000 in
set_option maxRecDepth 100000 in
theorem rright_13 (a b : Int) (tb : List (Int × Int)) (A : Option Addr) (c : Nat) (w : World) (hC : kP.C w A tb.length tb) :
    Calls Tryz.prog 62 #[.agg #[.int .i64 13, .int .i64 a, .int .i64 b, .slice A tb.length c]] w fun e w' => e = .returned (.bool (RightI ⟨13, a, b, tb⟩)) ∧ Below w.heap.size w w' := by
  have HC := Lib.hid hC
  clear hC
  go_enter Tryz.func62, Tryz.ntmps62
  have hB := (Below.refl _ w).alloc (Nat.le_refl _) (.cells #[.int .i64 13, .int .i64 a, .int .i64 b, .slice A tb.length c] 45)
  cases hp : (a == 0) with
  | false =>
    have HR := Lib.hid (show RightI ⟨13, a, b, tb⟩ = false by rw [r13_eq, hp, Bool.false_and] <;> rfl)
    go_wp2_with fail
    go_ret
    exact ⟨by rw [HR.out]; rfl, hB⟩
  | true =>
    cases hq : (b == 0) with
    | false =>
      have HR := Lib.hid (show RightI ⟨13, a, b, tb⟩ = false by rw [r13_eq, hp, hq, Bool.true_and, Bool.false_and] <;> rfl)
      go_wp2_with fail
      go_ret
      exact ⟨by rw [HR.out]; rfl, hB⟩
    | true =>
      go_wp2_with fail
      have ha := (Below.refl _ w).alloc (Nat.le_refl _) (.cells #[.int .i64 13, .int .i64 a, .int .i64 b, .slice A tb.length c] 45)
      refine (rtable_false tb A c _ (Kd.C_below HC.out ha)).mono ?_
      rintro e w2 ⟨rfl, hb2⟩
      have HX2 := Lib.hid ((hb2.block w.heap.size (by simp)).trans (heap_new w (.cells #[.int .i64 13, .int .i64 a, .int .i64 b, .slice A tb.length c] 45)))
      have HB2 := Lib.hid (ha.trans (hb2.mono ha.size))
      clear hb2 ha
      have x0 := cell_in HX2.out 0
      have x1 := cell_in HX2.out 1
      have x2 := cell_in HX2.out 2
      have x3 := cell_in HX2.out 3
      have HR := Lib.hid (show RightI ⟨13, a, b, tb⟩ = rtab false tb by rw [r13_eq, hp, hq] <;> rfl)
      go_wp2_with fail
      go_ret
      exact ⟨by rw [HR.out]; simp, HB2.out⟩
set_option maxHeartbeats 4000000 in
set_option maxRecDepth 100000 in
theorem rright_14 (a b : Int) (tb : List (Int × Int)) (A : Option Addr) (c : Nat) (w : World) (hC : kP.C w A tb.length tb) :
    Calls Tryz.prog 62 #[.agg #[.int .i64 14, .int .i64 a, .int .i64 b, .slice A tb.length c]] w fun e w' => e = .returned (.bool (RightI ⟨14, a, b, tb⟩)) ∧ Below w.heap.size w w' := by
  have HC := Lib.hid hC
  clear hC
  go_enter Tryz.func62, Tryz.ntmps62
  go_wp2_with fail
  have ha := (Below.refl _ w).alloc (Nat.le_refl _) (.cells #[.int .i64 14, .int .i64 a, .int .i64 b, .slice A tb.length c] 45)
  refine (rin_calls 0 a 10 _).mono ?_
  rintro e w2 ⟨rfl, hb2⟩
  have HX2 := Lib.hid ((hb2.block w.heap.size (by simp)).trans (heap_new w (.cells #[.int .i64 14, .int .i64 a, .int .i64 b, .slice A tb.length c] 45)))
  have HB2 := Lib.hid (ha.trans (hb2.mono ha.size))
  clear hb2 ha
  have x0 := cell_in HX2.out 0
  have x1 := cell_in HX2.out 1
  have x2 := cell_in HX2.out 2
  have x3 := cell_in HX2.out 3
  cases hd : decide ((0 : Int) ≤ a ∧ a ≤ 10) with
  | false =>
    have HR := Lib.hid (show RightI ⟨14, a, b, tb⟩ = false by rw [r14_eq, hd, Bool.false_and] <;> rfl)
    go_wp2_with fail
    go_ret
    exact ⟨by rw [HR.out]; rfl, HB2.out⟩
  | true =>
    cases hq : (b == 0) with
    | false =>
      have HR := Lib.hid (show RightI ⟨14, a, b, tb⟩ = false by rw [r14_eq, hd, hq, Bool.true_and, Bool.false_and] <;> rfl)
      go_wp2_with fail
      go_ret
      exact ⟨by rw [HR.out]; rfl, HB2.out⟩
    | true =>
      cases hl : ((tb.length : Int) == 0) with
      | false =>
        have HR := Lib.hid (show RightI ⟨14, a, b, tb⟩ = false by rw [r14_eq, hd, hq, hl] <;> rfl)
        go_wp2_with fail
        go_ret
        exact ⟨by rw [HR.out]; rfl, HB2.out⟩
      | true =>
        have HR := Lib.hid (show RightI ⟨14, a, b, tb⟩ = true by rw [r14_eq, hd, hq, hl] <;> rfl)
        go_wp2_with fail
        go_ret
        exact ⟨by rw [HR.out]; rfl, HB2.out⟩
set_option maxHeartbeats 4000000 in
set_option maxRecDepth 100000 in
theorem rright_15 (a b : Int) (tb : List (Int × Int)) (A : Option Addr) (c : Nat) (w : World) (hC : kP.C w A tb.length tb) :
    Calls Tryz.prog 62 #[.agg #[.int .i64 15, .int .i64 a, .int .i64 b, .slice A tb.length c]] w fun e w' => e = .returned (.bool (RightI ⟨15, a, b, tb⟩)) ∧ Below w.heap.size w w' := by
  have HC := Lib.hid hC
  clear hC
  go_enter Tryz.func62, Tryz.ntmps62
  have hB := (Below.refl _ w).alloc (Nat.le_refl _) (.cells #[.int .i64 15, .int .i64 a, .int .i64 b, .slice A tb.length c] 45)
  cases hp : (a == 0) with
  | false =>
    have HR := Lib.hid (show RightI ⟨15, a, b, tb⟩ = false by rw [r15_eq, hp, Bool.false_and] <;> rfl)
    go_wp2_with fail
    go_ret
    exact ⟨by rw [HR.out]; rfl, hB⟩
  | true =>
    cases hq : (b == 0) with
    | false =>
      have HR := Lib.hid (show RightI ⟨15, a, b, tb⟩ = false by rw [r15_eq, hp, hq, Bool.true_and, Bool.false_and] <;> rfl)
      go_wp2_with fail
      go_ret
      exact ⟨by rw [HR.out]; rfl, hB⟩
    | true =>
      cases hl : ((tb.length : Int) == 0) with
      | false =>
        have HR := Lib.hid (show RightI ⟨15, a, b, tb⟩ = false by rw [r15_eq, hp, hq, hl] <;> rfl)
        go_wp2_with fail
        go_ret
        exact ⟨by rw [HR.out]; rfl, hB⟩
      | true =>
        have HR := Lib.hid (show RightI ⟨15, a, b, tb⟩ = true by rw [r15_eq, hp, hq, hl] <;> rfl)
        go_wp2_with fail
        go_ret
        exact ⟨by rw [HR.out]; rfl, hB⟩
set_option maxHeartbeats 4000000 in
set_option maxRecDepth 100000 in
theorem rright_16 (a b : Int) (tb : List (Int × Int)) (A : Option Addr) (c : Nat) (w : World) (hC : kP.C w A tb.length tb) :
    Calls Tryz.prog 62 #[.agg #[.int .i64 16, .int .i64 a, .int .i64 b, .slice A tb.length c]] w fun e w' => e = .returned (.bool (RightI ⟨16, a, b, tb⟩)) ∧ Below w.heap.size w w' := by
  have HC := Lib.hid hC
  clear hC
  go_enter Tryz.func62, Tryz.ntmps62
  go_wp2_with fail
  have ha := (Below.refl _ w).alloc (Nat.le_refl _) (.cells #[.int .i64 16, .int .i64 a, .int .i64 b, .slice A tb.length c] 45)
  refine (rin_calls 0 a 65536 _).mono ?_
  rintro e w2 ⟨rfl, hb2⟩
  have HX2 := Lib.hid ((hb2.block w.heap.size (by simp)).trans (heap_new w (.cells #[.int .i64 16, .int .i64 a, .int .i64 b, .slice A tb.length c] 45)))
  have HB2 := Lib.hid (ha.trans (hb2.mono ha.size))
  clear hb2 ha
  have x0 := cell_in HX2.out 0
  have x1 := cell_in HX2.out 1
  have x2 := cell_in HX2.out 2
  have x3 := cell_in HX2.out 3
  cases hd : decide ((0 : Int) ≤ a ∧ a ≤ 65536) with
  | false =>
    have HR := Lib.hid (show RightI ⟨16, a, b, tb⟩ = false by rw [r16_eq, hd, Bool.false_and] <;> rfl)
    go_wp2_with fail
    go_ret
    exact ⟨by rw [HR.out]; rfl, HB2.out⟩
  | true =>
    cases hq : (b == 0) with
    | false =>
      have HR := Lib.hid (show RightI ⟨16, a, b, tb⟩ = false by rw [r16_eq, hd, hq, Bool.true_and, Bool.false_and] <;> rfl)
      go_wp2_with fail
      go_ret
      exact ⟨by rw [HR.out]; rfl, HB2.out⟩
    | true =>
      cases hl : ((tb.length : Int) == 0) with
      | false =>
        have HR := Lib.hid (show RightI ⟨16, a, b, tb⟩ = false by rw [r16_eq, hd, hq, hl] <;> rfl)
        go_wp2_with fail
        go_ret
        exact ⟨by rw [HR.out]; rfl, HB2.out⟩
      | true =>
        have HR := Lib.hid (show RightI ⟨16, a, b, tb⟩ = true by rw [r16_eq, hd, hq, hl] <;> rfl)
        go_wp2_with fail
        go_ret
        exact ⟨by rw [HR.out]; rfl, HB2.out⟩
set_option maxHeartbeats 4000000 in
set_option maxRecDepth 100000 in
theorem rright_no (op a b : Int) (tb : List (Int × Int)) (A : Option Addr) (c : Nat) (w : World) (h : ¬ (0 ≤ op ∧ op < 17)) :
    Calls Tryz.prog 62 #[.agg #[.int .i64 op, .int .i64 a, .int .i64 b, .slice A tb.length c]] w fun e w' => e = .returned (.bool (RightI ⟨op, a, b, tb⟩)) ∧ Below w.heap.size w w' := by
  have HR := Lib.hid (show RightI ⟨op, a, b, tb⟩ = false from if_neg h)
  have hB := (Below.refl _ w).alloc (Nat.le_refl _) (.cells #[.int .i64 op, .int .i64 a, .int .i64 b, .slice A tb.length c] 45)
  have o0 : (op == 0) = false := beq_eq_false_iff_ne.2 (by omega)
  have o1 : (op == 1) = false := beq_eq_false_iff_ne.2 (by omega)
  have o2 : (op == 2) = false := beq_eq_false_iff_ne.2 (by omega)
  have o3 : (op == 3) = false := beq_eq_false_iff_ne.2 (by omega)
  have o4 : (op == 4) = false := beq_eq_false_iff_ne.2 (by omega)
  have o5 : (op == 5) = false := beq_eq_false_iff_ne.2 (by omega)
  have o6 : (op == 6) = false := beq_eq_false_iff_ne.2 (by omega)
  have o7 : (op == 7) = false := beq_eq_false_iff_ne.2 (by omega)
  have o8 : (op == 8) = false := beq_eq_false_iff_ne.2 (by omega)
  have o9 : (op == 9) = false := beq_eq_false_iff_ne.2 (by omega)
  have o10 : (op == 10) = false := beq_eq_false_iff_ne.2 (by omega)
  have o11 : (op == 11) = false := beq_eq_false_iff_ne.2 (by omega)
  have o12 : (op == 12) = false := beq_eq_false_iff_ne.2 (by omega)
  have o13 : (op == 13) = false := beq_eq_false_iff_ne.2 (by omega)
  have o14 : (op == 14) = false := beq_eq_false_iff_ne.2 (by omega)
  have o15 : (op == 15) = false := beq_eq_false_iff_ne.2 (by omega)
  have o16 : (op == 16) = false := beq_eq_false_iff_ne.2 (by omega)
  clear h
  go_enter Tryz.func62, Tryz.ntmps62
  go_wp2_with fail
  go_ret
  exact ⟨by rw [HR.out]; rfl, hB⟩
/-- The reference's Right is the program's. -/
theorem rright_calls (x : Ins) (A : Option Addr) (c : Nat) (w : World) (hC : kP.C w A x.tb.length x.tb) :
    Calls Tryz.prog 62 #[.agg #[.int .i64 x.op, .int .i64 x.a, .int .i64 x.b, .slice A x.tb.length c]] w fun e w' => e = .returned (.bool (RightI x)) ∧ Below w.heap.size w w' := by
  obtain ⟨op, a, b, tb⟩ := x
  by_cases h : 0 ≤ op ∧ op < 17
  · have h17 : op = 0 ∨ op = 1 ∨ op = 2 ∨ op = 3 ∨ op = 4 ∨ op = 5 ∨ op = 6 ∨ op = 7 ∨ op = 8 ∨ op = 9 ∨ op = 10 ∨ op = 11 ∨ op = 12 ∨ op = 13 ∨ op = 14 ∨ op = 15 ∨ op = 16 := by omega
    rcases h17 with rfl | rfl | rfl | rfl | rfl | rfl | rfl | rfl | rfl | rfl | rfl | rfl | rfl | rfl | rfl | rfl | rfl
    · exact rright_0 a b tb A c w hC
    · exact rright_1 a b tb A c w hC
    · exact rright_2 a b tb A c w hC
    · exact rright_3 a b tb A c w hC
    · exact rright_4 a b tb A c w hC
    · exact rright_5 a b tb A c w hC
    · exact rright_6 a b tb A c w hC
    · exact rright_7 a b tb A c w hC
    · exact rright_8 a b tb A c w hC
    · exact rright_9 a b tb A c w hC
    · exact rright_10 a b tb A c w hC
    · exact rright_11 a b tb A c w hC
    · exact rright_12 a b tb A c w hC
    · exact rright_13 a b tb A c w hC
    · exact rright_14 a b tb A c w hC
    · exact rright_15 a b tb A c w hC
    · exact rright_16 a b tb A c w hC
  · exact rright_no op a b tb A c w h
end Go.Proofs.YtcmhibcoccdmaaaGreatDoor.P
