/- InstrBack: the walk. -/
import Derived.Test.YtcmhibcoccdmaaaGreatDoorInV
import Derived.Test.YtcmhibcoccdmaaaGreatDoorPlJ
import Derived.Deep.DeepCutAuto
namespace Go.Proofs.YtcmhibcoccdmaaaGreatDoor.P
open Go.RowKit Go.Shelf Go.Proofs.YtcmhibcoccdmaaaGreatDoorW.PrintWords Go.Proofs.YtcmhibcoccdmaaaGreatDoorW.PrintLast Go.Proofs.YtcmhibcoccdmaaaGreatDoor.Rw
set_option linter.unusedVariables false
set_option linter.unusedSimpArgs false
theorem words_len2 (x : Ins) (hx : InsOK x) (hR : RightI x = true) : (Lib.join ((wordsI x).map (·.data.toList)) [32]).length ≤ (3 + x.tb.length) * 44 := by
  have hop := right_op hR
  have hw : (fmAt x.op.toNat).word.size ≤ 7 := word_len ⟨x.op.toNat, by omega⟩
  have h := join_le ((wordsI x).map (·.data.toList)) 43 (fun s hs => by
    obtain ⟨b, hb, rfl⟩ := List.mem_map.1 hs
    unfold wordsI at hb
    rcases List.mem_cons.1 hb with rfl | hb
    · show (fmAt x.op.toNat).word.data.toList.length ≤ 43
      rw [Array.length_toList]
      exact Nat.le_trans hw (by omega)
    · rcases List.mem_append.1 hb with hb | hb
      · obtain ⟨n, hn, rfl⟩ := List.mem_map.1 hb
        have hm : n ∈ [x.a, x.b] := List.mem_of_mem_take hn
        have hi : i64 n := by
          rcases List.mem_cons.1 hm with rfl | hm
          · exact hx.a
          · rw [List.mem_singleton.1 hm]; exact hx.b
        have := itoaB_len n hi
        show (itoaB n).data.toList.length ≤ 43
        rw [Array.length_toList]
        exact Nat.le_trans this (by omega)
      · obtain ⟨p, hp, rfl⟩ := List.mem_map.1 hb
        have h1 := tagL_len p.1 (hx.tb p hp).1
        have h2 := Lib.itoa_length_le p.2 (hx.tb p hp).2.1 (hx.tb p hp).2.2
        have h3 : (pairT p).data.toList = tagL p.1 ++ [58] ++ Lib.itoa p.2 := by unfold pairT itoaB; simp [ByteArray.data_append]
        rw [h3]
        simp
        omega)
  have h5 : (wordsI x).length ≤ 3 + x.tb.length := by
    unfold wordsI numsI
    simp
    omega
  rw [List.length_map] at h
  have := Nat.mul_le_mul_right 44 h5
  omega
theorem lineL_len (x : Ins) (hx : InsOK x) : (lineL x).length ≤ 133 + 44 * x.tb.length := by
  unfold lineL showI
  split
  · next h =>
    have := words_len2 x hx h
    simp only [List.length_append, List.length_singleton]
    omega
  · simp
    omega
theorem globL_len (g : S52) (h1 : i64 g.f1) (h2 : i64 g.f2) : (globL g).length ≤ 71 + 20 * (g.f0.size / 20) := by
  have e1 := itoaB_len g.f1 h1
  have e2 := itoaB_len g.f2 h2
  have hj : (joinG g).length = 9 + (itoaB g.f1).size + (itoaB g.f2).size + g.f0.size := by
    unfold joinG wordsG
    simp only [List.map_cons, List.map_nil, Lib.join_length, Lib.lens, List.length_cons, List.length_nil, Array.length_toList]
    show _ = 9 + (itoaB g.f1).data.size + (itoaB g.f2).data.size + g.f0.data.size
    simp
    omega
  unfold globL
  rw [List.length_append, hj, List.length_singleton]
  omega
theorem flat_sum {α : Type} (f : α → List UInt8) (m : α → Nat) (a b : Nat) : ∀ l : List α, (∀ x ∈ l, (f x).length ≤ a + b * m x) → (l.flatMap f).length ≤ l.length * a + b * (l.map m).sum
  | [], _ => by simp
  | x :: l, h => by
    have h1 := h x (by simp)
    have h2 := flat_sum f m a b l (fun y hy => h y (List.mem_cons_of_mem _ hy))
    simp only [List.flatMap_cons, List.length_append, List.length_cons, List.map_cons, List.sum_cons, Nat.mul_add, Nat.add_mul, Nat.one_mul] at h2 ⊢
    omega
theorem code_len {gs : List S52} {xs : List Ins} (h : lightB gs xs = true) (hg : ∀ g ∈ gs, i64 g.f1 ∧ i64 g.f2) (hx : ∀ x ∈ xs, InsOK x) : (codeL gs xs).length ≤ 65536 := by
  obtain ⟨h1, h2, h3⟩ := of_decide_eq_true h
  have e1 := flat_sum globL (fun g : S52 => g.f0.size / 20) 71 20 gs (fun g hh => globL_len g (hg g hh).1 (hg g hh).2)
  have e2 := flat_sum lineL (fun x : Ins => x.tb.length) 133 44 xs (fun x hh => lineL_len x (hx x hh))
  unfold codeL
  rw [List.length_append]
  have f1 : (gs.map fun g : S52 => g.f0.size / 20).sum = sg gs := rfl
  have f2 : (xs.map fun x : Ins => x.tb.length).sum = sx xs := rfl
  rw [f1] at e1
  rw [f2] at e2
  omega
theorem print_len {gs : List S52} {xs : List Ins} (h : (codeL gs xs).length ≤ 65536) : (printI gs xs).length ≤ 65536 := by
  unfold printI
  split
  · simp
  · exact h
theorem mem_sx : ∀ (l : List Ins) (x : Ins), x ∈ l → x.tb.length ≤ (l.map fun x : Ins => x.tb.length).sum
  | [], x, h => by cases h
  | y :: l, x, h => by
    rw [List.map_cons, List.sum_cons]
    rcases List.mem_cons.1 h with rfl | h
    · omega
    · have := mem_sx l x h
      omega
theorem light_tb {gs : List S52} {xs : List Ins} (h : lightB gs xs = true) : gs.length ≤ 60 ∧ xs.length ≤ 200 ∧ ∀ x ∈ xs, x.tb.length ≤ 400 := by
  obtain ⟨h1, h2, h3⟩ := of_decide_eq_true h
  refine ⟨h1, h2, fun x hx => ?_⟩
  have : x.tb.length ≤ sx xs := mem_sx xs x hx
  omega
theorem eqAt_refl {α : Type} {e : α → α → Bool} {z : α} (he : ∀ x, e x x = true) (xs : List α) : eqAt e z xs xs = true := eqAt_yes rfl (fun k _ => he _)
theorem eqI_refl (x : Ins) : eqI x x = true := by
  unfold eqI
  rw [eqAt_refl (fun p => by unfold eqPr; simp)]
  simp
theorem same_refl (gs : List S52) (xs : List Ins) : sameC gs gs xs xs = true := by
  unfold sameC
  rw [eqAt_refl (fun g => by unfold eqG; simp), eqAt_refl eqI_refl]
  rfl
/-- What is no code is faulty at a line. -/
theorem parse_bad {l : List UInt8} {m : Nat} (h : parseC l = (none, m)) : 0 < m ∧ m ≤ l.length := by
  have h1 := go_bad (lns l) 0 [] [] m h
  have h2 := lns_len l
  omega
end Go.Proofs.YtcmhibcoccdmaaaGreatDoor.P
namespace Go.Proofs.YtcmhibcoccdmaaaGreatDoor.P
open Go.RowKit Go.Shelf Go.Proofs.YtcmhibcoccdmaaaGreatDoorW.PrintWords Go.Proofs.YtcmhibcoccdmaaaGreatDoorW.PrintLast Go.Proofs.YtcmhibcoccdmaaaGreatDoor.Rw
set_option linter.unusedVariables false
set_option linter.unusedSimpArgs false
/-- The argument lies in a box; nothing of what was there has turned. -/
structure BX (w : World) (a0 a1 : Value) (W : World) : Prop where
  bel : Below w.heap.size w W
  arg : W.heap[w.heap.size]? = some (.cells #[a0, a1] 32 (0, 0))
theorem BX.below {w W W' : World} {a0 a1 : Value} (h : BX w a0 a1 W) (hb : Below W.heap.size W W') : BX w a0 a1 W' :=
  ⟨bel2 h.bel hb, (hb.block _ (lt_heap h.arg)).trans h.arg⟩
theorem BX.alloc {w W : World} {a0 a1 : Value} (h : BX w a0 a1 W) (o : Obj) : BX w a0 a1 (W.alloc o) := h.below ((Below.refl _ _).alloc (Nat.le_refl _) _)
set_option maxHeartbeats 2000000 in
set_option maxRecDepth 100000 in
theorem back_calls (gs : List S52) (xs : List Ins) (Ag Ax : Option Addr) (cg cx : Nat) (s : ByteArray) (w : World) (hcg : gs.length ≤ cg) (hcx : xs.length ≤ cx) (hG : k52.C w Ag gs.length gs) (hX : kI.C w Ax xs.length xs)
    (hg : ∀ g ∈ gs, g.f0.size ≤ 140737488351232 ∧ i64 g.f1 ∧ i64 g.f2) (hx : ∀ x ∈ xs, x.tb.length ≤ 140737488351232 ∧ InsOK x) (hs : s.size ≤ 9223372036854775807) (hT : GT w) :
    Calls Tryz.prog 4 #[.agg #[.slice Ag gs.length cg, .slice Ax xs.length cx], .string s] w fun e w' => e = .returned (.bool true) ∧ Below w.heap.size w w' := by
  have HG := Lib.hid hG; have HX := Lib.hid hX; have HGS := Lib.hid hg; have HXS := Lib.hid hx; have HT := Lib.hid hT; have HCG := Lib.hid hcg; have HCX := Lib.hid hcx
  have HLC := Lib.hid (fun W (hb : Below w.heap.size w W) => light_calls gs xs Ag Ax cg cx W (Kd.C_below hG hb) (Kd.C_below hX hb) (fun g h => (hg g h).1) (fun x h => (hx x h).1))
  have HKN := Lib.hid (fun W (hb : Below w.heap.size w W) => knows_calls W (hT.below hb))
  clear hG hX hg hx hT hcg hcx
  go_enter Tryz.func4, Tryz.ntmps4
  go_upto_region 1 with (fail)
  have hB0 : BX w (.slice Ag gs.length cg) (.slice Ax xs.length cx) (w.alloc (.cells #[.slice Ag gs.length cg, .slice Ax xs.length cx] 32)) := ⟨(Below.refl _ w).alloc (Nat.le_refl _) _, heap_new w _⟩
  generalize w.alloc (.cells #[.slice Ag gs.length cg, .slice Ax xs.length cx] 32) = w1 at hB0 ⊢
  have HB := Lib.hid hB0
  clear hB0
  have a0 := cell_in HB.out.arg 0
  have a1 := cell_in HB.out.arg 1
  go_wp2_with fail
  refine (HLC.out w1 HB.out.bel).mono ?_
  rintro e w2 ⟨rfl, hb2⟩
  have HB2 := Lib.hid (HB.out.below hb2)
  clear hb2 HB a0 a1 HLC
  have a0 := cell_in HB2.out.arg 0
  have a1 := cell_in HB2.out.arg 1
  cases hl : lightB gs xs with
  | false =>
    go_wp2_with fail
    refine (HKN.out w2 HB2.out.bel).mono ?_
    rintro e w3 ⟨rfl, hb3⟩
    have HB3 := Lib.hid (bel2 HB2.out.bel hb3)
    clear hb3
    go_wp2_with fail
    go_ret
    exact ⟨rfl, HB3.out⟩
  | true =>
    by_cases h3 : (3000 : Int) < (s.size : Int)
    · go_wp2_with fail
      refine (HKN.out w2 HB2.out.bel).mono ?_
      rintro e w3 ⟨rfl, hb3⟩
      have HB3 := Lib.hid (bel2 HB2.out.bel hb3)
      clear hb3
      go_wp2_with fail
      go_ret
      exact ⟨rfl, HB3.out⟩
    · obtain ⟨l1, l2, l3⟩ := light_tb hl
      have hcl := code_len hl (fun g h => (HGS.out g h).2) (fun x h => (HXS.out x h).2)
      have HOC := Lib.hid (fun W (hb : Below w.heap.size w W) => own_calls gs xs Ag Ax cg cx W (Kd.C_below HG.out hb) (Kd.C_below HX.out hb) l1 l2 (fun x h => Nat.le_trans (l3 x h) (by omega)))
      have HCL := Lib.hid hcl
      have HL := Lib.hid hl
      have hs3 : s.size ≤ 3000 := by omega
      clear hl l1 l2 l3 hcl
      go_wp2_with fail
      refine (HOC.out w2 HB2.out.bel).mono ?_
      rintro e w3 ⟨Bg, bg, Bx, bx, rfl, hbg, hbx, hCg, hCx, hb3⟩
      have HB3 := Lib.hid (HB2.out.below hb3)
      have HCg := Lib.hid hCg
      have HCx := Lib.hid hCx
      clear hb3 hCg hCx HB2 a0 a1
      go_wp2_with fail
      refine (print_calls gs xs Bg Bx bg bx w3 hbg hbx HCg.out HCx.out (fun x h => (HXS.out x h).2) (HT.out.below HB3.out.bel) (Nat.le_trans HCL.out (by omega))).mono ?_
      rintro e w4 ⟨rfl, hb4⟩
      have HB4 := Lib.hid (HB3.out.below hb4)
      have hpl := print_len HCL.out
      have HPP := Lib.hid (fun h => parse_print (gs := gs) (fun x h => (HXS.out x h).2) h)
      clear hb4 HB3 HCg HCx hbg hbx
      generalize printI gs xs = t at hpl HPP ⊢
      go_upto_if 23 with (fail)
      go_cut [6, 7] from 23 to 37 (fun s6 s7 wx => Hid (BX w (.slice Ag gs.length cg) (.slice Ax xs.length cx) wx))
      case first =>
        cases he : t.isEmpty with
        | true =>
          go_wp2_with fail
          go_meet
          exact HB4
        | false =>
          have htn : t ≠ [] := fun h => by rw [h] at he; cases he
          have hpc := HPP.out htn
          have HPC := Lib.hid hpc
          clear hpc htn he HPP HL
          go_wp2_with fail
          refine (code_calls ⟨t.toArray⟩ (by rw [bsize]; exact hpl) w4 (HT.out.below HB4.out.bel)).mono ?_
          rintro e w5 (⟨m, hp, _⟩ | ⟨gs1, xs1, Cg, kg, Cx, kx, hp, rfl, hkg, hkx, hCg, hCx, hb5⟩)
          · exact absurd (hp.symm.trans HPC.out) (by simp)
          · obtain ⟨rfl, rfl⟩ : gs1 = gs ∧ xs1 = xs := by
              have h := hp.symm.trans HPC.out
              simp at h
              exact h
            have HB5 := Lib.hid (HB4.out.below hb5)
            have HCg := Lib.hid hCg; have HCx := Lib.hid hCx
            clear hCg hCx hb5 hp HPC HB4
            go_upto_region 6 with (fail)
            have HB6 := Lib.hid (HB5.out.alloc (.cells #[.slice Cg gs1.length kg, .slice Cx xs1.length kx] 26))
            have hq := heap_new w5 (.cells #[.slice Cg gs1.length kg, .slice Cx xs1.length kx] 26)
            have HCg6 := Lib.hid (Kd.C_alloc HCg.out (.cells #[.slice Cg gs1.length kg, .slice Cx xs1.length kx] 26))
            have HCx6 := Lib.hid (Kd.C_alloc HCx.out (.cells #[.slice Cg gs1.length kg, .slice Cx xs1.length kx] 26))
            clear HCg HCx HB5
            generalize w5.alloc (.cells #[.slice Cg gs1.length kg, .slice Cx xs1.length kx] 26) = w6 at HB6 hq HCg6 HCx6 ⊢
            generalize w5.heap.size = q at hq ⊢
            have HQ := Lib.hid hq
            clear hq
            have a0 := cell_in HB6.out.arg 0
            have a1 := cell_in HB6.out.arg 1
            have b0 := cell_in HQ.out 0
            have b1 := cell_in HQ.out 1
            have hsame := same_refl gs1 xs1
            have HSM := Lib.hid hsame
            clear hsame
            have hafter : ∀ w7, Below w6.heap.size w6 w7 → BX w (.slice Ag gs1.length cg) (.slice Ax xs1.length cx) w7 ∧ w7.heap[q]? = some (.cells #[.slice Cg gs1.length kg, .slice Cx xs1.length kx] 26 (0, 0)) ∧ k52.C w7 Cg gs1.length gs1 ∧ kI.C w7 Cx xs1.length xs1 := fun w7 hb => ⟨HB6.out.below hb, (hb.block _ (lt_heap HQ.out)).trans HQ.out, Kd.C_below HCg6.out hb, Kd.C_below HCx6.out hb⟩
            have HAF := Lib.hid hafter
            clear hafter
            refine wp_calm ?_
            go_region_with (first
              | (go_at_call 13; refine (HOC.out _ (HAF.out w6.drew ((Below.refl _ w6).drew)).1.bel).mono ?_; rintro e w7 ⟨Dg, dg, Dx, dx, rfl, hdg, hdx, hDg, hDx, hb7⟩; obtain ⟨hbx7, hq7, hcg7, hcx7⟩ := HAF.out w7 (((Below.refl _ w6).drew).trans hb7); have y0 := cell_in hq7 0; have y1 := cell_in hq7 1)
              | (go_at_call 14; refine (same_calls gs1 gs1 xs1 xs1 Cg Dg Cx Dx kg dg kx dx _ hcg7 hDg hcx7 hDx).mono ?_; rintro e w8 ⟨rfl, hb8⟩; rw [HSM.out]; have hbx8 := hbx7.below hb8))
            all_goals (
              go_wp2_with fail
              go_meet
              exact Lib.hid hbx8)
      case rest =>
        have HBc := hcut
        go_wp2_with fail
        refine (code_calls s (by omega) wc (HT.out.below HBc.out.bel)).mono ?_
        rintro e w5 (⟨m, hp, rfl, hb5⟩ | ⟨gs1, xs1, Cg, kg, Cx, kx, hp, rfl, hkg, hkx, hCg, hCx, hb5⟩)
        · obtain ⟨hm0, hm1⟩ := parse_bad hp
          have HB5 := Lib.hid (HBc.out.below hb5)
          clear hb5 hp HBc
          rw [← sizeL] at hm1
          go_upto_region 9 with (fail)
          have HB6 := Lib.hid (HB5.out.alloc (.cells #[.slice none 0 0, .slice none 0 0] 26))
          have hq := heap_new w5 (.cells #[.slice none 0 0, .slice none 0 0] 26)
          clear HB5
          generalize w5.alloc (.cells #[.slice none 0 0, .slice none 0 0] 26) = w6 at HB6 hq ⊢
          generalize w5.heap.size = q at hq ⊢
          have b0 := cell_in hq 0
          have b1 := cell_in hq 1
          have hmz : ((m : Int) == 0) = false := beq_eq_false_iff_ne.2 (by omega)
          have hmp : (0 : Int) < (m : Int) := by omega
          clear hq hm0 hm1
          go_wp2_with fail
          refine (HKN.out w6 HB6.out.bel).mono ?_
          rintro e w7 ⟨rfl, hb7⟩
          have HB7 := Lib.hid (bel2 HB6.out.bel hb7)
          clear hb7
          go_wp2_with fail
          go_ret
          exact ⟨rfl, HB7.out⟩
        · obtain ⟨r1, r2, r3, _⟩ := print_parse hp
          have HB5 := Lib.hid (HBc.out.below hb5)
          have HCg := Lib.hid hCg; have HCx := Lib.hid hCx; have HOK := Lib.hid r2
          have hln : (codeL gs1 xs1).length ≤ 100000000 := by rw [r3, ← sizeL]; omega
          have hpr : (⟨(printI gs1 xs1).toArray⟩ : ByteArray) = s := by rw [r1]
          have HPR := Lib.hid hpr; have HLN := Lib.hid hln
          clear hb5 hp HBc hCg hCx r1 r2 r3 hpr hln
          go_upto_region 9 with (fail)
          have HB6 := Lib.hid (HB5.out.alloc (.cells #[.slice Cg gs1.length kg, .slice Cx xs1.length kx] 26))
          have hq := heap_new w5 (.cells #[.slice Cg gs1.length kg, .slice Cx xs1.length kx] 26)
          have HCg6 := Lib.hid (Kd.C_alloc HCg.out (.cells #[.slice Cg gs1.length kg, .slice Cx xs1.length kx] 26))
          have HCx6 := Lib.hid (Kd.C_alloc HCx.out (.cells #[.slice Cg gs1.length kg, .slice Cx xs1.length kx] 26))
          clear HCg HCx HB5
          generalize w5.alloc (.cells #[.slice Cg gs1.length kg, .slice Cx xs1.length kx] 26) = w6 at HB6 hq HCg6 HCx6 ⊢
          generalize w5.heap.size = q at hq ⊢
          have b0 := cell_in hq 0
          have b1 := cell_in hq 1
          clear hq
          go_wp2_with fail
          refine (print_calls gs1 xs1 Cg Cx kg kx w6 hkg hkx HCg6.out HCx6.out HOK.out (HT.out.below HB6.out.bel) HLN.out).mono ?_
          rintro e w7 ⟨rfl, hb7⟩
          rw [HPR.out]
          have HB7 := Lib.hid (bel2 HB6.out.bel hb7)
          clear hb7
          go_wp2_with fail
          refine (HKN.out w7 HB7.out).mono ?_
          rintro e w8 ⟨rfl, hb8⟩
          have HB8 := Lib.hid (bel2 HB7.out hb8)
          clear hb8
          go_wp2_with fail
          go_ret
          exact ⟨rfl, HB8.out⟩
end Go.Proofs.YtcmhibcoccdmaaaGreatDoor.P
