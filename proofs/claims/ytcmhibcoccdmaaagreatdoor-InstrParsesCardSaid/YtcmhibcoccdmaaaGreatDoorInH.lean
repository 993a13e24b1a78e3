/- A code as text. -/
import Derived.Test.YtcmhibcoccdmaaaGreatDoorInG
namespace Go.Proofs.YtcmhibcoccdmaaaGreatDoor.P
open Go.RowKit Go.Shelf Go.Proofs.YtcmhibcoccdmaaaGreatDoorW.PrintWords Go.Proofs.YtcmhibcoccdmaaaGreatDoorW.PrintLast Go.Proofs.YtcmhibcoccdmaaaGreatDoor.Rw
set_option linter.unusedVariables false
set_option linter.unusedSimpArgs false
def wordsG (g : S52) : List ByteArray := [⟨#[103, 108, 111, 98, 97, 108]⟩, itoaB g.f1, itoaB g.f2, g.f0]
def joinG (g : S52) : List UInt8 := Lib.join ((wordsG g).map (·.data.toList)) [32]
def globL (g : S52) : List UInt8 := joinG g ++ [10]
def lineL (x : Ins) : List UInt8 := showI x ++ [10]
def codeL (gs : List S52) (xs : List Ins) : List UInt8 := gs.flatMap globL ++ xs.flatMap lineL
def badG (gs : List S52) : Bool := gs.any fun g => !globB g.f0 g.f1 g.f2
def badI (xs : List Ins) : Bool := xs.any fun x => !RightI x
def printI (gs : List S52) (xs : List Ins) : List UInt8 := if badG gs = true ∨ badI xs = true ∨ 65536 < max gs.length xs.length then [] else codeL gs xs
theorem wordsG_cells (w : World) (y : S52) : ∀ (j : Nat) x, (wordsG y)[j]? = some x → (w.alloc (.cells #[.string ⟨#[103, 108, 111, 98, 97, 108]⟩, .string (itoaB y.f1), .string (itoaB y.f2), .string y.f0] 9)).cell? ⟨w.heap.size, 0 + j, none⟩ = some (.string x) := by
  intro j x hj
  have h := cell_in (heap_new w (.cells #[.string ⟨#[103, 108, 111, 98, 97, 108]⟩, .string (itoaB y.f1), .string (itoaB y.f2), .string y.f0] 9)) (0 + j)
  rw [h, Nat.zero_add]
  obtain ⟨hl, he⟩ := List.getElem?_eq_some_iff.1 hj
  have hl4 : j < 4 := hl
  obtain rfl | rfl | rfl | rfl : j = 0 ∨ j = 1 ∨ j = 2 ∨ j = 3 := by omega
  all_goals (subst he; rfl)
theorem joinG_calls (y : S52) (w : World) (hl : (joinG y).length ≤ 100000000) : Calls Tryz.prog 33 #[.slice (some ⟨w.heap.size, 0, none⟩) 4 4, .string ⟨#[32]⟩] (w.alloc (.cells #[.string ⟨#[103, 108, 111, 98, 97, 108]⟩, .string (itoaB y.f1), .string (itoaB y.f2), .string y.f0] 9)) fun e w' => e = .returned (.string ⟨(joinG y).toArray⟩) ∧ Below w.heap.size w w' := by
  have hal : Below w.heap.size w (w.alloc (.cells #[.string ⟨#[103, 108, 111, 98, 97, 108]⟩, .string (itoaB y.f1), .string (itoaB y.f2), .string y.f0] 9)) := (Below.refl _ _).alloc (Nat.le_refl _) _
  exact (Tryz.strings_Join w.heap.size 0 4 (wordsG y) ⟨#[32]⟩ _ (wordsG_cells w y) (by simp) (by simp [wordsG]) (by simp [wordsG]) (Nat.le_trans hl (by decide))).mono fun e w' ⟨h1, h2⟩ => ⟨h1, bel2 hal h2⟩
section
variable {α : Type}
theorem fl_take (f : α → List UInt8) (xs : List α) (z : α) (kk : Nat) (h : kk < xs.length) : (xs.take (kk + 1)).flatMap f = (xs.take kk).flatMap f ++ f (xs.getD kk z) := by
  rw [List.take_succ_eq_append_getElem h, List.flatMap_append, getD_at xs z kk h]
  simp
theorem fl_le (f : α → List UInt8) (xs : List α) (z : α) (kk : Nat) (h : kk < xs.length) : ((xs.take kk).flatMap f).length + (f (xs.getD kk z)).length ≤ (xs.flatMap f).length := by
  have h1 : xs.flatMap f = (xs.take (kk + 1)).flatMap f ++ (xs.drop (kk + 1)).flatMap f := by rw [← List.flatMap_append, List.take_append_drop]
  rw [h1, fl_take f xs z kk h, List.length_append, List.length_append]
  omega
end
theorem globB_range {g : S52} (h : globB g.f0 g.f1 g.f2 = true) : (0 ≤ g.f1 ∧ g.f1 ≤ 255) ∧ 0 ≤ g.f2 ∧ g.f2 ≤ 65536 := by
  unfold globB at h
  rw [Bool.and_eq_true, Bool.and_eq_true] at h
  exact ⟨of_decide_eq_true h.1, of_decide_eq_true h.2.1⟩
theorem predG (gs : List S52) (w : World) : PredG 28 #[] (fun g => !globB g.f0 g.f1 g.f2) gs w := by
  intro W x cs _ _ hK
  obtain rfl := k52_open hK
  show Calls Tryz.prog 28 #[.agg #[.string x.f0, .int .i64 x.f1, .int .i64 x.f2]] W _
  go_enter Tryz.func28, Tryz.ntmps28
  go_wp2_with fail
  refine (globB_calls x.f0 x.f1 x.f2 _).mono ?_
  rintro e w1 ⟨rfl, hb1⟩
  have HB := Lib.hid (bel2 ((Below.refl _ W).alloc (Nat.le_refl _) _) hb1)
  clear hb1
  go_wp2_with fail
  go_ret
  exact ⟨rfl, HB.out⟩
theorem predI (xs : List Ins) (w : World) : PredI 31 #[] (fun x => !RightI x) xs w := by
  intro W x cs _ _ hK
  obtain ⟨A, c, rfl, hl, hC⟩ := kI_open hK
  show Calls Tryz.prog 31 #[.agg #[.int .i64 x.op, .int .i64 x.a, .int .i64 x.b, .slice A x.tb.length c]] W _
  have HC := Lib.hid hC
  clear hC hK
  go_enter Tryz.func31, Tryz.ntmps31
  go_wp2_with fail
  have ha := (Below.refl _ W).alloc (Nat.le_refl _) (.cells #[.int .i64 x.op, .int .i64 x.a, .int .i64 x.b, .slice A x.tb.length c] 46)
  refine (rightI_calls x A c _ hl (Kd.C_below HC.out ha)).mono ?_
  rintro e w1 ⟨rfl, hb1⟩
  have HB := Lib.hid (bel2 ha hb1)
  clear hb1 ha
  go_wp2_with fail
  go_ret
  exact ⟨rfl, HB.out⟩
/-- What stands while the lines are written. -/
structure PrS (w0 : World) (b bx : Nat) (X : Array Value) (l : List UInt8) (W : World) : Prop where
  bs : Bs b l W
  box : W.heap[bx]? = some (.cells X 26 (0, 0))
  bel : Below w0.heap.size w0 W
  lo : w0.heap.size ≤ b
  lt : bx < b
theorem PrS.below {w0 : World} {b bx : Nat} {X : Array Value} {l : List UInt8} {W W' : World} (h : PrS w0 b bx X l W) (hb : Below W.heap.size W W') : PrS w0 b bx X l W' :=
  ⟨h.bs.below hb, (hb.block _ (Array.getElem?_eq_some_iff.1 h.box).1).trans h.box, bel2 h.bel hb, h.lo, h.lt⟩
theorem PrS.drew {w0 : World} {b bx : Nat} {X : Array Value} {l : List UInt8} {W : World} (h : PrS w0 b bx X l W) : PrS w0 b bx X l W.drew := h.below ((Below.refl _ _).drew)
theorem PrS.step {w0 : World} {b bx : Nat} {X : Array Value} {l l' : List UInt8} {W W' : World} (h : PrS w0 b bx X l W) (hs : Sw b l' W W') : PrS w0 b bx X l' W' :=
  ⟨hs.bs, (hs.be.block _ h.lt).trans h.box, h.bel.trans (hs.be.mono h.lo), h.lo, h.lt⟩
set_option maxHeartbeats 1000000 in
set_option maxRecDepth 100000 in
theorem print_calls (gs : List S52) (xs : List Ins) (Ag Ai : Option Addr) (cg ci : Nat) (w : World) (hcg : gs.length ≤ cg) (hci : xs.length ≤ ci) (hG : k52.C w Ag gs.length gs) (hI : kI.C w Ai xs.length xs) (hx : ∀ x, x ∈ xs → InsOK x) (hT : GT w) (hN : (codeL gs xs).length ≤ 100000000) :
    Calls Tryz.prog 12 #[.agg #[.slice Ag gs.length cg, .slice Ai xs.length ci]] w fun e w' => e = .returned (.string ⟨(printI gs xs).toArray⟩) ∧ Below w.heap.size w w' := by
  have hmg : gs.length ≤ 9223372036854775807 := hG.2.1
  have hmi : xs.length ≤ 9223372036854775807 := hI.2.1
  have HG := Lib.hid hG
  have HI := Lib.hid hI
  have HT := Lib.hid hT
  have HOK := Lib.hid hx
  have HN := Lib.hid hN
  clear hG hI hT hx hN
  go_enter Tryz.func12, Tryz.ntmps12
  go_wp2_with fail
  have ha := (Below.refl _ w).alloc (Nat.le_refl _) (.cells #[.slice Ag gs.length cg, .slice Ai xs.length ci] 26)
  refine (containsG 28 #[] _ (enters_of Tryz.func28 (by kernel_rfl) rfl) Ag cg gs _ (predG gs _) (Kd.C_below HG.out ha)).mono ?_
  rintro e w2 ⟨rfl, hb2⟩
  have HX2 := Lib.hid ((hb2.block w.heap.size (by simp)).trans (heap_new w (.cells #[.slice Ag gs.length cg, .slice Ai xs.length ci] 26)))
  have HB2 := Lib.hid (ha.trans (hb2.mono ha.size))
  clear hb2 ha
  have hP : printI gs xs = if badG gs = true ∨ badI xs = true ∨ 65536 < max gs.length xs.length then [] else codeL gs xs := rfl
  have hbg : (gs.any fun g => !globB g.f0 g.f1 g.f2) = badG gs := rfl
  rw [hbg]
  have x0 := cell_in HX2.out 0
  have x1 := cell_in HX2.out 1
  cases hb : badG gs with
  | true =>
    rw [if_pos (.inl hb)] at hP
    have HP := Lib.hid hP
    clear hP hb hbg
    go_wp2_with fail
    go_ret
    exact ⟨by rw [HP.out]; rfl, HB2.out⟩
  | false =>
    have HBG := Lib.hid hb
    rw [hb] at hP
    clear hb hbg
    go_wp2_with fail
    refine (containsI 31 #[] _ (enters_of Tryz.func31 (by kernel_rfl) rfl) Ai ci xs _ (predI xs _) (Kd.C_below HI.out HB2.out)).mono ?_
    rintro e w3 ⟨rfl, hb3⟩
    have HX3 := Lib.hid ((hb3.block w.heap.size (Array.getElem?_eq_some_iff.1 HX2.out).1).trans HX2.out)
    have HB3 := Lib.hid (bel2 HB2.out hb3)
    clear hb3 x0 x1
    have x0 := cell_in HX3.out 0
    have x1 := cell_in HX3.out 1
    have hbi : (xs.any fun x => !RightI x) = badI xs := rfl
    rw [hbi]
    cases hb : badI xs with
    | true =>
      rw [if_pos (.inr (.inl hb))] at hP
      have HP := Lib.hid hP
      clear hP hb hbi
      go_wp2_with fail
      go_ret
      exact ⟨by rw [HP.out]; rfl, HB3.out⟩
    | false =>
      have HBI := Lib.hid hb
      rw [hb] at hP
      clear hb hbi
      by_cases hsz : 65536 < max gs.length xs.length
      · rw [if_pos (.inr (.inr hsz))] at hP
        have HP := Lib.hid hP
        have hmx : (65536 : Int) < max (gs.length : Int) (xs.length : Int) := by omega
        clear hP hsz
        go_wp2_with fail
        go_ret
        exact ⟨by rw [HP.out]; rfl, HB3.out⟩
      · rw [if_neg (by simp [hsz])] at hP
        have HP := Lib.hid hP
        have hmx : ¬ (65536 : Int) < max (gs.length : Int) (xs.length : Int) := by omega
        have hlg : gs.length ≤ 65536 := by omega
        have hli : xs.length ≤ 65536 := by omega
        clear hP hsz
        go_upto_region 5 with (fail)
        have hfr := Lib.fresh_isBuilder 76 5 w3
        have hal : Below w3.heap.size w3 (w3.alloc (.cells #[.pointer none, .slice none 0 0] 76)) := (Below.refl _ _).alloc (Nat.le_refl _) _
        have HS0 : Hid (PrS w w3.heap.size w.heap.size #[.slice Ag gs.length cg, .slice Ai xs.length ci] [] (w3.alloc (.cells #[.pointer none, .slice none 0 0] 76))) :=
          Lib.hid ⟨hfr, (hal.block _ (Array.getElem?_eq_some_iff.1 HX3.out).1).trans HX3.out, bel2 HB3.out hal, HB3.out.size, (Array.getElem?_eq_some_iff.1 HX3.out).1⟩
        clear hfr hal x0 x1 hmx
        generalize w3.alloc (.cells #[.pointer none, .slice none 0 0] 76) = w4 at HS0 ⊢
        generalize w3.heap.size = b at HS0 ⊢
        clear HX3 HB3 HX2 HB2
        have x0 := cell_in HS0.out.box 0
        go_wp2_with fail
        clear x0
        go_loopw [31] (fun s31 wr => ∃ kk : Nat, kk ≤ gs.length ∧ s31 = .int .i64 kk ∧ Hid (PrS w b w.heap.size #[.slice Ag gs.length cg, .slice Ai xs.length ci] ((gs.take kk).flatMap globL) wr)) (fun s31 _ => gs.length - (intOf s31).toNat)
        case atStart => exact ⟨0, by omega, rfl, HS0⟩
        case round =>
          obtain ⟨kk, hkk, rfl, HSR⟩ := hrel
          by_cases hlt : kk < gs.length
          · have hltz : (kk : Int) < (gs.length : Int) := by omega
            obtain ⟨ad, hAd, h0, h1, h2⟩ := at_G (Kd.C_below HG.out HSR.out.bel) kk hlt
            subst hAd
            have htk := fl_take globL gs z52 kk hlt
            have hle := fl_le globL gs z52 kk hlt
            have hgl : (gs.flatMap globL).length ≤ 100000000 := by have := HN.out; unfold codeL at this; rw [List.length_append] at this; omega
            have hgb : globB (gs.getD kk z52).f0 (gs.getD kk z52).f1 (gs.getD kk z52).f2 = true := by
              have h := HBG.out
              unfold badG at h
              rw [List.any_eq_false] at h
              have := h _ (getD_mem gs z52 kk hlt)
              simpa using this
            have hrg := globB_range hgb
            generalize gs.getD kk z52 = y at h0 h1 h2 htk hle hrg
            have hr : (-9223372036854775808 ≤ y.f1 ∧ y.f1 ≤ 9223372036854775807 ∧ -9223372036854775808 ≤ y.f2 ∧ y.f2 ≤ 9223372036854775807) := by omega
            generalize hL : (gs.take kk).flatMap globL = L at HSR hle
            have HL := Lib.hid hL
            have hln : (joinG y).length ≤ 100000000 ∧ L.length + (joinG y).length ≤ 1000000000 := by
              have e1 : (globL y).length = (joinG y).length + 1 := by unfold globL; simp
              omega
            have htk : (gs.take (kk + 1)).flatMap globL = (gs.take kk).flatMap globL ++ (joinG y ++ [10]) := htk
            have hg1 : L.length + (joinG y).length + 1 ≤ 100000000 := by
              have e1 : (globL y).length = (joinG y).length + 1 := by unfold globL; simp
              omega
            have HTK := Lib.hid htk
            have HLN := Lib.hid hln
            have HL1 := Lib.hid hg1
            clear htk hle hgl hgb hrg hL hln hg1
            go_upto_region 8 with (fail)
            have HSB := Lib.hid (HSR.out.below ((Below.refl _ wr).alloc (Nat.le_refl _) (.cells #[.string y.f0, .int .i64 y.f1, .int .i64 y.f2] 52)))
            have HY := Lib.hid (heap_new wr (.cells #[.string y.f0, .int .i64 y.f1, .int .i64 y.f2] 52))
            have HNB := Lib.hid (HSR.out.bs.lt)
            clear h0 h1 h2 HSR
            generalize wr.alloc (.cells #[.string y.f0, .int .i64 y.f1, .int .i64 y.f2] 52) = wb at HSB HY ⊢
            generalize wr.heap.size = g at HY HNB ⊢
            have y0 := cell_in HY.out 0
            have y1 := cell_in HY.out 1
            have y2 := cell_in HY.out 2
            refine start_ (n := 11) (S := fun w' => w'.cell? ⟨g, 0, none⟩ = some (.string y.f0) ∧ w'.cell? ⟨g, 1, none⟩ = some (.int .i64 y.f1) ∧ w'.cell? ⟨g, 2, none⟩ = some (.int .i64 y.f2)) (ds := []) #[false, false, false, false, false, false, false, false, false, false, false] (by kernel_rfl) rfl rfl ⟨y0, y1, y2⟩ (fun hHeld => ?_)
            refine pure_ (i := 0) (N := some 35) (v := ?_) (a' := ?_) #[true, false, false, false, false, false, false, false, false, false, false] rfl rfl (by kernel_rfl) (fun _ _ _ h => h) (Or.inl ⟨by rfl, ?_⟩) ?_ ?_
            rotate_left
            · intro w'
              go_simp
              with_reducible rfl
            rotate_left
            · simp only [Act.put, List.setIfInBounds_toArray, List.set_cons_zero, List.set_cons_succ, i64_w, i32_w]
              rfl
            refine take_ (i := 1) (N := some 36) (v := ?_) (a' := ?_) #[true, true, false, false, false, false, false, false, false, false, false] rfl rfl (by kernel_rfl) (fun _ _ _ h => h) (Or.inl ⟨by rfl, ?_⟩) hHeld ?_ ?_
            rotate_left
            · rintro w' ⟨s0, s1, s2⟩
              go_simp
              with_reducible rfl
            rotate_left
            · simp only [Act.put, List.setIfInBounds_toArray, List.set_cons_zero, List.set_cons_succ, i64_w, i32_w]
              rfl
            refine pure_ (i := 3) (N := some 38) (v := ?_) (a' := ?_) #[true, true, false, true, false, false, false, false, false, false, false] rfl rfl (by kernel_rfl) (fun _ _ _ h => h) (Or.inl ⟨by rfl, ?_⟩) ?_ ?_
            rotate_left
            · intro w'
              go_simp
              with_reducible rfl
            rotate_left
            · simp only [Act.put, List.setIfInBounds_toArray, List.set_cons_zero, List.set_cons_succ, i64_w, i32_w]
              rfl
            refine take_ (i := 4) (N := some 39) (v := ?_) (a' := ?_) #[true, true, false, true, true, false, false, false, false, false, false] rfl rfl (by kernel_rfl) (fun _ _ _ h => h) (Or.inl ⟨by rfl, ?_⟩) hHeld ?_ ?_
            rotate_left
            · rintro w' ⟨s0, s1, s2⟩
              go_simp
              with_reducible rfl
            rotate_left
            · simp only [Act.put, List.setIfInBounds_toArray, List.set_cons_zero, List.set_cons_succ, i64_w, i32_w]
              rfl
            refine pure_ (i := 6) (N := some 41) (v := ?_) (a' := ?_) #[true, true, false, true, true, false, true, false, false, false, false] rfl rfl (by kernel_rfl) (fun _ _ _ h => h) (Or.inl ⟨by rfl, ?_⟩) ?_ ?_
            rotate_left
            · intro w'
              go_simp
              with_reducible rfl
            rotate_left
            · simp only [Act.put, List.setIfInBounds_toArray, List.set_cons_zero, List.set_cons_succ, i64_w, i32_w]
              rfl
            refine take_ (i := 7) (N := some 42) (v := ?_) (a' := ?_) #[true, true, false, true, true, false, true, true, false, false, false] rfl rfl (by kernel_rfl) (fun _ _ _ h => h) (Or.inl ⟨by rfl, ?_⟩) hHeld ?_ ?_
            rotate_left
            · rintro w' ⟨s0, s1, s2⟩
              go_simp
              with_reducible rfl
            rotate_left
            · simp only [Act.put, List.setIfInBounds_toArray, List.set_cons_zero, List.set_cons_succ, i64_w, i32_w]
              rfl
            refine one_ (i := 2) (N := some 37) #[true, true, true, true, true, false, true, true, false, false, false] rfl rfl (by kernel_rfl) (by decide) (fun K hK => ?_)
            refine goes_ Tryz.func34 (by kernel_rfl) rfl #[.int .i64 y.f1] (by rfl) rfl rfl (by (try simp only [List.map_toArray, List.map_cons, List.map_nil]); first | done | rfl) ?_
            refine (itoa_calls y.f1 hr.1 hr.2.1 _ (HT.out.below HSB.out.drew.bel)).mono ?_
            rintro e wt ⟨rfl, hbt⟩
            have HST := Lib.hid (HSB.out.drew.below hbt)
            have HYT := Lib.hid ((hbt.block g (Array.getElem?_eq_some_iff.1 HY.out).1).trans HY.out)
            clear hbt
            refine ⟨_, rfl, ?_⟩
            refine hK.out _ _ ⟨cell_in HYT.out 0, cell_in HYT.out 1, cell_in HYT.out 2⟩ (fun hHeld => ?_)
            clear hK K
            refine norm_ (a' := ?_) ?_ ?_
            rotate_left
            · show Act.put _ (some 37) _ = _
              simp only [Act.put, List.setIfInBounds_toArray, List.set_cons_zero, List.set_cons_succ, i64_w, i32_w]
              rfl
            refine one_ (i := 5) (N := some 40) #[true, true, true, true, true, true, true, true, false, false, false] rfl rfl (by kernel_rfl) (by decide) (fun K hK => ?_)
            refine goes_ Tryz.func34 (by kernel_rfl) rfl #[.int .i64 y.f2] (by rfl) rfl rfl (by (try simp only [List.map_toArray, List.map_cons, List.map_nil]); first | done | rfl) ?_
            refine (itoa_calls y.f2 hr.2.2.1 hr.2.2.2 _ (HT.out.below HST.out.bel)).mono ?_
            rintro e wi ⟨rfl, hbi⟩
            have HSI := Lib.hid (HST.out.below hbi)
            have HYI := Lib.hid ((hbi.block g (Array.getElem?_eq_some_iff.1 HYT.out).1).trans HYT.out)
            clear hbi
            refine ⟨_, rfl, ?_⟩
            refine hK.out _ _ ⟨cell_in HYI.out 0, cell_in HYI.out 1, cell_in HYI.out 2⟩ (fun hHeld => ?_)
            clear hK K
            refine norm_ (a' := ?_) ?_ ?_
            rotate_left
            · show Act.put _ (some 40) _ = _
              simp only [Act.put, List.setIfInBounds_toArray, List.set_cons_zero, List.set_cons_succ, i64_w, i32_w]
              rfl
            refine one_ (i := 8) (N := some 43) #[true, true, true, true, true, true, true, true, true, false, false] rfl rfl (by kernel_rfl) (by decide) (fun K hK => ?_)
            refine value_ (w1 := ?_) (v := ?_) (by rfl) rfl ?_ ?_
            rotate_left 2
            · go_simp
              constructor
              · rfl
              · rfl
            refine hK.out _ _ ⟨cell_allocN _ (cell_in HYI.out 0), cell_allocN _ (cell_in HYI.out 1), cell_allocN _ (cell_in HYI.out 2)⟩ (fun hHeld => ?_)
            clear hK K
            refine norm_ (a' := ?_) ?_ ?_
            rotate_left
            · show Act.put _ (some 43) _ = _
              simp only [Act.put, List.setIfInBounds_toArray, List.set_cons_zero, List.set_cons_succ, i64_w, i32_w]
              rfl
            refine one_ (i := 9) (N := some 44) #[true, true, true, true, true, true, true, true, true, true, false] rfl rfl (by kernel_rfl) (by decide) (fun K hK => ?_)
            refine goes_ Tryz.func33 (by kernel_rfl) rfl #[.slice (some ⟨wi.heap.size, 0, none⟩) 4 4, .string ⟨#[32]⟩] (by rfl) rfl rfl (by (try simp only [List.map_toArray, List.map_cons, List.map_nil]); first | done | rfl) ?_
            refine (joinG_calls y wi HLN.out.1).mono ?_
            rintro e wj ⟨rfl, hij⟩
            have HSJ := Lib.hid (HSI.out.below hij)
            have HYJ := Lib.hid ((hij.block g (Array.getElem?_eq_some_iff.1 HYI.out).1).trans HYI.out)
            clear hij
            generalize joinG y = J at HLN HTK HL1 ⊢
            refine ⟨_, rfl, ?_⟩
            refine hK.out _ _ ⟨cell_in HYJ.out 0, cell_in HYJ.out 1, cell_in HYJ.out 2⟩ (fun hHeld => ?_)
            clear hK K
            refine norm_ (a' := ?_) ?_ ?_
            rotate_left
            · show Act.put _ (some 44) _ = _
              simp only [Act.put, List.setIfInBounds_toArray, List.set_cons_zero, List.set_cons_succ, i64_w, i32_w]
              rfl
            refine one_ (i := 10) (N := some 45) #[true, true, true, true, true, true, true, true, true, true, true] rfl rfl (by kernel_rfl) (by decide) (fun K hK => ?_)
            refine goes_ Tryz.func32 (by kernel_rfl) rfl #[.pointer (some ⟨b, 0, none⟩), .string ⟨J.toArray⟩] (by rfl) rfl rfl (by (try simp only [List.map_toArray, List.map_cons, List.map_nil]); first | done | rfl) ?_
            refine (writeL b L ⟨J.toArray⟩ _ HSJ.out.bs HLN.out.2).mono ?_
            rintro e wk ⟨rfl, hsk⟩
            have HSK := Lib.hid (HSJ.out.step hsk)
            have HYK := Lib.hid (hsk.ot g _ HYJ.out (by have := HNB.out; omega) (fun cs e => by cases e))
            clear hsk
            refine ⟨_, rfl, ?_⟩
            refine hK.out _ _ ⟨cell_in HYK.out 0, cell_in HYK.out 1, cell_in HYK.out 2⟩ (fun hHeld => ?_)
            clear hK K
            refine norm_ (a' := ?_) ?_ ?_
            rotate_left
            · show Act.put _ (some 45) _ = _
              simp only [Act.put, List.setIfInBounds_toArray, List.set_cons_zero, List.set_cons_succ, i64_w, i32_w]
              rfl
            refine done_ (by kernel_rfl) ?_
            clear hHeld
            clear y0 y1 y2
            go_wp2_with fail
            refine (writeC b _ 10 _ HSK.out.bs (by have := HL1.out; rw [List.length_append]; show L.length + J.length + 1 ≤ 1000000000; omega)).mono ?_
            rintro e wz ⟨rfl, hsz⟩
            have HSZ := Lib.hid (HSK.out.step hsz)
            clear hsz
            go_wp2_with fail
            go_roundw
            case rel => exact ⟨kk + 1, hlt, by go_num, Lib.hid (by rw [HTK.out, HL.out]; have := HSZ.out; rw [List.append_assoc] at this; exact this)⟩
            case measure => simp [intOf]; omega
          · have hltz : ¬ (kk : Int) < (gs.length : Int) := by omega
            obtain rfl : kk = gs.length := by omega
            have hs := HSR.out
            rw [List.take_length] at hs
            have HS1 := Lib.hid hs
            clear hs HSR HS0
            have x1 := cell_in HS1.out.box 1
            go_wp2_with fail
            clear x1
            go_loopw [51] (fun s51 wr => ∃ kk : Nat, kk ≤ xs.length ∧ s51 = .int .i64 kk ∧ Hid (PrS w b w.heap.size #[.slice Ag gs.length cg, .slice Ai xs.length ci] (gs.flatMap globL ++ (xs.take kk).flatMap lineL) wr)) (fun s51 _ => xs.length - (intOf s51).toNat)
            case atStart => exact ⟨0, by omega, rfl, Lib.hid (by simpa using HS1.out)⟩
            case round =>
              obtain ⟨kk, hkk, rfl, HSR⟩ := hrel
              by_cases hlt : kk < xs.length
              · have hltz : (kk : Int) < (xs.length : Int) := by omega
                obtain ⟨ad, A3, c3, hAd, h0, h1, h2, h3, hl3, hC3⟩ := at_I (Kd.C_below HI.out HSR.out.bel) kk hlt
                subst hAd
                have htk := fl_take lineL xs zI kk hlt
                have hle := fl_le lineL xs zI kk hlt
                have hxo := HOK.out _ (getD_mem xs zI kk hlt)
                have hgl : (gs.flatMap globL).length + (xs.flatMap lineL).length ≤ 100000000 := by have := HN.out; unfold codeL at this; rw [List.length_append] at this; omega
                generalize xs.getD kk zI = y at h0 h1 h2 h3 hl3 hC3 htk hle hxo
                generalize hL : gs.flatMap globL ++ (xs.take kk).flatMap lineL = L at HSR
                have HL := Lib.hid hL
                have hln : L.length + (showI y).length ≤ 1000000000 ∧ L.length + (showI y).length + 1 ≤ 100000000 := by
                  have e1 : (lineL y).length = (showI y).length + 1 := by unfold lineL; simp
                  have e2 : L.length = (gs.flatMap globL).length + ((xs.take kk).flatMap lineL).length := by rw [← hL, List.length_append]
                  omega
                have htk : (xs.take (kk + 1)).flatMap lineL = (xs.take kk).flatMap lineL ++ (showI y ++ [10]) := htk
                have HTK := Lib.hid htk
                have HLN := Lib.hid hln
                have HXO := Lib.hid hxo
                have HC3 := Lib.hid hC3
                clear htk hle hgl hL hln hxo hC3
                go_wp2_with fail
                have hal : Below wr.heap.size wr (wr.alloc (.cells #[.int .i64 y.op, .int .i64 y.a, .int .i64 y.b, .slice A3 y.tb.length c3] 46)) := (Below.refl _ _).alloc (Nat.le_refl _) _
                refine (show_calls y A3 c3 _ hl3 (Kd.C_below HC3.out hal) HXO.out (HT.out.below (bel2 HSR.out.bel hal))).mono ?_
                rintro e wt ⟨rfl, hbt⟩
                have HST := Lib.hid ((HSR.out.below hal).below hbt)
                clear hbt hal h0 h1 h2 h3
                generalize showI y = J at HLN HTK ⊢
                go_wp2_with fail
                refine (writeL b L ⟨J.toArray⟩ _ HST.out.bs HLN.out.1).mono ?_
                rintro e wk ⟨rfl, hsk⟩
                have HSK := Lib.hid (HST.out.step hsk)
                clear hsk
                go_wp2_with fail
                refine (writeC b _ 10 _ HSK.out.bs (by have := HLN.out; rw [List.length_append]; show L.length + J.length + 1 ≤ 1000000000; omega)).mono ?_
                rintro e wz ⟨rfl, hsz⟩
                have HSZ := Lib.hid (HSK.out.step hsz)
                clear hsz
                go_wp2_with fail
                go_roundw
                case rel => exact ⟨kk + 1, hlt, by go_num, Lib.hid (by rw [HTK.out, ← List.append_assoc, HL.out]; have := HSZ.out; rw [List.append_assoc] at this; exact this)⟩
                case measure => simp [intOf]; omega
              · have hltz : ¬ (kk : Int) < (xs.length : Int) := by omega
                obtain rfl : kk = xs.length := by omega
                have hs := HSR.out
                rw [List.take_length] at hs
                have HS2 := Lib.hid hs
                clear hs HSR
                go_wp2_with fail
                refine (Tryz.Builder_String_any b b (codeL gs xs) _ (HS2.out.bs.elim .inl .inr) (Nat.le_of_lt HS2.out.bs.lt)).mono ?_
                rintro e wy ⟨rfl, hby⟩
                have HBY := Lib.hid (HS2.out.bel.trans (hby.mono HS2.out.lo))
                clear hby
                go_wp2_with fail
                go_ret
                exact ⟨by rw [HP.out]; rfl, HBY.out⟩
end Go.Proofs.YtcmhibcoccdmaaaGreatDoor.P
