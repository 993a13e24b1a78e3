/- What the scanner skips. -/
import Derived.Test.YtiioanpmfpefcaaDoorTok
namespace Go.Proofs.YtiioanpmfpefcaaDoor.Tok
open Go.RowKit Go.Proofs.YtiioanpmfpefcaaDoor.P Go.Proofs.YtiioanpmfpefcaaDoorW.PrintWords

theorem row_enters : ∀ args w, (callFunc 42 args).run Tryd.prog w = .ok (.enter 42 args) w := enters_of Tryd.func42 (by kernel_rfl) rfl
theorem dig_enters : ∀ args w, (callFunc 59 args).run Tryd.prog w = .ok (.enter 59 args) w := enters_of Tryd.func59 (by kernel_rfl) rfl
def SkipP (g : Nat) (s : ByteArray) (i : Nat) (r : Nat × Bool) (fa fe : Int) (w : World) (e : Ending) (w' : World) : Prop :=
  (r.2 = true ∧ e = .returned (.bool true) ∧ Sc g s (i + r.1) fa fe w' ∧ Kp g w w') ∨ (∃ j, r.2 = false ∧ e = .returned (.bool false) ∧ Sc g s j (i + r.1 : Nat) 23 w' ∧ Kp g w w')
theorem quiet_cls (c : UInt8) (w : World) (n : Nat) : Calls Tryd.prog 39 #[.int .u8 c.toNat] (w.drewN n) fun e w'' => e = .returned (.int .i64 (cls c : Nat)) ∧ ∃ m, w'' = w.drewN m :=
  Calls.quiet_of ((cls_calls c _).mono fun _ _ ⟨he, hd⟩ => ⟨he, dr hd⟩)
theorem drop_cons {s : ByteArray} {j : Nat} (h : j < s.size) : ∃ c, s.data.toList[j]? = some c ∧ s.data.toList.drop j = c :: s.data.toList.drop (j + 1) :=
  ⟨_, List.getElem?_eq_getElem (by rw [← size_eq]; exact h), List.drop_eq_getElem_cons _⟩
theorem at_q {s : ByteArray} {j : Nat} {c : UInt8} (h : s.data.toList[j]? = some c) : ∀ hj : j < s.size, s[j]'hj = c := fun hj => by
  have h2 : j < s.data.toList.length := by rw [← size_eq]; exact hj
  have := List.getElem?_eq_getElem h2
  rw [h] at this
  exact (Option.some.inj this).symm
theorem quiet_run (G : Nat) (p : UInt8 → Bool) (eg : ∀ args w, (callFunc G args).run Tryd.prog w = .ok (.enter G args) w)
    (hp : ∀ (c : UInt8) W, Calls Tryd.prog G #[.int .u8 c.toNat] W fun e w' => e = .returned (.bool (p c)) ∧ Drawn0 W w')
    (s : ByteArray) (i : Nat) (w : World) (hs : s.size ≤ 140737488351232) (hi : i ≤ s.size) (n : Nat) :
    Calls Tryd.prog 41 #[.string s, .int .i64 i, .func (.func G) #[] #[]] (w.drewN n) fun e w'' => e = .returned (.int .i64 (runL p (s.data.toList.drop i) : Nat)) ∧ ∃ m, w'' = w.drewN m :=
  Calls.quiet_of ((run_calls G p eg hp s i _ hs hi).mono fun _ _ ⟨he, hd⟩ => ⟨he, dr hd⟩)

set_option maxHeartbeats 4000000 in
set_option maxRecDepth 100000 in
theorem skip_calls (g : Nat) (s : ByteArray) (i : Nat) (fa fe : Int) (w : World) (h : Sc g s i fa fe w) (hi : i ≤ s.size) (hs : s.size ≤ 140737488351232) :
    Calls Tryd.prog 23 #[.pointer (some ⟨g, 0, none⟩)] w (SkipP g s i (skpL (s.data.toList.drop i)) fa fe w) := by
  have H := Lib.hid h
  clear h
  go_enter Tryd.func23, Tryd.ntmps23
  go_wp2_with fail
  go_loopg [] (s.size - i) (fun kq wr => ∃ j : Nat, kq = s.size - j ∧ i ≤ j ∧ j ≤ s.size ∧ Hid (Sc g s j fa fe wr) ∧ Hid (Kp g w wr) ∧ Hid (skpL (s.data.toList.drop i) = ((skpL (s.data.toList.drop j)).1 + (j - i), (skpL (s.data.toList.drop j)).2)))
  case atStart => exact ⟨i, rfl, Nat.le_refl _, hi, H, Lib.hid (Kp.refl g w), Lib.hid (by simp)⟩
  case round =>
    obtain ⟨j, hk, hij, hj, HS, HK, HE⟩ := hrel
    have HKq := Lib.hid hk
    clear hk
    have c0 := HS.out.c0; have c1 := HS.out.c1
    by_cases hlt : j < s.size
    · obtain ⟨c, hc, hcons⟩ := drop_cons hlt
      have hE2 := skpL_cons c (s.data.toList.drop (j + 1))
      rw [← hcons] at hE2
      have hb := at_q hc
      have HC := Lib.hid hcons
      clear hc hcons
      have e1 : (0 : Int) ≤ (j : Int) := by omega
      have e2 : (j : Int) < (s.size : Int) := by omega
      by_cases k1 : cls c = 1
      · rw [if_pos k1] at hE2
        have hE3 := HE.out
        rw [hE2] at hE3
        have HE3 : Hid (skpL (s.data.toList.drop i) = ((skpL (s.data.toList.drop (j + 1))).1 + (j + 1 - i), (skpL (s.data.toList.drop (j + 1))).2)) := Lib.hid (by rw [hE3]; simp only; congr 1; omega)
        clear hE2 hE3 HE
        have k1' : (((cls c : Nat) : Int) == 1) = true := by rw [k1]; rfl
        go_wp2_with fail
        go_region
        go_wp2_with fail
        have HSq := Lib.hid HS.out.drew; have HKq2 := Lib.hid HK.out.drew
        clear HS HK c0 c1
        generalize wr.drew = wq at HSq HKq2 ⊢
        have c0 := HSq.out.c0; have c1 := HSq.out.c1; have f1 := HSq.out.fz 1
        go_quiet ((go_at_call 39; exact quiet_cls c _ _))
        go_wp2_with fail
        go_roundg (s.size - (j + 1))
        case rel => exact ⟨j + 1, rfl, by omega, by omega, Lib.hid ((HSq.out.drewN _).atv _ _ (by omega)), Lib.hid ((HKq2.out.drewN _).setCell 1 _), HE3⟩
        case measure => rw [HKq.out]; omega
      · rw [if_neg k1] at hE2
        have k1' : (((cls c : Nat) : Int) == 1) = false := beq_eq_false_iff_ne.2 (by omega)
        have HSq := Lib.hid HS.out.drew; have HKq2 := Lib.hid HK.out.drew
        by_cases kA : (s.data.toList.drop j).take 2 = [45, 45]
        · have HA : Hid ((([45, 45] : List UInt8).isPrefixOf (s.data.toList.drop j)) = true) := Lib.hid (by rw [pre2, kA]; simp)
          rw [if_pos kA] at hE2
          have hr1 := dash_run kA
          have hr2 := runL_le isRow (s.data.toList.drop j)
          rw [List.length_drop, ← size_eq] at hr2
          have hE3 := HE.out
          rw [hE2, List.drop_drop] at hE3
          have HE3 : Hid (skpL (s.data.toList.drop i) = ((skpL (s.data.toList.drop (j + runL isRow (s.data.toList.drop j)))).1 + (j + runL isRow (s.data.toList.drop j) - i), (skpL (s.data.toList.drop (j + runL isRow (s.data.toList.drop j)))).2)) := Lib.hid (by rw [hE3]; simp only; congr 1; omega)
          clear hE2 hE3 HE kA
          go_wp2_with fail
          go_region
          go_wp2_with fail
          clear HS HK c0 c1
          generalize wr.drew = wq at HSq HKq2 ⊢
          have c0 := HSq.out.c0; have c1 := HSq.out.c1; have f1 := HSq.out.fz 1
          go_quiet ((go_at_call 39; exact quiet_cls c _ _))
          go_wp2_with fail
          refine (here_calls g s ⟨#[45, 45]⟩ j fa fe _ (HSq.out.drewN _) (by omega) hs).mono ?_
          rintro e w2 ⟨rfl, ⟨nd, rfl⟩⟩
          rw [HA.out]
          go_wp2_with fail
          have HSz := Lib.hid (HSq.out.drewN (nq + nd)); have HKz := Lib.hid (HKq2.out.drewN (nq + nd))
          clear HSq HKq2 c0 c1 f1
          generalize wq.drewN (nq + nd) = wz at HSz HKz ⊢
          have c0 := HSz.out.c0; have c1 := HSz.out.c1; have f1 := HSz.out.fz 1
          have hwr : IntKind.i64.wrap ((j : Int) + (runL isRow (s.data.toList.drop j) : Nat)) = (j : Int) + (runL isRow (s.data.toList.drop j) : Nat) := by rw [IntKind.wrap_i64]; omega
          go_region_with (go_at_call 41; refine (run_calls 42 isRow row_enters row_calls s j _ hs (by omega)).mono ?_; rintro e w3 ⟨rfl, ⟨nr, rfl⟩⟩)
          all_goals go_wp2_with fail
          all_goals go_roundg (s.size - (j + runL isRow (s.data.toList.drop j)))
          any_goals (first | (rw [HKq.out]; omega) | exact ⟨j + runL isRow (s.data.toList.drop j), rfl, by omega, by omega, Lib.hid ((HSz.out.drewN _).atv _ _ (by omega)), Lib.hid ((HKz.out.drewN _).setCell 1 _), HE3⟩)
        · have HA : Hid ((([45, 45] : List UInt8).isPrefixOf (s.data.toList.drop j)) = false) := Lib.hid (by rw [pre2]; simpa using kA)
          rw [if_neg kA] at hE2
          by_cases kB : (s.data.toList.drop j).take 2 = [123, 45]
          · have HB : Hid ((([123, 45] : List UInt8).isPrefixOf (s.data.toList.drop j)) = true) := Lib.hid (by rw [pre2, kB]; simp)
            rw [if_pos kB] at hE2
            have HKB := Lib.hid kB
            have hE3 := HE.out
            rw [hE2] at hE3
            have HE3 := Lib.hid hE3
            clear hE2 hE3 HE kA kB
            go_wp2_with fail
            go_region
            go_wp2_with fail
            clear HS HK c0 c1
            generalize wr.drew = wq at HSq HKq2 ⊢
            have c0 := HSq.out.c0; have c1 := HSq.out.c1; have f1 := HSq.out.fz 1
            go_quiet ((go_at_call 39; exact quiet_cls c _ _))
            go_wp2_with fail
            refine (here_calls g s ⟨#[45, 45]⟩ j fa fe _ (HSq.out.drewN _) (by omega) hs).mono ?_
            rintro e w2 ⟨rfl, ⟨nd, rfl⟩⟩
            rw [HA.out]
            go_wp2_with fail
            refine (here_calls g s ⟨#[123, 45]⟩ j fa fe _ (HSq.out.drewN _) (by omega) hs).mono ?_
            rintro e w2 ⟨rfl, ⟨nd, rfl⟩⟩
            rw [HB.out]
            go_wp2_with fail
            refine (note_calls g s j fa fe _ (HSq.out.drewN _) (by omega) hs HKB.out).mono ?_
            rintro e w3 (⟨n, hn, rfl, hS3, hK3⟩ | ⟨j2, hn, rfl, hS3, hK3⟩)
            · go_wp2_with fail
              have hle := note_le _ _ _ _ hn
              rw [List.length_drop, ← size_eq] at hle
              go_roundg (s.size - (j + n))
              case rel => exact ⟨j + n, rfl, by omega, by omega, Lib.hid hS3, Lib.hid ((HKq2.out.drewN _).trans hK3), Lib.hid (by rw [HE3.out, hn]; simp only [List.drop_drop]; congr 1; omega)⟩
              case measure => rw [HKq.out]; omega
            · go_wp2_with fail
              go_ret
              exact .inr ⟨_, by rw [HE3.out, hn], rfl, by rw [HE3.out, hn]; simp only; rw [show i + (0 + (j - i)) = j by omega]; exact hS3, (HKq2.out.drewN _).trans hK3⟩
          · have HB : Hid ((([123, 45] : List UInt8).isPrefixOf (s.data.toList.drop j)) = false) := Lib.hid (by rw [pre2]; simpa using kB)
            rw [if_neg kB] at hE2
            have hE3 := HE.out
            rw [hE2] at hE3
            have HE3 := Lib.hid hE3
            clear hE2 hE3 HE kA kB
            go_wp2_with fail
            go_region
            go_wp2_with fail
            clear HS HK c0 c1
            generalize wr.drew = wq at HSq HKq2 ⊢
            have c0 := HSq.out.c0; have c1 := HSq.out.c1; have f1 := HSq.out.fz 1
            go_quiet ((go_at_call 39; exact quiet_cls c _ _))
            go_wp2_with fail
            refine (here_calls g s ⟨#[45, 45]⟩ j fa fe _ (HSq.out.drewN _) (by omega) hs).mono ?_
            rintro e w2 ⟨rfl, ⟨nd, rfl⟩⟩
            rw [HA.out]
            go_wp2_with fail
            refine (here_calls g s ⟨#[123, 45]⟩ j fa fe _ (HSq.out.drewN _) (by omega) hs).mono ?_
            rintro e w2 ⟨rfl, ⟨nd, rfl⟩⟩
            rw [HB.out]
            go_wp2_with fail
            go_ret
            exact .inl ⟨by rw [HE3.out], rfl, by rw [HE3.out]; simp only; rw [show i + (0 + (j - i)) = j by omega]; exact HSq.out.drewN _, HKq2.out.drewN _⟩
    · have e2 : ¬ (j : Int) < (s.size : Int) := by omega
      have HE3 : Hid (skpL (s.data.toList.drop i) = (j - i, true)) := Lib.hid (by
        rw [HE.out, List.drop_of_length_le (by rw [← size_eq]; omega), skpL_nil]; simp)
      clear HE
      go_wp2_with fail
      go_region
      go_wp2_with fail
      try rw [Exit.noGoto_ret]
      go_ret
      exact .inl ⟨by rw [HE3.out], rfl, by rw [HE3.out]; simp only; rw [show i + (j - i) = j by omega]; exact HS.out.drew, HK.out.drew⟩
end Go.Proofs.YtiioanpmfpefcaaDoor.Tok
