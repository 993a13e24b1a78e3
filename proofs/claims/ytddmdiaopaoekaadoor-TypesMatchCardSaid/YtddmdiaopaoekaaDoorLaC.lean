/- The walk of TypesMatch. -/
import Derived.Test.YtddmdiaopaoekaaDoorRmA
import Derived.Test.YtddmdiaopaoekaaDoorOpn
import Derived.Deep.CutBlock
import Derived.Deep.DeepCutAuto
namespace Go.Proofs.YtddmdiaopaoekaaDoor.P
open Go.RowKit Go.Shelf Go.Proofs.YtddmdiaopaoekaaDoorW.PrintWords Go.Proofs.YtddmdiaopaoekaaDoorW.PrintLast Go.Proofs.YtddmdiaopaoekaaDoor.Rw
set_option linter.unusedVariables false
set_option linter.unusedSimpArgs false
theorem row2_24 {W : World} {b : Nat} {x y : T24} {A B : Option Addr} {c d : Nat} (h : W.heap[b]? = some (.cells #[.int .i64 x.f0, .int .i64 x.f1, .string x.f2, .slice A x.f3.length c, .int .i64 y.f0, .int .i64 y.f1, .string y.f2, .slice B y.f3.length d] 24 (0, 0))) (hc : x.f3.length ≤ c) (hC : k24.C W A x.f3.length x.f3) (hd : y.f3.length ≤ d) (hD : k24.C W B y.f3.length y.f3) :
    k24.C W (some ⟨b, 0, none⟩) [x, y].length [x, y] := by
  refine ⟨rfl, by simp, fun _ => ⟨⟨b, 0, none⟩, rfl, fun j p hj => ?_⟩⟩
  match j, hj with
  | 0, hj =>
    obtain rfl : x = p := by simpa using hj
    refine ⟨_, rfl, k24_mk W x hc hC, fun i u hu => ?_⟩
    rw [add_g]
    match i, hu with
    | 0, hu => simp [World.cell?, h]; simpa using hu
    | 1, hu => simp [World.cell?, h]; simpa using hu
    | 2, hu => simp [World.cell?, h]; simpa using hu
    | 3, hu => simp [World.cell?, h]; simpa using hu
    | i + 4, hu => simp at hu
  | 1, hj =>
    obtain rfl : y = p := by simpa using hj
    refine ⟨_, rfl, k24_mk W y hd hD, fun i u hu => ?_⟩
    rw [add_g]
    have hs : k24.sz = 4 := rfl
    rw [hs]
    match i, hu with
    | 0, hu => simp [World.cell?, h]; simpa using hu
    | 1, hu => simp [World.cell?, h]; simpa using hu
    | 2, hu => simp [World.cell?, h]; simpa using hu
    | 3, hu => simp [World.cell?, h]; simpa using hu
    | i + 4, hu => simp at hu
  | j + 2, hj => simp at hj
theorem match_uni {w w' : World} {r : Option (List S31)} {e : Ending} (h : MatchP w r e w') : ∃ A c, e = .returned (.tuple #[.slice A (r.getD []).length c, .bool r.isSome]) ∧ (r.getD []).length ≤ c ∧ k31.C w' A (r.getD []).length (r.getD []) ∧ Below w.heap.size w w' := by
  obtain ⟨h, hb⟩ := h
  cases r with
  | none => exact ⟨none, 0, h, Nat.le_refl _, ⟨rfl, by simp, fun h => absurd h (by simp)⟩, hb⟩
  | some l =>
    obtain ⟨A, c, h1, h2, h3⟩ := h
    exact ⟨A, c, h1, h2, h3, hb⟩
theorem rmatch_uni {w w' : World} {r : Option (List T24)} {e : Ending} (h : RMatchP w r e w') : ∃ A c, e = .returned (.tuple #[.slice A (r.getD []).length c, .bool r.isSome]) ∧ (r.getD []).length ≤ c ∧ k24.C w' A (r.getD []).length (r.getD []) ∧ Below w.heap.size w w' := by
  obtain ⟨h, hb⟩ := h
  cases r with
  | none => exact ⟨none, 0, h, Nat.le_refl _, ⟨rfl, by simp, fun h => absurd h (by simp)⟩, hb⟩
  | some l =>
    obtain ⟨A, c, h1, h2, h3⟩ := h
    exact ⟨A, c, h1, h2, h3, hb⟩
theorem match_uni2 {w w' : World} {r : Option (List T24)} {e : Ending} (h : MatchP w (r.map (List.map (ownN 400))) e w') : ∃ A c, e = .returned (.tuple #[.slice A (r.getD []).length c, .bool r.isSome]) ∧ (r.getD []).length ≤ c ∧ k31.C w' A (r.getD []).length ((r.getD []).map (ownN 400)) ∧ Below w.heap.size w w' := by
  obtain ⟨A, c, h1, h2, h3, h4⟩ := match_uni h
  cases r with
  | none => exact ⟨A, c, h1, h2, h3, h4⟩
  | some l =>
    have e2 : ((some l).map (List.map (ownN 400))).getD ([] : List S31) = l.map (ownN 400) := rfl
    rw [e2, List.length_map] at h1 h2 h3
    exact ⟨A, c, h1, h2, h3, h4⟩
/-- What a Match tells is made of what came in. -/
theorem rm_few (g s : T24) (hs : few24 400 s) (hg : few24 400 g) : ∀ y, y ∈ (rMatchB g s).getD [] → few24 400 y := by
  intro y hy
  unfold rMatchB at hy
  split at hy
  · rename_i h
    obtain ⟨h1, h2, h3, h4⟩ := h
    have hv : ∀ v, v ∈ varsN 400 (ownN 400 g) → 0 ≤ v ∧ v < ((List.replicate (greatL (VarsB (ownN 400 g)) + 1).toNat z24).length : Int) := fun v hv => by
      have q1 := vars_nonneg 400 _ h1 v hv
      have q2 := le_great (VarsB (ownN 400 g)) v (by unfold VarsB; rw [if_pos h1, mem_distinct, varsL_400 _ h1]; exact hv)
      have q3 := great_ge (VarsB (ownN 400 g))
      rw [List.length_replicate]
      exact ⟨q1, by omega⟩
    have hr0 : relO (fun _ => none, 0) (List.replicate (greatL (VarsB (ownN 400 g)) + 1).toNat z24) := ⟨fun i hi => by
      rw [List.length_replicate] at hi
      have : (List.replicate (greatL (VarsB (ownN 400 g)) + 1).toNat z24).getD i z24 = z24 := by rw [List.getD_eq_getElem?_getD, List.getElem?_replicate]; simp [hi]
      rw [this]
      rfl, fun y hy => by rw [(List.mem_replicate.1 hy).2]; exact ⟨by simp [z24], fun z hz => by simp [z24] at hz⟩⟩
    obtain ⟨_, q2⟩ := rm_match 400 g s _ (fun _ => none, 0) hg hs (nz24_right 400 s h2) hv hr0
    have hy2 : y ∈ fillK _ _ := hy
    unfold fillK at hy2
    obtain ⟨i, hi, rfl⟩ := List.mem_map.1 hy2
    have hget : ∀ (o : List T24), (∀ y, y ∈ o → few24 400 y) → few24 400 (o.getD i z24) := fun o ho => by
      rw [List.getD_eq_getElem?_getD]
      cases h9 : o[i]? with
      | none => exact ⟨by simp [z24], fun z hz => by simp [z24] at hz⟩
      | some u => exact ho u (List.mem_of_getElem? h9)
    have hq := hget _ q2.2
    split
    · unfold fillAt
      split
      · exact ⟨by simp [var24], fun z hz => by simp [var24] at hz⟩
      · exact hq
    · exact hq
  · simp at hy
set_option maxHeartbeats 8000000 in
set_option maxRecDepth 100000 in
theorem MatchLaw_calls (M : Nat) (x y : T24) (A B : Option Addr) (c d : Nat) (n m : Int) (w : World) (hc : x.f3.length ≤ c) (hC : k24.C w A x.f3.length x.f3) (hd : y.f3.length ≤ d) (hD : k24.C w B y.f3.length y.f3) (hx : lay24 M x) (hy : lay24 M y) (hT : TabOK w) :
    Calls Tryd.prog 3 #[.agg #[.int .i64 x.f0, .int .i64 x.f1, .string x.f2, .slice A x.f3.length c], .agg #[.int .i64 y.f0, .int .i64 y.f1, .string y.f2, .slice B y.f3.length d], .int .i64 n, .int .i64 m] w fun e w' => e = .returned (.bool true) ∧ Below w.heap.size w w' := by
  have HC := Lib.hid hC
  have HD := Lib.hid hD
  have HX := Lib.hid hx
  have HY := Lib.hid hy
  have HT := Lib.hid hT
  clear hC hD hx hy hT
  go_enter Tryd.func3, Tryd.ntmps3
  obtain ⟨kL, rL, hLi⟩ := light_ex M [x, y] (by simp) (fun z hz => by
    rcases List.mem_cons.1 hz with rfl | hz
    · exact lay24_ok M _ HX.out
    · obtain rfl : z = y := by simpa using hz
      exact lay24_ok M _ HY.out)
  have HLI := Lib.hid hLi
  clear hLi
  go_wp2_with fail
  have hB2 : B2 w x y A B c d ((w.alloc (.cells #[.int .i64 x.f0, .int .i64 x.f1, .string x.f2, .slice A x.f3.length c] 24)).alloc (.cells #[.int .i64 y.f0, .int .i64 y.f1, .string y.f2, .slice B y.f3.length d] 24)) := ⟨((Below.refl _ _).alloc (Nat.le_refl _) _).alloc (by simp) _, new2_a w _ _, new2_b w _ _⟩
  have hl3 : (((w.alloc (.cells #[.int .i64 x.f0, .int .i64 x.f1, .string x.f2, .slice A x.f3.length c] 24)).alloc (.cells #[.int .i64 y.f0, .int .i64 y.f1, .string y.f2, .slice B y.f3.length d] 24)).alloc (.cells #[.int .i64 x.f0, .int .i64 x.f1, .string x.f2, .slice A x.f3.length c, .int .i64 y.f0, .int .i64 y.f1, .string y.f2, .slice B y.f3.length d] 24)).heap[w.heap.size + 1 + 1]? = some (.cells #[.int .i64 x.f0, .int .i64 x.f1, .string x.f2, .slice A x.f3.length c, .int .i64 y.f0, .int .i64 y.f1, .string y.f2, .slice B y.f3.length d] 24 (0, 0)) := by
    have h := heap_new ((w.alloc (.cells #[.int .i64 x.f0, .int .i64 x.f1, .string x.f2, .slice A x.f3.length c] 24)).alloc (.cells #[.int .i64 y.f0, .int .i64 y.f1, .string y.f2, .slice B y.f3.length d] 24)) (.cells #[.int .i64 x.f0, .int .i64 x.f1, .string x.f2, .slice A x.f3.length c, .int .i64 y.f0, .int .i64 y.f1, .string y.f2, .slice B y.f3.length d] 24)
    simpa using h
  have hB3 := hB2.up ((Below.refl _ _).alloc (Nat.le_refl _) (.cells #[.int .i64 x.f0, .int .i64 x.f1, .string x.f2, .slice A x.f3.length c, .int .i64 y.f0, .int .i64 y.f1, .string y.f2, .slice B y.f3.length d] 24))
  have hcl := hammocklaw09_Light.calls kL _ 2 [x, y] rL _ (row2_24 hl3 hc (Kd.C_below HC.out hB3.1) hd (Kd.C_below HD.out hB3.1)) (Nat.le_refl _) HLI.out
  refine hcl.mono ?_
  rintro e w3 ⟨rfl, hb3⟩
  have HB3 := Lib.hid (hB3.up hb3)
  clear hB2 hl3 hB3 hcl hb3
  have x0 := cell_in HB3.out.2.1 0
  have x1 := cell_in HB3.out.2.1 1
  have x2 := cell_in HB3.out.2.1 2
  have x3 := cell_in HB3.out.2.1 3
  have y0 := cell_in HB3.out.2.2 0
  have y1 := cell_in HB3.out.2.2 1
  have y2 := cell_in HB3.out.2.2 2
  have y3 := cell_in HB3.out.2.2 3
  cases rL with
  | false =>
    go_wp2_with fail
    refine (knows_calls w3 (HT.out.below HB3.out.1)).mono ?_
    rintro e wk ⟨rfl, hbk⟩
    have HBk := Lib.hid (bel2 HB3.out.1 hbk)
    clear hbk
    go_wp2_with fail
    go_ret
    exact ⟨rfl, HBk.out⟩
  | true =>
    have hlf := light_few kL M [x, y] (by simp) HLI.out (fun z hz => by
      rcases List.mem_cons.1 hz with rfl | hz
      · exact ⟨lay24_ok M _ HX.out, lay24_nm M _ HX.out⟩
      · obtain rfl : z = y := by simpa using hz
        exact ⟨lay24_ok M _ HY.out, lay24_nm M _ HY.out⟩)
    obtain ⟨hfx, hnx⟩ := hlf x (by simp)
    obtain ⟨hfy, hny⟩ := hlf y (by simp)
    have HFX := Lib.hid hfx
    have HFY := Lib.hid hfy
    have HNX := Lib.hid hnx
    have HNY := Lib.hid hny
    obtain ⟨kx, hkx⟩ := own_ex 400 x hfx
    obtain ⟨ky, hky⟩ := own_ex 400 y hfy
    have hwx := lay24_varsL M x HX.out
    have hwy := lay24_varsL M y HY.out
    have hvx : (varsL (ownN 400 x)).length ≤ 10000000 := by rw [varsL_dep 400 _ (dep_own 400 x hfx)]; omega
    have hvy : (varsL (ownN 400 y)).length ≤ 10000000 := by rw [varsL_dep 400 _ (dep_own 400 y hfy)]; omega
    have hme := match_eq x y
    have hmo := more_eq n m x y
    have hrf := rm_few x y hfy hfx
    generalize ht1 : ownN 400 x = t1 at hkx hwx hvx hme hmo
    generalize ht2 : ownN 400 y = t2 at hky hwy hvy hme hmo
    have HKX := Lib.hid hkx
    have HKY := Lib.hid hky
    have HWX := Lib.hid hwx
    have HWY := Lib.hid hwy
    have HVX := Lib.hid hvx
    have HVY := Lib.hid hvy
    have HME := Lib.hid hme
    have HMO := Lib.hid hmo
    have HRF := Lib.hid hrf
    clear hlf hfx hnx hfy hny hkx hky hwx hwy hvx hvy hme hmo hrf HLI ht1 ht2
    go_wp2_with fail
    have hox : ∀ W, B2 w x y A B c d W → Calls Tryd.prog 11 #[.agg #[.int .i64 x.f0, .int .i64 x.f1, .string x.f2, .slice A x.f3.length c]] W fun e w' => ∃ A' c', e = .returned (.agg #[.int .i64 t1.f0, .int .i64 t1.f1, .string t1.f2, .slice A' t1.f3.length c']) ∧ t1.f3.length ≤ c' ∧ k31.C w' A' t1.f3.length t1.f3 ∧ B2 w x y A B c d w' ∧ Below W.heap.size W w' := fun W hW => (hammocklaw09_Own.calls kx x.f0 x.f1 x.f2 A c x.f3 t1.f0 t1.f1 t1.f2 t1.f3 W (Kd.C_below HC.out hW.1) hc HKX.out).mono (by
      rintro e w' ⟨v, rfl, hR, hb⟩
      obtain ⟨A', c', rfl, hl', hC'⟩ := Kd.R_reads hR
      exact ⟨A', c', rfl, hl', hC', hW.up hb, hb⟩)
    have HOX := Lib.hid hox
    have hoy : ∀ W, B2 w x y A B c d W → Calls Tryd.prog 11 #[.agg #[.int .i64 y.f0, .int .i64 y.f1, .string y.f2, .slice B y.f3.length d]] W fun e w' => ∃ A' c', e = .returned (.agg #[.int .i64 t2.f0, .int .i64 t2.f1, .string t2.f2, .slice A' t2.f3.length c']) ∧ t2.f3.length ≤ c' ∧ k31.C w' A' t2.f3.length t2.f3 ∧ B2 w x y A B c d w' ∧ Below W.heap.size W w' := fun W hW => (hammocklaw09_Own.calls ky y.f0 y.f1 y.f2 B d y.f3 t2.f0 t2.f1 t2.f2 t2.f3 W (Kd.C_below HD.out hW.1) hd HKY.out).mono (by
      rintro e w' ⟨v, rfl, hR, hb⟩
      obtain ⟨A', c', rfl, hl', hC'⟩ := Kd.R_reads hR
      exact ⟨A', c', rfl, hl', hC', hW.up hb, hb⟩)
    have HOY := Lib.hid hoy
    clear hox hoy
    refine start_ (n := 10) (S := fun w' => w'.cell? ⟨w.heap.size, 0, none⟩ = some (.int .i64 x.f0) ∧ w'.cell? ⟨w.heap.size, 1, none⟩ = some (.int .i64 x.f1) ∧ w'.cell? ⟨w.heap.size, 2, none⟩ = some (.string x.f2) ∧ w'.cell? ⟨w.heap.size, 3, none⟩ = some (.slice A x.f3.length c) ∧ w'.cell? ⟨w.heap.size + 1, 0, none⟩ = some (.int .i64 y.f0) ∧ w'.cell? ⟨w.heap.size + 1, 1, none⟩ = some (.int .i64 y.f1) ∧ w'.cell? ⟨w.heap.size + 1, 2, none⟩ = some (.string y.f2) ∧ w'.cell? ⟨w.heap.size + 1, 3, none⟩ = some (.slice B y.f3.length d)) (ds := []) #[false, false, false, false, false, false, false, false, false, false] (by kernel_rfl) rfl rfl ⟨x0, x1, x2, x3, y0, y1, y2, y3⟩ (fun hHeld => ?_)
    refine take_ (i := 0) (N := some 21) (v := ?_) (a' := ?_) #[true, false, false, false, false, false, false, false, false, false] rfl rfl (by kernel_rfl) (fun _ _ _ h => h) (Or.inl ⟨by rfl, ?_⟩) hHeld ?_ ?_
    rotate_left
    · rintro w' ⟨s0, s1, s2, s3, s4, s5, s6, s7⟩
      go_simp
      with_reducible rfl
    rotate_left
    · simp only [Act.put, List.setIfInBounds_toArray, List.set_cons_zero, List.set_cons_succ, i64_w, i32_w]
      rfl
    refine take_ (i := 2) (N := some 23) (v := ?_) (a' := ?_) #[true, false, true, false, false, false, false, false, false, false] rfl rfl (by kernel_rfl) (fun _ _ _ h => h) (Or.inl ⟨by rfl, ?_⟩) hHeld ?_ ?_
    rotate_left
    · rintro w' ⟨s0, s1, s2, s3, s4, s5, s6, s7⟩
      go_simp
      with_reducible rfl
    rotate_left
    · simp only [Act.put, List.setIfInBounds_toArray, List.set_cons_zero, List.set_cons_succ, i64_w, i32_w]
      rfl
    refine one_ (i := 1) (N := some 22) #[true, true, true, false, false, false, false, false, false, false] rfl rfl (by kernel_rfl) (by decide) (fun K hK => ?_)
    refine goes_ Tryd.func11 (by kernel_rfl) rfl #[.agg #[.int .i64 x.f0, .int .i64 x.f1, .string x.f2, .slice A x.f3.length c]] (by rfl) rfl rfl (by (try simp only [List.map_toArray, List.map_cons, List.map_nil]); first | done | rfl) ?_
    refine (HOX.out _ (HB3.out.up ((Below.refl _ _).drew))).mono ?_
    rintro e w4 ⟨A4, c4, rfl, hl4, hC4, HB4', HW4'⟩
    refine ⟨_, rfl, ?_⟩
    have HB4 := Lib.hid HB4'
    have HW4 := Lib.hid HW4'
    have HhC4 := Lib.hid hC4
    clear HB4' HW4' hC4
    refine hK.out _ _ ⟨cell_in HB4.out.2.1 0, cell_in HB4.out.2.1 1, cell_in HB4.out.2.1 2, cell_in HB4.out.2.1 3, cell_in HB4.out.2.2 0, cell_in HB4.out.2.2 1, cell_in HB4.out.2.2 2, cell_in HB4.out.2.2 3⟩ (fun hHeld => ?_)
    clear hK K
    refine norm_ (a' := ?_) ?_ ?_
    rotate_left
    · show Act.put _ (some 22) _ = _
      simp only [Act.put, List.setIfInBounds_toArray, List.set_cons_zero, List.set_cons_succ, i64_w, i32_w]
      rfl
    refine one_ (i := 3) (N := some 24) #[true, true, true, true, false, false, false, false, false, false] rfl rfl (by kernel_rfl) (by decide) (fun K hK => ?_)
    refine goes_ Tryd.func11 (by kernel_rfl) rfl #[.agg #[.int .i64 y.f0, .int .i64 y.f1, .string y.f2, .slice B y.f3.length d]] (by rfl) rfl rfl (by (try simp only [List.map_toArray, List.map_cons, List.map_nil]); first | done | rfl) ?_
    refine (HOY.out _ HB4.out).mono ?_
    rintro e w5 ⟨A5, c5, rfl, hl5, hC5, HB5', HW5'⟩
    refine ⟨_, rfl, ?_⟩
    have HB5 := Lib.hid HB5'
    have HW5 := Lib.hid HW5'
    have HhC5 := Lib.hid hC5
    clear HB5' HW5' hC5
    refine hK.out _ _ ⟨cell_in HB5.out.2.1 0, cell_in HB5.out.2.1 1, cell_in HB5.out.2.1 2, cell_in HB5.out.2.1 3, cell_in HB5.out.2.2 0, cell_in HB5.out.2.2 1, cell_in HB5.out.2.2 2, cell_in HB5.out.2.2 3⟩ (fun hHeld => ?_)
    clear hK K
    refine norm_ (a' := ?_) ?_ ?_
    rotate_left
    · show Act.put _ (some 24) _ = _
      simp only [Act.put, List.setIfInBounds_toArray, List.set_cons_zero, List.set_cons_succ, i64_w, i32_w]
      rfl
    refine one_ (i := 4) (N := some 25) #[true, true, true, true, true, false, false, false, false, false] rfl rfl (by kernel_rfl) (by decide) (fun K hK => ?_)
    refine goes_ Tryd.func10 (by kernel_rfl) rfl #[.agg #[.int .i64 t1.f0, .int .i64 t1.f1, .string t1.f2, .slice A4 t1.f3.length c4], .agg #[.int .i64 t2.f0, .int .i64 t2.f1, .string t2.f2, .slice A5 t2.f3.length c5]] (by rfl) rfl rfl (by (try simp only [List.map_toArray, List.map_cons, List.map_nil]); first | done | rfl) ?_
    have hmt := Match_calls t1 t2 A4 A5 c4 c5 w5 hl4 (c_below HhC4.out HW5.out) hl5 HhC5.out HWX.out HVX.out
    rw [HME.out] at hmt
    refine hmt.mono ?_
    clear hmt
    rintro e w6 hP
    obtain ⟨A6, c6, rfl, hl6, hC6, hb6⟩ := match_uni2 hP
    refine ⟨_, rfl, ?_⟩
    have HB6 := Lib.hid (HB5.out.up hb6)
    have HC6 := Lib.hid hC6
    clear hP hb6 hC6
    refine hK.out _ _ ⟨cell_in HB6.out.2.1 0, cell_in HB6.out.2.1 1, cell_in HB6.out.2.1 2, cell_in HB6.out.2.1 3, cell_in HB6.out.2.2 0, cell_in HB6.out.2.2 1, cell_in HB6.out.2.2 2, cell_in HB6.out.2.2 3⟩ (fun hHeld => ?_)
    clear hK K
    refine norm_ (a' := ?_) ?_ ?_
    rotate_left
    · show Act.put _ (some 25) _ = _
      simp only [Act.put, List.setIfInBounds_toArray, List.set_cons_zero, List.set_cons_succ, i64_w, i32_w]
      rfl
    refine pure_ (i := 5) (N := some 20) (v := ?_) (a' := ?_) #[true, true, true, true, true, true, false, false, false, false] rfl rfl (by kernel_rfl) (fun _ _ _ h => h) (Or.inl ⟨by rfl, ?_⟩) ?_ ?_
    rotate_left
    · intro w'
      go_simp
      with_reducible rfl
    rotate_left
    · simp only [Act.put, List.setIfInBounds_toArray, List.set_cons_zero, List.set_cons_succ, i64_w, i32_w]
      rfl
    refine pure_ (i := 6) (N := some 26) (v := ?_) (a' := ?_) #[true, true, true, true, true, true, true, false, false, false] rfl rfl (by kernel_rfl) (fun _ _ _ h => h) (Or.inl ⟨by rfl, ?_⟩) ?_ ?_
    rotate_left
    · intro w'
      go_simp
      with_reducible rfl
    rotate_left
    · simp only [Act.put, List.setIfInBounds_toArray, List.set_cons_zero, List.set_cons_succ, i64_w, i32_w]
      rfl
    refine pure_ (i := 7) (N := some 27) (v := ?_) (a' := ?_) #[true, true, true, true, true, true, true, true, false, false] rfl rfl (by kernel_rfl) (fun _ _ _ h => h) (Or.inl ⟨by rfl, ?_⟩) ?_ ?_
    rotate_left
    · intro w'
      go_simp
      with_reducible rfl
    rotate_left
    · simp only [Act.put, List.setIfInBounds_toArray, List.set_cons_zero, List.set_cons_succ, i64_w, i32_w]
      rfl
    refine pure_ (i := 8) (N := some 9) (v := ?_) (a' := ?_) #[true, true, true, true, true, true, true, true, true, false] rfl rfl (by kernel_rfl) (fun _ _ _ h => h) (Or.inl ⟨by rfl, ?_⟩) ?_ ?_
    rotate_left
    · intro w'
      go_simp
      with_reducible rfl
    rotate_left
    · simp only [Act.put, List.setIfInBounds_toArray, List.set_cons_zero, List.set_cons_succ, i64_w, i32_w]
      rfl
    refine pure_ (i := 9) (N := some 10) (v := ?_) (a' := ?_) #[true, true, true, true, true, true, true, true, true, true] rfl rfl (by kernel_rfl) (fun _ _ _ h => h) (Or.inl ⟨by rfl, ?_⟩) ?_ ?_
    rotate_left
    · intro w'
      go_simp
      with_reducible rfl
    rotate_left
    · simp only [Act.put, List.setIfInBounds_toArray, List.set_cons_zero, List.set_cons_succ, i64_w, i32_w]
      rfl
    refine done_ (by kernel_rfl) ?_
    clear hHeld x0 x1 x2 x3 y0 y1 y2 y3
    have hrl : ∀ z, z ∈ (rMatchB x y).getD [] → few24 400 z := HRF.out
    have x0 := cell_in HB6.out.2.1 0
    have x1 := cell_in HB6.out.2.1 1
    have x2 := cell_in HB6.out.2.1 2
    have x3 := cell_in HB6.out.2.1 3
    have y0 := cell_in HB6.out.2.2 0
    have y1 := cell_in HB6.out.2.2 1
    have y2 := cell_in HB6.out.2.2 2
    have y3 := cell_in HB6.out.2.2 3
    go_wp2_with fail
    refine (RMatch_calls x y A B c d w6 hc (Kd.C_below HC.out HB6.out.1) hd (Kd.C_below HD.out HB6.out.1) (by have := HNX.out; omega)).mono ?_
    rintro e w7 hP
    obtain ⟨A7, c7, rfl, hl7, hC7, hb7⟩ := rmatch_uni hP
    have HB7 := Lib.hid (HB6.out.up hb7)
    have HC67 := Lib.hid (Kd.C_below HC6.out hb7)
    have HC7 := Lib.hid hC7
    clear hP hb7 hC7 hrl x0 x1 x2 x3 y0 y1 y2 y3
    generalize hL : (rMatchB x y).getD [] = L at HRF HC67 HC7 hl6 hl7 ⊢
    generalize (rMatchB x y).isSome = okk
    have hLl : L.length ≤ 9223372036854775807 := HC7.out.2.1
    clear HC6 hL HW4 HW5 HhC4 HhC5 hl4 hl5
    go_upto_block 0 with (fail)
    go_cut [13] (fun s13 wx => Hid (Below w7.heap.size w7 wx))
    case first =>
      go_wp2_with fail
      go_loopw [13] (fun s13 wr => ∃ kk : Nat, kk ≤ L.length ∧ s13 = .int .i64 kk ∧ Hid (Below w7.heap.size w7 wr)) (fun s13 _ => L.length - (intOf s13).toNat)
      case atStart => exact ⟨0, by omega, rfl, Lib.hid (Below.refl _ _)⟩
      case round =>
        obtain ⟨kk, hkk, rfl, HBR⟩ := hrel
        by_cases hlt : kk < L.length
        · have hltz : (kk : Int) < (L.length : Int) := by omega
          obtain ⟨ad, A3, c3, hAd, h0, h1, h2, h3, hl3, hC3⟩ := at_T31 (Kd.C_below HC67.out HBR.out) (kk : Int) (by omega) hltz
          obtain ⟨bd, B3, d3, hBd, g0, g1, g2, g3, gl3, gC3⟩ := at_T24 (Kd.C_below HC7.out HBR.out) (kk : Int) (by omega) hltz
          have hrx : rd_T31 (L.map (ownN 400)) (kk : Int) = ownN 400 L[kk] := by
            show (L.map (ownN 400)).getD ((kk : Int)).toNat z31 = _
            rw [Int.toNat_natCast, List.getD_eq_getElem?_getD, List.getElem?_map, List.getElem?_eq_getElem hlt]
            rfl
          have hrl : rd_T24 L (kk : Int) = L[kk] := by rw [rd24, List.getD_eq_getElem?_getD, List.getElem?_eq_getElem hlt]; rfl
          have hfu := HRF.out L[kk] (List.getElem_mem hlt)
          rw [Int.toNat_natCast] at h0 h1 h2 h3 g0 g1 g2 g3
          rw [hrx] at h0 h1 h2 h3 hl3 hC3
          rw [hrl] at g0 g1 g2 g3 gl3 gC3
          subst hAd
          subst hBd
          clear hrx hrl
          generalize L[kk] = u at h0 h1 h2 h3 hl3 hC3 g0 g1 g2 g3 gl3 gC3 hfu
          obtain ⟨kr, hkr⟩ := ref_ex 400 u hfu
          have hss : rsame u u = true := sameN_self 400 _ (dep_own 400 u hfu)
          generalize ownN 400 u = p at h0 h1 h2 h3 hl3 hC3 hkr
          have hrf : ∀ W, Below wr.heap.size wr W → Calls Tryd.prog 14 #[.agg #[.int .i64 p.f0, .int .i64 p.f1, .string p.f2, .slice A3 p.f3.length c3]] W fun e w' => ∃ A c, e = .returned (.agg #[.int .i64 u.f0, .int .i64 u.f1, .string u.f2, .slice A u.f3.length c]) ∧ u.f3.length ≤ c ∧ k24.C w' A u.f3.length u.f3 ∧ Below wr.heap.size wr w' := fun W hW => (hammocklaw09_Ref.calls kr p.f0 p.f1 p.f2 A3 c3 p.f3 u.f0 u.f1 u.f2 u.f3 W (c_below hC3 hW) hl3 hkr).mono (by
            rintro e w' ⟨v, rfl, hR, hb⟩
            obtain ⟨A', c', rfl, hl', hC'⟩ := Kd.R_reads hR
            exact ⟨A', c', rfl, hl', hC', bel2 hW hb⟩)
          have hsa : ∀ W A c, Below wr.heap.size wr W → u.f3.length ≤ c → k24.C W A u.f3.length u.f3 → Calls Tryd.prog 13 #[.agg #[.int .i64 u.f0, .int .i64 u.f1, .string u.f2, .slice A u.f3.length c], .agg #[.int .i64 u.f0, .int .i64 u.f1, .string u.f2, .slice B3 u.f3.length d3]] W fun e w' => e = .returned (.bool true) ∧ Below wr.heap.size wr w' := fun W A c hW hl hC => by
            have h := rsame_calls u u A B3 c d3 W hfu hl hC gl3 (c24_below gC3 hW)
            rw [hss] at h
            exact h.mono (fun e w' ⟨h1, h2⟩ => ⟨h1, bel2 hW h2⟩)
          have HRFN := Lib.hid hrf
          have HSAM := Lib.hid hsa
          clear hrf hsa hC3 gC3 hss hkr hfu
          go_wp2_with fail
          refine start_ (n := 11) (S := fun w' => w'.cell? (ad.add (kk * 4)) = some (.int .i64 p.f0) ∧ w'.cell? ⟨(ad.add (kk * 4)).block, (ad.add (kk * 4)).off + 1, none⟩ = some (.int .i64 p.f1) ∧ w'.cell? ⟨(ad.add (kk * 4)).block, (ad.add (kk * 4)).off + 2, none⟩ = some (.string p.f2) ∧ w'.cell? ⟨(ad.add (kk * 4)).block, (ad.add (kk * 4)).off + 3, none⟩ = some (.slice A3 p.f3.length c3) ∧ w'.cell? (bd.add (kk * 4)) = some (.int .i64 u.f0) ∧ w'.cell? ⟨(bd.add (kk * 4)).block, (bd.add (kk * 4)).off + 1, none⟩ = some (.int .i64 u.f1) ∧ w'.cell? ⟨(bd.add (kk * 4)).block, (bd.add (kk * 4)).off + 2, none⟩ = some (.string u.f2) ∧ w'.cell? ⟨(bd.add (kk * 4)).block, (bd.add (kk * 4)).off + 3, none⟩ = some (.slice B3 u.f3.length d3)) (ds := []) #[false, false, false, false, false, false, false, false, false, false, false] (by kernel_rfl) rfl rfl ⟨h0, h1, h2, h3, g0, g1, g2, g3⟩ (fun hHeld => ?_)
          refine pure_ (i := 0) (N := some 50) (v := ?_) (a' := ?_) #[true, false, false, false, false, false, false, false, false, false, false] rfl rfl (by kernel_rfl) (fun _ _ _ h => h) (Or.inl ⟨by rfl, ?_⟩) ?_ ?_
          rotate_left
          · intro w'
            go_simp
            with_reducible rfl
          rotate_left
          · simp only [Act.put, List.setIfInBounds_toArray, List.set_cons_zero, List.set_cons_succ, i64_w, i32_w]
            rfl
          refine pure_ (i := 1) (N := some 51) (v := ?_) (a' := ?_) #[true, true, false, false, false, false, false, false, false, false, false] rfl rfl (by kernel_rfl) (fun _ _ _ h => h) (Or.inl ⟨by rfl, ?_⟩) ?_ ?_
          rotate_left
          · intro w'
            go_simp
            with_reducible rfl
          rotate_left
          · simp only [Act.put, List.setIfInBounds_toArray, List.set_cons_zero, List.set_cons_succ, i64_w, i32_w]
            rfl
          refine pure_ (i := 2) (N := some 52) (v := ?_) (a' := ?_) #[true, true, true, false, false, false, false, false, false, false, false] rfl rfl (by kernel_rfl) (fun _ _ _ h => h) (Or.inl ⟨by rfl, ?_⟩) ?_ ?_
          rotate_left
          · intro w'
            go_simp
            with_reducible rfl
          rotate_left
          · simp only [Act.put, List.setIfInBounds_toArray, List.set_cons_zero, List.set_cons_succ, i64_w, i32_w]
            rfl
          refine take_ (i := 3) (N := some 53) (v := ?_) (a' := ?_) #[true, true, true, true, false, false, false, false, false, false, false] rfl rfl (by kernel_rfl) (fun _ _ _ h => h) (Or.inl ⟨by rfl, ?_⟩) hHeld ?_ ?_
          rotate_left
          · rintro w' ⟨s0, s1, s2, s3, s4, s5, s6, s7⟩
            go_simp
            with_reducible rfl
          rotate_left
          · simp only [Act.put, List.setIfInBounds_toArray, List.set_cons_zero, List.set_cons_succ, i64_w, i32_w]
            rfl
          refine pure_ (i := 5) (N := some 55) (v := ?_) (a' := ?_) #[true, true, true, true, false, true, false, false, false, false, false] rfl rfl (by kernel_rfl) (fun _ _ _ h => h) (Or.inl ⟨by rfl, ?_⟩) ?_ ?_
          rotate_left
          · intro w'
            go_simp
            with_reducible rfl
          rotate_left
          · simp only [Act.put, List.setIfInBounds_toArray, List.set_cons_zero, List.set_cons_succ, i64_w, i32_w]
            rfl
          refine pure_ (i := 6) (N := some 56) (v := ?_) (a' := ?_) #[true, true, true, true, false, true, true, false, false, false, false] rfl rfl (by kernel_rfl) (fun _ _ _ h => h) (Or.inl ⟨by rfl, ?_⟩) ?_ ?_
          rotate_left
          · intro w'
            go_simp
            with_reducible rfl
          rotate_left
          · simp only [Act.put, List.setIfInBounds_toArray, List.set_cons_zero, List.set_cons_succ, i64_w, i32_w]
            rfl
          refine pure_ (i := 7) (N := some 57) (v := ?_) (a' := ?_) #[true, true, true, true, false, true, true, true, false, false, false] rfl rfl (by kernel_rfl) (fun _ _ _ h => h) (Or.inl ⟨by rfl, ?_⟩) ?_ ?_
          rotate_left
          · intro w'
            go_simp
            with_reducible rfl
          rotate_left
          · simp only [Act.put, List.setIfInBounds_toArray, List.set_cons_zero, List.set_cons_succ, i64_w, i32_w]
            rfl
          refine take_ (i := 8) (N := some 58) (v := ?_) (a' := ?_) #[true, true, true, true, false, true, true, true, true, false, false] rfl rfl (by kernel_rfl) (fun _ _ _ h => h) (Or.inl ⟨by rfl, ?_⟩) hHeld ?_ ?_
          rotate_left
          · rintro w' ⟨s0, s1, s2, s3, s4, s5, s6, s7⟩
            go_simp
            with_reducible rfl
          rotate_left
          · simp only [Act.put, List.setIfInBounds_toArray, List.set_cons_zero, List.set_cons_succ, i64_w, i32_w]
            rfl
          refine one_ (i := 4) (N := some 54) #[true, true, true, true, true, true, true, true, true, false, false] rfl rfl (by kernel_rfl) (by decide) (fun K hK => ?_)
          refine goes_ Tryd.func14 (by kernel_rfl) rfl #[.agg #[.int .i64 p.f0, .int .i64 p.f1, .string p.f2, .slice A3 p.f3.length c3]] (by rfl) rfl rfl (by (try simp only [List.map_toArray, List.map_cons, List.map_nil]); first | done | rfl) ?_
          refine (HRFN.out _ ((Below.refl _ _).drew)).mono ?_
          rintro e v3 ⟨A8, c8, rfl, hl8, hC8, hb8⟩
          refine ⟨_, rfl, ?_⟩
          refine hK.out _ _ ⟨pw_cell_below hb8 h0, pw_cell_below hb8 h1, pw_cell_below hb8 h2, pw_cell_below hb8 h3, pw_cell_below hb8 g0, pw_cell_below hb8 g1, pw_cell_below hb8 g2, pw_cell_below hb8 g3⟩ (fun hHeld => ?_)
          clear hK K
          refine norm_ (a' := ?_) ?_ ?_
          rotate_left
          · show Act.put _ (some 54) _ = _
            simp only [Act.put, List.setIfInBounds_toArray, List.set_cons_zero, List.set_cons_succ, i64_w, i32_w]
            rfl
          refine one_ (i := 9) (N := some 59) #[true, true, true, true, true, true, true, true, true, true, false] rfl rfl (by kernel_rfl) (by decide) (fun K hK => ?_)
          refine goes_ Tryd.func13 (by kernel_rfl) rfl #[.agg #[.int .i64 u.f0, .int .i64 u.f1, .string u.f2, .slice A8 u.f3.length c8], .agg #[.int .i64 u.f0, .int .i64 u.f1, .string u.f2, .slice B3 u.f3.length d3]] (by rfl) rfl rfl (by (try simp only [List.map_toArray, List.map_cons, List.map_nil]); first | done | rfl) ?_
          refine (HSAM.out _ A8 c8 hb8 hl8 hC8).mono ?_
          rintro e v5 ⟨rfl, hb9⟩
          refine ⟨_, rfl, ?_⟩
          refine hK.out _ _ ⟨pw_cell_below hb9 h0, pw_cell_below hb9 h1, pw_cell_below hb9 h2, pw_cell_below hb9 h3, pw_cell_below hb9 g0, pw_cell_below hb9 g1, pw_cell_below hb9 g2, pw_cell_below hb9 g3⟩ (fun hHeld => ?_)
          clear hK K
          refine norm_ (a' := ?_) ?_ ?_
          rotate_left
          · show Act.put _ (some 59) _ = _
            simp only [Act.put, List.setIfInBounds_toArray, List.set_cons_zero, List.set_cons_succ, i64_w, i32_w]
            rfl
          refine pure_ (i := 10) (N := some 60) (v := ?_) (a' := ?_) #[true, true, true, true, true, true, true, true, true, true, true] rfl rfl (by kernel_rfl) (fun _ _ _ h => h) (Or.inl ⟨by rfl, ?_⟩) ?_ ?_
          rotate_left
          · intro w'
            go_simp
            with_reducible rfl
          rotate_left
          · simp only [Act.put, List.setIfInBounds_toArray, List.set_cons_zero, List.set_cons_succ, i64_w, i32_w]
            rfl
          refine done_ (by kernel_rfl) ?_
          clear hHeld
          go_wp2_with fail
          go_roundw
          case rel => exact ⟨kk + 1, by omega, by go_num, Lib.hid (bel2 HBR.out hb9)⟩
          case measure => simp [intOf]; omega
        · have hltz : ¬ (kk : Int) < (L.length : Int) := by omega
          go_wp2_with fail
          go_meet
          exact HBR
    case rest =>
      obtain ⟨rv, hrv⟩ : ∃ rv, rMoreB n x m y = rv := ⟨_, rfl⟩
      rw [hrv] at HMO
      have HRV := Lib.hid hrv
      clear hrv
      have HBZ := Lib.hid (HB7.out.up hcut.out)
      clear hcut HC67 HC7 HB7 HB6 HB5 HB4 HB3
      have x0 := cell_in HBZ.out.2.1 0
      have x1 := cell_in HBZ.out.2.1 1
      have x2 := cell_in HBZ.out.2.1 2
      have x3 := cell_in HBZ.out.2.1 3
      have y0 := cell_in HBZ.out.2.2 0
      have y1 := cell_in HBZ.out.2.2 1
      have y2 := cell_in HBZ.out.2.2 2
      have y3 := cell_in HBZ.out.2.2 3
      go_wp2_with fail
      refine start_ (n := 21) (S := fun w' => w'.cell? ⟨w.heap.size, 0, none⟩ = some (.int .i64 x.f0) ∧ w'.cell? ⟨w.heap.size, 1, none⟩ = some (.int .i64 x.f1) ∧ w'.cell? ⟨w.heap.size, 2, none⟩ = some (.string x.f2) ∧ w'.cell? ⟨w.heap.size, 3, none⟩ = some (.slice A x.f3.length c) ∧ w'.cell? ⟨w.heap.size + 1, 0, none⟩ = some (.int .i64 y.f0) ∧ w'.cell? ⟨w.heap.size + 1, 1, none⟩ = some (.int .i64 y.f1) ∧ w'.cell? ⟨w.heap.size + 1, 2, none⟩ = some (.string y.f2) ∧ w'.cell? ⟨w.heap.size + 1, 3, none⟩ = some (.slice B y.f3.length d)) (ds := []) #[false, false, false, false, false, false, false, false, false, false, false, false, false, false, false, false, false, false, false, false, false] (by kernel_rfl) rfl rfl ⟨x0, x1, x2, x3, y0, y1, y2, y3⟩ (fun hHeld => ?_)
      refine pure_ (i := 0) (N := some 61) (v := ?_) (a' := ?_) #[true, false, false, false, false, false, false, false, false, false, false, false, false, false, false, false, false, false, false, false, false] rfl rfl (by kernel_rfl) (fun _ _ _ h => h) (Or.inl ⟨by rfl, ?_⟩) ?_ ?_
      rotate_left
      · intro w'
        go_simp
        with_reducible rfl
      rotate_left
      · simp only [Act.put, List.setIfInBounds_toArray, List.set_cons_zero, List.set_cons_succ, i64_w, i32_w]
        rfl
      refine take_ (i := 1) (N := some 62) (v := ?_) (a' := ?_) #[true, true, false, false, false, false, false, false, false, false, false, false, false, false, false, false, false, false, false, false, false] rfl rfl (by kernel_rfl) (fun _ _ _ h => h) (Or.inl ⟨by rfl, ?_⟩) hHeld ?_ ?_
      rotate_left
      · rintro w' ⟨s0, s1, s2, s3, s4, s5, s6, s7⟩
        go_simp
        with_reducible rfl
      rotate_left
      · simp only [Act.put, List.setIfInBounds_toArray, List.set_cons_zero, List.set_cons_succ, i64_w, i32_w]
        rfl
      refine pure_ (i := 4) (N := some 65) (v := ?_) (a' := ?_) #[true, true, false, false, true, false, false, false, false, false, false, false, false, false, false, false, false, false, false, false, false] rfl rfl (by kernel_rfl) (fun _ _ _ h => h) (Or.inl ⟨by rfl, ?_⟩) ?_ ?_
      rotate_left
      · intro w'
        go_simp
        with_reducible rfl
      rotate_left
      · simp only [Act.put, List.setIfInBounds_toArray, List.set_cons_zero, List.set_cons_succ, i64_w, i32_w]
        rfl
      refine take_ (i := 5) (N := some 66) (v := ?_) (a' := ?_) #[true, true, false, false, true, true, false, false, false, false, false, false, false, false, false, false, false, false, false, false, false] rfl rfl (by kernel_rfl) (fun _ _ _ h => h) (Or.inl ⟨by rfl, ?_⟩) hHeld ?_ ?_
      rotate_left
      · rintro w' ⟨s0, s1, s2, s3, s4, s5, s6, s7⟩
        go_simp
        with_reducible rfl
      rotate_left
      · simp only [Act.put, List.setIfInBounds_toArray, List.set_cons_zero, List.set_cons_succ, i64_w, i32_w]
        rfl
      refine pure_ (i := 9) (N := some 70) (v := ?_) (a' := ?_) #[true, true, false, false, true, true, false, false, false, true, false, false, false, false, false, false, false, false, false, false, false] rfl rfl (by kernel_rfl) (fun _ _ _ h => h) (Or.inl ⟨by rfl, ?_⟩) ?_ ?_
      rotate_left
      · intro w'
        go_simp
        with_reducible rfl
      rotate_left
      · simp only [Act.put, List.setIfInBounds_toArray, List.set_cons_zero, List.set_cons_succ, i64_w, i32_w]
        rfl
      refine take_ (i := 10) (N := some 71) (v := ?_) (a' := ?_) #[true, true, false, false, true, true, false, false, false, true, true, false, false, false, false, false, false, false, false, false, false] rfl rfl (by kernel_rfl) (fun _ _ _ h => h) (Or.inl ⟨by rfl, ?_⟩) hHeld ?_ ?_
      rotate_left
      · rintro w' ⟨s0, s1, s2, s3, s4, s5, s6, s7⟩
        go_simp
        with_reducible rfl
      rotate_left
      · simp only [Act.put, List.setIfInBounds_toArray, List.set_cons_zero, List.set_cons_succ, i64_w, i32_w]
        rfl
      refine pure_ (i := 11) (N := some 72) (v := ?_) (a' := ?_) #[true, true, false, false, true, true, false, false, false, true, true, true, false, false, false, false, false, false, false, false, false] rfl rfl (by kernel_rfl) (fun _ _ _ h => h) (Or.inl ⟨by rfl, ?_⟩) ?_ ?_
      rotate_left
      · intro w'
        go_simp
        with_reducible rfl
      rotate_left
      · simp only [Act.put, List.setIfInBounds_toArray, List.set_cons_zero, List.set_cons_succ, i64_w, i32_w]
        rfl
      refine pure_ (i := 12) (N := some 73) (v := ?_) (a' := ?_) #[true, true, false, false, true, true, false, false, false, true, true, true, true, false, false, false, false, false, false, false, false] rfl rfl (by kernel_rfl) (fun _ _ _ h => h) (Or.inl ⟨by rfl, ?_⟩) ?_ ?_
      rotate_left
      · intro w'
        go_simp
        with_reducible rfl
      rotate_left
      · simp only [Act.put, List.setIfInBounds_toArray, List.set_cons_zero, List.set_cons_succ, i64_w, i32_w]
        rfl
      refine take_ (i := 13) (N := some 74) (v := ?_) (a' := ?_) #[true, true, false, false, true, true, false, false, false, true, true, true, true, true, false, false, false, false, false, false, false] rfl rfl (by kernel_rfl) (fun _ _ _ h => h) (Or.inl ⟨by rfl, ?_⟩) hHeld ?_ ?_
      rotate_left
      · rintro w' ⟨s0, s1, s2, s3, s4, s5, s6, s7⟩
        go_simp
        with_reducible rfl
      rotate_left
      · simp only [Act.put, List.setIfInBounds_toArray, List.set_cons_zero, List.set_cons_succ, i64_w, i32_w]
        rfl
      refine pure_ (i := 14) (N := some 75) (v := ?_) (a' := ?_) #[true, true, false, false, true, true, false, false, false, true, true, true, true, true, true, false, false, false, false, false, false] rfl rfl (by kernel_rfl) (fun _ _ _ h => h) (Or.inl ⟨by rfl, ?_⟩) ?_ ?_
      rotate_left
      · intro w'
        go_simp
        with_reducible rfl
      rotate_left
      · simp only [Act.put, List.setIfInBounds_toArray, List.set_cons_zero, List.set_cons_succ, i64_w, i32_w]
        rfl
      refine one_ (i := 2) (N := some 63) #[true, true, true, false, true, true, false, false, false, true, true, true, true, true, true, false, false, false, false, false, false] rfl rfl (by kernel_rfl) (by decide) (fun K hK => ?_)
      refine goes_ Tryd.func11 (by kernel_rfl) rfl #[.agg #[.int .i64 x.f0, .int .i64 x.f1, .string x.f2, .slice A x.f3.length c]] (by rfl) rfl rfl (by (try simp only [List.map_toArray, List.map_cons, List.map_nil]); first | done | rfl) ?_
      refine (HOX.out _ (HBZ.out.up ((Below.refl _ _).drew))).mono ?_
      rintro e p4 ⟨E4, e4, rfl, kl4, kC4, KB4', KW4'⟩
      refine ⟨_, rfl, ?_⟩
      have KB4 := Lib.hid KB4'
      have KW4 := Lib.hid KW4'
      have HkC4 := Lib.hid kC4
      clear KB4' KW4' kC4
      refine hK.out _ _ ⟨cell_in KB4.out.2.1 0, cell_in KB4.out.2.1 1, cell_in KB4.out.2.1 2, cell_in KB4.out.2.1 3, cell_in KB4.out.2.2 0, cell_in KB4.out.2.2 1, cell_in KB4.out.2.2 2, cell_in KB4.out.2.2 3⟩ (fun hHeld => ?_)
      clear hK K
      refine norm_ (a' := ?_) ?_ ?_
      rotate_left
      · show Act.put _ (some 63) _ = _
        simp only [Act.put, List.setIfInBounds_toArray, List.set_cons_zero, List.set_cons_succ, i64_w, i32_w]
        rfl
      refine pure_ (i := 3) (N := some 64) (v := ?_) (a' := ?_) #[true, true, true, true, true, true, false, false, false, true, true, true, true, true, true, false, false, false, false, false, false] rfl rfl (by kernel_rfl) (fun _ _ _ h => h) (Or.inl ⟨by rfl, ?_⟩) ?_ ?_
      rotate_left
      · intro w'
        go_simp
        with_reducible rfl
      rotate_left
      · simp only [Act.put, List.setIfInBounds_toArray, List.set_cons_zero, List.set_cons_succ, i64_w, i32_w]
        rfl
      refine one_ (i := 6) (N := some 67) #[true, true, true, true, true, true, true, false, false, true, true, true, true, true, true, false, false, false, false, false, false] rfl rfl (by kernel_rfl) (by decide) (fun K hK => ?_)
      refine goes_ Tryd.func11 (by kernel_rfl) rfl #[.agg #[.int .i64 y.f0, .int .i64 y.f1, .string y.f2, .slice B y.f3.length d]] (by rfl) rfl rfl (by (try simp only [List.map_toArray, List.map_cons, List.map_nil]); first | done | rfl) ?_
      refine (HOY.out _ KB4.out).mono ?_
      rintro e p5 ⟨E5, e5, rfl, kl5, kC5, KB5', KW5'⟩
      refine ⟨_, rfl, ?_⟩
      have KB5 := Lib.hid KB5'
      have KW5 := Lib.hid KW5'
      have HkC5 := Lib.hid kC5
      clear KB5' KW5' kC5
      refine hK.out _ _ ⟨cell_in KB5.out.2.1 0, cell_in KB5.out.2.1 1, cell_in KB5.out.2.1 2, cell_in KB5.out.2.1 3, cell_in KB5.out.2.2 0, cell_in KB5.out.2.2 1, cell_in KB5.out.2.2 2, cell_in KB5.out.2.2 3⟩ (fun hHeld => ?_)
      clear hK K
      refine norm_ (a' := ?_) ?_ ?_
      rotate_left
      · show Act.put _ (some 67) _ = _
        simp only [Act.put, List.setIfInBounds_toArray, List.set_cons_zero, List.set_cons_succ, i64_w, i32_w]
        rfl
      refine pure_ (i := 7) (N := some 68) (v := ?_) (a' := ?_) #[true, true, true, true, true, true, true, true, false, true, true, true, true, true, true, false, false, false, false, false, false] rfl rfl (by kernel_rfl) (fun _ _ _ h => h) (Or.inl ⟨by rfl, ?_⟩) ?_ ?_
      rotate_left
      · intro w'
        go_simp
        with_reducible rfl
      rotate_left
      · simp only [Act.put, List.setIfInBounds_toArray, List.set_cons_zero, List.set_cons_succ, i64_w, i32_w]
        rfl
      refine one_ (i := 8) (N := some 69) #[true, true, true, true, true, true, true, true, true, true, true, true, true, true, true, false, false, false, false, false, false] rfl rfl (by kernel_rfl) (by decide) (fun K hK => ?_)
      refine goes_ Tryd.func15 (by kernel_rfl) rfl #[.agg #[.int .i64 n, .int .i64 t1.f0, .int .i64 t1.f1, .string t1.f2, .slice E4 t1.f3.length e4], .agg #[.int .i64 m, .int .i64 t2.f0, .int .i64 t2.f1, .string t2.f2, .slice E5 t2.f3.length e5]] (by rfl) rfl rfl (by (try simp only [List.map_toArray, List.map_cons, List.map_nil]); first | done | rfl) ?_
      have hmm := More_calls n m t1 t2 E4 E5 e4 e5 p5 kl4 (c_below HkC4.out KW5.out) kl5 HkC5.out HWX.out HVX.out HWY.out
      rw [HMO.out] at hmm
      refine hmm.mono ?_
      clear hmm
      rintro e p6 ⟨rfl, hb6⟩
      refine ⟨_, rfl, ?_⟩
      have KB6 := Lib.hid (KB5.out.up hb6)
      clear hb6
      refine hK.out _ _ ⟨cell_in KB6.out.2.1 0, cell_in KB6.out.2.1 1, cell_in KB6.out.2.1 2, cell_in KB6.out.2.1 3, cell_in KB6.out.2.2 0, cell_in KB6.out.2.2 1, cell_in KB6.out.2.2 2, cell_in KB6.out.2.2 3⟩ (fun hHeld => ?_)
      clear hK K
      refine norm_ (a' := ?_) ?_ ?_
      rotate_left
      · show Act.put _ (some 69) _ = _
        simp only [Act.put, List.setIfInBounds_toArray, List.set_cons_zero, List.set_cons_succ, i64_w, i32_w]
        rfl
      refine one_ (i := 15) (N := some 76) #[true, true, true, true, true, true, true, true, true, true, true, true, true, true, true, true, false, false, false, false, false] rfl rfl (by kernel_rfl) (by decide) (fun K hK => ?_)
      refine goes_ Tryd.func16 (by kernel_rfl) rfl #[.agg #[.int .i64 n, .int .i64 x.f0, .int .i64 x.f1, .string x.f2, .slice A x.f3.length c], .agg #[.int .i64 m, .int .i64 y.f0, .int .i64 y.f1, .string y.f2, .slice B y.f3.length d]] (by rfl) rfl rfl (by (try simp only [List.map_toArray, List.map_cons, List.map_nil]); first | done | rfl) ?_
      have hmm := RMore_calls n m x y A B c d p6 HFX.out HFY.out (by have := HNX.out; omega) (by have := HNY.out; omega) hc (Kd.C_below HC.out KB6.out.1) hd (Kd.C_below HD.out KB6.out.1)
      rw [HRV.out] at hmm
      refine hmm.mono ?_
      clear hmm
      rintro e p7 ⟨rfl, hb7⟩
      refine ⟨_, rfl, ?_⟩
      have KB7 := Lib.hid (KB6.out.up hb7)
      clear hb7
      refine hK.out _ _ ⟨cell_in KB7.out.2.1 0, cell_in KB7.out.2.1 1, cell_in KB7.out.2.1 2, cell_in KB7.out.2.1 3, cell_in KB7.out.2.2 0, cell_in KB7.out.2.2 1, cell_in KB7.out.2.2 2, cell_in KB7.out.2.2 3⟩ (fun hHeld => ?_)
      clear hK K
      refine norm_ (a' := ?_) ?_ ?_
      rotate_left
      · show Act.put _ (some 76) _ = _
        simp only [Act.put, List.setIfInBounds_toArray, List.set_cons_zero, List.set_cons_succ, i64_w, i32_w]
        rfl
      refine pure_ (i := 16) (N := some 77) (v := ?_) (a' := ?_) #[true, true, true, true, true, true, true, true, true, true, true, true, true, true, true, true, true, false, false, false, false] rfl rfl (by kernel_rfl) (fun _ _ _ h => h) (Or.inl ⟨by rfl, ?_⟩) ?_ ?_
      rotate_left
      · intro w'
        go_simp
        with_reducible rfl
      rotate_left
      · simp only [Act.put, List.setIfInBounds_toArray, List.set_cons_zero, List.set_cons_succ, i64_w, i32_w]
        rfl
      refine pure_ (i := 17) (N := some 78) (v := ?_) (a' := ?_) #[true, true, true, true, true, true, true, true, true, true, true, true, true, true, true, true, true, true, false, false, false] rfl rfl (by kernel_rfl) (fun _ _ _ h => h) (Or.inl ⟨by rfl, ?_⟩) ?_ ?_
      rotate_left
      · intro w'
        go_simp
        with_reducible rfl
      rotate_left
      · simp only [Act.put, List.setIfInBounds_toArray, List.set_cons_zero, List.set_cons_succ, i64_w, i32_w]
        rfl
      refine one_ (i := 18) (N := some 79) #[true, true, true, true, true, true, true, true, true, true, true, true, true, true, true, true, true, true, true, false, false] rfl rfl (by kernel_rfl) (by decide) (fun K hK => ?_)
      refine goes_ Tryd.func9 (by kernel_rfl) rfl #[] (by rfl) rfl rfl (by (try simp only [List.map_toArray, List.map_cons, List.map_nil]); first | done | rfl) ?_
      refine (knows_calls p7 (HT.out.below KB7.out.1)).mono ?_
      rintro e p8 ⟨rfl, hb8⟩
      refine ⟨_, rfl, ?_⟩
      have KB8 := Lib.hid (KB7.out.up hb8)
      clear hb8
      refine hK.out _ _ ⟨cell_in KB8.out.2.1 0, cell_in KB8.out.2.1 1, cell_in KB8.out.2.1 2, cell_in KB8.out.2.1 3, cell_in KB8.out.2.2 0, cell_in KB8.out.2.2 1, cell_in KB8.out.2.2 2, cell_in KB8.out.2.2 3⟩ (fun hHeld => ?_)
      clear hK K
      refine norm_ (a' := ?_) ?_ ?_
      rotate_left
      · show Act.put _ (some 79) _ = _
        simp only [Act.put, List.setIfInBounds_toArray, List.set_cons_zero, List.set_cons_succ, i64_w, i32_w]
        rfl
      refine pure_ (i := 19) (N := some 80) (v := ?_) (a' := ?_) #[true, true, true, true, true, true, true, true, true, true, true, true, true, true, true, true, true, true, true, true, false] rfl rfl (by kernel_rfl) (fun _ _ _ h => h) (Or.inl ⟨by rfl, ?_⟩) ?_ ?_
      rotate_left
      · intro w'
        go_simp
        with_reducible rfl
      rotate_left
      · simp only [Act.put, List.setIfInBounds_toArray, List.set_cons_zero, List.set_cons_succ, i64_w, i32_w]
        rfl
      refine pure_ (i := 20) (N := some 8) (v := ?_) (a' := ?_) #[true, true, true, true, true, true, true, true, true, true, true, true, true, true, true, true, true, true, true, true, true] rfl rfl (by kernel_rfl) (fun _ _ _ h => h) (Or.inl ⟨by rfl, ?_⟩) ?_ ?_
      rotate_left
      · intro w'
        go_simp
        with_reducible rfl
      rotate_left
      · simp only [Act.put, List.setIfInBounds_toArray, List.set_cons_zero, List.set_cons_succ, i64_w, i32_w]
        rfl
      refine done_ (by kernel_rfl) ?_
      clear hHeld
      go_wp2_with fail
      go_ret
      exact ⟨rfl, KB8.out.1⟩
end Go.Proofs.YtddmdiaopaoekaaDoor.P
