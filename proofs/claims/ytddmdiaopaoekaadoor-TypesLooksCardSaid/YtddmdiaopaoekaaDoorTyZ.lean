import Derived.Test.YtddmdiaopaoekaaDoorTyW
import Derived.Test.YtddmdiaopaoekaaDoorSq
namespace Go.Proofs.YtddmdiaopaoekaaDoor.P
open Go.RowKit Go.Shelf Go.Proofs.YtddmdiaopaoekaaDoorW.PrintWords Go.Proofs.YtddmdiaopaoekaaDoorW.PrintLast Go.Proofs.YtddmdiaopaoekaaDoor.Rw
set_option linter.unusedVariables false
set_option linter.unusedSimpArgs false
theorem row3 {W : World} {S : Nat → Prop} {b : Nat} {x y z : S31} {v0 v1 v2 v3 u0 u1 u2 u3 t0 t1 t2 t3 : Value} (h : W.heap[b]? = some (.cells #[v0, v1, v2, v3, u0, u1, u2, u3, t0, t1, t2, t3] 31 (0, 0))) (hx : FK k31 W S x [v0, v1, v2, v3]) (hy : FK k31 W S y [u0, u1, u2, u3]) (hz : FK k31 W S z [t0, t1, t2, t3]) :
  FC k31 W (fun k => S k ∨ k = b) (some ⟨b, 0, none⟩) 3 [x, y, z] := by
 intro W' ha
 have hb : W'.heap[b]? = some (.cells #[v0, v1, v2, v3, u0, u1, u2, u3, t0, t1, t2, t3] 31 (0, 0)) := (ha b (.inr rfl)).trans h
 refine ⟨rfl, by omega, fun _ => ⟨⟨b, 0, none⟩, rfl, fun j p hj => ?_⟩⟩
 match j, hj with
 | 0, hj =>
  obtain rfl : x = p := by simpa using hj
  refine ⟨_, rfl, hx W' (ha.mono (fun k hk => .inl hk)), fun i u hu => ?_⟩
  rw [add_g]
  match i, hu with
  | 0, hu => simp [World.cell?, hb, show k31.sz = 4 from rfl]; simpa using hu
  | 1, hu => simp [World.cell?, hb, show k31.sz = 4 from rfl]; simpa using hu
  | 2, hu => simp [World.cell?, hb, show k31.sz = 4 from rfl]; simpa using hu
  | 3, hu => simp [World.cell?, hb, show k31.sz = 4 from rfl]; simpa using hu
  | i + 4, hu => simp at hu
 | 1, hj =>
  obtain rfl : y = p := by simpa using hj
  refine ⟨_, rfl, hy W' (ha.mono (fun k hk => .inl hk)), fun i u hu => ?_⟩
  rw [add_g]
  match i, hu with
  | 0, hu => simp [World.cell?, hb, show k31.sz = 4 from rfl]; simpa using hu
  | 1, hu => simp [World.cell?, hb, show k31.sz = 4 from rfl]; simpa using hu
  | 2, hu => simp [World.cell?, hb, show k31.sz = 4 from rfl]; simpa using hu
  | 3, hu => simp [World.cell?, hb, show k31.sz = 4 from rfl]; simpa using hu
  | i + 4, hu => simp at hu
 | 2, hj =>
  obtain rfl : z = p := by simpa using hj
  refine ⟨_, rfl, hz W' (ha.mono (fun k hk => .inl hk)), fun i u hu => ?_⟩
  rw [add_g]
  match i, hu with
  | 0, hu => simp [World.cell?, hb, show k31.sz = 4 from rfl]; simpa using hu
  | 1, hu => simp [World.cell?, hb, show k31.sz = 4 from rfl]; simpa using hu
  | 2, hu => simp [World.cell?, hb, show k31.sz = 4 from rfl]; simpa using hu
  | 3, hu => simp [World.cell?, hb, show k31.sz = 4 from rfl]; simpa using hu
  | i + 4, hu => simp at hu
 | j + 3, hj => simp at hj
theorem fun3_calls (x y z : S31) (b : Nat) (A1 A2 A3 : Option Addr) (c1 c2 c3 : Nat) (W : World) (hx : x.f3 = []) (hy : y.f3 = []) (hz : z.f3 = [])
  (h : W.heap[b]? = some (.cells #[.int .i64 x.f0, .int .i64 x.f1, .string x.f2, .slice A1 0 c1, .int .i64 y.f0, .int .i64 y.f1, .string y.f2, .slice A2 0 c2, .int .i64 z.f0, .int .i64 z.f1, .string z.f2, .slice A3 0 c3] 31 (0, 0))) :
  Calls Tryd.prog 26 #[.slice (some ⟨b, 0, none⟩) 3 3] W fun e w' => ∃ A c, e = .returned (.agg #[.int .i64 3, .int .i64 0, .string ⟨#[]⟩, .slice A 2 c]) ∧ 2 ≤ c ∧ k31.C w' A 2 [x, kFun y z] ∧ Below W.heap.size W w' := by
 have fk : ∀ (t : S31) (A : Option Addr) (c : Nat), t.f3 = [] → FK k31 W (fun _ => True) t [.int .i64 t.f0, .int .i64 t.f1, .string t.f2, .slice A 0 c] := fun t A c ht => by
  have := fk_of (W := W) (S := fun _ => True) t (A := A) (c := c) (by rw [ht]; exact Nat.zero_le _) (by rw [ht]; exact FC.nil _ _ _)
  rwa [ht] at this
 exact Fun_calls 1 [x, y, z] _ 3 _ (by simp) (fun t ht => by simp at ht; rcases ht with rfl | rfl | rfl <;> exact ⟨by simp [*], fun q hq => by simp [*] at hq⟩) (by simp) (row3 h (fk x A1 c1 hx) (fk y A2 c2 hy) (fk z A3 c3 hz)).now
theorem eachV_vars (P : Int → Prop) : ∀ (n : Nat) (x : S31), (∀ v, v ∈ varsN n x → P v) → eachV (fun y => P y.f1) n x
 | 0, _, _ => trivial
 | n + 1, x, h => by
  have hv : varsN (n + 1) x = (if x.f0 = 1 then [x.f1] else []) ++ x.f3.flatMap (varsN n) := rfl
  rw [hv] at h
  exact ⟨fun e => h _ (List.mem_append_left _ (by rw [if_pos e]; simp)), fun y hy => eachV_vars P n y (fun v hm => h v (List.mem_append_right _ (List.mem_flatMap.2 ⟨y, hy, hm⟩)))⟩
theorem wf_le {v : Int} (h : (Lit.int .i64 v).wf = true) : v ≤ 9223372036854775807 := by
 simp only [Lit.wf, Bool.and_eq_true, decide_eq_true_eq] at h
 have h2 : IntKind.i64.max = 9223372036854775807 := by decide
 rw [h2] at h
 exact h.2
theorem k_wfF : ∀ v, v ∈ varsN 400 kF → (Lit.int .i64 v).wf = true := by
 rw [varsN_dep 400 4 kF (dep_mono 4 400 kF (by omega) k_depF) k_depF, ← varsL_dep 4 kF k_depF, k_varsF]
 decide
theorem k_wfG : ∀ v, v ∈ varsN 400 kG → (Lit.int .i64 v).wf = true := by
 rw [varsN_dep 400 4 kG (dep_mono 4 400 kG (by omega) k_depG) k_depG, ← varsL_dep 4 kG k_depG, k_varsG]
 decide
theorem k_sch (A : Option Addr) (c : Nat) (w : World) (hc : 2 ≤ c) (hC : k31.C w A 2 [kV 5, kFun (kV 2) (kV 5)]) :
  Calls Tryd.prog 18 #[.agg #[.int .i64 3, .int .i64 0, .string ⟨#[]⟩, .slice A 2 c]] w fun e w' => ∃ A c, e = .returned (.agg #[.int .i64 2, .int .i64 3, .int .i64 0, .string ⟨#[]⟩, .slice A 2 c]) ∧ 2 ≤ c ∧ k31.C w' A 2 [kV 0, kFun (kV 1) (kV 0)] ∧ Below w.heap.size w w' := by
 have := Scheme1_calls kF A c w hc hC (by rw [k_varsF]; decide) (by rw [k_varsF]; decide) (eachV_vars (fun v => (Lit.int .i64 v).wf = true) 400 kF k_wfF)
 rw [k_schV, k_schT] at this
 exact this
theorem k_prt (A : Option Addr) (c : Nat) (w : World) (hc : 2 ≤ c) (hC : k31.C w A 2 [kV 0, kFun (kV 1) (kV 0)]) (hT : TabOK w) :
  Calls Tryd.prog 34 #[.agg #[.int .i64 3, .int .i64 0, .string ⟨#[]⟩, .slice A 2 c]] w fun e w' => e = .returned (.string ⟨#[97, 32, 45, 62, 32, 98, 32, 45, 62, 32, 97]⟩) ∧ Below w.heap.size w w' := by
 have h1 : (showL 400 kG false).length ≤ 1000000000 := by
  have := k_print
  unfold printL at this
  rw [if_pos k_rightG] at this
  rw [this]
  decide
 have := Print_calls kG A c w hc hC (eachV_imp (fun y hy => wf_le hy) 400 kG (eachV_vars (fun v => (Lit.int .i64 v).wf = true) 400 kG k_wfG)) hT h1
 rw [k_print] at this
 exact this
theorem k_con (w : World) : Calls Tryd.prog 28 #[.string ⟨#[73, 110, 116]⟩, .slice none 0 0] w fun e w' => ∃ A c, e = .returned (.agg #[.int .i64 2, .int .i64 0, .string ⟨#[73, 110, 116]⟩, .slice A 0 c]) ∧ Below w.heap.size w w' :=
 (Con_calls 1 ⟨#[73, 110, 116]⟩ [] none 0 w (by simp) (fun y hy => by simp at hy) (Nat.le_refl _) (FC.nil w (fun _ => True) none).now).mono (fun e w' ⟨A, c, h1, _, _, h4⟩ => ⟨A, c, h1, h4⟩)
theorem k_mor (A B : Option Addr) (c d : Nat) (w : World) (hc : 2 ≤ c) (hC : k31.C w A 2 [kV 0, kFun (kV 1) (kV 0)]) (hd : 2 ≤ d) (hD : k31.C w B 2 [kI, kFun kI kI]) :
  Calls Tryd.prog 15 #[.agg #[.int .i64 2, .int .i64 3, .int .i64 0, .string ⟨#[]⟩, .slice A 2 c], .agg #[.int .i64 0, .int .i64 3, .int .i64 0, .string ⟨#[]⟩, .slice B 2 d]] w fun e w' => e = .returned (.bool true) ∧ Below w.heap.size w w' := by
 have := More_calls 2 0 kG kH A B c d w hc hC hd hD (by rw [k_varsG]; decide) (by rw [k_varsG]; decide) (by rw [k_varsH]; decide)
 rw [k_more] at this
 exact this
set_option maxHeartbeats 8000000 in
set_option maxRecDepth 100000 in
theorem knows_calls (w : World) (hT : TabOK w) : Calls Tryd.prog 9 #[] w fun e w' => e = .returned (.bool true) ∧ Below w.heap.size w w' := by
 have HT := Lib.hid hT
 clear hT
 go_enter Tryd.func9, Tryd.ntmps9
 go_wp2_with fail
 refine (Var_calls 5 w).mono ?_
 rintro e w1 ⟨rfl, hb1⟩
 have HB1 := Lib.hid hb1
 clear hb1
 go_wp2_with fail
 refine (Var_calls 2 w1).mono ?_
 rintro e w2 ⟨rfl, hb2⟩
 have HB2 := Lib.hid (bel2 HB1.out hb2)
 clear hb2 HB1
 go_wp2_with fail
 refine (Var_calls 5 w2).mono ?_
 rintro e w3 ⟨rfl, hb3⟩
 have HB3 := Lib.hid (bel2 HB2.out hb3)
 clear hb3 HB2
 go_wp2_with fail
 refine (fun3_calls (kV 5) (kV 2) (kV 5) w3.heap.size none none none 0 0 0 _ rfl rfl rfl (heap_new w3 _)).mono ?_
 rintro e w4 ⟨A2, c2, rfl, hl2, hC2, hb4⟩
 have HB4 := Lib.hid (bel2 HB3.out (((Below.refl _ _).alloc (Nat.le_refl _) _).trans (hb4.mono (by simp))))
 have HC2 := Lib.hid hC2
 clear hb4 hC2 HB3
 go_wp2_with fail
 refine (k_sch A2 c2 w4 hl2 HC2.out).mono ?_
 rintro e w6 ⟨A4, c4, rfl, hl4, hC4, hb6⟩
 have HB6 := Lib.hid (bel2 HB4.out hb6)
 have HC4g := Lib.hid hC4
 clear hb6 hC4 HB4 HC2 hl2
 go_upto_region 2 with (fail)
 have hbx := heap_new w6 (.cells #[.int .i64 2, .int .i64 3, .int .i64 0, .string ⟨#[]⟩, .slice A4 2 c4] 39)
 have hal : Below w6.heap.size w6 (w6.alloc (.cells #[.int .i64 2, .int .i64 3, .int .i64 0, .string ⟨#[]⟩, .slice A4 2 c4] 39)) := (Below.refl _ _).alloc (Nat.le_refl _) _
 generalize w6.alloc (.cells #[.int .i64 2, .int .i64 3, .int .i64 0, .string ⟨#[]⟩, .slice A4 2 c4] 39) = W7 at hbx hal ⊢
 have HB7 : Hid (Below w6.heap.size w6 W7.drew) := Lib.hid (hal.trans (((Below.refl W7.heap.size W7).drew).mono hal.size))
 have hbx7 : W7.drew.heap[w6.heap.size]? = some (.cells #[.int .i64 2, .int .i64 3, .int .i64 0, .string ⟨#[]⟩, .slice A4 2 c4] 39 (0, 0)) := hbx
 have s0 := cell_in hbx7 0
 have s1 := cell_in hbx7 1
 have s2 := cell_in hbx7 2
 have s3 := cell_in hbx7 3
 have s4 := cell_in hbx7 4
 have HPR : Hid (∀ W, Below w6.heap.size w6 W → Calls Tryd.prog 34 #[.agg #[.int .i64 3, .int .i64 0, .string ⟨#[]⟩, .slice A4 2 c4]] W fun e w' => e = .returned (.string ⟨#[97, 32, 45, 62, 32, 98, 32, 45, 62, 32, 97]⟩) ∧ Below W.heap.size W w') := Lib.hid (fun W hW => k_prt A4 c4 W hl4 (c_below HC4g.out hW) (HT.out.below (bel2 HB6.out hW)))
 have HCON := Lib.hid k_con
 have HMO : Hid (∀ W B d, Below W7.drew.heap.size W7.drew W → 2 ≤ d → k31.C W B 2 [kI, kFun kI kI] → Calls Tryd.prog 15 #[.agg #[.int .i64 2, .int .i64 3, .int .i64 0, .string ⟨#[]⟩, .slice A4 2 c4], .agg #[.int .i64 0, .int .i64 3, .int .i64 0, .string ⟨#[]⟩, .slice B 2 d]] W fun e w' => e = .returned (.bool true) ∧ Below W.heap.size W w') := Lib.hid (fun W B d hW hd hD => k_mor A4 B c4 d W hl4 (c_below HC4g.out (bel2 HB7.out hW)) hd hD)
 clear hbx hal hbx7
 refine start_ (n := 20) (S := fun w' => w'.cell? ⟨w6.heap.size, 0, none⟩ = some (.int .i64 2) ∧ w'.cell? ⟨w6.heap.size, 1, none⟩ = some (.int .i64 3) ∧ w'.cell? ⟨w6.heap.size, 2, none⟩ = some (.int .i64 0) ∧ w'.cell? ⟨w6.heap.size, 3, none⟩ = some (.string ⟨#[]⟩) ∧ w'.cell? ⟨w6.heap.size, 4, none⟩ = some (.slice A4 2 c4)) (ds := []) #[false, false, false, false, false, false, false, false, false, false, false, false, false, false, false, false, false, false, false, false] (by kernel_rfl) rfl rfl ⟨s0, s1, s2, s3, s4⟩ (fun hHeld => ?_)
 refine pure_ (i := 0) (N := some 8) (v := ?_) (a' := ?_) (zBM 20 1) rfl rfl (by kernel_rfl) (fun _ _ _ h => h) (Or.inl ⟨by rfl, ?_⟩) ?_ ?_
 rotate_left
 ·intro w'
  go_simp
  with_reducible rfl
 rotate_left
 ·simp only [Act.put, zO, zP, zR, i64_w, i32_w]
  rfl
 refine take_ (i := 1) (N := some 9) (v := ?_) (a' := ?_) (zBM 20 3) rfl rfl (by kernel_rfl) (fun _ _ _ h => h) (Or.inl ⟨by rfl, ?_⟩) hHeld ?_ ?_
 rotate_left
 ·rintro w' ⟨s0, s1, s2, s3, s4⟩
  go_simp
  with_reducible rfl
 rotate_left
 ·simp only [Act.put, zO, zP, zR, i64_w, i32_w]
  rfl
 refine pure_ (i := 2) (N := some 10) (v := ?_) (a' := ?_) (zBM 20 7) rfl rfl (by kernel_rfl) (fun _ _ _ h => h) (Or.inl ⟨by rfl, ?_⟩) ?_ ?_
 rotate_left
 ·intro w'
  go_simp
  with_reducible rfl
 rotate_left
 ·simp only [Act.put, zO, zP, zR, i64_w, i32_w]
  rfl
 refine pure_ (i := 3) (N := some 11) (v := ?_) (a' := ?_) (zBM 20 15) rfl rfl (by kernel_rfl) (fun _ _ _ h => h) (Or.inl ⟨by rfl, ?_⟩) ?_ ?_
 rotate_left
 ·intro w'
  go_simp
  with_reducible rfl
 rotate_left
 ·simp only [Act.put, zO, zP, zR, i64_w, i32_w]
  rfl
 refine pure_ (i := 4) (N := some 12) (v := ?_) (a' := ?_) (zBM 20 31) rfl rfl (by kernel_rfl) (fun _ _ _ h => h) (Or.inl ⟨by rfl, ?_⟩) ?_ ?_
 rotate_left
 ·intro w'
  go_simp
  with_reducible rfl
 rotate_left
 ·simp only [Act.put, zO, zP, zR, i64_w, i32_w]
  rfl
 refine take_ (i := 5) (N := some 13) (v := ?_) (a' := ?_) (zBM 20 63) rfl rfl (by kernel_rfl) (fun _ _ _ h => h) (Or.inl ⟨by rfl, ?_⟩) hHeld ?_ ?_
 rotate_left
 ·rintro w' ⟨s0, s1, s2, s3, s4⟩
  go_simp
  with_reducible rfl
 rotate_left
 ·simp only [Act.put, zO, zP, zR, i64_w, i32_w]
  rfl
 refine one_ (i := 6) (N := some 14) (zBM 20 127) rfl rfl (by kernel_rfl) (by decide) (fun K hK => ?_)
 refine goes_ Tryd.func34 (by kernel_rfl) rfl #[.agg #[.int .i64 3, .int .i64 0, .string ⟨#[]⟩, .slice A4 2 c4]] (by rfl) rfl rfl (by (try simp only [List.map_toArray, List.map_cons, List.map_nil]); first | done | rfl) ?_
 refine (HPR.out _ HB7.out).mono ?_
 rintro e v0 ⟨rfl, hb0⟩
 refine ⟨_, rfl, ?_⟩
 have HBp := Lib.hid hb0
 clear hb0
 refine hK.out _ _ ⟨pw_cell_below HBp.out s0, pw_cell_below HBp.out s1, pw_cell_below HBp.out s2, pw_cell_below HBp.out s3, pw_cell_below HBp.out s4⟩ (fun hHeld => ?_)
 clear hK K
 refine norm_ (a' := ?_) ?_ ?_
 rotate_left
 ·show Act.put _ (some 14) _ = _
  simp only [Act.put, zO, zP, zR, i64_w, i32_w]
  rfl
 refine pure_ (i := 7) (N := some 15) (v := ?_) (a' := ?_) (zBM 20 255) rfl rfl (by kernel_rfl) (fun _ _ _ h => h) (Or.inl ⟨by rfl, ?_⟩) ?_ ?_
 rotate_left
 ·intro w'
  go_simp
  with_reducible rfl
 rotate_left
 ·simp only [Act.put, zO, zP, zR, i64_w, i32_w]
  rfl
 refine pure_ (i := 8) (N := some 16) (v := ?_) (a' := ?_) (zBM 20 511) rfl rfl (by kernel_rfl) (fun _ _ _ h => h) (Or.inl ⟨by rfl, ?_⟩) ?_ ?_
 rotate_left
 ·intro w'
  go_simp
  with_reducible rfl
 rotate_left
 ·simp only [Act.put, zO, zP, zR, i64_w, i32_w]
  rfl
 refine pure_ (i := 9) (N := some 17) (v := ?_) (a' := ?_) (zBM 20 1023) rfl rfl (by kernel_rfl) (fun _ _ _ h => h) (Or.inl ⟨by rfl, ?_⟩) ?_ ?_
 rotate_left
 ·intro w'
  go_simp
  with_reducible rfl
 rotate_left
 ·simp only [Act.put, zO, zP, zR, i64_w, i32_w]
  rfl
 refine take_ (i := 10) (N := some 18) (v := ?_) (a' := ?_) (zBM 20 2047) rfl rfl (by kernel_rfl) (fun _ _ _ h => h) (Or.inl ⟨by rfl, ?_⟩) hHeld ?_ ?_
 rotate_left
 ·rintro w' ⟨s0, s1, s2, s3, s4⟩
  go_simp
  with_reducible rfl
 rotate_left
 ·simp only [Act.put, zO, zP, zR, i64_w, i32_w]
  rfl
 refine one_ (i := 11) (N := some 19) (zBM 20 4095) rfl rfl (by kernel_rfl) (by decide) (fun K hK => ?_)
 refine goes_ Tryd.func28 (by kernel_rfl) rfl #[.string ⟨#[73, 110, 116]⟩, .slice none 0 0] (by rfl) rfl rfl (by (try simp only [List.map_toArray, List.map_cons, List.map_nil]); first | done | rfl) ?_
 refine (HCON.out _).mono ?_
 rintro e v1 ⟨B1, d1, rfl, hb1⟩
 refine ⟨_, rfl, ?_⟩
 have HBc1 := Lib.hid (bel2 HBp.out hb1)
 clear hb1
 refine hK.out _ _ ⟨pw_cell_below HBc1.out s0, pw_cell_below HBc1.out s1, pw_cell_below HBc1.out s2, pw_cell_below HBc1.out s3, pw_cell_below HBc1.out s4⟩ (fun hHeld => ?_)
 clear hK K
 refine norm_ (a' := ?_) ?_ ?_
 rotate_left
 ·show Act.put _ (some 19) _ = _
  simp only [Act.put, zO, zP, zR, i64_w, i32_w]
  rfl
 refine one_ (i := 12) (N := some 20) (zBM 20 8191) rfl rfl (by kernel_rfl) (by decide) (fun K hK => ?_)
 refine goes_ Tryd.func28 (by kernel_rfl) rfl #[.string ⟨#[73, 110, 116]⟩, .slice none 0 0] (by rfl) rfl rfl (by (try simp only [List.map_toArray, List.map_cons, List.map_nil]); first | done | rfl) ?_
 refine (HCON.out _).mono ?_
 rintro e v2 ⟨B2, d2, rfl, hb2⟩
 refine ⟨_, rfl, ?_⟩
 have HBc2 := Lib.hid (bel2 HBc1.out hb2)
 clear hb2
 refine hK.out _ _ ⟨pw_cell_below HBc2.out s0, pw_cell_below HBc2.out s1, pw_cell_below HBc2.out s2, pw_cell_below HBc2.out s3, pw_cell_below HBc2.out s4⟩ (fun hHeld => ?_)
 clear hK K
 refine norm_ (a' := ?_) ?_ ?_
 rotate_left
 ·show Act.put _ (some 20) _ = _
  simp only [Act.put, zO, zP, zR, i64_w, i32_w]
  rfl
 refine one_ (i := 13) (N := some 21) (zBM 20 16383) rfl rfl (by kernel_rfl) (by decide) (fun K hK => ?_)
 refine goes_ Tryd.func28 (by kernel_rfl) rfl #[.string ⟨#[73, 110, 116]⟩, .slice none 0 0] (by rfl) rfl rfl (by (try simp only [List.map_toArray, List.map_cons, List.map_nil]); first | done | rfl) ?_
 refine (HCON.out _).mono ?_
 rintro e v3 ⟨B3, d3, rfl, hb3⟩
 refine ⟨_, rfl, ?_⟩
 have HBc3 := Lib.hid (bel2 HBc2.out hb3)
 clear hb3
 refine hK.out _ _ ⟨pw_cell_below HBc3.out s0, pw_cell_below HBc3.out s1, pw_cell_below HBc3.out s2, pw_cell_below HBc3.out s3, pw_cell_below HBc3.out s4⟩ (fun hHeld => ?_)
 clear hK K
 refine norm_ (a' := ?_) ?_ ?_
 rotate_left
 ·show Act.put _ (some 21) _ = _
  simp only [Act.put, zO, zP, zR, i64_w, i32_w]
  rfl
 refine one_ (i := 14) (N := some 22) (zBM 20 32767) rfl rfl (by kernel_rfl) (by decide) (fun K hK => ?_)
 refine value_ (w1 := ?_) (v := ?_) (by rfl) rfl ?_ ?_
 rotate_left 2
 ·go_simp
  constructor
  ·rfl
  ·rfl
 have HBb := Lib.hid (bel2 HBc3.out ((Below.refl v3.heap.size v3).alloc (Nat.le_refl _) (.cells #[.int .i64 2, .int .i64 0, .string ⟨#[73, 110, 116]⟩, .slice B1 0 d1, .int .i64 2, .int .i64 0, .string ⟨#[73, 110, 116]⟩, .slice B2 0 d2, .int .i64 2, .int .i64 0, .string ⟨#[73, 110, 116]⟩, .slice B3 0 d3] 31)))
 refine hK.out _ _ ⟨pw_cell_below HBb.out s0, pw_cell_below HBb.out s1, pw_cell_below HBb.out s2, pw_cell_below HBb.out s3, pw_cell_below HBb.out s4⟩ (fun hHeld => ?_)
 clear hK K
 refine norm_ (a' := ?_) ?_ ?_
 rotate_left
 ·show Act.put _ (some 22) _ = _
  simp only [Act.put, zO, zP, zR, i64_w, i32_w]
  rfl
 refine one_ (i := 15) (N := some 23) (zBM 20 65535) rfl rfl (by kernel_rfl) (by decide) (fun K hK => ?_)
 refine goes_ Tryd.func26 (by kernel_rfl) rfl #[.slice (some ⟨v3.heap.size, 0, none⟩) 3 3] (by rfl) rfl rfl (by (try simp only [List.map_toArray, List.map_cons, List.map_nil]); first | done | rfl) ?_
 refine (fun3_calls kI kI kI v3.heap.size B1 B2 B3 d1 d2 d3 _ rfl rfl rfl (heap_new v3 _)).mono ?_
 rintro e v4 ⟨B4, d4, rfl, hl4, hC4, hb4⟩
 refine ⟨_, rfl, ?_⟩
 have HBf := Lib.hid (bel2 HBb.out hb4)
 have HC4 := Lib.hid hC4
 clear hb4 hC4
 refine hK.out _ _ ⟨pw_cell_below HBf.out s0, pw_cell_below HBf.out s1, pw_cell_below HBf.out s2, pw_cell_below HBf.out s3, pw_cell_below HBf.out s4⟩ (fun hHeld => ?_)
 clear hK K
 refine norm_ (a' := ?_) ?_ ?_
 rotate_left
 ·show Act.put _ (some 23) _ = _
  simp only [Act.put, zO, zP, zR, i64_w, i32_w]
  rfl
 refine pure_ (i := 16) (N := some 24) (v := ?_) (a' := ?_) (zBM 20 131071) rfl rfl (by kernel_rfl) (fun _ _ _ h => h) (Or.inl ⟨by rfl, ?_⟩) ?_ ?_
 rotate_left
 ·intro w'
  go_simp
  with_reducible rfl
 rotate_left
 ·simp only [Act.put, zO, zP, zR, i64_w, i32_w]
  rfl
 refine one_ (i := 17) (N := some 25) (zBM 20 262143) rfl rfl (by kernel_rfl) (by decide) (fun K hK => ?_)
 refine goes_ Tryd.func15 (by kernel_rfl) rfl #[.agg #[.int .i64 2, .int .i64 3, .int .i64 0, .string ⟨#[]⟩, .slice A4 2 c4], .agg #[.int .i64 0, .int .i64 3, .int .i64 0, .string ⟨#[]⟩, .slice B4 2 d4]] (by rfl) rfl rfl (by (try simp only [List.map_toArray, List.map_cons, List.map_nil]); first | done | rfl) ?_
 refine (HMO.out v4 B4 d4 HBf.out hl4 HC4.out).mono ?_
 rintro e v5 ⟨rfl, hb5⟩
 refine ⟨_, rfl, ?_⟩
 have HBm := Lib.hid (bel2 HBf.out hb5)
 clear hb5
 refine hK.out _ _ ⟨pw_cell_below HBm.out s0, pw_cell_below HBm.out s1, pw_cell_below HBm.out s2, pw_cell_below HBm.out s3, pw_cell_below HBm.out s4⟩ (fun hHeld => ?_)
 clear hK K
 refine norm_ (a' := ?_) ?_ ?_
 rotate_left
 ·show Act.put _ (some 25) _ = _
  simp only [Act.put, zO, zP, zR, i64_w, i32_w]
  rfl
 refine pure_ (i := 18) (N := some 26) (v := ?_) (a' := ?_) (zBM 20 524287) rfl rfl (by kernel_rfl) (fun _ _ _ h => h) (Or.inl ⟨by rfl, ?_⟩) ?_ ?_
 rotate_left
 ·intro w'
  go_simp
  with_reducible rfl
 rotate_left
 ·simp only [Act.put, zO, zP, zR, i64_w, i32_w]
  rfl
 refine pure_ (i := 19) (N := some 0) (v := ?_) (a' := ?_) (zBM 20 1048575) rfl rfl (by kernel_rfl) (fun _ _ _ h => h) (Or.inl ⟨by rfl, ?_⟩) ?_ ?_
 rotate_left
 ·intro w'
  go_simp
  with_reducible rfl
 rotate_left
 ·simp only [Act.put, zO, zP, zR, i64_w, i32_w]
  rfl
 refine done_ (by kernel_rfl) ?_
 go_wp2_with fail
 go_ret
 exact ⟨rfl, bel2 (bel2 HB6.out HB7.out) HBm.out⟩
end Go.Proofs.YtddmdiaopaoekaaDoor.P
