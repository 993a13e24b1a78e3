import Derived.Test.YtddmdiaopaoekaaDoorPx0
import Derived.Test.YtddmdiaopaoekaaDoorLaD
import Derived.Test.YtddmdiaopaoekaaDoorSq
namespace Go.Proofs.YtddmdiaopaoekaaDoor.P
open Go.RowKit Go.Proofs.YtddmdiaopaoekaaDoorW.PrintWords Go.Proofs.YtddmdiaopaoekaaDoorW.PrintLast Go.Proofs.YtddmdiaopaoekaaDoorW.PrintMore Go.Proofs.YtddmdiaopaoekaaDoor.Rw
set_option linter.unusedVariables false
set_option linter.unusedSimpArgs false
mutual
def hammocklaw03_refTypes.l0 : Nat → List (S72) → List (S68) → Int → Option ((List (S68)))
 | 0, _, _, _ => none
 | k + 1, x0, x3, x4 => if x4 < (x0.length : Int) then (if 0 ≤ x4 then ((hammocklaw03_RefType.f k ((rd_T72 x0 x4).f0) ((rd_T72 x0 x4).f1) ((rd_T72 x0 x4).f2) ((rd_T72 x0 x4).f3)).bind fun bt250 => (if x3.length < 2513169434916 then (hammocklaw03_refTypes.l0 k x0 (x3 ++ [(⟨bt250.1, bt250.2.1, bt250.2.2.1, bt250.2.2.2⟩ : S68)]) (wrap64 (x4 + 1))) else (none))) else (none)) else (some x3)
def hammocklaw03_RefType.f : Nat → Int → Int → ByteArray → List (S72) → Option (Int × Int × ByteArray × (List (S68)))
 | 0, _, _, _, _ => none
 | k + 1, a0, a1, a2, l => (hammocklaw03_refTypes.l0 k l [] 0).bind fun r => some (a0, a1, a2, r)
end
theorem hammocklaw03_refTypes.mono_l : ∀ k, (∀ y0 y1 y2, LeO (hammocklaw03_refTypes.l0 k y0 y1 y2) (hammocklaw03_refTypes.l0 (k + 1) y0 y1 y2)) ∧ (∀ y0 y1 y2 y3, LeO (hammocklaw03_RefType.f k y0 y1 y2 y3) (hammocklaw03_RefType.f (k + 1) y0 y1 y2 y3))
 | 0 => ⟨fun _ _ _ r h => by simp [hammocklaw03_refTypes.l0] at h, fun _ _ _ _ r h => by simp [hammocklaw03_RefType.f] at h⟩
 | k + 1 => by
  obtain ⟨ih0, ih1⟩ := hammocklaw03_refTypes.mono_l k
  refine ⟨?_, ?_⟩
  ·intro y0 y1 y2
   unfold hammocklaw03_refTypes.l0
   repeat' first
   | (with_reducible exact ih0 _ _ _)
   | (with_reducible exact ih1 _ _ _ _)
   | (with_reducible exact LeO.refl _)
   | (with_reducible exact LeO.none _)
   | (with_reducible refine LeO.ite ?_ ?_)
   | (with_reducible refine LeO.bind ?_ (fun _ => ?_))
  ·intro y0 y1 y2 y3
   unfold hammocklaw03_RefType.f
   exact LeO.bind (ih0 _ _ _) (fun _ => LeO.refl _)
/-- RefType's contract. -/
abbrev RefTC (k : Nat) : Prop := ∀ (a0 a1 : Int) (a2 : ByteArray) (A : Option Addr) (c : Nat) (l : List S72) (r0 r1 : Int) (r2 : ByteArray) (r3 : List S68) (w : World), k72.C w A l.length l → l.length ≤ c → hammocklaw03_RefType.f k a0 a1 a2 l = some (r0, r1, r2, r3) →
 Calls Tryd.prog 37 #[.agg #[.int .i64 a0, .int .i64 a1, .string a2, .slice A l.length c]] w fun e w' => ∃ v : Value, e = .returned (.agg #[.int .i64 r0, .int .i64 r1, .string r2, v]) ∧ Kd.R k68 68 w' w.heap.size (fun _ => True) v r3 ∧ Below w.heap.size w w'
set_option maxHeartbeats 8000000 in
set_option maxRecDepth 100000 in
theorem hammocklaw03_refTypes.calls (k : Nat) (hRT : ∀ m, m < k → RefTC m) (A0 : Option Addr) (c0 : Nat) (l0 : List (S72)) (r : List (S68)) (w : World) (hr0 : Kd.C k72 w A0 l0.length l0) (hc0 : l0.length ≤ c0) (h : hammocklaw03_refTypes.l0 k l0 ([] : List (S68)) 0 = some r) :
  Calls Tryd.prog 64 #[.slice A0 l0.length c0] w fun e w' => ∃ v0_ : Value, e = .returned (v0_) ∧ Kd.R k68 68 w' w.heap.size (fun _ => True) v0_ r ∧ Below w.heap.size w w' := by
 have hu72 := Tryd.underlying72
 have HR0 := zG hr0
 have HC0 := zG hc0
 clear hr0 hc0
 have HB := zG (Below.refl w.heap.size w)
 have H : (hammocklaw03_refTypes.l0 k l0 ([] : List (S68)) 0) = some r := h
 clear h
 have H' := zG H
 clear H
 go_enter Tryd.func64, Tryd.ntmps64
 go_wp2
 go_loopg [3, 4] k (fun kq v3 v4 w' => ∃ (x3_1 : List (S68)) (x4_1 : Int), v4 = .int .i64 x4_1 ∧ Aside0 (hammocklaw03_refTypes.l0 kq l0 x3_1 x4_1 = some r) ∧ Aside0 (kq ≤ k) ∧ Aside0 (Kd.R k68 68 w' w.heap.size (fun _ => True) v3 x3_1) ∧ Aside0 (Below w.heap.size w w'))
 case atStart => exact ⟨(([] : List (S68))), (0), (by first | rfl | (simp; done) | (simp [*]; done)), H', ⟨Nat.le_refl _⟩, ⟨by first | exact Kd.R_nil _ _ _ _ _ | exact Kd.N_nil _ _ _ _ _ | exact Kd.V_nil _ _ _ _ _ | exact Kd.Q_nil _ _ _ _ _ | exact Kd.S_nil _ _ _ _ _⟩, ⟨by repeat (first | (with_reducible first | exact HB.out | apply zA | apply zB | apply zC) | exact HB.out)⟩⟩
 case round =>
  clear H'
  obtain ⟨x3_1, x4_1, rfl, HA, HK1, HO_3, HB⟩ := hrel
  cases gk with
  | zero => exact absurd HA.out (by simp [hammocklaw03_refTypes.l0])
  | succ k1 =>
   have H := HA.out
   clear HA
   simp only [hammocklaw03_refTypes.l0] at H
   by_cases c2 : x4_1 < (l0.length : Int)
   ·rw [if_pos c2] at H
    have c2b0 : decide (x4_1 < (l0.length : Int)) = true := zU c2
    clear c2
    by_cases c3 : 0 ≤ x4_1
    ·rw [if_pos c3] at H
     have c3b0 : decide (0 ≤ x4_1) = true := zU c3
     clear c3
     replace H := zT H
     obtain ⟨⟨t250, t251, t252, t253⟩, A40, H⟩ := H
     replace H : (if x3_1.length < 2513169434916 then (hammocklaw03_refTypes.l0 k1 l0 (x3_1 ++ [(⟨t250, t251, t252, t253⟩ : S68)]) (wrap64 (x4_1 + 1))) else (none)) = some r := H
     have A4 := zG A40
     clear A40
     by_cases c5 : x3_1.length < 2513169434916
     ·rw [if_pos c5] at H
      have LMc5 := zG c5
      clear c5
      obtain ⟨y256, hy256⟩ : ∃ y_ : List (S68), y_ = (x3_1 ++ [(⟨t250, t251, t252, t253⟩ : S68)]) := ⟨_, rfl⟩
      replace H : (hammocklaw03_refTypes.l0 k1 l0 y256 (wrap64 (x4_1 + 1))) = some r := by first | (rw [hy256]; with_reducible exact H) | (have H2_ := (Option.bind_some _ _).symm.trans H; rw [hy256]; with_reducible exact H2_) | (have H2_ := (Option.bind_some _ _).symm.trans H; with_reducible exact H2_) | with_reducible exact H | (rw [hy256]; exact H) | exact H
      have Ny256 := zG hy256
      clear hy256
      have H' := zG H
      clear H
      have p249 : 0 ≤ (x4_1 : Int) := zAA (by first | (with_reducible assumption) | assumption)
      have q249 : x4_1 < (l0.length : Int) := zAA (by first | (with_reducible assumption) | assumption)
      obtain ⟨ad249, A249_3, c249_3, e249, hx249_0, hx249_1, hx249_2, hx249_3, hl249_3, hi249_3⟩ := at_T72 HR0.out x4_1 p249 q249
      cases e249
      replace hx249_0 := (HB.out.cell (zS w _ hx249_0)).trans hx249_0
      replace hx249_1 := (HB.out.cell (zS w _ hx249_1)).trans hx249_1
      replace hx249_2 := (HB.out.cell (zS w _ hx249_2)).trans hx249_2
      replace hx249_3 := (HB.out.cell (zS w _ hx249_3)).trans hx249_3
      have HR249_3 := zG hi249_3
      have HC249_3 := zG hl249_3
      clear hi249_3 hl249_3
      replace p249 := eq_true p249
      replace q249 := eq_true q249
      go_wp2_with (first | ((with_reducible refine gate_callee (f := 37) rfl ?_); refine goesL_ (some 16) rfl rfl Tryd.func37 (by kernel_rfl) rfl #[.agg #[.int .i64 ((rd_T72 l0 x4_1).f0), .int .i64 ((rd_T72 l0 x4_1).f1), .string ((rd_T72 l0 x4_1).f2), .slice A249_3 ((rd_T72 l0 x4_1).f3).length c249_3]] rfl (by (try simp only [List.map_toArray, List.map_cons, List.map_nil]); first | done | rfl | (simp only [List.length_drop, List.length_take]; rfl)) ?_; (with_reducible refine (hRT k1 (by have := HK1.out; omega) ((rd_T72 l0 x4_1).f0) ((rd_T72 l0 x4_1).f1) ((rd_T72 l0 x4_1).f2) _ _ ((rd_T72 l0 x4_1).f3) t250 t251 t252 t253 _ ?side1 ?side2 A4.out).mono ?_); (case side1 => repeat (first | exact (zAC HR249_3.out HB.out) | (with_reducible refine zAE ?_ _) | (with_reducible refine zAF ?_ _) | (with_reducible refine zAG ?_))); (case side2 => exact HC249_3.out); rintro e w6 ⟨v254, rfl, ho0, hb⟩; refine ⟨_, rfl, ?_⟩; have n0_ := zG (Kd.R_elder' (by (with_reducible repeat (first | apply Kd.R_alloc | apply Kd.R_drewN | apply Kd.R_drew)); exact HO_3.out) (Kd.R_base ho0) hb); have n1_ := zG (Kd.R_lower (Kd.R_new' ho0 (Kd.R_lt (by (with_reducible repeat (first | apply Kd.R_alloc | apply Kd.R_drewN | apply Kd.R_drew)); exact HO_3.out))) (zF (by repeat (first | (with_reducible first | exact HB.out | apply zA | apply zB | apply zC) | exact HB.out)))); have n2_ := zG (zE (by repeat (first | (with_reducible first | exact HB.out | apply zA | apply zB | apply zC) | exact HB.out)) hb); clear HO_3; clear HB; have HO_3 := n0_; have HO255 := n1_; have HB := n2_; clear n0_ n1_ n2_; (try clear hb); (try clear hb2); (try clear hk); (try clear hi); (try clear ho0); obtain ⟨Ao8, co8, eo8⟩ := Kd.R_slice HO255.out; subst eo8) | ((with_reducible refine gate_builtin (b := .append) (xs := #[.tmp 11, .tmp 17]) rfl ?_); at_builtin; refine Kd.R_append k68 (w0 := w) w.heap.size rfl (.tmp 11) (.tmp 17) 66 68 (.agg #[(.int .i64 0), (.int .i64 0), (.string ⟨#[]⟩), (.slice none 0 0)]) 56 rfl Tryd.underlying66 info68 rfl (by decide) (by omega) u3 x3_1 (⟨t250, t251, t252, t253⟩ : S68) [.int .i64 t250, .int .i64 t251, .string t252, .slice Ao8 t253.length co8] (fun _ => True) (fun k_ => ((fun _ => True)) k_ ∧ some k_ ≠ (u3 : Value).ownBlock) rfl rfl ?aP (fun _ hk => hk) ?aF ?aO ?aB ?aS ?aL ?_; (case aP => exact k68_mkM _ _ _ (⟨t250, t251, t252, t253⟩ : S68) (Kd.R_mono (HO255.out) (fun k_ hk => ⟨trivial, hk.2⟩))); (case aB => exact (by repeat (first | (with_reducible first | exact HB.out | apply zA | apply zB | apply zC) | exact HB.out))); (case aF => exact (fun _ _ => trivial)); (case aO => exact (by (with_reducible repeat (first | apply Kd.R_alloc | apply Kd.R_drewN | apply Kd.R_drew)); exact Kd.R_mono HO_3.out (fun _ hk => trivial))); (case aS => exact (zF (by repeat (first | (with_reducible first | exact HB.out | apply zA | apply zB | apply zC) | exact HB.out)))); (case aL => have := LMc5.out; omega); intro v257 w7 ho hb hg hat; rw [← Ny256.out] at ho; have n0_ := zG (hb); have n1_ := zG (ho); clear HB; clear HO_3; clear HO255; have HB := n0_; have HO258 := n1_; clear n0_ n1_; clear ho hb hg hat))
      go_roundg k1
      case measure => have := HK1.out; omega
      case rel => exact ⟨(y256), (wrap64 (x4_1 + 1)), (by first | rfl | (simp; done) | (simp [*]; done)), H', ⟨by have := HK1.out; omega⟩, ⟨by (with_reducible repeat (first | apply Kd.R_alloc | apply Kd.R_drewN | apply Kd.R_drew)); exact HO258.out⟩, ⟨by repeat (first | (with_reducible first | exact HB.out | apply zA | apply zB | apply zC) | exact HB.out)⟩⟩
     ·rw [if_neg c5] at H
      exact absurd H (by simp)
    ·rw [if_neg c3] at H
     exact absurd H (by simp)
   ·rw [if_neg c2] at H
    have c2b0 : decide (x4_1 < (l0.length : Int)) = false := zV c2
    clear c2
    obtain rfl := Option.some.inj H
    go_wp2
    go_ret
    exact ⟨_, by first | rfl | (simp [errW_none, errW_some] <;> rfl) | (simp [*, errW_none, errW_some] <;> rfl), by (with_reducible repeat (first | apply Kd.R_alloc | apply Kd.R_drewN | apply Kd.R_drew)); exact HO_3.out, by repeat (first | (with_reducible first | exact HB.out | apply zA | apply zB | apply zC) | exact HB.out)⟩
set_option maxHeartbeats 4000000 in
set_option maxRecDepth 100000 in
theorem refT_succ (k : Nat) (ih : ∀ m, m < k → RefTC m) : RefTC (k + 1) := by
 intro a0 a1 a2 A c l r0 r1 r2 r3 w hC hc hf
 unfold hammocklaw03_RefType.f at hf
 obtain ⟨r, hr, hf⟩ := Option.bind_eq_some_iff.1 hf
 simp only [Option.some.injEq, Prod.mk.injEq] at hf
 obtain ⟨rfl, rfl, rfl, rfl⟩ := hf
 have HIH := Lib.hid ih
 have HC := Lib.hid hC
 have HR := Lib.hid hr
 clear ih hC hr
 go_enter Tryd.func37, Tryd.ntmps37
 go_upto_region 1 with (fail)
 have hB : Below w.heap.size w ((w.alloc (.cells #[.int .i64 a0, .int .i64 a1, .string a2, .slice A l.length c] 72)).alloc (.cells #[.int .i64 0, .int .i64 0, .string ⟨#[]⟩, .slice none 0 0] 68)) := ((Below.refl _ _).alloc (Nat.le_refl _) _).alloc (by simp) _
 have hA := new2_a w (.cells #[.int .i64 a0, .int .i64 a1, .string a2, .slice A l.length c] 72) (.cells #[.int .i64 0, .int .i64 0, .string ⟨#[]⟩, .slice none 0 0] 68)
 have hX := new2_b w (.cells #[.int .i64 a0, .int .i64 a1, .string a2, .slice A l.length c] 72) (.cells #[.int .i64 0, .int .i64 0, .string ⟨#[]⟩, .slice none 0 0] 68)
 have hS : ((w.alloc (.cells #[.int .i64 a0, .int .i64 a1, .string a2, .slice A l.length c] 72)).alloc (.cells #[.int .i64 0, .int .i64 0, .string ⟨#[]⟩, .slice none 0 0] 68)).heap.size = w.heap.size + 2 := by simp
 generalize (w.alloc (.cells #[.int .i64 a0, .int .i64 a1, .string a2, .slice A l.length c] 72)).alloc (.cells #[.int .i64 0, .int .i64 0, .string ⟨#[]⟩, .slice none 0 0] 68) = w2 at hB hA hX hS ⊢
 have HB := Lib.hid (hB.trans ((Below.refl _ w2).drew.mono hB.size))
 have HA : Hid (w2.drew.heap[w.heap.size]? = _) := Lib.hid hA
 have HX : Hid (w2.drew.heap[w.heap.size + 1]? = _) := Lib.hid hX
 have HS : Hid (w2.drew.heap.size = w.heap.size + 2) := Lib.hid hS
 clear hB hA hX hS
 refine start_ (n := 11) (S := fun w' => w'.cell? ⟨w.heap.size, 0, none⟩ = some (.int .i64 a0) ∧ w'.cell? ⟨w.heap.size, 1, none⟩ = some (.int .i64 a1) ∧ w'.cell? ⟨w.heap.size, 2, none⟩ = some (.string a2) ∧ w'.cell? ⟨w.heap.size, 3, none⟩ = some (.slice A l.length c)) (ds := [10]) (zBM 11 0) (by kernel_rfl) rfl rfl ⟨cell_in HA.out 0, cell_in HA.out 1, cell_in HA.out 2, cell_in HA.out 3⟩ (fun hHeld => ?_)
 refine pure_ (i := 0) (N := some 3) (v := ?_) (a' := ?_) (zBM 11 1) rfl rfl (by kernel_rfl) (fun _ _ _ h => h) (Or.inl ⟨by rfl, ?_⟩) ?_ ?_
 rotate_left
 ·intro w'
  go_simp
  with_reducible rfl
 rotate_left
 ·simp only [Act.put, zO, zP, zR, i64_w, i32_w]
  rfl
 refine pure_ (i := 2) (N := some 5) (v := ?_) (a' := ?_) (zBM 11 5) rfl rfl (by kernel_rfl) (fun _ _ _ h => h) (Or.inl ⟨by rfl, ?_⟩) ?_ ?_
 rotate_left
 ·intro w'
  go_simp
  with_reducible rfl
 rotate_left
 ·simp only [Act.put, zO, zP, zR, i64_w, i32_w]
  rfl
 refine pure_ (i := 4) (N := some 7) (v := ?_) (a' := ?_) (zBM 11 21) rfl rfl (by kernel_rfl) (fun _ _ _ h => h) (Or.inl ⟨by rfl, ?_⟩) ?_ ?_
 rotate_left
 ·intro w'
  go_simp
  with_reducible rfl
 rotate_left
 ·simp only [Act.put, zO, zP, zR, i64_w, i32_w]
  rfl
 refine pure_ (i := 6) (N := some 9) (v := ?_) (a' := ?_) (zBM 11 85) rfl rfl (by kernel_rfl) (fun _ _ _ h => h) (Or.inl ⟨by rfl, ?_⟩) ?_ ?_
 rotate_left
 ·intro w'
  go_simp
  with_reducible rfl
 rotate_left
 ·simp only [Act.put, zO, zP, zR, i64_w, i32_w]
  rfl
 refine take_ (i := 1) (N := some 4) (v := ?_) (a' := ?_) (zBM 11 87) rfl rfl (by kernel_rfl) (fun _ _ _ h => h) (Or.inl ⟨by rfl, ?_⟩) hHeld ?_ ?_
 rotate_left
 ·rintro w' ⟨s0, s1, s2, s3⟩
  go_simp
  with_reducible rfl
 rotate_left
 ·simp only [Act.put, zO, zP, zR, i64_w, i32_w]
  rfl
 refine take_ (i := 3) (N := some 6) (v := ?_) (a' := ?_) (zBM 11 95) rfl rfl (by kernel_rfl) (fun _ _ _ h => h) (Or.inl ⟨by rfl, ?_⟩) hHeld ?_ ?_
 rotate_left
 ·rintro w' ⟨s0, s1, s2, s3⟩
  go_simp
  with_reducible rfl
 rotate_left
 ·simp only [Act.put, zO, zP, zR, i64_w, i32_w]
  rfl
 refine take_ (i := 5) (N := some 8) (v := ?_) (a' := ?_) (zBM 11 127) rfl rfl (by kernel_rfl) (fun _ _ _ h => h) (Or.inl ⟨by rfl, ?_⟩) hHeld ?_ ?_
 rotate_left
 ·rintro w' ⟨s0, s1, s2, s3⟩
  go_simp
  with_reducible rfl
 rotate_left
 ·simp only [Act.put, zO, zP, zR, i64_w, i32_w]
  rfl
 refine take_ (i := 7) (N := some 10) (v := ?_) (a' := ?_) (zBM 11 255) rfl rfl (by kernel_rfl) (fun _ _ _ h => h) (Or.inl ⟨by rfl, ?_⟩) hHeld ?_ ?_
 rotate_left
 ·rintro w' ⟨s0, s1, s2, s3⟩
  go_simp
  with_reducible rfl
 rotate_left
 ·simp only [Act.put, zO, zP, zR, i64_w, i32_w]
  rfl
 refine one_ (i := 8) (N := some 11) (zBM 11 511) rfl rfl (by kernel_rfl) (by decide) (fun K hK => ?_)
 refine goes_ Tryd.func64 (by kernel_rfl) rfl #[.slice A l.length c] (by rfl) rfl rfl (by (try simp only [List.map_toArray, List.map_cons, List.map_nil]); first | done | rfl) ?_
 refine (hammocklaw03_refTypes.calls k HIH.out A c l r _ (zAC HC.out HB.out) hc HR.out).mono ?_
 rintro e w3 ⟨v, rfl, hv, hb⟩
 refine ⟨_, rfl, ?_⟩
 have HB3 := Lib.hid (bel2 HB.out hb)
 have HA3 := Lib.hid ((hb.block w.heap.size (by rw [HS.out]; omega)).trans HA.out)
 have HX3 := Lib.hid ((hb.block (w.heap.size + 1) (by rw [HS.out]; omega)).trans HX.out)
 obtain ⟨Ao, co, rfl⟩ := Kd.R_slice hv
 have HV := Lib.hid hv
 have HS3 := Lib.hid hb.size
 clear hb hv
 refine hK.out _ _ ⟨cell_in HA3.out 0, cell_in HA3.out 1, cell_in HA3.out 2, cell_in HA3.out 3⟩ (fun hHeld => ?_)
 clear hK K
 refine norm_ (a' := ?_) ?_ ?_
 rotate_left
 ·show Act.put _ (some 11) _ = _
  simp only [Act.put, zO, zP, zR, i64_w, i32_w]
  rfl
 refine pure_ (i := 9) (N := some 12) (v := ?_) (a' := ?_) (zBM 11 1023) rfl rfl (by kernel_rfl) (fun _ _ _ h => h) (Or.inl ⟨by rfl, ?_⟩) ?_ ?_
 rotate_left
 ·intro w'
  go_simp
  with_reducible rfl
 rotate_left
 ·simp only [Act.put, zO, zP, zR, i64_w, i32_w]
  rfl
 refine last_ (i := 10) (N := none) (zBM 11 2047) rfl rfl (by kernel_rfl) (by decide) (fun K hK => ?_)
 have x0 : w3.cell? ⟨w.heap.size + 1, 0, none⟩ = _ := cell_in HX3.out 0
 have x1 : w3.cell? ⟨w.heap.size + 1, 1, none⟩ = _ := cell_in HX3.out 1
 have x2 : w3.cell? ⟨w.heap.size + 1, 2, none⟩ = _ := cell_in HX3.out 2
 have x3 : w3.cell? ⟨w.heap.size + 1, 3, none⟩ = _ := cell_in HX3.out 3
 have f0 : w3.frozen? ⟨w.heap.size + 1, 0, none⟩ = false := frz_in HX3.out 0
 have f1 : w3.frozen? ⟨w.heap.size + 1, 1, none⟩ = false := frz_in HX3.out 1
 have f2 : w3.frozen? ⟨w.heap.size + 1, 2, none⟩ = false := frz_in HX3.out 2
 have f3 : w3.frozen? ⟨w.heap.size + 1, 3, none⟩ = false := frz_in HX3.out 3
 refine skip_ (w1 := ?_) (by rfl) rfl ?_ ?_
 rotate_left
 ·go_simp
  rfl
 refine hK.out _ _ ?_
 clear hK K
 refine done_ (by kernel_rfl) ?_

 clear x0 x1 x2 x3 f0 f1 f2 f3 hHeld
 have hbr := heap_set4 HX3.out (.int .i64 a0) (.int .i64 a1) (.string a2) (.slice Ao r.length co)
 have hgr := grown_set4 w3 (w.heap.size + 1) (.int .i64 a0) (.int .i64 a1) (.string a2) (.slice Ao r.length co)
 generalize ((((w3.setCell ⟨w.heap.size + 1, 0, none⟩ (.int .i64 a0)).setCell ⟨w.heap.size + 1, 1, none⟩ (.int .i64 a1)).setCell ⟨w.heap.size + 1, 2, none⟩ (.string a2)).setCell ⟨w.heap.size + 1, 3, none⟩ (.slice Ao r.length co)) = W4 at hbr hgr ⊢
 have q0 := cell_in hbr 0
 have q1 := cell_in hbr 1
 have q2 := cell_in hbr 2
 have q3 := cell_in hbr 3
 have hB4 : Below w.heap.size w W4 := below_grown HB3.out hgr (by omega)
 have hR4 := Kd.R_lower (Kd.R_mono (Kd.R_grown (Kd.R_bound HV.out) hgr (fun k hk e => by
  injection e with e
  have h1 := hk.2.1
  have h2 := HS.out
  omega)) (fun _ _ => trivial)) (show w.heap.size ≤ w2.drew.heap.size by have := HS.out; omega)
 go_wp2_with fail
 exact bodyPost_ret (v := .agg #[.int .i64 a0, .int .i64 a1, .string a2, .slice Ao r.length co]) (by simp [results, Tryd.results37, go_sem, q0, q1, q2, q3]) rfl ⟨_, rfl, hR4, hB4⟩
theorem refT_all : ∀ k, RefTC k := by
 intro k
 induction k using Nat.strongRecOn with
 | _ k ih =>
  cases k with
  | zero => intro a0 a1 a2 A c l r0 r1 r2 r3 w _ _ hf; simp [hammocklaw03_RefType.f] at hf
  | succ k => exact refT_succ k (fun m hm => ih m (by omega))
end Go.Proofs.YtddmdiaopaoekaaDoor.P
