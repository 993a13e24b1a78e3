import Derived.Test.YtddmdiaopaoekaaDoorTyI
namespace Go.Proofs.YtddmdiaopaoekaaDoor.P
open Go.RowKit Go.Shelf Go.Proofs.YtddmdiaopaoekaaDoorW.PrintWords Go.Proofs.YtddmdiaopaoekaaDoorW.PrintLast Go.Proofs.YtddmdiaopaoekaaDoor.Rw
set_option linter.unusedVariables false
set_option linter.unusedSimpArgs false
/-- A scheme handed back. -/
def SchP (w : World) (V : Int) (r : S31) (e : Ending) (w' : World) : Prop :=
 ∃ A c, e = .returned (.agg #[.int .i64 V, .int .i64 r.f0, .int .i64 r.f1, .string r.f2, .slice A r.f3.length c]) ∧ r.f3.length ≤ c ∧ k31.C w' A r.f3.length r.f3 ∧ Below w.heap.size w w'
noncomputable def schV (x : S31) : Int := if rightB 400 x = true then (VarsB x).length else 0
noncomputable def schT (x : S31) : S31 := if rightB 400 x = true then changeN 400 (anewV (VarsB x)) x else ⟨0, 0, ⟨#[]⟩, []⟩
theorem row_slice {W : World} {base e k : Nat} {v : Value} {xs : List Value} (h : W.ownsRow base e 1 v k xs) : ∃ A c, v = .slice A k c ∧ k ≤ c ∧ ∀ j u, xs[j]? = some u → ∃ g, A = some ⟨g, 0, none⟩ ∧ base ≤ g ∧ W.cell? ((⟨g, 0, none⟩ : Addr).add j) = some u := by
 rcases h.2 with ⟨rfl, h0⟩ | ⟨g, cap, cur, rfl, hb, _, hle, _⟩
 ·exact ⟨none, 0, by rw [h0], by omega, fun j u hj => by
   have := h.1
   rw [h0] at this
   have hx : xs = [] := List.eq_nil_of_length_eq_zero (by simpa using this)
   rw [hx] at hj; simp at hj⟩
 ·exact ⟨_, cap, rfl, hle, fun j u hj => ⟨g, rfl, hb, h.cells rfl j u hj⟩⟩
theorem nodup_foldNew : ∀ (xs l : List Int), l.Nodup → (xs.foldl addNew l).Nodup
 | [], l, h => h
 | x :: xs, l, h => by
  refine nodup_foldNew xs _ ?_
  unfold addNew
  split
  ·exact h
  ·rename_i hx
   exact List.nodup_append.2 ⟨h, by simp, fun a ha b hb e => by simp at hb; exact hx (by rw [← hb, ← e]; exact ha)⟩
theorem nodup_vars (x : S31) : (VarsB x).Nodup := by
 unfold VarsB
 split
 ·exact nodup_foldNew _ _ List.nodup_nil
 ·exact List.nodup_nil
theorem notin_take {l : List Int} (h : l.Nodup) (kk : Nat) (hk : kk < l.length) : l[kk] ∉ l.take kk := fun hm => by
 obtain ⟨j, hj, e⟩ := List.mem_iff_getElem.1 hm
 rw [List.getElem_take] at e
 rw [List.length_take] at hj
 have := (List.getElem_inj h).1 e
 omega
theorem add_g (g k : Nat) : (⟨g, 0, none⟩ : Addr).add k = ⟨g, k, none⟩ := by
 cases k <;> simp [Addr.add]
theorem eachV_imp {P Q : S31 → Prop} (h : ∀ x, P x → Q x) : ∀ (n : Nat) (x : S31), eachV P n x → eachV Q n x
 | 0, _, _ => trivial
 | n + 1, x, k => ⟨fun e => h x (k.1 e), fun y hy => eachV_imp h n y (k.2 y hy)⟩
theorem heap_set5 {W : World} {b : Nat} {a0 a1 a2 a3 a4 : Value} {t : TypeId} {fr : Nat × Nat} (h : W.heap[b]? = some (.cells #[a0, a1, a2, a3, a4] t fr)) (v0 v1 v2 v3 v4 : Value) :
  (((((W.setCell ⟨b, 0, none⟩ v0).setCell ⟨b, 1, none⟩ v1).setCell ⟨b, 2, none⟩ v2).setCell ⟨b, 3, none⟩ v3).setCell ⟨b, 4, none⟩ v4).heap[b]? = some (.cells #[v0, v1, v2, v3, v4] t fr) :=
 heap_set (heap_set (heap_set (heap_set (heap_set h 0 v0) 1 v1) 2 v2) 3 v3) 4 v4
theorem grown_set5 (W : World) (b : Nat) (v0 v1 v2 v3 v4 : Value) : W.grownBy (((((W.setCell ⟨b, 0, none⟩ v0).setCell ⟨b, 1, none⟩ v1).setCell ⟨b, 2, none⟩ v2).setCell ⟨b, 3, none⟩ v3).setCell ⟨b, 4, none⟩ v4) (some b) :=
 (grown_set4 W b v0 v1 v2 v3).trans (grown_set _ ⟨b, 4, none⟩ v4)
set_option maxHeartbeats 4000000 in
set_option maxRecDepth 100000 in
theorem Scheme1_calls (x : S31) (A : Option Addr) (c : Nat) (w : World) (hc : x.f3.length ≤ c) (hC : k31.C w A x.f3.length x.f3) (hwf : ∀ v, v ∈ varsL x → (Lit.int .i64 v).wf = true) (hN : (varsL x).length ≤ 10000000) (hV : eachV (fun v => (Lit.int .i64 v.f1).wf = true) 400 x) :
  Calls Tryd.prog 18 #[.agg #[.int .i64 x.f0, .int .i64 x.f1, .string x.f2, .slice A x.f3.length c]] w (SchP w (schV x) (schT x)) := by
 have hmm := @run_makeMap Tryd.prog
 have HC := Lib.hid hC
 have HWF := Lib.hid hwf
 have HN := Lib.hid hN
 have HV := Lib.hid hV
 clear hC hwf hN hV
 go_enter Tryd.func18, Tryd.ntmps18
 go_wp2_with fail
 refine (Right_calls x A c _ hc (c_below HC.out (((Below.refl _ _).alloc (Nat.le_refl _) _).alloc (by simp) _))).mono ?_
 rintro e w2 ⟨rfl, hb2⟩
 have hbx := (hb2.block w.heap.size (by simp; omega)).trans (new2_a w _ _)
 have hbr := (hb2.block (w.heap.size + 1) (by simp)).trans (new2_b w _ _)
 have hB2 : Below w.heap.size w w2 := (((Below.refl _ w).alloc (Nat.le_refl _) _).alloc (by simp) _).trans (hb2.mono (by simp; omega))
 have hsz := hb2.size
 simp only [World.size_alloc] at hsz
 have x0 := cell_in hbx 0
 have x1 := cell_in hbx 1
 have x2 := cell_in hbx 2
 have x3 := cell_in hbx 3
 have HBX := Lib.hid hbx
 have HBR := Lib.hid hbr
 have HB2 := Lib.hid hB2
 have HSZ := Lib.hid hsz
 clear hb2 hbx hbr hB2 hsz
 by_cases hr : rightB 400 x = true
 ·have hr' : RightB x = true := hr
  have hs : schV x = (VarsB x).length := by unfold schV; rw [if_pos hr]
  have ht : schT x = changeN 400 (anewV (VarsB x)) x := by unfold schT; rw [if_pos hr]
  rw [hr']
  have HS := Lib.hid hs
  have HT := Lib.hid ht
  have HR := Lib.hid hr
  clear hs ht hr hr'
  go_wp2_with fail
  refine (Vars_calls x A c _ hc (c_below HC.out HB2.out) HWF.out HN.out).mono ?_
  rintro e w3 ⟨v, rfl, hrow, hb3⟩
  have HBX3 := Lib.hid ((hb3.block w.heap.size (by have := HSZ.out; omega)).trans HBX.out)
  have HBR3 := Lib.hid ((hb3.block (w.heap.size + 1) (by have := HSZ.out; omega)).trans HBR.out)
  have HB3 := Lib.hid (bel2 HB2.out hb3)
  have HSZ3 := Lib.hid (Nat.le_trans HSZ.out hb3.size)
  obtain ⟨Av, cv, rfl, hlv, hAv⟩ := row_slice hrow
  have HROW := Lib.hid hrow
  have HAV := Lib.hid hAv
  clear HBX HBR HB2 HSZ hb3 hrow hAv x0 x1 x2 x3
  have HND := Lib.hid (nodup_vars x)
  have HLN : Hid ((VarsB x).length ≤ 10000000) := Lib.hid (by unfold VarsB; split; exact Nat.le_trans (length_distinct _) HN.out; simp)
  have HWV : Hid (∀ v, v ∈ VarsB x → (Lit.int .i64 v).wf = true) := Lib.hid (fun v hv => by unfold VarsB at hv; split at hv; exact HWF.out v ((mem_distinct _ _).1 hv); simp at hv)
  generalize VarsB x = l at HS HT HROW HAV HND HLN HWV hlv
  go_wp2_with fail
  have hbb := Boxed.new (w3.alloc (.map #[] 0)) 90 (.map (some w3.heap.size))
  have hmm2 := (MapI.made Tryd.prog 3 w3).alloc (.cells #[.map (some w3.heap.size)] 90)
  have hB5 : Below w3.heap.size w3 ((w3.alloc (.map #[] 0)).alloc (.cells #[.map (some w3.heap.size)] 90)) := ((Below.refl _ _).alloc (Nat.le_refl _) _).alloc (by simp) _
  simp only [World.size_alloc] at hbb
  have hat0 : atM (l.take 0) = fun _ => none := rfl
  rw [← hat0] at hmm2
  clear hat0
  generalize (w3.alloc (.map #[] 0)).alloc (.cells #[.map (some w3.heap.size)] 90) = W5 at hbb hmm2 hB5 ⊢
  have HBB := Lib.hid hbb
  have HMM := Lib.hid hmm2
  have HB5 := Lib.hid hB5
  clear hbb hmm2 hB5 hmm
  have hbig := HLN.out
  go_loopw [5, 6, 16] (fun s5 s6 s16 wr => ∃ kk : Nat, kk ≤ l.length ∧ s16 = .int .i64 kk ∧ Hid (MapI Tryd.prog 3 wr w3.heap.size kk (atM (l.take kk))) ∧ Hid (Boxed wr (w3.heap.size + 1) 90 (.map (some w3.heap.size))) ∧ Hid (Below w3.heap.size w3 wr)) (fun _ _ s16 _ => l.length - (intOf s16).toNat)
  case atStart => exact ⟨0, by omega, rfl, HMM, HBB, HB5⟩
  case round =>
   clear HMM HBB HB5
   obtain ⟨kk, hkk, rfl, HM, HBx, HBe⟩ := hrel
   by_cases hlt : kk < l.length
   ·have hltz : (kk : Int) < (l.length : Int) := by omega
    obtain ⟨g, rfl, hg, hcg⟩ := HAV.out kk (.int .i64 l[kk]) (by rw [List.getElem?_map, List.getElem?_eq_getElem hlt]; rfl)
    have hcr : wr.cell? ⟨g, kk, none⟩ = some (.int .i64 l[kk]) := by
     have := pw_cell_below HBe.out hcg
     rwa [add_g] at this
    have hcb := HBx.out.cell
    have hwk := HWV.out l[kk] (List.getElem_mem hlt)
    obtain ⟨Wm, hput, hMm, hgm⟩ := HM.out.put (Maps.int_keyed Tryd.underlying3) Tryd.underlying3 Tryd.underlying90 (by have := HLN.out; unfold maxLen; omega) hwk (.int .i64 (kk : Int))
    have hat : putI (atM (l.take kk)) l[kk] (.int .i64 (kk : Int)) = atM (l.take (kk + 1)) := by
     have := atM_snoc (l.take kk) l[kk] (notin_take HND.out kk hlt)
     rw [List.length_take, Nat.min_eq_left hkk] at this
     rw [this, List.take_succ_eq_append_getElem hlt]
    rw [hat] at hMm
    have HMm := Lib.hid hMm
    have HBm := Lib.hid (HBx.out.kept hgm (by simp))
    have HBem := Lib.hid (HBe.out.grown hgm HBe.out.size (fun k e => by cases e; exact Nat.le_refl _))
    clear hMm hgm hat hwk hcg
    generalize l[kk] = lv at hcr hput
    go_wp2_with fail
    go_roundw
    case rel => exact ⟨kk + 1, by omega, by go_num, HMm, HBm, HBem⟩
    case measure => simp [intOf]; omega
   ·have hltz : ¬ (kk : Int) < (l.length : Int) := by omega
    obtain rfl : kk = l.length := by omega
    have hbx := (HBe.out.block w.heap.size (by have := HSZ3.out; omega)).trans HBX3.out
    have x0 := cell_in hbx 0
    have x1 := cell_in hbx 1
    have x2 := cell_in hbx 2
    have x3 := cell_in hbx 3
    have HBw := Lib.hid (bel2 HB3.out HBe.out)
    have HMl : Hid (MapI Tryd.prog 3 wr w3.heap.size l.length (atM l)) := Lib.hid (by have := HM.out; rwa [List.take_length] at this)
    clear hbx
    go_wp2_with fail
    refine (change_all 51 #[.pointer (some ⟨w3.heap.size + 1, 0, none⟩)] (anewV l) (enters_of Tryd.func51 (by kernel_rfl) rfl) w wr HBw.out 400 x A c wr (few_of_right 400 x HR.out) (eachV_imp (fun y hy => anew_by l w3.heap.size (w3.heap.size + 1) l.length w wr HBw.out HBx.out HMl.out y hy) 400 x HV.out) hc HC.out (Below.refl _ _)).mono ?_
    rintro e w6 ⟨A2, c2, rfl, hl2, hF2, hb6⟩
    generalize changeN 400 (anewV l) x = y at hl2 hF2 HT
    have hbr := (hb6.block (w.heap.size + 1) (by have := HSZ3.out; have := HBe.out.size; omega)).trans ((HBe.out.block (w.heap.size + 1) (by have := HSZ3.out; omega)).trans HBR3.out)
    have k0 := cell_in hbr 0
    have k1 := cell_in hbr 1
    have k2 := cell_in hbr 2
    have k3 := cell_in hbr 3
    have k4 := cell_in hbr 4
    have f0 := frz_in hbr 0
    have f1 := frz_in hbr 1
    have f2 := frz_in hbr 2
    have f3 := frz_in hbr 3
    have f4 := frz_in hbr 4
    have HF2 := Lib.hid hF2
    have HB6 := Lib.hid (bel2 HBw.out hb6)
    have HSr := Lib.hid HBe.out.size
    have HBR6 := Lib.hid hbr
    clear hF2 hb6 hbr
    go_wp2_with fail
    have hbr2 := heap_set5 HBR6.out (.int .i64 (l.length : Int)) (.int .i64 y.f0) (.int .i64 y.f1) (.string y.f2) (.slice A2 y.f3.length c2)
    have hgr := grown_set5 w6 (w.heap.size + 1) (.int .i64 (l.length : Int)) (.int .i64 y.f0) (.int .i64 y.f1) (.string y.f2) (.slice A2 y.f3.length c2)
    generalize (((((w6.setCell ⟨w.heap.size + 1, 0, none⟩ (.int .i64 (l.length : Int))).setCell ⟨w.heap.size + 1, 1, none⟩ (.int .i64 y.f0)).setCell ⟨w.heap.size + 1, 2, none⟩ (.int .i64 y.f1)).setCell ⟨w.heap.size + 1, 3, none⟩ (.string y.f2)).setCell ⟨w.heap.size + 1, 4, none⟩ (.slice A2 y.f3.length c2)) = W7 at hbr2 hgr ⊢
    have q0 := cell_in hbr2 0
    have q1 := cell_in hbr2 1
    have q2 := cell_in hbr2 2
    have q3 := cell_in hbr2 3
    have q4 := cell_in hbr2 4
    obtain ⟨he, hB7⟩ := ret_end HB6.out (b := w.heap.size + 1) (by omega) (HF2.out.mono (fun k hk => ⟨by have := HSZ3.out; have := HSr.out; have := hk.1; omega, hk.2⟩)) hgr
    exact bodyPost_ret (v := .agg #[.int .i64 (l.length : Int), .int .i64 y.f0, .int .i64 y.f1, .string y.f2, .slice A2 y.f3.length c2]) (by simp [results, Tryd.results18, go_sem, q0, q1, q2, q3, q4]) rfl (by rw [HS.out, HT.out]; exact ⟨A2, c2, rfl, hl2, he, hB7⟩)
 ·have hr' : RightB x = false := Bool.eq_false_iff.2 hr
  have hs : schV x = 0 := by unfold schV; rw [if_neg hr]
  have ht : schT x = ⟨0, 0, ⟨#[]⟩, []⟩ := by unfold schT; rw [if_neg hr]
  rw [hr']
  have HS := Lib.hid hs
  have HT := Lib.hid ht
  clear hs ht hr hr'
  have k0 := cell_in HBR.out 0
  have k1 := cell_in HBR.out 1
  have k2 := cell_in HBR.out 2
  have k3 := cell_in HBR.out 3
  have k4 := cell_in HBR.out 4
  have f0 := frz_in HBR.out 0
  have f1 := frz_in HBR.out 1
  have f2 := frz_in HBR.out 2
  have f3 := frz_in HBR.out 3
  have f4 := frz_in HBR.out 4
  go_wp2_with fail
  have hbr2 := heap_set5 HBR.out (.int .i64 0) (.int .i64 0) (.int .i64 0) (.string ⟨#[]⟩) (.slice none 0 0)
  have hgr := grown_set5 w2 (w.heap.size + 1) (.int .i64 0) (.int .i64 0) (.int .i64 0) (.string ⟨#[]⟩) (.slice none 0 0)
  generalize (((((w2.setCell ⟨w.heap.size + 1, 0, none⟩ (.int .i64 0)).setCell ⟨w.heap.size + 1, 1, none⟩ (.int .i64 0)).setCell ⟨w.heap.size + 1, 2, none⟩ (.int .i64 0)).setCell ⟨w.heap.size + 1, 3, none⟩ (.string ⟨#[]⟩)).setCell ⟨w.heap.size + 1, 4, none⟩ (.slice none 0 0)) = W3 at hbr2 hgr ⊢
  have q0 := cell_in hbr2 0
  have q1 := cell_in hbr2 1
  have q2 := cell_in hbr2 2
  have q3 := cell_in hbr2 3
  have q4 := cell_in hbr2 4
  exact bodyPost_ret (v := .agg #[.int .i64 0, .int .i64 0, .int .i64 0, .string ⟨#[]⟩, .slice none 0 0]) (by simp [results, Tryd.results18, go_sem, q0, q1, q2, q3, q4]) rfl (by rw [HS.out, HT.out]; exact ⟨none, 0, rfl, Nat.le_refl _, (FC.nil W3 (fun _ => True) none).now, below_grown HB2.out hgr (by omega)⟩)
end Go.Proofs.YtddmdiaopaoekaaDoor.P
