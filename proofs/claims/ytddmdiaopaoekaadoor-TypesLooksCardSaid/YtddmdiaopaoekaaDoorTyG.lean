import Derived.Test.YtddmdiaopaoekaaDoorTyF
import Derived.Test.YtddmdiaopaoekaaDoorTyC
namespace Go.Proofs.YtddmdiaopaoekaaDoor.P
open Go.RowKit Go.Proofs.YtddmdiaopaoekaaDoorW.PrintWords Go.Proofs.YtddmdiaopaoekaaDoorW.PrintLast Go.Proofs.YtddmdiaopaoekaaDoor.Rw
set_option linter.unusedVariables false
set_option linter.unusedSimpArgs false
/-- A type handed back. -/
def TreeP (w : World) (r : S31) (e : Ending) (w' : World) : Prop :=
 ∃ A c, e = .returned (.agg #[.int .i64 r.f0, .int .i64 r.f1, .string r.f2, .slice A r.f3.length c]) ∧ r.f3.length ≤ c ∧ k31.C w' A r.f3.length r.f3 ∧ Below w.heap.size w w'
theorem TreeR.p {n0 : Nat} {w : World} {r : S31} {e : Ending} {w' : World} (h : TreeR n0 w r e w') : TreeP w r e w' := by
 obtain ⟨A, c, h1, h2, h3, h4⟩ := h
 exact ⟨A, c, h1, h2, h3.now, h4⟩
theorem fc_old {w0 W : World} {A : Option Addr} {xs : List S31} (hC : k31.C w0 A xs.length xs) (hb : Below w0.heap.size w0 W) : FC k31 W (fun k => k < w0.heap.size) A xs.length xs :=
 fun W' ha => (FC.of_C k31_heap hC) W' (fun k hk => (ha k hk).trans (hb.block k hk))
set_option maxHeartbeats 1000000 in
theorem id45_by (w0 w1 : World) (h01 : Below w0.heap.size w0 w1) (x : S31) : ByT 45 #[] id w0 w1 x := by
 intro W A c hB hc hC
 have HC := Lib.hid hC
 have HB := Lib.hid (h01.trans (hB.mono h01.size))
 clear hC hB h01
 go_enter Tryd.func45, Tryd.ntmps45
 go_wp2_with fail
 have hb := new2_b W (.cells #[.int .i64 x.f0, .int .i64 x.f1, .string x.f2, .slice A x.f3.length c] 31) (.cells #[.int .i64 x.f0, .int .i64 x.f1, .string x.f2, .slice A x.f3.length c] 31)
 have hB2 : Below W.heap.size W ((W.alloc (.cells #[.int .i64 x.f0, .int .i64 x.f1, .string x.f2, .slice A x.f3.length c] 31)).alloc (.cells #[.int .i64 x.f0, .int .i64 x.f1, .string x.f2, .slice A x.f3.length c] 31)) := ((Below.refl _ _).alloc (Nat.le_refl _) _).alloc (by simp) _
 generalize (W.alloc (.cells #[.int .i64 x.f0, .int .i64 x.f1, .string x.f2, .slice A x.f3.length c] 31)).alloc (.cells #[.int .i64 x.f0, .int .i64 x.f1, .string x.f2, .slice A x.f3.length c] 31) = W3 at hb hB2 ⊢
 have q0 := cell_in hb 0
 have q1 := cell_in hb 1
 have q2 := cell_in hb 2
 have q3 := cell_in hb 3
 have hs := HB.out.size
 exact bodyPost_ret (v := .agg #[.int .i64 x.f0, .int .i64 x.f1, .string x.f2, .slice A x.f3.length c]) (by simp [results, Tryd.results45, go_sem, q0, q1, q2, q3]) rfl ⟨A, c, rfl, hc, (fc_old HC.out (HB.out.trans (hB2.mono hs))).mono (fun k hk => ⟨.inl hk, by have := hB2.size; omega⟩), hB2⟩
set_option maxHeartbeats 1000000 in
theorem id53_by (w0 w1 : World) (h01 : Below w0.heap.size w0 w1) (x : S31) : ByT 53 #[] id w0 w1 x := by
 intro W A c hB hc hC
 have HC := Lib.hid hC
 have HB := Lib.hid (h01.trans (hB.mono h01.size))
 clear hC hB h01
 go_enter Tryd.func53, Tryd.ntmps53
 go_wp2_with fail
 have hb := new2_b W (.cells #[.int .i64 x.f0, .int .i64 x.f1, .string x.f2, .slice A x.f3.length c] 31) (.cells #[.int .i64 x.f0, .int .i64 x.f1, .string x.f2, .slice A x.f3.length c] 31)
 have hB2 : Below W.heap.size W ((W.alloc (.cells #[.int .i64 x.f0, .int .i64 x.f1, .string x.f2, .slice A x.f3.length c] 31)).alloc (.cells #[.int .i64 x.f0, .int .i64 x.f1, .string x.f2, .slice A x.f3.length c] 31)) := ((Below.refl _ _).alloc (Nat.le_refl _) _).alloc (by simp) _
 generalize (W.alloc (.cells #[.int .i64 x.f0, .int .i64 x.f1, .string x.f2, .slice A x.f3.length c] 31)).alloc (.cells #[.int .i64 x.f0, .int .i64 x.f1, .string x.f2, .slice A x.f3.length c] 31) = W3 at hb hB2 ⊢
 have q0 := cell_in hb 0
 have q1 := cell_in hb 1
 have q2 := cell_in hb 2
 have q3 := cell_in hb 3
 have hs := HB.out.size
 exact bodyPost_ret (v := .agg #[.int .i64 x.f0, .int .i64 x.f1, .string x.f2, .slice A x.f3.length c]) (by simp [results, Tryd.results53, go_sem, q0, q1, q2, q3]) rfl ⟨A, c, rfl, hc, (fc_old HC.out (HB.out.trans (hB2.mono hs))).mono (fun k hk => ⟨.inl hk, by have := hB2.size; omega⟩), hB2⟩
theorem changeN_id : ∀ (n : Nat) (x : S31), changeN n id x = x
 | 0, _ => rfl
 | n + 1, x => by
  have hs : changeN (n + 1) id x = if x.f0 = 1 then id x else ⟨x.f0, x.f1, x.f2, x.f3.map (changeN n id)⟩ := rfl
  rw [hs]
  have h : changeN n id = id := funext (changeN_id n)
  rw [h, List.map_id]
  cases x
  split <;> rfl
theorem eachV_of {P : S31 → Prop} (h : ∀ x, P x) : ∀ (n : Nat) (x : S31), eachV P n x
 | 0, _ => trivial
 | n + 1, x => ⟨fun _ => h x, fun y _ => eachV_of h n y⟩
/-- A copy by change. -/
theorem copy45 (n : Nat) (w0 : World) (x : S31) (A : Option Addr) (c : Nat) (W : World) (h : fewN n x) (hc : x.f3.length ≤ c) (hC : k31.C w0 A x.f3.length x.f3) (hB : Below w0.heap.size w0 W) :
  Calls Tryd.prog 44 #[.agg #[.int .i64 x.f0, .int .i64 x.f1, .string x.f2, .slice A x.f3.length c], .func (.func 45) #[] #[]] W (TreeR w0.heap.size W x) := by
 have := change_all 45 #[] id (enters_of Tryd.func45 (by kernel_rfl) rfl) w0 w0 (Below.refl _ _) n x A c W h (eachV_of (id45_by w0 w0 (Below.refl _ _)) n x) hc hC hB
 rwa [changeN_id] at this
theorem copy53 (n : Nat) (w0 : World) (x : S31) (A : Option Addr) (c : Nat) (W : World) (h : fewN n x) (hc : x.f3.length ≤ c) (hC : k31.C w0 A x.f3.length x.f3) (hB : Below w0.heap.size w0 W) :
  Calls Tryd.prog 44 #[.agg #[.int .i64 x.f0, .int .i64 x.f1, .string x.f2, .slice A x.f3.length c], .func (.func 53) #[] #[]] W (TreeR w0.heap.size W x) := by
 have := change_all 53 #[] id (enters_of Tryd.func53 (by kernel_rfl) rfl) w0 w0 (Below.refl _ _) n x A c W h (eachV_of (id53_by w0 w0 (Below.refl _ _)) n x) hc hC hB
 rwa [changeN_id] at this
/-- What a list tells of a variable. -/
def subV (l : List S31) (v : S31) : S31 := if v.f1 < 0 ∨ (l.length : Int) ≤ v.f1 then v else l.getD v.f1.toNat z31
set_option maxHeartbeats 4000000 in
theorem sub_by (n : Nat) (l : List S31) (Al : Option Addr) (cl bL : Nat) (w0 w1 : World) (h01 : Below w0.heap.size w0 w1) (hL : k31.C w0 Al l.length l) (hcl : l.length ≤ cl) (hf : ∀ y, y ∈ l → fewN n y)
  (hb : w1.cell? ⟨bL, 0, none⟩ = some (.slice Al l.length cl)) (hb1 : bL < w1.heap.size) (x : S31) : ByT 52 #[.pointer (some ⟨bL, 0, none⟩)] (subV l) w0 w1 x := by
 intro W A c hB hc hC
 have hbig := hL.2.1
 have c0 : W.cell? ⟨bL, 0, none⟩ = some (.slice Al l.length cl) := pw_cell_below hB hb
 have cc : ∀ o o', ((W.alloc o).alloc o').cell? ⟨bL, 0, none⟩ = some (.slice Al l.length cl) := fun o o' => cell_allocN _ (cell_allocN _ c0)
 have HC := Lib.hid hC
 have HL := Lib.hid hL
 have HF := Lib.hid hf
 have HB := Lib.hid (h01.trans (hB.mono h01.size))
 clear hC hB h01 hL hf hb hb1
 by_cases h0 : x.f1 < 0 ∨ (l.length : Int) ≤ x.f1
 ·have hs : subV l x = x := by unfold subV; rw [if_pos h0]
  rw [hs]
  clear hs
  go_enter Tryd.func52, Tryd.ntmps52
  rcases h0 with h0 | h0
  ·go_wp2_with fail
   have hb := new2_b W (.cells #[.int .i64 x.f0, .int .i64 x.f1, .string x.f2, .slice A x.f3.length c] 31) (.cells #[.int .i64 x.f0, .int .i64 x.f1, .string x.f2, .slice A x.f3.length c] 31)
   have hB2 : Below W.heap.size W ((W.alloc (.cells #[.int .i64 x.f0, .int .i64 x.f1, .string x.f2, .slice A x.f3.length c] 31)).alloc (.cells #[.int .i64 x.f0, .int .i64 x.f1, .string x.f2, .slice A x.f3.length c] 31)) := ((Below.refl _ _).alloc (Nat.le_refl _) _).alloc (by simp) _
   generalize (W.alloc (.cells #[.int .i64 x.f0, .int .i64 x.f1, .string x.f2, .slice A x.f3.length c] 31)).alloc (.cells #[.int .i64 x.f0, .int .i64 x.f1, .string x.f2, .slice A x.f3.length c] 31) = W3 at hb hB2 ⊢
   have q0 := cell_in hb 0
   have q1 := cell_in hb 1
   have q2 := cell_in hb 2
   have q3 := cell_in hb 3
   have hs := HB.out.size
   exact bodyPost_ret (v := .agg #[.int .i64 x.f0, .int .i64 x.f1, .string x.f2, .slice A x.f3.length c]) (by simp [results, Tryd.results52, go_sem, q0, q1, q2, q3]) rfl ⟨A, c, rfl, hc, (fc_old HC.out (HB.out.trans (hB2.mono hs))).mono (fun k hk => ⟨.inl hk, by have := hB2.size; omega⟩), hB2⟩
  ·have h1 : ¬ x.f1 < 0 := by omega
   go_wp2_with fail
   have hb := new2_b W (.cells #[.int .i64 x.f0, .int .i64 x.f1, .string x.f2, .slice A x.f3.length c] 31) (.cells #[.int .i64 x.f0, .int .i64 x.f1, .string x.f2, .slice A x.f3.length c] 31)
   have hB2 : Below W.heap.size W ((W.alloc (.cells #[.int .i64 x.f0, .int .i64 x.f1, .string x.f2, .slice A x.f3.length c] 31)).alloc (.cells #[.int .i64 x.f0, .int .i64 x.f1, .string x.f2, .slice A x.f3.length c] 31)) := ((Below.refl _ _).alloc (Nat.le_refl _) _).alloc (by simp) _
   generalize (W.alloc (.cells #[.int .i64 x.f0, .int .i64 x.f1, .string x.f2, .slice A x.f3.length c] 31)).alloc (.cells #[.int .i64 x.f0, .int .i64 x.f1, .string x.f2, .slice A x.f3.length c] 31) = W3 at hb hB2 ⊢
   have q0 := cell_in hb 0
   have q1 := cell_in hb 1
   have q2 := cell_in hb 2
   have q3 := cell_in hb 3
   have hs := HB.out.size
   exact bodyPost_ret (v := .agg #[.int .i64 x.f0, .int .i64 x.f1, .string x.f2, .slice A x.f3.length c]) (by simp [results, Tryd.results52, go_sem, q0, q1, q2, q3]) rfl ⟨A, c, rfl, hc, (fc_old HC.out (HB.out.trans (hB2.mono hs))).mono (fun k hk => ⟨.inl hk, by have := hB2.size; omega⟩), hB2⟩
 ·have hlo : ¬ x.f1 < 0 := by omega
  have hhi : ¬ (l.length : Int) ≤ x.f1 := by omega
  have hlt : x.f1 < (l.length : Int) := by omega
  have hs : subV l x = l.getD x.f1.toNat z31 := by unfold subV; rw [if_neg h0]
  obtain ⟨ad, A3, c3, rfl, i0, i1, i2, i3, hl3, hC3⟩ := at_T31 HL.out x.f1 (by omega) hlt
  have hrd : rd_T31 l x.f1 = l.getD x.f1.toNat z31 := rfl
  have hmem : l.getD x.f1.toNat z31 ∈ l := getD_mem l x.f1.toNat (by omega)
  rw [hs]
  rw [hrd] at i0 i1 i2 i3 hl3 hC3
  replace i0 := pw_cell_below HB.out i0
  replace i1 := pw_cell_below HB.out i1
  replace i2 := pw_cell_below HB.out i2
  replace i3 := pw_cell_below HB.out i3
  generalize l.getD x.f1.toNat z31 = y at i0 i1 i2 i3 hl3 hC3 hmem
  have HY := Lib.hid (HF.out y hmem)
  have HC3 := Lib.hid hC3
  have I0 := fun o o' => cell_allocN o' (cell_allocN o i0)
  have I1 := fun o o' => cell_allocN o' (cell_allocN o i1)
  have I2 := fun o o' => cell_allocN o' (cell_allocN o i2)
  have I3 := fun o o' => cell_allocN o' (cell_allocN o i3)
  clear hs hrd hmem hC3 h0 i0 i1 i2 i3
  go_enter Tryd.func52, Tryd.ntmps52
  go_wp2_with fail
  refine (copy53 n w0 y A3 c3 _ HY.out hl3 HC3.out (HB.out.trans ((((Below.refl _ _).alloc (Nat.le_refl _) _).alloc (by simp) _).mono HB.out.size))).mono ?_
  rintro e w2 ⟨A2, c2, rfl, hl2, hF2, hb2⟩
  have hbr := (hb2.block (W.heap.size + 1) (by simp)).trans (new2_b W _ _)
  have k0 := cell_in hbr 0
  have k1 := cell_in hbr 1
  have k2 := cell_in hbr 2
  have k3 := cell_in hbr 3
  have f0 := frz_in hbr 0
  have f1 := frz_in hbr 1
  have f2 := frz_in hbr 2
  have f3 := frz_in hbr 3
  have HF2 := Lib.hid hF2
  have HB2 := Lib.hid hb2
  have HBR := Lib.hid hbr
  clear hF2 hb2 hbr
  go_wp2_with fail
  have hbr2 := heap_set4 HBR.out (.int .i64 y.f0) (.int .i64 y.f1) (.string y.f2) (.slice A2 y.f3.length c2)
  have hgr := grown_set4 w2 (W.heap.size + 1) (.int .i64 y.f0) (.int .i64 y.f1) (.string y.f2) (.slice A2 y.f3.length c2)
  generalize ((((w2.setCell ⟨W.heap.size + 1, 0, none⟩ (.int .i64 y.f0)).setCell ⟨W.heap.size + 1, 1, none⟩ (.int .i64 y.f1)).setCell ⟨W.heap.size + 1, 2, none⟩ (.string y.f2)).setCell ⟨W.heap.size + 1, 3, none⟩ (.slice A2 y.f3.length c2)) = W3 at hbr2 hgr ⊢
  have q0 := cell_in hbr2 0
  have q1 := cell_in hbr2 1
  have q2 := cell_in hbr2 2
  have q3 := cell_in hbr2 3
  have hB3 : Below W.heap.size W W3 := below_grown ((((Below.refl _ _).alloc (Nat.le_refl _) _).alloc (by simp) _).trans (HB2.out.mono (by simp; omega))) hgr (by omega)
  have hF3 : FC k31 W3 (fun k => (k < w0.heap.size ∨ W.heap.size ≤ k) ∧ k < W3.heap.size) A2 y.f3.length y.f3 :=
   (HF2.out.to (Agr.of_grown hgr (fun k hk => ⟨hk.2, fun e => by
    obtain rfl : k = W.heap.size + 1 := Option.some.inj e
    have := hk.1
    simp at this
    have h1 := HB.out.size
    omega⟩))).mono (fun k hk => ⟨hk.1.elim .inl (fun h => .inr (by simp at h; omega)), Nat.lt_of_lt_of_le hk.2 hgr.size⟩)
  exact bodyPost_ret (v := .agg #[.int .i64 y.f0, .int .i64 y.f1, .string y.f2, .slice A2 y.f3.length c2]) (by simp [results, Tryd.results52, go_sem, q0, q1, q2, q3]) rfl ⟨A2, c2, rfl, hl2, hF3, hB3⟩
end Go.Proofs.YtddmdiaopaoekaaDoor.P
namespace Go.Proofs.YtddmdiaopaoekaaDoor.P
open Go.RowKit Go.Proofs.YtddmdiaopaoekaaDoorW.PrintWords Go.Proofs.YtddmdiaopaoekaaDoorW.PrintLast Go.Proofs.YtddmdiaopaoekaaDoor.Rw
set_option linter.unusedVariables false
set_option linter.unusedSimpArgs false
theorem new3_a (w : World) (o1 o2 o3 : Obj) : (((w.alloc o1).alloc o2).alloc o3).heap[w.heap.size]? = (w.alloc o1).heap[w.heap.size]? := by
 rw [heap_old _ _ _ (by simp; omega), heap_old _ _ _ (by simp)]
theorem new3_b (w : World) (o1 o2 o3 : Obj) : (((w.alloc o1).alloc o2).alloc o3).heap[w.heap.size + 1]? = ((w.alloc o1).alloc o2).heap[(w.alloc o1).heap.size]? := by
 rw [heap_old _ _ _ (by simp), World.size_alloc]
theorem new3_c (w : World) (o1 o2 o3 : Obj) : (((w.alloc o1).alloc o2).alloc o3).heap[w.heap.size + 1 + 1]? = (((w.alloc o1).alloc o2).alloc o3).heap[((w.alloc o1).alloc o2).heap.size]? := by
 rw [World.size_alloc, World.size_alloc]
theorem below3 (w : World) (o1 o2 o3 : Obj) : Below w.heap.size w (((w.alloc o1).alloc o2).alloc o3) := (((Below.refl _ w).alloc (Nat.le_refl _) _).alloc (by simp) _).alloc (by simp; omega) _
theorem c_below {w W : World} {A : Option Addr} {xs : List S31} (hC : k31.C w A xs.length xs) (hb : Below w.heap.size w W) : k31.C W A xs.length xs := (fc_old hC hb).now
theorem ret_end {w w2 W3 : World} {b : Nat} {A2 : Option Addr} {y : S31} (hB : Below w.heap.size w w2) (hb : w.heap.size ≤ b) (hF : FC k31 w2 (fun k => (k < w.heap.size ∨ b < k) ∧ k < w2.heap.size) A2 y.f3.length y.f3) (hgr : w2.grownBy W3 (some b)) :
  k31.C W3 A2 y.f3.length y.f3 ∧ Below w.heap.size w W3 := by
 refine ⟨(hF.to (Agr.of_grown hgr (fun k hk => ⟨hk.2, fun e => ?_⟩))).now, below_grown hB hgr hb⟩
 obtain rfl : k = b := Option.some.inj e
 omega
/-- Subst. -/
noncomputable def substB (x : S31) (l : List S31) : S31 := if rightB 400 x = true then changeN 400 (subV l) x else ⟨0, 0, ⟨#[]⟩, []⟩
set_option maxHeartbeats 4000000 in
theorem Subst_calls (n : Nat) (x : S31) (A : Option Addr) (c : Nat) (l : List S31) (Al : Option Addr) (cl : Nat) (w : World) (hc : x.f3.length ≤ c) (hC : k31.C w A x.f3.length x.f3) (hcl : l.length ≤ cl) (hL : k31.C w Al l.length l) (hf : ∀ y, y ∈ l → fewN n y) :
  Calls Tryd.prog 19 #[.agg #[.int .i64 x.f0, .int .i64 x.f1, .string x.f2, .slice A x.f3.length c], .slice Al l.length cl] w (TreeP w (substB x l)) := by
 have HC := Lib.hid hC
 have HL := Lib.hid hL
 have HF := Lib.hid hf
 clear hC hL hf
 go_enter Tryd.func19, Tryd.ntmps19
 go_wp2_with fail
 refine (Right_calls x A c _ hc (c_below HC.out (below3 _ _ _ _))).mono ?_
 rintro e w2 ⟨rfl, hb2⟩
 have hbx := (hb2.block w.heap.size (by simp; omega)).trans ((new3_a w _ _ _).trans (heap_new w _))
 have hbl := (hb2.block (w.heap.size + 1) (by simp)).trans ((new3_b w _ _ _).trans (heap_new _ _))
 have hbr := (hb2.block (w.heap.size + 1 + 1) (by simp)).trans ((new3_c w _ _ _).trans (heap_new _ _))
 have hB2 : Below w.heap.size w w2 := (below3 w _ _ _).trans (hb2.mono (by simp; omega))
 have hsz := hb2.size
 simp only [World.size_alloc] at hsz
 have x0 := cell_in hbx 0
 have x1 := cell_in hbx 1
 have x2 := cell_in hbx 2
 have x3 := cell_in hbx 3
 have k0 := cell_in hbr 0
 have k1 := cell_in hbr 1
 have k2 := cell_in hbr 2
 have k3 := cell_in hbr 3
 have f0 := frz_in hbr 0
 have f1 := frz_in hbr 1
 have f2 := frz_in hbr 2
 have f3 := frz_in hbr 3
 have HBL := Lib.hid hbl
 have HBR := Lib.hid hbr
 have HB2 := Lib.hid hB2
 have HSZ := Lib.hid hsz
 clear hb2 hbx hbl hbr hB2 hsz
 by_cases hr : rightB 400 x = true
 ·have hr' : RightB x = true := hr
  have hs : substB x l = changeN 400 (subV l) x := by unfold substB; rw [if_pos hr]
  rw [hr']
  have HR := Lib.hid hr
  have HS := Lib.hid hs
  clear hs hr hr'
  go_wp2_with fail
  refine (change_all 52 #[.pointer (some ⟨w.heap.size + 1, 0, none⟩)] (subV l) (enters_of Tryd.func52 (by kernel_rfl) rfl) w w2 HB2.out 400 x A c w2 (few_of_right 400 x HR.out) (eachV_of (sub_by n l Al cl (w.heap.size + 1) w w2 HB2.out HL.out hcl HF.out (cell_in HBL.out 0) (by have := HSZ.out; omega)) 400 x) hc HC.out (Below.refl _ _)).mono ?_
  rintro e w3 ⟨A2, c2, rfl, hl2, hF2, hb3⟩
  generalize changeN 400 (subV l) x = y at hl2 hF2 HS
  have hbr := (hb3.block (w.heap.size + 1 + 1) (by have := HSZ.out; omega)).trans HBR.out
  have k0 := cell_in hbr 0
  have k1 := cell_in hbr 1
  have k2 := cell_in hbr 2
  have k3 := cell_in hbr 3
  have f0 := frz_in hbr 0
  have f1 := frz_in hbr 1
  have f2 := frz_in hbr 2
  have f3 := frz_in hbr 3
  have HF2 := Lib.hid hF2
  have HB3 := Lib.hid (bel2 HB2.out hb3)
  have HBR3 := Lib.hid hbr
  clear hF2 hb3 hbr
  go_wp2_with fail
  have hbr2 := heap_set4 HBR3.out (.int .i64 y.f0) (.int .i64 y.f1) (.string y.f2) (.slice A2 y.f3.length c2)
  have hgr := grown_set4 w3 (w.heap.size + 1 + 1) (.int .i64 y.f0) (.int .i64 y.f1) (.string y.f2) (.slice A2 y.f3.length c2)
  generalize ((((w3.setCell ⟨w.heap.size + 1 + 1, 0, none⟩ (.int .i64 y.f0)).setCell ⟨w.heap.size + 1 + 1, 1, none⟩ (.int .i64 y.f1)).setCell ⟨w.heap.size + 1 + 1, 2, none⟩ (.string y.f2)).setCell ⟨w.heap.size + 1 + 1, 3, none⟩ (.slice A2 y.f3.length c2)) = W3 at hbr2 hgr ⊢
  have q0 := cell_in hbr2 0
  have q1 := cell_in hbr2 1
  have q2 := cell_in hbr2 2
  have q3 := cell_in hbr2 3
  obtain ⟨he, hB3⟩ := ret_end HB3.out (b := w.heap.size + 1 + 1) (by omega) (HF2.out.mono (fun k hk => ⟨by have := HSZ.out; have := hk.1; omega, hk.2⟩)) hgr
  exact bodyPost_ret (v := .agg #[.int .i64 y.f0, .int .i64 y.f1, .string y.f2, .slice A2 y.f3.length c2]) (by simp [results, Tryd.results19, go_sem, q0, q1, q2, q3]) rfl (by rw [HS.out]; exact ⟨A2, c2, rfl, hl2, he, hB3⟩)
 ·have hr' : RightB x = false := Bool.eq_false_iff.2 hr
  have hs : substB x l = ⟨0, 0, ⟨#[]⟩, []⟩ := by unfold substB; rw [if_neg hr]
  rw [hr']
  have HS := Lib.hid hs
  clear hs hr hr'
  go_wp2_with fail
  have hbr2 := heap_set4 HBR.out (.int .i64 0) (.int .i64 0) (.string ⟨#[]⟩) (.slice none 0 0)
  have hgr := grown_set4 w2 (w.heap.size + 1 + 1) (.int .i64 0) (.int .i64 0) (.string ⟨#[]⟩) (.slice none 0 0)
  generalize ((((w2.setCell ⟨w.heap.size + 1 + 1, 0, none⟩ (.int .i64 0)).setCell ⟨w.heap.size + 1 + 1, 1, none⟩ (.int .i64 0)).setCell ⟨w.heap.size + 1 + 1, 2, none⟩ (.string ⟨#[]⟩)).setCell ⟨w.heap.size + 1 + 1, 3, none⟩ (.slice none 0 0)) = W3 at hbr2 hgr ⊢
  have q0 := cell_in hbr2 0
  have q1 := cell_in hbr2 1
  have q2 := cell_in hbr2 2
  have q3 := cell_in hbr2 3
  exact bodyPost_ret (v := .agg #[.int .i64 0, .int .i64 0, .string ⟨#[]⟩, .slice none 0 0]) (by simp [results, Tryd.results19, go_sem, q0, q1, q2, q3]) rfl (by rw [HS.out]; exact ⟨none, 0, rfl, Nat.le_refl _, (FC.nil W3 (fun _ => True) none).now, below_grown HB2.out hgr (by omega)⟩)
end Go.Proofs.YtddmdiaopaoekaaDoor.P
