import Derived.Test.YtddmdiaopaoekaaDoorTyO
import Derived.Laws.OwnMore
import Derived.Maps.AppendAt
import Derived.WalkSpells
namespace Go.Proofs.YtddmdiaopaoekaaDoor.P
open Go.RowKit Go.Shelf Go.Proofs.YtddmdiaopaoekaaDoorW.PrintWords Go.Proofs.YtddmdiaopaoekaaDoorW.PrintLast Go.Proofs.YtddmdiaopaoekaaDoor.Rw
set_option linter.unusedVariables false
set_option linter.unusedSimpArgs false
noncomputable def moreB (V1 : Int) (x : S31) (V2 : Int) (y : S31) : Bool := closedB V1 x && (closedB V2 y && (MatchB x y).isSome)
set_option maxHeartbeats 8000000 in
set_option maxRecDepth 100000 in
theorem More_calls (V1 V2 : Int) (g s : S31) (A B : Option Addr) (c d : Nat) (w : World) (hc : g.f3.length ≤ c) (hC : k31.C w A g.f3.length g.f3) (hd : s.f3.length ≤ d) (hD : k31.C w B s.f3.length s.f3) (hwf : ∀ v, v ∈ varsL g → (Lit.int .i64 v).wf = true) (hN : (varsL g).length ≤ 10000000) (hwf2 : ∀ v, v ∈ varsL s → (Lit.int .i64 v).wf = true) :
  Calls Tryd.prog 15 #[.agg #[.int .i64 V1, .int .i64 g.f0, .int .i64 g.f1, .string g.f2, .slice A g.f3.length c], .agg #[.int .i64 V2, .int .i64 s.f0, .int .i64 s.f1, .string s.f2, .slice B s.f3.length d]] w fun e w' => e = .returned (.bool (moreB V1 g V2 s)) ∧ Below w.heap.size w w' := by
 have HC := Lib.hid hC
 have HD := Lib.hid hD
 have HWF := Lib.hid hwf
 have HWF2 := Lib.hid hwf2
 have HN := Lib.hid hN
 clear hC hD hwf hN hwf2
 generalize hres : moreB V1 g V2 s = res
 have HRES := Lib.hid hres
 clear hres
 go_enter Tryd.func15, Tryd.ntmps15
 go_wp2_with fail
 refine (closed_calls V1 g A c _ hc (c_below HC.out (((Below.refl _ _).alloc (Nat.le_refl _) _).alloc (by simp) _)) HWF.out).mono ?_
 rintro e w2 ⟨rfl, hb2⟩
 have hbx := (hb2.block w.heap.size (by simp; omega)).trans (new2_a w _ _)
 have hby := (hb2.block (w.heap.size + 1) (by simp)).trans (new2_b w _ _)
 have hB2 : Below w.heap.size w w2 := (((Below.refl _ w).alloc (Nat.le_refl _) _).alloc (by simp) _).trans (hb2.mono (by simp; omega))
 have hsz := hb2.size
 simp only [World.size_alloc] at hsz
 have y0 := cell_in hby 0
 have y1 := cell_in hby 1
 have y2 := cell_in hby 2
 have y3 := cell_in hby 3
 have y4 := cell_in hby 4
 have HBX := Lib.hid hbx
 have HBY := Lib.hid hby
 have HB2 := Lib.hid hB2
 have HSZ := Lib.hid hsz
 clear hb2 hbx hby hB2 hsz
 cases h1 : closedB V1 g with
 | true =>
  have H1 := Lib.hid h1
  clear h1
  go_wp2_with fail
  refine (closed_calls V2 s B d _ hd (c_below HD.out HB2.out) HWF2.out).mono ?_
  rintro e w3 ⟨rfl, hb3⟩
  have HBX3 := Lib.hid ((hb3.block w.heap.size (by have := HSZ.out; omega)).trans HBX.out)
  have HBY3 := Lib.hid ((hb3.block (w.heap.size + 1) (by have := HSZ.out; omega)).trans HBY.out)
  have HB3 := Lib.hid (bel2 HB2.out hb3)
  clear y0 y1 y2 y3 y4 HBX HBY HB2 HSZ hb3
  cases h2 : closedB V2 s with
  | true =>
   have H2 := Lib.hid h2
   clear h2
   have x1 := cell_in HBX3.out 1
   have x2 := cell_in HBX3.out 2
   have x3 := cell_in HBX3.out 3
   have x4 := cell_in HBX3.out 4
   have y1 := cell_in HBY3.out 1
   have y2 := cell_in HBY3.out 2
   have y3 := cell_in HBY3.out 3
   have y4 := cell_in HBY3.out 4
   go_wp2_with fail
   refine (Match_calls g s A B c d _ hc (c_below HC.out HB3.out) hd (c_below HD.out HB3.out) HWF.out HN.out).mono ?_
   rintro e w4 ⟨he, hb4⟩
   have HB4 := Lib.hid (bel2 HB3.out hb4)
   clear hb4
   cases hm : MatchB g s with
   | none =>
    rw [hm] at he
    dsimp only at he
    subst he
    have hr : res = false := by rw [← HRES.out, moreB, H1.out, H2.out, hm]; rfl
    subst hr
    clear hm
    go_wp2_with fail
    go_ret
    exact ⟨rfl, HB4.out⟩
   | some l =>
    rw [hm] at he
    dsimp only at he
    obtain ⟨A4, c4, rfl, -, -⟩ := he
    have hr : res = true := by rw [← HRES.out, moreB, H1.out, H2.out, hm]; rfl
    subst hr
    clear hm
    go_wp2_with fail
    go_ret
    exact ⟨rfl, HB4.out⟩
  | false =>
   have H2 := Lib.hid h2
   clear h2
   have hr : res = false := by rw [← HRES.out, moreB, H1.out, H2.out]; rfl
   subst hr
   go_wp2_with fail
   go_ret
   exact ⟨rfl, HB3.out⟩
 | false =>
  have hr : res = false := by rw [← HRES.out, moreB, h1]; rfl
  subst hr
  clear h1
  go_wp2_with fail
  go_ret
  exact ⟨rfl, HB2.out⟩
end Go.Proofs.YtddmdiaopaoekaaDoor.P
namespace Go.Proofs.YtddmdiaopaoekaaDoor.P
open Go.RowKit Go.Shelf Go.Proofs.YtddmdiaopaoekaaDoorW.PrintWords Go.Proofs.YtddmdiaopaoekaaDoorW.PrintLast Go.Proofs.YtddmdiaopaoekaaDoor.Rw
set_option linter.unusedVariables false
set_option linter.unusedSimpArgs false
theorem fk_of_K {W : World} {x : S31} {cs : List Value} (h : k31.K W x cs) : FK k31 W (fun k => k < W.heap.size) x cs := by
 obtain ⟨A, c, rfl, hl, hC⟩ := k31_open h
 exact fk_of x hl (FC.of_C k31_heap hC)
theorem reps_one {W : World} {xs : List S31} {cells : List Value} (h : Reps (k31.K W) 4 xs cells) : ∀ u ∈ cells, u.oneCell' = true := by
 intro u hu
 obtain ⟨i, hi, rfl⟩ := List.mem_iff_getElem.1 hu
 have hj : i / 4 < xs.length := by have := h.1; omega
 have hk := h.2 (i / 4) _ (List.getElem?_eq_getElem hj)
 refine k31.K_one hk _ (List.mem_iff_getElem?.2 ⟨i % 4, ?_⟩)
 rw [List.getElem?_take, if_pos (by omega), List.getElem?_drop, List.getElem?_eq_getElem (by omega)]
 congr 2
 omega
set_option maxHeartbeats 4000000 in
set_option maxRecDepth 100000 in
theorem sclone_calls (w0 : World) (xs : List S31) (A : Option Addr) (c : Nat) (W : World) (hn : xs.length ≤ 1000) (hc : xs.length ≤ c) (hC : k31.C w0 A xs.length xs) (hB : Below w0.heap.size w0 W) :
  Calls Tryd.prog 76 #[.slice A xs.length c] W fun e W' => ∃ v cells, e = .returned v ∧ W'.ownsRow W.heap.size 31 4 v xs.length cells ∧ Reps (k31.K w0) 4 xs cells ∧ Below W.heap.size W W' := by
 have heq := fun W a n c => Lib.run_eql_slice_nil (P := Tryd.prog) W 27 31 a n c 0 0 Tryd.underlying27
 cases A with
 | none =>
  have h0 : xs.length = 0 := by
   rcases Nat.eq_zero_or_pos xs.length with h | h
   ·exact h
   ·obtain ⟨ad, e, _⟩ := hC.2.2 h; cases e
  have hx : xs = [] := List.eq_nil_of_length_eq_zero h0
  subst hx
  go_enter Tryd.func76, Tryd.ntmps76
  go_wp2_with fail
  go_ret
  exact ⟨_, [], rfl, World.ownsRow_nil _ _ _ _, Reps.none _ _, Below.refl _ _⟩
 | some ad =>
  obtain ⟨news, hr, hcell0⟩ := ReadsRow.inner_ hC
  have hone := reps_one hr
  have hcell : ∀ j u, news[j]? = some u → W.cell? (ad.add j) = some u := fun j u h => pw_cell_below hB (hcell0 j u h)
  obtain ⟨i0, hi, hz0, hz1, hz2⟩ := info_parts info31
  have HONE := Lib.hid hone
  have HRF := Lib.hid hr
  have HCELL := Lib.hid hcell
  have HLEN := Lib.hid hr.1
  clear hone hcell hcell0 hr hC hB
  go_enter Tryd.func76, Tryd.ntmps76
  go_wp2_with (at_builtin; refine wpList_append_own_at _ rfl _ _ 27 rfl W.heap.size 31 i0 (.agg #[.int .i64 0, .int .i64 0, .string ⟨#[]⟩, .slice none 0 0]) 4 56 Tryd.underlying27 hi hz0 hz1 hz2 (by rfl) (by omega) _ 0 [] rfl (World.ownsRow_lit W #[] 0 (Nat.le_refl _) (by simp) (by simp)) ad xs.length c news rfl HLEN.out (fun j u h => cell_allocN _ (HCELL.out j u h)) HONE.out (by unfold maxLen; omega) (by omega) (by simp) ?_; intro v' w1 hown' hgrow _ hat)
  have hg' : (W.alloc (.cells #[] 31)).grownBy w1 (some W.heap.size) := hgrow
  rw [Nat.zero_add, List.nil_append] at hown'
  have hb1 : Below W.heap.size W w1 := below_grown ((Below.refl _ W).alloc (Nat.le_refl _) _) hg' (Nat.le_refl _)
  go_ret
  exact ⟨_, news, rfl, hown', HRF.out, hb1⟩
end Go.Proofs.YtddmdiaopaoekaaDoor.P
