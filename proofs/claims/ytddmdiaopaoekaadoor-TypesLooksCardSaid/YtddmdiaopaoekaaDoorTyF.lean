import Derived.Test.YtddmdiaopaoekaaDoorTyB
import Derived.Test.YtddmdiaopaoekaaDoorOwnRow
import Derived.Deep.RegionHeld3
import Derived.Deep.DeepCutAuto
import Derived.Deep.DrawnRows
import Derived.Shelf.Abstract
import Derived.Outline
import Derived.Test.YtddmdiaopaoekaaDoorSq
namespace Go.Proofs.YtddmdiaopaoekaaDoor.P
open Go.RowKit Go.Proofs.YtddmdiaopaoekaaDoorW.PrintWords Go.Proofs.YtddmdiaopaoekaaDoorW.PrintLast Go.Proofs.YtddmdiaopaoekaaDoor.Rw
set_option linter.unusedVariables false
set_option linter.unusedSimpArgs false
theorem rightB_part {n : Nat} {x : S31} (h : rightB (n + 1) x = true) : fitsB x = true ∧ ∀ y, y ∈ x.f3 → rightB n y = true := by
 rw [rightB_succ, Bool.and_eq_true] at h
 refine ⟨h.1, fun y hy => ?_⟩
 have := h.2
 simp only [Bool.not_eq_true', List.any_eq_false] at this
 simpa using this y hy
theorem rightB_mono : ∀ (n m : Nat) (x : S31), n ≤ m → rightB n x = true → rightB m x = true
 | 0, _, _, _, h => by cases h
 | n + 1, 0, _, h, _ => by omega
 | n + 1, m + 1, x, h, k => by
  obtain ⟨h1, h2⟩ := rightB_part k
  rw [rightB_succ, h1, Bool.true_and]
  simp only [Bool.not_eq_true', List.any_eq_false]
  intro y hy
  simp [rightB_mono n m y (by omega) (h2 y hy)]
theorem fits_len {x : S31} (h : fitsB x = true) : x.f3.length ≤ 16 := by
 have h' : types_Type_fits.f x.f0 x.f1 x.f2 x.f3 = some true := by rw [fits_some, h]
 unfold types_Type_fits.f at h'
 repeat' split at h'
 all_goals first
  | (cases h'; done)
  | (have h2 := Option.some.inj h'; simp only [beq_iff_eq, decide_eq_true_eq] at h2; omega)
theorem fits_var {x : S31} (h : fitsB x = true) (h0 : x.f0 = 1) : 0 ≤ x.f1 ∧ x.f2.toList = [] ∧ x.f3 = [] := by
 have h' : types_Type_fits.f x.f0 x.f1 x.f2 x.f3 = some true := by rw [fits_some, h]
 unfold types_Type_fits.f at h'
 rw [if_pos h0] at h'
 split at h'
 ·split at h'
  ·rename_i a b
   have := Option.some.inj h'
   exact ⟨a, b, by simpa using this⟩
  ·cases h'
 ·cases h'
theorem frz_in {W : World} {b : Nat} {cs : Array Value} {t : TypeId} (h : W.heap[b]? = some (.cells cs t (0, 0))) (i : Nat) : W.frozen? ⟨b, i, none⟩ = false := by simp [World.frozen?, h]
/-- A type handed back: what it leads to lies in what lay ahead of n0, and in what was made since. -/
def TreeR (n0 : Nat) (w : World) (r : S31) (e : Ending) (w' : World) : Prop :=
 ∃ A c, e = .returned (.agg #[.int .i64 r.f0, .int .i64 r.f1, .string r.f2, .slice A r.f3.length c]) ∧ r.f3.length ≤ c ∧ FC k31 w' (fun k => (k < n0 ∨ w.heap.size ≤ k) ∧ k < w'.heap.size) A r.f3.length r.f3 ∧ Below w.heap.size w w'
/-- A function value from types to types: what it tells of variables. -/
def ByT (G : Nat) (lb : Array Value) (f : S31 → S31) (w0 w1 : World) (x : S31) : Prop :=
 ∀ (W : World) (A : Option Addr) (c : Nat), Below w1.heap.size w1 W → x.f3.length ≤ c → k31.C w0 A x.f3.length x.f3 →
  Calls Tryd.prog G (#[.agg #[.int .i64 x.f0, .int .i64 x.f1, .string x.f2, .slice A x.f3.length c]] ++ lb) W (TreeR w0.heap.size W (f x))
/-- Deep at most so, no part with too many parts. -/
def fewN : Nat → S31 → Prop
 | 0, _ => False
 | n + 1, x => x.f3.length ≤ 1000 ∧ ∀ y, y ∈ x.f3 → fewN n y
theorem few_of_right : ∀ (n : Nat) (x : S31), rightB n x = true → fewN n x
 | 0, _, h => by cases h
 | n + 1, x, h => ⟨Nat.le_trans (fits_len (rightB_part h).1) (by omega), fun y hy => few_of_right n y ((rightB_part h).2 y hy)⟩
theorem few_mono : ∀ (n m : Nat) (x : S31), n ≤ m → fewN n x → fewN m x
 | 0, _, _, _, h => h.elim
 | n + 1, 0, _, h, _ => by omega
 | n + 1, m + 1, x, h, k => ⟨k.1, fun y hy => few_mono n m y (by omega) (k.2 y hy)⟩
def changeN : Nat → (S31 → S31) → S31 → S31
 | 0, _, x => x
 | n + 1, f, x => if x.f0 = 1 then f x else ⟨x.f0, x.f1, x.f2, x.f3.map (changeN n f)⟩
/-- Each variable in a type is so. -/
def eachV (P : S31 → Prop) : Nat → S31 → Prop
 | 0, _ => True
 | n + 1, x => (x.f0 = 1 → P x) ∧ ∀ y, y ∈ x.f3 → eachV P n y
def ChangeC (G : Nat) (lb : Array Value) (f : S31 → S31) (w0 w1 : World) (n : Nat) : Prop :=
 ∀ (x : S31) (A : Option Addr) (c : Nat) (W : World), fewN n x → eachV (ByT G lb f w0 w1) n x → x.f3.length ≤ c → k31.C w0 A x.f3.length x.f3 → Below w1.heap.size w1 W →
  Calls Tryd.prog 44 #[.agg #[.int .i64 x.f0, .int .i64 x.f1, .string x.f2, .slice A x.f3.length c], .func (.func G) #[] lb] W (TreeR w0.heap.size W (changeN n f x))
/-- The state of the loop: the new type's box; the result's; what has come; what lay ahead. -/
structure Lp (x : S31) (F : S31 → S31) (w0 w : World) (kk : Nat) (u : Value) (W : World) : Prop where
 bx : W.heap[w.heap.size + 1 + 1]? = some (.cells #[.int .i64 x.f0, .int .i64 x.f1, .string x.f2, u] 31 (0, 0))
 br : W.heap[w.heap.size + 1]? = some (.cells #[.int .i64 0, .int .i64 0, .string ⟨#[]⟩, .slice none 0 0] 31 (0, 0))
 row : Row k31 31 (w.heap.size + 3) (fun k => k < w0.heap.size ∨ w.heap.size + 3 ≤ k) W u ((x.f3.take kk).map F)
 be : Below w.heap.size w W
theorem Lp.below {x : S31} {F : S31 → S31} {w0 w : World} {kk : Nat} {u : Value} {W W' : World} (h : Lp x F w0 w kk u W) (hb : Below W.heap.size W W') : Lp x F w0 w kk u W' :=
 ⟨(hb.block _ (Array.getElem?_eq_some_iff.1 h.bx).1).trans h.bx, (hb.block _ (Array.getElem?_eq_some_iff.1 h.br).1).trans h.br, h.row.below hb, bel2 h.be hb⟩
theorem Lp.le {x : S31} {F : S31 → S31} {w0 w : World} {kk : Nat} {u : Value} {W : World} (h : Lp x F w0 w kk u W) : w.heap.size + 1 + 1 < W.heap.size := (Array.getElem?_eq_some_iff.1 h.bx).1
theorem Lp.up {x : S31} {F : S31 → S31} {w0 w w1 : World} {kk : Nat} {u : Value} {W : World} (h : Lp x F w0 w kk u W) (hb : Below w1.heap.size w1 w) : Below w1.heap.size w1 W := bel2 hb h.be
theorem Lp.ne {x : S31} {F : S31 → S31} {w0 w : World} {kk : Nat} {u : Value} {W : World} (h : Lp x F w0 w kk u W) (k : Nat) (hk : k < w.heap.size + 3) : some k ≠ u.ownBlock := fun e => by
 have := (h.row.block k e.symm).1
 omega
theorem Lp.grow {x : S31} {F : S31 → S31} {w0 w : World} {kk : Nat} {u : Value} {W W' : World} {o : Obj} (h : Lp x F w0 w kk u W) (hg : (W.alloc o).grownBy W' u.ownBlock) : W'.heap[w.heap.size + 1 + 1]? = some (.cells #[.int .i64 x.f0, .int .i64 x.f1, .string x.f2, u] 31 (0, 0)) := by
 have hl := h.le
 rw [hg.block _ (by simp; omega) (h.ne _ (by omega)), heap_old _ _ _ hl]
 exact h.bx
theorem grow_blk {W W' : World} {o o' : Obj} {row : Option Nat} {k : Nat} (hg : (W.alloc o).grownBy W' row) (h : W.heap[k]? = some o') (hne : some k ≠ row) : W'.heap[k]? = some o' := by
 have hl := (Array.getElem?_eq_some_iff.1 h).1
 rw [hg.block k (by simp; omega) hne, heap_old _ _ _ hl]
 exact h
theorem blk_up {W : World} {o o' : Obj} {k : Nat} (h : W.heap[k]? = some o') : (W.alloc o).heap[k]? = some o' := (heap_old _ _ _ (Array.getElem?_eq_some_iff.1 h).1).trans h
/-- A round. -/
theorem Lp.step {x : S31} {F : S31 → S31} {w0 w w1 : World} {kk : Nat} {u : Value} {W1 W3 W5 : World} {z : S31} {A4 : Option Addr} {c4 g cap : Nat} {cells : List Value} (h : Lp x F w0 w kk u W3) (hs : (x.f3.take (kk + 1)).map F = (x.f3.take kk).map F ++ [z])
  (hlen : ((x.f3.take kk).map F).length = kk) (ho : W3.ownsRow (w.heap.size + 3) 31 k31.sz u ((x.f3.take kk).map F).length cells)
  (hR : Reps (fun x cs => FK k31 W3 (fun k => (k < w0.heap.size ∨ w.heap.size + 3 ≤ k) ∧ some k ≠ u.ownBlock ∧ k < W3.heap.size) x cs) k31.sz ((x.f3.take kk).map F) cells)
  (hl4 : z.f3.length ≤ c4) (hF : FC k31 W3 (fun k => (k < w0.heap.size ∨ W1.heap.size ≤ k) ∧ k < W3.heap.size) A4 z.f3.length z.f3) (hb : Below W1.heap.size W1 W3) (hle : w.heap.size + 1 + 1 < W1.heap.size)
  (h01 : Below w0.heap.size w0 w1) (h1w : w1.heap.size ≤ w.heap.size) (hu : ∀ k, u.ownBlock = some k → k < W1.heap.size)
  (hown : W5.ownsRow (w.heap.size + 3) 31 4 (.slice (some ⟨g, 0, none⟩) (((x.f3.take kk).map F).length + 1) cap) (((x.f3.take kk).map F).length + 1) (cells ++ [.int .i64 z.f0, .int .i64 z.f1, .string z.f2, .slice A4 z.f3.length c4]))
  (hg : (W3.alloc (.cells #[.int .i64 z.f0, .int .i64 z.f1, .string z.f2, .slice A4 z.f3.length c4] 31)).grownBy W5 u.ownBlock) (hat : u.ownBlock = some g ∨ g = W3.heap.size + 1) :
  Lp x F w0 w (kk + 1) (.slice (some ⟨g, 0, none⟩) (kk + 1) cap) (W5.setCell ⟨w.heap.size + 1 + 1, 3, none⟩ (.slice (some ⟨g, 0, none⟩) (kk + 1) cap)) := by
 have hbx := heap_set (h.grow hg) 3 (.slice (some ⟨g, 0, none⟩) (kk + 1) cap)
 have hbr := grow_blk hg h.br (h.ne _ (by omega))
 have hn := h01.size
 have hx : FK k31 (W3.alloc (.cells #[.int .i64 z.f0, .int .i64 z.f1, .string z.f2, .slice A4 z.f3.length c4] 31)) (fun k => (k < w0.heap.size ∨ w.heap.size + 3 ≤ k) ∧ some k ≠ u.ownBlock ∧ k < (W3.alloc (.cells #[.int .i64 z.f0, .int .i64 z.f1, .string z.f2, .slice A4 z.f3.length c4] 31)).heap.size) z [.int .i64 z.f0, .int .i64 z.f1, .string z.f2, .slice A4 z.f3.length c4] := by
  have h1 : FC k31 (W3.alloc (.cells #[.int .i64 z.f0, .int .i64 z.f1, .string z.f2, .slice A4 z.f3.length c4] 31)) (fun k => (k < w0.heap.size ∨ w.heap.size + 3 ≤ k) ∧ some k ≠ u.ownBlock ∧ k < (W3.alloc (.cells #[.int .i64 z.f0, .int .i64 z.f1, .string z.f2, .slice A4 z.f3.length c4] 31)).heap.size) A4 z.f3.length z.f3 := by
   refine (hF.to (Agr.of_below ((Below.refl _ _).alloc (Nat.le_refl _) _) (fun k hk => hk.2))).mono (fun k hk => ⟨hk.1.elim .inl (fun h => .inr (by omega)), fun e => ?_, by simp; omega⟩)
   have h2 := (h.row.block k e.symm).1
   have h3 := hu k e.symm
   rcases hk.1 with h4 | h4 <;> omega
  exact fun W' ha => k31_mk W' z hl4 (h1 W' ha)
 have hr : Row k31 31 (w.heap.size + 3) (fun k => k < w0.heap.size ∨ w.heap.size + 3 ≤ k) W5 (.slice (some ⟨g, 0, none⟩) (((x.f3.take kk).map F).length + 1) cap) ((x.f3.take kk).map F ++ [z]) :=
  (h.row.alloc _).append (ho.alloc _) (hR.imp_ (fun y c hk => (hk.to (Agr.of_below ((Below.refl _ _).alloc (Nat.le_refl _) _) (fun k hk => hk.2.2))).mono (fun k hk => ⟨hk.1, hk.2.1, by simp; omega⟩))) hx rfl hown hg (by
   rcases hat with e | e
   ·exact .inl e
   ·exact .inr (by simp; omega))
 rw [hlen] at hr
 have hg3 : w.heap.size + 3 ≤ g := (hr.block g rfl).1
 refine ⟨hbx, ?_, ?_, ?_⟩
 ·rw [Below.heap_setCell _ _ _ _ (by simp)]; exact hbr
 ·rw [hs]
  exact hr.set ⟨w.heap.size + 1 + 1, 3, none⟩ _ (fun e => by have : g = w.heap.size + 1 + 1 := Option.some.inj e; omega) (fun e => by simp at e; omega)
 ·have hle3 := h.le
  exact below_grown ((h.be.alloc h.be.size _).grown hg (by simp; omega) (fun k e => by have := (h.row.block k e).1; omega)) (grown_set _ _ _) (by simp; omega)
theorem map_take (F : S31 → S31) (xs : List S31) (kk : Nat) (h : kk < xs.length) : (xs.take (kk + 1)).map F = (xs.take kk).map F ++ [F (xs.getD kk z31)] := by
 rw [List.take_succ_eq_append_getElem h, List.map_append, List.getD_eq_getElem?_getD, List.getElem?_eq_getElem h, Option.getD_some]; rfl
set_option maxHeartbeats 4000000 in
set_option maxRecDepth 100000 in
theorem change_succ (G : Nat) (lb : Array Value) (f : S31 → S31) (eg : ∀ args w, (callFunc G args).run Tryd.prog w = .ok (.enter G args) w) (w0 w1 : World) (h01 : Below w0.heap.size w0 w1) (n : Nat) (ih : ChangeC G lb f w0 w1 n) : ChangeC G lb f w0 w1 (n + 1) := by
 intro x A c w hR hV hc hC hB1
 have hs : changeN (n + 1) f x = if x.f0 = 1 then f x else ⟨x.f0, x.f1, x.f2, x.f3.map (changeN n f)⟩ := rfl
 rw [hs]
 clear hs
 have hbig := hC.2.1
 have HC := Lib.hid hC
 have IH := Lib.hid ih
 have HR := Lib.hid hR
 have HV := Lib.hid hV
 have HB1 := Lib.hid hB1
 clear hC ih hR hV hB1
 by_cases h0 : x.f0 = 1
 ·have b0 : (x.f0 == 1) = true := beq_iff_eq.2 h0
  rw [if_pos h0]
  have HBY := Lib.hid (HV.out.1 h0)
  clear h0
  go_enter Tryd.func44, Tryd.ntmps44
  go_wp2_with fail
  refine (HBY.out _ A c (HB1.out.trans ((((Below.refl _ _).alloc (Nat.le_refl _) _).alloc (by simp) _).mono HB1.out.size)) hc HC.out).mono ?_
  rintro e w2 ⟨A2, c2, rfl, hl2, hF2, hb2⟩
  have hbr := (hb2.block (w.heap.size + 1) (by simp)).trans (new2_b w _ _)
  have k0 := cell_in hbr 0
  have k1 := cell_in hbr 1
  have k2 := cell_in hbr 2
  have k3 := cell_in hbr 3
  have f0 := frz_in hbr 0
  have f1 := frz_in hbr 1
  have f2 := frz_in hbr 2
  have f3 := frz_in hbr 3
  have HF2 := Lib.hid hF2
  have HB2 := Lib.hid hb2
  have HBR := Lib.hid hbr
  clear hF2 hb2 hbr
  go_wp2_with fail
  have hbr2 := heap_set4 HBR.out (.int .i64 (f x).f0) (.int .i64 (f x).f1) (.string (f x).f2) (.slice A2 (f x).f3.length c2)
  have hgr := grown_set4 w2 (w.heap.size + 1) (.int .i64 (f x).f0) (.int .i64 (f x).f1) (.string (f x).f2) (.slice A2 (f x).f3.length c2)
  generalize ((((w2.setCell ⟨w.heap.size + 1, 0, none⟩ (.int .i64 (f x).f0)).setCell ⟨w.heap.size + 1, 1, none⟩ (.int .i64 (f x).f1)).setCell ⟨w.heap.size + 1, 2, none⟩ (.string (f x).f2)).setCell ⟨w.heap.size + 1, 3, none⟩ (.slice A2 (f x).f3.length c2)) = W3 at hbr2 hgr ⊢
  have q0 := cell_in hbr2 0
  have q1 := cell_in hbr2 1
  have q2 := cell_in hbr2 2
  have q3 := cell_in hbr2 3
  have hB3 : Below w.heap.size w W3 := below_grown ((((Below.refl _ _).alloc (Nat.le_refl _) _).alloc (by simp) _).trans (HB2.out.mono (by simp; omega))) hgr (by omega)
  have hF3 : FC k31 W3 (fun k => (k < w0.heap.size ∨ w.heap.size ≤ k) ∧ k < W3.heap.size) A2 (f x).f3.length (f x).f3 :=
   (HF2.out.to (Agr.of_grown hgr (fun k hk => ⟨hk.2, fun e => by
    obtain rfl : k = w.heap.size + 1 := Option.some.inj e
    have := hk.1
    simp at this
    have h1 := h01.size
    have h2 := HB1.out.size
    omega⟩))).mono (fun k hk => ⟨hk.1.elim .inl (fun h => .inr (by simp at h; omega)), Nat.lt_of_lt_of_le hk.2 hgr.size⟩)
  exact bodyPost_ret (v := .agg #[.int .i64 (f x).f0, .int .i64 (f x).f1, .string (f x).f2, .slice A2 (f x).f3.length c2]) (by simp [results, Tryd.results44, go_sem, q0, q1, q2, q3]) rfl ⟨A2, c2, rfl, hl2, hF3, hB3⟩
 ·have b0 : (x.f0 == 1) = false := beq_eq_false_iff_ne.2 h0
  rw [if_neg h0]
  clear h0
  go_enter Tryd.func44, Tryd.ntmps44
  go_wp2_with fail
  have hbr := (heap_old ((w.alloc (.cells #[.int .i64 x.f0, .int .i64 x.f1, .string x.f2, .slice A x.f3.length c] 31)).alloc (.cells #[.int .i64 0, .int .i64 0, .string ⟨#[]⟩, .slice none 0 0] 31)) (.cells #[.int .i64 x.f0, .int .i64 x.f1, .string x.f2, .slice none 0 0] 31) (w.heap.size + 1) (by simp)).trans (new2_b w _ _)
  have hbx := heap_new ((w.alloc (.cells #[.int .i64 x.f0, .int .i64 x.f1, .string x.f2, .slice A x.f3.length c] 31)).alloc (.cells #[.int .i64 0, .int .i64 0, .string ⟨#[]⟩, .slice none 0 0] 31)) (.cells #[.int .i64 x.f0, .int .i64 x.f1, .string x.f2, .slice none 0 0] 31)
  have hB0 : Below w.heap.size w (((w.alloc (.cells #[.int .i64 x.f0, .int .i64 x.f1, .string x.f2, .slice A x.f3.length c] 31)).alloc (.cells #[.int .i64 0, .int .i64 0, .string ⟨#[]⟩, .slice none 0 0] 31)).alloc (.cells #[.int .i64 x.f0, .int .i64 x.f1, .string x.f2, .slice none 0 0] 31)) := (((Below.refl _ w).alloc (Nat.le_refl _) _).alloc (by simp) _).alloc (by simp; omega) _
  simp only [World.size_alloc] at hbx
  generalize ((w.alloc (.cells #[.int .i64 x.f0, .int .i64 x.f1, .string x.f2, .slice A x.f3.length c] 31)).alloc (.cells #[.int .i64 0, .int .i64 0, .string ⟨#[]⟩, .slice none 0 0] 31)).alloc (.cells #[.int .i64 x.f0, .int .i64 x.f1, .string x.f2, .slice none 0 0] 31) = Wb at hbr hbx hB0 ⊢
  have HL : Hid (Lp x (changeN n f) w0 w 0 (.slice none 0 0) Wb) := Lib.hid ⟨hbx, hbr, Row.nil _, hB0⟩
  clear hbr hbx hB0
  go_loopw [7, 24] (fun s7 s24 wr => ∃ kk : Nat, kk ≤ x.f3.length ∧ s24 = .int .i64 kk ∧ ∃ u, Hid (Lp x (changeN n f) w0 w kk u wr)) (fun _ s24 _ => x.f3.length - (intOf s24).toNat)
  case atStart => exact ⟨0, by omega, rfl, _, HL⟩
  case round =>
   clear HL
   obtain ⟨kk, hkk, rfl, u, HL⟩ := hrel
   by_cases hlt : kk < x.f3.length
   ·have hltz : (kk : Int) < (x.f3.length : Int) := by omega
    obtain ⟨ad, A3, c3, rfl, h0, h1, h2, h3, hl3, hC3⟩ := at_T31 HC.out (kk : Int) (by omega) hltz
    have hrd : rd_T31 x.f3 (kk : Int) = x.f3.getD kk z31 := rfl
    have hmem := getD_mem x.f3 kk hlt
    have hsn := map_take (changeN n f) x.f3 kk hlt
    have hbe : Below w0.heap.size w0 wr := (h01.trans (HB1.out.mono h01.size)).trans (HL.out.be.mono (Nat.le_trans h01.size HB1.out.size))
    rw [Int.toNat_natCast] at h0 h1 h2 h3
    rw [hrd] at h0 h1 h2 h3 hl3 hC3
    replace h0 := pw_cell_below hbe h0
    replace h1 := pw_cell_below hbe h1
    replace h2 := pw_cell_below hbe h2
    replace h3 := pw_cell_below hbe h3
    generalize x.f3.getD kk z31 = y at h0 h1 h2 h3 hl3 hC3 hmem hsn
    have HSN := Lib.hid hsn
    have HC3 := Lib.hid hC3
    have HRy := Lib.hid (HR.out.2 y hmem)
    have HVy := Lib.hid (HV.out.2 y hmem)
    clear hrd hmem hsn hC3 hbe
    go_upto_region 7 with (fail)
    have hba := heap_new wr (.cells #[.int .i64 y.f0, .int .i64 y.f1, .string y.f2, .slice A3 y.f3.length c3] 31)
    have hbw : Below wr.heap.size wr (wr.alloc (.cells #[.int .i64 y.f0, .int .i64 y.f1, .string y.f2, .slice A3 y.f3.length c3] 31)) := (Below.refl _ _).alloc (Nat.le_refl _) _
    have hba2 : wr.heap.size < (wr.alloc (.cells #[.int .i64 y.f0, .int .i64 y.f1, .string y.f2, .slice A3 y.f3.length c3] 31)).heap.size := by simp
    clear h0 h1 h2 h3
    generalize wr.alloc (.cells #[.int .i64 y.f0, .int .i64 y.f1, .string y.f2, .slice A3 y.f3.length c3] 31) = W1 at hba hbw hba2 ⊢
    have HL1 := Lib.hid ((HL.out.below hbw).below ((Below.refl W1.heap.size W1).drew))
    have HNE : Hid (some wr.heap.size ≠ u.ownBlock) := Lib.hid (fun e => by have := (HL.out.row.block _ e.symm).2; omega)
    have s3 : W1.drew.cell? ⟨w.heap.size + 1 + 1, 3, none⟩ = some u := cell_in HL1.out.bx 3
    have a0 : W1.drew.cell? ⟨wr.heap.size, 0, none⟩ = some (.int .i64 y.f0) := cell_in hba 0
    have a1 : W1.drew.cell? ⟨wr.heap.size, 1, none⟩ = some (.int .i64 y.f1) := cell_in hba 1
    have a2 : W1.drew.cell? ⟨wr.heap.size, 2, none⟩ = some (.string y.f2) := cell_in hba 2
    have a3 : W1.drew.cell? ⟨wr.heap.size, 3, none⟩ = some (.slice A3 y.f3.length c3) := cell_in hba 3
    have HBA := Lib.hid hba
    have HBA2 := Lib.hid hba2
    clear hba hbw hba2 HL
    obtain ⟨i0, hi, hz0, hz1, hz2⟩ := info_parts info31
    have hl16 : ((x.f3.take kk).map (changeN n f)).length ≤ 1000 := by rw [List.length_map, List.length_take]; have := HR.out.1; omega
    generalize hz : changeN n f y = z at HSN
    have HZ := Lib.hid hz
    have hcall : ∀ W, Below w1.heap.size w1 W → Calls Tryd.prog 44 #[.agg #[.int .i64 y.f0, .int .i64 y.f1, .string y.f2, .slice A3 y.f3.length c3], .func (.func G) #[] lb] W (TreeR w0.heap.size W z) := fun W hW => by
     rw [← hz]; exact IH.out y A3 c3 W HRy.out HVy.out hl3 HC3.out hW
    have HCL := Lib.hid hcall
    clear hcall hz
    refine start_ (n := 9) (S := fun w' => w'.cell? ⟨w.heap.size + 1 + 1, 3, none⟩ = some u ∧ w'.cell? ⟨wr.heap.size, 0, none⟩ = some (.int .i64 y.f0) ∧ w'.cell? ⟨wr.heap.size, 1, none⟩ = some (.int .i64 y.f1) ∧ w'.cell? ⟨wr.heap.size, 2, none⟩ = some (.string y.f2) ∧ w'.cell? ⟨wr.heap.size, 3, none⟩ = some (.slice A3 y.f3.length c3)) (ds := [8]) (zBM 9 0) (by kernel_rfl) rfl rfl ⟨s3, a0, a1, a2, a3⟩ (fun hHeld => ?_)
    refine pure_ (i := 0) (N := some 28) (v := ?_) (a' := ?_) (zBM 9 1) rfl rfl (by kernel_rfl) (fun _ _ _ h => h) (Or.inl ⟨by rfl, ?_⟩) ?_ ?_
    rotate_left
    ·intro w'
     go_simp
     with_reducible rfl
    rotate_left
    ·simp only [Act.put, zO, zP, zR, i64_w, i32_w]
     rfl
    refine pure_ (i := 3) (N := some 31) (v := ?_) (a' := ?_) (zBM 9 9) rfl rfl (by kernel_rfl) (fun _ _ _ h => h) (Or.inl ⟨by rfl, ?_⟩) ?_ ?_
    rotate_left
    ·intro w'
     go_simp
     with_reducible rfl
    rotate_left
    ·simp only [Act.put, zO, zP, zR, i64_w, i32_w]
     rfl
    refine take_ (i := 1) (N := some 29) (v := ?_) (a' := ?_) (zBM 9 11) rfl rfl (by kernel_rfl) (fun _ _ _ h => h) (Or.inl ⟨by rfl, ?_⟩) hHeld ?_ ?_
    rotate_left
    ·rintro w' ⟨s0, s1, s2, s3, s4⟩
     go_simp
     with_reducible rfl
    rotate_left
    ·simp only [Act.put, zO, zP, zR, i64_w, i32_w]
     rfl
    refine take_ (i := 2) (N := some 30) (v := ?_) (a' := ?_) (zBM 9 15) rfl rfl (by kernel_rfl) (fun _ _ _ h => h) (Or.inl ⟨by rfl, ?_⟩) hHeld ?_ ?_
    rotate_left
    ·rintro w' ⟨s0, s1, s2, s3, s4⟩
     go_simp
     with_reducible rfl
    rotate_left
    ·simp only [Act.put, zO, zP, zR, i64_w, i32_w]
     rfl
    refine one_ (i := 4) (N := some 32) (zBM 9 31) rfl rfl (by kernel_rfl) (by decide) (fun K hK => ?_)
    refine goes_ Tryd.func44 (by kernel_rfl) rfl #[.agg #[.int .i64 y.f0, .int .i64 y.f1, .string y.f2, .slice A3 y.f3.length c3], .func (.func G) #[] lb] (by rfl) rfl rfl (by (try simp only [List.map_toArray, List.map_cons, List.map_nil]); first | done | rfl) ?_
    refine (HCL.out _ (HL1.out.up HB1.out)).mono ?_
    rintro e w3 ⟨A4, c4, rfl, hl4, hF4, hb4⟩
    refine ⟨_, rfl, ?_⟩
    have HL3 := Lib.hid (HL1.out.below hb4)
    have HBA3 := Lib.hid ((hb4.block wr.heap.size HBA2.out).trans HBA.out)
    have HF4 := Lib.hid hF4
    have HB4 := Lib.hid hb4
    clear hF4 hb4
    refine hK.out _ _ ⟨cell_in HL3.out.bx 3, cell_in HBA3.out 0, cell_in HBA3.out 1, cell_in HBA3.out 2, cell_in HBA3.out 3⟩ (fun hHeld => ?_)
    clear hK K
    refine norm_ (a' := ?_) ?_ ?_
    rotate_left
    ·show Act.put _ (some 32) _ = _
     simp only [Act.put, zO, zP, zR, i64_w, i32_w]
     rfl
    refine one_ (i := 5) (N := some 33) (zBM 9 63) rfl rfl (by kernel_rfl) (by decide) (fun K hK => ?_)
    refine value_ (w1 := ?_) (v := ?_) (by rfl) rfl ?_ ?_
    rotate_left 2
    ·go_simp
     constructor
     ·rfl
     ·rfl
    refine hK.out _ _ ⟨cell_in (blk_up HL3.out.bx) 3, cell_in (blk_up HBA3.out) 0, cell_in (blk_up HBA3.out) 1, cell_in (blk_up HBA3.out) 2, cell_in (blk_up HBA3.out) 3⟩ (fun hHeld => ?_)
    clear hK K
    refine norm_ (a' := ?_) ?_ ?_
    rotate_left
    ·show Act.put _ (some 33) _ = _
     simp only [Act.put, zO, zP, zR, i64_w, i32_w]
     rfl
    refine one_ (i := 6) (N := some 34) (zBM 9 127) rfl rfl (by kernel_rfl) (by decide) (fun K hK => ?_)
    obtain ⟨cells, ho3, hRp3⟩ := HL3.out.row
    refine step_append_lies _ (by rfl) (.tmp 29) (.tmp 33) 27 (by rfl) (w.heap.size + 3) 31 i0 (.agg #[.int .i64 0, .int .i64 0, .string ⟨#[]⟩, .slice none 0 0]) 4 56 Tryd.underlying27 hi hz0 hz1 hz2 (by rfl) (by omega) u ((x.f3.take kk).map (changeN n f)).length cells (by rfl) (ho3.alloc _) ⟨w3.heap.size, 0, none⟩ 1 1 [.int .i64 z.f0, .int .i64 z.f1, .string z.f2, .slice A4 z.f3.length c4] (by rfl) (by rfl) (World.news_of_block (heap_new w3 _)) (by simp [Value.oneCell']) (by omega) (by unfold maxLen; omega) (by omega) (by have := HL3.out.le; simp; omega) (w3.heap.size + 1) (by simp) ?_
    intro g cap w5 hown5 hgrow5 hat5 hlt5
    have HBX5 := Lib.hid (HL3.out.grow hgrow5)
    have HBA5 := Lib.hid (grow_blk hgrow5 HBA3.out HNE.out)
    refine hK.out _ _ ⟨cell_in HBX5.out 3, cell_in HBA5.out 0, cell_in HBA5.out 1, cell_in HBA5.out 2, cell_in HBA5.out 3⟩ (fun hHeld => ?_)
    clear hK K
    refine norm_ (a' := ?_) ?_ ?_
    rotate_left
    ·show Act.put _ (some 34) _ = _
     simp only [Act.put, zO, zP, zR, i64_w, i32_w]
     rfl
    refine pure_ (i := 7) (N := some 35) (v := ?_) (a' := ?_) (zBM 9 255) rfl rfl (by kernel_rfl) (fun _ _ _ h => h) (Or.inl ⟨by rfl, ?_⟩) ?_ ?_
    rotate_left
    ·intro w'
     go_simp
     with_reducible rfl
    rotate_left
    ·simp only [Act.put, zO, zP, zR, i64_w, i32_w]
     rfl
    refine last_ (i := 8) (N := none) (zBM 9 511) rfl rfl (by kernel_rfl) (by decide) (fun K hK => ?_)
    have y3 : w5.cell? ⟨w.heap.size + 1 + 1, 3, none⟩ = some u := cell_in HBX5.out 3
    have z3 : w5.frozen? ⟨w.heap.size + 1 + 1, 3, none⟩ = false := frz_in HBX5.out 3
    refine skip_ (w1 := ?_) (by rfl) rfl ?_ ?_
    rotate_left
    ·go_simp
     rfl
    refine hK.out _ _ ?_
    clear hK K
    refine done_ (by kernel_rfl) ?_
    have hlen : ((x.f3.take kk).map (changeN n f)).length = kk := by rw [List.length_map, List.length_take]; omega
    have HLN := Lib.hid (HL3.out.step HSN.out hlen ho3 hRp3 hl4 HF4.out HB4.out (HL1.out.le) h01 (HB1.out.size) (fun k e => (HL1.out.row.block k e).2) hown5 hgrow5 hat5)
    clear hown5 hgrow5 hat5 ho3 hRp3 hHeld
    go_wp2_with fail
    go_roundw
    case rel => exact ⟨kk + 1, by omega, by go_num, _, HLN⟩
    case measure => simp [intOf]; omega
   ·have hltz : ¬ (kk : Int) < (x.f3.length : Int) := by omega
    obtain rfl : kk = x.f3.length := by omega
    obtain ⟨Au, cu, hu, hlu, hFu⟩ := HL.out.row.reads
    rw [List.take_length] at hu hlu hFu
    rw [List.length_map] at hu
    subst hu
    have hbx := HL.out.bx
    have hbr := HL.out.br
    have k0 := cell_in hbr 0
    have k1 := cell_in hbr 1
    have k2 := cell_in hbr 2
    have k3 := cell_in hbr 3
    have f0 := frz_in hbr 0
    have f1 := frz_in hbr 1
    have f2 := frz_in hbr 2
    have f3 := frz_in hbr 3
    have x0 := cell_in hbx 0
    have x1 := cell_in hbx 1
    have x2 := cell_in hbx 2
    have x3 := cell_in hbx 3
    have HFU := Lib.hid hFu
    have HLU := Lib.hid hlu
    have HBR := Lib.hid hbr
    clear hbx hbr hFu hlu
    go_wp2_with fail
    have hbr2 := heap_set4 HBR.out (.int .i64 x.f0) (.int .i64 x.f1) (.string x.f2) (.slice Au x.f3.length cu)
    have hgr := grown_set4 wr (w.heap.size + 1) (.int .i64 x.f0) (.int .i64 x.f1) (.string x.f2) (.slice Au x.f3.length cu)
    generalize ((((wr.setCell ⟨w.heap.size + 1, 0, none⟩ (.int .i64 x.f0)).setCell ⟨w.heap.size + 1, 1, none⟩ (.int .i64 x.f1)).setCell ⟨w.heap.size + 1, 2, none⟩ (.string x.f2)).setCell ⟨w.heap.size + 1, 3, none⟩ (.slice Au x.f3.length cu)) = W3 at hbr2 hgr ⊢
    have q0 := cell_in hbr2 0
    have q1 := cell_in hbr2 1
    have q2 := cell_in hbr2 2
    have q3 := cell_in hbr2 3
    have hB3 : Below w.heap.size w W3 := below_grown HL.out.be hgr (by omega)
    have hF3 : FC k31 W3 (fun k => (k < w0.heap.size ∨ w.heap.size ≤ k) ∧ k < W3.heap.size) Au (x.f3.map (changeN n f)).length (x.f3.map (changeN n f)) :=
     (HFU.out.to (Agr.of_grown hgr (fun k hk => ⟨hk.2, fun e => by
      obtain rfl : k = w.heap.size + 1 := Option.some.inj e
      have h1 := h01.size
      have h2 := HB1.out.size
      rcases hk.1 with (h | h) | h <;> omega⟩))).mono (fun k hk => ⟨hk.1.elim (fun h => h.elim .inl (fun h => .inr (by omega))) (fun h => .inr (by omega)), Nat.lt_of_lt_of_le hk.2 hgr.size⟩)
    have hml : (x.f3.map (changeN n f)).length = x.f3.length := List.length_map _
    refine bodyPost_ret (v := .agg #[.int .i64 x.f0, .int .i64 x.f1, .string x.f2, .slice Au x.f3.length cu]) (by simp [results, Tryd.results44, go_sem, q0, q1, q2, q3]) rfl ⟨Au, cu, ?_, HLU.out, hF3, hB3⟩
    show _ = Ending.returned (.agg #[.int .i64 x.f0, .int .i64 x.f1, .string x.f2, .slice Au (x.f3.map (changeN n f)).length cu])
    rw [hml]
theorem change_all (G : Nat) (lb : Array Value) (f : S31 → S31) (eg : ∀ args w, (callFunc G args).run Tryd.prog w = .ok (.enter G args) w) (w0 w1 : World) (h01 : Below w0.heap.size w0 w1) : ∀ n, ChangeC G lb f w0 w1 n
 | 0 => fun x A c W h => h.elim
 | n + 1 => change_succ G lb f eg w0 w1 h01 n (change_all G lb f eg w0 w1 h01 n)
end Go.Proofs.YtddmdiaopaoekaaDoor.P
