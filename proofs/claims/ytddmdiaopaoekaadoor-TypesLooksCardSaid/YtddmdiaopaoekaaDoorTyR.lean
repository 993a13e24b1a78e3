import Derived.Test.YtddmdiaopaoekaaDoorTyP
import Derived.Test.YtddmdiaopaoekaaDoorSq
namespace Go.Proofs.YtddmdiaopaoekaaDoor.P
open Go.RowKit Go.Shelf Go.Proofs.YtddmdiaopaoekaaDoorW.PrintWords Go.Proofs.YtddmdiaopaoekaaDoorW.PrintLast Go.Proofs.YtddmdiaopaoekaaDoor.Rw
set_option linter.unusedVariables false
set_option linter.unusedSimpArgs false
theorem row_shape {W : World} {base e size n : Nat} {v : Value} {xs : List Value} (h : W.ownsRow base e size v n xs) : ∃ A c, v = .slice A n c ∧ n ≤ c ∧ (0 < n → ∃ g, A = some ⟨g, 0, none⟩) := by
 rcases h.2 with ⟨rfl, h0⟩ | ⟨g, cap, cur, rfl, _, _, hle, _⟩
 ·exact ⟨none, 0, by rw [h0], by omega, fun h => by omega⟩
 ·exact ⟨_, cap, rfl, hle, fun _ => ⟨g, rfl⟩⟩
/-- The loop's state: the copy's box; the result's; the row; what of it is still as it was. -/
structure Lc (x : S31) (w0 w : World) (kk : Nat) (v : Value) (cells : List Value) (W : World) : Prop where
 bx : W.heap[w.heap.size]? = some (.cells #[.int .i64 x.f0, .int .i64 x.f1, .string x.f2, v] 31 (0, 0))
 br : W.heap[w.heap.size + 1]? = some (.cells #[.int .i64 0, .int .i64 0, .string ⟨#[]⟩, .slice none 0 0] 31 (0, 0))
 ow : W.ownsRow (w.heap.size + 2) 31 4 v x.f3.length cells
 rp : Reps (fun y cs => FK k31 W (fun k => (k < w0.heap.size ∨ w.heap.size + 2 ≤ k) ∧ some k ≠ v.ownBlock ∧ k < W.heap.size) y cs) 4 x.f3 cells
 old : ∀ j y, kk ≤ j → x.f3[j]? = some y → k31.K w0 y ((cells.drop (j * 4)).take 4)
 be : Below w.heap.size w W
theorem Lc.below {x : S31} {w0 w : World} {kk : Nat} {v : Value} {cells : List Value} {W W' : World} (h : Lc x w0 w kk v cells W) (hb : Below W.heap.size W W') : Lc x w0 w kk v cells W' :=
 ⟨(hb.block _ (Array.getElem?_eq_some_iff.1 h.bx).1).trans h.bx, (hb.block _ (Array.getElem?_eq_some_iff.1 h.br).1).trans h.br,
  h.ow.kept (grown_below hb) (by cases hv : v.ownBlock with
   | none => exact .inl rfl
   | some k => exact .inr (by simp)),
  h.rp.imp_ (fun y cs hk => (hk.to (Agr.of_below hb (fun k hk => hk.2.2))).mono (fun k hk => ⟨hk.1, hk.2.1, Nat.lt_of_lt_of_le hk.2.2 hb.size⟩)), h.old, bel2 h.be hb⟩
theorem chunk4 (cells : List Value) (n kk j : Nat) (hl : cells.length = n * 4) (hk : kk < n) (v0 v1 v2 v3 : Value) :
  ((((((cells.set (kk * 4) v0).set (kk * 4 + 1) v1).set (kk * 4 + 2) v2).set (kk * 4 + 3) v3).drop (j * 4)).take 4) = if j = kk then [v0, v1, v2, v3] else (cells.drop (j * 4)).take 4 := by
 apply List.ext_getElem?
 intro i
 split
 ·rename_i e
  subst e
  rw [List.getElem?_take, List.getElem?_drop]
  simp only [List.getElem?_set, List.length_set]
  by_cases hi : i < 4
  ·obtain rfl | rfl | rfl | rfl : i = 0 ∨ i = 1 ∨ i = 2 ∨ i = 3 := by omega
   ·rw [if_pos (by omega), if_neg (by omega), if_neg (by omega), if_neg (by omega), if_pos (by omega), if_pos (by omega)]; rfl
   ·rw [if_pos (by omega), if_neg (by omega), if_neg (by omega), if_pos (by omega), if_pos (by omega)]; rfl
   ·rw [if_pos (by omega), if_neg (by omega), if_pos (by omega), if_pos (by omega)]; rfl
   ·rw [if_pos (by omega), if_pos (by omega), if_pos (by omega)]; rfl
  ·rw [if_neg hi]; simp; omega
 ·rename_i e
  rw [List.getElem?_take, List.getElem?_take, List.getElem?_drop, List.getElem?_drop]
  simp only [List.getElem?_set, List.length_set]
  by_cases hi : i < 4
  ·rw [if_pos hi, if_pos hi, if_neg (by omega), if_neg (by omega), if_neg (by omega), if_neg (by omega)]
  ·rw [if_neg hi, if_neg hi]
theorem Lc.put {x : S31} {w0 w : World} {kk g cap : Nat} {cells : List Value} {W : World} {y : S31} {v0 v1 v2 v3 : Value} (h : Lc x w0 w kk (.slice (some ⟨g, 0, none⟩) x.f3.length cap) cells W) (hk : kk < x.f3.length) (hy : x.f3[kk]? = some y)
  (hx : FK k31 W (fun k => (k < w0.heap.size ∨ w.heap.size + 2 ≤ k) ∧ some k ≠ (some g : Option Nat) ∧ k < W.heap.size) y [v0, v1, v2, v3]) (h0 : w0.heap.size ≤ w.heap.size) :
  Lc x w0 w (kk + 1) (.slice (some ⟨g, 0, none⟩) x.f3.length cap) ((((cells.set (kk * 4) v0).set (kk * 4 + 1) v1).set (kk * 4 + 2) v2).set (kk * 4 + 3) v3) (set4 W g (kk * 4) v0 v1 v2 v3) := by
 have hgr := set4_grown W g (kk * 4) v0 v1 v2 v3
 have hg := (h.ow.lt g rfl)
 have hlen : cells.length = x.f3.length * 4 := h.ow.1
 have up : ∀ (y : S31) (cs : List Value), FK k31 W (fun k => (k < w0.heap.size ∨ w.heap.size + 2 ≤ k) ∧ some k ≠ (some g : Option Nat) ∧ k < W.heap.size) y cs → FK k31 (set4 W g (kk * 4) v0 v1 v2 v3) (fun k => (k < w0.heap.size ∨ w.heap.size + 2 ≤ k) ∧ some k ≠ (some g : Option Nat) ∧ k < (set4 W g (kk * 4) v0 v1 v2 v3).heap.size) y cs := fun y cs hk =>
  (hk.to (Agr.of_grown hgr (fun k hk => ⟨hk.2.2, fun e => hk.2.1 e⟩))).mono (fun k hk => ⟨hk.1, hk.2.1, Nat.lt_of_lt_of_le hk.2.2 hgr.size⟩)
 refine ⟨(hgr.block _ (Array.getElem?_eq_some_iff.1 h.bx).1 (by simp; omega)).trans h.bx, (hgr.block _ (Array.getElem?_eq_some_iff.1 h.br).1 (by simp; omega)).trans h.br, ?_, ?_, ?_, below_grown h.be hgr (by omega)⟩
 ·exact ((((h.ow.stored (kk * 4) v0).1.stored (kk * 4 + 1) v1).1.stored (kk * 4 + 2) v2).1.stored (kk * 4 + 3) v3).1
 ·refine ⟨by simpa using h.rp.1, fun j p hj => ?_⟩
  rw [chunk4 cells _ kk j hlen hk]
  by_cases hjk : j = kk
  ·rw [if_pos hjk]
   subst hjk
   rw [hy] at hj
   cases hj
   exact up _ _ hx
  ·rw [if_neg hjk]
   exact up _ _ (h.rp.2 j p hj)
 ·intro j p hj hp
  rw [chunk4 cells _ kk j hlen hk, if_neg (by omega)]
  exact h.old j p (by omega) hp
theorem chunk_get {l cs : List Value} {o : Nat} (h : (l.drop o).take 4 = cs) (i : Nat) (hi : i < 4) : l[o + i]? = cs[i]? := by
 rw [← h, List.getElem?_take, if_pos hi, List.getElem?_drop]
def CloneC (n : Nat) : Prop :=
 ∀ (w0 : World) (x : S31) (A : Option Addr) (c : Nat) (W : World), fewN n x → x.f3.length ≤ c → k31.C w0 A x.f3.length x.f3 → Below w0.heap.size w0 W →
  Calls Tryd.prog 57 #[.agg #[.int .i64 x.f0, .int .i64 x.f1, .string x.f2, .slice A x.f3.length c]] W (TreeR w0.heap.size W x)
set_option maxHeartbeats 4000000 in
set_option maxRecDepth 100000 in
theorem clone_succ (n : Nat) (ih : CloneC n) : CloneC (n + 1) := by
 intro w0 x A c w hR hc hC hB1
 have hbig : x.f3.length ≤ 1000 := hR.1
 have HC := Lib.hid hC
 have IH := Lib.hid ih
 have HR := Lib.hid hR
 have HB1 := Lib.hid hB1
 clear hC ih hR hB1
 go_enter Tryd.func57, Tryd.ntmps57
 go_wp2_with fail
 refine (sclone_calls w0 x.f3 A c _ hbig hc HC.out (HB1.out.trans ((((Below.refl _ _).alloc (Nat.le_refl _) _).alloc (by simp) _).mono HB1.out.size))).mono ?_
 rintro e w2 ⟨v, cells, rfl, hown, hrep, hb2⟩
 have hbx := (hb2.block w.heap.size (by simp; omega)).trans (new2_a w _ _)
 have hbr := (hb2.block (w.heap.size + 1) (by simp)).trans (new2_b w _ _)
 have hB2 : Below w.heap.size w w2 := (((Below.refl _ w).alloc (Nat.le_refl _) _).alloc (by simp) _).trans (hb2.mono (by simp; omega))
 have k3 := cell_in hbx 3
 have f3 := frz_in hbx 3
 have HBX := Lib.hid hbx
 have HBR := Lib.hid hbr
 have HB2 := Lib.hid hB2
 obtain ⟨Av, cv, rfl, hlv, hgv⟩ := row_shape hown
 have HOW := Lib.hid hown
 have HRP := Lib.hid hrep
 have HSZ2 := Lib.hid hb2.size
 clear hb2 hbx hbr hB2 hown hrep
 go_wp2_with fail
 have hst := heap_set HBX.out 3 (.slice Av x.f3.length cv)
 have hgs := grown_set w2 ⟨w.heap.size, 3, none⟩ (.slice Av x.f3.length cv)
 have hL : Lc x w0 w 0 (.slice Av x.f3.length cv) cells (w2.setCell ⟨w.heap.size, 3, none⟩ (.slice Av x.f3.length cv)) := by
  have hsz2 := HSZ2.out
  simp at hsz2
  have hbz := HB1.out.size
  refine ⟨hst, ?_, ?_, ?_, fun j y _ hj => HRP.out.2 j y hj, below_grown HB2.out hgs (Nat.le_refl _)⟩
  ·rw [Below.heap_setCell _ _ _ _ (by simp)]; exact HBR.out
  ·have := HOW.out.kept hgs (.inr (fun e => by have := (HOW.out.lt _ e).1; simp at this; omega))
   simpa using this
  ·refine HRP.out.imp_ (fun y cs hk => ((fk_of_K hk).to ((Agr.of_below (HB1.out.trans (HB2.out.mono hbz)) (fun k hk => hk)).trans (Agr.of_set _ _ (by simp; omega)))).mono (fun k hk => ⟨.inl hk, fun e => ?_, by simp [World.setCell]; omega⟩))
   have := (HOW.out.lt k e.symm).1
   simp at this
   omega
 have HL := Lib.hid hL
 clear hL hst hgs k3 f3 HBX HBR HB2 HOW HRP HSZ2
 generalize w2.setCell ⟨w.heap.size, 3, none⟩ (.slice Av x.f3.length cv) = W2 at HL ⊢
 have k3 := cell_in HL.out.bx 3
 clear HC
 go_loopw [3, 11] (fun s3 s11 wr => ∃ kk : Nat, kk ≤ x.f3.length ∧ s11 = .int .i64 kk ∧ ∃ cells, Hid (Lc x w0 w kk (.slice Av x.f3.length cv) cells wr)) (fun _ s11 _ => x.f3.length - (intOf s11).toNat)
 case atStart => exact ⟨0, by omega, rfl, cells, HL⟩
 case round =>
  clear HL k3
  obtain ⟨kk, hkk, rfl, cells, HL⟩ := hrel
  by_cases hlt : kk < x.f3.length
  ·have hltz : (kk : Int) < (x.f3.length : Int) := by omega
   obtain ⟨g, rfl⟩ := hgv (by omega)
   have hyj : x.f3[kk]? = some x.f3[kk] := List.getElem?_eq_getElem hlt
   have hmem : x.f3[kk] ∈ x.f3 := List.getElem_mem hlt
   obtain ⟨A3, c3, hch, hl3, hC3⟩ := k31_open (HL.out.old kk _ (Nat.le_refl _) hyj)
   generalize hcap : cv = cap at HL hlv ⊢
   have HL1 := Lib.hid (HL.out.below ((Below.refl wr.heap.size wr).drew))
   generalize x.f3[kk] = y at hyj hmem hch hl3 hC3
   have hcall : ∀ W, Below w0.heap.size w0 W → Calls Tryd.prog 57 #[.agg #[.int .i64 y.f0, .int .i64 y.f1, .string y.f2, .slice A3 y.f3.length c3]] W (TreeR w0.heap.size W y) := fun W hW => IH.out w0 y A3 c3 W (HR.out.2 y hmem) hl3 hC3 hW
   have HCL := Lib.hid hcall
   have HB : Hid (Below w0.heap.size w0 wr.drew) := Lib.hid (HB1.out.trans (HL1.out.be.mono HB1.out.size))
   have s3 : wr.drew.cell? ⟨w.heap.size, 3, none⟩ = some (.slice (some ⟨g, 0, none⟩) x.f3.length cap) := cell_in HL1.out.bx 3
   have a0 : wr.drew.cell? ⟨g, kk * 4, none⟩ = some (.int .i64 y.f0) := (HL1.out.ow.cellAt (kk * 4) (by omega)).trans (chunk_get hch 0 (by omega))
   have a1 : wr.drew.cell? ⟨g, kk * 4 + 1, none⟩ = some (.int .i64 y.f1) := (HL1.out.ow.cellAt (kk * 4 + 1) (by omega)).trans (chunk_get hch 1 (by omega))
   have a2 : wr.drew.cell? ⟨g, kk * 4 + 2, none⟩ = some (.string y.f2) := (HL1.out.ow.cellAt (kk * 4 + 2) (by omega)).trans (chunk_get hch 2 (by omega))
   have a3 : wr.drew.cell? ⟨g, kk * 4 + 3, none⟩ = some (.slice A3 y.f3.length c3) := (HL1.out.ow.cellAt (kk * 4 + 3) (by omega)).trans (chunk_get hch 3 (by omega))
   have HYJ := Lib.hid hyj
   clear hcall hch hC3 hmem hyj HL hcap
   go_upto_region 5 with (fail)
   refine start_ (n := 11) (S := fun w' => w'.cell? ⟨w.heap.size, 3, none⟩ = some (.slice (some ⟨g, 0, none⟩) x.f3.length cap) ∧ w'.cell? ⟨g, kk * 4, none⟩ = some (.int .i64 y.f0) ∧ w'.cell? ⟨g, kk * 4 + 1, none⟩ = some (.int .i64 y.f1) ∧ w'.cell? ⟨g, kk * 4 + 2, none⟩ = some (.string y.f2) ∧ w'.cell? ⟨g, kk * 4 + 3, none⟩ = some (.slice A3 y.f3.length c3)) (ds := [10]) (zBM 11 0) (by kernel_rfl) rfl rfl ⟨s3, a0, a1, a2, a3⟩ (fun hHeld => ?_)
   refine pure_ (i := 0) (N := some 14) (v := ?_) (a' := ?_) (zBM 11 1) rfl rfl (by kernel_rfl) (fun _ _ _ h => h) (Or.inl ⟨by rfl, ?_⟩) ?_ ?_
   rotate_left
   ·intro w'
    go_simp
    with_reducible rfl
   rotate_left
   ·simp only [Act.put, zO, zP, zR, i64_w, i32_w]
    rfl
   refine take_ (i := 1) (N := some 15) (v := ?_) (a' := ?_) (zBM 11 3) rfl rfl (by kernel_rfl) (fun _ _ _ h => h) (Or.inl ⟨by rfl, ?_⟩) hHeld ?_ ?_
   rotate_left
   ·rintro w' ⟨s0, s1, s2, s3, s4⟩
    go_simp
    with_reducible rfl
   rotate_left
   ·simp only [Act.put, zO, zP, zR, i64_w, i32_w]
    rfl
   refine pure_ (i := 2) (N := some 16) (v := ?_) (a' := ?_) (zBM 11 7) rfl rfl (by kernel_rfl) (fun _ _ _ h => h) (Or.inl ⟨by rfl, ?_⟩) ?_ ?_
   rotate_left
   ·intro w'
    go_simp
    with_reducible rfl
   rotate_left
   ·simp only [Act.put, zO, zP, zR, i64_w, i32_w]
    rfl
   refine pure_ (i := 3) (N := some 17) (v := ?_) (a' := ?_) (zBM 11 15) rfl rfl (by kernel_rfl) (fun _ _ _ h => h) (Or.inl ⟨by rfl, ?_⟩) ?_ ?_
   rotate_left
   ·intro w'
    go_simp
    with_reducible rfl
   rotate_left
   ·simp only [Act.put, zO, zP, zR, i64_w, i32_w]
    rfl
   refine take_ (i := 4) (N := some 18) (v := ?_) (a' := ?_) (zBM 11 31) rfl rfl (by kernel_rfl) (fun _ _ _ h => h) (Or.inl ⟨by rfl, ?_⟩) hHeld ?_ ?_
   rotate_left
   ·rintro w' ⟨s0, s1, s2, s3, s4⟩
    go_simp
    with_reducible rfl
   rotate_left
   ·simp only [Act.put, zO, zP, zR, i64_w, i32_w]
    rfl
   refine pure_ (i := 5) (N := some 19) (v := ?_) (a' := ?_) (zBM 11 63) rfl rfl (by kernel_rfl) (fun _ _ _ h => h) (Or.inl ⟨by rfl, ?_⟩) ?_ ?_
   rotate_left
   ·intro w'
    go_simp
    with_reducible rfl
   rotate_left
   ·simp only [Act.put, zO, zP, zR, i64_w, i32_w]
    rfl
   refine pure_ (i := 6) (N := some 20) (v := ?_) (a' := ?_) (zBM 11 127) rfl rfl (by kernel_rfl) (fun _ _ _ h => h) (Or.inl ⟨by rfl, ?_⟩) ?_ ?_
   rotate_left
   ·intro w'
    go_simp
    with_reducible rfl
   rotate_left
   ·simp only [Act.put, zO, zP, zR, i64_w, i32_w]
    rfl
   refine take_ (i := 7) (N := some 21) (v := ?_) (a' := ?_) (zBM 11 255) rfl rfl (by kernel_rfl) (fun _ _ _ h => h) (Or.inl ⟨by rfl, ?_⟩) hHeld ?_ ?_
   rotate_left
   ·rintro w' ⟨s0, s1, s2, s3, s4⟩
    go_simp
    with_reducible rfl
   rotate_left
   ·simp only [Act.put, zO, zP, zR, i64_w, i32_w]
    rfl
   refine one_ (i := 8) (N := some 22) (zBM 11 511) rfl rfl (by kernel_rfl) (by decide) (fun K hK => ?_)
   refine goes_ Tryd.func57 (by kernel_rfl) rfl #[.agg #[.int .i64 y.f0, .int .i64 y.f1, .string y.f2, .slice A3 y.f3.length c3]] (by rfl) rfl rfl (by (try simp only [List.map_toArray, List.map_cons, List.map_nil]); first | done | rfl) ?_
   refine (HCL.out _ HB.out).mono ?_
   rintro e w3 ⟨A4, c4, rfl, hl4, hF4, hb4⟩
   refine ⟨_, rfl, ?_⟩
   have HL3 := Lib.hid (HL1.out.below hb4)
   have HF4 := Lib.hid hF4
   have HB4 := Lib.hid hb4
   clear hF4 hb4
   have b0 := pw_cell_below HB4.out a0
   have b1 := pw_cell_below HB4.out a1
   have b2 := pw_cell_below HB4.out a2
   have b3 := pw_cell_below HB4.out a3
   refine hK.out _ _ ⟨cell_in HL3.out.bx 3, b0, b1, b2, b3⟩ (fun hHeld => ?_)
   clear hK K
   refine norm_ (a' := ?_) ?_ ?_
   rotate_left
   ·show Act.put _ (some 22) _ = _
    simp only [Act.put, zO, zP, zR, i64_w, i32_w]
    rfl
   refine pure_ (i := 9) (N := some 23) (v := ?_) (a' := ?_) (zBM 11 1023) rfl rfl (by kernel_rfl) (fun _ _ _ h => h) (Or.inl ⟨by rfl, ?_⟩) ?_ ?_
   rotate_left
   ·intro w'
    go_simp
    with_reducible rfl
   rotate_left
   ·simp only [Act.put, zO, zP, zR, i64_w, i32_w]
    rfl
   refine last_ (i := 10) (N := none) (zBM 11 2047) rfl rfl (by kernel_rfl) (by decide) (fun K hK => ?_)
   have z0 := HL3.out.ow.frozenAt (kk * 4)
   have z1 := HL3.out.ow.frozenAt (kk * 4 + 1)
   have z2 := HL3.out.ow.frozenAt (kk * 4 + 2)
   have z3 := HL3.out.ow.frozenAt (kk * 4 + 3)
   refine skip_ (w1 := ?_) (by rfl) rfl ?_ ?_
   rotate_left
   ·go_simp
    rfl
   refine hK.out _ _ ?_
   clear hK K
   refine done_ (by kernel_rfl) ?_
   have hg := HL1.out.ow.lt g rfl
   have hbz := HB1.out.size
   have hFK := fk_of y hl4 (HF4.out.mono (S' := fun k => (k < w0.heap.size ∨ w.heap.size + 2 ≤ k) ∧ some k ≠ (some g : Option Nat) ∧ k < w3.heap.size) (fun k hk => ⟨hk.1.imp id (fun h => by have := hg.2; omega), fun e => by
    obtain rfl : k = g := Option.some.inj e
    have := hk.1
    omega, hk.2⟩))
   have HLN := Lib.hid (HL3.out.put hlt HYJ.out hFK hbz)
   clear hFK hHeld
   go_wp2_with fail
   go_roundw
   case rel => exact ⟨kk + 1, by omega, by go_num, _, HLN⟩
   case measure => simp [intOf]; omega
  ·have hltz : ¬ (kk : Int) < (x.f3.length : Int) := by omega
   obtain rfl : kk = x.f3.length := by omega
   have hbx := HL.out.bx
   have hbr := HL.out.br
   have x0 := cell_in hbx 0
   have x1 := cell_in hbx 1
   have x2 := cell_in hbx 2
   have x3 := cell_in hbx 3
   have k0 := cell_in hbr 0
   have k1 := cell_in hbr 1
   have k2 := cell_in hbr 2
   have k3 := cell_in hbr 3
   have f0 := frz_in hbr 0
   have f1 := frz_in hbr 1
   have f2 := frz_in hbr 2
   have f3 := frz_in hbr 3
   clear hbx hbr
   go_wp2_with fail
   have hbr2 := heap_set4 HL.out.br (.int .i64 x.f0) (.int .i64 x.f1) (.string x.f2) (.slice Av x.f3.length cv)
   have hgr := grown_set4 wr (w.heap.size + 1) (.int .i64 x.f0) (.int .i64 x.f1) (.string x.f2) (.slice Av x.f3.length cv)
   generalize ((((wr.setCell ⟨w.heap.size + 1, 0, none⟩ (.int .i64 x.f0)).setCell ⟨w.heap.size + 1, 1, none⟩ (.int .i64 x.f1)).setCell ⟨w.heap.size + 1, 2, none⟩ (.string x.f2)).setCell ⟨w.heap.size + 1, 3, none⟩ (.slice Av x.f3.length cv)) = W3 at hbr2 hgr ⊢
   have q0 := cell_in hbr2 0
   have q1 := cell_in hbr2 1
   have q2 := cell_in hbr2 2
   have q3 := cell_in hbr2 3
   have hrow : Row k31 31 (w.heap.size + 2) (fun k => k < w0.heap.size ∨ w.heap.size + 2 ≤ k) wr (.slice Av x.f3.length cv) x.f3 := ⟨cells, HL.out.ow, HL.out.rp⟩
   obtain ⟨Au, cu, hu, hlu, hFu⟩ := hrow.reads
   injection hu with hu1 _ hu2
   subst hu1 hu2
   have hB3 : Below w.heap.size w W3 := below_grown HL.out.be hgr (by omega)
   have hbz := HB1.out.size
   have hF3 : FC k31 W3 (fun k => (k < w0.heap.size ∨ w.heap.size ≤ k) ∧ k < W3.heap.size) Av x.f3.length x.f3 :=
    (hFu.to (Agr.of_grown hgr (fun k hk => ⟨hk.2, fun e => by
     obtain rfl : k = w.heap.size + 1 := Option.some.inj e
     have := hk.1
     omega⟩))).mono (fun k hk => ⟨by have := hk.1; omega, Nat.lt_of_lt_of_le hk.2 hgr.size⟩)
   exact bodyPost_ret (v := .agg #[.int .i64 x.f0, .int .i64 x.f1, .string x.f2, .slice Av x.f3.length cv]) (by simp [results, Tryd.results57, go_sem, q0, q1, q2, q3]) rfl ⟨Av, cv, rfl, hlv, hF3, hB3⟩
theorem clone_all : ∀ n, CloneC n
 | 0 => fun w0 x A c W h => h.elim
 | n + 1 => clone_succ n (clone_all n)
end Go.Proofs.YtddmdiaopaoekaaDoor.P
namespace Go.Proofs.YtddmdiaopaoekaaDoor.P
open Go.RowKit Go.Shelf Go.Proofs.YtddmdiaopaoekaaDoorW.PrintWords Go.Proofs.YtddmdiaopaoekaaDoorW.PrintLast Go.Proofs.YtddmdiaopaoekaaDoor.Rw
set_option linter.unusedVariables false
set_option linter.unusedSimpArgs false
set_option maxHeartbeats 4000000 in
theorem Con_calls (n : Nat) (nm : ByteArray) (l : List S31) (A : Option Addr) (c : Nat) (w : World) (hn : l.length ≤ 1000) (hf : ∀ y, y ∈ l → fewN n y) (hc : l.length ≤ c) (hC : k31.C w A l.length l) :
  Calls Tryd.prog 28 #[.string nm, .slice A l.length c] w (TreeP w ⟨2, 0, nm, l⟩) := by
 have HC := Lib.hid hC
 have HF := Lib.hid hf
 clear hC hf
 go_enter Tryd.func28, Tryd.ntmps28
 go_wp2_with fail
 have hb0 : Below w.heap.size w (w.alloc (.cells #[.int .i64 0, .int .i64 0, .string ⟨#[]⟩, .slice none 0 0] 31)) := (Below.refl _ _).alloc (Nat.le_refl _) _
 refine (clone_all (n + 1) w ⟨2, 0, nm, l⟩ A c _ ⟨hn, HF.out⟩ hc HC.out hb0).mono ?_
 rintro e w2 ⟨A2, c2, rfl, hl2, hF2, hb2⟩
 have hbr := (hb2.block w.heap.size (by simp)).trans (heap_new w _)
 have k0 := cell_in hbr 0
 have k1 := cell_in hbr 1
 have k2 := cell_in hbr 2
 have k3 := cell_in hbr 3
 have f0 := frz_in hbr 0
 have f1 := frz_in hbr 1
 have f2 := frz_in hbr 2
 have f3 := frz_in hbr 3
 have HF2 := Lib.hid hF2
 have HB2 := Lib.hid (hb0.trans (hb2.mono (by simp)))
 have HBR := Lib.hid hbr
 clear hF2 hb2 hbr hb0
 go_wp2_with fail
 have hbr2 := heap_set4 HBR.out (.int .i64 2) (.int .i64 0) (.string nm) (.slice A2 l.length c2)
 have hgr := grown_set4 w2 w.heap.size (.int .i64 2) (.int .i64 0) (.string nm) (.slice A2 l.length c2)
 generalize ((((w2.setCell ⟨w.heap.size, 0, none⟩ (.int .i64 2)).setCell ⟨w.heap.size, 1, none⟩ (.int .i64 0)).setCell ⟨w.heap.size, 2, none⟩ (.string nm)).setCell ⟨w.heap.size, 3, none⟩ (.slice A2 l.length c2)) = W3 at hbr2 hgr ⊢
 have q0 := cell_in hbr2 0
 have q1 := cell_in hbr2 1
 have q2 := cell_in hbr2 2
 have q3 := cell_in hbr2 3
 obtain ⟨he, hB3⟩ := ret_end (y := ⟨2, 0, nm, l⟩) HB2.out (b := w.heap.size) (by omega) (HF2.out.mono (fun k hk => ⟨by have := hk.1; simp at this; omega, hk.2⟩)) hgr
 exact bodyPost_ret (v := .agg #[.int .i64 2, .int .i64 0, .string nm, .slice A2 l.length c2]) (by simp [results, Tryd.results28, go_sem, q0, q1, q2, q3]) rfl ⟨A2, c2, rfl, hl2, he, hB3⟩
/-- Fun. -/
def funL : List S31 → S31
 | [] => ⟨0, 0, ⟨#[]⟩, []⟩
 | [x] => x
 | x :: y :: r => ⟨3, 0, ⟨#[]⟩, [x, funL (y :: r)]⟩
theorem funL_drop (l : List S31) (k : Nat) (h : k + 1 < l.length) : funL (l.drop k) = ⟨3, 0, ⟨#[]⟩, [l.getD k z31, funL (l.drop (k + 1))]⟩ := by
 have h1 : l.drop k = l[k] :: l.drop (k + 1) := List.drop_eq_getElem_cons (by omega)
 have h2 : l.drop (k + 1) = l[k + 1] :: l.drop (k + 1 + 1) := List.drop_eq_getElem_cons h
 rw [h1, List.getD_eq_getElem?_getD, List.getElem?_eq_getElem (by omega), Option.getD_some]
 rw [h2]
 rfl
theorem funL_last (l : List S31) (h : 0 < l.length) : funL (l.drop (l.length - 1)) = l.getD (l.length - 1) z31 := by
 have h1 : l.drop (l.length - 1) = l[l.length - 1] :: l.drop (l.length - 1 + 1) := List.drop_eq_getElem_cons (by omega)
 have h2 : l.drop (l.length - 1 + 1) = [] := List.drop_of_length_le (by omega)
 rw [h1, h2, List.getD_eq_getElem?_getD, List.getElem?_eq_getElem (by omega), Option.getD_some]
 rfl
end Go.Proofs.YtddmdiaopaoekaaDoor.P
namespace Go.Proofs.YtddmdiaopaoekaaDoor.P
open Go.RowKit Go.Shelf Go.Proofs.YtddmdiaopaoekaaDoorW.PrintWords Go.Proofs.YtddmdiaopaoekaaDoorW.PrintLast Go.Proofs.YtddmdiaopaoekaaDoor.Rw
set_option linter.unusedVariables false
set_option linter.unusedSimpArgs false
theorem row2 {W : World} {S : Nat → Prop} {b : Nat} {x y : S31} {v0 v1 v2 v3 u0 u1 u2 u3 : Value} (h : W.heap[b]? = some (.cells #[v0, v1, v2, v3, u0, u1, u2, u3] 31 (0, 0))) (hx : FK k31 W S x [v0, v1, v2, v3]) (hy : FK k31 W S y [u0, u1, u2, u3]) :
  FC k31 W (fun k => S k ∨ k = b) (some ⟨b, 0, none⟩) 2 [x, y] := by
 intro W' ha
 have hb : W'.heap[b]? = some (.cells #[v0, v1, v2, v3, u0, u1, u2, u3] 31 (0, 0)) := (ha b (.inr rfl)).trans h
 refine ⟨rfl, by omega, fun _ => ⟨⟨b, 0, none⟩, rfl, fun j p hj => ?_⟩⟩
 match j, hj with
 | 0, hj =>
  obtain rfl : x = p := by simpa using hj
  refine ⟨_, rfl, hx W' (ha.mono (fun k hk => .inl hk)), fun i u hu => ?_⟩
  rw [add_g]
  match i, hu with
  | 0, hu => simp [World.cell?, hb, show k31.sz = 4 from rfl]; simpa using hu
  | 1, hu => simp [World.cell?, hb, show k31.sz = 4 from rfl]; simpa using hu
  | 2, hu => simp [World.cell?, hb, show k31.sz = 4 from rfl]; simpa using hu
  | 3, hu => simp [World.cell?, hb, show k31.sz = 4 from rfl]; simpa using hu
  | i + 4, hu => simp at hu
 | 1, hj =>
  obtain rfl : y = p := by simpa using hj
  refine ⟨_, rfl, hy W' (ha.mono (fun k hk => .inl hk)), fun i u hu => ?_⟩
  rw [add_g]
  match i, hu with
  | 0, hu => simp [World.cell?, hb, show k31.sz = 4 from rfl]; simpa using hu
  | 1, hu => simp [World.cell?, hb, show k31.sz = 4 from rfl]; simpa using hu
  | 2, hu => simp [World.cell?, hb, show k31.sz = 4 from rfl]; simpa using hu
  | 3, hu => simp [World.cell?, hb, show k31.sz = 4 from rfl]; simpa using hu
  | i + 4, hu => simp at hu
 | j + 2, hj => simp at hj
/-- The loop's state: the type's box; the result's. -/
structure Lf (w : World) (B : Nat) (T : S31) (AT : Option Addr) (cT : Nat) (W : World) : Prop where
 bx : W.heap[B]? = some (.cells #[.int .i64 T.f0, .int .i64 T.f1, .string T.f2, .slice AT T.f3.length cT] 31 (0, 0))
 br : W.heap[w.heap.size]? = some (.cells #[.int .i64 0, .int .i64 0, .string ⟨#[]⟩, .slice none 0 0] 31 (0, 0))
 fc : FC k31 W (fun k => k ≠ w.heap.size ∧ k ≠ B ∧ k < W.heap.size) AT T.f3.length T.f3
 le : T.f3.length ≤ cT
 be : Below w.heap.size w W
theorem Lf.below {w : World} {B : Nat} {T : S31} {AT : Option Addr} {cT : Nat} {W W' : World} (h : Lf w B T AT cT W) (hb : Below W.heap.size W W') : Lf w B T AT cT W' :=
 ⟨(hb.block _ (Array.getElem?_eq_some_iff.1 h.bx).1).trans h.bx, (hb.block _ (Array.getElem?_eq_some_iff.1 h.br).1).trans h.br,
  (h.fc.to (Agr.of_below hb (fun k hk => hk.2.2))).mono (fun k hk => ⟨hk.1, hk.2.1, Nat.lt_of_lt_of_le hk.2.2 hb.size⟩), h.le, bel2 h.be hb⟩
theorem Lf.put {w : World} {B : Nat} {T : S31} {AT : Option Addr} {cT : Nat} {W : World} (h : Lf w B T AT cT W) (hB : w.heap.size < B) (T' : S31) {A' : Option Addr} {c' : Nat} (hl : T'.f3.length ≤ c') (hx : FC k31 W (fun k => k ≠ w.heap.size ∧ k ≠ B ∧ k < W.heap.size) A' T'.f3.length T'.f3) :
  Lf w B T' A' c' ((((W.setCell ⟨B, 0, none⟩ (.int .i64 T'.f0)).setCell ⟨B, 1, none⟩ (.int .i64 T'.f1)).setCell ⟨B, 2, none⟩ (.string T'.f2)).setCell ⟨B, 3, none⟩ (.slice A' T'.f3.length c')) := by
 have hgr := grown_set4 W B (.int .i64 T'.f0) (.int .i64 T'.f1) (.string T'.f2) (.slice A' T'.f3.length c')
 exact ⟨heap_set4 h.bx _ _ _ _, (hgr.block _ (Array.getElem?_eq_some_iff.1 h.br).1 (by simp; omega)).trans h.br, (hx.to (Agr.of_grown hgr (fun k hk => ⟨hk.2.2, fun e => hk.2.1 (Option.some.inj e)⟩))).mono (fun k hk => ⟨hk.1, hk.2.1, Nat.lt_of_lt_of_le hk.2.2 hgr.size⟩), hl, below_grown h.be hgr (by omega)⟩
set_option maxHeartbeats 4000000 in
set_option maxRecDepth 100000 in
theorem Fun_calls (n : Nat) (l : List S31) (A : Option Addr) (c : Nat) (w : World) (hn : l.length ≤ 1000) (hf : ∀ y, y ∈ l → fewN n y) (hc : l.length ≤ c) (hC : k31.C w A l.length l) :
  Calls Tryd.prog 26 #[.slice A l.length c] w (TreeP w (funL l)) := by
 have HC := Lib.hid hC
 have HF := Lib.hid hf
 clear hC hf
 generalize hT : funL l = TT
 have HTT := Lib.hid hT
 clear hT
 go_enter Tryd.func26, Tryd.ntmps26
 by_cases h0 : l.length = 0
 ·have hl : l = [] := List.eq_nil_of_length_eq_zero h0
  subst hl
  go_wp2_with fail
  have hb := heap_new w (.cells #[.int .i64 0, .int .i64 0, .string ⟨#[]⟩, .slice none 0 0] 31)
  have hB : Below w.heap.size w (w.alloc (.cells #[.int .i64 0, .int .i64 0, .string ⟨#[]⟩, .slice none 0 0] 31)) := (Below.refl _ _).alloc (Nat.le_refl _) _
  generalize w.alloc (.cells #[.int .i64 0, .int .i64 0, .string ⟨#[]⟩, .slice none 0 0] 31) = W3 at hb hB ⊢
  have q0 := cell_in hb 0
  have q1 := cell_in hb 1
  have q2 := cell_in hb 2
  have q3 := cell_in hb 3
  have hTT : TT = ⟨0, 0, ⟨#[]⟩, []⟩ := HTT.out.symm
  subst hTT
  exact bodyPost_ret (v := .agg #[.int .i64 0, .int .i64 0, .string ⟨#[]⟩, .slice none 0 0]) (by simp [results, Tryd.results26, go_sem, q0, q1, q2, q3]) rfl ⟨none, 0, rfl, Nat.le_refl _, (FC.nil W3 (fun _ => True) none).now, hB⟩
 ·have hpos : 0 < l.length := by omega
  have hz : ((l.length : Int) == 0) = false := beq_eq_false_iff_ne.2 (by omega)
  obtain ⟨ad, A3, c3, rfl, i0, i1, i2, i3, hl3, hC3⟩ := at_T31 HC.out ((l.length : Int) - 1) (by omega) (by omega)
  have htn : ((l.length : Int) - 1).toNat = l.length - 1 := by omega
  have hrd : rd_T31 l ((l.length : Int) - 1) = l.getD (l.length - 1) z31 := by
   unfold rd_T31; rw [htn]
  rw [htn] at i0 i1 i2 i3
  rw [hrd, ← funL_last l hpos] at i0 i1 i2 i3 hl3 hC3
  have hfl : fewN n (funL (l.drop (l.length - 1))) := by rw [funL_last l hpos]; exact HF.out _ (getD_mem l _ (by omega))
  have hD : Hid (∀ T, funL (l.drop (l.length - 1)) = T → funL (l.drop (l.length - 1)) = T) := Lib.hid (fun _ h => h)
  generalize hT1 : funL (l.drop (l.length - 1)) = T at i0 i1 i2 i3 hl3 hC3 hfl
  have HT1 := Lib.hid hT1
  have HC3 := Lib.hid hC3
  have HFL := Lib.hid hfl
  have I0 := fun o => cell_allocN o i0
  have I1 := fun o => cell_allocN o i1
  have I2 := fun o => cell_allocN o i2
  have I3 := fun o => cell_allocN o i3
  clear i0 i1 i2 i3 hrd hD hT1 hC3 hfl
  go_wp2_with fail
  refine (clone_all n w T A3 c3 _ HFL.out hl3 HC3.out ((Below.refl _ _).alloc (Nat.le_refl _) _)).mono ?_
  rintro e w2 ⟨AT, cT, rfl, hl2, hF2, hb2⟩
  have hbr := (hb2.block w.heap.size (by simp)).trans (heap_new w _)
  have hB2 : Below w.heap.size w w2 := ((Below.refl _ w).alloc (Nat.le_refl _) _).trans (hb2.mono (by simp))
  have hsz := hb2.size
  simp only [World.size_alloc] at hsz
  have hbx := heap_new w2 (.cells #[.int .i64 T.f0, .int .i64 T.f1, .string T.f2, .slice AT T.f3.length cT] 31)
  have hL : Lf w w2.heap.size T AT cT (w2.alloc (.cells #[.int .i64 T.f0, .int .i64 T.f1, .string T.f2, .slice AT T.f3.length cT] 31)) :=
   ⟨hbx, (heap_old _ _ _ (by omega)).trans hbr, (hF2.to (Agr.of_below ((Below.refl _ _).alloc (Nat.le_refl _) _) (fun k hk => hk.2))).mono (fun k hk => ⟨by have := hk.1; simp at this; omega, by have := hk.2; omega, by have := hk.2; simp; omega⟩), hl2, hB2.alloc hB2.size _⟩
  have HL := Lib.hid hL
  have HSZ := Lib.hid hsz
  clear hF2 hb2 hbr hbx hL hB2 hl2 hsz I0 I1 I2 I3
  go_wp2_with fail
  generalize w2.alloc (.cells #[.int .i64 T.f0, .int .i64 T.f1, .string T.f2, .slice AT T.f3.length cT] 31) = W2 at HL ⊢
  have HCB : Hid (k31.C w (some ad) l.length l) := HC
  clear hl3 HC3 HFL
  go_loopw [4] (fun s4 wr => ∃ kk : Nat, kk + 1 ≤ l.length ∧ s4 = .int .i64 ((kk : Int) - 1) ∧ ∃ T AT cT, Hid (funL (l.drop kk) = T) ∧ Hid (Lf w w2.heap.size T AT cT wr)) (fun s4 _ => (intOf s4 + 1).toNat)
  case atStart => exact ⟨l.length - 1, by omega, by congr 1; omega, T, AT, cT, HT1, HL⟩
  case round =>
   clear HL HT1
   obtain ⟨kk1, hkk, rfl, T, AT, cT, HT, HL⟩ := hrel
   by_cases hlt : 0 < kk1
   ·obtain ⟨kk, rfl⟩ : ∃ kk, kk1 = kk + 1 := ⟨kk1 - 1, by omega⟩
    have hcast : ((kk + 1 : Nat) : Int) - 1 = (kk : Int) := by omega
    rw [hcast]
    have hge : (0 : Int) ≤ (kk : Int) := by omega
    obtain ⟨ad', A3, c3, had, a0, a1, a2, a3, hl3, hC3⟩ := at_T31 HC.out (kk : Int) (by omega) (by omega)
    obtain rfl : ad = ad' := Option.some.inj had
    have hrd : rd_T31 l (kk : Int) = l.getD kk z31 := rfl
    rw [Int.toNat_natCast] at a0 a1 a2 a3
    rw [hrd] at a0 a1 a2 a3 hl3 hC3
    have hfd := funL_drop l kk (by omega)
    have hfy := HF.out _ (getD_mem l kk (by omega))
    rw [HT.out] at hfd
    generalize l.getD kk z31 = y at a0 a1 a2 a3 hl3 hC3 hfd hfy
    have HL1 := Lib.hid (HL.out.below ((Below.refl wr.heap.size wr).drew))
    replace a0 := pw_cell_below HL1.out.be a0
    replace a1 := pw_cell_below HL1.out.be a1
    replace a2 := pw_cell_below HL1.out.be a2
    replace a3 := pw_cell_below HL1.out.be a3
    have hcall : ∀ W, Below w.heap.size w W → Calls Tryd.prog 57 #[.agg #[.int .i64 y.f0, .int .i64 y.f1, .string y.f2, .slice A3 y.f3.length c3]] W (TreeR w.heap.size W y) := fun W hW => clone_all n w y A3 c3 W hfy hl3 hC3 hW
    have HCL := Lib.hid hcall
    have HFD := Lib.hid hfd
    have t0 : wr.drew.cell? ⟨w2.heap.size, 0, none⟩ = some (.int .i64 T.f0) := cell_in HL1.out.bx 0
    have t1 : wr.drew.cell? ⟨w2.heap.size, 1, none⟩ = some (.int .i64 T.f1) := cell_in HL1.out.bx 1
    have t2 : wr.drew.cell? ⟨w2.heap.size, 2, none⟩ = some (.string T.f2) := cell_in HL1.out.bx 2
    have t3 : wr.drew.cell? ⟨w2.heap.size, 3, none⟩ = some (.slice AT T.f3.length cT) := cell_in HL1.out.bx 3
    have hkl : (kk : Int) < (l.length : Int) := by omega
    clear hcall hC3 hrd hfd hfy had HL
    go_upto_region 7 with (fail)
    refine start_ (n := 9) (S := fun w' => w'.cell? ⟨w2.heap.size, 0, none⟩ = some (.int .i64 T.f0) ∧ w'.cell? ⟨w2.heap.size, 1, none⟩ = some (.int .i64 T.f1) ∧ w'.cell? ⟨w2.heap.size, 2, none⟩ = some (.string T.f2) ∧ w'.cell? ⟨w2.heap.size, 3, none⟩ = some (.slice AT T.f3.length cT) ∧ w'.cell? (ad.add (kk * 4)) = some (.int .i64 y.f0) ∧ w'.cell? ⟨(ad.add (kk * 4)).block, (ad.add (kk * 4)).off + 1, none⟩ = some (.int .i64 y.f1) ∧ w'.cell? ⟨(ad.add (kk * 4)).block, (ad.add (kk * 4)).off + 2, none⟩ = some (.string y.f2) ∧ w'.cell? ⟨(ad.add (kk * 4)).block, (ad.add (kk * 4)).off + 3, none⟩ = some (.slice A3 y.f3.length c3)) (ds := [8]) (zBM 9 0) (by kernel_rfl) rfl rfl ⟨t0, t1, t2, t3, a0, a1, a2, a3⟩ (fun hHeld => ?_)
    refine pure_ (i := 0) (N := some 23) (v := ?_) (a' := ?_) (zBM 9 1) rfl rfl (by kernel_rfl) (fun _ _ _ h => h) (Or.inl ⟨by rfl, ?_⟩) ?_ ?_
    rotate_left
    ·intro w'
     go_simp
     with_reducible rfl
    rotate_left
    ·simp only [Act.put, zO, zP, zR, i64_w, i32_w]
     rfl
    refine pure_ (i := 1) (N := some 24) (v := ?_) (a' := ?_) (zBM 9 3) rfl rfl (by kernel_rfl) (fun _ _ _ h => h) (Or.inl ⟨by rfl, ?_⟩) ?_ ?_
    rotate_left
    ·intro w'
     go_simp
     with_reducible rfl
    rotate_left
    ·simp only [Act.put, zO, zP, zR, i64_w, i32_w]
     rfl
    refine pure_ (i := 2) (N := some 25) (v := ?_) (a' := ?_) (zBM 9 7) rfl rfl (by kernel_rfl) (fun _ _ _ h => h) (Or.inl ⟨by rfl, ?_⟩) ?_ ?_
    rotate_left
    ·intro w'
     go_simp
     with_reducible rfl
    rotate_left
    ·simp only [Act.put, zO, zP, zR, i64_w, i32_w]
     rfl
    refine take_ (i := 3) (N := some 26) (v := ?_) (a' := ?_) (zBM 9 15) rfl rfl (by kernel_rfl) (fun _ _ _ h => h) (Or.inl ⟨by rfl, ?_⟩) hHeld ?_ ?_
    rotate_left
    ·rintro w' ⟨s0, s1, s2, s3, s4, s5, s6, s7⟩
     go_simp
     with_reducible rfl
    rotate_left
    ·simp only [Act.put, zO, zP, zR, i64_w, i32_w]
     rfl
    refine take_ (i := 5) (N := some 28) (v := ?_) (a' := ?_) (zBM 9 47) rfl rfl (by kernel_rfl) (fun _ _ _ h => h) (Or.inl ⟨by rfl, ?_⟩) hHeld ?_ ?_
    rotate_left
    ·rintro w' ⟨s0, s1, s2, s3, s4, s5, s6, s7⟩
     go_simp
     with_reducible rfl
    rotate_left
    ·simp only [Act.put, zO, zP, zR, i64_w, i32_w]
     rfl
    refine one_ (i := 4) (N := some 27) (zBM 9 63) rfl rfl (by kernel_rfl) (by decide) (fun K hK => ?_)
    refine goes_ Tryd.func57 (by kernel_rfl) rfl #[.agg #[.int .i64 y.f0, .int .i64 y.f1, .string y.f2, .slice A3 y.f3.length c3]] (by rfl) rfl rfl (by (try simp only [List.map_toArray, List.map_cons, List.map_nil]); first | done | rfl) ?_
    refine (HCL.out _ HL1.out.be).mono ?_
    rintro e w3 ⟨A4, c4, rfl, hl4, hF4, hb4⟩
    refine ⟨_, rfl, ?_⟩
    have HL3 := Lib.hid (HL1.out.below hb4)
    have HF4 := Lib.hid hF4
    have HB4 := Lib.hid hb4
    clear hF4 hb4
    have b0 := pw_cell_below HB4.out a0
    have b1 := pw_cell_below HB4.out a1
    have b2 := pw_cell_below HB4.out a2
    have b3 := pw_cell_below HB4.out a3
    refine hK.out _ _ ⟨cell_in HL3.out.bx 0, cell_in HL3.out.bx 1, cell_in HL3.out.bx 2, cell_in HL3.out.bx 3, b0, b1, b2, b3⟩ (fun hHeld => ?_)
    clear hK K
    refine norm_ (a' := ?_) ?_ ?_
    rotate_left
    ·show Act.put _ (some 27) _ = _
     simp only [Act.put, zO, zP, zR, i64_w, i32_w]
     rfl
    refine one_ (i := 6) (N := some 29) (zBM 9 127) rfl rfl (by kernel_rfl) (by decide) (fun K hK => ?_)
    refine value_ (w1 := ?_) (v := ?_) (by rfl) rfl ?_ ?_
    rotate_left 2
    ·go_simp
     constructor
     ·rfl
     ·rfl
    have HL5 := Lib.hid (HL3.out.below ((Below.refl _ _).alloc (Nat.le_refl _) (.cells #[.int .i64 y.f0, .int .i64 y.f1, .string y.f2, .slice A4 y.f3.length c4, .int .i64 T.f0, .int .i64 T.f1, .string T.f2, .slice AT T.f3.length cT] 31)))
    refine hK.out _ _ ⟨cell_in HL5.out.bx 0, cell_in HL5.out.bx 1, cell_in HL5.out.bx 2, cell_in HL5.out.bx 3, cell_allocN _ b0, cell_allocN _ b1, cell_allocN _ b2, cell_allocN _ b3⟩ (fun hHeld => ?_)
    clear hK K
    refine norm_ (a' := ?_) ?_ ?_
    rotate_left
    ·show Act.put _ (some 29) _ = _
     simp only [Act.put, zO, zP, zR, i64_w, i32_w]
     rfl
    refine pure_ (i := 7) (N := some 30) (v := ?_) (a' := ?_) (zBM 9 255) rfl rfl (by kernel_rfl) (fun _ _ _ h => h) (Or.inl ⟨by rfl, ?_⟩) ?_ ?_
    rotate_left
    ·intro w'
     go_simp
     with_reducible rfl
    rotate_left
    ·simp only [Act.put, zO, zP, zR, i64_w, i32_w]
     rfl
    refine last_ (i := 8) (N := none) (zBM 9 511) rfl rfl (by kernel_rfl) (by decide) (fun K hK => ?_)
    have z0 := frz_in HL5.out.bx 0
    have z1 := frz_in HL5.out.bx 1
    have z2 := frz_in HL5.out.bx 2
    have z3 := frz_in HL5.out.bx 3
    have y0 := cell_in HL5.out.bx 0
    have y1 := cell_in HL5.out.bx 1
    have y2 := cell_in HL5.out.bx 2
    have y3 := cell_in HL5.out.bx 3
    have HEQ : Hid (∃ W, ((w3.alloc (.cells #[.int .i64 y.f0, .int .i64 y.f1, .string y.f2, .slice A4 y.f3.length c4, .int .i64 T.f0, .int .i64 T.f1, .string T.f2, .slice AT T.f3.length cT] 31)) = W)) := Lib.hid ⟨_, rfl⟩
    refine skip_ (w1 := ?_) (by rfl) rfl ?_ ?_
    rotate_left
    ·go_simp
     rfl
    refine hK.out _ _ ?_
    clear hK K
    refine done_ (by kernel_rfl) ?_
    have hszw := HSZ.out
    have hblt := (Array.getElem?_eq_some_iff.1 HL3.out.bx).1
    have hwd := (Array.getElem?_eq_some_iff.1 HL1.out.bx).1
    have hrow := row2 (S := fun k => k ≠ w.heap.size ∧ k ≠ w2.heap.size ∧ k < (w3.alloc (.cells #[.int .i64 y.f0, .int .i64 y.f1, .string y.f2, .slice A4 y.f3.length c4, .int .i64 T.f0, .int .i64 T.f1, .string T.f2, .slice AT T.f3.length cT] 31)).heap.size) (heap_new w3 (.cells #[.int .i64 y.f0, .int .i64 y.f1, .string y.f2, .slice A4 y.f3.length c4, .int .i64 T.f0, .int .i64 T.f1, .string T.f2, .slice AT T.f3.length cT] 31))
     ((fk_of y hl4 (HF4.out.to (Agr.of_below ((Below.refl _ _).alloc (Nat.le_refl _) _) (fun k hk => hk.2)))).mono (fun k hk => ⟨by have := hk.1; omega, by have := hk.1; omega, by have := hk.2; simp; omega⟩))
     (fk_of T HL5.out.le HL5.out.fc)
    have hln := HL5.out.put (by omega) ⟨3, 0, ⟨#[]⟩, [y, T]⟩ (c' := 2) (Nat.le_refl _) (hrow.mono (fun k hk => hk.elim id (fun e => by subst e; exact ⟨by omega, by omega, by simp⟩)))
    rw [World.setCell_alloc_past _ _ _ _ hblt, World.setCell_alloc_past _ _ _ _ (by simpa using hblt), World.setCell_alloc_past _ _ _ _ (by simpa using hblt), World.setCell_alloc_past _ _ _ _ (by simpa using hblt)] at hln
    have HLN := Lib.hid hln
    clear hln
    clear hrow hHeld
    go_wp2_with fail
    go_roundw
    case rel => exact ⟨kk, by omega, by go_num, _, _, _, HFD, HLN⟩
    case measure => simp [intOf]
   ·obtain rfl : kk1 = 0 := by omega
    have hT0 : T = TT := by rw [← HT.out, ← HTT.out, List.drop_zero]
    subst hT0
    have hm1 : ((0 : Nat) : Int) - 1 = -1 := by decide
    rw [hm1]
    have x0 := cell_in HL.out.bx 0
    have x1 := cell_in HL.out.bx 1
    have x2 := cell_in HL.out.bx 2
    have x3 := cell_in HL.out.bx 3
    have k0 := cell_in HL.out.br 0
    have k1 := cell_in HL.out.br 1
    have k2 := cell_in HL.out.br 2
    have k3 := cell_in HL.out.br 3
    have f0 := frz_in HL.out.br 0
    have f1 := frz_in HL.out.br 1
    have f2 := frz_in HL.out.br 2
    have f3 := frz_in HL.out.br 3
    go_wp2_with fail
    have hbr2 := heap_set4 HL.out.br (.int .i64 T.f0) (.int .i64 T.f1) (.string T.f2) (.slice AT T.f3.length cT)
    have hgr := grown_set4 wr w.heap.size (.int .i64 T.f0) (.int .i64 T.f1) (.string T.f2) (.slice AT T.f3.length cT)
    generalize ((((wr.setCell ⟨w.heap.size, 0, none⟩ (.int .i64 T.f0)).setCell ⟨w.heap.size, 1, none⟩ (.int .i64 T.f1)).setCell ⟨w.heap.size, 2, none⟩ (.string T.f2)).setCell ⟨w.heap.size, 3, none⟩ (.slice AT T.f3.length cT)) = W3 at hbr2 hgr ⊢
    have q0 := cell_in hbr2 0
    have q1 := cell_in hbr2 1
    have q2 := cell_in hbr2 2
    have q3 := cell_in hbr2 3
    exact bodyPost_ret (v := .agg #[.int .i64 T.f0, .int .i64 T.f1, .string T.f2, .slice AT T.f3.length cT]) (by simp [results, Tryd.results26, go_sem, q0, q1, q2, q3]) rfl ⟨AT, cT, rfl, HL.out.le, (HL.out.fc.to (Agr.of_grown hgr (fun k hk => ⟨hk.2.2, fun e => hk.1 (Option.some.inj e)⟩))).now, below_grown HL.out.be hgr (Nat.le_refl _)⟩
end Go.Proofs.YtddmdiaopaoekaaDoor.P
