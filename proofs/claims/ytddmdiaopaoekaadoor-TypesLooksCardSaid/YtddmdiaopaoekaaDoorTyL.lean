import Derived.Test.YtddmdiaopaoekaaDoorTyK
import Derived.Test.YtddmdiaopaoekaaDoorSq
namespace Go.Proofs.YtddmdiaopaoekaaDoor.P
open Go.RowKit Go.Proofs.YtddmdiaopaoekaaDoorW.PrintWords Go.Proofs.YtddmdiaopaoekaaDoor.Rw
set_option linter.unusedVariables false
section
variable {σ : Type}
def stS (p : S31 → S31 → σ → Bool × σ) : List S31 → List S31 → σ → σ
 | x :: xs, y :: ys, s => stS p xs ys (p x y s).2
 | _, _, s => s
def eqS (p : S31 → S31 → σ → Bool × σ) : List S31 → List S31 → σ → Bool × σ
 | [], [], s => (true, s)
 | x :: xs, y :: ys, s => if (p x y s).1 = true then eqS p xs ys (p x y s).2 else (false, (p x y s).2)
 | _, _, s => (false, s)
/-- Are lists alike, one by one, and what is the state then? -/
def eqL (p : S31 → S31 → σ → Bool × σ) (xs ys : List S31) (s : σ) : Bool × σ := if xs.length = ys.length then eqS p xs ys s else (false, s)
theorem stS_snoc (p : S31 → S31 → σ → Bool × σ) : ∀ (xs ys : List S31) (s : σ) (k : Nat), k < xs.length → k < ys.length → stS p (xs.take (k + 1)) (ys.take (k + 1)) s = (p (xs.getD k z31) (ys.getD k z31) (stS p (xs.take k) (ys.take k) s)).2
 | [], _, _, k, h, _ => by simp at h
 | _ :: _, [], _, k, _, h => by simp at h
 | x :: xs, y :: ys, s, 0, _, _ => by simp [stS]
 | x :: xs, y :: ys, s, k + 1, h, h' => by
  have := stS_snoc p xs ys (p x y s).2 k (by simpa using h) (by simpa using h')
  simpa [stS] using this
theorem eqS_all (p : S31 → S31 → σ → Bool × σ) : ∀ (xs ys : List S31) (s : σ), xs.length = ys.length → (∀ j, j < xs.length → (p (xs.getD j z31) (ys.getD j z31) (stS p (xs.take j) (ys.take j) s)).1 = true) → eqS p xs ys s = (true, stS p xs ys s)
 | [], [], _, _, _ => rfl
 | [], _ :: _, _, h, _ => by simp at h
 | _ :: _, [], _, h, _ => by simp at h
 | x :: xs, y :: ys, s, h, k => by
  have h0 : (p x y s).1 = true := by have := k 0 (by simp); simpa [stS] using this
  rw [eqS, if_pos h0, eqS_all p xs ys _ (by simpa using h) (fun j hj => by have := k (j + 1) (by simpa using hj); simpa [stS] using this)]
  rfl
theorem eqS_not (p : S31 → S31 → σ → Bool × σ) : ∀ (xs ys : List S31) (s : σ) (j : Nat), j < xs.length → xs.length = ys.length → (∀ i, i < j → (p (xs.getD i z31) (ys.getD i z31) (stS p (xs.take i) (ys.take i) s)).1 = true) → (p (xs.getD j z31) (ys.getD j z31) (stS p (xs.take j) (ys.take j) s)).1 = false → eqS p xs ys s = (false, (p (xs.getD j z31) (ys.getD j z31) (stS p (xs.take j) (ys.take j) s)).2)
 | [], _, _, j, h, _, _, _ => by simp at h
 | _ :: _, [], _, j, _, h, _, _ => by simp at h
 | x :: xs, y :: ys, s, 0, _, _, _, k => by
  have h0 : (p x y s).1 = false := by simpa [stS] using k
  rw [eqS, if_neg (by rw [h0]; simp)]
  simp [stS]
 | x :: xs, y :: ys, s, j + 1, h, l, a, k => by
  have h0 : (p x y s).1 = true := by have := a 0 (by omega); simpa [stS] using this
  rw [eqS, if_pos h0, eqS_not p xs ys _ j (by simpa using h) (by simpa using l) (fun i hi => by have := a (i + 1) (by omega); simpa [stS] using this) (by simpa [stS] using k)]
  simp [stS]
/-- A relation of types that keeps a state, as a function value. -/
def PredS (G : Nat) (lb : Array Value) (p : S31 → S31 → σ → Bool × σ) (xs ys : List S31) (s0 : σ) (Inv : σ → World → Prop) (w0 : World) : Prop :=
 ∀ (kk : Nat) (W : World) (A B : Option Addr) (c d : Nat), kk < xs.length → kk < ys.length → Inv (stS p (xs.take kk) (ys.take kk) s0) W → (xs.getD kk z31).f3.length ≤ c → k31.C w0 A (xs.getD kk z31).f3.length (xs.getD kk z31).f3 → (ys.getD kk z31).f3.length ≤ d → k31.C w0 B (ys.getD kk z31).f3.length (ys.getD kk z31).f3 →
  Calls Tryd.prog G (#[.agg #[.int .i64 (xs.getD kk z31).f0, .int .i64 (xs.getD kk z31).f1, .string (xs.getD kk z31).f2, .slice A (xs.getD kk z31).f3.length c], .agg #[.int .i64 (ys.getD kk z31).f0, .int .i64 (ys.getD kk z31).f1, .string (ys.getD kk z31).f2, .slice B (ys.getD kk z31).f3.length d]] ++ lb) W
   fun e W' => e = .returned (.bool (p (xs.getD kk z31) (ys.getD kk z31) (stS p (xs.take kk) (ys.take kk) s0)).1) ∧ Inv (p (xs.getD kk z31) (ys.getD kk z31) (stS p (xs.take kk) (ys.take kk) s0)).2 W'
set_option maxHeartbeats 4000000 in
set_option maxRecDepth 100000 in
theorem equalS (G : Nat) (lb : Array Value) (p : S31 → S31 → σ → Bool × σ) (s0 : σ) (Inv : σ → World → Prop) (w0 : World) (eg : ∀ args w, (callFunc G args).run Tryd.prog w = .ok (.enter G args) w) (A B : Option Addr) (c d : Nat) (xs ys : List S31) (w : World)
  (hal : ∀ s W o, Inv s W → Inv s (W.alloc o)) (hbe : ∀ s W, Inv s W → Below w0.heap.size w0 W)
  (hp : PredS G lb p xs ys s0 Inv w0) (hA : k31.C w0 A xs.length xs) (hB : k31.C w0 B ys.length ys) (h0 : Inv s0 w) :
  Calls Tryd.prog 55 #[.slice A xs.length c, .slice B ys.length d, .func (.func G) #[] lb] w fun e w' => e = .returned (.bool (eqL p xs ys s0).1) ∧ Inv (eqL p xs ys s0).2 w' := by
 have hbig := hA.2.1
 have hbig2 := hB.2.1
 have HP := Lib.hid hp
 have HA := Lib.hid hA
 have HB := Lib.hid hB
 have HAL := Lib.hid hal
 have HBE := Lib.hid hbe
 have H0 := Lib.hid h0
 clear hp hA hB hal hbe h0
 by_cases hl : xs.length = ys.length
 ·have HL := Lib.hid hl
  have e1 : ((xs.length : Int) != (ys.length : Int)) = false := by rw [hl]; simp
  clear hl
  go_enter Tryd.func55, Tryd.ntmps55
  go_wp2
  go_loopg [7, 8, 9, 17] xs.length (fun gg _ _ _ s17 wr => ∃ kk : Nat, kk ≤ xs.length ∧ xs.length - kk ≤ gg ∧ s17 = .int .i64 kk ∧ Hid (Inv (stS p (xs.take kk) (ys.take kk) s0) wr) ∧ Hid (∀ j, j < kk → (p (xs.getD j z31) (ys.getD j z31) (stS p (xs.take j) (ys.take j) s0)).1 = true))
  case atStart => exact ⟨0, Nat.zero_le _, by omega, rfl, H0, Lib.hid (fun j hj => absurd hj (Nat.not_lt_zero _))⟩
  case round =>
   obtain ⟨kk, hkk, hg, rfl, BW, AL⟩ := hrel
   by_cases hlt : kk < xs.length
   ·have hltz : (kk : Int) < (xs.length : Int) := by omega
    have hltz2 : (kk : Int) < (ys.length : Int) := by have := HL.out; omega
    obtain ⟨ad, A3, c3, rfl, h0, h1, h2, h3, hl3, hC3⟩ := at_T31 HA.out (kk : Int) (by omega) hltz
    obtain ⟨bd, B3, d3, rfl, g0, g1, g2, g3, gl3, gC3⟩ := at_T31 HB.out (kk : Int) (by omega) hltz2
    have hrd : rd_T31 xs (kk : Int) = xs.getD kk z31 := rfl
    have grd : rd_T31 ys (kk : Int) = ys.getD kk z31 := rfl
    have hbw := HBE.out _ _ BW.out
    rw [Int.toNat_natCast] at h0 h1 h2 h3 g0 g1 g2 g3
    rw [hrd] at h0 h1 h2 h3 hl3 hC3
    rw [grd] at g0 g1 g2 g3 gl3 gC3
    replace h0 := pw_cell_below hbw h0
    replace h1 := pw_cell_below hbw h1
    replace h2 := pw_cell_below hbw h2
    replace h3 := pw_cell_below hbw h3
    replace g0 := pw_cell_below hbw g0
    replace g1 := pw_cell_below hbw g1
    replace g2 := pw_cell_below hbw g2
    replace g3 := pw_cell_below hbw g3
    have hsn := stS_snoc p xs ys s0 kk hlt (by have := HL.out; omega)
    have hcall : ∀ W, Inv (stS p (xs.take kk) (ys.take kk) s0) W → _ := fun W hW => HP.out kk W A3 B3 c3 d3 hlt (by have := HL.out; omega) hW hl3 hC3 gl3 gC3
    have hno := eqS_not p xs ys s0 kk hlt HL.out AL.out
    have hyes : (p (xs.getD kk z31) (ys.getD kk z31) (stS p (xs.take kk) (ys.take kk) s0)).1 = true → ∀ j, j < kk + 1 → (p (xs.getD j z31) (ys.getD j z31) (stS p (xs.take j) (ys.take j) s0)).1 = true := fun h j hj => by
     rcases Nat.lt_succ_iff_lt_or_eq.1 hj with h' | rfl
     ·exact AL.out j h'
     ·exact h
    have HSN := Lib.hid hsn
    have HNO := Lib.hid hno
    have HYES := Lib.hid hyes
    clear hl3 hC3 gl3 gC3 hrd grd hbw hsn hno hyes
    generalize xs.getD kk z31 = x at h0 h1 h2 h3 hcall HSN HNO HYES
    generalize ys.getD kk z31 = y at g0 g1 g2 g3 hcall HSN HNO HYES
    have m0 : ∀ o, (wr.alloc o).cell? (bd.add (kk * 4)) = some (.int .i64 y.f0) := fun o => (World.cell?_alloc_lt wr o _ (zS wr _ g0)).trans g0
    have m1 : ∀ o, (wr.alloc o).cell? ⟨(bd.add (kk * 4)).block, (bd.add (kk * 4)).off + 1, none⟩ = some (.int .i64 y.f1) := fun o => (World.cell?_alloc_lt wr o _ (zS wr _ g1)).trans g1
    have m2 : ∀ o, (wr.alloc o).cell? ⟨(bd.add (kk * 4)).block, (bd.add (kk * 4)).off + 2, none⟩ = some (.string y.f2) := fun o => (World.cell?_alloc_lt wr o _ (zS wr _ g2)).trans g2
    have m3 : ∀ o, (wr.alloc o).cell? ⟨(bd.add (kk * 4)).block, (bd.add (kk * 4)).off + 3, none⟩ = some (.slice B3 y.f3.length d3) := fun o => (World.cell?_alloc_lt wr o _ (zS wr _ g3)).trans g3
    cases hq : (p x y (stS p (xs.take kk) (ys.take kk) s0)).1 with
    | true =>
     rw [hq] at hcall
     have HCL := Lib.hid hcall
     have HQ := Lib.hid hq
     clear hcall hq
     go_wp2_with fail
     refine (HCL.out _ (HAL.out _ _ _ (HAL.out _ _ _ BW.out))).mono ?_
     rintro e w1 ⟨rfl, hb1⟩
     rw [← HSN.out] at hb1
     have HB1 := Lib.hid hb1
     clear hb1
     go_wp2_with fail
     go_roundg (xs.length - (kk + 1))
     case measure => omega
     case rel => exact ⟨kk + 1, by omega, by omega, by go_num, HB1, Lib.hid (HYES.out HQ.out)⟩
    | false =>
     rw [hq] at hcall
     have HCL := Lib.hid hcall
     have HQ := Lib.hid hq
     clear hcall hq
     go_wp2_with fail
     refine (HCL.out _ (HAL.out _ _ _ (HAL.out _ _ _ BW.out))).mono ?_
     rintro e w1 ⟨rfl, hb1⟩
     have HB1 := Lib.hid hb1
     clear hb1
     go_wp2_with fail
     go_ret
     rw [eqL, if_pos HL.out, HNO.out HQ.out]
     exact ⟨rfl, HB1.out⟩
   ·have hltz : ¬ (kk : Int) < (xs.length : Int) := by omega
    obtain rfl : kk = xs.length := by omega
    go_wp2_with fail
    go_ret
    have hfin := BW.out
    rw [List.take_length, List.take_of_length_le (by have := HL.out; omega)] at hfin
    rw [eqL, if_pos HL.out, eqS_all p xs ys s0 HL.out AL.out]
    exact ⟨rfl, hfin⟩
 ·have e1 : ((xs.length : Int) != (ys.length : Int)) = true := bne_iff_ne.2 (by omega)
  have HF : Hid (eqL p xs ys s0 = (false, s0)) := Lib.hid (by unfold eqL; rw [if_neg hl])
  clear hl
  go_enter Tryd.func55, Tryd.ntmps55
  go_wp2
  go_ret
  rw [HF.out]; exact ⟨rfl, H0.out⟩
end
end Go.Proofs.YtddmdiaopaoekaaDoor.P
namespace Go.Proofs.YtddmdiaopaoekaaDoor.P
open Go.RowKit Go.Shelf Go.Proofs.YtddmdiaopaoekaaDoorW.PrintWords Go.Proofs.YtddmdiaopaoekaaDoorW.PrintLast Go.Proofs.YtddmdiaopaoekaaDoor.Rw
set_option linter.unusedVariables false
set_option linter.unusedSimpArgs false
/-- What is bound, and at most how many. -/
abbrev Bnd := (Int → Option S31) × Nat
def putT (m : Int → Option S31) (i : Int) (t : S31) : Int → Option S31 := fun j => if j = i then some t else m j
noncomputable def matchS : Nat → S31 → S31 → Bnd → Bool × Bnd
 | 0, _, _, st => (false, st)
 | n + 1, g, s, st =>
  if g.f0 = 1 then (match st.1 g.f1 with
   | none => (true, (putT st.1 g.f1 s, st.2 + 1))
   | some u => (sameB u s, st))
  else if g.f0 = s.f0 then (if g.f2.toList = s.f2.toList then eqL (matchS n) g.f3 s.f3 st else (false, st)) else (false, st)
/-- A type, as it lies in a row that was read in w0. -/
def Lies (w0 : World) (t : S31) (v : Value) : Prop := ∃ A c, v = .agg #[.int .i64 t.f0, .int .i64 t.f1, .string t.f2, .slice A t.f3.length c] ∧ t.f3.length ≤ c ∧ k31.C w0 A t.f3.length t.f3
def Holds (w0 : World) (mm : Int → Option S31) (m : Int → Option Value) : Prop := ∀ i, (∀ t, mm i = some t → ∃ v, m i = some v ∧ Lies w0 t v) ∧ (mm i = none → m i = none)
def MapT (w0 W : World) (b n : Nat) (mm : Int → Option S31) : Prop := ∃ m, MapI Tryd.prog 3 W b n m ∧ Holds w0 mm m
theorem holds_put {w0 : World} {mm : Int → Option S31} {m : Int → Option Value} (h : Holds w0 mm m) (i : Int) {t : S31} {v : Value} (hv : Lies w0 t v) : Holds w0 (putT mm i t) (putI m i v) := fun j => by
 unfold putT putI
 by_cases hj : j = i
 ·rw [if_pos hj, if_pos hj]
  exact ⟨fun t' e => by cases e; exact ⟨v, rfl, hv⟩, fun e => by cases e⟩
 ·rw [if_neg hj, if_neg hj]
  exact h j
theorem MapT.kept {w0 W W' : World} {b n : Nat} {mm : Int → Option S31} (h : MapT w0 W b n mm) {row : Option Nat} (hg : W.grownBy W' row) (hne : some b ≠ row) : MapT w0 W' b n mm := by
 obtain ⟨m, h1, h2⟩ := h
 exact ⟨m, h1.kept hg hne, h2⟩
theorem MapT.alloc {w0 W : World} {b n : Nat} {mm : Int → Option S31} (h : MapT w0 W b n mm) (o : Obj) : MapT w0 (W.alloc o) b n mm := h.kept (World.grownBy_alloc W o none) (by simp)
theorem MapT.below {w0 W W' : World} {b n : Nat} {mm : Int → Option S31} (h : MapT w0 W b n mm) (hb : Below W.heap.size W W') : MapT w0 W' b n mm := h.kept (grown_below hb) (by simp)
theorem grown_any {W W' : World} (h : W.grownBy W' none) (row : Option Nat) : W.grownBy W' row := ⟨h.os, h.tape, h.output, h.size, fun k hk _ => h.block k hk (by simp)⟩
/-- How many are bound at most. -/
def MatchC (w0 : World) (b : Nat) (n : Nat) : Prop :=
 ∀ (g s : S31) (A B : Option Addr) (c d : Nat) (st : Bnd) (W : World), dep n g → g.f3.length ≤ c → k31.C w0 A g.f3.length g.f3 → s.f3.length ≤ d → k31.C w0 B s.f3.length s.f3 → (∀ v, v ∈ varsN n g → (Lit.int .i64 v).wf = true) → st.2 + (varsN n g).length ≤ 10000000 →
  Below w0.heap.size w0 W → w0.heap.size ≤ b → MapT w0 W b st.2 st.1 →
  Calls Tryd.prog 43 #[.agg #[.int .i64 g.f0, .int .i64 g.f1, .string g.f2, .slice A g.f3.length c], .agg #[.int .i64 s.f0, .int .i64 s.f1, .string s.f2, .slice B s.f3.length d], .map (some b)] W fun e W' =>
   e = .returned (.bool (matchS n g s st).1) ∧ MapT w0 W' b (matchS n g s st).2.2 (matchS n g s st).2.1 ∧ W.grownBy W' (some b)
/-- How many more may be bound. -/
theorem matchS_le : ∀ (n : Nat) (g s : S31) (st : Bnd), (matchS n g s st).2.2 ≤ st.2 + (varsN n g).length := by
 intro n
 induction n with
 | zero => intro g s st; simp [matchS]
 | succ n ih =>
  intro g s st
  have hv : varsN (n + 1) g = (if g.f0 = 1 then [g.f1] else []) ++ g.f3.flatMap (varsN n) := rfl
  have hm : matchS (n + 1) g s st = if g.f0 = 1 then (match st.1 g.f1 with
   | none => (true, (putT st.1 g.f1 s, st.2 + 1))
   | some u => (sameB u s, st))
   else if g.f0 = s.f0 then (if g.f2.toList = s.f2.toList then eqL (matchS n) g.f3 s.f3 st else (false, st)) else (false, st) := rfl
  rw [hv, hm]
  split
  ·cases st.1 g.f1 with
   | none => simp
   | some u => simp
  ·split
   ·split
    ·have : ∀ (xs ys : List S31) (st : Bnd), (eqS (matchS n) xs ys st).2.2 ≤ st.2 + (xs.flatMap (varsN n)).length := by
      intro xs
      induction xs with
      | nil => intro ys st; cases ys <;> simp [eqS]
      | cons x xs ihx =>
       intro ys st
       cases ys with
       | nil => simp [eqS]
       | cons y ys =>
        have h1 := ih x y st
        have h2 := ihx ys (matchS n x y st).2
        simp only [eqS, List.flatMap_cons, List.length_append]
        split
        ·omega
        ·simp only; omega
     unfold eqL
     split
     ·have := this g.f3 s.f3 st; simpa using this
     ·simp
    ·simp
   ·simp
theorem stS_le (n : Nat) : ∀ (xs ys : List S31) (st : Bnd), (stS (matchS n) xs ys st).2 ≤ st.2 + (xs.flatMap (varsN n)).length
 | [], ys, st => by cases ys <;> simp [stS]
 | x :: xs, [], st => by simp [stS]
 | x :: xs, y :: ys, st => by
  have h1 := matchS_le n x y st
  have h2 := stS_le n xs ys (matchS n x y st).2
  simp only [stS, List.flatMap_cons, List.length_append]
  omega
end Go.Proofs.YtddmdiaopaoekaaDoor.P
namespace Go.Proofs.YtddmdiaopaoekaaDoor.P
open Go.RowKit Go.Shelf Go.Proofs.YtddmdiaopaoekaaDoorW.PrintWords Go.Proofs.YtddmdiaopaoekaaDoorW.PrintLast Go.Proofs.YtddmdiaopaoekaaDoor.Rw
set_option linter.unusedVariables false
set_option linter.unusedSimpArgs false
structure MInv (w0 Ws : World) (b bB : Nat) (st : Bnd) (W : World) : Prop where
 map : MapT w0 W b st.2 st.1
 box : Boxed W bB 83 (.map (some b))
 be : Below w0.heap.size w0 W
 gr : Ws.grownBy W (some b)
theorem MInv.alloc {w0 Ws : World} {b bB : Nat} {st : Bnd} {W : World} (h : MInv w0 Ws b bB st W) (o : Obj) : MInv w0 Ws b bB st (W.alloc o) :=
 ⟨h.map.alloc o, h.box.alloc o, h.be.alloc h.be.size o, h.gr.trans (World.grownBy_alloc W o (some b))⟩
set_option maxHeartbeats 4000000 in
set_option maxRecDepth 100000 in
theorem match1_pred (w0 Ws : World) (b bB : Nat) (hb0 : w0.heap.size ≤ b) (hne : bB ≠ b) (n : Nat) (ih : MatchC w0 b n) (gs ss : List S31) (st : Bnd) (hd : ∀ y, y ∈ gs → dep n y) (hwf : ∀ v, v ∈ gs.flatMap (varsN n) → (Lit.int .i64 v).wf = true) (hN : st.2 + (gs.flatMap (varsN n)).length ≤ 10000000) :
  PredS 71 #[.pointer (some ⟨bB, 0, none⟩)] (matchS n) gs ss st (MInv w0 Ws b bB) w0 := by
 intro kk W A B c d hx hy hI hc hC hd' hD
 have hmem := getD_mem gs kk hx
 have hdep := hd _ hmem
 have hwx : ∀ v, v ∈ varsN n (gs.getD kk z31) → (Lit.int .i64 v).wf = true := fun v hv => hwf v (List.mem_flatMap.2 ⟨_, hmem, hv⟩)
 have hln := flat_len (varsN n) gs kk hx
 have hst := stS_le n (gs.take kk) (ss.take kk) st
 generalize stS (matchS n) (gs.take kk) (ss.take kk) st = st' at hI hst ⊢
 generalize gs.getD kk z31 = x at hc hC hdep hwx hln ⊢
 generalize ss.getD kk z31 = y at hd' hD ⊢
 have hcall : ∀ W', MInv w0 Ws b bB st' W' → Calls Tryd.prog 43 #[.agg #[.int .i64 x.f0, .int .i64 x.f1, .string x.f2, .slice A x.f3.length c], .agg #[.int .i64 y.f0, .int .i64 y.f1, .string y.f2, .slice B y.f3.length d], .map (some b)] W' fun e W2 => e = .returned (.bool (matchS n x y st').1) ∧ MInv w0 Ws b bB (matchS n x y st').2 W2 := fun W' h' => by
  refine (ih x y A B c d st' W' hdep hc hC hd' hD hwx (by omega) h'.be hb0 h'.map).mono ?_
  rintro e W2 ⟨he, hm, hg⟩
  exact ⟨he, hm, h'.box.kept hg (by simp; exact hne), h'.be.grown hg h'.be.size (fun k e => by cases e; exact hb0), h'.gr.trans hg⟩
 have HCL := Lib.hid hcall
 have HI := Lib.hid hI
 have cc : ∀ o o', ((W.alloc o).alloc o').cell? ⟨bB, 0, none⟩ = some (.map (some b)) := fun o o' => ((hI.box.alloc o).alloc o').cell
 clear hcall hI hmem hdep hwx hln hst hC hD
 generalize matchS n x y st' = r at HCL ⊢
 go_enter Tryd.func71, Tryd.ntmps71
 go_wp2_with fail
 refine (HCL.out _ ((HI.out.alloc _).alloc _)).mono ?_
 rintro e w2 ⟨rfl, hI2⟩
 have HI2 := Lib.hid hI2
 clear hI2
 go_wp2_with fail
 go_ret
 exact ⟨rfl, HI2.out⟩
set_option maxHeartbeats 4000000 in
set_option maxRecDepth 100000 in
theorem match_succ (w0 : World) (b n : Nat) (ih : MatchC w0 b n) : MatchC w0 b (n + 1) := by
 intro g s A B c d st W hdep hc hC hd hD hwf hN hB hb0 hM
 have hv : varsN (n + 1) g = (if g.f0 = 1 then [g.f1] else []) ++ g.f3.flatMap (varsN n) := rfl
 have hm : matchS (n + 1) g s st = if g.f0 = 1 then (match st.1 g.f1 with
   | none => (true, (putT st.1 g.f1 s, st.2 + 1))
   | some u => (sameB u s, st))
   else if g.f0 = s.f0 then (if g.f2.toList = s.f2.toList then eqL (matchS n) g.f3 s.f3 st else (false, st)) else (false, st) := rfl
 rw [hm]
 rw [hv] at hwf hN
 clear hm hv
 have HC := Lib.hid hC
 have HD := Lib.hid hD
 have HB := Lib.hid hB
 have IH := Lib.hid ih
 have HDEP := Lib.hid hdep
 have HWF := Lib.hid hwf
 have HN := Lib.hid hN
 have HM := Lib.hid hM
 clear hC hD hB ih hdep hwf hN hM
 by_cases h0 : g.f0 = 1
 ·have b0 : (g.f0 == 1) = true := beq_iff_eq.2 h0
  rw [if_pos h0]
  have hwg : (Lit.int .i64 g.f1).wf = true := HWF.out g.f1 (by rw [if_pos h0]; simp)
  have hroom : st.2 < maxLen := by have := HN.out; rw [if_pos h0] at this; simp only [List.length_append, List.length_cons, List.length_nil] at this; unfold maxLen; omega
  clear h0
  obtain ⟨m, hMI, hH⟩ := HM.out
  have hlk : ∀ o1 o2 o3, (Instr.lookup 83 (.map (some b)) (.int .i64 g.f1) true).run Tryd.prog (((W.alloc o1).alloc o2).alloc o3) = .ok (.tuple #[(m g.f1).getD (.agg #[.int .i64 0, .int .i64 0, .string ⟨#[]⟩, .slice none 0 0]), .bool (m g.f1).isSome]) (((W.alloc o1).alloc o2).alloc o3) := fun o1 o2 o3 =>
   (((hMI.alloc o1).alloc o2).alloc o3).look_ok (Maps.int_keyed Tryd.underlying3) Tryd.underlying3 Tryd.underlying83 (Tryd.zeroValue31 _) hwg
  cases hmg : st.1 g.f1 with
  | none =>
   have hm0 := (hH g.f1).2 hmg
   rw [hm0] at hlk
   simp only [Option.getD_none, Option.isSome_none] at hlk
   obtain ⟨Wm, hput, hMm, hgm⟩ := ((((hMI.alloc (.cells #[.int .i64 g.f0, .int .i64 g.f1, .string g.f2, .slice A g.f3.length c] 31)).alloc (.cells #[.int .i64 s.f0, .int .i64 s.f1, .string s.f2, .slice B s.f3.length d] 31)).alloc (.cells #[.map (some b)] 83)).alloc (.cells #[.int .i64 0, .int .i64 0, .string ⟨#[]⟩, .slice none 0 0] 31)).put (Maps.int_keyed Tryd.underlying3) Tryd.underlying3 Tryd.underlying83 hroom hwg (.agg #[.int .i64 s.f0, .int .i64 s.f1, .string s.f2, .slice B s.f3.length d])
   have HMm : Hid (MapT w0 Wm b (st.2 + 1) (putT st.1 g.f1 s)) := Lib.hid ⟨_, hMm, holds_put hH g.f1 ⟨B, d, rfl, hd, HD.out⟩⟩
   have HGm : Hid (W.grownBy Wm (some b)) := Lib.hid (((((World.grownBy_alloc _ _ _).trans (World.grownBy_alloc _ _ _)).trans (World.grownBy_alloc _ _ _)).trans (World.grownBy_alloc _ _ _)).trans hgm)
   clear hMm hgm hm0 hmg hMI hH
   go_enter Tryd.func43, Tryd.ntmps43
   go_wp2_with fail
   go_ret
   exact ⟨rfl, HMm.out, HGm.out⟩
  | some u =>
   obtain ⟨v, hv, A2, c2, rfl, hl2, hC2⟩ := (hH g.f1).1 u hmg
   rw [hv] at hlk
   simp only [Option.getD_some, Option.isSome_some] at hlk
   have HC2 := Lib.hid hC2
   clear hC2 hv hmg hMI hH
   go_enter Tryd.func43, Tryd.ntmps43
   go_wp2_with fail
   have hB4 := fun (o1 o2 o3 o4 : Obj) => (((HB.out.alloc HB.out.size o1).alloc (by have := HB.out.size; simp; omega) o2).alloc (by have := HB.out.size; simp; omega) o3).alloc (by have := HB.out.size; simp; omega) o4
   refine (Same_calls u s A2 B c2 d _ hl2 (c_below HC2.out (hB4 _ _ _ _)) hd (c_below HD.out (hB4 _ _ _ _))).mono ?_
   rintro e w2 ⟨rfl, hb2⟩
   have HMm : Hid (MapT w0 w2 b st.2 st.1) := Lib.hid (((((HM.out.alloc _).alloc _).alloc _).alloc _).below hb2)
   have HGm : Hid (W.grownBy w2 (some b)) := Lib.hid (((((World.grownBy_alloc _ _ _).trans (World.grownBy_alloc _ _ _)).trans (World.grownBy_alloc _ _ _)).trans (World.grownBy_alloc _ _ _)).trans (grown_any (grown_below hb2) _))
   clear hB4 hb2
   go_wp2_with fail
   go_ret
   exact ⟨rfl, HMm.out, HGm.out⟩
 ·have b0 : (g.f0 == 1) = false := beq_eq_false_iff_ne.2 h0
  rw [if_neg h0]
  by_cases h1 : g.f0 = s.f0
  ·have b1 : (g.f0 == s.f0) = true := beq_iff_eq.2 h1
   rw [if_pos h1]
   by_cases h2 : g.f2.toList = s.f2.toList
   ·have b2 : (g.f2.toList == s.f2.toList) = true := beq_iff_eq.2 h2
    rw [if_pos h2]
    have hN2 : st.2 + (g.f3.flatMap (varsN n)).length ≤ 10000000 := by have := HN.out; simp only [List.length_append] at this; omega
    have hwf2 : ∀ v, v ∈ g.f3.flatMap (varsN n) → (Lit.int .i64 v).wf = true := fun v hv => HWF.out v (List.mem_append_right _ hv)
    have hpr : ∀ Ws bB, bB ≠ b → PredS 71 #[.pointer (some ⟨bB, 0, none⟩)] (matchS n) g.f3 s.f3 st (MInv w0 Ws b bB) w0 := fun Ws bB hne => match1_pred w0 Ws b bB hb0 hne n IH.out g.f3 s.f3 st (dep_succ HDEP.out) hwf2 hN2
    have HPR := Lib.hid hpr
    generalize hr : eqL (matchS n) g.f3 s.f3 st = r
    have HRR := Lib.hid hr
    clear hN2 hwf2 hpr h0 h1 h2 hr
    go_enter Tryd.func43, Tryd.ntmps43
    go_wp2_with fail
    have hlt : b < W.heap.size := by obtain ⟨m, hMI, _⟩ := HM.out; exact hMI.lt
    have hbox := Boxed.new ((W.alloc (.cells #[.int .i64 g.f0, .int .i64 g.f1, .string g.f2, .slice A g.f3.length c] 31)).alloc (.cells #[.int .i64 s.f0, .int .i64 s.f1, .string s.f2, .slice B s.f3.length d] 31)) 83 (.map (some b))
    simp only [World.size_alloc] at hbox
    refine (equalS 71 #[.pointer (some ⟨W.heap.size + 1 + 1, 0, none⟩)] (matchS n) st (MInv w0 W b (W.heap.size + 1 + 1)) w0 (enters_of Tryd.func71 (by kernel_rfl) rfl) A B c d g.f3 s.f3 _ (fun s W o h => h.alloc o) (fun s W h => h.be) (HPR.out W _ (by omega)) HC.out HD.out ⟨((HM.out.alloc _).alloc _).alloc _, hbox, ((HB.out.alloc HB.out.size _).alloc (by have := HB.out.size; simp; omega) _).alloc (by have := HB.out.size; simp; omega) _, ((World.grownBy_alloc _ _ _).trans (World.grownBy_alloc _ _ _)).trans (World.grownBy_alloc _ _ _)⟩).mono ?_
    rintro e w2 ⟨he, hI⟩
    rw [HRR.out] at he hI
    subst he
    have HI := Lib.hid hI
    clear hI hbox
    go_wp2_with fail
    go_ret
    exact ⟨rfl, HI.out.map, HI.out.gr⟩
   ·have b2 : (g.f2.toList == s.f2.toList) = false := beq_eq_false_iff_ne.2 h2
    rw [if_neg h2]
    clear h0 h1 h2
    go_enter Tryd.func43, Tryd.ntmps43
    go_wp2_with fail
    go_ret
    exact ⟨rfl, ((HM.out.alloc _).alloc _).alloc _, ((World.grownBy_alloc _ _ _).trans (World.grownBy_alloc _ _ _)).trans (World.grownBy_alloc _ _ _)⟩
  ·have b1 : (g.f0 == s.f0) = false := beq_eq_false_iff_ne.2 h1
   rw [if_neg h1]
   clear h0 h1
   go_enter Tryd.func43, Tryd.ntmps43
   go_wp2_with fail
   go_ret
   exact ⟨rfl, ((HM.out.alloc _).alloc _).alloc _, ((World.grownBy_alloc _ _ _).trans (World.grownBy_alloc _ _ _)).trans (World.grownBy_alloc _ _ _)⟩
theorem match_all (w0 : World) (b : Nat) : ∀ n, MatchC w0 b n
 | 0 => fun g s A B c d st W h => h.elim
 | n + 1 => match_succ w0 b n (match_all w0 b n)
end Go.Proofs.YtddmdiaopaoekaaDoor.P
