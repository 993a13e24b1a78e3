/- A code of the program's as one of the reference's. -/
import Derived.Test.YtcmhibcoccdmaaaGreatDoorRfG
import Derived.Test.YtcmhibcoccdmaaaGreatDoorInV
import Derived.Deep.AppendLies
namespace Go.Proofs.YtcmhibcoccdmaaaGreatDoor.P
open Go.RowKit Go.Shelf Go.Proofs.YtcmhibcoccdmaaaGreatDoorW.PrintWords Go.Proofs.YtcmhibcoccdmaaaGreatDoorW.PrintLast Go.Proofs.YtcmhibcoccdmaaaGreatDoor.Rw
set_option linter.unusedVariables false
set_option linter.unusedSimpArgs false
/-- What stands while the parts are gone through: the code so far. -/
structure OJ (w : World) (a0 a1 : Value) (gs : List S52) (xs : List Ins) (vG vI : Value) (W : World) : Prop where
  bel : Below w.heap.size w W
  arg : W.heap[w.heap.size]? = some (.cells #[a0, a1] 26 (0, 0))
  res : W.heap[w.heap.size + 1]? = some (.cells #[.slice none 0 0, .slice none 0 0] 32 (0, 0))
  out : W.heap[w.heap.size + 2]? = some (.cells #[vG, vI] 32 (0, 0))
  rG : Row k52 64 (w.heap.size + 3) (fun _ => False) W vG gs
  rI : Row kI 45 (w.heap.size + 3) (fun k => w.heap.size + 3 ≤ k) W vI xs
theorem OJ.below {w : World} {a0 a1 : Value} {gs : List S52} {xs : List Ins} {vG vI : Value} {W W' : World} (h : OJ w a0 a1 gs xs vG vI W) (hb : Below W.heap.size W W') : OJ w a0 a1 gs xs vG vI W' := by
  have h3 := lt_heap h.out
  exact ⟨bel2 h.bel hb, (hb.block _ (by omega)).trans h.arg, (hb.block _ (by omega)).trans h.res, (hb.block _ (by omega)).trans h.out, h.rG.below hb, h.rI.below hb⟩
theorem OJ.snocG {w : World} {a0 a1 : Value} {gs : List S52} {xs : List Ins} {vG vI : Value} {W W8 : World} {o : Obj} (h : OJ w a0 a1 gs xs vG vI W) {x : S52} {cells : List Value} {g cap : Nat}
    (HOWN : (W.alloc o).ownsRow (w.heap.size + 3) 64 3 vG gs.length cells) (HREPS : Reps (fun y cs => FK k52 (W.alloc o) (fun k => False ∧ some k ≠ vG.ownBlock ∧ k < (W.alloc o).heap.size) y cs) 3 gs cells)
    (hown' : W8.ownsRow (w.heap.size + 3) 64 3 (.slice (some ⟨g, 0, none⟩) (gs.length + 1) cap) (gs.length + 1) (cells ++ [.string x.f0, .int .i64 x.f1, .int .i64 x.f2])) (hgrow : (W.alloc o).grownBy W8 vG.ownBlock) (hat : vG.ownBlock = some g ∨ g = (W.alloc o).heap.size) (hx0 : xs = []) (hv0 : vI = .slice none 0 0) :
    OJ w a0 a1 (gs ++ [x]) xs (.slice (some ⟨g, 0, none⟩) (gs.length + 1) cap) vI (W8.setCell ⟨w.heap.size + 2, 0, none⟩ (.slice (some ⟨g, 0, none⟩) (gs.length + 1) cap)) := by
  subst hx0 hv0
  have h3 := lt_heap h.out
  obtain ⟨hfr, hko, hs8⟩ := grow_frame HOWN (.inr (fun k hk => (h.rG.block k hk).2)) hgrow
  have hrow : Row k52 64 (w.heap.size + 3) (fun _ => False) W8 (.slice (some ⟨g, 0, none⟩) (gs.length + 1) cap) (gs ++ [x]) :=
    Row.append (h.rG.alloc o) HOWN HREPS (fun W' _ => ⟨[.string x.f0], [.int .i64 x.f1, .int .i64 x.f2], rfl, rfl, ⟨[.int .i64 x.f1], [.int .i64 x.f2], rfl, rfl, rfl⟩⟩) rfl hown' hgrow (hat.imp id (fun e => Nat.le_of_eq e.symm))
  have hB8 : Below w.heap.size w W8 := (h.bel.alloc h.bel.size o).grown hgrow (by rw [World.size_alloc]; omega) (fun k hk => Nat.le_trans (by omega) (HOWN.lt k hk).1)
  have hk : ∀ k, k ≠ w.heap.size + 2 → ∀ v, (W8.setCell ⟨w.heap.size + 2, 0, none⟩ v).heap[k]? = W8.heap[k]? := fun k hk v => Below.heap_setCell _ _ _ _ hk
  exact ⟨hB8.setCell (p := ⟨w.heap.size + 2, 0, none⟩) (by dsimp only; omega) _, (hk _ (by omega) _).trans ((hfr _ (by omega) (by omega)).trans h.arg), (hk _ (by omega) _).trans ((hfr _ (by omega) (by omega)).trans h.res), heap_set ((hfr _ (by omega) (by omega)).trans h.out) 0 _,
    row_agr hrow (by simp [World.setCell]) (fun k h1 _ => hk k (by omega) _) (fun k f => f.elim), Row.nil _⟩
theorem OJ.snocI {w : World} {a0 a1 : Value} {gs : List S52} {xs : List Ins} {vG vI : Value} {W A W8 : World} (h : OJ w a0 a1 gs xs vG vI W) (hA : Below W.heap.size W A) {x : Ins} {At : Option Addr} {ct : Nat} (htc : x.tb.length ≤ ct)
    (hF : FC kP A (fun k => W.heap.size ≤ k ∧ k < A.heap.size) At x.tb.length x.tb) {cells : List Value} {g cap : Nat}
    (HOWN : (A.alloc (.cells #[.int .i64 x.op, .int .i64 x.a, .int .i64 x.b, .slice At x.tb.length ct] 45)).ownsRow (w.heap.size + 3) 45 4 vI xs.length cells) (HREPS : Reps (fun y cs => FK kI (A.alloc (.cells #[.int .i64 x.op, .int .i64 x.a, .int .i64 x.b, .slice At x.tb.length ct] 45)) (fun k => w.heap.size + 3 ≤ k ∧ some k ≠ vI.ownBlock ∧ k < (A.alloc (.cells #[.int .i64 x.op, .int .i64 x.a, .int .i64 x.b, .slice At x.tb.length ct] 45)).heap.size) y cs) 4 xs cells)
    (hown' : W8.ownsRow (w.heap.size + 3) 45 4 (.slice (some ⟨g, 0, none⟩) (xs.length + 1) cap) (xs.length + 1) (cells ++ [.int .i64 x.op, .int .i64 x.a, .int .i64 x.b, .slice At x.tb.length ct])) (hgrow : (A.alloc (.cells #[.int .i64 x.op, .int .i64 x.a, .int .i64 x.b, .slice At x.tb.length ct] 45)).grownBy W8 vI.ownBlock) (hat : vI.ownBlock = some g ∨ g = (A.alloc (.cells #[.int .i64 x.op, .int .i64 x.a, .int .i64 x.b, .slice At x.tb.length ct] 45)).heap.size) :
    OJ w a0 a1 gs (xs ++ [x]) vG (.slice (some ⟨g, 0, none⟩) (xs.length + 1) cap) (W8.setCell ⟨w.heap.size + 2, 1, none⟩ (.slice (some ⟨g, 0, none⟩) (xs.length + 1) cap)) := by
  have h3 := lt_heap h.out
  have hsA := hA.size
  have hb := h.below hA
  have hblt := h.rI.block
  generalize ho : Obj.cells #[.int .i64 x.op, .int .i64 x.a, .int .i64 x.b, .slice At x.tb.length ct] 45 (0, 0) = o at HOWN HREPS hgrow hat
  obtain ⟨hfr, hko, hs8⟩ := grow_frame HOWN (.inr (fun k hk => (hb.rI.block k hk).2)) hgrow
  have hrow : Row kI 45 (w.heap.size + 3) (fun k => w.heap.size + 3 ≤ k) W8 (.slice (some ⟨g, 0, none⟩) (xs.length + 1) cap) (xs ++ [x]) :=
    Row.append (hb.rI.alloc o) HOWN HREPS (fun W' ha => kI_mk W' x htc (hF W' (fun k hk => by
      refine (ha k ⟨by omega, fun e => ?_, by rw [World.size_alloc]; omega⟩).trans (heap_old A o k hk.2)
      have := (hblt k e.symm).2
      omega))) rfl hown' hgrow (hat.imp id (fun e => Nat.le_of_eq e.symm))
  have hgA := hb.rG.alloc o
  have hrg : Row k52 64 (w.heap.size + 3) (fun _ => False) W8 vG gs := by
    refine hgA.kept hgrow ?_ (fun _ _ f => f)
    cases hv : vG.ownBlock with
    | none => exact .inl rfl
    | some k =>
      refine .inr (fun e => ?_)
      obtain ⟨cs1, ho1, _⟩ := hgA
      obtain ⟨c1, h1⟩ := own_typed ho1 k hv
      obtain ⟨c2, h2⟩ := own_typed HOWN k e.symm
      rw [h1] at h2
      cases h2
  have hB8 : Below w.heap.size w W8 := (hb.bel.alloc hb.bel.size o).grown hgrow (by rw [World.size_alloc]; omega) (fun k hk => Nat.le_trans (by omega) (HOWN.lt k hk).1)
  have hk : ∀ k, k ≠ w.heap.size + 2 → ∀ v, (W8.setCell ⟨w.heap.size + 2, 1, none⟩ v).heap[k]? = W8.heap[k]? := fun k hk v => Below.heap_setCell _ _ _ _ hk
  exact ⟨hB8.setCell (p := ⟨w.heap.size + 2, 1, none⟩) (by dsimp only; omega) _, (hk _ (by omega) _).trans ((hfr _ (by omega) (by omega)).trans hb.arg), (hk _ (by omega) _).trans ((hfr _ (by omega) (by omega)).trans hb.res), heap_set ((hfr _ (by omega) (by omega)).trans hb.out) 1 _,
    row_agr hrg (by simp [World.setCell]) (fun k h1 _ => hk k (by omega) _) (fun k f => f.elim), row_agr hrow (by simp [World.setCell]) (fun k h1 _ => hk k (by omega) _) (fun k f => f)⟩
set_option maxHeartbeats 2000000 in
set_option maxRecDepth 100000 in
theorem ref_calls (gs : List S52) (xs : List Ins) (Ag Ax : Option Addr) (cg cx : Nat) (w : World) (hG : k52.C w Ag gs.length gs) (hX : kI.C w Ax xs.length xs) (hgl : gs.length ≤ 65536) (hxl : xs.length ≤ 65536) (hx : ∀ x ∈ xs, x.tb.length ≤ 1000000) :
    Calls Tryz.prog 10 #[.agg #[.slice Ag gs.length cg, .slice Ax xs.length cx]] w (OwnCR gs xs w) := by
  have HG := Lib.hid hG; have HX := Lib.hid hX; have HXS := Lib.hid hx
  clear hG hX hx
  go_enter Tryz.func10, Tryz.ntmps10
  go_upto_region 2 with (fail)
  generalize hwl : World.alloc (World.alloc (World.alloc _ _) _) _ = wl
  obtain ⟨hsz, b0, b1, b2, hbel⟩ := three hwl
  clear hwl
  have hI0 : OJ w (.slice Ag gs.length cg) (.slice Ax xs.length cx) [] [] (.slice none 0 0) (.slice none 0 0) wl := ⟨hbel, b0, b1, b2, Row.nil _, Row.nil _⟩
  clear b0 b1 b2 hbel hsz
  have HI0 := Lib.hid hI0
  clear hI0
  go_wp2_with fail
  go_loopg [4] (gs.length + 1) (fun gg s4 wr => ∃ (kk : Nat) (vG : Value), kk ≤ gs.length ∧ gs.length - kk < gg ∧ s4 = .int .i64 kk ∧ Hid (OJ w (.slice Ag gs.length cg) (.slice Ax xs.length cx) (gs.take kk) [] vG (.slice none 0 0) wr))
  case atStart => exact ⟨0, _, Nat.zero_le _, by omega, rfl, HI0⟩
  case round =>
    obtain ⟨kk, vG, hkk, hgg, rfl, HI⟩ := hrel
    rcases gk with _ | gf
    · omega
    have a0 := cell_in HI.out.arg 0
    have a1 := cell_in HI.out.arg 1
    by_cases hlt : kk < gs.length
    · have hltz : (kk : Int) < (gs.length : Int) := by omega
      have hkz : (0 : Int) ≤ (kk : Int) := by omega
      obtain ⟨ad, rfl, q0, q1, q2⟩ := at_G (Kd.C_below HG.out HI.out.bel) kk hlt
      have htk : gs.take (kk + 1) = gs.take kk ++ [gs.getD kk z52] := by rw [List.take_succ_eq_append_getElem hlt, List.getD_eq_getElem?_getD, List.getElem?_eq_getElem hlt]; rfl
      have HTK := Lib.hid htk
      clear htk
      generalize gs.getD kk z52 = y at q0 q1 q2 HTK
      go_upto_region 6 with (fail)
      have HI1 := Lib.hid (HI.out.below ((Below.refl _ wr).alloc (Nat.le_refl _) (.cells #[.string y.f0, .int .i64 y.f1, .int .i64 y.f2] 52)))
      have hy := heap_new wr (.cells #[.string y.f0, .int .i64 y.f1, .int .i64 y.f2] 52)
      have hlw := lt_heap HI.out.out
      clear HI a0 a1 q0 q1 q2
      have hqs : (wr.alloc (.cells #[.string y.f0, .int .i64 y.f1, .int .i64 y.f2] 52)).heap.size = wr.heap.size + 1 := World.size_alloc _ _
      generalize wr.alloc (.cells #[.string y.f0, .int .i64 y.f1, .int .i64 y.f2] 52) = w1 at HI1 hy hqs ⊢
      have hle1 : w.heap.size + 3 ≤ w1.heap.size := by omega
      clear hqs hlw
      generalize wr.heap.size = q at hy ⊢
      have HY := Lib.hid hy
      clear hy
      have y0 := cell_in HY.out 0
      have y1 := cell_in HY.out 1
      have y2 := cell_in HY.out 2
      have d0 : w1.cell? ⟨w.heap.size + 1 + 1, 0, none⟩ = some vG := cell_in HI1.out.out 0
      obtain ⟨Ao, co, rfl, hco, _⟩ := HI1.out.rG.reads
      obtain ⟨cells, hown, hreps⟩ := HI1.out.rG.alloc (.cells #[.string y.f0, .int .i64 y.f1, .int .i64 y.f2] 64)
      have hln : (gs.take kk).length = kk := by rw [List.length_take]; omega
      have HOWN := Lib.hid hown
      have HREPS := Lib.hid hreps
      clear hown hreps
      rw [hln] at d0
      obtain ⟨i0, hi0, hz0, hz1, hz2⟩ := info_parts info64
      have HM1 := Lib.hid (show kk + 1 ≤ maxLen by unfold maxLen; omega)
      have HM2 := Lib.hid (show (kk + 1) * 32 ≤ 140737488355328 by omega)
      have HM3 := Lib.hid (show w.heap.size + 3 ≤ (w1.alloc (.cells #[.string y.f0, .int .i64 y.f1, .int .i64 y.f2] 64)).heap.size by rw [World.size_alloc]; omega)
      have HLN := Lib.hid hln
      have HOWN0 := HOWN
      rw [hln] at HOWN
      go_wp2_with (at_builtin; refine wpList_append_lies _ rfl _ _ 29 rfl (w.heap.size + 3) 64 i0 _ 3 32 Tryz.underlying29 hi0 hz0 hz1 hz2 rfl (by decide) (.slice Ao kk co) kk cells rfl HOWN.out ⟨w1.heap.size, 0, none⟩ 1 1 [.string y.f0, .int .i64 y.f1, .int .i64 y.f2] rfl rfl (cells_of w1 _ _) (by intro u' hu; simp at hu; rcases hu with rfl | rfl | rfl <;> rfl) (by decide) HM1.out HM2.out HM3.out _ rfl ?_)
      intro g cap w8 hown' hgrow hat hgl
      have hfr := (grow_frame HOWN0.out (.inr fun k hk => (HI1.out.rG.block k hk).2) (by rw [hln]; exact hgrow)).1
      have hc8 : w8.heap[w.heap.size + 1 + 1]? = _ := (hfr (w.heap.size + 2) (by omega) (by omega)).trans HI1.out.out
      have hfin := HI1.out.snocG (x := y) (g := g) (cap := cap) HOWN0.out HREPS.out (by rw [hln]; exact hown') (by rw [hln]; exact hgrow) (by rw [hln, World.size_alloc]; exact hat) rfl rfl
      rw [hln, ← HTK.out] at hfin
      have HFIN := Lib.hid hfin
      clear hfr hfin hown' hgrow hat hgl HOWN HOWN0 HREPS y0 y1 y2 d0
      have d0 := cell_in hc8 0
      have f0 := blk_frozen hc8 0
      clear hc8
      go_wp2_with fail
      go_roundg gf
      case measure => omega
      case rel => exact ⟨kk + 1, _, by omega, by omega, by go_num, HFIN⟩
    · have hltz : ¬ (kk : Int) < (gs.length : Int) := by omega
      obtain rfl : kk = gs.length := by omega
      rw [List.take_length] at HI
      go_wp2_with fail
      go_loopg [6] (xs.length + 1) (fun gg s6 wr => ∃ (kx : Nat) (vI : Value), kx ≤ xs.length ∧ xs.length - kx < gg ∧ s6 = .int .i64 kx ∧ Hid (OJ w (.slice Ag gs.length cg) (.slice Ax xs.length cx) gs (xs.take kx) vG vI wr))
      case atStart => exact ⟨0, _, Nat.zero_le _, by omega, rfl, HI⟩
      case round =>
        clear HI a0 a1
        obtain ⟨kx, vI, hkx, hgx, rfl, HI⟩ := hrel
        rcases gk with _ | gf
        · omega
        have a0 := cell_in HI.out.arg 0
        have a1 := cell_in HI.out.arg 1
        by_cases hlt : kx < xs.length
        · have hltz : (kx : Int) < (xs.length : Int) := by omega
          have hkz : (0 : Int) ≤ (kx : Int) := by omega
          obtain ⟨ad, A3, c3, rfl, q0, q1, q2, q3, l3, g3⟩ := at_I (Kd.C_below HX.out HI.out.bel) kx hlt
          have htk : xs.take (kx + 1) = xs.take kx ++ [xs.getD kx zI] := by rw [List.take_succ_eq_append_getElem hlt, List.getD_eq_getElem?_getD, List.getElem?_eq_getElem hlt]; rfl
          have HTK := Lib.hid htk
          have HTB := Lib.hid (HXS.out _ (getD_mem xs zI kx hlt))
          clear htk
          generalize xs.getD kx zI = y at q0 q1 q2 q3 l3 g3 HTK HTB
          go_upto_region 11 with (fail)
          obtain ⟨Ao, co, rfl, hco, _⟩ := HI.out.rI.reads
          have hln : (xs.take kx).length = kx := by rw [List.length_take]; omega
          have HI1 := Lib.hid (HI.out.below ((Below.refl _ wr).alloc (Nat.le_refl _) (.cells #[.int .i64 y.op, .int .i64 y.a, .int .i64 y.b, .slice A3 y.tb.length c3] 46)))
          have hq := heap_new wr (.cells #[.int .i64 y.op, .int .i64 y.a, .int .i64 y.b, .slice A3 y.tb.length c3] 46)
          have HC1 := Lib.hid (Kd.C_below g3 ((Below.refl _ wr).alloc (Nat.le_refl _) (.cells #[.int .i64 y.op, .int .i64 y.a, .int .i64 y.b, .slice A3 y.tb.length c3] 46)))
          clear HI a0 a1 q0 q1 q2 q3 g3
          generalize wr.alloc (.cells #[.int .i64 y.op, .int .i64 y.a, .int .i64 y.b, .slice A3 y.tb.length c3] 46) = w1 at HI1 hq HC1 ⊢
          generalize wr.heap.size = q at hq ⊢
          have HQ := Lib.hid hq
          clear hq
          obtain ⟨i0, hi0, hz0, hz1, hz2⟩ := info_parts info45
          have HM1 := Lib.hid (show kx + 1 ≤ maxLen by unfold maxLen; omega)
          have HM2 := Lib.hid (show (kx + 1) * 48 ≤ 140737488355328 by omega)
          have HLN := Lib.hid hln
          have HLW := Lib.hid (lt_heap HI1.out.out)
          have hafter : ∀ w9, Below w1.heap.size w1 w9 → ∀ A9 c9, y.tb.length ≤ c9 → FC kP w9 (fun k => w1.heap.size ≤ k ∧ k < w9.heap.size) A9 y.tb.length y.tb → ∃ cells, Hid ((w9.alloc (.cells #[.int .i64 y.op, .int .i64 y.a, .int .i64 y.b, .slice A9 y.tb.length c9] 45)).ownsRow (w.heap.size + 3) 45 4 (.slice Ao kx co) kx cells) ∧ Hid (w.heap.size + 3 ≤ (w9.alloc (.cells #[.int .i64 y.op, .int .i64 y.a, .int .i64 y.b, .slice A9 y.tb.length c9] 45)).heap.size) ∧
              ∀ g cap w8, w8.ownsRow (w.heap.size + 3) 45 4 (.slice (some ⟨g, 0, none⟩) (kx + 1) cap) (kx + 1) (cells ++ [.int .i64 y.op, .int .i64 y.a, .int .i64 y.b, .slice A9 y.tb.length c9]) → (w9.alloc (.cells #[.int .i64 y.op, .int .i64 y.a, .int .i64 y.b, .slice A9 y.tb.length c9] 45)).grownBy w8 (Value.slice Ao kx co).ownBlock → ((Value.slice Ao kx co).ownBlock = some g ∨ g = (w9.alloc (.cells #[.int .i64 y.op, .int .i64 y.a, .int .i64 y.b, .slice A9 y.tb.length c9] 45)).heap.size) →
                w8.heap[q]? = some (.cells #[.int .i64 y.op, .int .i64 y.a, .int .i64 y.b, .slice A3 y.tb.length c3] 46 (0, 0)) ∧ w8.cell? ⟨w.heap.size + 1 + 1, 1, none⟩ = some (.slice Ao kx co) ∧ w8.frozen? ⟨w.heap.size + 1 + 1, 1, none⟩ = false ∧ Hid (OJ w (.slice Ag gs.length cg) (.slice (some ad) xs.length cx) gs (xs.take (kx + 1)) vG (.slice (some ⟨g, 0, none⟩) (kx + 1) cap) (w8.setCell ⟨w.heap.size + 1 + 1, 1, none⟩ (.slice (some ⟨g, 0, none⟩) (kx + 1) cap))) := by
            intro w9 hb9 A9 c9 hc9 hF9
            have hI9 := HI1.out.below hb9
            have hs9 := hb9.size
            have hlw := HLW.out
            obtain ⟨cells, hown, hreps⟩ := hI9.rI.alloc (.cells #[.int .i64 y.op, .int .i64 y.a, .int .i64 y.b, .slice A9 y.tb.length c9] 45)
            refine ⟨cells, Lib.hid (by rw [HLN.out] at hown; exact hown), Lib.hid (by rw [World.size_alloc]; omega), fun g cap w8 hown' hgrow hat => ?_⟩
            have hfr := (grow_frame hown (.inr fun k hk => (hI9.rI.block k hk).2) (by rw [HLN.out]; exact hgrow)).1
            have hc8 : w8.heap[w.heap.size + 1 + 1]? = _ := (hfr (w.heap.size + 2) (by omega) (by omega)).trans hI9.out
            have hfin := HI1.out.snocI hb9 hc9 hF9 (g := g) (cap := cap) hown hreps (by rw [HLN.out]; exact hown') (by rw [HLN.out]; exact hgrow) (by rw [HLN.out]; exact hat)
            rw [HLN.out, ← HTK.out] at hfin
            have hq9 := (hb9.block q (lt_heap HQ.out)).trans HQ.out
            have hqa := (heap_old w9 (.cells #[.int .i64 y.op, .int .i64 y.a, .int .i64 y.b, .slice A9 y.tb.length c9] 45) q (lt_heap hq9)).trans hq9
            have hq8 := (hgrow.block q (lt_heap hqa) (own_ne (by rw [HLN.out] at hown; exact hown) hqa (by decide))).trans hqa
            refine ⟨hq8, ?_, blk_frozen hc8 1, Lib.hid hfin⟩
            have hcv := cell_in hc8 1
            rw [HLN.out] at hcv
            exact hcv
          have HAFTER := Lib.hid hafter
          have hcell9 : ∀ w9, Below w1.heap.size w1 w9 → (w9.cell? ⟨q, 0, none⟩ = some (.int .i64 y.op) ∧ w9.cell? ⟨q, 1, none⟩ = some (.int .i64 y.a) ∧ w9.cell? ⟨q, 2, none⟩ = some (.int .i64 y.b) ∧ w9.cell? ⟨q, 3, none⟩ = some (.slice A3 y.tb.length c3)) ∧ w9.cell? ⟨w.heap.size + 1 + 1, 1, none⟩ = some (.slice Ao kx co) := fun w9 hb9 => by
            have hq9 := (hb9.block q (lt_heap HQ.out)).trans HQ.out
            have hcv : w9.cell? ⟨w.heap.size + 1 + 1, 1, none⟩ = _ := cell_in (HI1.out.below hb9).out 1
            rw [HLN.out] at hcv
            exact ⟨⟨cell_in hq9 0, cell_in hq9 1, cell_in hq9 2, cell_in hq9 3⟩, hcv⟩
          have HCELL9 := Lib.hid hcell9
          clear hafter hcell9 hln HLW
          obtain ⟨⟨x0, x1, x2, x3⟩, x4⟩ := HCELL9.out w1 (Below.refl _ _)
          refine start_ (n := 17) (S := fun w' => w'.cell? ⟨q, 0, none⟩ = some (.int .i64 y.op) ∧ w'.cell? ⟨q, 1, none⟩ = some (.int .i64 y.a) ∧ w'.cell? ⟨q, 2, none⟩ = some (.int .i64 y.b) ∧ w'.cell? ⟨q, 3, none⟩ = some (.slice A3 y.tb.length c3) ∧ w'.cell? ⟨w.heap.size + 1 + 1, 1, none⟩ = some (.slice Ao kx co)) (ds := [16]) #[false, false, false, false, false, false, false, false, false, false, false, false, false, false, false, false, false] (by kernel_rfl) rfl rfl ⟨x0, x1, x2, x3, x4⟩ (fun hHeld => ?_)
          refine pure_ (i := 0) (N := some 44) (v := ?_) (a' := ?_) #[true, false, false, false, false, false, false, false, false, false, false, false, false, false, false, false, false] rfl rfl (by kernel_rfl) (fun _ _ _ h => h) (Or.inl ⟨by rfl, ?_⟩) ?_ ?_
          rotate_left
          · intro w'
            go_simp
            with_reducible rfl
          rotate_left
          · simp only [Act.put, List.setIfInBounds_toArray, List.set_cons_zero, List.set_cons_succ, i64_w, i32_w]
            rfl
          refine pure_ (i := 2) (N := some 46) (v := ?_) (a' := ?_) #[true, false, true, false, false, false, false, false, false, false, false, false, false, false, false, false, false] rfl rfl (by kernel_rfl) (fun _ _ _ h => h) (Or.inl ⟨by rfl, ?_⟩) ?_ ?_
          rotate_left
          · intro w'
            go_simp
            with_reducible rfl
          rotate_left
          · simp only [Act.put, List.setIfInBounds_toArray, List.set_cons_zero, List.set_cons_succ, i64_w, i32_w]
            rfl
          refine pure_ (i := 4) (N := some 48) (v := ?_) (a' := ?_) #[true, false, true, false, true, false, false, false, false, false, false, false, false, false, false, false, false] rfl rfl (by kernel_rfl) (fun _ _ _ h => h) (Or.inl ⟨by rfl, ?_⟩) ?_ ?_
          rotate_left
          · intro w'
            go_simp
            with_reducible rfl
          rotate_left
          · simp only [Act.put, List.setIfInBounds_toArray, List.set_cons_zero, List.set_cons_succ, i64_w, i32_w]
            rfl
          refine pure_ (i := 6) (N := some 50) (v := ?_) (a' := ?_) #[true, false, true, false, true, false, true, false, false, false, false, false, false, false, false, false, false] rfl rfl (by kernel_rfl) (fun _ _ _ h => h) (Or.inl ⟨by rfl, ?_⟩) ?_ ?_
          rotate_left
          · intro w'
            go_simp
            with_reducible rfl
          rotate_left
          · simp only [Act.put, List.setIfInBounds_toArray, List.set_cons_zero, List.set_cons_succ, i64_w, i32_w]
            rfl
          refine pure_ (i := 9) (N := some 53) (v := ?_) (a' := ?_) #[true, false, true, false, true, false, true, false, false, true, false, false, false, false, false, false, false] rfl rfl (by kernel_rfl) (fun _ _ _ h => h) (Or.inl ⟨by rfl, ?_⟩) ?_ ?_
          rotate_left
          · intro w'
            go_simp
            with_reducible rfl
          rotate_left
          · simp only [Act.put, List.setIfInBounds_toArray, List.set_cons_zero, List.set_cons_succ, i64_w, i32_w]
            rfl
          refine take_ (i := 1) (N := some 45) (v := ?_) (a' := ?_) #[true, true, true, false, true, false, true, false, false, true, false, false, false, false, false, false, false] rfl rfl (by kernel_rfl) (fun _ _ _ h => h) (Or.inl ⟨by rfl, ?_⟩) hHeld ?_ ?_
          rotate_left
          · rintro w' ⟨s0, s1, s2, s3, s4⟩
            go_simp
            with_reducible rfl
          rotate_left
          · simp only [Act.put, List.setIfInBounds_toArray, List.set_cons_zero, List.set_cons_succ, i64_w, i32_w]
            rfl
          refine take_ (i := 3) (N := some 47) (v := ?_) (a' := ?_) #[true, true, true, true, true, false, true, false, false, true, false, false, false, false, false, false, false] rfl rfl (by kernel_rfl) (fun _ _ _ h => h) (Or.inl ⟨by rfl, ?_⟩) hHeld ?_ ?_
          rotate_left
          · rintro w' ⟨s0, s1, s2, s3, s4⟩
            go_simp
            with_reducible rfl
          rotate_left
          · simp only [Act.put, List.setIfInBounds_toArray, List.set_cons_zero, List.set_cons_succ, i64_w, i32_w]
            rfl
          refine take_ (i := 5) (N := some 49) (v := ?_) (a' := ?_) #[true, true, true, true, true, true, true, false, false, true, false, false, false, false, false, false, false] rfl rfl (by kernel_rfl) (fun _ _ _ h => h) (Or.inl ⟨by rfl, ?_⟩) hHeld ?_ ?_
          rotate_left
          · rintro w' ⟨s0, s1, s2, s3, s4⟩
            go_simp
            with_reducible rfl
          rotate_left
          · simp only [Act.put, List.setIfInBounds_toArray, List.set_cons_zero, List.set_cons_succ, i64_w, i32_w]
            rfl
          refine take_ (i := 7) (N := some 51) (v := ?_) (a' := ?_) #[true, true, true, true, true, true, true, true, false, true, false, false, false, false, false, false, false] rfl rfl (by kernel_rfl) (fun _ _ _ h => h) (Or.inl ⟨by rfl, ?_⟩) hHeld ?_ ?_
          rotate_left
          · rintro w' ⟨s0, s1, s2, s3, s4⟩
            go_simp
            with_reducible rfl
          rotate_left
          · simp only [Act.put, List.setIfInBounds_toArray, List.set_cons_zero, List.set_cons_succ, i64_w, i32_w]
            rfl
          refine take_ (i := 10) (N := some 54) (v := ?_) (a' := ?_) #[true, true, true, true, true, true, true, true, false, true, true, false, false, false, false, false, false] rfl rfl (by kernel_rfl) (fun _ _ _ h => h) (Or.inl ⟨by rfl, ?_⟩) hHeld ?_ ?_
          rotate_left
          · rintro w' ⟨s0, s1, s2, s3, s4⟩
            go_simp
            with_reducible rfl
          rotate_left
          · simp only [Act.put, List.setIfInBounds_toArray, List.set_cons_zero, List.set_cons_succ, i64_w, i32_w]
            rfl
          refine one_ (i := 8) (N := some 52) #[true, true, true, true, true, true, true, true, true, true, true, false, false, false, false, false, false] rfl rfl (by kernel_rfl) (by decide) (fun K hK => ?_)
          refine value_ (w1 := ?_) (v := ?_) (by rfl) rfl ?_ ?_
          rotate_left 2
          · go_simp
            constructor
            · rfl
            · rfl
          refine hK.out _ _ ⟨(HCELL9.out _ (((Below.refl _ w1).drew).alloc (Nat.le_refl _) (.cells #[] 90))).1.1, (HCELL9.out _ (((Below.refl _ w1).drew).alloc (Nat.le_refl _) (.cells #[] 90))).1.2.1, (HCELL9.out _ (((Below.refl _ w1).drew).alloc (Nat.le_refl _) (.cells #[] 90))).1.2.2.1, (HCELL9.out _ (((Below.refl _ w1).drew).alloc (Nat.le_refl _) (.cells #[] 90))).1.2.2.2, (HCELL9.out _ (((Below.refl _ w1).drew).alloc (Nat.le_refl _) (.cells #[] 90))).2⟩ (fun hHeld => ?_)
          clear hK K
          refine norm_ (a' := ?_) ?_ ?_
          rotate_left
          · show Act.put _ (some 52) _ = _
            simp only [Act.put, List.setIfInBounds_toArray, List.set_cons_zero, List.set_cons_succ, i64_w, i32_w]
            rfl
          refine one_ (i := 11) (N := some 55) #[true, true, true, true, true, true, true, true, true, true, true, true, false, false, false, false, false] rfl rfl (by kernel_rfl) (by decide) (fun K hK => ?_)
          have hqe := heap_new w1.drew (.cells #[] 90)
          have hBa := ((Below.refl _ w1).drew).alloc (Nat.le_refl _) (.cells #[] 90)
          refine step_all (w0 := w1) w1.heap.size (by rfl) (.tmp 52) (.tmp 54) rfl _ rfl ⟨rfl, .inr ⟨w1.heap.size, 0, #[], rfl, Nat.le_refl _, hqe, Nat.le_refl _, by decide, rfl, rfl⟩⟩ (by simp [World.drew]) A3 c3 y.tb rfl HC1.out hBa HTB.out ?_
          intro v2 w2 hrow hgr
          have hB2 := hBa.grown hgr hBa.size (fun k hk => by cases hk; exact Nat.le_refl _)
          obtain ⟨A2, c2, rfl, hc2, hf2⟩ := hrow.reads
          obtain ⟨cells, HOWN, HM3, hfins⟩ := HAFTER.out w2 hB2 A2 c2 hc2 (hf2.mono (fun k hk => ⟨hk.1.resolve_left (fun f => f), hk.2⟩))
          have HFINS := Lib.hid hfins
          have HB2 := Lib.hid hB2
          clear hf2 hrow hgr hqe hBa hfins hB2
          refine hK.out _ _ ⟨(HCELL9.out w2 HB2.out).1.1, (HCELL9.out w2 HB2.out).1.2.1, (HCELL9.out w2 HB2.out).1.2.2.1, (HCELL9.out w2 HB2.out).1.2.2.2, (HCELL9.out w2 HB2.out).2⟩ (fun hHeld => ?_)
          clear hK K
          refine norm_ (a' := ?_) ?_ ?_
          rotate_left
          · show Act.put _ (some 55) _ = _
            simp only [Act.put, List.setIfInBounds_toArray, List.set_cons_zero, List.set_cons_succ, i64_w, i32_w]
            rfl
          refine pure_ (i := 12) (N := some 56) (v := ?_) (a' := ?_) #[true, true, true, true, true, true, true, true, true, true, true, true, true, false, false, false, false] rfl rfl (by kernel_rfl) (fun _ _ _ h => h) (Or.inl ⟨by rfl, ?_⟩) ?_ ?_
          rotate_left
          · intro w'
            go_simp
            with_reducible rfl
          rotate_left
          · simp only [Act.put, List.setIfInBounds_toArray, List.set_cons_zero, List.set_cons_succ, i64_w, i32_w]
            rfl
          refine one_ (i := 13) (N := some 57) #[true, true, true, true, true, true, true, true, true, true, true, true, true, true, false, false, false] rfl rfl (by kernel_rfl) (by decide) (fun K hK => ?_)
          refine value_ (w1 := ?_) (v := ?_) (by rfl) rfl ?_ ?_
          rotate_left 2
          · go_simp
            constructor
            · rfl
            · rfl
          refine hK.out _ _ ⟨(HCELL9.out _ (HB2.out.alloc HB2.out.size (.cells #[.int .i64 y.op, .int .i64 y.a, .int .i64 y.b, .slice A2 y.tb.length c2] 45))).1.1, (HCELL9.out _ (HB2.out.alloc HB2.out.size (.cells #[.int .i64 y.op, .int .i64 y.a, .int .i64 y.b, .slice A2 y.tb.length c2] 45))).1.2.1, (HCELL9.out _ (HB2.out.alloc HB2.out.size (.cells #[.int .i64 y.op, .int .i64 y.a, .int .i64 y.b, .slice A2 y.tb.length c2] 45))).1.2.2.1, (HCELL9.out _ (HB2.out.alloc HB2.out.size (.cells #[.int .i64 y.op, .int .i64 y.a, .int .i64 y.b, .slice A2 y.tb.length c2] 45))).1.2.2.2, (HCELL9.out _ (HB2.out.alloc HB2.out.size (.cells #[.int .i64 y.op, .int .i64 y.a, .int .i64 y.b, .slice A2 y.tb.length c2] 45))).2⟩ (fun hHeld => ?_)
          clear hK K
          refine norm_ (a' := ?_) ?_ ?_
          rotate_left
          · show Act.put _ (some 57) _ = _
            simp only [Act.put, List.setIfInBounds_toArray, List.set_cons_zero, List.set_cons_succ, i64_w, i32_w]
            rfl
          refine one_ (i := 14) (N := some 58) #[true, true, true, true, true, true, true, true, true, true, true, true, true, true, true, false, false] rfl rfl (by kernel_rfl) (by decide) (fun K hK => ?_)
          refine step_append_lies _ rfl (.tmp 45) (.tmp 57) 30 rfl (w.heap.size + 3) 45 i0 _ 4 48 Tryz.underlying30 hi0 hz0 hz1 hz2 rfl (by decide) (.slice Ao kx co) kx cells rfl HOWN.out ⟨w2.heap.size, 0, none⟩ 1 1 [.int .i64 y.op, .int .i64 y.a, .int .i64 y.b, .slice A2 y.tb.length c2] rfl rfl (cells_of w2 _ _) (by intro u' hu; simp at hu; rcases hu with rfl | rfl | rfl | rfl <;> rfl) (by decide) HM1.out HM2.out HM3.out _ rfl ?_
          intro g cap w8 hown' hgrow hat hgl
          obtain ⟨hq8, z8, f8, HFIN⟩ := HFINS.out g cap w8 hown' hgrow hat
          clear hown' hgrow hat hgl HFINS HOWN
          refine hK.out _ _ ⟨cell_in hq8 0, cell_in hq8 1, cell_in hq8 2, cell_in hq8 3, z8⟩ (fun hHeld => ?_)
          clear hK K
          refine norm_ (a' := ?_) ?_ ?_
          rotate_left
          · show Act.put _ (some 58) _ = _
            simp only [Act.put, List.setIfInBounds_toArray, List.set_cons_zero, List.set_cons_succ, i64_w, i32_w]
            rfl
          refine pure_ (i := 15) (N := some 59) (v := ?_) (a' := ?_) #[true, true, true, true, true, true, true, true, true, true, true, true, true, true, true, true, false] rfl rfl (by kernel_rfl) (fun _ _ _ h => h) (Or.inl ⟨by rfl, ?_⟩) ?_ ?_
          rotate_left
          · intro w'
            go_simp
            with_reducible rfl
          rotate_left
          · simp only [Act.put, List.setIfInBounds_toArray, List.set_cons_zero, List.set_cons_succ, i64_w, i32_w]
            rfl
          refine last_ (i := 16) (N := none) #[true, true, true, true, true, true, true, true, true, true, true, true, true, true, true, true, true] rfl rfl (by kernel_rfl) (by decide) (fun K hK => ?_)
          refine skip_ (w1 := ?_) (by rfl) rfl ?_ ?_
          rotate_left
          · go_simp
            rfl
          refine hK.out _ _ ?_
          clear hK K
          refine done_ (by kernel_rfl) ?_
          clear hHeld x0 x1 x2 x3 x4
          go_wp2_with fail
          go_roundg gf
          case measure => omega
          case rel => exact ⟨kx + 1, _, by omega, by omega, by go_num, HFIN⟩
        · have hltz : ¬ (kx : Int) < (xs.length : Int) := by omega
          obtain rfl : kx = xs.length := by omega
          rw [List.take_length] at HI
          obtain ⟨Ao, co, hvG, hco, hFG⟩ := HI.out.rG.reads
          obtain ⟨Ai, ci, hvI, hci, hFI⟩ := HI.out.rI.reads
          subst hvG hvI
          have d0 : wr.cell? ⟨w.heap.size + 1 + 1, 0, none⟩ = _ := cell_in HI.out.out 0
          have d1 : wr.cell? ⟨w.heap.size + 1 + 1, 1, none⟩ = _ := cell_in HI.out.out 1
          have r0 := cell_in HI.out.res 0
          have r1 := cell_in HI.out.res 1
          have f0 := blk_frozen HI.out.res 0
          have f1 := blk_frozen HI.out.res 1
          have HB := Lib.hid (HI.out.bel)
          have HRS := Lib.hid (heap_set (heap_set HI.out.res 0 (.slice Ao gs.length co)) 1 (.slice Ai xs.length ci))
          have hlw := lt_heap HI.out.out
          have HFG := Lib.hid hFG; have HFI := Lib.hid hFI
          clear HI hFG hFI
          go_wp2_with fail
          have hB2 := (HB.out.setCell (p := ⟨w.heap.size + 1, 0, none⟩) (by dsimp only; omega) (.slice Ao gs.length co)).setCell (p := ⟨w.heap.size + 1, 1, none⟩) (by dsimp only; omega) (.slice Ai xs.length ci)
          have hk : ∀ k, w.heap.size + 3 ≤ k → ((wr.setCell ⟨w.heap.size + 1, 0, none⟩ (.slice Ao gs.length co)).setCell ⟨w.heap.size + 1, 1, none⟩ (.slice Ai xs.length ci)).heap[k]? = wr.heap[k]? := fun k hk => (Below.heap_setCell _ _ _ _ (by dsimp only; omega)).trans (Below.heap_setCell _ _ _ _ (by dsimp only; omega))
          have hCG := HFG.out _ (fun k hh => hk k (hh.1.elim (fun f => f.elim) id))
          have hCI := HFI.out _ (fun k hh => hk k (hh.1.elim id id))
          have hRS := HRS.out
          generalize (wr.setCell ⟨w.heap.size + 1, 0, none⟩ (.slice Ao gs.length co)).setCell ⟨w.heap.size + 1, 1, none⟩ (.slice Ai xs.length ci) = WF at hB2 hCG hCI hRS ⊢
          have q0 := cell_in hRS 0
          have q1 := cell_in hRS 1
          refine ⟨rfl, .agg #[.slice Ao gs.length co, .slice Ai xs.length ci], ?_, ⟨Ao, co, Ai, ci, rfl, hco, hci, hCG, hCI, hB2⟩⟩
          simp [results, Tryz.f10, go_sem, q0, q1]
end Go.Proofs.YtcmhibcoccdmaaaGreatDoor.P
