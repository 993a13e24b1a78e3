/- A code of the reference's as one of the program's. -/
import Derived.Test.YtcmhibcoccdmaaaGreatDoorInU
import Derived.Deep.AppendLies
import Derived.Deep.RegionLaw
namespace Go.Proofs.YtcmhibcoccdmaaaGreatDoor.P
open Go.RowKit Go.Shelf Go.Proofs.YtcmhibcoccdmaaaGreatDoorW.PrintWords Go.Proofs.YtcmhibcoccdmaaaGreatDoorW.PrintLast Go.Proofs.YtcmhibcoccdmaaaGreatDoor.Rw
set_option linter.unusedVariables false
set_option linter.unusedSimpArgs false
/-- What stands while the parts are gone through: the code so far. -/
structure OI (w : World) (a0 a1 : Value) (gs : List S52) (xs : List Ins) (vG vI : Value) (W : World) : Prop where
  bel : Below w.heap.size w W
  arg : W.heap[w.heap.size]? = some (.cells #[a0, a1] 32 (0, 0))
  res : W.heap[w.heap.size + 1]? = some (.cells #[.slice none 0 0, .slice none 0 0] 26 (0, 0))
  out : W.heap[w.heap.size + 2]? = some (.cells #[vG, vI] 26 (0, 0))
  rG : Row k52 52 (w.heap.size + 3) (fun _ => False) W vG gs
  rI : Row kI 46 (w.heap.size + 3) (fun k => w.heap.size + 3 ≤ k) W vI xs
theorem OI.below {w : World} {a0 a1 : Value} {gs : List S52} {xs : List Ins} {vG vI : Value} {W W' : World} (h : OI w a0 a1 gs xs vG vI W) (hb : Below W.heap.size W W') : OI w a0 a1 gs xs vG vI W' := by
  have h3 := lt_heap h.out
  exact ⟨bel2 h.bel hb, (hb.block _ (by omega)).trans h.arg, (hb.block _ (by omega)).trans h.res, (hb.block _ (by omega)).trans h.out, h.rG.below hb, h.rI.below hb⟩
theorem OI.snocG {w : World} {a0 a1 : Value} {gs : List S52} {xs : List Ins} {vG vI : Value} {W W8 : World} {o : Obj} (h : OI w a0 a1 gs xs vG vI W) {x : S52} {cells : List Value} {g cap : Nat}
    (HOWN : (W.alloc o).ownsRow (w.heap.size + 3) 52 3 vG gs.length cells) (HREPS : Reps (fun y cs => FK k52 (W.alloc o) (fun k => False ∧ some k ≠ vG.ownBlock ∧ k < (W.alloc o).heap.size) y cs) 3 gs cells)
    (hown' : W8.ownsRow (w.heap.size + 3) 52 3 (.slice (some ⟨g, 0, none⟩) (gs.length + 1) cap) (gs.length + 1) (cells ++ [.string x.f0, .int .i64 x.f1, .int .i64 x.f2])) (hgrow : (W.alloc o).grownBy W8 vG.ownBlock) (hat : vG.ownBlock = some g ∨ g = (W.alloc o).heap.size) (hx0 : xs = []) (hv0 : vI = .slice none 0 0) :
    OI w a0 a1 (gs ++ [x]) xs (.slice (some ⟨g, 0, none⟩) (gs.length + 1) cap) vI (W8.setCell ⟨w.heap.size + 2, 0, none⟩ (.slice (some ⟨g, 0, none⟩) (gs.length + 1) cap)) := by
  subst hx0 hv0
  have h3 := lt_heap h.out
  obtain ⟨hfr, hko, hs8⟩ := grow_frame HOWN (.inr (fun k hk => (h.rG.block k hk).2)) hgrow
  have hrow : Row k52 52 (w.heap.size + 3) (fun _ => False) W8 (.slice (some ⟨g, 0, none⟩) (gs.length + 1) cap) (gs ++ [x]) :=
    Row.append (h.rG.alloc o) HOWN HREPS (fun W' _ => ⟨[.string x.f0], [.int .i64 x.f1, .int .i64 x.f2], rfl, rfl, ⟨[.int .i64 x.f1], [.int .i64 x.f2], rfl, rfl, rfl⟩⟩) rfl hown' hgrow (hat.imp id (fun e => Nat.le_of_eq e.symm))
  have hB8 : Below w.heap.size w W8 := (h.bel.alloc h.bel.size o).grown hgrow (by rw [World.size_alloc]; omega) (fun k hk => Nat.le_trans (by omega) (HOWN.lt k hk).1)
  have hk : ∀ k, k ≠ w.heap.size + 2 → ∀ v, (W8.setCell ⟨w.heap.size + 2, 0, none⟩ v).heap[k]? = W8.heap[k]? := fun k hk v => Below.heap_setCell _ _ _ _ hk
  exact ⟨hB8.setCell (p := ⟨w.heap.size + 2, 0, none⟩) (by dsimp only; omega) _, (hk _ (by omega) _).trans ((hfr _ (by omega) (by omega)).trans h.arg), (hk _ (by omega) _).trans ((hfr _ (by omega) (by omega)).trans h.res), heap_set ((hfr _ (by omega) (by omega)).trans h.out) 0 _,
    row_agr hrow (by simp [World.setCell]) (fun k h1 _ => hk k (by omega) _) (fun k f => f.elim), Row.nil _⟩
theorem OI.snocI {w : World} {a0 a1 : Value} {gs : List S52} {xs : List Ins} {vG vI : Value} {W A W8 : World} (h : OI w a0 a1 gs xs vG vI W) (hA : Below W.heap.size W A) {x : Ins} {At : Option Addr} {ct : Nat} (htc : x.tb.length ≤ ct)
    (hF : FC kP A (fun k => W.heap.size ≤ k ∧ k < A.heap.size) At x.tb.length x.tb) {cells : List Value} {g cap : Nat}
    (HOWN : (A.alloc (.cells #[.int .i64 x.op, .int .i64 x.a, .int .i64 x.b, .slice At x.tb.length ct] 46)).ownsRow (w.heap.size + 3) 46 4 vI xs.length cells) (HREPS : Reps (fun y cs => FK kI (A.alloc (.cells #[.int .i64 x.op, .int .i64 x.a, .int .i64 x.b, .slice At x.tb.length ct] 46)) (fun k => w.heap.size + 3 ≤ k ∧ some k ≠ vI.ownBlock ∧ k < (A.alloc (.cells #[.int .i64 x.op, .int .i64 x.a, .int .i64 x.b, .slice At x.tb.length ct] 46)).heap.size) y cs) 4 xs cells)
    (hown' : W8.ownsRow (w.heap.size + 3) 46 4 (.slice (some ⟨g, 0, none⟩) (xs.length + 1) cap) (xs.length + 1) (cells ++ [.int .i64 x.op, .int .i64 x.a, .int .i64 x.b, .slice At x.tb.length ct])) (hgrow : (A.alloc (.cells #[.int .i64 x.op, .int .i64 x.a, .int .i64 x.b, .slice At x.tb.length ct] 46)).grownBy W8 vI.ownBlock) (hat : vI.ownBlock = some g ∨ g = (A.alloc (.cells #[.int .i64 x.op, .int .i64 x.a, .int .i64 x.b, .slice At x.tb.length ct] 46)).heap.size) :
    OI w a0 a1 gs (xs ++ [x]) vG (.slice (some ⟨g, 0, none⟩) (xs.length + 1) cap) (W8.setCell ⟨w.heap.size + 2, 1, none⟩ (.slice (some ⟨g, 0, none⟩) (xs.length + 1) cap)) := by
  have h3 := lt_heap h.out
  have hsA := hA.size
  have hb := h.below hA
  have hblt := h.rI.block
  generalize ho : Obj.cells #[.int .i64 x.op, .int .i64 x.a, .int .i64 x.b, .slice At x.tb.length ct] 46 (0, 0) = o at HOWN HREPS hgrow hat
  obtain ⟨hfr, hko, hs8⟩ := grow_frame HOWN (.inr (fun k hk => (hb.rI.block k hk).2)) hgrow
  have hrow : Row kI 46 (w.heap.size + 3) (fun k => w.heap.size + 3 ≤ k) W8 (.slice (some ⟨g, 0, none⟩) (xs.length + 1) cap) (xs ++ [x]) :=
    Row.append (hb.rI.alloc o) HOWN HREPS (fun W' ha => kI_mk W' x htc (hF W' (fun k hk => by
      refine (ha k ⟨by omega, fun e => ?_, by rw [World.size_alloc]; omega⟩).trans (heap_old A o k hk.2)
      have := (hblt k e.symm).2
      omega))) rfl hown' hgrow (hat.imp id (fun e => Nat.le_of_eq e.symm))
  have hgA := hb.rG.alloc o
  have hrg : Row k52 52 (w.heap.size + 3) (fun _ => False) W8 vG gs := by
    refine hgA.kept hgrow ?_ (fun _ _ f => f)
    cases hv : vG.ownBlock with
    | none => exact .inl rfl
    | some k =>
      refine .inr (fun e => ?_)
      obtain ⟨cs1, ho1, _⟩ := hgA
      obtain ⟨c1, h1⟩ := own_typed ho1 k hv
      obtain ⟨c2, h2⟩ := own_typed HOWN k e.symm
      rw [h1] at h2
      cases h2
  have hB8 : Below w.heap.size w W8 := (hb.bel.alloc hb.bel.size o).grown hgrow (by rw [World.size_alloc]; omega) (fun k hk => Nat.le_trans (by omega) (HOWN.lt k hk).1)
  have hk : ∀ k, k ≠ w.heap.size + 2 → ∀ v, (W8.setCell ⟨w.heap.size + 2, 1, none⟩ v).heap[k]? = W8.heap[k]? := fun k hk v => Below.heap_setCell _ _ _ _ hk
  exact ⟨hB8.setCell (p := ⟨w.heap.size + 2, 1, none⟩) (by dsimp only; omega) _, (hk _ (by omega) _).trans ((hfr _ (by omega) (by omega)).trans hb.arg), (hk _ (by omega) _).trans ((hfr _ (by omega) (by omega)).trans hb.res), heap_set ((hfr _ (by omega) (by omega)).trans hb.out) 1 _,
    row_agr hrg (by simp [World.setCell]) (fun k h1 _ => hk k (by omega) _) (fun k f => f.elim), row_agr hrow (by simp [World.setCell]) (fun k h1 _ => hk k (by omega) _) (fun k f => f)⟩
def OwnCR (gs : List S52) (xs : List Ins) (w : World) (e : Ending) (w' : World) : Prop :=
  ∃ (Ag : Option Addr) (cg : Nat) (Ai : Option Addr) (ci : Nat), e = .returned (.agg #[.slice Ag gs.length cg, .slice Ai xs.length ci]) ∧ gs.length ≤ cg ∧ xs.length ≤ ci ∧ k52.C w' Ag gs.length gs ∧ kI.C w' Ai xs.length xs ∧ Below w.heap.size w w'
set_option maxHeartbeats 2000000 in
set_option maxRecDepth 100000 in
theorem own_calls (gs : List S52) (xs : List Ins) (Ag Ax : Option Addr) (cg cx : Nat) (w : World) (hG : k52.C w Ag gs.length gs) (hX : kI.C w Ax xs.length xs) (hgl : gs.length ≤ 60) (hxl : xs.length ≤ 200) (hx : ∀ x ∈ xs, x.tb.length ≤ 1000000) :
    Calls Tryz.prog 13 #[.agg #[.slice Ag gs.length cg, .slice Ax xs.length cx]] w (OwnCR gs xs w) := by
  have HG := Lib.hid hG; have HX := Lib.hid hX; have HXS := Lib.hid hx
  clear hG hX hx
  go_enter Tryz.func13, Tryz.ntmps13
  go_upto_region 2 with (fail)
  generalize hwl : World.alloc (World.alloc (World.alloc _ _) _) _ = wl
  obtain ⟨hsz, b0, b1, b2, hbel⟩ := three hwl
  clear hwl
  have hI0 : OI w (.slice Ag gs.length cg) (.slice Ax xs.length cx) [] [] (.slice none 0 0) (.slice none 0 0) wl := ⟨hbel, b0, b1, b2, Row.nil _, Row.nil _⟩
  clear b0 b1 b2 hbel hsz
  have HI0 := Lib.hid hI0
  clear hI0
  go_wp2_with fail
  go_loopg [4] (gs.length + 1) (fun gg s4 wr => ∃ (kk : Nat) (vG : Value), kk ≤ gs.length ∧ gs.length - kk < gg ∧ s4 = .int .i64 kk ∧ Hid (OI w (.slice Ag gs.length cg) (.slice Ax xs.length cx) (gs.take kk) [] vG (.slice none 0 0) wr))
  case atStart => exact ⟨0, _, Nat.zero_le _, by omega, rfl, HI0⟩
  case round =>
    obtain ⟨kk, vG, hkk, hgg, rfl, HI⟩ := hrel
    rcases gk with _ | gf
    · omega
    have a0 := cell_in HI.out.arg 0
    have a1 := cell_in HI.out.arg 1
    by_cases hlt : kk < gs.length
    · have hltz : (kk : Int) < (gs.length : Int) := by omega
      have hkz : (0 : Int) ≤ (kk : Int) := by omega
      obtain ⟨ad, rfl, q0, q1, q2⟩ := at_G (Kd.C_below HG.out HI.out.bel) kk hlt
      have htk : gs.take (kk + 1) = gs.take kk ++ [gs.getD kk z52] := by rw [List.take_succ_eq_append_getElem hlt, List.getD_eq_getElem?_getD, List.getElem?_eq_getElem hlt]; rfl
      have HTK := Lib.hid htk
      clear htk
      generalize gs.getD kk z52 = y at q0 q1 q2 HTK
      go_upto_region 6 with (fail)
      have HI1 := Lib.hid (HI.out.below ((Below.refl _ wr).alloc (Nat.le_refl _) (.cells #[.string y.f0, .int .i64 y.f1, .int .i64 y.f2] 64)))
      have hy := heap_new wr (.cells #[.string y.f0, .int .i64 y.f1, .int .i64 y.f2] 64)
      have hlw := lt_heap HI.out.out
      clear HI a0 a1 q0 q1 q2
      have hqs : (wr.alloc (.cells #[.string y.f0, .int .i64 y.f1, .int .i64 y.f2] 64)).heap.size = wr.heap.size + 1 := World.size_alloc _ _
      generalize wr.alloc (.cells #[.string y.f0, .int .i64 y.f1, .int .i64 y.f2] 64) = w1 at HI1 hy hqs ⊢
      have hle1 : w.heap.size + 3 ≤ w1.heap.size := by omega
      clear hqs hlw
      generalize wr.heap.size = q at hy ⊢
      have HY := Lib.hid hy
      clear hy
      have y0 := cell_in HY.out 0
      have y1 := cell_in HY.out 1
      have y2 := cell_in HY.out 2
      have d0 : w1.cell? ⟨w.heap.size + 1 + 1, 0, none⟩ = some vG := cell_in HI1.out.out 0
      obtain ⟨Ao, co, rfl, hco, _⟩ := HI1.out.rG.reads
      obtain ⟨cells, hown, hreps⟩ := HI1.out.rG.alloc (.cells #[.string y.f0, .int .i64 y.f1, .int .i64 y.f2] 52)
      have hln : (gs.take kk).length = kk := by rw [List.length_take]; omega
      have HOWN := Lib.hid hown
      have HREPS := Lib.hid hreps
      clear hown hreps
      rw [hln] at d0
      obtain ⟨i0, hi0, hz0, hz1, hz2⟩ := info_parts info52
      have HM1 := Lib.hid (show kk + 1 ≤ maxLen by unfold maxLen; omega)
      have HM2 := Lib.hid (show (kk + 1) * 32 ≤ 140737488355328 by omega)
      have HM3 := Lib.hid (show w.heap.size + 3 ≤ (w1.alloc (.cells #[.string y.f0, .int .i64 y.f1, .int .i64 y.f2] 52)).heap.size by rw [World.size_alloc]; omega)
      have HLN := Lib.hid hln
      have HOWN0 := HOWN
      rw [hln] at HOWN
      go_wp2_with (at_builtin; refine wpList_append_lies _ rfl _ _ 23 rfl (w.heap.size + 3) 52 i0 _ 3 32 Tryz.underlying23 hi0 hz0 hz1 hz2 rfl (by decide) (.slice Ao kk co) kk cells rfl HOWN.out ⟨w1.heap.size, 0, none⟩ 1 1 [.string y.f0, .int .i64 y.f1, .int .i64 y.f2] rfl rfl (cells_of w1 _ _) (by intro u' hu; simp at hu; rcases hu with rfl | rfl | rfl <;> rfl) (by decide) HM1.out HM2.out HM3.out _ rfl ?_)
      intro g cap w8 hown' hgrow hat hgl
      have hfr := (grow_frame HOWN0.out (.inr fun k hk => (HI1.out.rG.block k hk).2) (by rw [hln]; exact hgrow)).1
      have hc8 : w8.heap[w.heap.size + 1 + 1]? = _ := (hfr (w.heap.size + 2) (by omega) (by omega)).trans HI1.out.out
      have hfin := HI1.out.snocG (x := y) (g := g) (cap := cap) HOWN0.out HREPS.out (by rw [hln]; exact hown') (by rw [hln]; exact hgrow) (by rw [hln, World.size_alloc]; exact hat) rfl rfl
      rw [hln, ← HTK.out] at hfin
      have HFIN := Lib.hid hfin
      clear hfr hfin hown' hgrow hat hgl HOWN HOWN0 HREPS y0 y1 y2 d0
      have d0 := cell_in hc8 0
      have f0 := blk_frozen hc8 0
      clear hc8
      go_wp2_with fail
      go_roundg gf
      case measure => omega
      case rel => exact ⟨kk + 1, _, by omega, by omega, by go_num, HFIN⟩
    · have hltz : ¬ (kk : Int) < (gs.length : Int) := by omega
      obtain rfl : kk = gs.length := by omega
      rw [List.take_length] at HI
      go_wp2_with fail
      go_loopg [6] (xs.length + 1) (fun gg s6 wr => ∃ (kx : Nat) (vI : Value), kx ≤ xs.length ∧ xs.length - kx < gg ∧ s6 = .int .i64 kx ∧ Hid (OI w (.slice Ag gs.length cg) (.slice Ax xs.length cx) gs (xs.take kx) vG vI wr))
      case atStart => exact ⟨0, _, Nat.zero_le _, by omega, rfl, HI⟩
      case round =>
        clear HI a0 a1
        obtain ⟨kx, vI, hkx, hgx, rfl, HI⟩ := hrel
        rcases gk with _ | gf
        · omega
        have a0 := cell_in HI.out.arg 0
        have a1 := cell_in HI.out.arg 1
        by_cases hlt : kx < xs.length
        · have hltz : (kx : Int) < (xs.length : Int) := by omega
          have hkz : (0 : Int) ≤ (kx : Int) := by omega
          obtain ⟨ad, A3, c3, rfl, q0, q1, q2, q3, l3, g3⟩ := at_I (Kd.C_below HX.out HI.out.bel) kx hlt
          have htk : xs.take (kx + 1) = xs.take kx ++ [xs.getD kx zI] := by rw [List.take_succ_eq_append_getElem hlt, List.getD_eq_getElem?_getD, List.getElem?_eq_getElem hlt]; rfl
          have HTK := Lib.hid htk
          have HTB := Lib.hid (HXS.out _ (getD_mem xs zI kx hlt))
          clear htk
          generalize xs.getD kx zI = y at q0 q1 q2 q3 l3 g3 HTK HTB
          go_upto_region 10 with (fail)
          obtain ⟨Ao, co, rfl, hco, _⟩ := HI.out.rI.reads
          have hln : (xs.take kx).length = kx := by rw [List.length_take]; omega
          have d1 : wr.cell? ⟨w.heap.size + 1 + 1, 1, none⟩ = some (.slice Ao kx co) := by rw [cell_in HI.out.out 1]; simp [hln]
          have hcall : ∀ W, Below wr.heap.size wr W → Calls Tryz.prog 15 #[.agg #[.int .i64 y.op, .int .i64 y.a, .int .i64 y.b, .slice A3 y.tb.length c3]] W (OwnR y W) := fun W hb => ownInstr_calls y A3 c3 W (Kd.C_below g3 hb) HTB.out
          have HCALL := Lib.hid hcall
          clear hcall g3
          obtain ⟨i0, hi0, hz0, hz1, hz2⟩ := info_parts info46
          have HM1 := Lib.hid (show kx + 1 ≤ maxLen by unfold maxLen; omega)
          have HM2 := Lib.hid (show (kx + 1) * 48 ≤ 140737488355328 by omega)
          have HLN := Lib.hid hln
          have hlw := lt_heap HI.out.out
          have HLW := Lib.hid hlw
          clear hlw
          have hafter : ∀ w9, Below wr.heap.size wr w9 → ∀ A9 c9, y.tb.length ≤ c9 → FC kP w9 (fun k => wr.heap.size ≤ k ∧ k < w9.heap.size) A9 y.tb.length y.tb → ∃ cells, Hid ((w9.alloc (.cells #[.int .i64 y.op, .int .i64 y.a, .int .i64 y.b, .slice A9 y.tb.length c9] 46)).ownsRow (w.heap.size + 3) 46 4 (.slice Ao kx co) kx cells) ∧ Hid (w.heap.size + 3 ≤ (w9.alloc (.cells #[.int .i64 y.op, .int .i64 y.a, .int .i64 y.b, .slice A9 y.tb.length c9] 46)).heap.size) ∧
              ∀ g cap w8, w8.ownsRow (w.heap.size + 3) 46 4 (.slice (some ⟨g, 0, none⟩) (kx + 1) cap) (kx + 1) (cells ++ [.int .i64 y.op, .int .i64 y.a, .int .i64 y.b, .slice A9 y.tb.length c9]) → (w9.alloc (.cells #[.int .i64 y.op, .int .i64 y.a, .int .i64 y.b, .slice A9 y.tb.length c9] 46)).grownBy w8 (Value.slice Ao kx co).ownBlock → ((Value.slice Ao kx co).ownBlock = some g ∨ g = (w9.alloc (.cells #[.int .i64 y.op, .int .i64 y.a, .int .i64 y.b, .slice A9 y.tb.length c9] 46)).heap.size) →
                (∃ v, w8.cell? ⟨w.heap.size + 1 + 1, 1, none⟩ = some v) ∧ w8.frozen? ⟨w.heap.size + 1 + 1, 1, none⟩ = false ∧ Hid (OI w (.slice Ag gs.length cg) (.slice (some ad) xs.length cx) gs (xs.take (kx + 1)) vG (.slice (some ⟨g, 0, none⟩) (kx + 1) cap) (w8.setCell ⟨w.heap.size + 1 + 1, 1, none⟩ (.slice (some ⟨g, 0, none⟩) (kx + 1) cap))) := by
            intro w9 hb9 A9 c9 hc9 hF9
            have hI9 := HI.out.below hb9
            have hs9 := hb9.size
            have hlw := HLW.out
            obtain ⟨cells, hown, hreps⟩ := hI9.rI.alloc (.cells #[.int .i64 y.op, .int .i64 y.a, .int .i64 y.b, .slice A9 y.tb.length c9] 46)
            refine ⟨cells, Lib.hid (by rw [HLN.out] at hown; exact hown), Lib.hid (by rw [World.size_alloc]; omega), fun g cap w8 hown' hgrow hat => ?_⟩
            have hfr := (grow_frame hown (.inr fun k hk => (hI9.rI.block k hk).2) (by rw [HLN.out]; exact hgrow)).1
            have hc8 : w8.heap[w.heap.size + 1 + 1]? = _ := (hfr (w.heap.size + 2) (by omega) (by omega)).trans hI9.out
            have hfin := HI.out.snocI hb9 hc9 hF9 (g := g) (cap := cap) hown hreps (by rw [HLN.out]; exact hown') (by rw [HLN.out]; exact hgrow) (by rw [HLN.out]; exact hat)
            rw [HLN.out, ← HTK.out] at hfin
            exact ⟨⟨_, cell_in hc8 1⟩, blk_frozen hc8 1, Lib.hid hfin⟩
          have HAFTER := Lib.hid hafter
          have hcell9 : ∀ w9, Below wr.heap.size wr w9 → w9.cell? ⟨w.heap.size + 1 + 1, 1, none⟩ = some (.slice Ao kx co) := fun w9 hb9 => by rw [show w9.cell? ⟨w.heap.size + 1 + 1, 1, none⟩ = _ from cell_in (HI.out.below hb9).out 1]; simp [HLN.out]
          have HCELL9 := Lib.hid hcell9
          clear hafter hcell9 hln HLW
          go_region_law (first
            | (refine step_append_lies _ rfl _ _ 24 rfl (w.heap.size + 3) 46 i0 _ 4 48 Tryz.underlying24 hi0 hz0 hz1 hz2 rfl (by decide) (.slice Ao kx co) kx cells rfl HOWN.out ⟨w9.heap.size, 0, none⟩ 1 1 [.int .i64 y.op, .int .i64 y.a, .int .i64 y.b, .slice A9 y.tb.length c9] rfl rfl (cells_of w9 _ _) (by intro u' hu; simp at hu; rcases hu with rfl | rfl | rfl | rfl <;> rfl) (by decide) HM1.out HM2.out HM3.out _ rfl ?_; intro g cap w8 hown' hgrow hat hgl; obtain ⟨⟨v8, z8⟩, f8, HFIN⟩ := HFINS.out g cap w8 hown' hgrow hat; clear hown' hgrow hat hgl HFINS HOWN)
            | (go_simp; go_at_call 15; refine (HCALL.out _ ((Below.refl _ wr).drew)).mono ?_; rintro e w9 ⟨A9, c9, rfl, hc9, hF9, hb9⟩; have e1 := HCELL9.out w9 (((Below.refl _ wr).drew).trans hb9); have e2 := HCELL9.out (w9.alloc (.cells #[.int .i64 y.op, .int .i64 y.a, .int .i64 y.b, .slice A9 y.tb.length c9] 46)) ((((Below.refl _ wr).drew).trans hb9).alloc hb9.size _); obtain ⟨cells, HOWN, HM3, hfins⟩ := HAFTER.out w9 (((Below.refl _ wr).drew).trans hb9) A9 c9 hc9 hF9; have HFINS := Lib.hid hfins; clear hfins hb9 hF9))
          all_goals (
            go_wp2_with fail
            go_roundg gf
            case measure => omega
            case rel => exact ⟨kx + 1, _, by omega, by omega, by go_num, HFIN⟩)
        · have hltz : ¬ (kx : Int) < (xs.length : Int) := by omega
          obtain rfl : kx = xs.length := by omega
          rw [List.take_length] at HI
          obtain ⟨Ao, co, hvG, hco, hFG⟩ := HI.out.rG.reads
          obtain ⟨Ai, ci, hvI, hci, hFI⟩ := HI.out.rI.reads
          subst hvG hvI
          have d0 : wr.cell? ⟨w.heap.size + 1 + 1, 0, none⟩ = _ := cell_in HI.out.out 0
          have d1 : wr.cell? ⟨w.heap.size + 1 + 1, 1, none⟩ = _ := cell_in HI.out.out 1
          have r0 := cell_in HI.out.res 0
          have r1 := cell_in HI.out.res 1
          have f0 := blk_frozen HI.out.res 0
          have f1 := blk_frozen HI.out.res 1
          have HB := Lib.hid (HI.out.bel)
          have HRS := Lib.hid (heap_set (heap_set HI.out.res 0 (.slice Ao gs.length co)) 1 (.slice Ai xs.length ci))
          have hlw := lt_heap HI.out.out
          have HFG := Lib.hid hFG; have HFI := Lib.hid hFI
          clear HI hFG hFI
          go_wp2_with fail
          have hB2 := (HB.out.setCell (p := ⟨w.heap.size + 1, 0, none⟩) (by dsimp only; omega) (.slice Ao gs.length co)).setCell (p := ⟨w.heap.size + 1, 1, none⟩) (by dsimp only; omega) (.slice Ai xs.length ci)
          have hk : ∀ k, w.heap.size + 3 ≤ k → ((wr.setCell ⟨w.heap.size + 1, 0, none⟩ (.slice Ao gs.length co)).setCell ⟨w.heap.size + 1, 1, none⟩ (.slice Ai xs.length ci)).heap[k]? = wr.heap[k]? := fun k hk => (Below.heap_setCell _ _ _ _ (by dsimp only; omega)).trans (Below.heap_setCell _ _ _ _ (by dsimp only; omega))
          have hCG := HFG.out _ (fun k hh => hk k (hh.1.elim (fun f => f.elim) id))
          have hCI := HFI.out _ (fun k hh => hk k (hh.1.elim id id))
          have hRS := HRS.out
          generalize (wr.setCell ⟨w.heap.size + 1, 0, none⟩ (.slice Ao gs.length co)).setCell ⟨w.heap.size + 1, 1, none⟩ (.slice Ai xs.length ci) = WF at hB2 hCG hCI hRS ⊢
          have q0 := cell_in hRS 0
          have q1 := cell_in hRS 1
          refine ⟨rfl, .agg #[.slice Ao gs.length co, .slice Ai xs.length ci], ?_, ⟨Ao, co, Ai, ci, rfl, hco, hci, hCG, hCI, hB2⟩⟩
          simp [results, Tryz.f13, go_sem, q0, q1]
end Go.Proofs.YtcmhibcoccdmaaaGreatDoor.P
