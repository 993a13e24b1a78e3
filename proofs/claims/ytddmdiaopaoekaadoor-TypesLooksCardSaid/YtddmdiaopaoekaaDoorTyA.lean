import Derived.Test.YtddmdiaopaoekaaDoorPx1
import Derived.Outline
import Derived.Lib.Hide
import Derived.LoopTactic
import Derived.RegionTactic
import Derived.Shelf.Abstract
namespace Go.Proofs.YtddmdiaopaoekaaDoor.P
open Go.RowKit Go.Proofs.YtddmdiaopaoekaaDoorW.PrintWords
set_option linter.unusedVariables false
/-- A predicate on types, as a function value: what it tells of each type that can be read; it lays memory alone. -/
def PredT (G : Nat) (lb : Array Value) (p : S31 → Bool) (xs : List S31) (w : World) : Prop :=
  ∀ (W : World) (x : S31) (cs : List Value), x ∈ xs → Below w.heap.size w W → k31.K W x cs → Calls Tryd.prog G (#[.agg cs.toArray] ++ lb) W fun e w' => e = .returned (.bool (p x)) ∧ Below W.heap.size W w'
def IdxP (b : Bool) (w : World) (e : Ending) (w' : World) : Prop := ∃ r : Int, e = .returned (.int .i64 r) ∧ decide (0 ≤ r) = b ∧ Below w.heap.size w w'
theorem any_at (p : S31 → Bool) (xs : List S31) (k : Nat) (hk : k < xs.length) (h : p (xs.getD k z31) = true) : xs.any p = true := by
  rw [List.getD_eq_getElem?_getD, List.getElem?_eq_getElem hk, Option.getD_some] at h
  exact List.any_eq_true.2 ⟨_, List.getElem_mem hk, h⟩
theorem any_none (p : S31 → Bool) (xs : List S31) (h : ∀ j, j < xs.length → p (xs.getD j z31) = false) : xs.any p = false := by
  rw [List.any_eq_false]
  intro x hx
  obtain ⟨j, hj, rfl⟩ := List.mem_iff_getElem.1 hx
  have := h j hj
  rw [List.getD_eq_getElem?_getD, List.getElem?_eq_getElem hj, Option.getD_some] at this
  simp [this]
theorem heap_new (W : World) (o : Obj) : (W.alloc o).heap[W.heap.size]? = some o := by unfold World.alloc; exact Array.getElem?_push_size
theorem heap_old (W : World) (o : Obj) (k : Nat) (h : k < W.heap.size) : (W.alloc o).heap[k]? = W.heap[k]? := by unfold World.alloc; exact Array.getElem?_push_lt h |>.trans (Array.getElem?_eq_getElem h).symm
theorem size_new (W : World) (o : Obj) : (W.alloc o).heap.size = W.heap.size + 1 := by simp
theorem new2_a (w : World) (o o' : Obj) : ((w.alloc o).alloc o').heap[w.heap.size]? = some o := by
  rw [heap_old _ _ _ (by rw [size_new]; omega), heap_new]
theorem new2_b (w : World) (o o' : Obj) : ((w.alloc o).alloc o').heap[w.heap.size + 1]? = some o' := by
  have := heap_new (w.alloc o) o'
  rwa [size_new] at this
theorem cell_in {W : World} {b : Nat} {cs : Array Value} {t : TypeId} (h : W.heap[b]? = some (.cells cs t (0, 0))) (i : Nat) : W.cell? ⟨b, i, none⟩ = cs[i]? := by simp [World.cell?, h]
theorem bel2 {w W W' : World} (h : Below w.heap.size w W) (k : Below W.heap.size W W') : Below w.heap.size w W' := h.trans (k.mono h.size)
theorem getD_mem (xs : List S31) (k : Nat) (hk : k < xs.length) : xs.getD k z31 ∈ xs := by
  rw [List.getD_eq_getElem?_getD, List.getElem?_eq_getElem hk, Option.getD_some]; exact List.getElem_mem hk
set_option maxHeartbeats 4000000 in
set_option maxRecDepth 100000 in
theorem indexT (G : Nat) (lb : Array Value) (p : S31 → Bool) (eg : ∀ args w, (callFunc G args).run Tryd.prog w = .ok (.enter G args) w) (A : Option Addr) (c : Nat) (xs : List S31) (w : World)
    (hp : PredT G lb p xs w) (hC : k31.C w A xs.length xs) :
    Calls Tryd.prog 82 #[.slice A xs.length c, .func (.func G) #[] lb] w (IdxP (xs.any p) w) := by
  have hbig := hC.2.1
  have HP := Lib.hid hp
  have HC := Lib.hid hC
  clear hp hC
  go_enter Tryd.func82, Tryd.ntmps82
  go_wp2
  go_loopg [5, 8] xs.length (fun gg _ s8 wr => ∃ kk : Nat, kk ≤ xs.length ∧ xs.length - kk ≤ gg ∧ s8 = .int .i64 kk ∧ Hid (Below w.heap.size w wr) ∧ Hid (∀ j, j < kk → p (xs.getD j z31) = false))
  case atStart => exact ⟨0, Nat.zero_le _, by omega, rfl, Lib.hid (Below.refl _ w), Lib.hid (fun j hj => absurd hj (Nat.not_lt_zero _))⟩
  case round =>
    obtain ⟨kk, hkk, hg, rfl, BW, AL⟩ := hrel
    by_cases hlt : kk < xs.length
    · have hltz : (kk : Int) < (xs.length : Int) := by omega
      obtain ⟨ad, A3, c3, rfl, h0, h1, h2, h3, hl3, hC3⟩ := at_T31 (Kd.C_below HC.out BW.out) (kk : Int) (by omega) hltz
      have hrd : rd_T31 xs (kk : Int) = xs.getD kk z31 := rfl
      rw [Int.toNat_natCast] at h0 h1 h2 h3
      rw [hrd] at h0 h1 h2 h3 hl3 hC3
      have hK := k31_mk wr (xs.getD kk z31) hl3 hC3
      have hcall := HP.out wr (xs.getD kk z31) _ (getD_mem xs kk hlt) BW.out hK
      have HX : Hid (xs.getD kk z31 = xs.getD kk z31) := Lib.hid rfl
      clear hK hl3 hC3 hrd
      generalize hy : xs.getD kk z31 = y at h0 h1 h2 h3 hcall HX
      have HY := Lib.hid hy
      clear hy
      cases hq : p y with
      | true =>
        rw [hq] at hcall
        have HCL := Lib.hid hcall
        have HQ := Lib.hid hq
        clear hcall hq
        go_wp2_with (go_at_fn G; refine HCL.out.mono ?_; rintro e w' ⟨rfl, hb'⟩)
        go_ret
        exact ⟨kk, rfl, by rw [any_at p xs kk hlt (by rw [HY.out]; exact HQ.out)]; exact decide_eq_true (by omega), bel2 BW.out hb'⟩
      | false =>
        rw [hq] at hcall
        have HCL := Lib.hid hcall
        have HQ := Lib.hid hq
        clear hcall hq
        go_wp2_with (go_at_fn G; refine HCL.out.mono ?_; rintro e w' ⟨rfl, hb'⟩)
        go_roundg (xs.length - (kk + 1))
        case measure => omega
        case rel =>
          refine ⟨kk + 1, by omega, by omega, by go_num, Lib.hid (bel2 BW.out hb'), Lib.hid (fun j hj => ?_)⟩
          rcases Nat.lt_succ_iff_lt_or_eq.1 hj with h | rfl
          · exact AL.out j h
          · rw [HY.out]; exact HQ.out
    · have hltz : ¬ (kk : Int) < (xs.length : Int) := by omega
      obtain rfl : kk = xs.length := by omega
      go_wp2
      go_ret
      exact ⟨-1, rfl, by rw [any_none p xs AL.out]; rfl, BW.out⟩
set_option maxHeartbeats 4000000 in
set_option maxRecDepth 100000 in
/-- slices.ContainsFunc. -/
theorem containsT (G : Nat) (lb : Array Value) (p : S31 → Bool) (eg : ∀ args w, (callFunc G args).run Tryd.prog w = .ok (.enter G args) w) (A : Option Addr) (c : Nat) (xs : List S31) (w : World)
    (hp : PredT G lb p xs w) (hC : k31.C w A xs.length xs) :
    Calls Tryd.prog 73 #[.slice A xs.length c, .func (.func G) #[] lb] w fun e w' => e = .returned (.bool (xs.any p)) ∧ Below w.heap.size w w' := by
  have H := Lib.hid (indexT G lb p eg A c xs w hp hC)
  clear hp hC
  go_enter Tryd.func73, Tryd.ntmps73
  go_wp2_with fail
  refine H.out.mono ?_
  rintro e w1 ⟨r, rfl, hr, hb⟩
  have HR := Lib.hid hr
  clear hr
  go_wp2
  go_ret
  exact ⟨by rw [← HR.out]; simp, hb⟩
/-- May a type be, with so much depth left? -/
def fitsB (x : S31) : Bool := (types_Type_fits.f x.f0 x.f1 x.f2 x.f3).getD false
theorem fits_some (x : S31) : types_Type_fits.f x.f0 x.f1 x.f2 x.f3 = some (fitsB x) := by
  unfold fitsB types_Type_fits.f
  repeat' split
  all_goals rfl
def rightB : Nat → S31 → Bool
  | 0, _ => false
  | n + 1, x => fitsB x && !(x.f3.any fun y => !rightB n y)
theorem rightB_zero (x : S31) : rightB 0 x = false := rfl
theorem rightB_succ (n : Nat) (x : S31) : rightB (n + 1) x = (fitsB x && !(x.f3.any fun y => !rightB n y)) := rfl
/-- What the induction gives. -/
def RightC (n : Nat) : Prop := ∀ (x : S31) (A : Option Addr) (c : Nat) (w : World), x.f3.length ≤ c → k31.C w A x.f3.length x.f3 →
    Calls Tryd.prog 54 #[.agg #[.int .i64 x.f0, .int .i64 x.f1, .string x.f2, .slice A x.f3.length c], .int .i64 n] w fun e w' => e = .returned (.bool (rightB n x)) ∧ Below w.heap.size w w'
set_option maxHeartbeats 4000000 in
set_option maxRecDepth 100000 in
theorem right1 (n : Nat) (hn : n ≤ 1000) (ih : RightC n) (b : Nat) (w : World) (hb : b < w.heap.size) (hc : w.cell? ⟨b, 0, none⟩ = some (.int .i64 ((n + 1 : Nat) : Int))) (W : World) (x : S31) (cs : List Value) (hB : Below w.heap.size w W) (hK : k31.K W x cs) :
    Calls Tryd.prog 74 (#[.agg cs.toArray] ++ #[.pointer (some ⟨b, 0, none⟩)]) W fun e w' => e = .returned (.bool (!rightB n x)) ∧ Below W.heap.size W w' := by
  have hc' := (hB.cell (p := ⟨b, 0, none⟩) hb).trans hc
  obtain ⟨A3, c3, rfl, l3, g3⟩ := k31_open hK
  show Calls Tryd.prog 74 #[.agg #[.int .i64 x.f0, .int .i64 x.f1, .string x.f2, .slice A3 x.f3.length c3], .pointer (some ⟨b, 0, none⟩)] W _
  have IH := Lib.hid ih
  have G3 := Lib.hid g3
  have hbW : b < W.heap.size := Nat.lt_of_lt_of_le hb hB.size
  have hbn : b ≠ W.heap.size := by omega
  clear ih g3 hK hc
  go_enter Tryd.func74, Tryd.ntmps74
  go_wp2_with fail
  refine (IH.out x A3 c3 _ l3 (Kd.C_below G3.out ((Below.refl _ _).alloc (Nat.le_refl _) _))).mono ?_
  rintro e w1 ⟨rfl, hb1⟩
  go_wp2
  go_ret
  exact ⟨rfl, ((Below.refl _ _).alloc (Nat.le_refl _) _).trans (hb1.mono (by simp))⟩
set_option maxHeartbeats 4000000 in
set_option maxRecDepth 100000 in
theorem right_zero : RightC 0 := by
  intro x A c w hc hC
  rw [rightB_zero]
  clear hC
  go_enter Tryd.func54, Tryd.ntmps54
  go_wp2_with fail
  go_ret
  exact ⟨rfl, ((Below.refl _ _).alloc (Nat.le_refl _) _).alloc (by simp) _⟩
set_option maxHeartbeats 4000000 in
set_option maxRecDepth 100000 in
theorem right_succ (n : Nat) (hn : n ≤ 1000) (ih : RightC n) : RightC (n + 1) := by
  intro x A c w hc hC
  have HC := Lib.hid hC
  have IH := Lib.hid ih
  clear hC ih
  rw [rightB_succ]
  cases hf : fitsB x with
  | false =>
    have HF : Hid (types_Type_fits.f x.f0 x.f1 x.f2 x.f3 = some false) := Lib.hid (by rw [fits_some, hf])
    clear hf
    go_enter Tryd.func54, Tryd.ntmps54
    go_wp2_with fail
    refine (types_Type_fits.calls _ _ _ A c x.f3 false _ (Kd.C_below HC.out (((Below.refl _ _).alloc (Nat.le_refl _) _).alloc (by simp) _)) hc HF.out).mono ?_
    rintro e w1 ⟨rfl, hb1⟩
    go_wp2
    go_ret
    exact ⟨rfl, (((Below.refl _ _).alloc (Nat.le_refl _) _).alloc (by simp) _).trans (hb1.mono (by simp; omega))⟩
  | true =>
    have HF : Hid (types_Type_fits.f x.f0 x.f1 x.f2 x.f3 = some true) := Lib.hid (by rw [fits_some, hf])
    clear hf
    go_enter Tryd.func54, Tryd.ntmps54
    go_wp2_with fail
    generalize hW : (w.alloc (.cells #[.int .i64 x.f0, .int .i64 x.f1, .string x.f2, .slice A x.f3.length c] 31)).alloc (.cells #[.int .i64 ((n : Int) + 1)] 3) = W
    have hb0 : Below w.heap.size w W := by rw [← hW]; exact ((Below.refl _ _).alloc (Nat.le_refl _) _).alloc (by simp) _
    have hsz : W.heap.size = w.heap.size + 1 + 1 := by rw [← hW]; simp
    have hc3 : W.cell? ⟨w.heap.size, 3, none⟩ = some (.slice A x.f3.length c) := by rw [← hW, cell_in (new2_a w _ _)]; rfl
    have hci : W.cell? ⟨w.heap.size + 1, 0, none⟩ = some (.int .i64 ((n + 1 : Nat) : Int)) := by rw [← hW, cell_in (new2_b w _ _)]; rfl
    have HB0 := Lib.hid hb0
    have HCI := Lib.hid hci
    have HSZ := Lib.hid hsz
    clear hW hb0 hci hsz
    refine (types_Type_fits.calls _ _ _ A c x.f3 true _ (Kd.C_below HC.out HB0.out) hc HF.out).mono ?_
    rintro e w1 ⟨rfl, hb1⟩
    have hc31 := (hb1.cell (p := ⟨w.heap.size, 3, none⟩) (by rw [HSZ.out]; show w.heap.size < _; omega)).trans hc3
    have HCI1 := Lib.hid ((hb1.cell (p := ⟨w.heap.size + 1, 0, none⟩) (by rw [HSZ.out]; show w.heap.size + 1 < _; omega)).trans HCI.out)
    have HB1 := Lib.hid (bel2 HB0.out hb1)
    have hlt : Hid (w.heap.size + 1 < w1.heap.size) := Lib.hid (by have := hb1.size; have := HSZ.out; omega)
    clear hb1 hc3
    go_wp2_with fail
    refine (containsT 74 _ (fun y => !rightB n y) (enters_of Tryd.func74 (by kernel_rfl) rfl) A c x.f3 _ (fun W y cs hy hB hK => right1 n hn IH.out (w.heap.size + 1) w1 hlt.out HCI1.out W y cs hB hK) (Kd.C_below HC.out HB1.out)).mono ?_
    rintro e w2 ⟨rfl, hb2⟩
    go_wp2
    go_ret
    exact ⟨rfl, bel2 HB1.out hb2⟩
theorem right_all : ∀ n, n ≤ 1000 → RightC n
  | 0, _ => right_zero
  | n + 1, h => right_succ n (by omega) (right_all n (by omega))
/-- May a type be? -/
def RightB (x : S31) : Bool := rightB 400 x
set_option maxHeartbeats 4000000 in
set_option maxRecDepth 100000 in
/-- types.Right. -/
theorem Right_calls (x : S31) (A : Option Addr) (c : Nat) (w : World) (hc : x.f3.length ≤ c) (hC : k31.C w A x.f3.length x.f3) :
    Calls Tryd.prog 21 #[.agg #[.int .i64 x.f0, .int .i64 x.f1, .string x.f2, .slice A x.f3.length c]] w fun e w' => e = .returned (.bool (RightB x)) ∧ Below w.heap.size w w' := by
  have H := Lib.hid (right_all 400 (by omega))
  have HC := Lib.hid hC
  clear hC
  go_enter Tryd.func21, Tryd.ntmps21
  go_wp2_with fail
  refine (H.out x A c _ hc (Kd.C_below HC.out ((Below.refl _ _).alloc (Nat.le_refl _) _))).mono ?_
  rintro e w1 ⟨rfl, hb1⟩
  go_wp2
  go_ret
  exact ⟨rfl, ((Below.refl _ _).alloc (Nat.le_refl _) _).trans (hb1.mono (by simp))⟩
end Go.Proofs.YtddmdiaopaoekaaDoor.P
