/- What a scan does, as plain functions on lists of bytes: classes, runs, notes, skips. -/
import Derived.Test.YtiioanpmfpefcaaDoorPx0
import Derived.Test.YtiioanpmfpefcaaDoorPx14
import Derived.Test.YtiioanpmfpefcaaDoorPx15
import Derived.Test.YtiioanpmfpefcaaDoorShelf
import Derived.Outline
import Derived.Lib.Hide
import Derived.LoopTactic
import Derived.RegionTactic
import Derived.Deep.QuietTactic
import Derived.BigQuiet
import Derived.Deep.DeepCutAuto
namespace Go.Proofs.YtiioanpmfpefcaaDoor.Tok
open Go.RowKit Go.Proofs.YtiioanpmfpefcaaDoor.P Go.Proofs.YtiioanpmfpefcaaDoorW.PrintWords

/-- A byte's class. -/
def cls (c : UInt8) : Nat :=
  if c = 32 ∨ c = 9 ∨ c = 10 ∨ c = 13 then 1
  else if c = 95 then 3
  else if c ∈ ([43, 45, 42, 47, 37, 61, 60, 62, 124, 38, 58, 46, 92, 33] : List UInt8) then 5
  else if c ∈ ([40, 41, 91, 93, 123, 125, 44, 59] : List UInt8) then 6
  else if c = 39 ∨ c = 34 then 7
  else if 48 ≤ c ∧ c ≤ 57 then 2
  else if 97 ≤ c ∧ c ≤ 122 then 3
  else if 65 ≤ c ∧ c ≤ 90 then 4
  else 0
def isInner (c : UInt8) : Bool := cls c == 3 || cls c == 4 || cls c == 2 || c == 39
def isDig (c : UInt8) : Bool := cls c == 2
def isRow (c : UInt8) : Bool := c != 10
/-- How many bytes from the begin on are so. -/
def runL (p : UInt8 → Bool) (l : List UInt8) : Nat := (l.takeWhile p).length
/-- A note that is open so often: how many bytes to its end. -/
def note : Nat → List UInt8 → Nat → Option Nat
  | 0, _, _ => none
  | f + 1, l, d =>
    if l = [] then none
    else if l.take 2 = [123, 45] then (if 100 < d + 1 then none else (note f (l.drop 2) (d + 1)).map (· + 2))
    else if l.take 2 = [45, 125] then (if d = 1 then some 2 else (note f (l.drop 2) (d - 1)).map (· + 2))
    else (note f (l.drop 1) d).map (· + 1)
theorem note_fuel : ∀ (f : Nat) (l : List UInt8) (d : Nat), l.length < f → note f l d = note (l.length + 1) l d
  | 0, _, _, h => by omega
  | f + 1, l, d, h => by
    rw [note, note]
    by_cases h0 : l = []
    · rw [if_pos h0, if_pos h0]
    · rw [if_neg h0, if_neg h0]
      have hl : 0 < l.length := List.length_pos_iff.2 h0
      have e1 : ∀ k d', 1 ≤ k → note f (l.drop k) d' = note l.length (l.drop k) d' := fun k d' hk => by
        rw [note_fuel f (l.drop k) d' (by rw [List.length_drop]; omega), note_fuel l.length (l.drop k) d' (by rw [List.length_drop]; omega)]
      rw [e1 2 _ (by omega), e1 2 _ (by omega), e1 1 _ (by omega)]
/-- A note that is open so often. -/
def noteL (l : List UInt8) (d : Nat) : Option Nat := note (l.length + 1) l d
theorem noteL_step (l : List UInt8) (d : Nat) (h0 : l ≠ []) : noteL l d =
    if l.take 2 = [123, 45] then (if 100 < d + 1 then none else (noteL (l.drop 2) (d + 1)).map (· + 2))
    else if l.take 2 = [45, 125] then (if d = 1 then some 2 else (noteL (l.drop 2) (d - 1)).map (· + 2))
    else (noteL (l.drop 1) d).map (· + 1) := by
  have hl : 0 < l.length := List.length_pos_iff.2 h0
  have e1 : ∀ k d', 1 ≤ k → note l.length (l.drop k) d' = noteL (l.drop k) d' := fun k d' hk => note_fuel _ _ _ (by rw [List.length_drop]; omega)
  unfold noteL
  rw [note, if_neg h0, e1 2 _ (by omega), e1 2 _ (by omega), e1 1 _ (by omega)]
  rfl
theorem noteL_nil (d : Nat) : noteL [] d = none := rfl
/-- What is no token: how many bytes; false: a note begins there that does not end. -/
def skp : Nat → List UInt8 → Nat × Bool
  | 0, _ => (0, true)
  | f + 1, l =>
    match l with
    | [] => (0, true)
    | c :: _ =>
      if cls c = 1 then ((skp f (l.drop 1)).1 + 1, (skp f (l.drop 1)).2)
      else if l.take 2 = [45, 45] then ((skp f (l.drop (runL isRow l))).1 + runL isRow l, (skp f (l.drop (runL isRow l))).2)
      else if l.take 2 = [123, 45] then
        match noteL l 0 with
        | none => (0, false)
        | some n => ((skp f (l.drop n)).1 + n, (skp f (l.drop n)).2)
      else (0, true)
theorem note_le : ∀ (f : Nat) (l : List UInt8) (d n : Nat), note f l d = some n → 1 ≤ n ∧ n ≤ l.length
  | 0, _, _, _, h => by cases h
  | f + 1, l, d, n, h => by
    rw [note] at h
    split at h
    · cases h
    next h0 =>
      have hl : 0 < l.length := List.length_pos_iff.2 h0
      have two : ∀ a b : UInt8, l.take 2 = [a, b] → 2 ≤ l.length := fun a b e => by
        have := congrArg List.length e; rw [List.length_take] at this; simp at this; omega
      split at h
      next e =>
        have := two _ _ e
        split at h
        · cases h
        · obtain ⟨m, hm, rfl⟩ := Option.map_eq_some_iff.1 h
          have := note_le f _ _ _ hm
          rw [List.length_drop] at this; omega
      · split at h
        next e =>
          have := two _ _ e
          split at h
          · cases h; omega
          · obtain ⟨m, hm, rfl⟩ := Option.map_eq_some_iff.1 h
            have := note_le f _ _ _ hm
            rw [List.length_drop] at this; omega
        · obtain ⟨m, hm, rfl⟩ := Option.map_eq_some_iff.1 h
          have := note_le f _ _ _ hm
          rw [List.length_drop] at this; omega
theorem runL_le (p : UInt8 → Bool) (l : List UInt8) : runL p l ≤ l.length := (List.takeWhile_sublist p).length_le
theorem dash_run {l : List UInt8} (h : l.take 2 = [45, 45]) : 1 ≤ runL isRow l := by
  match l, h with
  | a :: b :: t, h =>
    simp at h
    obtain ⟨rfl, rfl⟩ := h
    have : isRow 45 = true := by decide
    simp only [runL, List.takeWhile_cons, this, if_true, List.length_cons]
    omega
theorem skp_two : ∀ (f f' : Nat) (l : List UInt8), l.length < f → l.length < f' → skp f l = skp f' l
  | 0, _, _, h, _ => by omega
  | _ + 1, 0, _, _, h => by omega
  | f + 1, f' + 1, [], _, _ => by simp [skp]
  | f + 1, f' + 1, c :: t, h, h' => by
    have e1 : ∀ k, 1 ≤ k → skp f ((c :: t).drop k) = skp f' ((c :: t).drop k) := fun k hk =>
      skp_two f f' _ (by rw [List.length_drop]; simp only [List.length_cons] at h ⊢; omega) (by rw [List.length_drop]; simp only [List.length_cons] at h' ⊢; omega)
    rw [skp, skp]
    split
    · rw [e1 1 (by omega)]
    · split
      next hd => rw [e1 _ (dash_run hd)]
      · split
        next hd =>
          cases hn : noteL (c :: t) 0 with
          | none => rfl
          | some n => simp only []; rw [e1 n (note_le _ _ _ _ hn).1]
        · rfl
theorem skp_fuel (f : Nat) (l : List UInt8) (h : l.length < f) : skp f l = skp (l.length + 1) l := skp_two _ _ _ h (by omega)
/-- What is no token at the begin: how many bytes; false: a note begins there that does not end. -/
def skpL (l : List UInt8) : Nat × Bool := skp (l.length + 1) l
theorem skpL_nil : skpL [] = (0, true) := rfl
theorem skpL_cons (c : UInt8) (t : List UInt8) : skpL (c :: t) =
    if cls c = 1 then ((skpL t).1 + 1, (skpL t).2)
    else if (c :: t).take 2 = [45, 45] then ((skpL ((c :: t).drop (runL isRow (c :: t)))).1 + runL isRow (c :: t), (skpL ((c :: t).drop (runL isRow (c :: t)))).2)
    else if (c :: t).take 2 = [123, 45] then
      match noteL (c :: t) 0 with
      | none => (0, false)
      | some n => ((skpL ((c :: t).drop n)).1 + n, (skpL ((c :: t).drop n)).2)
    else (0, true) := by
  have e1 : ∀ k, 1 ≤ k → skp (c :: t).length ((c :: t).drop k) = skpL ((c :: t).drop k) := fun k hk => skp_fuel _ _ (by rw [List.length_drop]; simp only [List.length_cons]; omega)
  rw [show skpL (c :: t) = skp ((c :: t).length + 1) (c :: t) from rfl, skp]
  split
  · rw [e1 1 (by omega)]; rfl
  · split
    next hd => rw [e1 _ (dash_run hd)]
    · split
      next hd =>
        cases hn : noteL (c :: t) 0 with
        | none => rfl
        | some n => simp only []; rw [e1 n (note_le _ _ _ _ hn).1]
      · rfl
end Go.Proofs.YtiioanpmfpefcaaDoor.Tok
/- The scanner's small functions: classes of bytes, runs of bytes, what stands at a place, a fault. -/
namespace Go.Proofs.YtiioanpmfpefcaaDoor.Tok
open Go.RowKit Go.Proofs.YtiioanpmfpefcaaDoor.P Go.Proofs.YtiioanpmfpefcaaDoorW.PrintWords

theorem size_eq (s : ByteArray) : s.size = s.data.toList.length := by rw [Array.length_toList]; rfl
theorem bt_q (x : ByteArray) (n : Nat) (b : UInt8) (h : x.data.toList[n]? = some b) : bt x (n : Int) = (b.toNat : Int) := by
  obtain ⟨hn, he⟩ := List.getElem?_eq_some_iff.1 h
  have hs : n < x.size := by rw [size_eq]; exact hn
  rw [← bt_at x (n : Int) hs, ← he]
  rfl
theorem dr {w w' : World} (h : Drawn0 w w') : ∃ n, w' = w.drewN n := h.1
theorem cls_fin : ∀ c : Fin 256, glyph_Class.f 40 (c.val : Int) = some ((cls (UInt8.ofNat c.val) : Nat) : Int) := by decide +kernel
theorem cls_f (c : UInt8) : glyph_Class.f 40 (c.toNat : Int) = some ((cls c : Nat) : Int) := by
  have := cls_fin ⟨c.toNat, c.toNat_lt⟩
  simpa using this
theorem cls_calls (c : UInt8) (w : World) : Calls Tryd.prog 39 #[.int .u8 c.toNat] w fun e w' => e = .returned (.int .i64 (cls c : Nat)) ∧ Drawn0 w w' :=
  glyph_Class.calls 40 _ _ w (cls_f c)
theorem inner_fin : ∀ c : Fin 256, token_inner.f 40 (c.val : Int) = some (isInner (UInt8.ofNat c.val)) := by decide +kernel
theorem inner_calls (c : UInt8) (w : World) : Calls Tryd.prog 57 #[.int .u8 c.toNat] w fun e w' => e = .returned (.bool (isInner c)) ∧ Drawn0 w w' :=
  token_inner.calls 40 _ _ w (by have := inner_fin ⟨c.toNat, c.toNat_lt⟩; simpa using this)
theorem row_fin : ∀ c : Fin 256, (((c.val : Int) != 10) : Bool) = isRow (UInt8.ofNat c.val) := by decide +kernel
theorem row_calls (c : UInt8) (w : World) : Calls Tryd.prog 42 #[.int .u8 c.toNat] w fun e w' => e = .returned (.bool (isRow c)) ∧ Drawn0 w w' := by
  have h : (((c.toNat : Int) != 10) : Bool) = isRow c := by have := row_fin ⟨c.toNat, c.toNat_lt⟩; simpa using this
  have H := Lib.hid h
  clear h
  go_enter Tryd.func42, Tryd.ntmps42
  go_wp2
  go_ret
  exact ⟨by rw [← H.out]; rfl, Drawn0.refl _⟩
theorem dig_calls (c : UInt8) (w : World) : Calls Tryd.prog 59 #[.int .u8 c.toNat] w fun e w' => e = .returned (.bool (isDig c)) ∧ Drawn0 w w' := by
  have h : ((((cls c : Nat) : Int) == 2) : Bool) = isDig c := by unfold isDig; rw [Bool.eq_iff_iff]; simp; omega
  have H := Lib.hid h
  clear h
  go_enter Tryd.func59, Tryd.ntmps59
  go_wp2_with (go_at_call 39; refine (cls_calls c _).mono ?_; rintro e w' ⟨rfl, ⟨nd, rfl⟩⟩)
  go_ret
  exact ⟨by rw [← H.out]; rfl, ⟨_, rfl⟩⟩

theorem runL_step (p : UInt8 → Bool) (l : List UInt8) (n : Nat) (c : UInt8) (hl : l[n]? = some c) (hp : p c = true) (h : (l.take n).all p = true) : (l.take (n + 1)).all p = true := by
  obtain ⟨hn, rfl⟩ := List.getElem?_eq_some_iff.1 hl
  rw [List.take_succ_eq_append_getElem hn, List.all_append, h]; simp [hp]
theorem runL_end (p : UInt8 → Bool) : ∀ (l : List UInt8) (n : Nat), (l.take n).all p = true → n ≤ l.length → (∀ c, l[n]? = some c → p c = false) → runL p l = n
  | [], n, _, hn, _ => by simp at hn; subst hn; rfl
  | c :: t, 0, _, _, h => by have := h c rfl; simp [runL, this]
  | c :: t, n + 1, h, hn, h2 => by
    simp only [List.take_succ_cons, List.all_cons, Bool.and_eq_true] at h
    have := runL_end p t n h.2 (by simpa using hn) (fun c hc => h2 c (by simpa using hc))
    unfold runL at *
    rw [List.takeWhile_cons, if_pos h.1, List.length_cons, this]

set_option maxHeartbeats 1000000 in
theorem run_calls (G : Nat) (p : UInt8 → Bool) (eg : ∀ args w, (callFunc G args).run Tryd.prog w = .ok (.enter G args) w)
    (hp : ∀ (c : UInt8) W, Calls Tryd.prog G #[.int .u8 c.toNat] W fun e w' => e = .returned (.bool (p c)) ∧ Drawn0 W w')
    (s : ByteArray) (i : Nat) (w : World) (hs : s.size ≤ 140737488351232) (hi : i ≤ s.size) :
    Calls Tryd.prog 41 #[.string s, .int .i64 i, .func (.func G) #[] #[]] w fun e w' => e = .returned (.int .i64 (runL p (s.data.toList.drop i) : Nat)) ∧ Drawn0 w w' := by
  go_enter Tryd.func41, Tryd.ntmps41
  go_wp2_with fail
  go_loopw [7] (fun v wr => ∃ n : Nat, v = .int .i64 n ∧ i + n ≤ s.size ∧ Hid (((s.data.toList.drop i).take n).all p = true) ∧ Drawn0 w wr) (fun v _ => s.size - i - (intOf v).toNat)
  case atStart => exact ⟨0, rfl, by omega, Lib.hid (by simp), Drawn0.refl _⟩
  case round =>
    obtain ⟨n, rfl, hn, HA, ⟨nd, rfl⟩⟩ := hrel
    by_cases hlt : i + n < s.size
    · obtain ⟨c, hc⟩ : ∃ c, s.data.toList[i + n]? = some c := ⟨_, List.getElem?_eq_getElem (by rw [← size_eq]; exact hlt)⟩
      have hb := bt_at s ((i : Int) + n)
      have hbc : bt s ((i : Int) + n) = (c.toNat : Int) := by have := bt_q s (i + n) c hc; rw [← this]; congr 1
      rw [hbc] at hb
      clear hbc
      have HC := Lib.hid hc
      clear hc
      have e1 : (0 : Int) ≤ (i : Int) + n := by omega
      have e2 : (i : Int) + n < (s.size : Int) := by omega
      cases hpc : p c with
      | true =>
        have HP := Lib.hid hpc
        have hpw := fun W => (hp c W)
        rw [hpc] at hpw
        clear hpc
        go_wp2_with fail
        refine (hpw _).mono ?_
        rintro e w' ⟨rfl, ⟨nd2, rfl⟩⟩
        go_wp2
        go_roundw
        case rel => exact ⟨n + 1, by go_num, by omega, Lib.hid (runL_step p _ n c (by rw [List.getElem?_drop]; exact HC.out) HP.out HA.out), by repeat (first | exact Drawn0.refl _ | apply Drawn0.step)⟩
        case measure => simp [intOf]; omega
      | false =>
        have HP := Lib.hid hpc
        have hpw := fun W => (hp c W)
        rw [hpc] at hpw
        clear hpc
        have HE : Hid (runL p (s.data.toList.drop i) = n) := Lib.hid (runL_end p _ n HA.out (by rw [List.length_drop, ← size_eq]; omega) (fun c' hc' => by
          rw [List.getElem?_drop, HC.out] at hc'
          cases hc'; exact HP.out))
        go_wp2_with fail
        refine (hpw _).mono ?_
        rintro e w' ⟨rfl, ⟨nd2, rfl⟩⟩
        go_wp2
        go_ret
        exact ⟨by rw [HE.out]; rfl, by repeat (first | exact Drawn0.refl _ | apply Drawn0.step)⟩
    · have HE : Hid (runL p (s.data.toList.drop i) = n) := Lib.hid (runL_end p _ n HA.out (by rw [List.length_drop, ← size_eq]; omega) (fun c' hc' => by
        rw [List.getElem?_drop] at hc'
        have := (List.getElem?_eq_some_iff.1 hc').1
        rw [← size_eq] at this; omega))
      have e2 : ¬ (i : Int) + n < (s.size : Int) := by omega
      go_wp2
      go_ret
      exact ⟨by rw [HE.out]; rfl, by repeat (first | exact Drawn0.refl _ | apply Drawn0.step)⟩
end Go.Proofs.YtiioanpmfpefcaaDoor.Tok
/- The scanner in memory; its fault, what stands at its place, a note, what is skipped, a token taken. -/
namespace Go.Proofs.YtiioanpmfpefcaaDoor.Tok
open Go.RowKit Go.Proofs.YtiioanpmfpefcaaDoor.P Go.Proofs.YtiioanpmfpefcaaDoorW.PrintWords

/-- A scanner in block g: its source, its place, its fault. -/
def Sc (g : Nat) (s : ByteArray) (i : Nat) (fa fe : Int) (w : World) : Prop := w.heap[g]? = some (.cells #[.string s, .int .i64 i, .int .i64 fa, .int .i64 fe] 46 (0, 0))
/-- What the scanner's functions keep: every block but g. -/
def Kp (g : Nat) (w w' : World) : Prop := w.grownBy w' (some g)
theorem Sc.lt {g : Nat} {s : ByteArray} {i : Nat} {fa fe : Int} {w : World} (h : Sc g s i fa fe w) : g < w.heap.size := (Array.getElem?_eq_some_iff.1 h).1
theorem Sc.c0 {g : Nat} {s : ByteArray} {i : Nat} {fa fe : Int} {w : World} (h : Sc g s i fa fe w) : w.cell? ⟨g, 0, none⟩ = some (.string s) := by rw [Lib.cell_of_heap h]; rfl
theorem Sc.c1 {g : Nat} {s : ByteArray} {i : Nat} {fa fe : Int} {w : World} (h : Sc g s i fa fe w) : w.cell? ⟨g, 1, none⟩ = some (.int .i64 i) := by rw [Lib.cell_of_heap h]; rfl
theorem Sc.c2 {g : Nat} {s : ByteArray} {i : Nat} {fa fe : Int} {w : World} (h : Sc g s i fa fe w) : w.cell? ⟨g, 2, none⟩ = some (.int .i64 fa) := by rw [Lib.cell_of_heap h]; rfl
theorem Sc.c3 {g : Nat} {s : ByteArray} {i : Nat} {fa fe : Int} {w : World} (h : Sc g s i fa fe w) : w.cell? ⟨g, 3, none⟩ = some (.int .i64 fe) := by rw [Lib.cell_of_heap h]; rfl
theorem Sc.fz {g : Nat} {s : ByteArray} {i : Nat} {fa fe : Int} {w : World} (h : Sc g s i fa fe w) (j : Nat) : w.frozen? ⟨g, j, none⟩ = false := Lib.frozen_of_heap h j
theorem Sc.keep {g : Nat} {s : ByteArray} {i : Nat} {fa fe : Int} {w w' : World} (h : Sc g s i fa fe w) (hk : ∀ k, k < w.heap.size → w'.heap[k]? = w.heap[k]?) : Sc g s i fa fe w' := (hk g h.lt).trans h
theorem Sc.below {g : Nat} {s : ByteArray} {i : Nat} {fa fe : Int} {w w' : World} (h : Sc g s i fa fe w) (hb : Below w.heap.size w w') : Sc g s i fa fe w' := h.keep hb.block
theorem Sc.drewN {g : Nat} {s : ByteArray} {i : Nat} {fa fe : Int} {w : World} (h : Sc g s i fa fe w) (n : Nat) : Sc g s i fa fe (w.drewN n) := h.below (Drawn0.below ⟨n, rfl⟩)
theorem Sc.drew {g : Nat} {s : ByteArray} {i : Nat} {fa fe : Int} {w : World} (h : Sc g s i fa fe w) : Sc g s i fa fe w.drew := h.keep (fun _ _ => rfl)
theorem Sc.alloc {g : Nat} {s : ByteArray} {i : Nat} {fa fe : Int} {w : World} (h : Sc g s i fa fe w) (o : Obj) : Sc g s i fa fe (w.alloc o) := h.keep (fun k hk => Lib.alloc_old w o k hk)
theorem Sc.at_ {g : Nat} {s : ByteArray} {i : Nat} {fa fe : Int} {w : World} (h : Sc g s i fa fe w) (j : Nat) : Sc g s j fa fe (w.setCell ⟨g, 1, none⟩ (.int .i64 j)) := by
  unfold Sc at *; simp [World.setCell, Array.getElem?_modify, h]
theorem Sc.atv {g : Nat} {s : ByteArray} {i : Nat} {fa fe : Int} {w : World} (h : Sc g s i fa fe w) (j : Nat) (v : Int) (hv : v = j) : Sc g s j fa fe (w.setCell ⟨g, 1, none⟩ (.int .i64 v)) := by
  subst hv; exact h.at_ j
theorem Sc.fail_ {g : Nat} {s : ByteArray} {i : Nat} {fa fe : Int} {w : World} (h : Sc g s i fa fe w) (a b : Int) : Sc g s i a b ((w.setCell ⟨g, 2, none⟩ (.int .i64 a)).setCell ⟨g, 3, none⟩ (.int .i64 b)) := by
  unfold Sc at *; simp [World.setCell, Array.getElem?_modify, h]
theorem Sc.far {g : Nat} {s : ByteArray} {i : Nat} {fa fe : Int} {w : World} (h : Sc g s i fa fe w) (p : Addr) (hp : g ≠ p.block) (v : Value) : Sc g s i fa fe (w.setCell p v) := (Below.heap_setCell w p v g hp).trans h
theorem Kp.refl (g : Nat) (w : World) : Kp g w w := ⟨rfl, rfl, rfl, Nat.le_refl _, fun _ _ _ => rfl⟩
theorem Kp.trans {g : Nat} {a b c : World} (h : Kp g a b) (k : Kp g b c) : Kp g a c :=
  ⟨k.os.trans h.os, k.tape.trans h.tape, k.output.trans h.output, Nat.le_trans h.size k.size, fun i hi hg => (k.block i (Nat.lt_of_lt_of_le hi h.size) hg).trans (h.block i hi hg)⟩
theorem Kp.of_below {g : Nat} {a b : World} (h : Below a.heap.size a b) : Kp g a b := ⟨h.os, h.tape, h.output, h.size, fun i hi _ => h.block i hi⟩
theorem Kp.below {g : Nat} {a b c : World} (h : Kp g a b) (k : Below b.heap.size b c) : Kp g a c := h.trans (.of_below k)
theorem Kp.drewN {g : Nat} {a b : World} (h : Kp g a b) (n : Nat) : Kp g a (b.drewN n) := h.below (Drawn0.below ⟨n, rfl⟩)
theorem Kp.drew {g : Nat} {a b : World} (h : Kp g a b) : Kp g a b.drew := h.below (Below.refl _ _).drew
theorem Kp.alloc {g : Nat} {a b : World} (h : Kp g a b) (o : Obj) : Kp g a (b.alloc o) := h.below ((Below.refl _ _).alloc (Nat.le_refl _) _)
theorem Kp.setCell {g : Nat} {a b : World} (h : Kp g a b) (j : Nat) (v : Value) : Kp g a (b.setCell ⟨g, j, none⟩ v) := by
  refine h.trans ⟨?_, ?_, ?_, ?_, fun i _ hg => Below.heap_setCell b ⟨g, j, none⟩ v i (fun e => hg (by rw [e]))⟩
  · exact ((Below.refl 0 b).setCell (p := ⟨g, j, none⟩) (Nat.zero_le _) v).os
  · exact ((Below.refl 0 b).setCell (p := ⟨g, j, none⟩) (Nat.zero_le _) v).tape
  · exact ((Below.refl 0 b).setCell (p := ⟨g, j, none⟩) (Nat.zero_le _) v).output
  · exact ((Below.refl 0 b).setCell (p := ⟨g, j, none⟩) (Nat.zero_le _) v).size
/-- A store into a block that is new since a. -/
theorem Kp.setNew {g : Nat} {a b : World} (h : Kp g a b) (p : Addr) (hp : a.heap.size ≤ p.block) (v : Value) : Kp g a (b.setCell p v) := by
  have k := (Below.refl a.heap.size b).setCell hp v
  exact ⟨k.os.trans h.os, k.tape.trans h.tape, k.output.trans h.output, Nat.le_trans h.size k.size, fun i hi hg => (k.block i hi).trans (h.block i hi hg)⟩

def FailP (g : Nat) (s : ByteArray) (i : Nat) (a b : Int) (w : World) (e : Ending) (w' : World) : Prop := e = .returned (.bool false) ∧ Sc g s i a b w' ∧ Kp g w w'
set_option maxHeartbeats 1000000 in
theorem fail_calls (g : Nat) (s : ByteArray) (i : Nat) (fa fe a b : Int) (w : World) (h : Sc g s i fa fe w) :
    Calls Tryd.prog 14 #[.pointer (some ⟨g, 0, none⟩), .int .i64 a, .int .i64 b] w (FailP g s i a b w) := by
  have c2 := h.c2; have c3 := h.c3; have f2 := h.fz 2; have f3 := h.fz 3
  have H := Lib.hid h
  clear h
  go_enter Tryd.func14, Tryd.ntmps14
  go_wp2
  go_ret
  exact ⟨rfl, H.out.fail_ a b, ((Kp.refl g w).setCell 2 _).setCell 3 _⟩

theorem drop_data (s : ByteArray) (p : Nat) : (s.extract p s.size).data.toList = s.data.toList.drop p := by
  rw [ByteArray.data_extract, Array.toList_extract, List.extract_eq_drop_take', List.take_of_length_le (by rw [size_eq]; exact Nat.le_refl _)]
set_option maxHeartbeats 1000000 in
theorem here_calls (g : Nat) (s t : ByteArray) (i : Nat) (fa fe : Int) (w : World) (h : Sc g s i fa fe w) (hi : i ≤ s.size) (_hs : s.size ≤ 140737488351232) :
    Calls Tryd.prog 40 #[.pointer (some ⟨g, 0, none⟩), .string t] w fun e w' => e = .returned (.bool (t.data.toList.isPrefixOf (s.data.toList.drop i))) ∧ Drawn0 w w' := by
  have c0 := h.c0; have c1 := h.c1
  clear h
  have e1 : (0 : Int) ≤ (i : Int) := by omega
  have e2 : (i : Int) ≤ (s.size : Int) := by omega
  have hd := drop_data s i
  have HD := Lib.hid hd
  clear hd
  go_enter Tryd.func40, Tryd.ntmps40
  go_wp2_with fail
  go_quiet ((go_at_call 56; exact Calls.quiet_of_same (Tryd.strings_HasPrefix _ _ _)))
  all_goals go_wp2
  all_goals go_ret
  all_goals exact ⟨by rw [← HD.out]; rfl, ⟨_, rfl⟩⟩

def TakeP (g : Nat) (s : ByteArray) (i j : Nat) (k fa fe : Int) (w : World) (e : Ending) (w' : World) : Prop :=
  e = .returned (.agg #[.int .i64 k, .int .i64 i, .int .i64 j, .string (s.extract i j), .int .i64 0]) ∧ Sc g s j fa fe w' ∧ Kp g w w'
set_option maxHeartbeats 2000000 in
set_option maxRecDepth 100000 in
theorem take_calls (g : Nat) (s : ByteArray) (i j : Nat) (k fa fe : Int) (w : World) (h : Sc g s i fa fe w) (hi : i ≤ j) (hj : j ≤ s.size) :
    Calls Tryd.prog 47 #[.pointer (some ⟨g, 0, none⟩), .int .i64 k, .int .i64 j] w (TakeP g s i j k fa fe w) := by
  have H := Lib.hid h
  have hlt := h.lt
  have c0 := h.c0; have c1 := h.c1; have f1 := h.fz 1
  have e1 : (0 : Int) ≤ (i : Int) := by omega
  have e2 : (i : Int) ≤ (j : Int) := by omega
  have e3 : (j : Int) ≤ (s.size : Int) := by omega
  have hne : ¬ w.heap.size = g := by omega
  have hne1 : ¬ w.heap.size + 1 = g := by omega
  clear h
  go_enter Tryd.func47, Tryd.ntmps47
  go_wp2_with fail
  go_region
  all_goals go_wp2
  all_goals exact bodyPost_ret (v := .agg #[.int .i64 k, .int .i64 i, .int .i64 j, .string (s.extract i j), .int .i64 0]) (by simp [results, Tryd.results47, go_sem]) rfl ⟨rfl, (((H.out.at_ j).alloc _).alloc _).drew, ((((Kp.refl g w).setCell 1 _).alloc _).alloc _).drew⟩

/-- What a note's loop comes to: its end; or the fault at its begin. -/
def NoteP (g : Nat) (s : ByteArray) (i : Nat) (o : Option Nat) (fa fe : Int) (w : World) (e : Ending) (w' : World) : Prop :=
  (∃ n, o = some n ∧ e = .returned (.bool true) ∧ Sc g s (i + n) fa fe w' ∧ Kp g w w') ∨ (∃ j, o = none ∧ e = .returned (.bool false) ∧ Sc g s j i 23 w' ∧ Kp g w w')
theorem pre2 (a b : UInt8) (l : List UInt8) : ([a, b] : List UInt8).isPrefixOf l = decide (l.take 2 = [a, b]) := by
  match l with
  | [] => rfl
  | [x] => simp [List.isPrefixOf]
  | x :: y :: t => simp [List.isPrefixOf]; rw [Bool.eq_iff_iff]; simp; exact ⟨fun ⟨h1, h2⟩ => ⟨h1.symm, h2.symm⟩, fun ⟨h1, h2⟩ => ⟨h1.symm, h2.symm⟩⟩
theorem take2_len {a b : UInt8} {l : List UInt8} (h : l.take 2 = [a, b]) : 2 ≤ l.length := by
  have := congrArg List.length h; rw [List.length_take] at this; simp at this; omega
theorem map_map (o : Option Nat) (a b : Nat) : (o.map (· + a)).map (· + b) = o.map (· + (b + a)) := by
  rw [Option.map_map]; congr 1; funext x; simp only [Function.comp]; omega
set_option maxHeartbeats 4000000 in
set_option maxRecDepth 100000 in
theorem note_calls (g : Nat) (s : ByteArray) (i : Nat) (fa fe : Int) (w : World) (h : Sc g s i fa fe w) (hi : i ≤ s.size) (hs : s.size ≤ 140737488351232) (hb : (s.data.toList.drop i).take 2 = [123, 45]) :
    Calls Tryd.prog 43 #[.pointer (some ⟨g, 0, none⟩)] w (NoteP g s i (noteL (s.data.toList.drop i) 0) fa fe w) := by
  have c0 := h.c0; have c1 := h.c1; have f1 := h.fz 1
  have H := Lib.hid h
  have HB := Lib.hid hb
  clear h hb
  go_enter Tryd.func43, Tryd.ntmps43
  go_wp2_with fail
  go_step3
  go_wp2_with fail
  go_step3
  go_wp2_with fail
  go_loopg [4] (s.size - i) (fun kq v wr => ∃ d n : Nat, v = .int .i64 d ∧ kq = s.size - (i + n) ∧ i + n ≤ s.size ∧ d ≤ 100 ∧ Hid (d = 0 → n = 0) ∧ Hid (Sc g s (i + n) fa fe wr) ∧ Hid (Kp g w wr) ∧ Hid (noteL (s.data.toList.drop i) 0 = (noteL (s.data.toList.drop (i + n)) d).map (· + n)))
  case atStart => exact ⟨0, 0, rfl, rfl, hi, by omega, Lib.hid (fun _ => rfl), H, Lib.hid (Kp.refl g w), Lib.hid (by simp)⟩
  case round =>
    obtain ⟨d, n, rfl, hk, hn, hd, HZ, HS, HK, HE⟩ := hrel
    have HKq := Lib.hid hk
    clear hk c0 c1 f1
    have c0 := HS.out.c0; have c1 := HS.out.c1; have f1 := HS.out.fz 1
    by_cases hlt : i + n < s.size
    · have hne : s.data.toList.drop (i + n) ≠ [] := by
        intro e; have := congrArg List.length e; rw [List.length_drop, ← size_eq] at this; simp at this; omega
      have HE2 := Lib.hid (noteL_step (s.data.toList.drop (i + n)) d hne)
      clear hne
      have e2 : ((i + n : Nat) : Int) < (s.size : Int) := by omega
      by_cases hA : (s.data.toList.drop (i + n)).take 2 = [123, 45]
      · have HA : Hid ((([123, 45] : List UInt8).isPrefixOf (s.data.toList.drop (i + n))) = true) := Lib.hid (by rw [pre2, hA]; simp)
        have hE3 := HE.out
        rw [HE2.out, if_pos hA] at hE3
        have h2 := take2_len hA
        rw [List.length_drop, ← size_eq] at h2
        clear hA HE HE2
        by_cases hd2 : 100 < d + 1
        · rw [if_pos hd2] at hE3
          have HE3 := Lib.hid hE3
          clear hE3
          have hd3 : (100 : Int) < (d : Int) + 1 := by omega
          go_wp2_with fail
          go_region
          go_wp2_with fail
          refine (here_calls g s ⟨#[123, 45]⟩ (i + n) fa fe _ (HS.out.drewN 1) hn hs).mono ?_
          rintro e w2 ⟨rfl, ⟨nd, rfl⟩⟩
          rw [HA.out]
          go_wp2_with fail
          refine (fail_calls g s (i + n + 2) fa fe i 23 _ ((HS.out.drewN _).atv _ _ (by omega))).mono ?_
          rintro e w3 ⟨rfl, hS3, hK3⟩
          go_wp2_with fail
          try rw [Exit.noGoto_ret]
          go_ret
          exact .inr ⟨_, HE3.out, rfl, hS3, ((HK.out.drewN _).setCell 1 _).trans hK3⟩
        · rw [if_neg hd2, List.drop_drop, map_map] at hE3
          have HE3 : Hid (noteL (s.data.toList.drop i) 0 = (noteL (s.data.toList.drop (i + (n + 2))) (d + 1)).map (· + (n + 2))) := Lib.hid (by rw [hE3]; rfl)
          clear hE3
          have hd3 : (d : Int) + 1 ≤ 100 := by omega
          go_wp2_with fail
          go_region
          go_wp2_with fail
          refine (here_calls g s ⟨#[123, 45]⟩ (i + n) fa fe _ (HS.out.drewN 1) hn hs).mono ?_
          rintro e w2 ⟨rfl, ⟨nd, rfl⟩⟩
          rw [HA.out]
          go_wp2_with fail
          go_roundg (s.size - (i + (n + 2)))
          case rel => exact ⟨d + 1, n + 2, by go_num, rfl, by omega, by omega, Lib.hid (fun h => by omega), Lib.hid ((HS.out.drewN _).atv _ _ (by omega)), Lib.hid ((HK.out.drewN _).setCell 1 _), HE3⟩
          case measure => rw [HKq.out]; omega
      · have HA : Hid ((([123, 45] : List UInt8).isPrefixOf (s.data.toList.drop (i + n))) = false) := Lib.hid (by rw [pre2]; simpa using hA)
        by_cases hA2 : (s.data.toList.drop (i + n)).take 2 = [45, 125]
        · have HA2 : Hid ((([45, 125] : List UInt8).isPrefixOf (s.data.toList.drop (i + n))) = true) := Lib.hid (by rw [pre2, hA2]; simp)
          have hE3 := HE.out
          rw [HE2.out, if_neg hA, if_pos hA2] at hE3
          have h2 := take2_len hA2
          rw [List.length_drop, ← size_eq] at h2
          have hd1 : 1 ≤ d := by
            rcases Nat.eq_zero_or_pos d with h | h
            · exfalso; apply hA; rw [HZ.out h]; exact HB.out
            · exact h
          clear hA hA2 HE HE2
          by_cases hd2 : d = 1
          · rw [if_pos hd2] at hE3
            have HE3 : Hid (noteL (s.data.toList.drop i) 0 = some (n + 2)) := Lib.hid (by rw [hE3]; simp; omega)
            clear hE3
            have hd3 : ((d : Int) - 1 == 0) = true := by rw [hd2]; rfl
            clear hd2
            go_wp2_with fail
            go_region
            go_wp2_with fail
            refine (here_calls g s ⟨#[123, 45]⟩ (i + n) fa fe _ (HS.out.drewN 1) hn hs).mono ?_
            rintro e w2 ⟨rfl, ⟨nd, rfl⟩⟩
            rw [HA.out]
            go_wp2_with fail
            refine (here_calls g s ⟨#[45, 125]⟩ (i + n) fa fe _ (HS.out.drewN _) hn hs).mono ?_
            rintro e w3 ⟨rfl, ⟨nd2, rfl⟩⟩
            rw [HA2.out]
            go_wp2_with fail
            try rw [Exit.noGoto_ret]
            go_ret
            exact .inl ⟨_, HE3.out, rfl, (HS.out.drewN _).atv _ _ (by omega), (HK.out.drewN _).setCell 1 _⟩
          · rw [if_neg hd2, List.drop_drop, map_map] at hE3
            have HE3 : Hid (noteL (s.data.toList.drop i) 0 = (noteL (s.data.toList.drop (i + (n + 2))) (d - 1)).map (· + (n + 2))) := Lib.hid (by rw [hE3]; rfl)
            clear hE3
            have hd3 : ((d : Int) - 1 == 0) = false := beq_eq_false_iff_ne.2 (by omega)
            have hd4 : 2 ≤ d := by omega
            clear hd2
            go_wp2_with fail
            go_region
            go_wp2_with fail
            refine (here_calls g s ⟨#[123, 45]⟩ (i + n) fa fe _ (HS.out.drewN 1) hn hs).mono ?_
            rintro e w2 ⟨rfl, ⟨nd, rfl⟩⟩
            rw [HA.out]
            go_wp2_with fail
            refine (here_calls g s ⟨#[45, 125]⟩ (i + n) fa fe _ (HS.out.drewN _) hn hs).mono ?_
            rintro e w3 ⟨rfl, ⟨nd2, rfl⟩⟩
            rw [HA2.out]
            go_wp2_with fail
            go_roundg (s.size - (i + (n + 2)))
            case rel => exact ⟨d - 1, n + 2, by rw [show ((d - 1 : Nat) : Int) = (d : Int) - 1 by omega], rfl, by omega, by omega, Lib.hid (fun h => by omega), Lib.hid ((HS.out.drewN _).atv _ _ (by omega)), Lib.hid ((HK.out.drewN _).setCell 1 _), HE3⟩
            case measure => rw [HKq.out]; omega
        · have HA2 : Hid ((([45, 125] : List UInt8).isPrefixOf (s.data.toList.drop (i + n))) = false) := Lib.hid (by rw [pre2]; simpa using hA2)
          have hE3 := HE.out
          rw [HE2.out, if_neg hA, if_neg hA2, List.drop_drop, map_map] at hE3
          have HE3 : Hid (noteL (s.data.toList.drop i) 0 = (noteL (s.data.toList.drop (i + (n + 1))) d).map (· + (n + 1))) := Lib.hid (by rw [hE3]; rfl)
          have HZ2 : Hid (d = 0 → n + 1 = 0) := Lib.hid (fun h => absurd (by rw [HZ.out h]; exact HB.out) hA)
          clear hA hA2 HE HE2 hE3
          go_wp2_with fail
          go_region
          go_wp2_with fail
          refine (here_calls g s ⟨#[123, 45]⟩ (i + n) fa fe _ (HS.out.drewN 1) hn hs).mono ?_
          rintro e w2 ⟨rfl, ⟨nd, rfl⟩⟩
          rw [HA.out]
          go_wp2_with fail
          refine (here_calls g s ⟨#[45, 125]⟩ (i + n) fa fe _ (HS.out.drewN _) hn hs).mono ?_
          rintro e w3 ⟨rfl, ⟨nd2, rfl⟩⟩
          rw [HA2.out]
          go_wp2_with fail
          go_roundg (s.size - (i + (n + 1)))
          case rel => exact ⟨d, n + 1, rfl, rfl, by omega, by omega, HZ2, Lib.hid ((HS.out.drewN _).atv _ _ (by omega)), Lib.hid ((HK.out.drewN _).setCell 1 _), HE3⟩
          case measure => rw [HKq.out]; omega
    · have e2 : ¬ ((i + n : Nat) : Int) < (s.size : Int) := by omega
      have HE3 : Hid (noteL (s.data.toList.drop i) 0 = none) := Lib.hid (by
        rw [HE.out, List.drop_of_length_le (by rw [← size_eq]; omega), noteL_nil]; rfl)
      clear HE
      go_wp2_with fail
      go_region
      go_wp2_with fail
      refine (fail_calls g s (i + n) fa fe i 23 _ (HS.out.drewN 1)).mono ?_
      rintro e w3 ⟨rfl, hS3, hK3⟩
      go_wp2_with fail
      try rw [Exit.noGoto_ret]
      go_ret
      exact .inr ⟨_, HE3.out, rfl, hS3, (HK.out.drewN 1).trans hK3⟩
end Go.Proofs.YtiioanpmfpefcaaDoor.Tok
/- A word, an operator. -/
namespace Go.Proofs.YtiioanpmfpefcaaDoor.Tok
open Go.RowKit Go.Proofs.YtiioanpmfpefcaaDoor.P Go.Proofs.YtiioanpmfpefcaaDoorW.PrintWords

/-- What stands at a place: a fault (so far behind it, and which); or a token (its kind, its length, its text, its number). -/
inductive One where
  | bad (d : Nat) (e : Int)
  | tok (k : Int) (len : Nat) (text : List UInt8) (n : Int)
def OneP (g : Nat) (s : ByteArray) (i : Nat) (r : One) (fa fe : Int) (w : World) (e : Ending) (w' : World) : Prop :=
  match r with
  | .bad d er => e = .returned (.tuple #[.agg #[.int .i64 0, .int .i64 0, .int .i64 0, .string ⟨#[]⟩, .int .i64 0], .bool false]) ∧ Sc g s i ((i + d : Nat) : Int) er w' ∧ Kp g w w'
  | .tok k n t v => e = .returned (.tuple #[.agg #[.int .i64 k, .int .i64 i, .int .i64 ((i + n : Nat) : Int), .string ⟨t.toArray⟩, .int .i64 v], .bool true]) ∧ Sc g s (i + n) fa fe w' ∧ Kp g w w'
/-- A chain of tests against texts. -/
def chain : List (List UInt8) → List UInt8 → Option Bool
  | [], _ => some false
  | x :: xs, l => if l = x then some true else chain xs l
theorem chain_eq (l : List UInt8) : ∀ xs : List (List UInt8), chain xs l = some (decide (l ∈ xs))
  | [] => by simp [chain]
  | x :: xs => by
    unfold chain
    rw [chain_eq l xs]
    by_cases h : l = x
    · simp [h]
    · simp [h]
def keys : List (List UInt8) := [[99, 97, 115, 101], [100, 97, 116, 97], [101, 108, 115, 101], [105, 102], [105, 110], [108, 101, 116], [111, 102], [116, 104, 101, 110]]
def sigs : List (List UInt8) := [[43], [45], [42], [47], [37], [61, 61], [47, 61], [60], [60, 61], [62], [62, 61], [38, 38], [124, 124], [58], [43, 43], [61], [124], [45, 62], [92], [58, 58], [46]]
def isKey (l : List UInt8) : Bool := decide (l ∈ keys)
def isSig (l : List UInt8) : Bool := decide (l ∈ sigs)
theorem key_f (t : ByteArray) : token_key.f t = some (isKey t.data.toList) := by
  rw [show token_key.f t = chain keys t.toList from rfl, chain_eq, ByteArray.toList_eq]; rfl
theorem sig_f (t : ByteArray) : token_Sign.f t = some (isSig t.data.toList) := by
  rw [show token_Sign.f t = chain sigs t.toList from rfl, chain_eq, ByteArray.toList_eq]; rfl
theorem key_calls (t : ByteArray) (w : World) : Calls Tryd.prog 58 #[.string t] w fun e w' => e = .returned (.bool (isKey t.data.toList)) ∧ Drawn0 w w' := token_key.calls t _ w (key_f t)
theorem sig_calls (t : ByteArray) (w : World) : Calls Tryd.prog 62 #[.string t] w fun e w' => e = .returned (.bool (isSig t.data.toList)) ∧ Drawn0 w w' := token_Sign.calls t _ w (sig_f t)
theorem extract_eq (s : ByteArray) (i n : Nat) : s.extract i (i + n) = ⟨((s.data.toList.drop i).take n).toArray⟩ := by
  apply ByteArray.ext
  apply Array.toList_inj.1
  rw [ByteArray.data_extract, Array.toList_extract, List.extract_eq_drop_take', List.drop_take]
  simp [Nat.add_sub_cancel_left]
theorem Lib.heap_lt {w : World} {z : Nat} {o : Obj} (h : w.heap[z]? = some o) : z < w.heap.size := (Array.getElem?_eq_some_iff.1 h).1
theorem Kp.blk {g : Nat} {a b : World} (h : Kp g a b) {z : Nat} (hz : z < a.heap.size) (hg : ¬ z = g) : b.heap[z]? = a.heap[z]? := h.block z hz (fun e => hg (by simpa using e))
/-- The cell of a token that is not yet there. -/
def zt : Obj := Obj.cells #[Value.int IntKind.i64 0, Value.int IntKind.i64 0, Value.int IntKind.i64 0, Value.string { data := #[] }, Value.int IntKind.i64 0] 41
theorem zt_new (w : World) : (w.alloc zt).heap[w.heap.size]? = some zt := by unfold World.alloc; exact Array.getElem?_push_size
/-- A token's cell. -/
def tk (k i j : Int) (t : ByteArray) (n : Int) : Obj := Obj.cells #[.int .i64 k, .int .i64 i, .int .i64 j, .string t, .int .i64 n] 41
theorem tk_cells {w : World} {z : Nat} {k i j : Int} {t : ByteArray} {n : Int} (h : w.heap[z]? = some (tk k i j t n)) :
    (w.cell? ⟨z, 0, none⟩ = some (.int .i64 k) ∧ w.cell? ⟨z, 1, none⟩ = some (.int .i64 i) ∧ w.cell? ⟨z, 2, none⟩ = some (.int .i64 j) ∧ w.cell? ⟨z, 3, none⟩ = some (.string t) ∧ w.cell? ⟨z, 4, none⟩ = some (.int .i64 n)) ∧
    w.frozen? ⟨z, 0, none⟩ = false ∧ w.frozen? ⟨z, 1, none⟩ = false ∧ w.frozen? ⟨z, 2, none⟩ = false ∧ w.frozen? ⟨z, 3, none⟩ = false ∧ w.frozen? ⟨z, 4, none⟩ = false := by
  unfold tk at h
  refine ⟨⟨?_, ?_, ?_, ?_, ?_⟩, ?_, ?_, ?_, ?_, ?_⟩ <;> first | exact Lib.frozen_of_heap h _ | (rw [Lib.cell_of_heap h]; rfl)
theorem Sc.set5 {g : Nat} {s : ByteArray} {i : Nat} {fa fe : Int} {w : World} (h : Sc g s i fa fe w) {z : Nat} (hz : ¬ g = z) (a b c d e : Value) : Sc g s i fa fe (((((w.setCell ⟨z, 0, none⟩ a).setCell ⟨z, 1, none⟩ b).setCell ⟨z, 2, none⟩ c).setCell ⟨z, 3, none⟩ d).setCell ⟨z, 4, none⟩ e) :=
  ((((h.far _ hz _).far _ hz _).far _ hz _).far _ hz _).far _ hz _
theorem Kp.set5 {g : Nat} {a b : World} (h : Kp g a b) {z : Nat} (hz : a.heap.size ≤ z) (v0 v1 v2 v3 v4 : Value) : Kp g a (((((b.setCell ⟨z, 0, none⟩ v0).setCell ⟨z, 1, none⟩ v1).setCell ⟨z, 2, none⟩ v2).setCell ⟨z, 3, none⟩ v3).setCell ⟨z, 4, none⟩ v4) :=
  ((((h.setNew _ hz _).setNew _ hz _).setNew _ hz _).setNew _ hz _).setNew _ hz _
theorem zt_tk : zt = tk 0 0 0 ⟨#[]⟩ 0 := rfl
def wordL (k : Int) (l : List UInt8) : One :=
  if 32 < runL isInner l then .bad 0 6 else .tok (if isKey (l.take (runL isInner l)) then 8 else k) (runL isInner l) (l.take (runL isInner l)) 0
theorem inner_enters : ∀ args w, (callFunc 57 args).run Tryd.prog w = .ok (.enter 57 args) w := enters_of Tryd.func57 (by kernel_rfl) rfl
theorem quiet_run0 (G : Nat) (p : UInt8 → Bool) (eg : ∀ args w, (callFunc G args).run Tryd.prog w = .ok (.enter G args) w)
    (hp : ∀ (c : UInt8) W, Calls Tryd.prog G #[.int .u8 c.toNat] W fun e w' => e = .returned (.bool (p c)) ∧ Drawn0 W w')
    (s : ByteArray) (i : Nat) (w : World) (hs : s.size ≤ 140737488351232) (hi : i ≤ s.size) (n : Nat) :
    Calls Tryd.prog 41 #[.string s, .int .i64 i, .func (.func G) #[] #[]] (w.drewN n) fun e w'' => e = .returned (.int .i64 (runL p (s.data.toList.drop i) : Nat)) ∧ ∃ m, w'' = w.drewN m :=
  Calls.quiet_of ((run_calls G p eg hp s i _ hs hi).mono fun _ _ ⟨he, hd⟩ => ⟨he, dr hd⟩)

set_option maxHeartbeats 4000000 in
set_option maxRecDepth 100000 in
theorem word_calls (g : Nat) (s : ByteArray) (i : Nat) (k fa fe : Int) (w : World) (h : Sc g s i fa fe w) (hi : i ≤ s.size) (hs : s.size ≤ 140737488351232) :
    Calls Tryd.prog 44 #[.pointer (some ⟨g, 0, none⟩), .int .i64 k] w (OneP g s i (wordL k (s.data.toList.drop i)) fa fe w) := by
  have H := Lib.hid h
  have hlt := h.lt
  have hr2 := runL_le isInner (s.data.toList.drop i)
  rw [List.length_drop, ← size_eq] at hr2
  clear h
  go_enter Tryd.func44, Tryd.ntmps44
  go_wp2_with fail
  rw [← zt]
  have HSq := Lib.hid (H.out.alloc zt)
  have HKq := Lib.hid ((Kp.refl g w).alloc zt)
  have hz := zt_new w
  have hls : w.heap.size < (w.alloc zt).heap.size := Lib.heap_lt (zt_new w)
  have hne : ¬ w.heap.size = g := by omega
  generalize w.alloc zt = wq at HSq HKq hz hls ⊢
  have HZ := Lib.hid hz
  clear hz
  have c0 := HSq.out.c0; have c1 := HSq.out.c1
  go_quiet ((go_at_call 41; exact quiet_run0 57 isInner inner_enters inner_calls s i _ hs (by omega) _))
  by_cases hc : (runL isInner (s.data.toList.drop i) : Int) ≤ 32
  · go_wp2_with fail
    refine (take_calls g s i (i + runL isInner (s.data.toList.drop i)) k fa fe _ (HSq.out.drewN _) (by omega) (by omega)).mono ?_
    rintro e w2 ⟨rfl, hS2, hK2⟩
    have hz2 := (hK2.blk (z := w.heap.size) hls hne).trans HZ.out
    have hKw := Lib.hid ((HKq.out.drewN _).trans hK2)
    have hS2' := Lib.hid hS2
    have hz2l := Lib.heap_lt hz2
    have hg2 := hS2.lt
    clear hS2 hK2
    rw [extract_eq]
    generalize hl : (s.data.toList.drop i).take (runL isInner (s.data.toList.drop i)) = l
    have hcr : wordL k (s.data.toList.drop i) = .tok (if isKey l then 8 else k) (runL isInner (s.data.toList.drop i)) l 0 := by
      unfold wordL; rw [if_neg (by omega), hl]
    have Hcr := Lib.hid hcr
    clear c0 c1 hcr
    generalize hr : runL isInner (s.data.toList.drop i) = r at *
    go_wp2_with fail
    have e5 : (tk k i ((i : Int) + r) ⟨l.toArray⟩ 0) = Obj.cells #[.int .i64 k, .int .i64 i, .int .i64 ((i : Int) + r), .string ⟨l.toArray⟩, .int .i64 0] 41 := rfl
    rw [← e5]
    have hS3 := Lib.hid (hS2'.out.alloc (tk k i ((i : Int) + r) ⟨l.toArray⟩ 0))
    have hK3 := Lib.hid (hKw.out.alloc (tk k i ((i : Int) + r) ⟨l.toArray⟩ 0))
    have ht3 : (w2.alloc (tk k i ((i : Int) + r) ⟨l.toArray⟩ 0)).heap[w2.heap.size]? = some (tk k i ((i : Int) + r) ⟨l.toArray⟩ 0) := by unfold World.alloc; exact Array.getElem?_push_size
    have hz3 := (Lib.alloc_old w2 (tk k i ((i : Int) + r) ⟨l.toArray⟩ 0) _ hz2l).trans hz2
    generalize w2.alloc (tk k i ((i : Int) + r) ⟨l.toArray⟩ 0) = w3 at hS3 hK3 ht3 hz3 ⊢
    refine (key_calls _ _).mono ?_
    rintro e w4 ⟨rfl, hd4⟩
    have hd4' := hd4.below
    have ht4 := (hd4'.block _ (Lib.heap_lt ht3)).trans ht3
    have hz4 := (hd4'.block _ (Lib.heap_lt hz3)).trans hz3
    have hS4 := Lib.hid (hS3.out.below hd4')
    have hK4 := Lib.hid (hK3.out.below hd4')
    clear hd4 hd4' ht3 hz3 hz2
    obtain ⟨⟨z0, z1, z2, z3, z4⟩, f0, f1, f2, f3, f4⟩ := tk_cells (zt_tk ▸ hz4)
    obtain ⟨⟨t0, t1, t2, t3, t4⟩, k0, k1, k2, k3, k4⟩ := tk_cells ht4
    have hnl : w.heap.size ≤ w2.heap.size := by omega
    have hn1 : ¬ w.heap.size = w2.heap.size := by omega
    have hn2 : ¬ w2.heap.size = w.heap.size := by omega
    have hn3 : ¬ g = w2.heap.size := by omega
    have hn4 : ¬ g = w.heap.size := by omega
    clear ht4 hz4 HZ HSq HKq
    show _
    cases hk : isKey l with
    | true =>
      go_wp2_with fail
      exact bodyPost_ret (v := .tuple #[.agg #[.int .i64 8, .int .i64 i, .int .i64 ((i : Int) + r), .string ⟨l.toArray⟩, .int .i64 0], .bool true]) (by simp [results, Tryd.results44, go_sem, *]) rfl (by rw [Hcr.out, if_pos hk]; exact ⟨rfl, (hS4.out.far _ hn3 _).set5 hn4 _ _ _ _ _, (hK4.out.setNew _ hnl _).set5 (Nat.le_refl _) _ _ _ _ _⟩)
    | false =>
      go_wp2_with fail
      exact bodyPost_ret (v := .tuple #[.agg #[.int .i64 k, .int .i64 i, .int .i64 ((i : Int) + r), .string ⟨l.toArray⟩, .int .i64 0], .bool true]) (by simp [results, Tryd.results44, go_sem, *]) rfl (by rw [Hcr.out, if_neg (by rw [hk]; exact Bool.false_ne_true)]; exact ⟨rfl, hS4.out.set5 hn4 _ _ _ _ _, hK4.out.set5 (Nat.le_refl _) _ _ _ _ _⟩)
  · have hcr : wordL k (s.data.toList.drop i) = .bad 0 6 := by unfold wordL; rw [if_pos (by omega)]
    have Hcr := Lib.hid hcr
    clear hcr
    go_wp2_with fail
    refine (fail_calls g s i fa fe i 6 _ (HSq.out.drewN _)).mono ?_
    rintro e w3 ⟨rfl, hS3, hK3⟩
    have hz3 := (hK3.blk (z := w.heap.size) hls hne).trans HZ.out
    obtain ⟨⟨z0, z1, z2, z3, z4⟩, f0, f1, f2, f3, f4⟩ := tk_cells (zt_tk ▸ hz3)
    have hKw := Lib.hid ((HKq.out.drewN _).trans hK3)
    have hS3' := Lib.hid hS3
    have hn4 : ¬ g = w.heap.size := by omega
    clear hS3 hK3 hz3
    go_wp2_with fail
    exact bodyPost_ret (v := .tuple #[.agg #[.int .i64 0, .int .i64 0, .int .i64 0, .string ⟨#[]⟩, .int .i64 0], .bool false]) (by simp [results, Tryd.results44, go_sem, *]) rfl (by rw [Hcr.out]; exact ⟨rfl, hS3'.out.set5 hn4 _ _ _ _ _, hKw.out.set5 (Nat.le_refl _) _ _ _ _ _⟩)
end Go.Proofs.YtiioanpmfpefcaaDoor.Tok
/- An operator. -/
namespace Go.Proofs.YtiioanpmfpefcaaDoor.Tok
open Go.RowKit Go.Proofs.YtiioanpmfpefcaaDoor.P Go.Proofs.YtiioanpmfpefcaaDoorW.PrintWords

/-- The longest operator of at most so many bytes. -/
def opFrom : Nat → List UInt8 → One
  | 0, _ => .bad 0 20
  | n + 1, l => if isSig (l.take (n + 1)) then .tok 6 (n + 1) (l.take (n + 1)) 0 else opFrom n l
theorem opFrom_pos {n : Nat} (h : 0 < n) (l : List UInt8) : opFrom n l = if isSig (l.take n) then .tok 6 n (l.take n) 0 else opFrom (n - 1) l := by
  obtain ⟨m, rfl⟩ : ∃ m, n = m + 1 := ⟨n - 1, by omega⟩
  rfl
theorem quiet_sig (t : ByteArray) (w : World) (n : Nat) : Calls Tryd.prog 62 #[.string t] (w.drewN n) fun e w'' => e = .returned (.bool (isSig t.data.toList)) ∧ ∃ m, w'' = w.drewN m :=
  Calls.quiet_of ((sig_calls t _).mono fun _ _ ⟨he, hd⟩ => ⟨he, dr hd⟩)
def opL (l : List UInt8) : One := opFrom (min 2 l.length) l
set_option maxHeartbeats 4000000 in
set_option maxRecDepth 100000 in
theorem op_calls (g : Nat) (s : ByteArray) (i : Nat) (fa fe : Int) (w : World) (h : Sc g s i fa fe w) (hi : i < s.size) (hs : s.size ≤ 140737488351232) :
    Calls Tryd.prog 48 #[.pointer (some ⟨g, 0, none⟩)] w (OneP g s i (opL (s.data.toList.drop i)) fa fe w) := by
  have H := Lib.hid h
  have hlt := h.lt
  clear h
  go_enter Tryd.func48, Tryd.ntmps48
  go_wp2_with fail
  rw [← zt]
  have HSq := Lib.hid (H.out.alloc zt)
  have HKq := Lib.hid ((Kp.refl g w).alloc zt)
  have hz := zt_new w
  have hls : w.heap.size < (w.alloc zt).heap.size := Lib.heap_lt (zt_new w)
  have hne : ¬ w.heap.size = g := by omega
  generalize w.alloc zt = wq at HSq HKq hz hls ⊢
  have HZ := Lib.hid hz
  clear hz
  have c0 := HSq.out.c0; have c1 := HSq.out.c1
  have hN : Hid (opL (s.data.toList.drop i) = opFrom (min 2 (s.size - i)) (s.data.toList.drop i)) := Lib.hid (by unfold opL; rw [List.length_drop, ← size_eq])
  generalize hr : min 2 (s.size - i) = r at hN
  have e0 : (min 2 ((s.size : Int) - i)) = (r : Int) := by omega
  go_region
  have HSr := Lib.hid HSq.out.drew
  have HKr := Lib.hid HKq.out.drew
  have HZr : Hid (wq.drew.heap[w.heap.size]? = some zt) := Lib.hid HZ.out
  clear HSq HKq HZ c0 c1 hls e0
  generalize wq.drew = wp at HSr HKr HZr ⊢
  go_wp2_with fail
  go_loopg [4] r (fun kq v wr => ∃ n : Nat, v = .int .i64 n ∧ kq = n ∧ n ≤ r ∧ Hid (Sc g s i fa fe wr) ∧ Hid (Kp g w wr) ∧ Hid (wr.heap[w.heap.size]? = some zt) ∧ Hid (opL (s.data.toList.drop i) = opFrom n (s.data.toList.drop i)))
  case atStart => exact ⟨r, rfl, rfl, Nat.le_refl _, HSr, HKr, HZr, hN⟩
  case round =>
    obtain ⟨n, rfl, hk, hnr, HS, HK, HZ, HE⟩ := hrel
    have HKq := Lib.hid hk
    have HRq := Lib.hid hr
    clear hk HSr HKr HZr hN
    have c0 := HS.out.c0; have c1 := HS.out.c1
    rcases Nat.eq_zero_or_pos n with rfl | hpos
    · have hE := HE.out
      rw [opFrom] at hE
      have Hcr := Lib.hid hE
      clear HE hE
      have hls := Lib.heap_lt HZ.out
      have hn4 : ¬ g = w.heap.size := by omega
      go_wp2_with fail
      refine (fail_calls g s i fa fe i 20 _ (HS.out.drewN 0)).mono ?_
      rintro e w3 ⟨rfl, hS3, hK3⟩
      have hz3 := (hK3.blk (z := w.heap.size) hls hne).trans HZ.out
      obtain ⟨⟨z0, z1, z2, z3, z4⟩, f0, f1, f2, f3, f4⟩ := tk_cells (zt_tk ▸ hz3)
      have hKw := Lib.hid ((HK.out.drewN 0).trans hK3)
      have hS3' := Lib.hid hS3
      clear hS3 hK3 hz3
      go_wp2_with fail
      exact bodyPost_ret (v := .tuple #[.agg #[.int .i64 0, .int .i64 0, .int .i64 0, .string ⟨#[]⟩, .int .i64 0], .bool false]) (by simp [results, Tryd.results48, go_sem, *]) rfl (by rw [Hcr.out]; exact ⟨rfl, hS3'.out.set5 hn4 _ _ _ _ _, hKw.out.set5 (Nat.le_refl _) _ _ _ _ _⟩)
    · have hE := HE.out
      rw [opFrom_pos hpos] at hE
      have e1 : (0 : Int) ≤ (i : Int) := by omega
      have e3 : (i : Int) + (n : Int) ≤ (s.size : Int) := by omega
      have e4 : (0 : Int) < (n : Int) := by omega
      have e2 : (i : Int) ≤ (i : Int) + (n : Int) := by omega
      have e5 : (0 : Int) ≤ (n : Int) := by omega
      have e6 : (0 : Int) ≤ (i : Int) + (n : Int) := by omega
      have ew : IntKind.i64.wrap ((i : Int) + n) = (i : Int) + n := by rw [IntKind.wrap_i64]; omega
      have ex := extract_eq s i n
      generalize hl : (s.data.toList.drop i).take n = l at ex
      rw [hl] at hE
      clear HE
      have HL := Lib.hid hl
      clear hl
      cases hk : isSig l with
      | true =>
        rw [if_pos hk] at hE
        have Hcr := Lib.hid hE
        clear hE
        have Hk := Lib.hid hk
        go_wp2_with fail
        go_quiet ((go_at_call 62; exact quiet_sig _ _ _))
        rw [show isSig ({ data := l.toArray } : ByteArray).data.toList = true from Hk.out]
        go_wp2_with fail
        refine (take_calls g s i (i + n) 6 fa fe _ (HS.out.drewN _) (by omega) (by omega)).mono ?_
        rintro e w3 ⟨rfl, hS3, hK3⟩
        have hls := Lib.heap_lt HZ.out
        have hn4 : ¬ g = w.heap.size := by omega
        have hz3 := (hK3.blk (z := w.heap.size) hls hne).trans HZ.out
        obtain ⟨⟨z0, z1, z2, z3, z4⟩, f0, f1, f2, f3, f4⟩ := tk_cells (zt_tk ▸ hz3)
        have hKw := Lib.hid ((HK.out.drewN _).trans hK3)
        have hS3' := Lib.hid hS3
        clear hS3 hK3 hz3 c0 c1
        rw [ex]
        go_wp2_with fail
        exact bodyPost_ret (v := .tuple #[.agg #[.int .i64 6, .int .i64 i, .int .i64 ((i : Int) + n), .string ⟨l.toArray⟩, .int .i64 0], .bool true]) (by simp [results, Tryd.results48, go_sem, *]) rfl (by rw [Hcr.out]; exact ⟨rfl, hS3'.out.set5 hn4 _ _ _ _ _, hKw.out.set5 (Nat.le_refl _) _ _ _ _ _⟩)
      | false =>
        rw [if_neg (by rw [hk]; exact Bool.false_ne_true)] at hE
        have Hcr := Lib.hid hE
        clear hE
        have Hk := Lib.hid hk
        go_wp2_with fail
        go_quiet ((go_at_call 62; exact quiet_sig _ _ _))
        rw [show isSig ({ data := l.toArray } : ByteArray).data.toList = false from Hk.out]
        go_wp2_with fail
        go_roundg (n - 1)
        case rel => exact ⟨n - 1, by rw [show ((n - 1 : Nat) : Int) = (n : Int) - 1 by omega], rfl, by omega, Lib.hid (HS.out.drewN _), Lib.hid (HK.out.drewN _), Lib.hid HZ.out, Hcr⟩
        case measure => rw [HKq.out]; omega
end Go.Proofs.YtiioanpmfpefcaaDoor.Tok
