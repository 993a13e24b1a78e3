import Derived.Test.YtddmdiaopaoekaaDoorTyW
import Derived.Test.YtddmdiaopaoekaaDoorPx2
import Derived.Test.YtddmdiaopaoekaaDoorSq
namespace Go.Proofs.YtddmdiaopaoekaaDoor.P
open Go.RowKit Go.Proofs.YtddmdiaopaoekaaDoorW.PrintWords
set_option linter.unusedVariables false
theorem varsN_succ (n : Nat) (x : S31) : varsN (n + 1) x = (if x.f0 = 1 then [x.f1] else []) ++ x.f3.flatMap (varsN n) := rfl
end Go.Proofs.YtddmdiaopaoekaaDoor.P
namespace Go.Proofs.YtddmdiaopaoekaaDoor.P
open Go.RowKit Go.Proofs.YtddmdiaopaoekaaDoorW.PrintWords
set_option linter.unusedVariables false
theorem alike_self (p : S31 → S31 → Bool) : ∀ xs : List S31, (∀ x, x ∈ xs → p x x = true) → alikeT p xs xs = true
 | [], _ => rfl
 | x :: xs, h => by rw [alikeT, h x (by simp), alike_self p xs (fun y hy => h y (by simp [hy]))]; rfl
theorem sameN_self : ∀ (n : Nat) (x : S31), dep n x → sameN n x x = true
 | 0, _, h => h.elim
 | n + 1, x, h => by
  show ((x.f0 == x.f0) && ((x.f1 == x.f1) && ((x.f2.toList == x.f2.toList) && alikeT (sameN n) x.f3 x.f3))) = true
  rw [alike_self _ x.f3 (fun y hy => sameN_self n y (h y hy))]
  simp
theorem varsL_400 (x : S31) (h : rightB 400 x = true) : varsL x = varsN 400 x := varsL_dep 400 x (dep_of_right 400 x h)
theorem vars_nonneg : ∀ (n : Nat) (x : S31), rightB n x = true → ∀ v, v ∈ varsN n x → 0 ≤ v
 | 0, _, h, _, _ => by cases h
 | n + 1, x, h, v, hv => by
  obtain ⟨h1, h2⟩ := rightB_part h
  rw [varsN_succ] at hv
  rcases List.mem_append.1 hv with h3 | h3
  ·split at h3
   ·rename_i e
    rw [List.mem_singleton] at h3
    rw [h3]
    exact (fits_var h1 e).1
   ·simp at h3
  ·obtain ⟨y, hy, hm⟩ := List.mem_flatMap.1 h3
   exact vars_nonneg n y (h2 y hy) v hm
end Go.Proofs.YtddmdiaopaoekaaDoor.P
namespace Go.Proofs.YtddmdiaopaoekaaDoor.P
open Go.RowKit Go.Proofs.YtddmdiaopaoekaaDoorW.PrintWords
set_option linter.unusedVariables false
theorem leO_le {α : Type} {f : Nat → Option α} (h : ∀ k, LeO (f k) (f (k + 1))) : ∀ (d k : Nat), LeO (f k) (f (k + d))
 | 0, k => LeO.refl _
 | d + 1, k => LeO.trans (leO_le h d k) (h (k + d))
theorem leO_up {α : Type} {f : Nat → Option α} (h : ∀ k, LeO (f k) (f (k + 1))) {k k' : Nat} {r : α} (hk : k ≤ k') (hr : f k = some r) : f k' = some r := by
 have := leO_le h (k' - k) k r hr
 rwa [Nat.add_sub_cancel' hk] at this
def ownN : Nat → S24 → S31
 | 0, x => ⟨x.f0, x.f1, x.f2, []⟩
 | n + 1, x => ⟨x.f0, x.f1, x.f2, x.f3.map (ownN n)⟩
def few24 : Nat → S24 → Prop
 | 0, _ => False
 | n + 1, x => x.f3.length ≤ 1000 ∧ ∀ y, y ∈ x.f3 → few24 n y
theorem st_eta (t : S31) : (⟨t.f0, t.f1, t.f2, t.f3⟩ : S31) = t := by cases t; rfl
theorem wrap_succ (j : Nat) (h : j ≤ 1000000) : wrap64 ((j : Int) + 1) = ((j + 1 : Nat) : Int) := by
 unfold wrap64
 omega
theorem rd24 (xs : List S24) (j : Nat) : rd_T24 xs (j : Int) = xs.getD j z24 := rfl
theorem own_ex : ∀ (n : Nat) (x : S24), few24 n x → ∃ k, hammocklaw09_Own.f k x.f0 x.f1 x.f2 x.f3 = some ((ownN n x).f0, (ownN n x).f1, (ownN n x).f2, (ownN n x).f3)
 | 0, _, h => h.elim
 | n + 1, x, h => by
  have loop : ∀ (d : Nat) (acc : List S31), d ≤ x.f3.length → acc.length = x.f3.length - d → ∃ k, hammocklaw09_Own.l0 k ((x.f3.length - d : Nat) : Int) x.f0 x.f1 x.f2 x.f3 x.f0 x.f1 x.f2 acc = some (x.f0, x.f1, x.f2, acc ++ (x.f3.drop (x.f3.length - d)).map (ownN n)) := by
   intro d
   induction d with
   | zero =>
    intro acc _ ha
    refine ⟨1, ?_⟩
    unfold hammocklaw09_Own.l0
    rw [if_neg (by omega)]
    simp
   | succ d ih =>
    intro acc hd ha
    have hj : x.f3.length - (d + 1) < x.f3.length := by omega
    have hlen := h.1
    obtain ⟨k1, h1⟩ := own_ex n _ (h.2 _ (List.getElem_mem hj))
    have hs : x.f3.length - (d + 1) + 1 = x.f3.length - d := by omega
    obtain ⟨k2, h2⟩ := ih (acc ++ [ownN n x.f3[x.f3.length - (d + 1)]]) (by omega) (by rw [List.length_append, List.length_singleton]; omega)
    refine ⟨max k1 k2 + 1, ?_⟩
    have h1' := leO_up (f := fun k => hammocklaw09_Own.f k _ _ _ _) (fun k => hammocklaw09_Own.mono _ _ _ _ k) (Nat.le_max_left k1 k2) h1
    have h2' := leO_up (f := fun k => hammocklaw09_Own.l0 k _ _ _ _ _ _ _ _ _) (fun k => (hammocklaw09_Own.mono_l k).2 _ _ _ _ _ _ _ _ _) (Nat.le_max_right k1 k2) h2
    unfold hammocklaw09_Own.l0
    have hw : wrap64 (((x.f3.length - (d + 1) : Nat) : Int) + 1) = ((x.f3.length - d : Nat) : Int) := by rw [wrap_succ _ (by omega), hs]
    rw [if_pos (by omega), if_pos (by omega), rd24, List.getD_eq_getElem?_getD, List.getElem?_eq_getElem hj, Option.getD_some, h1', Option.bind_some, if_pos (by omega), hw]
    dsimp only
    rw [st_eta]
    refine h2'.trans ?_
    congr 4
    rw [List.append_assoc, ← hs, List.singleton_append]
    congr 1
    rw [List.drop_eq_getElem_cons hj, List.map_cons]
  obtain ⟨k, hk⟩ := loop x.f3.length [] (Nat.le_refl _) (by simp)
  refine ⟨k + 1, ?_⟩
  unfold hammocklaw09_Own.f
  rw [Nat.sub_self] at hk
  simpa [ownN] using hk
end Go.Proofs.YtddmdiaopaoekaaDoor.P
namespace Go.Proofs.YtddmdiaopaoekaaDoor.P
open Go.RowKit Go.Proofs.YtddmdiaopaoekaaDoorW.PrintWords
set_option linter.unusedVariables false
/-- What stands at the end of the reference's right. -/
def fin24 (x : S24) : Option Bool := (if x.f0 = 1 then (if x.f1 ≥ 0 then (if x.f2.toList = ([] : List UInt8) then (some ((x.f3.length : Int) == 0)) else (some false)) else (some false)) else (if x.f0 = 2 then (if x.f1 = 0 then (some (x.f2.toList != ([] : List UInt8))) else (some false)) else (if x.f0 = 3 then (if x.f1 = 0 then (if x.f2.toList = ([] : List UInt8) then (some ((x.f3.length : Int) == 2)) else (some false)) else (some false)) else (some false))))
theorem fin24_fits (n : Nat) (x : S24) (h : x.f3.length ≤ 16) : fin24 x = some (fitsB (ownN (n + 1) x)) := by
 rw [← fits_some]
 have e : types_Type_fits.f (ownN (n + 1) x).f0 (ownN (n + 1) x).f1 (ownN (n + 1) x).f2 (ownN (n + 1) x).f3 = types_Type_fits.f x.f0 x.f1 x.f2 (x.f3.map (ownN n)) := rfl
 rw [e]
 unfold fin24 types_Type_fits.f
 rw [List.length_map]
 by_cases h1 : x.f0 = 1
 ·rw [if_pos h1, if_pos h1]
 ·rw [if_neg h1, if_neg h1]
  by_cases h3 : x.f0 = 2
  ·rw [if_pos h3, if_pos h3]
   by_cases h4 : x.f1 = 0
   ·rw [if_pos h4, if_pos h4]
    by_cases h5 : x.f2.toList = []
    ·simp [h5]
    ·have h6 : (x.f3.length : Int) ≤ 16 := by omega
     simp [h5, h6]
   ·rw [if_neg h4, if_neg h4]
  ·rw [if_neg h3, if_neg h3]
theorem right_ex : ∀ (n : Nat) (x : S24), n ≤ 1000 → ∃ k, hammockref09_right.f k x.f0 x.f1 x.f2 x.f3 (n : Int) = some (rightB n (ownN n x))
 | 0, x, _ => ⟨2, by
  unfold hammockref09_right.f
  rw [if_pos (by decide)]
  unfold hammockref09_right.j0
  rw [if_pos rfl]
  rfl⟩
 | n + 1, x, hn => by
  by_cases h16 : x.f3.length ≤ 16
  ·have loop : ∀ (d : Nat), d ≤ x.f3.length → ∃ k, hammockref09_right.l0 k ((n + 1 : Nat) : Int) ((x.f3.length - d : Nat) : Int) x.f0 x.f1 x.f2 x.f3 = some (fitsB (ownN (n + 1) x) && (x.f3.drop (x.f3.length - d)).all (fun y => rightB n (ownN n y))) := by
    intro d
    induction d with
    | zero =>
     intro _
     refine ⟨1, ?_⟩
     unfold hammockref09_right.l0
     rw [if_neg (by omega), Nat.sub_zero, List.drop_length]
     refine Eq.trans (b := fin24 x) rfl ?_
     rw [fin24_fits n x h16]
     simp
    | succ d ih =>
     intro hd
     have hj : x.f3.length - (d + 1) < x.f3.length := by omega
     obtain ⟨k1, h1⟩ := right_ex n x.f3[x.f3.length - (d + 1)] (by omega)
     have hs : x.f3.length - (d + 1) + 1 = x.f3.length - d := by omega
     obtain ⟨k2, h2⟩ := ih (by omega)
     refine ⟨max k1 k2 + 1, ?_⟩
     have h1' := leO_up (f := fun k => hammockref09_right.f k _ _ _ _ _) (fun k => (hammockref09_right.mono_l k).1 _ _ _ _ _) (Nat.le_max_left k1 k2) h1
     have h2' := leO_up (f := fun k => hammockref09_right.l0 k _ _ _ _ _ _) (fun k => (hammockref09_right.mono_l k).2.2 _ _ _ _ _ _) (Nat.le_max_right k1 k2) h2
     have hw : wrap64 (((x.f3.length - (d + 1) : Nat) : Int) + 1) = ((x.f3.length - d : Nat) : Int) := by rw [wrap_succ _ (by omega), hs]
     have hw1 : wrap64 (((n + 1 : Nat) : Int) - 1) = (n : Int) := by unfold wrap64; omega
     unfold hammockref09_right.l0
     rw [if_pos (by omega), if_pos (by omega), rd24, List.getD_eq_getElem?_getD, List.getElem?_eq_getElem hj, Option.getD_some, hw1, h1', Option.bind_some, hw]
     rw [List.drop_eq_getElem_cons hj, hs, List.all_cons]
     cases hb : rightB n (ownN n x.f3[x.f3.length - (d + 1)]) with
     | true => rw [if_pos rfl, Bool.true_and]; exact h2'
     | false => rw [if_neg (by simp), Bool.false_and, Bool.and_false]
   obtain ⟨k, hk⟩ := loop x.f3.length (Nat.le_refl _)
   refine ⟨k + 1 + 1, ?_⟩
   unfold hammockref09_right.f
   rw [if_neg (by omega)]
   unfold hammockref09_right.j0
   rw [if_neg (by simp; omega)]
   rw [Nat.sub_self, List.drop_zero] at hk
   refine hk.trans ?_
   rw [rightB_succ]
   congr 2
   have e : (ownN (n + 1) x).f3 = x.f3.map (ownN n) := rfl
   rw [e, List.any_map, List.not_any_eq_all_not]
   congr 1
   funext y
   simp
  ·refine ⟨2, ?_⟩
   have hf : rightB (n + 1) (ownN (n + 1) x) = false := Bool.eq_false_iff.2 (fun h => by
    have := fits_len (rightB_part h).1
    have e : (ownN (n + 1) x).f3 = x.f3.map (ownN n) := rfl
    rw [e, List.length_map] at this
    exact h16 this)
   rw [hf]
   unfold hammockref09_right.f
   rw [if_neg (by omega)]
   unfold hammockref09_right.j0
   rw [if_pos (zU (by omega))]
end Go.Proofs.YtddmdiaopaoekaaDoor.P
namespace Go.Proofs.YtddmdiaopaoekaaDoor.P
open Go.RowKit Go.Proofs.YtddmdiaopaoekaaDoorW.PrintWords
set_option linter.unusedVariables false
def ok24 : Nat → S24 → Prop
 | 0, _ => False
 | n + 1, x => x.f3.length ≤ 9223372036854775807 ∧ ∀ y, y ∈ x.f3 → ok24 n y
theorem few24_of_right : ∀ (n : Nat) (x : S24), rightB n (ownN n x) = true → few24 n x
 | 0, _, h => by cases h
 | n + 1, x, h => by
  have e : (ownN (n + 1) x).f3 = x.f3.map (ownN n) := rfl
  obtain ⟨h1, h2⟩ := rightB_part h
  have h3 := fits_len h1
  rw [e, List.length_map] at h3
  exact ⟨by omega, fun y hy => few24_of_right n y (h2 _ (by rw [e]; exact List.mem_map_of_mem hy))⟩
theorem wrap_next (j : Nat) (h : j < 9223372036854775807) : wrap64 ((j : Int) + 1) = ((j + 1 : Nat) : Int) := by
 unfold wrap64
 omega
theorem few_ex : ∀ (n : Nat) (l : List S24) (a : Int), l.length ≤ 9223372036854775807 → (∀ y, y ∈ l → ok24 n y) → ∃ k r, hammocklaw09_few.f k l a = some r := by
 intro n
 induction n with
 | zero =>
  intro l a hl h
  cases l with
  | nil =>
   refine ⟨2, a, ?_⟩
   unfold hammocklaw09_few.f hammocklaw09_few.l0
   rw [if_neg (by simp)]
  | cons y ys => exact (h y (by simp)).elim
 | succ n ih =>
  intro l a hl h
  have loop : ∀ (d : Nat), d ≤ l.length → ∀ a, ∃ k r, hammocklaw09_few.l0 k l a ((l.length - d : Nat) : Int) = some r := by
   intro d
   induction d with
   | zero =>
    intro _ a
    refine ⟨1, a, ?_⟩
    unfold hammocklaw09_few.l0
    rw [if_neg (by omega)]
   | succ d ihd =>
    intro hd a
    have hj : l.length - (d + 1) < l.length := by omega
    have hs : l.length - (d + 1) + 1 = l.length - d := by omega
    have hy := h _ (List.getElem_mem hj)
    obtain ⟨k1, r1, h1⟩ := ih (l[l.length - (d + 1)]).f3 (wrap64 ((wrap64 (a - 1)) - (wrap64 ((((l[l.length - (d + 1)]).f2).size : Int) / 60)))) hy.1 hy.2
    obtain ⟨k2, r2, h2⟩ := ihd (by omega) r1
    by_cases ha : a ≥ 0
    ·refine ⟨max k1 k2 + 1, r2, ?_⟩
     have h1' := leO_up (f := fun k => hammocklaw09_few.f k _ _) (fun k => (hammocklaw09_few.mono_l k).1 _ _) (Nat.le_max_left k1 k2) h1
     have h2' := leO_up (f := fun k => hammocklaw09_few.l0 k _ _ _) (fun k => (hammocklaw09_few.mono_l k).2 _ _ _) (Nat.le_max_right k1 k2) h2
     have hw : wrap64 (((l.length - (d + 1) : Nat) : Int) + 1) = ((l.length - d : Nat) : Int) := by rw [wrap_next _ (by omega), hs]
     unfold hammocklaw09_few.l0
     rw [if_pos (by omega), if_pos ha, if_pos (by omega), rd24, List.getD_eq_getElem?_getD, List.getElem?_eq_getElem hj, Option.getD_some, h1', Option.bind_some, hw]
     exact h2'
    ·refine ⟨1, a, ?_⟩
     unfold hammocklaw09_few.l0
     rw [if_pos (by omega), if_neg ha]
  obtain ⟨k, r, hk⟩ := loop l.length (Nat.le_refl _) a
  refine ⟨k + 1, r, ?_⟩
  unfold hammocklaw09_few.f
  rw [Nat.sub_self] at hk
  exact hk
theorem light_ex (n : Nat) (l : List S24) (hl : l.length ≤ 9223372036854775807) (h : ∀ y, y ∈ l → ok24 n y) : ∃ k r, hammocklaw09_Light.f k l = some r := by
 obtain ⟨k, r, hk⟩ := few_ex n l 400 hl h
 refine ⟨k, decide (r ≥ 0), ?_⟩
 unfold hammocklaw09_Light.f
 rw [hk]
 rfl
end Go.Proofs.YtddmdiaopaoekaaDoor.P
namespace Go.Proofs.YtddmdiaopaoekaaDoor.P
open Go.RowKit Go.Proofs.YtddmdiaopaoekaaDoorW.PrintWords
set_option linter.unusedVariables false
def cntN : Nat → S24 → Nat
 | 0, _ => 0
 | n + 1, x => 1 + (x.f3.map (cntN n)).sum
def nm24 : Nat → S24 → Prop
 | 0, _ => True
 | n + 1, x => x.f2.size ≤ 4611686018427387904 ∧ ∀ y, y ∈ x.f3 → nm24 n y
theorem l0_neg (k : Nat) (l : List S24) (a : Int) (j : Nat) (r : Int) (h : hammocklaw09_few.l0 k l a (j : Int) = some r) (ha : a < 0) : r = a := by
 cases k with
 | zero => simp [hammocklaw09_few.l0] at h
 | succ k =>
  unfold hammocklaw09_few.l0 at h
  rw [if_neg (show ¬ a ≥ 0 by omega)] at h
  split at h <;> exact (Option.some.inj h).symm
theorem few_cnt : ∀ (k : Nat), (∀ (n m : Nat) (l : List S24) (a r : Int), a ≤ 400 → -1000000000000000000 ≤ a → l.length ≤ 9223372036854775807 → (∀ y, y ∈ l → ok24 m y ∧ nm24 m y) → hammocklaw09_few.f k l a = some r → 0 ≤ r → r + (((l.map (cntN n)).sum : Nat) : Int) ≤ a) ∧
  (∀ (n m : Nat) (l : List S24) (a r : Int) (j : Nat), a ≤ 400 → -1000000000000000000 ≤ a → l.length ≤ 9223372036854775807 → (∀ y, y ∈ l → ok24 m y ∧ nm24 m y) → j ≤ l.length → hammocklaw09_few.l0 k l a (j : Int) = some r → 0 ≤ r → r + ((((l.drop j).map (cntN n)).sum : Nat) : Int) ≤ a)
 | 0 => ⟨fun n m l a r _ _ _ _ h _ => by simp [hammocklaw09_few.f] at h, fun n m l a r j _ _ _ _ _ h _ => by simp [hammocklaw09_few.l0] at h⟩
 | k + 1 => by
  obtain ⟨ihF, ihL⟩ := few_cnt k
  refine ⟨fun n m l a r h1 h2 h3 h4 h hr => ?_, fun n m l a r j h1 h2 h3 h4 hj h hr => ?_⟩
  ·unfold hammocklaw09_few.f at h
   have := ihL n m l a r 0 h1 h2 h3 h4 (Nat.zero_le _) h hr
   rwa [List.drop_zero] at this
  ·unfold hammocklaw09_few.l0 at h
   by_cases hlt : j < l.length
   ·rw [if_pos (by omega)] at h
    by_cases ha : a ≥ 0
    ·rw [if_pos ha, if_pos (by omega), rd24, List.getD_eq_getElem?_getD, List.getElem?_eq_getElem hlt, Option.getD_some] at h
     obtain ⟨t, ht, h⟩ := Option.bind_eq_some_iff.1 h
     have hy := h4 _ (List.getElem_mem hlt)
     rw [List.drop_eq_getElem_cons hlt, List.map_cons, List.sum_cons]
     generalize l[j] = y at ht hy ⊢
     rw [wrap_next j (by omega)] at h
     cases m with
     | zero => exact hy.1.elim
     | succ m =>
      have hs := hy.2.1
      have hw : wrap64 ((wrap64 (a - 1)) - (wrap64 ((y.f2.size : Int) / 60))) = a - 1 - (y.f2.size : Int) / 60 := by unfold wrap64; omega
      rw [hw] at ht
      by_cases htn : 0 ≤ t
      ·have hL := ihL n (m + 1) l t r (j + 1)
       have hF : ∀ n', t + (((y.f3.map (cntN n')).sum : Nat) : Int) ≤ a - 1 - (y.f2.size : Int) / 60 := fun n' => ihF n' m y.f3 _ t (by omega) (by omega) hy.1.1 (fun z hz => ⟨hy.1.2 z hz, hy.2.2 z hz⟩) ht htn
       have hL2 := hL (by have := hF 0; omega) (by omega) h3 h4 (by omega) h hr
       cases n with
       | zero =>
        have := hF 0
        have e : cntN 0 y = 0 := rfl
        rw [e]
        omega
       | succ n =>
        have := hF n
        have e : cntN (n + 1) y = 1 + (y.f3.map (cntN n)).sum := rfl
        rw [e]
        omega
      ·have := l0_neg k l t (j + 1) r h (by omega)
       omega
    ·rw [if_neg ha] at h
     have := Option.some.inj h
     omega
   ·rw [if_neg (by omega)] at h
    have hra := Option.some.inj h
    rw [List.drop_of_length_le (by omega)]
    simp
    omega
theorem vars_cnt : ∀ (n : Nat) (x : S24), (varsN n (ownN n x)).length ≤ cntN n x
 | 0, _ => Nat.le_refl _
 | n + 1, x => by
  have e : varsN (n + 1) (ownN (n + 1) x) = (if x.f0 = 1 then [x.f1] else []) ++ (x.f3.map (ownN n)).flatMap (varsN n) := rfl
  have e2 : cntN (n + 1) x = 1 + (x.f3.map (cntN n)).sum := rfl
  have : ∀ l : List S24, ((l.map (ownN n)).flatMap (varsN n)).length ≤ (l.map (cntN n)).sum := by
   intro l
   induction l with
   | nil => simp
   | cons y ys ih =>
    have h1 := vars_cnt n y
    simp only [List.map_cons, List.flatMap_cons, List.length_append, List.sum_cons]
    omega
  have h3 := this x.f3
  rw [e, e2, List.length_append]
  split <;> simp only [List.length_cons, List.length_nil] <;> omega
end Go.Proofs.YtddmdiaopaoekaaDoor.P
