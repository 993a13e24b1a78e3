import Derived.Test.YtddmdiaopaoekaaDoorLaD
import Derived.Test.YtddmdiaopaoekaaDoorRmA
import Derived.Test.YtddmdiaopaoekaaDoorPx6
import Derived.Test.YtddmdiaopaoekaaDoorPx7
import Derived.Test.YtddmdiaopaoekaaDoorPx8
import Derived.Test.YtddmdiaopaoekaaDoorPx10
import Derived.Test.YtddmdiaopaoekaaDoorPx11
import Derived.Test.YtddmdiaopaoekaaDoorSq
namespace Go.Proofs.YtddmdiaopaoekaaDoor.P
open Go.RowKit Go.Proofs.YtddmdiaopaoekaaDoorW.PrintWords
set_option linter.unusedVariables false
abbrev S68_ := S68
/-- A printed loop that appends what a function tells of each element. -/
theorem map_loop {α β γ R : Type} (F : Nat → α → Option γ) (mk : γ → β) (L : Nat → Int → List β → Option R) (fin : List β → R) (xs : List α) (g : α → β) (hxs : xs.length ≤ 1000)
  (mF : ∀ k x, LeO (F k x) (F (k + 1) x)) (mL : ∀ k j acc, LeO (L k j acc) (L (k + 1) j acc))
  (step : ∀ k j acc (hj : j < xs.length), acc.length ≤ 1000 → L (k + 1) (j : Int) acc = (F k xs[j]).bind fun r => L k ((j + 1 : Nat) : Int) (acc ++ [mk r]))
  (stop : ∀ k acc, L (k + 1) (xs.length : Int) acc = some (fin acc))
  (each : ∀ x, x ∈ xs → ∃ k r, F k x = some r ∧ mk r = g x) : ∃ k, L k 0 [] = some (fin (xs.map g)) := by
 have loop : ∀ (d : Nat) (acc : List β), d ≤ xs.length → acc = (xs.take (xs.length - d)).map g → ∃ k, L k ((xs.length - d : Nat) : Int) acc = some (fin (xs.map g)) := by
  intro d
  induction d with
  | zero =>
   intro acc _ ha
   refine ⟨1, ?_⟩
   rw [Nat.sub_zero, stop, ha, Nat.sub_zero, List.take_length]
  | succ d ih =>
   intro acc hd ha
   have hj : xs.length - (d + 1) < xs.length := by omega
   have e2 : xs.length - (d + 1) + 1 = xs.length - d := by omega
   obtain ⟨k1, r, hk1, hr⟩ := each _ (List.getElem_mem hj)
   obtain ⟨k2, hk2⟩ := ih (acc ++ [g xs[xs.length - (d + 1)]]) (by omega) (by rw [ha, ← e2, List.take_succ_eq_append_getElem hj, List.map_append]; rfl)
   refine ⟨max k1 k2 + 1, ?_⟩
   rw [step _ _ _ hj (by rw [ha, List.length_map, List.length_take]; omega), leO_up (f := fun k => F k xs[xs.length - (d + 1)]) (fun k => mF k _) (Nat.le_max_left k1 k2) hk1, Option.bind_some, hr, e2]
   exact leO_up (f := fun k => L k _ _) (fun k => mL k _ _) (Nat.le_max_right k1 k2) hk2
 obtain ⟨k, hk⟩ := loop xs.length [] (Nat.le_refl _) (by simp)
 rw [Nat.sub_self] at hk
 exact ⟨k, hk⟩
theorem t24_eta (t : T24) : (⟨t.f0, t.f1, t.f2, t.f3⟩ : T24) = t := by cases t; rfl
theorem s68_eta (t : S68_) : (⟨t.f0, t.f1, t.f2, t.f3⟩ : S68_) = t := by cases t; rfl
theorem rd24_at (xs : List T24) (j : Nat) (hj : j < xs.length) : rd_T24 xs (j : Int) = xs[j] := by
 rw [rd24, List.getD_eq_getElem?_getD, List.getElem?_eq_getElem hj]; rfl
def subst24 (l : List T24) : Nat → T24 → T24
 | 0, x => ⟨x.f0, x.f1, x.f2, []⟩
 | n + 1, x => if x.f0 = 1 ∧ 0 ≤ x.f1 ∧ x.f1 < (l.length : Int) then l.getD x.f1.toNat z24 else ⟨x.f0, x.f1, x.f2, x.f3.map (subst24 l n)⟩
theorem subst_ex (l : List T24) : ∀ (n : Nat) (x : T24), few24 n x → ∃ k, hammockref09_subst.f k x.f0 x.f1 x.f2 x.f3 l = some ((subst24 l n x).f0, (subst24 l n x).f1, (subst24 l n x).f2, (subst24 l n x).f3)
 | 0, _, h => h.elim
 | n + 1, x, h => by
  have hl : x.f3.length ≤ 1000 := h.1
  obtain ⟨k, hk⟩ := map_loop (fun k (y : T24) => hammockref09_subst.f k y.f0 y.f1 y.f2 y.f3 l) (fun bt => (⟨bt.1, bt.2.1, bt.2.2.1, bt.2.2.2⟩ : T24)) (fun k j acc => hammockref09_subst.l0 k l j x.f0 x.f1 x.f2 x.f3 x.f0 x.f1 x.f2 acc) (fun acc => (x.f0, x.f1, x.f2, acc)) x.f3 (subst24 l n) hl
   (fun k y => (hammockref09_subst.mono_l k).1 _ _ _ _ _) (fun k j acc => (hammockref09_subst.mono_l k).2.2 _ _ _ _ _ _ _ _ _ _)
   (fun k j acc hj ha => by
    show hammockref09_subst.l0 (k + 1) l (j : Int) x.f0 x.f1 x.f2 x.f3 x.f0 x.f1 x.f2 acc = _
    rw [hammockref09_subst.l0, if_pos (by omega), if_pos (by omega), rd24_at _ _ hj, wrap_succ _ (by omega)]
    congr 1
    funext r
    rw [if_pos (by omega)])
   (fun k acc => by
    show hammockref09_subst.l0 (k + 1) l (x.f3.length : Int) x.f0 x.f1 x.f2 x.f3 x.f0 x.f1 x.f2 acc = _
    rw [hammockref09_subst.l0, if_neg (by omega)])
   (fun y hy => by
    obtain ⟨k, hk⟩ := subst_ex l n y (h.2 y hy)
    exact ⟨k, _, hk, t24_eta _⟩)
  have hk' : hammockref09_subst.l0 k l 0 x.f0 x.f1 x.f2 x.f3 x.f0 x.f1 x.f2 [] = some (x.f0, x.f1, x.f2, x.f3.map (subst24 l n)) := hk
  have e : subst24 l (n + 1) x = if x.f0 = 1 ∧ 0 ≤ x.f1 ∧ x.f1 < (l.length : Int) then l.getD x.f1.toNat z24 else ⟨x.f0, x.f1, x.f2, x.f3.map (subst24 l n)⟩ := rfl
  rw [e]
  refine ⟨k + 2, ?_⟩
  by_cases h0 : x.f0 = 1
  ·by_cases h1 : 0 ≤ x.f1
   ·by_cases h2 : x.f1 < (l.length : Int)
    ·rw [if_pos ⟨h0, h1, h2⟩, hammockref09_subst.f, if_pos h0, if_pos h1, hammockref09_subst.j0, if_pos (zU h2), if_pos h1, if_pos h2]
     rfl
    ·rw [if_neg (fun h => h2 h.2.2), hammockref09_subst.f, if_pos h0, if_pos h1, hammockref09_subst.j0, if_neg (by simp; omega), hk']
   ·rw [if_neg (fun h => h1 h.2.1), hammockref09_subst.f, if_pos h0, if_neg h1, hammockref09_subst.j0, if_neg (by simp), hk']
  ·rw [if_neg (fun h => h0 h.1), hammockref09_subst.f, if_neg h0, hammockref09_subst.j0, if_neg (by simp), hk']
theorem few24_up {n m : Nat} {x : T24} (h : few24 n x) (hm : n ≤ m) : few24 m x := few24_le n m x hm h
/-- What is put in, by the program: the same. -/
theorem sub_own (l : List T24) (hl : ∀ y, y ∈ l → few24 400 y) : ∀ (n : Nat) (x : T24), rightB n (ownN n x) = true → changeN n (subV (l.map (ownN 400))) (ownN n x) = ownN (n + 400) (subst24 l n x) ∧ few24 (n + 400) (subst24 l n x)
 | 0, _, h => by cases h
 | n + 1, x, h => by
  obtain ⟨h1, h2⟩ := rightB_part h
  have e3 : (ownN (n + 1) x).f3 = x.f3.map (ownN n) := rfl
  have e : subst24 l (n + 1) x = if x.f0 = 1 ∧ 0 ≤ x.f1 ∧ x.f1 < (l.length : Int) then l.getD x.f1.toNat z24 else ⟨x.f0, x.f1, x.f2, x.f3.map (subst24 l n)⟩ := rfl
  have ec : changeN (n + 1) (subV (l.map (ownN 400))) (ownN (n + 1) x) = if x.f0 = 1 then subV (l.map (ownN 400)) (ownN (n + 1) x) else ⟨x.f0, x.f1, x.f2, (x.f3.map (ownN n)).map (changeN n (subV (l.map (ownN 400))))⟩ := rfl
  rw [e, ec]
  by_cases h0 : x.f0 = 1
  ·obtain ⟨q1, q2, q3⟩ := fits_var h1 h0
   have q3' : x.f3 = [] := by
    have : x.f3.map (ownN n) = [] := q3
    simpa using this
   have q1' : 0 ≤ x.f1 := q1
   rw [if_pos h0]
   by_cases hlt : x.f1 < (l.length : Int)
   ·have hi : x.f1.toNat < l.length := by omega
    have hy := hl _ (List.getElem_mem hi)
    rw [if_pos ⟨h0, q1', hlt⟩, List.getD_eq_getElem?_getD, List.getElem?_eq_getElem hi, Option.getD_some]
    refine ⟨?_, few24_up hy (by omega)⟩
    unfold subV
    rw [if_neg (by
     have : (ownN (n + 1) x).f1 = x.f1 := rfl
     rw [this, List.length_map]
     omega)]
    show (l.map (ownN 400)).getD x.f1.toNat z31 = _
    rw [List.getD_eq_getElem?_getD, List.getElem?_map, List.getElem?_eq_getElem hi]
    exact own_dep 400 _ _ hy (few24_up hy (by omega))
   ·rw [if_neg (fun h => hlt h.2.2), q3']
    refine ⟨?_, by simp, fun y hy => by simp at hy⟩
    unfold subV
    rw [if_pos (by
     have : (ownN (n + 1) x).f1 = x.f1 := rfl
     rw [this, List.length_map]
     omega)]
    have : n + 1 + 400 = (n + 400) + 1 := by omega
    rw [this]
    show (⟨x.f0, x.f1, x.f2, x.f3.map (ownN n)⟩ : S31) = ⟨x.f0, x.f1, x.f2, ([].map (subst24 l n)).map (ownN (n + 400))⟩
    rw [q3']
    rfl
  ·rw [if_neg h0, if_neg (fun h => h0 h.1)]
   have ih : ∀ y, y ∈ x.f3 → _ := fun y hy => sub_own l hl n y (h2 _ (by rw [e3]; exact List.mem_map_of_mem hy))
   have : n + 1 + 400 = (n + 400) + 1 := by omega
   rw [this]
   refine ⟨?_, ?_, fun y hy => ?_⟩
   ·show (⟨x.f0, x.f1, x.f2, (x.f3.map (ownN n)).map (changeN n (subV (l.map (ownN 400))))⟩ : S31) = ⟨x.f0, x.f1, x.f2, (x.f3.map (subst24 l n)).map (ownN (n + 400))⟩
    rw [List.map_map, List.map_map, List.map_congr_left (f := changeN n (subV (l.map (ownN 400))) ∘ ownN n) (g := ownN (n + 400) ∘ subst24 l n) (fun y hy => (ih y hy).1)]
   ·show (x.f3.map (subst24 l n)).length ≤ 1000
    have := fits_len h1
    rw [e3, List.length_map] at this
    rw [List.length_map]
    omega
   ·obtain ⟨z, hz, rfl⟩ := List.mem_map.1 (show y ∈ x.f3.map (subst24 l n) from hy)
    exact (ih z hz).2
theorem idx_cons_ne (a v : Int) (r : List Int) (h : ¬ a = v) : (a :: r).idxOf v = r.idxOf v + 1 := by
 rw [List.idxOf_cons, beq_eq_false_iff_ne.2 h]
 rfl
theorem at_idx (l : List Int) (v : Int) (hl : l.length ≤ 1000000) (hv : v ∈ l) : ∃ k, hammockref09_at.f k l v = some (l.idxOf v : Int) := by
 have loop : ∀ d, d ≤ l.length → v ∈ l.drop (l.length - d) → ∃ k, hammockref09_at.l0 k l v ((l.length - d : Nat) : Int) = some (((l.length - d) + (l.drop (l.length - d)).idxOf v : Nat) : Int) := by
  intro d
  induction d with
  | zero =>
   intro _ h
   rw [List.drop_of_length_le (by omega)] at h
   cases h
  | succ d ih =>
   intro hd h
   have hj : l.length - (d + 1) < l.length := by omega
   have e2 : l.length - (d + 1) + 1 = l.length - d := by omega
   have r1 : rd l ((l.length - (d + 1) : Nat) : Int) = l[l.length - (d + 1)] := by
    show l.getD (((l.length - (d + 1) : Nat) : Int)).toNat 0 = _
    rw [Int.toNat_natCast, List.getD_eq_getElem?_getD, List.getElem?_eq_getElem hj]
    rfl
   have d1 : l.drop (l.length - (d + 1)) = l[l.length - (d + 1)] :: l.drop (l.length - d) := by rw [List.drop_eq_getElem_cons hj, e2]
   rw [d1] at h ⊢
   by_cases he : l[l.length - (d + 1)] = v
   ·refine ⟨1, ?_⟩
    rw [hammockref09_at.l0, if_pos (by omega), if_pos (by omega), r1, if_pos he, he, List.idxOf_cons_self]
    rfl
   ·have h' : v ∈ l.drop (l.length - d) := by
     rcases List.mem_cons.1 h with h | h
     ·exact absurd h.symm he
     ·exact h
    obtain ⟨k, hk⟩ := ih (by omega) h'
    refine ⟨k + 1, ?_⟩
    rw [hammockref09_at.l0, if_pos (by omega), if_pos (by omega), r1, if_neg he, wrap_succ _ (by omega), e2, hk, idx_cons_ne _ _ _ he]
    congr 1
    omega
 obtain ⟨k, hk⟩ := loop l.length (Nat.le_refl _) (by simpa using hv)
 refine ⟨k, ?_⟩
 unfold hammockref09_at.f
 simpa using hk
def anew24 (l : List Int) : Nat → T24 → T24
 | 0, x => ⟨x.f0, x.f1, x.f2, []⟩
 | n + 1, x => if x.f0 = 1 then ⟨1, posI l x.f1, ⟨#[]⟩, []⟩ else ⟨x.f0, x.f1, x.f2, x.f3.map (anew24 l n)⟩
theorem anew_ex (l : List Int) (hl : l.length ≤ 1000000) : ∀ (n : Nat) (x : T24), few24 n x → (∀ v, v ∈ varsN n (ownN n x) → v ∈ l) → ∃ k, hammockref09_anew.f k x.f0 x.f1 x.f2 x.f3 l = some ((anew24 l n x).f0, (anew24 l n x).f1, (anew24 l n x).f2, (anew24 l n x).f3)
 | 0, _, h, _ => h.elim
 | n + 1, x, h, hv => by
  have hx : x.f3.length ≤ 1000 := h.1
  have ev : varsN (n + 1) (ownN (n + 1) x) = (if x.f0 = 1 then [x.f1] else []) ++ (x.f3.map (ownN n)).flatMap (varsN n) := rfl
  have e : anew24 l (n + 1) x = if x.f0 = 1 then ⟨1, posI l x.f1, ⟨#[]⟩, []⟩ else ⟨x.f0, x.f1, x.f2, x.f3.map (anew24 l n)⟩ := rfl
  rw [e]
  by_cases h0 : x.f0 = 1
  ·have hm := hv x.f1 (by rw [ev, if_pos h0]; simp)
   obtain ⟨k, hk⟩ := at_idx l x.f1 hl hm
   refine ⟨k + 1, ?_⟩
   rw [if_pos h0, hammockref09_anew.f, if_pos h0, hk, Option.bind_some]
   unfold posI
   rw [if_pos hm]
   rfl
  ·obtain ⟨k, hk⟩ := map_loop (fun k (y : T24) => hammockref09_anew.f k y.f0 y.f1 y.f2 y.f3 l) (fun bt => (⟨bt.1, bt.2.1, bt.2.2.1, bt.2.2.2⟩ : T24)) (fun k j acc => hammockref09_anew.l0 k l j x.f0 x.f1 x.f2 x.f3 x.f0 x.f1 x.f2 acc) (fun acc => (x.f0, x.f1, x.f2, acc)) x.f3 (anew24 l n) hx
    (fun k y => (hammockref09_anew.mono_l k).1 _ _ _ _ _) (fun k j acc => (hammockref09_anew.mono_l k).2 _ _ _ _ _ _ _ _ _ _)
    (fun k j acc hj ha => by
     show hammockref09_anew.l0 (k + 1) l (j : Int) x.f0 x.f1 x.f2 x.f3 x.f0 x.f1 x.f2 acc = _
     rw [hammockref09_anew.l0, if_pos (by omega), if_pos (by omega), rd24_at _ _ hj, wrap_succ _ (by omega)]
     congr 1
     funext r
     rw [if_pos (by omega)])
    (fun k acc => by
     show hammockref09_anew.l0 (k + 1) l (x.f3.length : Int) x.f0 x.f1 x.f2 x.f3 x.f0 x.f1 x.f2 acc = _
     rw [hammockref09_anew.l0, if_neg (by omega)])
    (fun y hy => by
     obtain ⟨k, hk⟩ := anew_ex l hl n y (h.2 y hy) (fun v hm => hv v (by rw [ev]; exact List.mem_append_right _ (List.mem_flatMap.2 ⟨_, List.mem_map_of_mem hy, hm⟩)))
     exact ⟨k, _, hk, t24_eta _⟩)
   refine ⟨k + 1, ?_⟩
   rw [if_neg h0, hammockref09_anew.f, if_neg h0]
   exact hk
theorem anew_own (l : List Int) : ∀ (n : Nat) (x : T24), few24 n x → changeN n (anewV l) (ownN n x) = ownN n (anew24 l n x) ∧ few24 n (anew24 l n x)
 | 0, _, h => h.elim
 | n + 1, x, h => by
  have e : anew24 l (n + 1) x = if x.f0 = 1 then ⟨1, posI l x.f1, ⟨#[]⟩, []⟩ else ⟨x.f0, x.f1, x.f2, x.f3.map (anew24 l n)⟩ := rfl
  have ec : changeN (n + 1) (anewV l) (ownN (n + 1) x) = if x.f0 = 1 then anewV l (ownN (n + 1) x) else ⟨x.f0, x.f1, x.f2, (x.f3.map (ownN n)).map (changeN n (anewV l))⟩ := rfl
  rw [e, ec]
  by_cases h0 : x.f0 = 1
  ·rw [if_pos h0, if_pos h0]
   exact ⟨rfl, by simp, fun y hy => by simp at hy⟩
  ·rw [if_neg h0, if_neg h0]
   have ih : ∀ y, y ∈ x.f3 → _ := fun y hy => anew_own l n y (h.2 y hy)
   refine ⟨?_, ?_, fun y hy => ?_⟩
   ·show (⟨x.f0, x.f1, x.f2, (x.f3.map (ownN n)).map (changeN n (anewV l))⟩ : S31) = ⟨x.f0, x.f1, x.f2, (x.f3.map (anew24 l n)).map (ownN n)⟩
    rw [List.map_map, List.map_map, List.map_congr_left (f := changeN n (anewV l) ∘ ownN n) (g := ownN n ∘ anew24 l n) (fun y hy => (ih y hy).1)]
   ·show (x.f3.map (anew24 l n)).length ≤ 1000
    rw [List.length_map]
    exact h.1
   ·obtain ⟨z, hz, rfl⟩ := List.mem_map.1 (show y ∈ x.f3.map (anew24 l n) from hy)
    exact (ih z hz).2
def zero24 : T24 := ⟨0, 0, ⟨#[]⟩, []⟩
theorem zero_few (n : Nat) : few24 (n + 1) zero24 := ⟨by simp [zero24], fun y hy => by simp [zero24] at hy⟩
noncomputable def rSchT (x : T24) : T24 := if rightB 400 (ownN 400 x) = true then anew24 (VarsB (ownN 400 x)) 400 x else zero24
noncomputable def rSub (l : List T24) (x : T24) : T24 := if rightB 400 (ownN 400 x) = true then subst24 l 400 x else zero24
theorem sch_own (x : T24) (hx : few24 400 x) : schT (ownN 400 x) = ownN 400 (rSchT x) ∧ few24 400 (rSchT x) := by
 unfold schT rSchT
 by_cases h : rightB 400 (ownN 400 x) = true
 ·rw [if_pos h, if_pos h]
  exact anew_own _ 400 x hx
 ·rw [if_neg h, if_neg h]
  exact ⟨rfl, zero_few 399⟩
theorem rsub_own (l : List T24) (hl : ∀ y, y ∈ l → few24 400 y) (x : T24) : substB (ownN 400 x) (l.map (ownN 400)) = ownN 800 (rSub l x) ∧ few24 800 (rSub l x) := by
 unfold substB rSub
 by_cases h : rightB 400 (ownN 400 x) = true
 ·rw [if_pos h, if_pos h]
  exact sub_own l hl 400 x h
 ·rw [if_neg h, if_neg h]
  exact ⟨rfl, zero_few 799⟩
theorem Vars24_all (x : T24) (hN : (varsN 400 (ownN 400 x)).length ≤ 100000) : ∃ k, hammockref09_Vars.f k x.f0 x.f1 x.f2 x.f3 = some (VarsB (ownN 400 x)) := by
 by_cases h : rightB 400 (ownN 400 x) = true
 ·exact Vars24_ex x h hN
 ·obtain ⟨k1, hk1⟩ := Right24_ex x
  refine ⟨k1, ?_⟩
  unfold hammockref09_Vars.f VarsB
  rw [hk1, Option.bind_some, if_neg h, if_neg h]
theorem Scheme24_ex (x : T24) (hN : (varsN 400 (ownN 400 x)).length ≤ 100000) : ∃ k, hammockref09_Scheme1.f k x.f0 x.f1 x.f2 x.f3 = some (schV (ownN 400 x), (rSchT x).f0, (rSchT x).f1, (rSchT x).f2, (rSchT x).f3) := by
 obtain ⟨k1, hk1⟩ := Right24_ex x
 unfold hammockref09_Scheme1.f schV rSchT
 by_cases h : rightB 400 (ownN 400 x) = true
 ·obtain ⟨k2, hk2⟩ := Vars24_ex x h hN
  have hvl : (VarsB (ownN 400 x)).length ≤ 1000000 := by
   unfold VarsB
   rw [if_pos h, varsL_400 _ h]
   exact Nat.le_trans (length_distinct _) (by omega)
  obtain ⟨k3, hk3⟩ := anew_ex (VarsB (ownN 400 x)) hvl 400 x (few24_of_right 400 x h) (fun v hv => by
   unfold VarsB
   rw [if_pos h, mem_distinct, varsL_400 _ h]
   exact hv)
  refine ⟨max k1 (max k2 k3), ?_⟩
  rw [leO_up (f := fun k => hammockref09_Right.f k x.f0 x.f1 x.f2 x.f3) (fun k => hammockref09_Right.mono _ _ _ _ k) (Nat.le_max_left k1 _) hk1, Option.bind_some, if_pos h,
   leO_up (f := fun k => hammockref09_Vars.f k x.f0 x.f1 x.f2 x.f3) (fun k => hammockref09_Vars.mono _ _ _ _ k) (Nat.le_trans (Nat.le_max_left k2 k3) (Nat.le_max_right k1 _)) hk2, Option.bind_some,
   leO_up (f := fun k => hammockref09_anew.f k x.f0 x.f1 x.f2 x.f3 (VarsB (ownN 400 x))) (fun k => (hammockref09_anew.mono_l k).1 _ _ _ _ _) (Nat.le_trans (Nat.le_max_right k2 k3) (Nat.le_max_right k1 _)) hk3, Option.bind_some, if_pos h, if_pos h]
 ·refine ⟨k1, ?_⟩
  rw [hk1, Option.bind_some, if_neg h, if_neg h, if_neg h]
  rfl
theorem Subst24_ex (l : List T24) (x : T24) : ∃ k, hammockref09_Subst.f k x.f0 x.f1 x.f2 x.f3 l = some ((rSub l x).f0, (rSub l x).f1, (rSub l x).f2, (rSub l x).f3) := by
 obtain ⟨k1, hk1⟩ := Right24_ex x
 unfold hammockref09_Subst.f rSub
 by_cases h : rightB 400 (ownN 400 x) = true
 ·obtain ⟨k2, hk2⟩ := subst_ex l 400 x (few24_of_right 400 x h)
  refine ⟨max k1 k2, ?_⟩
  rw [leO_up (f := fun k => hammockref09_Right.f k x.f0 x.f1 x.f2 x.f3) (fun k => hammockref09_Right.mono _ _ _ _ k) (Nat.le_max_left k1 _) hk1, Option.bind_some, if_pos h,
   leO_up (f := fun k => hammockref09_subst.f k x.f0 x.f1 x.f2 x.f3 l) (fun k => (hammockref09_subst.mono_l k).1 _ _ _ _ _) (Nat.le_max_right k1 k2) hk2, Option.bind_some, if_pos h]
 ·refine ⟨k1, ?_⟩
  rw [hk1, Option.bind_some, if_neg h, if_neg h]
  rfl
def rFun : List T24 → T24
 | [] => zero24
 | [x] => x
 | x :: y :: r => ⟨3, 0, ⟨#[]⟩, [x, rFun (y :: r)]⟩
theorem Fun24_ex : ∀ (l : List T24), l.length ≤ 1000000 → ∃ k, hammockref09_Fun.f k l = some ((rFun l).f0, (rFun l).f1, (rFun l).f2, (rFun l).f3)
 | [], _ => ⟨1, by rw [hammockref09_Fun.f, if_pos (by simp)]; rfl⟩
 | [x], _ => ⟨1, by
  rw [hammockref09_Fun.f, if_neg (by simp), if_pos (by simp), if_pos (by simp)]
  rfl⟩
 | x :: y :: r, h => by
  obtain ⟨k, hk⟩ := Fun24_ex (y :: r) (by simp only [List.length_cons] at h ⊢; omega)
  refine ⟨k + 1, ?_⟩
  rw [hammockref09_Fun.f, if_neg (by simp only [List.length_cons]; omega), if_neg (by simp only [List.length_cons]; omega), if_pos (by simp only [List.length_cons]; omega), if_pos (by simp only [List.length_cons]; omega)]
  show ((hammockref09_Fun.f k (y :: r)).bind _) = _
  rw [hk, Option.bind_some]
  show some ((3 : Int), (0 : Int), (⟨#[]⟩ : ByteArray), [(⟨x.f0, x.f1, x.f2, x.f3⟩ : T24), ⟨(rFun (y :: r)).f0, (rFun (y :: r)).f1, (rFun (y :: r)).f2, (rFun (y :: r)).f3⟩]) = some (3, 0, ⟨#[]⟩, [x, rFun (y :: r)])
  rw [t24_eta, t24_eta]
theorem fun_own : ∀ (l : List T24), (∀ y, y ∈ l → few24 400 y) → funL (l.map (ownN 400)) = ownN (l.length + 400) (rFun l) ∧ few24 (l.length + 400) (rFun l)
 | [], _ => ⟨rfl, zero_few _⟩
 | [x], h => ⟨own_dep 400 _ _ (h x (by simp)) (few24_up (h x (by simp)) (by omega)), few24_up (h x (by simp)) (by omega)⟩
 | x :: y :: r, h => by
  obtain ⟨h1, h2⟩ := fun_own (y :: r) (fun z hz => h z (List.mem_cons_of_mem _ hz))
  have hx := h x (by simp)
  have e : (x :: y :: r).length + 400 = ((y :: r).length + 400) + 1 := by
   have : (x :: y :: r).length = (y :: r).length + 1 := rfl
   omega
  rw [e]
  refine ⟨?_, by simp [rFun], fun z hz => ?_⟩
  ·show (⟨3, 0, ⟨#[]⟩, [ownN 400 x, funL ((y :: r).map (ownN 400))]⟩ : S31) = ⟨3, 0, ⟨#[]⟩, [ownN ((y :: r).length + 400) x, ownN ((y :: r).length + 400) (rFun (y :: r))]⟩
   rw [h1, own_dep 400 _ x hx (few24_up hx (show 400 ≤ (y :: r).length + 400 by omega))]
  ·have hz' : z ∈ [x, rFun (y :: r)] := hz
   rcases List.mem_cons.1 hz' with rfl | hz'
   ·exact few24_up hx (by omega)
   ·obtain rfl := List.mem_singleton.1 hz'
    exact h2
theorem con_own (nm : ByteArray) (l : List T24) (hl : l.length ≤ 1000) (h : ∀ y, y ∈ l → few24 400 y) : (⟨2, 0, nm, l.map (ownN 400)⟩ : S31) = ownN 401 ⟨2, 0, nm, l⟩ ∧ few24 401 ⟨2, 0, nm, l⟩ := ⟨rfl, hl, h⟩
theorem Con24_ex (nm : ByteArray) (l : List T24) (hl : l.length ≤ 1000) : hammockref09_Con.f nm l = some (2, 0, nm, l) := by
 unfold hammockref09_Con.f
 rw [Option.bind_some, if_pos (by simp only [List.length_nil]; omega)]
 rfl
theorem same_refl (l : List Int) (hl : l.length ≤ 1000000) : ∃ k, hammocklaw09_same.f k l l = some true := by
 have loop : ∀ d, d ≤ l.length → ∃ k, hammocklaw09_same.l0 k l l ((l.length - d : Nat) : Int) = some true := by
  intro d
  induction d with
  | zero =>
   intro _
   refine ⟨1, ?_⟩
   rw [hammocklaw09_same.l0, if_neg (by omega)]
  | succ d ih =>
   intro hd
   obtain ⟨k, hk⟩ := ih (by omega)
   refine ⟨k + 1, ?_⟩
   have e2 : l.length - (d + 1) + 1 = l.length - d := by omega
   rw [hammocklaw09_same.l0, if_pos (by omega), if_pos (by omega), if_pos (by omega), if_pos rfl, wrap_succ _ (by omega), e2, hk]
 obtain ⟨k, hk⟩ := loop l.length (Nat.le_refl _)
 refine ⟨k, ?_⟩
 unfold hammocklaw09_same.f
 rw [if_pos rfl]
 simpa using hk
end Go.Proofs.YtddmdiaopaoekaaDoor.P
