import Derived.Test.YtddmdiaopaoekaaDoorPlL
namespace Go.Proofs.YtddmdiaopaoekaaDoor.P
open Go.RowKit Go.Proofs.YtddmdiaopaoekaaDoorW.PrintWords
set_option linter.unusedVariables false
theorem ba_app (a b : List UInt8) : ((⟨a.toArray⟩ : ByteArray) ++ ⟨b.toArray⟩) = ⟨(a ++ b).toArray⟩ := by
 apply ByteArray.ext
 apply Array.ext'
 simp
theorem ba_size (a : List UInt8) : (⟨a.toArray⟩ : ByteArray).size = a.length := by
 simp [ByteArray.size]
theorem ba_eta (b : ByteArray) : (⟨b.data.toList.toArray⟩ : ByteArray) = b := by
 cases b; rfl
theorem nums_one (u : Int) (b : UInt8) (h : UInt8.ofNat u.toNat = b) : strOfNums [u] = ⟨[b].toArray⟩ := by
 unfold strOfNums
 rw [List.map_cons, h]
 rfl
theorem Digits_ex : ∀ (n : Nat) (acc : List UInt8), (n : Int) ≤ 9223372036854775807 → acc.length + (Lib.decDigits n).length ≤ 1000000000 → ∃ k, hammockref02_Digits.l0 k (n : Int) ⟨acc.toArray⟩ = some ⟨(Lib.decDigits n ++ acc).toArray⟩ := by
 intro n
 induction n using Nat.strongRecOn with
 | _ n ih =>
  intro acc hn hl
  rw [Lib.decDigits] at hl ⊢
  by_cases h : n < 10
  ·rw [dif_pos h] at hl ⊢
   refine ⟨1, ?_⟩
   have e1 : strOfNums [(wrap64 (48 + (n : Int))) % 256] = ⟨[UInt8.ofNat (48 + n)].toArray⟩ := nums_one _ _ (by
    have : ((wrap64 (48 + (n : Int))) % 256).toNat = 48 + n := by unfold wrap64; omega
    rw [this])
   simp only [List.length_cons, List.length_nil] at hl
   rw [hammockref02_Digits.l0, if_neg (by omega), Option.bind_some, e1, if_pos (by rw [ba_size, ba_size]; simp only [List.length_cons, List.length_nil]; omega), ba_app]
  ·rw [dif_neg h] at hl ⊢
   have e1 : strOfNums [(wrap64 (48 + Int.tmod (n : Int) 10)) % 256] = ⟨[UInt8.ofNat (48 + n % 10)].toArray⟩ := nums_one _ _ (by
    have : ((wrap64 (48 + Int.tmod (n : Int) 10)) % 256).toNat = 48 + n % 10 := by
     rw [Int.tmod_eq_emod_of_nonneg (by omega)]
     unfold wrap64
     omega
    rw [this])
   have e2 : wrap64 (Int.tdiv (n : Int) 10) = ((n / 10 : Nat) : Int) := by
    rw [Int.tdiv_eq_ediv_of_nonneg (by omega)]
    unfold wrap64
    omega
   rw [List.length_append] at hl
   simp only [List.length_cons, List.length_nil] at hl
   obtain ⟨k, hk⟩ := ih (n / 10) (by omega) (UInt8.ofNat (48 + n % 10) :: acc) (by omega) (by rw [List.length_cons]; omega)
   refine ⟨k + 1, ?_⟩
   rw [hammockref02_Digits.l0, if_pos (by omega), Option.bind_some, e1, if_pos (by rw [ba_size, ba_size]; simp only [List.length_cons, List.length_nil]; omega), ba_app, e2]
   rw [List.append_assoc]
   exact hk
theorem Letter_ex (i : Int) (h0 : 0 ≤ i) (h1 : i ≤ 9223372036854775807) : ∃ k, hammockref09_Letter.f k i = some (letB i) := by
 unfold letB letterL
 by_cases h : i < 26
 ·refine ⟨0, ?_⟩
  rw [if_pos h, hammockref09_Letter.f, if_pos h]
  have e1 : strOfNums [(wrap64 (97 + i)) % 256] = ⟨[letC i].toArray⟩ := nums_one _ _ (by
   have : ((wrap64 (97 + i)) % 256).toNat = 97 + i.toNat := by unfold wrap64; omega
   rw [this]
   rfl)
  rw [e1]
 ·have hd := Lib.itoa_length_le (i - 25) (by omega) (by omega)
  have hi : Lib.itoa (i - 25) = Lib.decDigits (i - 25).toNat := by unfold Lib.itoa; rw [if_neg (by omega)]
  rw [hi] at hd
  obtain ⟨k, hk⟩ := Digits_ex (i - 25).toNat [] (by omega) (by simp only [List.length_nil]; omega)
  have e2 : wrap64 (i - 25) = (((i - 25).toNat : Nat) : Int) := by unfold wrap64; omega
  refine ⟨k, ?_⟩
  rw [if_neg h, hammockref09_Letter.f, if_neg h, e2, hammockref02_Digits.f]
  rw [List.append_nil] at hk
  have hk' : hammockref02_Digits.l0 k (((i - 25).toNat : Nat) : Int) (⟨#[]⟩ : ByteArray) = _ := hk
  rw [hk', Option.bind_some, ba_size, if_pos (by omega), hi]
  have e3 : (⟨#[97]⟩ : ByteArray) = ⟨[97].toArray⟩ := rfl
  rw [e3, ba_app]
  rfl
def tree24 : Nat → T24 → S68_
 | 0, x => ⟨x.f0, 0, x.f2, []⟩
 | n + 1, x => ⟨x.f0, 0, if x.f0 = 1 then letB x.f1 else x.f2, x.f3.map (tree24 n)⟩
theorem tree24_ex : ∀ (n : Nat) (x : T24), few24 n x → (∀ v, v ∈ varsN n (ownN n x) → 0 ≤ v ∧ v ≤ 9223372036854775807) → ∃ k, hammockref09_tree.f k x.f0 x.f1 x.f2 x.f3 = some ((tree24 n x).f0, (tree24 n x).f1, (tree24 n x).f2, (tree24 n x).f3)
 | 0, _, h, _ => h.elim
 | n + 1, x, h, hv => by
  have ev : varsN (n + 1) (ownN (n + 1) x) = (if x.f0 = 1 then [x.f1] else []) ++ (x.f3.map (ownN n)).flatMap (varsN n) := rfl
  have loop : ∀ nm : ByteArray, ∃ k, hammockref09_tree.j0 k x.f0 x.f1 x.f2 x.f3 x.f0 0 nm = some (x.f0, 0, nm, x.f3.map (tree24 n)) := fun nm => by
   obtain ⟨k, hk⟩ := map_loop (fun k (y : T24) => hammockref09_tree.f k y.f0 y.f1 y.f2 y.f3) (fun bt => (⟨bt.1, bt.2.1, bt.2.2.1, bt.2.2.2⟩ : S68_)) (fun k j acc => hammockref09_tree.l0 k j x.f0 x.f1 x.f2 x.f3 x.f0 0 nm acc) (fun acc => (x.f0, 0, nm, acc)) x.f3 (tree24 n) h.1
    (fun k y => (hammockref09_tree.mono_l k).1 _ _ _ _) (fun k j acc => (hammockref09_tree.mono_l k).2.2 _ _ _ _ _ _ _ _ _)
    (fun k j acc hj ha => by
     show hammockref09_tree.l0 (k + 1) (j : Int) x.f0 x.f1 x.f2 x.f3 x.f0 0 nm acc = _
     rw [hammockref09_tree.l0, if_pos (by omega), if_pos (by omega), rd24_at _ _ hj, wrap_succ _ (by have := h.1; omega)]
     congr 1
     funext r
     rw [if_pos (by omega)])
    (fun k acc => by
     show hammockref09_tree.l0 (k + 1) (x.f3.length : Int) x.f0 x.f1 x.f2 x.f3 x.f0 0 nm acc = _
     rw [hammockref09_tree.l0, if_neg (by omega)])
    (fun y hy => by
     obtain ⟨k, hk⟩ := tree24_ex n y (h.2 y hy) (fun v hm => hv v (by rw [ev]; exact List.mem_append_right _ (List.mem_flatMap.2 ⟨_, List.mem_map_of_mem hy, hm⟩)))
     exact ⟨k, _, hk, s68_eta _⟩)
   exact ⟨k + 1, hk⟩
  have e : tree24 (n + 1) x = ⟨x.f0, 0, if x.f0 = 1 then letB x.f1 else x.f2, x.f3.map (tree24 n)⟩ := rfl
  rw [e]
  by_cases h0 : x.f0 = 1
  ·obtain ⟨k1, hk1⟩ := Letter_ex x.f1 (hv x.f1 (by rw [ev, if_pos h0]; simp)).1 (hv x.f1 (by rw [ev, if_pos h0]; simp)).2
   obtain ⟨k2, hk2⟩ := loop (letB x.f1)
   refine ⟨max k1 k2 + 1, ?_⟩
   rw [hammockref09_tree.f, if_pos h0, leO_up (f := fun k => hammockref09_Letter.f k x.f1) (fun k => hammockref09_Letter.mono _ k) (Nat.le_max_left k1 k2) hk1, Option.bind_some, leO_up (f := fun k => hammockref09_tree.j0 k x.f0 x.f1 x.f2 x.f3 x.f0 0 (letB x.f1)) (fun k => (hammockref09_tree.mono_l k).2.1 _ _ _ _ _ _ _) (Nat.le_max_right k1 k2) hk2]
   show _ = some (x.f0, (0 : Int), (if x.f0 = 1 then letB x.f1 else x.f2), x.f3.map (tree24 n))
   rw [if_pos h0]
  ·obtain ⟨k2, hk2⟩ := loop x.f2
   refine ⟨k2 + 1, ?_⟩
   rw [hammockref09_tree.f, if_neg h0, hk2]
   show _ = some (x.f0, (0 : Int), (if x.f0 = 1 then letB x.f1 else x.f2), x.f3.map (tree24 n))
   rw [if_neg h0]
def few68 : Nat → S68_ → Prop
 | 0, _ => False
 | n + 1, x => x.f3.length ≤ 1000 ∧ ∀ y, y ∈ x.f3 → few68 n y
theorem tree_few : ∀ (n : Nat) (x : T24), few24 n x → few68 n (tree24 n x)
 | 0, _, h => h
 | n + 1, x, h => ⟨by show (x.f3.map (tree24 n)).length ≤ 1000; rw [List.length_map]; exact h.1, fun y hy => by
  obtain ⟨z, hz, rfl⟩ := List.mem_map.1 (show y ∈ x.f3.map (tree24 n) from hy)
  exact tree_few n z (h.2 z hz)⟩
def zero68 : S68_ := ⟨0, 0, ⟨#[]⟩, []⟩
noncomputable def rTree (x : T24) : S68_ := if rightB 400 (ownN 400 x) = true then tree24 400 x else zero68
theorem rTree_few (x : T24) (hx : few24 400 x) : few68 400 (rTree x) := by
 unfold rTree
 split
 ·exact tree_few 400 x hx
 ·exact ⟨by simp [zero68], fun y hy => by simp [zero68] at hy⟩
theorem Tree24_ex (x : T24) (hx : few24 400 x) (hv : ∀ v, v ∈ varsN 400 (ownN 400 x) → v ≤ 9223372036854775807) : ∃ k, hammockref09_Tree.f k x.f0 x.f1 x.f2 x.f3 = some ((rTree x).f0, (rTree x).f1, (rTree x).f2, (rTree x).f3) := by
 obtain ⟨k1, hk1⟩ := Right24_ex x
 unfold hammockref09_Tree.f rTree
 by_cases h : rightB 400 (ownN 400 x) = true
 ·obtain ⟨k2, hk2⟩ := tree24_ex 400 x hx (fun v hm => ⟨vars_nonneg 400 _ h v hm, hv v hm⟩)
  refine ⟨max k1 k2, ?_⟩
  rw [leO_up (f := fun k => hammockref09_Right.f k x.f0 x.f1 x.f2 x.f3) (fun k => hammockref09_Right.mono _ _ _ _ k) (Nat.le_max_left k1 k2) hk1, Option.bind_some, if_pos h,
   leO_up (f := fun k => hammockref09_tree.f k x.f0 x.f1 x.f2 x.f3) (fun k => (hammockref09_tree.mono_l k).1 _ _ _ _) (Nat.le_max_right k1 k2) hk2, Option.bind_some, if_pos h]
 ·refine ⟨k1, ?_⟩
  rw [hk1, Option.bind_some, if_neg h, if_neg h]
  rfl
def refT : Nat → S72_ → S68_
 | 0, x => ⟨x.f0, x.f1, x.f2, []⟩
 | n + 1, x => ⟨x.f0, x.f1, x.f2, x.f3.map (refT n)⟩
theorem ref_tree : ∀ (n : Nat) (x : T24), refT n (treeN n (ownN n x)) = tree24 n x
 | 0, _ => rfl
 | n + 1, x => by
  show (⟨x.f0, 0, (if x.f0 = 1 then letB x.f1 else x.f2), ((x.f3.map (ownN n)).map (treeN n)).map (refT n)⟩ : S68_) = ⟨x.f0, 0, (if x.f0 = 1 then letB x.f1 else x.f2), x.f3.map (tree24 n)⟩
  rw [List.map_map, List.map_map]
  exact congrArg (fun l => (⟨x.f0, 0, (if x.f0 = 1 then letB x.f1 else x.f2), l⟩ : S68_)) (List.map_congr_left (fun y _ => ref_tree n y))
theorem sameT_refl : ∀ (n : Nat) (x : S68_), few68 n x → ∃ k, hammockref03_SameType.f k x.f0 x.f1 x.f2 x.f3 x.f0 x.f1 x.f2 x.f3 = some true
 | 0, _, h => h.elim
 | n + 1, x, h => by
  have hx := h.1
  have loop : ∀ d, d ≤ x.f3.length → ∃ k, hammockref03_SameType.l0 k ((x.f3.length - d : Nat) : Int) x.f0 x.f1 x.f2 x.f3 x.f0 x.f1 x.f2 x.f3 = some true := by
   intro d
   induction d with
   | zero =>
    intro _
    refine ⟨1, ?_⟩
    rw [hammockref03_SameType.l0, if_neg (by omega)]
   | succ d ih =>
    intro hd
    have hj : x.f3.length - (d + 1) < x.f3.length := by omega
    have e2 : x.f3.length - (d + 1) + 1 = x.f3.length - d := by omega
    obtain ⟨k1, hk1⟩ := sameT_refl n x.f3[x.f3.length - (d + 1)] (h.2 _ (List.getElem_mem hj))
    obtain ⟨k2, hk2⟩ := ih (by omega)
    have r1 : rd_T68 x.f3 ((x.f3.length - (d + 1) : Nat) : Int) = x.f3[x.f3.length - (d + 1)] := by
     show x.f3.getD (((x.f3.length - (d + 1) : Nat) : Int)).toNat z68 = _
     rw [Int.toNat_natCast, List.getD_eq_getElem?_getD, List.getElem?_eq_getElem hj]
     rfl
    refine ⟨max k1 k2 + 1, ?_⟩
    rw [hammockref03_SameType.l0, if_pos (by omega), if_pos (by omega), if_pos (by omega), r1]
    generalize x.f3[x.f3.length - (d + 1)] = y at hk1
    rw [leO_up (f := fun k => hammockref03_SameType.f k y.f0 y.f1 y.f2 y.f3 y.f0 y.f1 y.f2 y.f3) (fun k => (hammockref03_SameType.mono_l k).1 _ _ _ _ _ _ _ _) (Nat.le_max_left k1 k2) hk1, Option.bind_some, if_pos rfl, wrap_succ _ (by omega), e2]
    exact leO_up (f := fun k => hammockref03_SameType.l0 k ((x.f3.length - d : Nat) : Int) x.f0 x.f1 x.f2 x.f3 x.f0 x.f1 x.f2 x.f3) (fun k => (hammockref03_SameType.mono_l k).2.2 _ _ _ _ _ _ _ _ _) (Nat.le_max_right k1 k2) hk2
  obtain ⟨k, hk⟩ := loop x.f3.length (Nat.le_refl _)
  refine ⟨k + 2, ?_⟩
  rw [hammockref03_SameType.f, if_pos rfl, if_pos rfl, hammockref03_SameType.j0, if_neg (by simp)]
  simpa using hk
theorem lists_ex : ∀ (n : Nat) (x : T24), few24 n x → ∃ k r, hammocklaw09_lists.f k x.f0 x.f1 x.f2 x.f3 = some r
 | 0, _, h => h.elim
 | n + 1, x, h => by
  have hx := h.1
  have loop : ∀ d, d ≤ x.f3.length → ∀ ok : Bool, ∃ k r, hammocklaw09_lists.l0 k ok ((x.f3.length - d : Nat) : Int) x.f0 x.f1 x.f2 x.f3 = some r := by
   intro d
   induction d with
   | zero =>
    intro _ ok
    refine ⟨1, ok, ?_⟩
    rw [hammocklaw09_lists.l0, if_neg (by omega)]
   | succ d ih =>
    intro hd ok
    have hj : x.f3.length - (d + 1) < x.f3.length := by omega
    have e2 : x.f3.length - (d + 1) + 1 = x.f3.length - d := by omega
    cases ok with
    | false =>
     obtain ⟨k2, r, hk2⟩ := ih (by omega) false
     refine ⟨k2 + 1, r, ?_⟩
     rw [hammocklaw09_lists.l0, if_pos (by omega), if_neg (by simp), wrap_succ _ (by omega), e2]
     exact hk2
    | true =>
     obtain ⟨k1, r1, hk1⟩ := lists_ex n x.f3[x.f3.length - (d + 1)] (h.2 _ (List.getElem_mem hj))
     obtain ⟨k2, r, hk2⟩ := ih (by omega) r1
     refine ⟨max k1 k2 + 1, r, ?_⟩
     rw [hammocklaw09_lists.l0, if_pos (by omega), if_pos rfl, if_pos (by omega), rd24_at _ _ hj]
     generalize x.f3[x.f3.length - (d + 1)] = y at hk1
     rw [leO_up (f := fun k => hammocklaw09_lists.f k y.f0 y.f1 y.f2 y.f3) (fun k => (hammocklaw09_lists.mono_l k).1 _ _ _ _) (Nat.le_max_left k1 k2) hk1, Option.bind_some, wrap_succ _ (by omega), e2]
     exact leO_up (f := fun k => hammocklaw09_lists.l0 k r1 ((x.f3.length - d : Nat) : Int) x.f0 x.f1 x.f2 x.f3) (fun k => (hammocklaw09_lists.mono_l k).2.2 _ _ _ _ _ _) (Nat.le_max_right k1 k2) hk2
  have j0 : ∀ ok : Bool, ∃ k r, hammocklaw09_lists.j0 k ok x.f0 x.f1 x.f2 x.f3 = some r := fun ok => by
   obtain ⟨k, r, hk⟩ := loop x.f3.length (Nat.le_refl _) ok
   refine ⟨k + 1, r, ?_⟩
   rw [hammocklaw09_lists.j0]
   simpa using hk
  by_cases h0 : x.f0 = 2
  ·by_cases h1 : x.f2.toList = ([91, 93] : List UInt8)
   ·obtain ⟨k, r, hk⟩ := j0 ((x.f3.length : Int) == 1)
    exact ⟨k + 1, r, by rw [hammocklaw09_lists.f, if_pos h0, if_pos h1, hk]⟩
   ·obtain ⟨k, r, hk⟩ := j0 true
    exact ⟨k + 1, r, by rw [hammocklaw09_lists.f, if_pos h0, if_neg h1, hk]⟩
  ·obtain ⟨k, r, hk⟩ := j0 true
   exact ⟨k + 1, r, by rw [hammocklaw09_lists.f, if_neg h0, hk]⟩
def wcN : Nat → T24 → Nat
 | 0, _ => 0
 | n + 1, x => 1 + x.f2.size / 60 + (x.f3.map (wcN n)).sum
theorem few_wc : ∀ (k : Nat), (∀ (n m : Nat) (l : List T24) (a r : Int), a ≤ 400 → -1000000000000000000 ≤ a → l.length ≤ 9223372036854775807 → (∀ y, y ∈ l → ok24 m y ∧ nm24 m y) → hammocklaw09_few.f k l a = some r → 0 ≤ r → r + (((l.map (wcN n)).sum : Nat) : Int) ≤ a) ∧
  (∀ (n m : Nat) (l : List T24) (a r : Int) (j : Nat), a ≤ 400 → -1000000000000000000 ≤ a → l.length ≤ 9223372036854775807 → (∀ y, y ∈ l → ok24 m y ∧ nm24 m y) → j ≤ l.length → hammocklaw09_few.l0 k l a (j : Int) = some r → 0 ≤ r → r + ((((l.drop j).map (wcN n)).sum : Nat) : Int) ≤ a)
 | 0 => ⟨fun n m l a r _ _ _ _ h _ => by simp [hammocklaw09_few.f] at h, fun n m l a r j _ _ _ _ _ h _ => by simp [hammocklaw09_few.l0] at h⟩
 | k + 1 => by
  obtain ⟨ihF, ihL⟩ := few_wc k
  refine ⟨fun n m l a r h1 h2 h3 h4 h hr => ?_, fun n m l a r j h1 h2 h3 h4 hj h hr => ?_⟩
  ·unfold hammocklaw09_few.f at h
   have := ihL n m l a r 0 h1 h2 h3 h4 (Nat.zero_le _) h hr
   rwa [List.drop_zero] at this
  ·unfold hammocklaw09_few.l0 at h
   by_cases hlt : j < l.length
   ·rw [if_pos (by omega)] at h
    by_cases ha : a ≥ 0
    ·rw [if_pos ha, if_pos (by omega), rd24, List.getD_eq_getElem?_getD, List.getElem?_eq_getElem hlt, Option.getD_some] at h
     obtain ⟨t, ht, h⟩ := Option.bind_eq_some_iff.1 h
     have hy := h4 _ (List.getElem_mem hlt)
     rw [List.drop_eq_getElem_cons hlt, List.map_cons, List.sum_cons]
     generalize l[j] = y at ht hy ⊢
     rw [wrap_next j (by omega)] at h
     cases m with
     | zero => exact hy.1.elim
     | succ m =>
      have hs := hy.2.1
      have hw : wrap64 ((wrap64 (a - 1)) - (wrap64 ((y.f2.size : Int) / 60))) = a - 1 - (y.f2.size : Int) / 60 := by unfold wrap64; omega
      rw [hw] at ht
      by_cases htn : 0 ≤ t
      ·have hL := ihL n (m + 1) l t r (j + 1)
       have hF : ∀ n', t + (((y.f3.map (wcN n')).sum : Nat) : Int) ≤ a - 1 - (y.f2.size : Int) / 60 := fun n' => ihF n' m y.f3 _ t (by omega) (by omega) hy.1.1 (fun z hz => ⟨hy.1.2 z hz, hy.2.2 z hz⟩) ht htn
       have hL2 := hL (by have := hF 0; omega) (by omega) h3 h4 (by omega) h hr
       cases n with
       | zero =>
        have := hF 0
        have e : wcN 0 y = 0 := rfl
        rw [e]
        omega
       | succ n =>
        have := hF n
        have e : wcN (n + 1) y = 1 + y.f2.size / 60 + (y.f3.map (wcN n)).sum := rfl
        rw [e]
        omega
      ·have := l0_neg k l t (j + 1) r h (by omega)
       omega
    ·rw [if_neg ha] at h
     have := Option.some.inj h
     omega
   ·rw [if_neg (by omega)] at h
    have hra := Option.some.inj h
    rw [List.drop_of_length_le (by omega)]
    simp
    omega
theorem light_wc (k m : Nat) (l : List T24) (hl : l.length ≤ 9223372036854775807) (hL : hammocklaw09_Light.f k l = some true) (ho : ∀ y, y ∈ l → ok24 m y ∧ nm24 m y) (n : Nat) : ∀ y, y ∈ l → wcN n y ≤ 400 := by
 unfold hammocklaw09_Light.f at hL
 obtain ⟨r, hr, h⟩ := Option.bind_eq_some_iff.1 hL
 have h0 : 0 ≤ r := by simpa using h
 intro y hy
 have h1 := (few_wc k).1 n m l 400 r (by omega) (by omega) hl ho hr h0
 have h3 := sum_mem (wcN n) l y hy
 omega
theorem letter_small (i : Int) (h1 : i ≤ 9223372036854775807) : (letterL i).length ≤ 40 := by
 unfold letterL
 split
 ·simp
 ·have := Lib.itoa_length_le (i - 25) (by omega) (by omega)
  simp only [List.length_cons]
  omega
theorem op_len (c : Bool) : (opS c).data.toList.length ≤ 1 ∧ (shS c).data.toList.length ≤ 1 := by
 cases c <;> exact ⟨by decide, by decide⟩
theorem show_succ' (n : Nat) (x : S31) (at_ : Bool) : showL (n + 1) x at_ = (opS (bare x at_)).data.toList ++
  (if x.f0 = 1 then letterL x.f1
   else if x.f0 = 3 then showL n (x.f3.getD 0 z31) ((x.f3.getD 0 z31).f0 == 3) ++ [32, 45, 62, 32] ++ showL n (x.f3.getD 1 z31) false
   else if listB x = true then [91] ++ showL n (x.f3.getD 0 z31) false ++ [93]
   else x.f2.data.toList ++ x.f3.flatMap (fun a => 32 :: showL n a true)) ++ (shS (bare x at_)).data.toList := rfl
theorem show_zero (n : Nat) (b : Bool) : (showL n z31 b).length ≤ 2 := by
 cases n with
 | zero => simp [showL]
 | succ n =>
  have e1 : z31.f0 = 0 := rfl
  have e2 : z31.f2 = ⟨#[]⟩ := rfl
  have e3 : z31.f3 = [] := rfl
  have e4 : listB z31 = false := by unfold listB; rw [e3]; simp
  rw [show_succ', if_neg (by rw [e1]; omega), if_neg (by rw [e1]; omega), e4, if_neg (by simp), e2, e3]
  have := op_len (bare z31 b)
  simp only [List.length_append, List.flatMap_nil, List.length_nil]
  show _ + (([] : List UInt8).length + 0) + _ ≤ 2
  simp only [List.length_nil]
  omega
theorem show_len : ∀ (n : Nat) (x : T24) (b : Bool), few24 n x → (∀ v, v ∈ varsN n (ownN n x) → v ≤ 9223372036854775807) → (showL n (ownN n x) b).length + 1 ≤ 100 * wcN n x
 | 0, _, _, h, _ => h.elim
 | n + 1, x, b, hf, hv => by
  have ev : varsN (n + 1) (ownN (n + 1) x) = (if x.f0 = 1 then [x.f1] else []) ++ (x.f3.map (ownN n)).flatMap (varsN n) := rfl
  have ew : wcN (n + 1) x = 1 + x.f2.size / 60 + (x.f3.map (wcN n)).sum := rfl
  have e0 : (ownN (n + 1) x).f0 = x.f0 := rfl
  have e1 : (ownN (n + 1) x).f1 = x.f1 := rfl
  have e2 : (ownN (n + 1) x).f2 = x.f2 := rfl
  have e3 : (ownN (n + 1) x).f3 = x.f3.map (ownN n) := rfl
  have ih : ∀ y, y ∈ x.f3 → ∀ b, (showL n (ownN n y) b).length + 1 ≤ 100 * wcN n y := fun y hy b => show_len n y b (hf.2 y hy) (fun v hm => hv v (by rw [ev]; exact List.mem_append_right _ (List.mem_flatMap.2 ⟨_, List.mem_map_of_mem hy, hm⟩)))
  have hop := op_len (bare (ownN (n + 1) x) b)
  have two : ∀ b0 b1, (showL n ((x.f3.map (ownN n)).getD 0 z31) b0).length + (showL n ((x.f3.map (ownN n)).getD 1 z31) b1).length ≤ 4 + 100 * (x.f3.map (wcN n)).sum := by
   intro b0 b1
   rcases h : x.f3 with _ | ⟨y, _ | ⟨z, r⟩⟩
   ·have h1 := show_zero n b0
    have h2 := show_zero n b1
    show (showL n z31 b0).length + (showL n z31 b1).length ≤ 4 + 100 * 0
    omega
   ·have h1 := ih y (by rw [h]; simp) b0
    have h2 := show_zero n b1
    show (showL n (ownN n y) b0).length + (showL n z31 b1).length ≤ 4 + 100 * ([y].map (wcN n)).sum
    simp only [List.map_cons, List.map_nil, List.sum_cons, List.sum_nil]
    omega
   ·have h1 := ih y (by rw [h]; simp) b0
    have h2 := ih z (by rw [h]; simp) b1
    show (showL n (ownN n y) b0).length + (showL n (ownN n z) b1).length ≤ 4 + 100 * ((y :: z :: r).map (wcN n)).sum
    simp only [List.map_cons, List.sum_cons]
    omega
  have hnm : x.f2.data.toList.length = x.f2.size := rfl
  rw [show_succ', e0, e1, e2, e3, ew, List.length_append, List.length_append]
  generalize (opS (bare (ownN (n + 1) x) b)).data.toList.length = p at hop ⊢
  generalize (shS (bare (ownN (n + 1) x) b)).data.toList.length = q at hop ⊢
  by_cases h0 : x.f0 = 1
  ·rw [if_pos h0]
   have := letter_small x.f1 (hv x.f1 (by rw [ev, if_pos h0]; simp))
   omega
  ·rw [if_neg h0]
   by_cases h3 : x.f0 = 3
   ·rw [if_pos h3]
    have := two (((x.f3.map (ownN n)).getD 0 z31).f0 == 3) false
    rw [List.length_append, List.length_append]
    simp only [List.length_cons, List.length_nil]
    omega
   ·rw [if_neg h3]
    by_cases hB : listB (ownN (n + 1) x) = true
    ·rw [if_pos hB]
     have := two false false
     rw [List.length_append, List.length_append]
     simp only [List.length_cons, List.length_nil]
     omega
    ·rw [if_neg hB, List.length_append, hnm]
     have hall : ∀ l : List T24, (∀ y, y ∈ l → y ∈ x.f3) → ((l.map (ownN n)).flatMap (fun a => 32 :: showL n a true)).length ≤ 100 * (l.map (wcN n)).sum := by
      intro l
      induction l with
      | nil => intro _; simp
      | cons y ys ihl =>
       intro hm
       have h1 := ih y (hm y (by simp)) true
       have h2 := ihl (fun z hz => hm z (List.mem_cons_of_mem _ hz))
       simp only [List.map_cons, List.flatMap_cons, List.length_append, List.length_cons, List.sum_cons]
       omega
     have := hall x.f3 (fun y hy => hy)
     omega
def wrB (c : Bool) (l : List UInt8) : List UInt8 := if c = true then [40] ++ l ++ [41] else l
theorem wrap_ex (l : List UInt8) (c : Bool) (hl : l.length ≤ 1000000000) : hammockref05_wrap.f ⟨l.toArray⟩ c = some ⟨(wrB c l).toArray⟩ := by
 unfold hammockref05_wrap.f wrB
 have e1 : (⟨#[40]⟩ : ByteArray) = ⟨[40].toArray⟩ := rfl
 have e2 : (⟨#[41]⟩ : ByteArray) = ⟨[41].toArray⟩ := rfl
 cases c with
 | false => rfl
 | true =>
  rw [if_pos rfl, if_pos rfl, ba_size, if_pos (by omega), e1, e2, ba_app, ba_size, if_pos (by rw [List.length_append, List.length_singleton]; omega), ba_app]
theorem fits_kinds {x : S31} (h : fitsB x = true) : x.f0 = 1 ∨ x.f0 = 2 ∨ x.f0 = 3 := by
 by_cases h1 : x.f0 = 1
 ·exact .inl h1
 ·by_cases h2 : x.f0 = 2
  ·exact .inr (.inl h2)
  ·by_cases h3 : x.f0 = 3
   ·exact .inr (.inr h3)
   ·exfalso
    have h' : types_Type_fits.f x.f0 x.f1 x.f2 x.f3 = some true := by rw [fits_some, h]
    unfold types_Type_fits.f at h'
    rw [if_neg h1, if_neg h2, if_neg h3] at h'
    cases h'
theorem letter_head (i : Int) (h0 : 0 ≤ i) : ∃ b l, letterL i = b :: l ∧ b ≠ 91 := by
 unfold letterL
 by_cases h : i < 26
 ·rw [if_pos h]
  refine ⟨_, _, rfl, fun e => ?_⟩
  have := congrArg UInt8.toNat e
  unfold letC at this
  rw [UInt8.toNat_ofNat'] at this
  have h91 : (91 : UInt8).toNat = 91 := rfl
  omega
 ·rw [if_neg h]
  exact ⟨_, _, rfl, by decide⟩
theorem letB_no (i : Int) (h0 : 0 ≤ i) : (letB i).toList ≠ ([91, 93] : List UInt8) := by
 obtain ⟨b, l, h1, h2⟩ := letter_head i h0
 unfold letB
 rw [h1, ByteArray.toList_eq]
 intro e
 have e' : b :: l = [91, 93] := e
 injection e' with e1 e2
 exact h2 e1
theorem rd68_at (xs : List T24) (f : T24 → S68_) (j : Nat) (hj : j < xs.length) : rd_T68 (xs.map f) (j : Int) = f xs[j] := by
 show (xs.map f).getD ((j : Int)).toNat z68 = _
 rw [Int.toNat_natCast, List.getD_eq_getElem?_getD, List.getElem?_map, List.getElem?_eq_getElem hj]
 rfl
theorem typ_ex : ∀ (n : Nat) (x : T24) (b : Bool), rightB n (ownN n x) = true → (showL n (ownN n x) b).length ≤ 1000000000 → ∃ k, hammockref05_typ.f k (tree24 n x).f0 (tree24 n x).f1 (tree24 n x).f2 (tree24 n x).f3 b = some ⟨(showL n (ownN n x) b).toArray⟩
 | 0, _, _, h, _ => by cases h
 | n + 1, x, b, hR, hlen => by
  obtain ⟨h1, h2⟩ := rightB_part hR
  have e0 : (ownN (n + 1) x).f0 = x.f0 := rfl
  have e1 : (ownN (n + 1) x).f1 = x.f1 := rfl
  have e2 : (ownN (n + 1) x).f2 = x.f2 := rfl
  have e3 : (ownN (n + 1) x).f3 = x.f3.map (ownN n) := rfl
  have et : tree24 (n + 1) x = ⟨x.f0, 0, if x.f0 = 1 then letB x.f1 else x.f2, x.f3.map (tree24 n)⟩ := rfl
  have hl16 : x.f3.length ≤ 16 := by have := fits_len h1; rw [e3, List.length_map] at this; exact this
  have ih : ∀ y, y ∈ x.f3 → ∀ b, (showL n (ownN n y) b).length ≤ 1000000000 → ∃ k, hammockref05_typ.f k (tree24 n y).f0 (tree24 n y).f1 (tree24 n y).f2 (tree24 n y).f3 b = some ⟨(showL n (ownN n y) b).toArray⟩ := fun y hy b hb => typ_ex n y b (h2 _ (by rw [e3]; exact List.mem_map_of_mem hy)) hb
  rw [show_succ', e0, e1, e2, e3] at hlen
  rw [show_succ', e0, e1, e2, e3, et]
  by_cases h0 : x.f0 = 1
  ·obtain ⟨q1, q2, q3⟩ := fits_var h1 h0
   have q3' : x.f3 = [] := by
    have : x.f3.map (ownN n) = [] := q3
    simpa using this
   have q1' : 0 ≤ x.f1 := q1
   have hb : bare (ownN (n + 1) x) b = true := by
    unfold bare
    rw [e0, h0]
    simp
   rw [if_pos h0] at hlen
   rw [if_pos h0, if_pos h0, hb, q3']
   have hl : (letterL x.f1).length ≤ 1000000000 := by
    rw [List.length_append, List.length_append] at hlen
    omega
   refine ⟨3, ?_⟩
   show hammockref05_typ.f 3 x.f0 0 (letB x.f1) [] b = _
   have hw := wrap_ex (letterL x.f1) false hl
   have hw' : hammockref05_wrap.f (letB x.f1) false = some ⟨(letterL x.f1).toArray⟩ := hw
   have ew : (opS true).data.toList ++ letterL x.f1 ++ (shS true).data.toList = letterL x.f1 := by
    show [] ++ letterL x.f1 ++ [] = _
    rw [List.nil_append, List.append_nil]
   rw [ew, hammockref05_typ.f, if_neg (by omega), if_neg (letB_no _ q1'), hammockref05_typ.j0, if_neg (by simp), hammockref05_typ.l0, if_neg (by simp)]
   cases b with
   | true =>
    rw [if_pos rfl, show decide ((([] : List S68_).length : Int) > 0) = false from rfl, hw']
    rfl
   | false =>
    rw [if_neg (by simp), hw']
    rfl
  ·rw [if_neg h0] at hlen
   rw [if_neg h0, if_neg h0]
   by_cases hk3 : x.f0 = 3
   ·rw [if_pos hk3] at hlen
    rw [if_pos hk3]
    have hf := fits_fun h1 hk3
    rw [e3, List.length_map] at hf
    have hb : bare (ownN (n + 1) x) b = !b := by
     unfold bare
     rw [e0, hk3]
     simp
    obtain ⟨y, z, hyz⟩ : ∃ y z, x.f3 = [y, z] := by
     match hx : x.f3, hf with
     | [y, z], _ => exact ⟨y, z, rfl⟩
    rw [hyz, hb] at hlen
    rw [hyz, hb]
    have g0 : ([y, z].map (ownN n)).getD 0 z31 = ownN n y := rfl
    have g1 : ([y, z].map (ownN n)).getD 1 z31 = ownN n z := rfl
    rw [g0, g1] at hlen
    rw [g0, g1]
    have f0 : (ownN n y).f0 = (tree24 n y).f0 := by cases n <;> rfl
    rw [f0] at hlen
    rw [f0]
    have hly : (showL n (ownN n y) ((tree24 n y).f0 == 3)).length + (showL n (ownN n z) false).length + 4 ≤ 1000000000 := by
     simp only [List.length_append, List.length_cons, List.length_nil] at hlen
     omega
    obtain ⟨k1, hk1⟩ := ih y (by rw [hyz]; simp) ((tree24 n y).f0 == 3) (by omega)
    obtain ⟨k2, hk2⟩ := ih z (by rw [hyz]; simp) false (by omega)
    generalize hA : showL n (ownN n y) ((tree24 n y).f0 == 3) = la at hly hk1
    generalize hB : showL n (ownN n z) false = lb at hly hk2
    refine ⟨max k1 k2 + 1, ?_⟩
    have r0 : rd_T68 ([y, z].map (tree24 n)) 0 = tree24 n y := rfl
    have r1 : rd_T68 ([y, z].map (tree24 n)) 1 = tree24 n z := rfl
    show hammockref05_typ.f (max k1 k2 + 1) x.f0 0 x.f2 ([y, z].map (tree24 n)) b = _
    have l2 : (([y, z].map (tree24 n)).length : Int) = 2 := rfl
    rw [hammockref05_typ.f, if_pos hk3, if_pos (by rw [l2]; omega), r0,
     leO_up (f := fun k => hammockref05_typ.f k (tree24 n y).f0 (tree24 n y).f1 (tree24 n y).f2 (tree24 n y).f3 ((tree24 n y).f0 == 3)) (fun k => (hammockref05_typ.mono_l k).1 _ _ _ _ _) (Nat.le_max_left k1 k2) hk1, Option.bind_some, ba_size, if_pos (by omega), if_pos (by rw [l2]; omega), r1,
     leO_up (f := fun k => hammockref05_typ.f k (tree24 n z).f0 (tree24 n z).f1 (tree24 n z).f2 (tree24 n z).f3 false) (fun k => (hammockref05_typ.mono_l k).1 _ _ _ _ _) (Nat.le_max_right k1 k2) hk2, Option.bind_some]
    have ea : (⟨#[32, 45, 62, 32]⟩ : ByteArray) = ⟨[32, 45, 62, 32].toArray⟩ := rfl
    rw [ea, ba_app, ba_size, ba_size, if_pos (by simp only [List.length_append, List.length_cons, List.length_nil]; omega), ba_app, wrap_ex _ _ (by simp only [List.length_append, List.length_cons, List.length_nil]; omega), Option.bind_some]
    congr 1
    cases b <;> simp [wrB, opS, shS]
   ·rw [if_neg hk3] at hlen
    rw [if_neg hk3]
    have hk2 : x.f0 = 2 := by
     rcases fits_kinds h1 with h | h | h
     ·exact absurd h h0
     ·exact h
     ·exact absurd h hk3
    have hlB : listB (ownN (n + 1) x) = ((x.f2.toList == [91, 93]) && (x.f3.length == 1)) := by
     unfold listB
     rw [e2, e3, List.length_map]
    have hbare : bare (ownN (n + 1) x) b = (!b || ((x.f3.length == 0) || listB (ownN (n + 1) x))) := by
     unfold bare
     rw [e0, e3, List.length_map, hk2]
     rfl
    by_cases hB : listB (ownN (n + 1) x) = true
    ·rw [if_pos hB] at hlen
     rw [if_pos hB]
     have hb : bare (ownN (n + 1) x) b = true := by rw [hbare, hB]; simp
     rw [hb] at hlen
     rw [hb]
     rw [hlB, Bool.and_eq_true] at hB
     obtain ⟨hn, hone⟩ := hB
     have hn' : x.f2.toList = ([91, 93] : List UInt8) := eq_of_beq hn
     have ho' : x.f3.length = 1 := eq_of_beq hone
     obtain ⟨y, hy⟩ := List.length_eq_one_iff.1 ho'
     rw [hy] at hlen
     rw [hy]
     have g0 : ([y].map (ownN n)).getD 0 z31 = ownN n y := rfl
     rw [g0] at hlen
     rw [g0]
     have hly : (showL n (ownN n y) false).length + 2 ≤ 1000000000 := by
      simp only [List.length_append, List.length_cons, List.length_nil] at hlen
      omega
     obtain ⟨k1, hk1⟩ := ih y (by rw [hy]; simp) false (by omega)
     generalize hA : showL n (ownN n y) false = la at hly hk1
     refine ⟨k1 + 2, ?_⟩
     have r0 : rd_T68 ([y].map (tree24 n)) 0 = tree24 n y := rfl
     show hammockref05_typ.f (k1 + 2) x.f0 0 x.f2 ([y].map (tree24 n)) b = _
     have l2 : (([y].map (tree24 n)).length : Int) = 1 := rfl
     have ea : (⟨#[91]⟩ : ByteArray) = ⟨[91].toArray⟩ := rfl
     have eb : (⟨#[93]⟩ : ByteArray) = ⟨[93].toArray⟩ := rfl
     rw [hammockref05_typ.f, if_neg hk3, if_pos hn', l2, hammockref05_typ.j0, if_pos (by rfl), if_pos (by rw [l2]; omega), r0, hk1, Option.bind_some, ba_size, if_pos (by omega), ea, eb, ba_app, ba_size, if_pos (by simp only [List.length_append, List.length_cons, List.length_nil]; omega), ba_app]
     congr 1
     simp [opS, shS]
    ·rw [if_neg hB] at hlen
     rw [if_neg hB]
     have hB' : listB (ownN (n + 1) x) = false := by simpa using hB
     have hb : bare (ownN (n + 1) x) b = !(b && decide ((x.f3.length : Int) > 0)) := by
      rw [hbare, hB']
      cases b with
      | false => rfl
      | true =>
       rcases h : x.f3 with _ | ⟨y, r⟩
       ·rfl
       ·have : ((y :: r).length == 0) = false := by simp
        have h9 : decide (((y :: r).length : Int) > 0) = true := by simp
        rw [this, h9]
        rfl
     rw [hb] at hlen
     rw [hb]
     have hfm : (x.f3.map (ownN n)).flatMap (fun a => 32 :: showL n a true) = x.f3.flatMap (fun y => 32 :: showL n (ownN n y) true) := by rw [List.flatMap_map]
     rw [hfm] at hlen
     rw [hfm]
     have hle : (x.f2.data.toList ++ x.f3.flatMap (fun y => 32 :: showL n (ownN n y) true)).length ≤ 1000000000 := by
      rw [List.length_append, List.length_append] at hlen
      omega
     have loop : ∀ (d : Nat) (acc : List UInt8), d ≤ x.f3.length → acc = x.f2.data.toList ++ (x.f3.take (x.f3.length - d)).flatMap (fun y => 32 :: showL n (ownN n y) true) →
       ∃ k, hammockref05_typ.l0 k b ⟨acc.toArray⟩ ((x.f3.length - d : Nat) : Int) x.f0 0 x.f2 (x.f3.map (tree24 n)) = some ⟨(wrB (b && decide ((x.f3.length : Int) > 0)) (x.f2.data.toList ++ x.f3.flatMap (fun y => 32 :: showL n (ownN n y) true))).toArray⟩ := by
      intro d
      induction d with
      | zero =>
       intro acc _ ha
       refine ⟨1, ?_⟩
       have ha' : acc = x.f2.data.toList ++ x.f3.flatMap (fun y => 32 :: showL n (ownN n y) true) := by rw [ha, Nat.sub_zero, List.take_length]
       rw [hammockref05_typ.l0, if_neg (by rw [List.length_map]; omega), List.length_map, ← ha']
       rw [← ha'] at hle
       cases b with
       | true => rw [if_pos rfl, wrap_ex _ _ hle]; rfl
       | false => rw [if_neg (by simp), wrap_ex _ _ hle]; rfl
      | succ d ihd =>
       intro acc hd ha
       have hj : x.f3.length - (d + 1) < x.f3.length := by omega
       have e5 : x.f3.length - (d + 1) + 1 = x.f3.length - d := by omega
       have hsplit : (x.f3.take (x.f3.length - d)).flatMap (fun y => 32 :: showL n (ownN n y) true) = (x.f3.take (x.f3.length - (d + 1))).flatMap (fun y => 32 :: showL n (ownN n y) true) ++ (32 :: showL n (ownN n x.f3[x.f3.length - (d + 1)]) true) := by
        rw [← e5, List.take_succ_eq_append_getElem hj, List.flatMap_append]
        simp
       have hpre : (x.f2.data.toList ++ (x.f3.take (x.f3.length - d)).flatMap (fun y => 32 :: showL n (ownN n y) true)).length ≤ 1000000000 := by
        have : x.f3.flatMap (fun y => 32 :: showL n (ownN n y) true) = (x.f3.take (x.f3.length - d)).flatMap (fun y => 32 :: showL n (ownN n y) true) ++ (x.f3.drop (x.f3.length - d)).flatMap (fun y => 32 :: showL n (ownN n y) true) := by rw [← List.flatMap_append, List.take_append_drop]
        rw [this] at hle
        simp only [List.length_append] at hle ⊢
        omega
       rw [hsplit, ← List.append_assoc, ← ha, List.length_append, List.length_cons] at hpre
       obtain ⟨k1, hk1⟩ := ih x.f3[x.f3.length - (d + 1)] (List.getElem_mem hj) true (by omega)
       obtain ⟨k2, hk2'⟩ := ihd (acc ++ (32 :: showL n (ownN n x.f3[x.f3.length - (d + 1)]) true)) (by omega) (by rw [hsplit, ha, List.append_assoc])
       have ea : (⟨#[32]⟩ : ByteArray) = ⟨[32].toArray⟩ := rfl
       refine ⟨max k1 k2 + 1, ?_⟩
       rw [hammockref05_typ.l0, if_pos (by rw [List.length_map]; omega), ba_size, if_pos (by omega), if_pos (by omega), rd68_at _ _ _ hj]
       generalize x.f3[x.f3.length - (d + 1)] = y at hk1 hk2' hpre
       rw [leO_up (f := fun k => hammockref05_typ.f k (tree24 n y).f0 (tree24 n y).f1 (tree24 n y).f2 (tree24 n y).f3 true) (fun k => (hammockref05_typ.mono_l k).1 _ _ _ _ _) (Nat.le_max_left k1 k2) hk1, Option.bind_some, ea, ba_app, ba_size, ba_size, if_pos (by rw [List.length_append, List.length_singleton]; omega), ba_app, wrap_succ _ (by omega), e5, List.append_assoc]
       exact leO_up (f := fun k => hammockref05_typ.l0 k b ⟨(acc ++ (32 :: showL n (ownN n y) true)).toArray⟩ ((x.f3.length - d : Nat) : Int) x.f0 0 x.f2 (x.f3.map (tree24 n))) (fun k => (hammockref05_typ.mono_l k).2.2 _ _ _ _ _ _ _) (Nat.le_max_right k1 k2) hk2'
     obtain ⟨k, hk⟩ := loop x.f3.length x.f2.data.toList (Nat.le_refl _) (by simp)
     rw [ba_eta, Nat.sub_self] at hk
     have hj0 : hammockref05_typ.j0 (k + 1) b false x.f0 0 x.f2 (x.f3.map (tree24 n)) = some ⟨(wrB (b && decide ((x.f3.length : Int) > 0)) (x.f2.data.toList ++ x.f3.flatMap (fun y => 32 :: showL n (ownN n y) true))).toArray⟩ := by
      rw [hammockref05_typ.j0, if_neg (by simp)]
      exact hk
     refine ⟨k + 2, ?_⟩
     show hammockref05_typ.f (k + 2) x.f0 0 x.f2 (x.f3.map (tree24 n)) b = _
     have hfin : (⟨(wrB (b && decide ((x.f3.length : Int) > 0)) (x.f2.data.toList ++ x.f3.flatMap (fun y => 32 :: showL n (ownN n y) true))).toArray⟩ : ByteArray) = ⟨((opS !(b && decide ((x.f3.length : Int) > 0))).data.toList ++ (x.f2.data.toList ++ x.f3.flatMap (fun y => 32 :: showL n (ownN n y) true)) ++ (shS !(b && decide ((x.f3.length : Int) > 0))).data.toList).toArray⟩ := by
      cases (b && decide ((x.f3.length : Int) > 0)) <;> simp [wrB, opS, shS]
     rw [← hfin, hammockref05_typ.f, if_neg hk3]
     by_cases hn : x.f2.toList = ([91, 93] : List UInt8)
     ·have hone : (((x.f3.map (tree24 n)).length : Int) == 1) = false := by
       rw [hlB, hn] at hB'
       have h8 : (x.f3.length == 1) = false := by simpa using hB'
       rw [List.length_map]
       simp at h8 ⊢
       omega
      rw [if_pos hn, hone]
      exact hj0
     ·rw [if_neg hn]
      exact hj0
theorem Print24_ex (x : T24) (hv : ∀ v, v ∈ varsN 400 (ownN 400 x) → v ≤ 9223372036854775807) (hN : (showL 400 (ownN 400 x) false).length ≤ 1000000000) : ∃ k, hammockref09_Print.f k x.f0 x.f1 x.f2 x.f3 = some ⟨(printL (ownN 400 x)).toArray⟩ := by
 obtain ⟨k1, hk1⟩ := Right24_ex x
 unfold hammockref09_Print.f printL
 by_cases h : rightB 400 (ownN 400 x) = true
 ·obtain ⟨k2, hk2⟩ := tree24_ex 400 x (few24_of_right 400 x h) (fun v hm => ⟨vars_nonneg 400 _ h v hm, hv v hm⟩)
  obtain ⟨k3, hk3⟩ := typ_ex 400 x false h hN
  refine ⟨max k1 (max k2 k3), ?_⟩
  rw [leO_up (f := fun k => hammockref09_Right.f k x.f0 x.f1 x.f2 x.f3) (fun k => hammockref09_Right.mono _ _ _ _ k) (Nat.le_max_left k1 _) hk1, Option.bind_some, if_pos h,
   leO_up (f := fun k => hammockref09_tree.f k x.f0 x.f1 x.f2 x.f3) (fun k => (hammockref09_tree.mono_l k).1 _ _ _ _) (Nat.le_trans (Nat.le_max_left k2 k3) (Nat.le_max_right k1 _)) hk2, Option.bind_some]
  unfold hammockref05_Show.f
  rw [leO_up (f := fun k => hammockref05_typ.f k (tree24 400 x).f0 (tree24 400 x).f1 (tree24 400 x).f2 (tree24 400 x).f3 false) (fun k => (hammockref05_typ.mono_l k).1 _ _ _ _ _) (Nat.le_trans (Nat.le_max_right k2 k3) (Nat.le_max_right k1 _)) hk3, Option.bind_some, Option.bind_some, if_pos h]
 ·refine ⟨k1, ?_⟩
  rw [hk1, Option.bind_some, if_neg h, if_neg h]
end Go.Proofs.YtddmdiaopaoekaaDoor.P
