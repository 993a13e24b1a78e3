import Derived.Test.YtddmdiaopaoekaaDoorPlG
import Derived.Test.YtddmdiaopaoekaaDoorPx4
import Derived.Test.YtddmdiaopaoekaaDoorTyZ
import Derived.Test.YtddmdiaopaoekaaDoorLaA
namespace Go.Proofs.YtddmdiaopaoekaaDoor.P
open Go.RowKit Go.Proofs.YtddmdiaopaoekaaDoorW.PrintWords Go.Proofs.YtddmdiaopaoekaaDoor.Rw
set_option linter.unusedVariables false
theorem own_dep : ∀ (n m : Nat) (x : S24), few24 n x → few24 m x → ownN n x = ownN m x
 | 0, _, _, h, _ => h.elim
 | _ + 1, 0, _, _, h => h.elim
 | n + 1, m + 1, x, h, k => by
  show (⟨x.f0, x.f1, x.f2, x.f3.map (ownN n)⟩ : S31) = ⟨x.f0, x.f1, x.f2, x.f3.map (ownN m)⟩
  rw [List.map_congr_left (fun y hy => own_dep n m y (h.2 y hy) (k.2 y hy))]
theorem few24_le : ∀ (n m : Nat) (x : S24), n ≤ m → few24 n x → few24 m x
 | 0, _, _, _, h => h.elim
 | n + 1, 0, _, h, _ => by omega
 | n + 1, m + 1, x, h, k => ⟨k.1, fun y hy => few24_le n m y (by omega) (k.2 y hy)⟩
theorem dep_own : ∀ (n : Nat) (x : S24), few24 n x → dep n (ownN n x)
 | 0, _, h => h.elim
 | n + 1, x, h => fun y hy => by
  obtain ⟨z, hz, rfl⟩ := List.mem_map.1 (show y ∈ x.f3.map (ownN n) from hy)
  exact dep_own n z (h.2 z hz)
/-- The reference's same, in plain words. -/
theorem same_ex : ∀ (n : Nat) (x y : S24), few24 n x → ∃ k, hammockref09_Same.f k x.f0 x.f1 x.f2 x.f3 y.f0 y.f1 y.f2 y.f3 = some (sameN n (ownN n x) (ownN n y))
 | 0, _, _, h => h.elim
 | n + 1, x, y, h => by
  have e : sameN (n + 1) (ownN (n + 1) x) (ownN (n + 1) y) = ((x.f0 == y.f0) && ((x.f1 == y.f1) && ((x.f2.toList == y.f2.toList) && alikeT (sameN n) (x.f3.map (ownN n)) (y.f3.map (ownN n))))) := rfl
  rw [e]
  have hl : x.f3.length ≤ 1000 := h.1
  have bad : ∃ k, hammockref09_Same.j0 k true x.f0 x.f1 x.f2 x.f3 y.f0 y.f1 y.f2 y.f3 = some false := ⟨1, by rw [hammockref09_Same.j0, if_pos rfl]⟩
  by_cases h0 : x.f0 = y.f0
  ·by_cases h1 : x.f1 = y.f1
   ·by_cases h2 : x.f2.toList = y.f2.toList
    ·have b0 : (x.f0 == y.f0) = true := beq_iff_eq.2 h0
     have b1 : (x.f1 == y.f1) = true := beq_iff_eq.2 h1
     have b2 : (x.f2.toList == y.f2.toList) = true := beq_iff_eq.2 h2
     rw [b0, b1, b2]
     simp only [Bool.true_and]
     by_cases hln : x.f3.length = y.f3.length
     ·have loop : ∀ (d : Nat), d ≤ x.f3.length → ∃ k, hammockref09_Same.l0 k ((x.f3.length - d : Nat) : Int) x.f0 x.f1 x.f2 x.f3 y.f0 y.f1 y.f2 y.f3 = some (alikeT (sameN n) ((x.f3.drop (x.f3.length - d)).map (ownN n)) ((y.f3.drop (x.f3.length - d)).map (ownN n))) := by
       intro d
       induction d with
       | zero =>
        intro _
        refine ⟨1, ?_⟩
        rw [hammockref09_Same.l0, if_neg (by omega)]
        rw [List.drop_of_length_le (by omega), List.drop_of_length_le (by omega)]
        rfl
       | succ d ih =>
        intro hd
        have hj : x.f3.length - (d + 1) < x.f3.length := by omega
        have hj2 : x.f3.length - (d + 1) < y.f3.length := by omega
        have e2 : x.f3.length - (d + 1) + 1 = x.f3.length - d := by omega
        obtain ⟨k1, hk1⟩ := same_ex n x.f3[x.f3.length - (d + 1)] y.f3[x.f3.length - (d + 1)] (h.2 _ (List.getElem_mem hj))
        obtain ⟨k2, hk2⟩ := ih (by omega)
        refine ⟨max k1 k2 + 1, ?_⟩
        have r1 : rd_T24 x.f3 ((x.f3.length - (d + 1) : Nat) : Int) = x.f3[x.f3.length - (d + 1)] := by rw [rd24]; simp [List.getD_eq_getElem?_getD, hj]
        have r2 : rd_T24 y.f3 ((x.f3.length - (d + 1) : Nat) : Int) = y.f3[x.f3.length - (d + 1)] := by rw [rd24]; simp [List.getD_eq_getElem?_getD, hj2]
        rw [hammockref09_Same.l0, if_pos (by omega), if_pos (by omega), if_pos (by omega), r1, r2]
        have hk3 := leO_up (f := fun k => hammockref09_Same.f k x.f3[x.f3.length - (d + 1)].f0 x.f3[x.f3.length - (d + 1)].f1 x.f3[x.f3.length - (d + 1)].f2 x.f3[x.f3.length - (d + 1)].f3 y.f3[x.f3.length - (d + 1)].f0 y.f3[x.f3.length - (d + 1)].f1 y.f3[x.f3.length - (d + 1)].f2 y.f3[x.f3.length - (d + 1)].f3) (fun k => (hammockref09_Same.mono_l k).1 _ _ _ _ _ _ _ _) (Nat.le_max_left k1 k2) hk1
        have hk4 := leO_up (f := fun k => hammockref09_Same.l0 k ((x.f3.length - d : Nat) : Int) x.f0 x.f1 x.f2 x.f3 y.f0 y.f1 y.f2 y.f3) (fun k => (hammockref09_Same.mono_l k).2.2 _ _ _ _ _ _ _ _ _) (Nat.le_max_right k1 k2) hk2
        rw [hk3, Option.bind_some, wrap_succ _ (by omega), e2, hk4]
        have d1 : x.f3.drop (x.f3.length - (d + 1)) = x.f3[x.f3.length - (d + 1)] :: x.f3.drop (x.f3.length - d) := by rw [List.drop_eq_getElem_cons hj, e2]
        have d2 : y.f3.drop (x.f3.length - (d + 1)) = y.f3[x.f3.length - (d + 1)] :: y.f3.drop (x.f3.length - d) := by rw [List.drop_eq_getElem_cons hj2, e2]
        rw [d1, d2, List.map_cons, List.map_cons, alikeT]
        cases sameN n (ownN n x.f3[x.f3.length - (d + 1)]) (ownN n y.f3[x.f3.length - (d + 1)]) <;> simp
      obtain ⟨k, hk⟩ := loop x.f3.length (Nat.le_refl _)
      refine ⟨k + 2, ?_⟩
      rw [hammockref09_Same.f, if_pos h0, if_pos h1, if_pos h2, hammockref09_Same.j0, if_neg (by simp [hln])]
      simpa using hk
     ·refine ⟨2, ?_⟩
      rw [hammockref09_Same.f, if_pos h0, if_pos h1, if_pos h2, hammockref09_Same.j0, if_pos (by simp; omega)]
      rw [alike_len _ _ _ (by simpa using hln)]
    ·obtain ⟨k, hk⟩ := bad
     refine ⟨k + 1, ?_⟩
     have b2 : (x.f2.toList == y.f2.toList) = false := beq_eq_false_iff_ne.2 h2
     rw [hammockref09_Same.f, if_pos h0, if_pos h1, if_neg h2, hk, b2]
     simp
   ·obtain ⟨k, hk⟩ := bad
    refine ⟨k + 1, ?_⟩
    have b2 : (x.f1 == y.f1) = false := beq_eq_false_iff_ne.2 h1
    rw [hammockref09_Same.f, if_pos h0, if_neg h1, hk, b2]
    simp
  ·obtain ⟨k, hk⟩ := bad
   refine ⟨k + 1, ?_⟩
   have b2 : (x.f0 == y.f0) = false := beq_eq_false_iff_ne.2 h0
   rw [hammockref09_Same.f, if_neg h0, hk, b2]
   simp
/-- The reference's match, in plain words. -/
noncomputable def rsame (x y : S24) : Bool := sameN 400 (ownN 400 x) (ownN 400 y)
/-- The row that is written: every type in it lies in what came in. -/
def OutI (w0 : World) (b : Nat) (o : List S24) (W : World) : Prop :=
 w0.heap.size ≤ b ∧ Below w0.heap.size w0 W ∧ (∀ y, y ∈ o → few24 400 y) ∧ ∃ cur : Array Value, W.heap[b]? = some (.cells cur 24 (0, 0)) ∧ cur.size = o.length * 4 ∧ Reps (k24.K w0) 4 o cur.toList
theorem OutI.put {w0 W : World} {b : Nat} {o : List S24} (h : OutI w0 b o W) (i : Nat) (hi : i < o.length) (s : S24) {A : Option Addr} {c : Nat} (hl : s.f3.length ≤ c) (hC : k24.C w0 A s.f3.length s.f3) (hs : few24 400 s) :
  OutI w0 b (o.set i s) (set4 W b (i * 4) (.int .i64 s.f0) (.int .i64 s.f1) (.string s.f2) (.slice A s.f3.length c)) := by
 obtain ⟨h1, h2, h3, cur, h4, h5, h6⟩ := h
 have hg := set4_grown W b (i * 4) (.int .i64 s.f0) (.int .i64 s.f1) (.string s.f2) (.slice A s.f3.length c)
 have hh := set4_heap (o := i * 4) h4 (.int .i64 s.f0) (.int .i64 s.f1) (.string s.f2) (.slice A s.f3.length c)
 have hi4 : i * 4 + 4 ≤ cur.size := by rw [h5]; omega
 refine ⟨h1, h2.grown hg h2.size (fun k e => by cases e; exact h1), fun y hy => ?_, _, hh, by simpa using h5, ?_⟩
 ·rcases List.mem_or_eq_of_mem_set hy with h | rfl
  ·exact h3 y h
  ·exact hs
 ·rw [Fil.list (i * 4) _ _ _ _ hi4]
  have hlen : cur.toList.length = o.length * 4 := by simpa using h5
  refine ⟨by simp; omega, fun j p hj => ?_⟩
  have hjl : j < o.length := by have := (List.getElem?_eq_some_iff.1 hj).1; simpa using this
  by_cases e : j = i
  ·subst e
   rw [List.getElem?_set_self hi] at hj
   obtain rfl := Option.some.inj hj
   have e2 : (List.drop (j * 4) (List.take (j * 4) cur.toList ++ [Value.int .i64 s.f0, .int .i64 s.f1, .string s.f2, .slice A s.f3.length c] ++ List.drop (j * 4 + 4) cur.toList)) = [Value.int .i64 s.f0, .int .i64 s.f1, .string s.f2, .slice A s.f3.length c] ++ List.drop (j * 4 + 4) cur.toList := by
    rw [List.append_assoc, List.drop_append_of_le_length (by simp; omega), List.drop_of_length_le (by simp; omega)]
    rfl
   rw [e2]
   exact k24_mk w0 s hl hC
  ·rw [List.getElem?_set_ne (fun e2 => e e2.symm)] at hj
   have hp := h6.2 j p hj
   have e2 : List.take 4 (List.drop (j * 4) (List.take (i * 4) cur.toList ++ [Value.int .i64 s.f0, .int .i64 s.f1, .string s.f2, .slice A s.f3.length c] ++ List.drop (i * 4 + 4) cur.toList)) = List.take 4 (List.drop (j * 4) cur.toList) := by
    apply List.ext_getElem?
    intro q
    simp only [List.getElem?_take]
    split
    ·rename_i hq
     rw [List.getElem?_drop, List.getElem?_drop]
     rcases Nat.lt_or_ge j i with hlt | hge
     ·rw [List.append_assoc, List.getElem?_append_left (by simp; omega), List.getElem?_take, if_pos (by omega)]
     ·rw [List.getElem?_append_right (by simp; omega), List.getElem?_drop]
      congr 1
      simp
      omega
    ·rfl
   rw [e2]
   exact hp
end Go.Proofs.YtddmdiaopaoekaaDoor.P
namespace Go.Proofs.YtddmdiaopaoekaaDoor.P
open Go.RowKit Go.Shelf Go.Proofs.YtddmdiaopaoekaaDoorW.PrintWords Go.Proofs.YtddmdiaopaoekaaDoorW.PrintLast Go.Proofs.YtddmdiaopaoekaaDoor.Rw
set_option linter.unusedVariables false
set_option linter.unusedSimpArgs false
theorem rsame_calls (x y : S24) (A B : Option Addr) (c d : Nat) (W : World) (hx : few24 400 x) (hc : x.f3.length ≤ c) (hC : k24.C W A x.f3.length x.f3) (hd : y.f3.length ≤ d) (hD : k24.C W B y.f3.length y.f3) :
  Calls Tryd.prog 13 #[.agg #[.int .i64 x.f0, .int .i64 x.f1, .string x.f2, .slice A x.f3.length c], .agg #[.int .i64 y.f0, .int .i64 y.f1, .string y.f2, .slice B y.f3.length d]] W fun e W' => e = .returned (.bool (rsame x y)) ∧ Below W.heap.size W W' := by
 obtain ⟨k, hk⟩ := same_ex 400 x y hx
 exact hammockref09_Same.calls k x.f0 x.f1 x.f2 A c x.f3 y.f0 y.f1 y.f2 B d y.f3 _ W hC hc hD hd hk
end Go.Proofs.YtddmdiaopaoekaaDoor.P
namespace Go.Proofs.YtddmdiaopaoekaaDoor.P
open Go.RowKit Go.Proofs.YtddmdiaopaoekaaDoorW.PrintWords
set_option linter.unusedVariables false
theorem mem_foldAdd : ∀ (xs acc : List Int) (v : Int), v ∈ xs.foldl addNew acc ↔ v ∈ acc ∨ v ∈ xs
 | [], acc, v => by simp
 | x :: xs, acc, v => by
  rw [List.foldl_cons, mem_foldAdd xs, mem_addNew, List.mem_cons]
  constructor
  ·rintro ((h | h) | h)
   ·exact .inl h
   ·exact .inr (.inl h)
   ·exact .inr (.inr h)
  ·rintro (h | h | h)
   ·exact .inl (.inl h)
   ·exact .inl (.inr h)
   ·exact .inr h
theorem fold_fold : ∀ (xs ys acc : List Int), (xs.foldl addNew ys).foldl addNew acc = xs.foldl addNew (ys.foldl addNew acc)
 | [], ys, acc => rfl
 | x :: xs, ys, acc => by
  rw [List.foldl_cons, List.foldl_cons, fold_fold xs]
  congr 1
  have e1 : addNew ys x = if x ∈ ys then ys else ys ++ [x] := rfl
  rw [e1]
  by_cases h : x ∈ ys
  ·rw [if_pos h]
   exact (if_pos ((mem_foldAdd ys acc x).2 (.inr h))).symm
  ·rw [if_neg h, List.foldl_append]
   rfl
theorem fold_distinct (xs acc : List Int) : (distinctL xs).foldl addNew acc = xs.foldl addNew acc := fold_fold xs [] acc
theorem at_ex (l : List Int) (v : Int) (hl : l.length ≤ 1000000) : ∃ k r, hammockref09_at.f k l v = some r ∧ (r < 0 ↔ v ∉ l) := by
 have loop : ∀ d, d ≤ l.length → ∃ k r, hammockref09_at.l0 k l v ((l.length - d : Nat) : Int) = some r ∧ (r < 0 ↔ v ∉ l.drop (l.length - d)) := by
  intro d
  induction d with
  | zero =>
   intro _
   refine ⟨1, -1, ?_, ?_⟩
   ·rw [hammockref09_at.l0, if_neg (by omega)]
   ·rw [List.drop_of_length_le (by omega)]
    simp
  | succ d ih =>
   intro hd
   have hj : l.length - (d + 1) < l.length := by omega
   have e2 : l.length - (d + 1) + 1 = l.length - d := by omega
   obtain ⟨k, r, h1, h2⟩ := ih (by omega)
   have r1 : rd l ((l.length - (d + 1) : Nat) : Int) = l[l.length - (d + 1)] := by
    show l.getD (((l.length - (d + 1) : Nat) : Int)).toNat 0 = _
    rw [Int.toNat_natCast, List.getD_eq_getElem?_getD, List.getElem?_eq_getElem hj]
    rfl
   have d1 : l.drop (l.length - (d + 1)) = l[l.length - (d + 1)] :: l.drop (l.length - d) := by rw [List.drop_eq_getElem_cons hj, e2]
   by_cases hv : l[l.length - (d + 1)] = v
   ·refine ⟨k + 1, ((l.length - (d + 1) : Nat) : Int), ?_, ?_⟩
    ·rw [hammockref09_at.l0, if_pos (by omega), if_pos (by omega), r1, if_pos hv]
    ·rw [d1, hv]
     constructor
     ·intro h; omega
     ·intro h; exact absurd (List.mem_cons_self) h
   ·refine ⟨k + 1, r, ?_, ?_⟩
    ·rw [hammockref09_at.l0, if_pos (by omega), if_pos (by omega), r1, if_neg hv, wrap_succ _ (by omega), e2]
     exact h1
    ·rw [h2, d1, List.mem_cons]
     constructor
     ·intro h1 h; rcases h with h | h
      ·exact hv h.symm
      ·exact h1 h
     ·intro h1 h; exact h1 (.inr h)
 obtain ⟨k, r, h1, h2⟩ := loop l.length (Nat.le_refl _)
 refine ⟨k, r, ?_, ?_⟩
 ·unfold hammockref09_at.f
  simpa using h1
 ·simpa using h2
theorem wrap_succ' (j : Nat) (h : j ≤ 100000000) : wrap64 ((j : Int) + 1) = ((j + 1 : Nat) : Int) := by
 unfold wrap64
 omega
theorem vars_ex : ∀ (n : Nat) (x : S24), few24 n x → (varsN n (ownN n x)).length ≤ 100000 → ∃ k, hammockref09_vars.f k x.f0 x.f1 x.f2 x.f3 = some (distinctL (varsN n (ownN n x)))
 | 0, _, h, _ => h.elim
 | n + 1, x, h, hN => by
  have ev : varsN (n + 1) (ownN (n + 1) x) = (if x.f0 = 1 then [x.f1] else []) ++ (x.f3.map (ownN n)).flatMap (varsN n) := rfl
  have hlen : ∀ y, y ∈ x.f3 → (varsN n (ownN n y)).length ≤ 100000 := fun y hy => by
   have : (varsN n (ownN n y)).length ≤ ((x.f3.map (ownN n)).flatMap (varsN n)).length := by
    obtain ⟨a, b, e⟩ := List.append_of_mem hy
    rw [e]
    simp only [List.map_append, List.map_cons, List.flatMap_append, List.flatMap_cons, List.length_append]
    omega
   rw [ev, List.length_append] at hN
   omega
  have loop : ∀ (d : Nat) (acc : List Int), d ≤ x.f3.length → acc.length + (((x.f3.drop (x.f3.length - d)).map (ownN n)).flatMap (varsN n)).length ≤ 100000 → ∃ k, hammockref09_vars.l0 k acc ((x.f3.length - d : Nat) : Int) x.f0 x.f1 x.f2 x.f3 = some ((((x.f3.drop (x.f3.length - d)).map (ownN n)).flatMap (varsN n)).foldl addNew acc) := by
   intro d
   induction d with
   | zero =>
    intro acc _ _
    refine ⟨1, ?_⟩
    rw [hammockref09_vars.l0, if_neg (by omega), List.drop_of_length_le (by omega)]
    rfl
   | succ d ih =>
    intro acc hd ha
    have hj : x.f3.length - (d + 1) < x.f3.length := by omega
    have e2 : x.f3.length - (d + 1) + 1 = x.f3.length - d := by omega
    have d1 : x.f3.drop (x.f3.length - (d + 1)) = x.f3[x.f3.length - (d + 1)] :: x.f3.drop (x.f3.length - d) := by rw [List.drop_eq_getElem_cons hj, e2]
    rw [d1] at ha ⊢
    rw [List.map_cons, List.flatMap_cons] at ha ⊢
    rw [List.length_append] at ha
    have r1 : rd_T24 x.f3 ((x.f3.length - (d + 1) : Nat) : Int) = x.f3[x.f3.length - (d + 1)] := by rw [rd24, List.getD_eq_getElem?_getD, List.getElem?_eq_getElem hj]; rfl
    obtain ⟨k1, hk1⟩ := vars_ex n x.f3[x.f3.length - (d + 1)] (h.2 _ (List.getElem_mem hj)) (hlen _ (List.getElem_mem hj))
    generalize x.f3[x.f3.length - (d + 1)] = y at hk1 ha r1 ⊢
    generalize hm : varsN n (ownN n y) = vs at hk1 ha ⊢
    have hml := length_distinct vs
    have inner : ∀ (e : Nat) (acc2 : List Int), e ≤ (distinctL vs).length → acc2.length + e + (((x.f3.drop (x.f3.length - d)).map (ownN n)).flatMap (varsN n)).length ≤ 100000 → ∃ k, hammockref09_vars.l1 k acc2 ((x.f3.length - (d + 1) : Nat) : Int) (distinctL vs) (((distinctL vs).length - e : Nat) : Int) x.f0 x.f1 x.f2 x.f3 = some ((((x.f3.drop (x.f3.length - d)).map (ownN n)).flatMap (varsN n)).foldl addNew (((distinctL vs).drop ((distinctL vs).length - e)).foldl addNew acc2)) := by
     intro e
     induction e with
     | zero =>
      intro acc2 _ ha2
      obtain ⟨k, hk⟩ := ih acc2 (by omega) (by omega)
      refine ⟨k + 1, ?_⟩
      rw [hammockref09_vars.l1, if_neg (by omega), wrap_succ _ (by have h9 : x.f3.length ≤ 1000 := h.1; omega), e2, hk, List.drop_of_length_le (l := distinctL vs) (by omega)]
      rfl
     | succ e ih2 =>
      intro acc2 he ha2
      have hje : (distinctL vs).length - (e + 1) < (distinctL vs).length := by omega
      have e3 : (distinctL vs).length - (e + 1) + 1 = (distinctL vs).length - e := by omega
      have d2 : (distinctL vs).drop ((distinctL vs).length - (e + 1)) = (distinctL vs)[(distinctL vs).length - (e + 1)] :: (distinctL vs).drop ((distinctL vs).length - e) := by rw [List.drop_eq_getElem_cons hje, e3]
      have r2 : rd (distinctL vs) (((distinctL vs).length - (e + 1) : Nat) : Int) = (distinctL vs)[(distinctL vs).length - (e + 1)] := by
       show (distinctL vs).getD ((((distinctL vs).length - (e + 1) : Nat) : Int)).toNat 0 = _
       rw [Int.toNat_natCast, List.getD_eq_getElem?_getD, List.getElem?_eq_getElem hje]
       rfl
      rw [d2, List.foldl_cons]
      generalize (distinctL vs)[(distinctL vs).length - (e + 1)] = u at r2 ⊢
      obtain ⟨ka, ra, hka, hra⟩ := at_ex acc2 u (by omega)
      by_cases hu : u ∈ acc2
      ·obtain ⟨k, hk⟩ := ih2 acc2 (by omega) (by omega)
       refine ⟨max ka k + 1, ?_⟩
       have hka2 := leO_up (f := fun k => hammockref09_at.f k acc2 u) (fun k => hammockref09_at.mono _ _ k) (Nat.le_max_left ka k) hka
       have hk2 := leO_up (f := fun k => hammockref09_vars.l1 k acc2 ((x.f3.length - (d + 1) : Nat) : Int) (distinctL vs) (((distinctL vs).length - e : Nat) : Int) x.f0 x.f1 x.f2 x.f3) (fun k => (hammockref09_vars.mono_l k).2.2.2 _ _ _ _ _ _ _ _) (Nat.le_max_right ka k) hk
       rw [hammockref09_vars.l1, if_pos (by omega), if_pos (by omega), r2, hka2, Option.bind_some, if_neg (fun h9 => (hra.1 h9) hu), wrap_succ' _ (by omega), e3, hk2]
       unfold addNew
       rw [if_pos hu]
      ·obtain ⟨k, hk⟩ := ih2 (acc2 ++ [u]) (by omega) (by rw [List.length_append, List.length_singleton]; omega)
       refine ⟨max ka k + 1, ?_⟩
       have hka2 := leO_up (f := fun k => hammockref09_at.f k acc2 u) (fun k => hammockref09_at.mono _ _ k) (Nat.le_max_left ka k) hka
       have hk2 := leO_up (f := fun k => hammockref09_vars.l1 k (acc2 ++ [u]) ((x.f3.length - (d + 1) : Nat) : Int) (distinctL vs) (((distinctL vs).length - e : Nat) : Int) x.f0 x.f1 x.f2 x.f3) (fun k => (hammockref09_vars.mono_l k).2.2.2 _ _ _ _ _ _ _ _) (Nat.le_max_right ka k) hk
       rw [hammockref09_vars.l1, if_pos (by omega), if_pos (by omega), r2, hka2, Option.bind_some, if_pos (hra.2 hu), if_pos (by omega), wrap_succ' _ (by omega), e3, hk2]
       have e4 : addNew acc2 u = acc2 ++ [u] := by unfold addNew; rw [if_neg hu]
       rw [e4]
    obtain ⟨k2, hk2⟩ := inner (distinctL vs).length acc (Nat.le_refl _) (by omega)
    refine ⟨max k1 k2 + 1, ?_⟩
    have hk3 := leO_up (f := fun k => hammockref09_vars.f k y.f0 y.f1 y.f2 y.f3) (fun k => (hammockref09_vars.mono_l k).1 _ _ _ _) (Nat.le_max_left k1 k2) hk1
    have hk4 := leO_up (f := fun k => hammockref09_vars.l1 k acc ((x.f3.length - (d + 1) : Nat) : Int) (distinctL vs) (((distinctL vs).length - (distinctL vs).length : Nat) : Int) x.f0 x.f1 x.f2 x.f3) (fun k => (hammockref09_vars.mono_l k).2.2.2 _ _ _ _ _ _ _ _) (Nat.le_max_right k1 k2) hk2
    rw [hammockref09_vars.l0, if_pos (by omega), if_pos (by omega), r1, hk3, Option.bind_some]
    have e5 : (((distinctL vs).length - (distinctL vs).length : Nat) : Int) = 0 := by omega
    rw [e5] at hk4
    rw [hk4, List.foldl_append]
    have e6 : (distinctL vs).drop ((distinctL vs).length - (distinctL vs).length) = distinctL vs := by simp
    rw [e6, fold_distinct]
  rw [ev, List.length_append] at hN
  have key : ∀ acc : List Int, acc.length ≤ (if x.f0 = 1 then [x.f1] else ([] : List Int)).length → ∃ k, hammockref09_vars.j0 k acc x.f0 x.f1 x.f2 x.f3 = some (((x.f3.map (ownN n)).flatMap (varsN n)).foldl addNew acc) := fun acc ha => by
   obtain ⟨k, hk⟩ := loop x.f3.length acc (Nat.le_refl _) (by simp only [Nat.sub_self, List.drop_zero]; omega)
   refine ⟨k + 1, ?_⟩
   rw [hammockref09_vars.j0]
   simpa using hk
  by_cases e : x.f0 = 1
  ·rw [if_pos e] at key
   obtain ⟨k, hk⟩ := key [x.f1] (Nat.le_refl _)
   refine ⟨k + 1, ?_⟩
   rw [hammockref09_vars.f, if_pos e, hk, ev, if_pos e]
   unfold distinctL
   rw [List.foldl_append]
   rfl
  ·rw [if_neg e] at key
   obtain ⟨k, hk⟩ := key [] (Nat.le_refl _)
   refine ⟨k + 1, ?_⟩
   rw [hammockref09_vars.f, if_neg e, hk, ev, if_neg e]
   rfl
/-- .. of a type that is right. -/
theorem Vars24_ex (x : S24) (hx : rightB 400 (ownN 400 x) = true) (hN : (varsN 400 (ownN 400 x)).length ≤ 100000) : ∃ k, hammockref09_Vars.f k x.f0 x.f1 x.f2 x.f3 = some (VarsB (ownN 400 x)) := by
 obtain ⟨k1, hk1⟩ := Right24_ex x
 obtain ⟨k2, hk2⟩ := vars_ex 400 x (few24_of_right 400 x hx) hN
 refine ⟨max k1 k2, ?_⟩
 unfold hammockref09_Vars.f
 rw [leO_up (f := fun k => hammockref09_Right.f k x.f0 x.f1 x.f2 x.f3) (fun k => hammockref09_Right.mono _ _ _ _ k) (Nat.le_max_left k1 k2) hk1, Option.bind_some, if_pos hx, leO_up (f := fun k => hammockref09_vars.f k x.f0 x.f1 x.f2 x.f3) (fun k => (hammockref09_vars.mono_l k).1 _ _ _ _) (Nat.le_max_right k1 k2) hk2]
 unfold VarsB
 rw [if_pos hx, varsL_400 _ hx]
 rfl
end Go.Proofs.YtddmdiaopaoekaaDoor.P
namespace Go.Proofs.YtddmdiaopaoekaaDoor.P
open Go.RowKit Go.Shelf Go.Proofs.YtddmdiaopaoekaaDoorW.PrintWords Go.Proofs.YtddmdiaopaoekaaDoorW.PrintLast Go.Proofs.YtddmdiaopaoekaaDoor.Rw
set_option linter.unusedVariables false
set_option linter.unusedSimpArgs false
abbrev T24 := S24
/-- The two boxes. -/
def B2 (w : World) (g s : T24) (A B : Option Addr) (c d : Nat) (W : World) : Prop :=
 Below w.heap.size w W ∧ W.heap[w.heap.size]? = some (.cells #[.int .i64 g.f0, .int .i64 g.f1, .string g.f2, .slice A g.f3.length c] 24 (0, 0)) ∧ W.heap[w.heap.size + 1]? = some (.cells #[.int .i64 s.f0, .int .i64 s.f1, .string s.f2, .slice B s.f3.length d] 24 (0, 0))
theorem B2.grown {w : World} {g s : T24} {A B : Option Addr} {c d : Nat} {W W' : World} (h : B2 w g s A B c d W) {b : Nat} (hg : W.grownBy W' (some b)) (hb : w.heap.size + 2 ≤ b) : B2 w g s A B c d W' :=
 ⟨h.1.grown hg h.1.size (fun k e => by cases e; omega), (hg.block _ (Array.getElem?_eq_some_iff.1 h.2.1).1 (by intro e; injection e; omega)).trans h.2.1, (hg.block _ (Array.getElem?_eq_some_iff.1 h.2.2).1 (by intro e; injection e; omega)).trans h.2.2⟩
theorem B2.size {w : World} {g s : T24} {A B : Option Addr} {c d : Nat} {W : World} (h : B2 w g s A B c d W) : w.heap.size + 2 ≤ W.heap.size := by
 have := (Array.getElem?_eq_some_iff.1 h.2.2).1
 omega
end Go.Proofs.YtddmdiaopaoekaaDoor.P
namespace Go.Proofs.YtddmdiaopaoekaaDoor.P
open Go.RowKit Go.Shelf Go.Proofs.YtddmdiaopaoekaaDoorW.PrintWords Go.Proofs.YtddmdiaopaoekaaDoorW.PrintLast Go.Proofs.YtddmdiaopaoekaaDoor.Rw
set_option linter.unusedVariables false
set_option linter.unusedSimpArgs false
/-- Few parts: a shallow type. -/
theorem few_of_cnt : ∀ (k : Nat) (x : T24), cntN (k + 1) x ≤ k → k ≤ 1000 → few24 k x
 | 0, x, h, _ => by
  have e : cntN 1 x = 1 + (x.f3.map (cntN 0)).sum := rfl
  have h' : cntN 1 x ≤ 0 := h
  omega
 | k + 1, x, h, hk => by
  have e : cntN (k + 1 + 1) x = 1 + (x.f3.map (cntN (k + 1))).sum := rfl
  have hall : ∀ l : List T24, (∀ y, y ∈ l → cntN (k + 1) y ≤ (l.map (cntN (k + 1))).sum) ∧ l.length ≤ (l.map (cntN (k + 1))).sum := by
   intro l
   induction l with
   | nil => exact ⟨fun y hy => by simp at hy, by simp⟩
   | cons z l ih =>
    have e2 : cntN (k + 1) z = 1 + (z.f3.map (cntN k)).sum := rfl
    refine ⟨fun y hy => ?_, ?_⟩
    ·rw [List.map_cons, List.sum_cons]
     rcases List.mem_cons.1 hy with rfl | hy
     ·omega
     ·have := ih.1 y hy; omega
    ·rw [List.map_cons, List.sum_cons, List.length_cons]
     have := ih.2
     omega
  obtain ⟨h1, h2⟩ := hall x.f3
  exact ⟨by omega, fun y hy => few_of_cnt k y (by have := h1 y hy; omega) (by omega)⟩
/-- A light row's types are shallow, and have few variables. -/
theorem light_few (k m : Nat) (l : List T24) (hl : l.length ≤ 9223372036854775807) (hL : hammocklaw09_Light.f k l = some true) (ho : ∀ y, y ∈ l → ok24 m y ∧ nm24 m y) : ∀ y, y ∈ l → few24 400 y ∧ (varsN 400 (ownN 400 y)).length ≤ 400 := by
 unfold hammocklaw09_Light.f at hL
 obtain ⟨r, hr, h⟩ := Option.bind_eq_some_iff.1 hL
 have h0 : 0 ≤ r := by simpa using h
 intro y hy
 have h1 := (few_cnt k).1 401 m l 400 r (by omega) (by omega) hl ho hr h0
 have h2 := (few_cnt k).1 400 m l 400 r (by omega) (by omega) hl ho hr h0
 have h3 := sum_mem (cntN 401) l y hy
 have h4 := sum_mem (cntN 400) l y hy
 have h5 := vars_cnt 400 y
 have h9 : cntN 401 y ≤ 400 := by omega
 exact ⟨few_of_cnt 400 y h9 (by omega), by omega⟩
/-- Ref takes Own back. -/
theorem ref_ex : ∀ (n : Nat) (x : T24), few24 n x → ∃ k, hammocklaw09_Ref.f k (ownN n x).f0 (ownN n x).f1 (ownN n x).f2 (ownN n x).f3 = some (x.f0, x.f1, x.f2, x.f3)
 | 0, _, h => h.elim
 | n + 1, x, h => by
  have hl : x.f3.length ≤ 1000 := h.1
  have loop : ∀ (d : Nat) (acc : List T24), d ≤ x.f3.length → acc = x.f3.take (x.f3.length - d) → ∃ k, hammocklaw09_Ref.l0 k ((x.f3.length - d : Nat) : Int) x.f0 x.f1 x.f2 (x.f3.map (ownN n)) x.f0 x.f1 x.f2 acc = some (x.f0, x.f1, x.f2, x.f3) := by
   intro d
   induction d with
   | zero =>
    intro acc _ ha
    refine ⟨1, ?_⟩
    rw [hammocklaw09_Ref.l0, if_neg (by rw [List.length_map]; omega), ha]
    simp
   | succ d ih =>
    intro acc hd ha
    have hj : x.f3.length - (d + 1) < x.f3.length := by omega
    have e2 : x.f3.length - (d + 1) + 1 = x.f3.length - d := by omega
    obtain ⟨k1, hk1⟩ := ref_ex n x.f3[x.f3.length - (d + 1)] (h.2 _ (List.getElem_mem hj))
    obtain ⟨k2, hk2⟩ := ih (acc ++ [x.f3[x.f3.length - (d + 1)]]) (by omega) (by rw [ha, ← e2, List.take_succ_eq_append_getElem hj])
    refine ⟨max k1 k2 + 1, ?_⟩
    have r1 : rd_T31 (x.f3.map (ownN n)) ((x.f3.length - (d + 1) : Nat) : Int) = ownN n x.f3[x.f3.length - (d + 1)] := by
     show (x.f3.map (ownN n)).getD (((x.f3.length - (d + 1) : Nat) : Int)).toNat z31 = _
     rw [Int.toNat_natCast, List.getD_eq_getElem?_getD, List.getElem?_map, List.getElem?_eq_getElem hj]
     rfl
    generalize x.f3[x.f3.length - (d + 1)] = y at hk1 hk2 r1
    obtain ⟨y0, y1, y2, y3⟩ := y
    have hk3 := leO_up (f := fun k => hammocklaw09_Ref.f k (ownN n (⟨y0, y1, y2, y3⟩ : T24)).f0 (ownN n (⟨y0, y1, y2, y3⟩ : T24)).f1 (ownN n (⟨y0, y1, y2, y3⟩ : T24)).f2 (ownN n (⟨y0, y1, y2, y3⟩ : T24)).f3) (fun k => (hammocklaw09_Ref.mono_l k).1 _ _ _ _) (Nat.le_max_left k1 k2) hk1
    have hk4 := leO_up (f := fun k => hammocklaw09_Ref.l0 k ((x.f3.length - d : Nat) : Int) x.f0 x.f1 x.f2 (x.f3.map (ownN n)) x.f0 x.f1 x.f2 (acc ++ [(⟨y0, y1, y2, y3⟩ : T24)])) (fun k => (hammocklaw09_Ref.mono_l k).2 _ _ _ _ _ _ _ _ _) (Nat.le_max_right k1 k2) hk2
    have hal : acc.length < 2513169434916 := by rw [ha, List.length_take]; omega
    rw [hammocklaw09_Ref.l0, if_pos (by rw [List.length_map]; omega), if_pos (by omega), r1, hk3, Option.bind_some, if_pos hal, wrap_succ _ (by omega), e2]
    exact hk4
  obtain ⟨k, hk⟩ := loop x.f3.length [] (Nat.le_refl _) (by simp)
  refine ⟨k + 1, ?_⟩
  show hammocklaw09_Ref.f (k + 1) x.f0 x.f1 x.f2 (x.f3.map (ownN n)) = _
  rw [hammocklaw09_Ref.f]
  simpa using hk
end Go.Proofs.YtddmdiaopaoekaaDoor.P
namespace Go.Proofs.YtddmdiaopaoekaaDoor.P
open Go.RowKit Go.Shelf Go.Proofs.YtddmdiaopaoekaaDoorW.PrintWords Go.Proofs.YtddmdiaopaoekaaDoorW.PrintLast Go.Proofs.YtddmdiaopaoekaaDoor.Rw
set_option linter.unusedVariables false
set_option linter.unusedSimpArgs false
end Go.Proofs.YtddmdiaopaoekaaDoor.P
