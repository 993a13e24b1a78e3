/- A row that was made whole, and is filled from the left: elements of four cells. -/
import Derived.Test.YtddmdiaopaoekaaDoorOwnRow
namespace Go.Proofs.YtddmdiaopaoekaaDoor.Rw
open Go.RowKit Go.Proofs.YtddmdiaopaoekaaDoorW.PrintWords
set_option linter.unusedVariables false
variable {α : Type} {d : Kd α}
def set4 (W : World) (b o : Nat) (v0 v1 v2 v3 : Value) : World := (((W.setCell ⟨b, o, none⟩ v0).setCell ⟨b, o + 1, none⟩ v1).setCell ⟨b, o + 2, none⟩ v2).setCell ⟨b, o + 3, none⟩ v3
theorem set4_heap {W : World} {b o : Nat} {cur : Array Value} {t : TypeId} {fr : Nat × Nat} (h : W.heap[b]? = some (.cells cur t fr)) (v0 v1 v2 v3 : Value) :
    (set4 W b o v0 v1 v2 v3).heap[b]? = some (.cells ((((cur.setIfInBounds o v0).setIfInBounds (o + 1) v1).setIfInBounds (o + 2) v2).setIfInBounds (o + 3) v3) t fr) :=
  heap_set (heap_set (heap_set (heap_set h o v0) (o + 1) v1) (o + 2) v2) (o + 3) v3
theorem set4_grown (W : World) (b o : Nat) (v0 v1 v2 v3 : Value) : W.grownBy (set4 W b o v0 v1 v2 v3) (some b) :=
  (((grown_set W ⟨b, o, none⟩ v0).trans (grown_set _ ⟨b, o + 1, none⟩ v1)).trans (grown_set _ ⟨b, o + 2, none⟩ v2)).trans (grown_set _ ⟨b, o + 3, none⟩ v3)
theorem set4_list (l : List Value) (o : Nat) (v0 v1 v2 v3 : Value) (h : o + 4 ≤ l.length) : (((l.set o v0).set (o + 1) v1).set (o + 2) v2).set (o + 3) v3 = l.take o ++ [v0, v1, v2, v3] ++ l.drop (o + 4) := by
  apply List.ext_getElem?
  intro i
  simp only [List.getElem?_set, List.length_set]
  by_cases h0 : i < o
  · rw [List.getElem?_append_left (by simp; omega), List.getElem?_append_left (by simp; omega), List.getElem?_take, if_pos h0, if_neg (by omega), if_neg (by omega), if_neg (by omega), if_neg (by omega)]
  · by_cases h1 : i < o + 4
    · rw [List.getElem?_append_left (by simp; omega), List.getElem?_append_right (by simp; omega)]
      have hl : (l.take o).length = o := by simp; omega
      rw [hl]
      obtain rfl | rfl | rfl | rfl : i = o ∨ i = o + 1 ∨ i = o + 2 ∨ i = o + 3 := by omega
      · rw [if_neg (by omega), if_neg (by omega), if_neg (by omega), if_pos rfl, if_pos (by omega)]; simp
      · rw [if_neg (by omega), if_neg (by omega), if_pos rfl, if_pos (by omega)]; simp
      · rw [if_neg (by omega), if_pos rfl, if_pos (by omega)]; simp
      · rw [if_pos rfl, if_pos (by omega)]; simp
    · rw [if_neg (by omega), if_neg (by omega), if_neg (by omega), if_neg (by omega), List.getElem?_append_right (by simp; omega), List.getElem?_drop]
      congr 1
      simp
      omega
/-- The row in block b: n elements, of which the first ones stand. -/
def Fil (d : Kd α) (e : TypeId) (S0 : Nat → Prop) (W : World) (b n : Nat) (xs : List α) : Prop :=
  ∃ cur : Array Value, W.heap[b]? = some (.cells cur e (0, 0)) ∧ cur.size = n * 4 ∧ Reps (fun x cs => FK d W (fun k => S0 k ∧ k ≠ b ∧ k < W.heap.size) x cs) 4 xs (cur.toList.take (xs.length * 4))
section
variable {e : TypeId} {S0 : Nat → Prop} {W W' : World} {b n : Nat} {xs : List α}
theorem Fil.made (W : World) (cur : Array Value) (n : Nat) (hs : cur.size = n * 4) : Fil d e S0 (W.alloc (.cells cur e)) W.heap.size n [] :=
  ⟨cur, (by unfold World.alloc; exact Array.getElem?_push_size), hs, by simpa using Reps.none _ 4⟩
theorem Fil.lt (h : Fil d e S0 W b n xs) : b < W.heap.size := by obtain ⟨cur, h1, _⟩ := h; exact (Array.getElem?_eq_some_iff.1 h1).1
theorem Fil.kept (h : Fil d e S0 W b n xs) {row : Option Nat} (hg : W.grownBy W' row) (hne : ∀ k, row = some k → k ≠ b ∧ (W.heap.size ≤ k ∨ ¬ S0 k)) : Fil d e S0 W' b n xs := by
  have hlt := h.lt
  obtain ⟨cur, h1, h2, h3⟩ := h
  exact ⟨cur, (hg.block b hlt (fun e => (hne b e.symm).1 rfl)).trans h1, h2, h3.imp_ (fun x cs hk => (hk.to (Agr.of_grown hg (fun k hk => ⟨hk.2.2, fun e => ((hne k e.symm).2).elim (fun h => by have := hk.2.2; omega) (fun h => h hk.1)⟩))).mono (fun k hk => ⟨hk.1, hk.2.1, Nat.lt_of_lt_of_le hk.2.2 hg.size⟩))⟩
theorem Fil.below (h : Fil d e S0 W b n xs) (hb : Below W.heap.size W W') : Fil d e S0 W' b n xs := h.kept (grown_below hb) (fun k e => by cases e)
theorem Fil.alloc (h : Fil d e S0 W b n xs) (o : Obj) : Fil d e S0 (W.alloc o) b n xs := h.below ((Below.refl _ _).alloc (Nat.le_refl _) _)
theorem Fil.cell (h : Fil d e S0 W b n xs) (j : Nat) (hj : j < n * 4) : ∃ v, W.cell? ⟨b, j, none⟩ = some v := by
  obtain ⟨cur, h1, h2, h3⟩ := h
  refine ⟨cur[j]'(by omega), ?_⟩
  simp [World.cell?, h1, Array.getElem?_eq_getElem (show j < cur.size by omega)]
theorem Fil.frozen (h : Fil d e S0 W b n xs) (j : Nat) : W.frozen? ⟨b, j, none⟩ = false := by
  obtain ⟨cur, h1, h2, h3⟩ := h
  simp [World.frozen?, h1]
theorem Fil.list {cur : Array Value} (o : Nat) (v0 v1 v2 v3 : Value) (h : o + 4 ≤ cur.size) :
    ((((cur.setIfInBounds o v0).setIfInBounds (o + 1) v1).setIfInBounds (o + 2) v2).setIfInBounds (o + 3) v3).toList = cur.toList.take o ++ [v0, v1, v2, v3] ++ cur.toList.drop (o + 4) := by
  simp only [Array.toList_setIfInBounds]
  exact set4_list cur.toList o v0 v1 v2 v3 (by simpa using h)
/-- The next element is written: not yet counted. -/
theorem Fil.set (h : Fil d e S0 W b n xs) (hn : xs.length < n) (v0 v1 v2 v3 : Value) : Fil d e S0 (set4 W b (xs.length * 4) v0 v1 v2 v3) b n xs := by
  have hgr := set4_grown W b (xs.length * 4) v0 v1 v2 v3
  obtain ⟨cur, h1, h2, h3⟩ := h
  refine ⟨_, set4_heap h1 v0 v1 v2 v3, by simp [h2], ?_⟩
  rw [Fil.list _ _ _ _ _ (by omega), List.append_assoc, List.take_append_of_le_length (by simp; omega), List.take_take, Nat.min_self]
  exact h3.imp_ (fun x cs hk => (hk.to (Agr.of_grown hgr (fun k hk => ⟨hk.2.2, fun e => hk.2.1 (Option.some.inj e)⟩))).mono (fun k hk => ⟨hk.1, hk.2.1, Nat.lt_of_lt_of_le hk.2.2 hgr.size⟩))
/-- The next element is written. -/
theorem Fil.put (h : Fil d e S0 W b n xs) (hn : xs.length < n) {x : α} {v0 v1 v2 v3 : Value} (hx : FK d W (fun k => S0 k ∧ k ≠ b ∧ k < W.heap.size) x [v0, v1, v2, v3]) : Fil d e S0 (set4 W b (xs.length * 4) v0 v1 v2 v3) b n (xs ++ [x]) := by
  have hgr := set4_grown W b (xs.length * 4) v0 v1 v2 v3
  obtain ⟨cur, h1, h2, h3⟩ := h
  have up : ∀ (y : α) (cs : List Value), FK d W (fun k => S0 k ∧ k ≠ b ∧ k < W.heap.size) y cs → FK d (set4 W b (xs.length * 4) v0 v1 v2 v3) (fun k => S0 k ∧ k ≠ b ∧ k < (set4 W b (xs.length * 4) v0 v1 v2 v3).heap.size) y cs := fun y cs hk =>
    (hk.to (Agr.of_grown hgr (fun k hk => ⟨hk.2.2, fun e => hk.2.1 (Option.some.inj e)⟩))).mono (fun k hk => ⟨hk.1, hk.2.1, Nat.lt_of_lt_of_le hk.2.2 hgr.size⟩)
  refine ⟨_, set4_heap h1 v0 v1 v2 v3, by simp [h2], ?_⟩
  rw [Fil.list _ _ _ _ _ (by omega)]
  have hl : (cur.toList.take (xs.length * 4) ++ [v0, v1, v2, v3]).length = (xs ++ [x]).length * 4 := by simp; omega
  rw [List.take_append_of_le_length (by rw [hl]; exact Nat.le_refl _), List.take_of_length_le (by rw [hl]; exact Nat.le_refl _)]
  exact (h3.imp_ up).snoc (up _ _ hx) rfl
/-- All stand. -/
theorem Fil.reads (hsz : d.sz = 4) (h : Fil d e S0 W b n xs) (hn : xs.length = n) (hm : n ≤ maxLen) : d.C W (some ⟨b, 0, none⟩) n xs := by
  obtain ⟨cur, h1, h2, h3⟩ := h
  have hr : Row d e 0 (fun k => k ≠ b) W (.slice (some ⟨b, 0, none⟩) n n) xs := by
    refine ⟨cur.toList, ?_, ?_⟩
    · rw [hn, hsz]
      exact ⟨by simp [h2], .inr ⟨b, n, cur, rfl, Nat.zero_le _, h1, Nat.le_refl _, hm, h2, List.take_of_length_le (by simp [h2])⟩⟩
    · rw [hsz]
      have : cur.toList.take (xs.length * 4) = cur.toList := List.take_of_length_le (by simp [h2, hn])
      rw [this] at h3
      exact h3.imp_ (fun x cs hk => hk.mono (fun k hk => ⟨hk.2.1, fun e => hk.2.1 (by simpa [Value.ownBlock] using e), hk.2.2⟩))
  obtain ⟨A, c, e1, _, hF⟩ := hr.reads
  injection e1 with e2 _ _
  subst e2
  rw [hn] at hF
  exact hF.now
end
end Go.Proofs.YtddmdiaopaoekaaDoor.Rw
