/- Rows of one's own whose elements lead to other rows: what an element reads does not hang on the row itself; a row grows, and what was read stays read. Over whatever kind of element. -/
import Derived.Test.YtcmhibcoccdmaaaGreatDoorW
import Derived.Laws.AppendOwn
import Derived.Deep.AppendLies
import Derived.Below
import Derived.WalkKit
namespace Go.Proofs.YtcmhibcoccdmaaaGreatDoor.Rw
open Go.RowKit Go.Proofs.YtcmhibcoccdmaaaGreatDoorW.PrintWords
set_option linter.unusedVariables false
theorem heap_set {W : World} {b : Nat} {cs : Array Value} {t : TypeId} {fr : Nat × Nat} (h : W.heap[b]? = some (.cells cs t fr)) (i : Nat) (v : Value) : (W.setCell ⟨b, i, none⟩ v).heap[b]? = some (.cells (cs.setIfInBounds i v) t fr) := by
  obtain ⟨hl, he⟩ := Array.getElem?_eq_some_iff.1 h
  simp [World.setCell, hl, Array.getElem_modify, he]
theorem heap_set4 {W : World} {b : Nat} {a0 a1 a2 a3 : Value} {t : TypeId} {fr : Nat × Nat} (h : W.heap[b]? = some (.cells #[a0, a1, a2, a3] t fr)) (v0 v1 v2 v3 : Value) :
    ((((W.setCell ⟨b, 0, none⟩ v0).setCell ⟨b, 1, none⟩ v1).setCell ⟨b, 2, none⟩ v2).setCell ⟨b, 3, none⟩ v3).heap[b]? = some (.cells #[v0, v1, v2, v3] t fr) :=
  heap_set (heap_set (heap_set (heap_set h 0 v0) 1 v1) 2 v2) 3 v3
variable {α : Type} {d : Kd α}
/-- Worlds that are alike in some blocks. -/
def Agr (S : Nat → Prop) (W W' : World) : Prop := ∀ k, S k → W'.heap[k]? = W.heap[k]?
theorem Agr.refl (S : Nat → Prop) (W : World) : Agr S W W := fun _ _ => rfl
theorem Agr.trans {S : Nat → Prop} {A B C : World} (h : Agr S A B) (k : Agr S B C) : Agr S A C := fun i hi => (k i hi).trans (h i hi)
theorem Agr.mono {S S' : Nat → Prop} {W W' : World} (h : Agr S W W') (hs : ∀ k, S' k → S k) : Agr S' W W' := fun k hk => h k (hs k hk)
theorem Agr.of_below {S : Nat → Prop} {W W' : World} (h : Below W.heap.size W W') (hs : ∀ k, S k → k < W.heap.size) : Agr S W W' := fun k hk => h.block k (hs k hk)
theorem Agr.of_grown {S : Nat → Prop} {W W' : World} {row : Option Nat} (h : W.grownBy W' row) (hs : ∀ k, S k → k < W.heap.size ∧ some k ≠ row) : Agr S W W' := fun k hk => h.block k (hs k hk).1 (hs k hk).2
theorem Agr.of_set {S : Nat → Prop} {W : World} (p : Addr) (v : Value) (hs : ¬ S p.block) : Agr S W (W.setCell p v) := fun k hk => Below.heap_setCell _ _ _ _ (fun e => hs (e ▸ hk))
/-- What an element reads, and what a row reads, hang on some blocks alone. -/
def FK (d : Kd α) (W : World) (S : Nat → Prop) (x : α) (cs : List Value) : Prop := ∀ W', Agr S W W' → d.K W' x cs
def FC (d : Kd α) (W : World) (S : Nat → Prop) (A : Option Addr) (n : Nat) (xs : List α) : Prop := ∀ W', Agr S W W' → d.C W' A n xs
section
variable {W W' : World} {S S' : Nat → Prop} {x : α} {cs : List Value} {A : Option Addr} {n : Nat} {xs : List α}
theorem FK.now (h : FK d W S x cs) : d.K W x cs := h W (Agr.refl _ _)
theorem FC.now (h : FC d W S A n xs) : d.C W A n xs := h W (Agr.refl _ _)
theorem FK.mono (h : FK d W S x cs) (hs : ∀ k, S k → S' k) : FK d W S' x cs := fun W' ha => h W' (ha.mono hs)
theorem FC.mono (h : FC d W S A n xs) (hs : ∀ k, S k → S' k) : FC d W S' A n xs := fun W' ha => h W' (ha.mono hs)
theorem FK.to (h : FK d W S x cs) (ha : Agr S W W') : FK d W' S x cs := fun W2 hb => h W2 (ha.trans hb)
theorem FC.to (h : FC d W S A n xs) (ha : Agr S W W') : FC d W' S A n xs := fun W2 hb => h W2 (ha.trans hb)
theorem FC.of_C (hd : Kd.Heap d) (h : d.C W A n xs) : FC d W (fun k => k < W.heap.size) A n xs := fun W' ha => hd.C (fun k hk => ha k hk) h
theorem FC.nil (W : World) (S : Nat → Prop) (A : Option Addr) : FC d W S A 0 [] := fun W' _ => ⟨rfl, by omega, fun h => absurd h (Nat.lt_irrefl 0)⟩
end
/-- A row of one's own: each element's reading hangs on S0 alone, and not on the row. -/
def Row (d : Kd α) (e base : Nat) (S0 : Nat → Prop) (W : World) (v : Value) (xs : List α) : Prop :=
  ∃ cells, W.ownsRow base e d.sz v xs.length cells ∧ Reps (fun x cs => FK d W (fun k => S0 k ∧ some k ≠ v.ownBlock ∧ k < W.heap.size) x cs) d.sz xs cells
section
variable {e base : Nat} {S0 : Nat → Prop} {W W' : World} {v : Value} {xs : List α}
theorem Row.nil (W : World) : Row d e base S0 W (.slice none 0 0) [] := ⟨[], ⟨by simp, .inl ⟨rfl, rfl⟩⟩, Reps.none _ _⟩
theorem Row.kept (h : Row d e base S0 W v xs) {row : Option Nat} (hg : W.grownBy W' row) (hne : v.ownBlock = none ∨ v.ownBlock ≠ row) (hr : ∀ k, row = some k → ¬ S0 k) : Row d e base S0 W' v xs := by
  obtain ⟨cells, ho, hR⟩ := h
  exact ⟨cells, ho.kept hg hne, hR.imp_ (fun x cs hk => (hk.to (Agr.of_grown hg (fun k hk => ⟨hk.2.2, fun e => hr k e.symm hk.1⟩))).mono (fun k hk => ⟨hk.1, hk.2.1, Nat.lt_of_lt_of_le hk.2.2 hg.size⟩))⟩
theorem grown_below {W W' : World} (h : Below W.heap.size W W') : W.grownBy W' none := ⟨h.os, h.tape, h.output, h.size, fun k hk _ => h.block k hk⟩
theorem Row.below (h : Row d e base S0 W v xs) (hb : Below W.heap.size W W') : Row d e base S0 W' v xs :=
  h.kept (grown_below hb) (by cases hv : v.ownBlock with
    | none => exact .inl rfl
    | some k => exact .inr (by simp)) (fun k e => by cases e)
theorem Row.alloc (h : Row d e base S0 W v xs) (o : Obj) : Row d e base S0 (W.alloc o) v xs := h.below ((Below.refl _ _).alloc (Nat.le_refl _) _)
theorem Row.drew (h : Row d e base S0 W v xs) : Row d e base S0 W.drew v xs := h.below ((Below.refl _ _).drew)
theorem Row.block (h : Row d e base S0 W v xs) : ∀ k, v.ownBlock = some k → base ≤ k ∧ k < W.heap.size := by
  obtain ⟨cells, ho, _⟩ := h
  exact ho.lt
theorem grown_set (W : World) (p : Addr) (u : Value) : W.grownBy (W.setCell p u) (some p.block) := ⟨rfl, rfl, rfl, by simp [World.setCell], fun k _ hk => Below.heap_setCell _ _ _ _ (fun e => hk (by rw [e]))⟩
theorem grown_set4 (W : World) (b : Nat) (v0 v1 v2 v3 : Value) : W.grownBy ((((W.setCell ⟨b, 0, none⟩ v0).setCell ⟨b, 1, none⟩ v1).setCell ⟨b, 2, none⟩ v2).setCell ⟨b, 3, none⟩ v3) (some b) :=
  (((grown_set W ⟨b, 0, none⟩ v0).trans (grown_set _ ⟨b, 1, none⟩ v1)).trans (grown_set _ ⟨b, 2, none⟩ v2)).trans (grown_set _ ⟨b, 3, none⟩ v3)
theorem below_grown {w W W' : World} {b : Nat} (h : Below w.heap.size w W) (hg : W.grownBy W' (some b)) (hb : w.heap.size ≤ b) : Below w.heap.size w W' := h.grown hg h.size (fun k e => by cases e; exact hb)
theorem Row.set (h : Row d e base S0 W v xs) (p : Addr) (u : Value) (hv : v.ownBlock ≠ some p.block) (hS : ¬ S0 p.block) : Row d e base S0 (W.setCell p u) v xs :=
  h.kept (grown_set W p u) (.inr hv) (fun k e => by cases e; exact hS)
/-- One element more. -/
theorem Row.append (h : Row d e base S0 W v xs) {g cap : Nat} {x : α} {cs cells : List Value} (hc : W.ownsRow base e d.sz v xs.length cells) (hR : Reps (fun x cs => FK d W (fun k => S0 k ∧ some k ≠ v.ownBlock ∧ k < W.heap.size) x cs) d.sz xs cells)
    (hx : FK d W (fun k => S0 k ∧ some k ≠ v.ownBlock ∧ k < W.heap.size) x cs) (hl : cs.length = d.sz)
    (hown : W'.ownsRow base e d.sz (.slice (some ⟨g, 0, none⟩) (xs.length + 1) cap) (xs.length + 1) (cells ++ cs)) (hg : W.grownBy W' v.ownBlock) (hat : v.ownBlock = some g ∨ W.heap.size ≤ g) :
    Row d e base S0 W' (.slice (some ⟨g, 0, none⟩) (xs.length + 1) cap) (xs ++ [x]) := by
  refine ⟨cells ++ cs, by rw [List.length_append, List.length_singleton]; exact hown, ?_⟩
  have up : ∀ k, S0 k ∧ some k ≠ v.ownBlock ∧ k < W.heap.size → S0 k ∧ some k ≠ (Value.slice (some ⟨g, 0, none⟩) (xs.length + 1) cap).ownBlock ∧ k < W'.heap.size := fun k hk => by
    refine ⟨hk.1, ?_, Nat.lt_of_lt_of_le hk.2.2 hg.size⟩
    rcases hat with hat | hat
    · rw [hat] at hk; exact hk.2.1
    · intro e
      obtain rfl : k = g := Option.some.inj e
      omega
  have ag : Agr (fun k => S0 k ∧ some k ≠ v.ownBlock ∧ k < W.heap.size) W W' := Agr.of_grown hg (fun k hk => ⟨hk.2.2, hk.2.1⟩)
  exact (hR.imp_ (fun y c hk => (hk.to ag).mono up)).snoc ((hx.to ag).mono up) hl
/-- What a row reads. -/
theorem Row.reads (h : Row d e base S0 W v xs) : ∃ A c, v = .slice A xs.length c ∧ xs.length ≤ c ∧ FC d W (fun k => (S0 k ∨ base ≤ k) ∧ k < W.heap.size) A xs.length xs := by
  obtain ⟨cells, ho, hR⟩ := h
  have hA : ∃ A c, v = .slice A xs.length c ∧ xs.length ≤ c := by
    rcases ho.2 with ⟨rfl, h0⟩ | ⟨g, cap, cur, rfl, _, _, hle, _⟩
    · exact ⟨none, 0, by rw [h0], by omega⟩
    · exact ⟨_, cap, rfl, hle⟩
  obtain ⟨A, c, rfl, hle⟩ := hA
  refine ⟨A, c, rfl, hle, fun W' ha => ?_⟩
  have ho' : W'.ownsRow base e d.sz (.slice A xs.length c) xs.length cells := by
    refine ⟨ho.1, ?_⟩
    rcases ho.2 with h0 | ⟨g, cap, cur, hv, hb, hh, r⟩
    · exact .inl h0
    · exact .inr ⟨g, cap, cur, hv, hb, (ha g ⟨.inr hb, (Array.getElem?_eq_some_iff.1 hh).1⟩).trans hh, r⟩
  obtain ⟨A', c', e1, hr⟩ := own_reads_row ho' (hR.imp_ (R' := fun x cs => d.K W' x cs) (fun x cs hk => hk W' (ha.mono (fun k hk => ⟨.inl hk.1, hk.2.2⟩)))) rfl
  injection e1 with e2 _ _
  subst e2
  exact hr
end
end Go.Proofs.YtcmhibcoccdmaaaGreatDoor.Rw
/- A row that was made whole, and is filled from the left: elements of four cells. -/
namespace Go.Proofs.YtcmhibcoccdmaaaGreatDoor.Rw
open Go.RowKit Go.Proofs.YtcmhibcoccdmaaaGreatDoorW.PrintWords
set_option linter.unusedVariables false
variable {α : Type} {d : Kd α}
def set4 (W : World) (b o : Nat) (v0 v1 v2 v3 : Value) : World := (((W.setCell ⟨b, o, none⟩ v0).setCell ⟨b, o + 1, none⟩ v1).setCell ⟨b, o + 2, none⟩ v2).setCell ⟨b, o + 3, none⟩ v3
theorem set4_heap {W : World} {b o : Nat} {cur : Array Value} {t : TypeId} {fr : Nat × Nat} (h : W.heap[b]? = some (.cells cur t fr)) (v0 v1 v2 v3 : Value) :
    (set4 W b o v0 v1 v2 v3).heap[b]? = some (.cells ((((cur.setIfInBounds o v0).setIfInBounds (o + 1) v1).setIfInBounds (o + 2) v2).setIfInBounds (o + 3) v3) t fr) :=
  heap_set (heap_set (heap_set (heap_set h o v0) (o + 1) v1) (o + 2) v2) (o + 3) v3
theorem set4_grown (W : World) (b o : Nat) (v0 v1 v2 v3 : Value) : W.grownBy (set4 W b o v0 v1 v2 v3) (some b) :=
  (((grown_set W ⟨b, o, none⟩ v0).trans (grown_set _ ⟨b, o + 1, none⟩ v1)).trans (grown_set _ ⟨b, o + 2, none⟩ v2)).trans (grown_set _ ⟨b, o + 3, none⟩ v3)
theorem set4_list (l : List Value) (o : Nat) (v0 v1 v2 v3 : Value) (h : o + 4 ≤ l.length) : (((l.set o v0).set (o + 1) v1).set (o + 2) v2).set (o + 3) v3 = l.take o ++ [v0, v1, v2, v3] ++ l.drop (o + 4) := by
  apply List.ext_getElem?
  intro i
  simp only [List.getElem?_set, List.length_set]
  by_cases h0 : i < o
  · rw [List.getElem?_append_left (by simp; omega), List.getElem?_append_left (by simp; omega), List.getElem?_take, if_pos h0, if_neg (by omega), if_neg (by omega), if_neg (by omega), if_neg (by omega)]
  · by_cases h1 : i < o + 4
    · rw [List.getElem?_append_left (by simp; omega), List.getElem?_append_right (by simp; omega)]
      have hl : (l.take o).length = o := by simp; omega
      rw [hl]
      obtain rfl | rfl | rfl | rfl : i = o ∨ i = o + 1 ∨ i = o + 2 ∨ i = o + 3 := by omega
      · rw [if_neg (by omega), if_neg (by omega), if_neg (by omega), if_pos rfl, if_pos (by omega)]; simp
      · rw [if_neg (by omega), if_neg (by omega), if_pos rfl, if_pos (by omega)]; simp
      · rw [if_neg (by omega), if_pos rfl, if_pos (by omega)]; simp
      · rw [if_pos rfl, if_pos (by omega)]; simp
    · rw [if_neg (by omega), if_neg (by omega), if_neg (by omega), if_neg (by omega), List.getElem?_append_right (by simp; omega), List.getElem?_drop]
      congr 1
      simp
      omega
/-- The row in block b: n elements, of which the first ones stand. -/
def Fil (d : Kd α) (e : TypeId) (S0 : Nat → Prop) (W : World) (b n : Nat) (xs : List α) : Prop :=
  ∃ cur : Array Value, W.heap[b]? = some (.cells cur e (0, 0)) ∧ cur.size = n * 4 ∧ Reps (fun x cs => FK d W (fun k => S0 k ∧ k ≠ b ∧ k < W.heap.size) x cs) 4 xs (cur.toList.take (xs.length * 4))
section
variable {e : TypeId} {S0 : Nat → Prop} {W W' : World} {b n : Nat} {xs : List α}
theorem Fil.made (W : World) (cur : Array Value) (n : Nat) (hs : cur.size = n * 4) : Fil d e S0 (W.alloc (.cells cur e)) W.heap.size n [] :=
  ⟨cur, (by unfold World.alloc; exact Array.getElem?_push_size), hs, by simpa using Reps.none _ 4⟩
theorem Fil.lt (h : Fil d e S0 W b n xs) : b < W.heap.size := by obtain ⟨cur, h1, _⟩ := h; exact (Array.getElem?_eq_some_iff.1 h1).1
theorem Fil.kept (h : Fil d e S0 W b n xs) {row : Option Nat} (hg : W.grownBy W' row) (hne : ∀ k, row = some k → k ≠ b ∧ (W.heap.size ≤ k ∨ ¬ S0 k)) : Fil d e S0 W' b n xs := by
  have hlt := h.lt
  obtain ⟨cur, h1, h2, h3⟩ := h
  exact ⟨cur, (hg.block b hlt (fun e => (hne b e.symm).1 rfl)).trans h1, h2, h3.imp_ (fun x cs hk => (hk.to (Agr.of_grown hg (fun k hk => ⟨hk.2.2, fun e => ((hne k e.symm).2).elim (fun h => by have := hk.2.2; omega) (fun h => h hk.1)⟩))).mono (fun k hk => ⟨hk.1, hk.2.1, Nat.lt_of_lt_of_le hk.2.2 hg.size⟩))⟩
theorem Fil.below (h : Fil d e S0 W b n xs) (hb : Below W.heap.size W W') : Fil d e S0 W' b n xs := h.kept (grown_below hb) (fun k e => by cases e)
theorem Fil.alloc (h : Fil d e S0 W b n xs) (o : Obj) : Fil d e S0 (W.alloc o) b n xs := h.below ((Below.refl _ _).alloc (Nat.le_refl _) _)
theorem Fil.cell (h : Fil d e S0 W b n xs) (j : Nat) (hj : j < n * 4) : ∃ v, W.cell? ⟨b, j, none⟩ = some v := by
  obtain ⟨cur, h1, h2, h3⟩ := h
  refine ⟨cur[j]'(by omega), ?_⟩
  simp [World.cell?, h1, Array.getElem?_eq_getElem (show j < cur.size by omega)]
theorem Fil.frozen (h : Fil d e S0 W b n xs) (j : Nat) : W.frozen? ⟨b, j, none⟩ = false := by
  obtain ⟨cur, h1, h2, h3⟩ := h
  simp [World.frozen?, h1]
theorem Fil.list {cur : Array Value} (o : Nat) (v0 v1 v2 v3 : Value) (h : o + 4 ≤ cur.size) :
    ((((cur.setIfInBounds o v0).setIfInBounds (o + 1) v1).setIfInBounds (o + 2) v2).setIfInBounds (o + 3) v3).toList = cur.toList.take o ++ [v0, v1, v2, v3] ++ cur.toList.drop (o + 4) := by
  simp only [Array.toList_setIfInBounds]
  exact set4_list cur.toList o v0 v1 v2 v3 (by simpa using h)
/-- The next element is written: not yet counted. -/
theorem Fil.set (h : Fil d e S0 W b n xs) (hn : xs.length < n) (v0 v1 v2 v3 : Value) : Fil d e S0 (set4 W b (xs.length * 4) v0 v1 v2 v3) b n xs := by
  have hgr := set4_grown W b (xs.length * 4) v0 v1 v2 v3
  obtain ⟨cur, h1, h2, h3⟩ := h
  refine ⟨_, set4_heap h1 v0 v1 v2 v3, by simp [h2], ?_⟩
  rw [Fil.list _ _ _ _ _ (by omega), List.append_assoc, List.take_append_of_le_length (by simp; omega), List.take_take, Nat.min_self]
  exact h3.imp_ (fun x cs hk => (hk.to (Agr.of_grown hgr (fun k hk => ⟨hk.2.2, fun e => hk.2.1 (Option.some.inj e)⟩))).mono (fun k hk => ⟨hk.1, hk.2.1, Nat.lt_of_lt_of_le hk.2.2 hgr.size⟩))
/-- The next element is written. -/
theorem Fil.put (h : Fil d e S0 W b n xs) (hn : xs.length < n) {x : α} {v0 v1 v2 v3 : Value} (hx : FK d W (fun k => S0 k ∧ k ≠ b ∧ k < W.heap.size) x [v0, v1, v2, v3]) : Fil d e S0 (set4 W b (xs.length * 4) v0 v1 v2 v3) b n (xs ++ [x]) := by
  have hgr := set4_grown W b (xs.length * 4) v0 v1 v2 v3
  obtain ⟨cur, h1, h2, h3⟩ := h
  have up : ∀ (y : α) (cs : List Value), FK d W (fun k => S0 k ∧ k ≠ b ∧ k < W.heap.size) y cs → FK d (set4 W b (xs.length * 4) v0 v1 v2 v3) (fun k => S0 k ∧ k ≠ b ∧ k < (set4 W b (xs.length * 4) v0 v1 v2 v3).heap.size) y cs := fun y cs hk =>
    (hk.to (Agr.of_grown hgr (fun k hk => ⟨hk.2.2, fun e => hk.2.1 (Option.some.inj e)⟩))).mono (fun k hk => ⟨hk.1, hk.2.1, Nat.lt_of_lt_of_le hk.2.2 hgr.size⟩)
  refine ⟨_, set4_heap h1 v0 v1 v2 v3, by simp [h2], ?_⟩
  rw [Fil.list _ _ _ _ _ (by omega)]
  have hl : (cur.toList.take (xs.length * 4) ++ [v0, v1, v2, v3]).length = (xs ++ [x]).length * 4 := by simp; omega
  rw [List.take_append_of_le_length (by rw [hl]; exact Nat.le_refl _), List.take_of_length_le (by rw [hl]; exact Nat.le_refl _)]
  exact (h3.imp_ up).snoc (up _ _ hx) rfl
/-- All stand. -/
theorem Fil.reads (hsz : d.sz = 4) (h : Fil d e S0 W b n xs) (hn : xs.length = n) (hm : n ≤ maxLen) : d.C W (some ⟨b, 0, none⟩) n xs := by
  obtain ⟨cur, h1, h2, h3⟩ := h
  have hr : Row d e 0 (fun k => k ≠ b) W (.slice (some ⟨b, 0, none⟩) n n) xs := by
    refine ⟨cur.toList, ?_, ?_⟩
    · rw [hn, hsz]
      exact ⟨by simp [h2], .inr ⟨b, n, cur, rfl, Nat.zero_le _, h1, Nat.le_refl _, hm, h2, List.take_of_length_le (by simp [h2])⟩⟩
    · rw [hsz]
      have : cur.toList.take (xs.length * 4) = cur.toList := List.take_of_length_le (by simp [h2, hn])
      rw [this] at h3
      exact h3.imp_ (fun x cs hk => hk.mono (fun k hk => ⟨hk.2.1, fun e => hk.2.1 (by simpa [Value.ownBlock] using e), hk.2.2⟩))
  obtain ⟨A, c, e1, _, hF⟩ := hr.reads
  injection e1 with e2 _ _
  subst e2
  rw [hn] at hF
  exact hF.now
end
end Go.Proofs.YtcmhibcoccdmaaaGreatDoor.Rw
