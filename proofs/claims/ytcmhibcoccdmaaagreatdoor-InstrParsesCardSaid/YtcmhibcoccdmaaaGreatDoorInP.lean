/- Code, parsed: what stands while the lines are gone through. -/
import Derived.Test.YtcmhibcoccdmaaaGreatDoorInO
namespace Go.Proofs.YtcmhibcoccdmaaaGreatDoor.P
open Go.RowKit Go.Shelf Go.Proofs.YtcmhibcoccdmaaaGreatDoorW.PrintWords Go.Proofs.YtcmhibcoccdmaaaGreatDoorW.PrintLast Go.Proofs.YtcmhibcoccdmaaaGreatDoor.Rw
set_option linter.unusedVariables false
set_option linter.unusedSimpArgs false
theorem suff_end (t : List UInt8) : Lib.hasSuffix t [10] = endB t := by
  unfold Lib.hasSuffix endB
  cases h : [(10 : UInt8)].isSuffixOf t with
  | true =>
    obtain ⟨l, rfl⟩ := List.isSuffixOf_iff_suffix.1 h
    simp
  | false =>
    refine (beq_eq_false_iff_ne.2 fun e => ?_).symm
    obtain ⟨l, rfl⟩ := List.getLast?_eq_some_iff.1 e
    have : [(10 : UInt8)].isSuffixOf (l ++ [10]) = true := List.isSuffixOf_iff_suffix.2 ⟨l, rfl⟩
    rw [h] at this
    cases this
theorem trim_end {t : List UInt8} (h : endB t = true) : Lib.trimSuffix t [10] = t.dropLast := by
  unfold Lib.trimSuffix
  rw [if_pos (by rw [suff_end]; exact h), List.dropLast_eq_take]
  rfl
theorem lns_size (s : ByteArray) : ∀ x ∈ lns s.data.toList, x.length ≤ s.size := by
  intro x hx
  have h := lns_flat s.data.toList
  rw [sizeL, ← h]
  obtain ⟨a, b, he⟩ := List.append_of_mem hx
  rw [he]
  simp
  omega
theorem lns_len : ∀ l : List UInt8, (lns l).length ≤ l.length
  | [] => by simp [lns]
  | c :: t => by
    have := lns_len t
    rw [lns]
    split
    · simp; omega
    · split
      · simp
      · next h r e => rw [e] at this; simp at this ⊢; omega
theorem row_agr {α : Type} {d : Kd α} {e base : Nat} {S0 : Nat → Prop} {W W' : World} {v : Value} {xs : List α} (h : Row d e base S0 W v xs) (hs : W.heap.size ≤ W'.heap.size) (hk : ∀ k, base ≤ k → k < W.heap.size → W'.heap[k]? = W.heap[k]?) (hS : ∀ k, S0 k → base ≤ k) : Row d e base S0 W' v xs := by
  obtain ⟨cells, ho, hR⟩ := h
  refine ⟨cells, own_move ho (fun k hb => hk k (ho.lt k hb).1 (ho.lt k hb).2), hR.imp_ (fun x cs hx => ?_)⟩
  exact (hx.to (W' := W') (fun k hh => hk k (hS k hh.1) hh.2.2)).mono (fun k hh => ⟨hh.1, hh.2.1, Nat.lt_of_lt_of_le hh.2.2 hs⟩)
/-- What stands while the lines are gone through: the results; how many lines; the code so far. -/
structure LI (w : World) (n : Nat) (gs : List S52) (xs : List Ins) (W : World) : Prop where
  bel : Below w.heap.size w W
  res : W.heap[w.heap.size]? = some (.cells #[.slice none 0 0, .slice none 0 0] 26 (0, 0))
  rn : W.heap[w.heap.size + 1]? = some (.cells #[.int .i64 0] 3 (0, 0))
  num : W.heap[w.heap.size + 3]? = some (.cells #[.int .i64 n] 3 (0, 0))
  row : ∃ vG vI, W.heap[w.heap.size + 2]? = some (.cells #[vG, vI] 26 (0, 0)) ∧ Row k52 52 (w.heap.size + 7) (fun _ => False) W vG gs ∧ Row kI 46 (w.heap.size + 7) (fun k => w.heap.size + 7 ≤ k) W vI xs ∧ (xs = [] → vI = .slice none 0 0)
theorem LI.move {w : World} {n : Nat} {gs : List S52} {xs : List Ins} {W W' : World} (h : LI w n gs xs W) (hb : Below w.heap.size w W') (hs : W.heap.size ≤ W'.heap.size) (hk : ∀ k, (w.heap.size ≤ k ∧ k < w.heap.size + 4) ∨ (w.heap.size + 7 ≤ k ∧ k < W.heap.size) → W'.heap[k]? = W.heap[k]?) : LI w n gs xs W' := by
  obtain ⟨hbl, hres, hrn, hnum, vG, vI, hc, hG, hI, h0⟩ := h
  exact ⟨hb, (hk _ (by omega)).trans hres, (hk _ (by omega)).trans hrn, (hk _ (by omega)).trans hnum, vG, vI, (hk _ (by omega)).trans hc, row_agr hG hs (fun k h1 h2 => hk k (by omega)) (fun k f => f.elim), row_agr hI hs (fun k h1 h2 => hk k (by omega)) (fun k f => f), h0⟩
theorem LI.kp {w : World} {n : Nat} {gs : List S52} {xs : List Ins} {W W' : World} (h : LI w n gs xs W) (hk : Kp (w.heap.size + 4) W W') : LI w n gs xs W' := by
  have h3 := lt_heap h.num
  exact h.move (below_kp h.bel (by omega) h.bel.size hk) hk.size (fun k hh => hk.blk (by omega) (by omega))
theorem LI.put {w : World} {n : Nat} {gs : List S52} {xs : List Ins} {W : World} {ob : Obj} (h : LI w n gs xs W) (l : Nat) (hl : l = w.heap.size + 5 ∨ l = w.heap.size + 6) : LI w n gs xs (W.putObj l ob) :=
  h.move (below_putObj h.bel (by omega)) (by unfold World.putObj; simp) (fun k hh => World.putObj_heap_other (by omega))
theorem LI.below {w : World} {n : Nat} {gs : List S52} {xs : List Ins} {W W' : World} (h : LI w n gs xs W) (hb : Below W.heap.size W W') : LI w n gs xs W' := by
  have h3 := lt_heap h.num
  exact h.move (bel2 h.bel hb) hb.size (fun k hh => hb.block k (by omega))
/-- One line more is counted. -/
theorem LI.count {w : World} {n : Nat} {gs : List S52} {xs : List Ins} {W : World} (h : LI w n gs xs W) : LI w (n + 1) gs xs (W.setCell ⟨w.heap.size + 3, 0, none⟩ (.int .i64 ((n : Int) + 1))) := by
  obtain ⟨hbl, hres, hrn, hnum, vG, vI, hc, hG, hI, h0⟩ := h
  have hk : ∀ k, k ≠ w.heap.size + 3 → (W.setCell ⟨w.heap.size + 3, 0, none⟩ (.int .i64 ((n : Int) + 1))).heap[k]? = W.heap[k]? := fun k hk => Below.heap_setCell _ _ _ _ hk
  have hs : W.heap.size ≤ (W.setCell ⟨w.heap.size + 3, 0, none⟩ (.int .i64 ((n : Int) + 1))).heap.size := by simp [World.setCell]
  exact ⟨hbl.setCell (p := ⟨w.heap.size + 3, 0, none⟩) (by dsimp only; omega) _, (hk _ (by omega)).trans hres, (hk _ (by omega)).trans hrn, heap_set hnum 0 _, vG, vI, (hk _ (by omega)).trans hc, row_agr hG hs (fun k h1 _ => hk k (by omega)) (fun k f => f.elim), row_agr hI hs (fun k h1 _ => hk k (by omega)) (fun k f => f), h0⟩
def CodeR (l : List UInt8) (w : World) (e : Ending) (w' : World) : Prop :=
  (∃ m : Nat, parseC l = (none, m) ∧ e = .returned (.tuple #[.agg #[.slice none 0 0, .slice none 0 0], .int .i64 m]) ∧ Below w.heap.size w w') ∨
  ∃ (gs : List S52) (xs : List Ins) (Ag : Option Addr) (cg : Nat) (Ai : Option Addr) (ci : Nat), parseC l = (some (gs, xs), 0) ∧ e = .returned (.tuple #[.agg #[.slice Ag gs.length cg, .slice Ai xs.length ci], .int .i64 0]) ∧ gs.length ≤ cg ∧ xs.length ≤ ci ∧ k52.C w' Ag gs.length gs ∧ kI.C w' Ai xs.length xs ∧ Below w.heap.size w w'
theorem info52 : (Tryz.prog.info? 52).map (fun i => (i.zero, i.size, i.bytes)) = some (some (.agg #[.string ⟨#[]⟩, .int .i64 0, .int .i64 0]), 3, 32) := by kernel_rfl
theorem info46 : (Tryz.prog.info? 46).map (fun i => (i.zero, i.size, i.bytes)) = some (some (.agg #[.int .i64 0, .int .i64 0, .int .i64 0, .slice none 0 0]), 4, 48) := by kernel_rfl
end Go.Proofs.YtcmhibcoccdmaaaGreatDoor.P
