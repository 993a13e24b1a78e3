import Derived.Maps.OwnSet
import Derived.Maps.OwnIn
import Derived.WalkKit
namespace Go.Proofs.YtddmdiaopaoekaaDoor.Rw
open Go.RowKit Go.Maps
set_option linter.unusedVariables false
/-- An element, as it lies. -/
def RV (v : Value) : Option (DataW Value × List MemPlace) := some (.held v, [])
def found (D : DataW Value) (m : Int → Option Value) : Prop := ∀ i, Maps.has D (.int .i64 i) = (m i).isSome ∧ ∀ z, D.atKey (.int .i64 i) z = match m i with | some v => .held v | none => z
/-- A map in block b, at most n entries: what it holds at each number. -/
def MapI (P : Program) (k : TypeId) (W : World) (b n : Nat) (m : Int → Option Value) : Prop := ∃ D : DataW Value, W.ownsMap P k RV b n D ∧ found D m
def putI (m : Int → Option Value) (i : Int) (v : Value) : Int → Option Value := fun j => if j = i then some v else m j
section
variable {P : Program} {k e t : TypeId} {W W' : World} {b n : Nat} {m : Int → Option Value}
theorem MapI.made (P : Program) (k : TypeId) (W : World) : MapI P k (W.alloc (.map #[] 0)) W.heap.size 0 (fun _ => none) :=
  ⟨.map [], World.ownsMap_made W P k RV, fun i => ⟨rfl, fun z => rfl⟩⟩
theorem MapI.lt (h : MapI P k W b n m) : b < W.heap.size := by obtain ⟨D, h, _⟩ := h; exact h.lt
theorem MapI.kept (h : MapI P k W b n m) {row : Option Nat} (hg : W.grownBy W' row) (hne : some b ≠ row) : MapI P k W' b n m := by
  obtain ⟨D, h, hf⟩ := h
  exact ⟨D, h.kept hg hne, hf⟩
theorem MapI.below (h : MapI P k W b n m) (hb : Below W.heap.size W W') : MapI P k W' b n m :=
  h.kept (row := none) ⟨hb.os, hb.tape, hb.output, hb.size, fun k hk _ => hb.block k hk⟩ (by simp)
theorem MapI.alloc (h : MapI P k W b n m) (o : Obj) : MapI P k (W.alloc o) b n m := h.kept (World.grownBy_alloc W o none) (by simp)
theorem MapI.mono (h : MapI P k W b n m) {n' : Nat} (hn : n ≤ n') : MapI P k W b n' m := by
  obtain ⟨D, h, hf⟩ := h
  exact ⟨D, h.mono hn, hf⟩
theorem MapI.obj (h : MapI P k W b n m) : ∃ es ck, W.heap[b]? = some (.map es ck) := by
  obtain ⟨D, ⟨es, ck, hh, _⟩, _⟩ := h
  exact ⟨es, ck, hh⟩
theorem found_put {D : DataW Value} (hD : IsMap D) (hf : found D m) (i : Int) (v : Value) : found (D.put (.int .i64 i) (.held v)) (putI m i v) := by
  intro j
  unfold putI
  by_cases hji : j = i
  · subst hji
    rw [if_pos rfl]
    have hl : WideAt.IsKeyLit (Lit.int .i64 j) := by unfold WideAt.IsKeyLit; trivial
    exact ⟨has_put_same hD hl _, fun z => atKey_put_same hD hl _ z⟩
  · rw [if_neg hji]
    have hne : (Lit.int .i64 j) ≠ Lit.int .i64 i := fun e => hji (by cases e; rfl)
    exact ⟨(has_put_other hne _).trans (hf j).1, fun z => (atKey_put_other hne _ z).trans ((hf j).2 z)⟩
variable (K : Keyed P k) (hk : P.underlying k = some (.int .i64)) (ht : P.underlying t = some (.map k e))
include K hk ht
theorem MapI.look (h : MapI P k W b n m) {z : Value} (hz : (zeroValue e).run P W = .ok z W) {i : Int} (hw : (Lit.int .i64 i).wf = true) : (Instr.lookup t (.map (some b)) (.int .i64 i) false).run P W = .ok ((m i).getD z) W := by
  obtain ⟨D, h, hf⟩ := h
  obtain ⟨v, ps, hrun, hv⟩ := h.lookup K ht hz (zd := .held z) (zp := []) rfl (keyOf_int_mk hk hw)
  have h1 := (hf i).2 (.held z)
  simp only [RV, Option.some.injEq, Prod.mk.injEq] at hv
  rw [h1] at hv
  rw [hrun]
  cases hm : m i with
  | none => rw [hm] at hv; cases hv.1; rfl
  | some u => rw [hm] at hv; cases hv.1; rfl
theorem MapI.look_ok (h : MapI P k W b n m) {z : Value} (hz : (zeroValue e).run P W = .ok z W) {i : Int} (hw : (Lit.int .i64 i).wf = true) : (Instr.lookup t (.map (some b)) (.int .i64 i) true).run P W = .ok (.tuple #[(m i).getD z, .bool (m i).isSome]) W := by
  obtain ⟨D, h, hf⟩ := h
  obtain ⟨v, ps, hrun, hv⟩ := h.look_ok K ht hz (zd := .held z) (zp := []) rfl (keyOf_int_mk hk hw)
  have h1 := (hf i).2 (.held z)
  simp only [RV, Option.some.injEq, Prod.mk.injEq] at hv
  rw [h1] at hv
  rw [hrun, (hf i).1]
  cases hm : m i with
  | none => rw [hm] at hv; cases hv.1; rfl
  | some u => rw [hm] at hv; cases hv.1; rfl
theorem MapI.put (h : MapI P k W b n m) (hn : n < maxLen) {i : Int} (hw : (Lit.int .i64 i).wf = true) (v : Value) :
    ∃ W', (Instr.mapUpdate t (.map (some b)) (.int .i64 i) v).run P W = .ok () W' ∧ MapI P k W' b (n + 1) (putI m i v) ∧ W.grownBy W' (some b) := by
  obtain ⟨D, h, hf⟩ := h
  obtain ⟨W', hrun, h', hg⟩ := h.update K ht hn (keyOf_int_mk hk hw) (val := v) (d := .held v) (ps := []) rfl
  exact ⟨W', hrun, ⟨_, h', found_put h.isMap hf i v⟩, hg⟩
end
end Go.Proofs.YtddmdiaopaoekaaDoor.Rw
