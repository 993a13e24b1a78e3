/- Short names for the printed texts (wip/tools/squeeze.py): a claim has at most 1,500,000 bytes. -/
import Derived.Test.YtddmdiaopaoekaaDoorPx0
import Derived.Test.YtddmdiaopaoekaaDoorWAll
namespace Go.Proofs.YtddmdiaopaoekaaDoor.P
open Go.RowKit Go.Proofs.YtddmdiaopaoekaaDoorW.PrintWords Go.Proofs.YtddmdiaopaoekaaDoorW.PrintLast Go.Proofs.YtddmdiaopaoekaaDoorW.PrintMore
set_option linter.defProp false
theorem zO {α : Type} (l : List α) (i : Nat) (a : α) : l.toArray.setIfInBounds i a = (l.set i a).toArray := List.setIfInBounds_toArray l i a
theorem zP {α : Type} (x : α) (xs : List α) (a : α) : List.set (x :: xs) 0 a = a :: xs := List.set_cons_zero
theorem zR {α : Type} (x : α) (xs : List α) (n : Nat) (a : α) : List.set (x :: xs) (n + 1) a = x :: List.set xs n a := List.set_cons_succ
def zA := @below_alloc
def zB := @pw_below_drewN
def zC := @below_drew1
def zD := @below_set
def zE := @below_step
def zF := @below_size
theorem zG {p : Prop} (h : p) : Aside0 p := Aside0.mk h
def zH := @blk_drewN
def zI := @blk_drew
def zJ := @blk_alloc
def zK := @blk_below
def zL := @blk_cell
def zM := @blk_frozen
def zS := @World.block_lt_of_cell?
theorem zT {α β : Type} {o : Option α} {f : α → Option β} {b : β} (h : o.bind f = some b) : ∃ a, o = some a ∧ f a = some b := Option.bind_eq_some_iff.mp h
def zU := @decide_eq_true
def zV := @decide_eq_false
theorem zW {α : Type} [BEq α] [LawfulBEq α] {a b : α} (h : a = b) : (a == b) = true := beq_iff_eq.mpr h
theorem zX {α : Type} [BEq α] [LawfulBEq α] {a b : α} (h : a = b) : (a != b) = false := bne_eq_false_iff_eq.mpr h
theorem zY {α : Type} [BEq α] [LawfulBEq α] {a b : α} (h : a ≠ b) : (a == b) = false := beq_eq_false_iff_ne.mpr h
theorem zZ {α : Type} [BEq α] [LawfulBEq α] {a b : α} (h : a ≠ b) : (a != b) = true := bne_iff_ne.mpr h
def zAA := @of_decide_eq_true
theorem zAB {b : Bool} (h : ¬ b = true) : b = false := Bool.eq_false_iff.mpr h
def zAC := @Kd.C_below
def zAD := @blk_lt
def zAH := @blk_put
theorem zN {w : World} {g : Nat} {t : TypeId} {v0 v1 v2 v3 : Value} (h : w.heap[g]? = some (.cells #[v0, v1, v2, v3] t (0, 0))) : w.cell? ⟨g, 0, none⟩ = some v0 ∧ w.cell? ⟨g, 1, none⟩ = some v1 ∧ w.cell? ⟨g, 2, none⟩ = some v2 ∧ w.cell? ⟨g, 3, none⟩ = some v3 :=
  ⟨(blk_cell h 0).trans rfl, (blk_cell h 1).trans rfl, (blk_cell h 2).trans rfl, (blk_cell h 3).trans rfl⟩
theorem zQ {w : World} {g : Nat} {t : TypeId} {v0 v1 v2 v3 : Value} (h : w.heap[g]? = some (.cells #[v0, v1, v2, v3] t (0, 0))) : w.cell? ⟨g, 0, none⟩ = some v0 ∧ w.cell? ⟨g, 1, none⟩ = some v1 ∧ w.cell? ⟨g, 2, none⟩ = some v2 ∧ w.cell? ⟨g, 3, none⟩ = some v3 ∧ w.frozen? ⟨g, 0, none⟩ = false ∧ w.frozen? ⟨g, 1, none⟩ = false ∧ w.frozen? ⟨g, 2, none⟩ = false ∧ w.frozen? ⟨g, 3, none⟩ = false :=
  ⟨(blk_cell h 0).trans rfl, (blk_cell h 1).trans rfl, (blk_cell h 2).trans rfl, (blk_cell h 3).trans rfl, blk_frozen h 0, blk_frozen h 1, blk_frozen h 2, blk_frozen h 3⟩
/-- An array of Bools, by a mask. -/
def zBM (n m : Nat) : Array Bool := ((List.range n).map (fun i => m.testBit i)).toArray
end Go.Proofs.YtddmdiaopaoekaaDoor.P
