import Derived.Test.YtddmdiaopaoekaaDoorLaA
import Derived.Test.YtddmdiaopaoekaaDoorPlG
import Derived.Laws.AppendOwnNone
import Derived.Test.YtddmdiaopaoekaaDoorOpn
import Derived.Deep.DeepCutAuto
import Derived.Deep.CutBlock
import Derived.Deep.RegionWith
namespace Go.Proofs.YtddmdiaopaoekaaDoor.P
open Go.RowKit Go.Proofs.YtddmdiaopaoekaaDoorW.PrintWords Go.Proofs.YtddmdiaopaoekaaDoorW.PrintLast Go.Proofs.YtddmdiaopaoekaaDoor.Rw
set_option linter.unusedVariables false
theorem reps_app {α : Type} {R : α → List Value → Prop} {size : Nat} {xs ys : List α} {cs ds : List Value} (h : Reps R size xs cs) (k : Reps R size ys ds) : Reps R size (xs ++ ys) (cs ++ ds) := by
  refine ⟨by rw [List.length_append, h.1, k.1, List.length_append, Nat.add_mul], fun j p hj => ?_⟩
  rcases Nat.lt_or_ge j xs.length with hl | hl
  · rw [List.getElem?_append_left hl] at hj
    have h1 := h.2 j p hj
    have h2 : j * size + size ≤ cs.length := by rw [h.1, ← Nat.succ_mul]; exact Nat.mul_le_mul_right _ hl
    rw [List.drop_append_of_le_length (by omega), List.take_append_of_le_length (by rw [List.length_drop]; omega)]
    exact h1
  · rw [List.getElem?_append_right hl] at hj
    have h1 := k.2 (j - xs.length) p hj
    have h2 : j * size = cs.length + (j - xs.length) * size := by rw [h.1, ← Nat.add_mul]; congr 1; omega
    rw [h2, ← List.drop_drop, List.drop_left]
    exact h1
theorem reps_one24 {W : World} {xs : List S24} {cells : List Value} (h : Reps (k24.K W) 4 xs cells) : ∀ u ∈ cells, u.oneCell' = true := by
  intro u hu
  obtain ⟨q, hq, rfl⟩ := List.mem_iff_getElem.1 hu
  have hql : q / 4 < xs.length := by
    rw [Nat.div_lt_iff_lt_mul (by omega)]
    rw [← h.1]
    exact hq
  have hc := h.2 (q / 4) _ (List.getElem?_eq_getElem hql)
  refine k24.K_one hc _ ?_
  rw [List.mem_iff_getElem?]
  refine ⟨q % 4, ?_⟩
  rw [List.getElem?_take, if_pos (Nat.mod_lt _ (by omega)), List.getElem?_drop, Nat.mul_comm, Nat.div_add_mod, List.getElem?_eq_getElem hq]

set_option maxRecDepth 100000 in
theorem wpList_append24 {w0 w : World} {ops : Array Oper} {rest : List Oper} {o : Oper} {a : Act} {Q : Exit → Act → World → Prop} (hgd : o.guard = none) (s x : Operand)
    (ho : o.op = .call { callee := .builtin .append, args := #[s, x], argTypes := #[22, 22] })
    (v : Value) (xs ys : List S24) (cells : List Value) (hs : a.eval s = v) (hown : w.ownsRow w0.heap.size 24 4 v xs.length cells) (hx : Reps (k24.K w0) 4 xs cells)
    (A : Option Addr) (c : Nat) (he : a.eval x = .slice A ys.length c) (hA : A = none → c = 0) (hC : k24.C w0 A ys.length ys) (hB : Below w0.heap.size w0 w) (hsz : (xs.length + ys.length) * 56 ≤ 140737488355328)
    (h : ∀ v' w' cells', w'.ownsRow w0.heap.size 24 4 v' (xs ++ ys).length cells' → Reps (k24.K w0) 4 (xs ++ ys) cells' → Below w0.heap.size w0 w' → w.grownBy w' v.ownBlock → wpList Tryd.prog ops Q rest (a.put o.dst v') w') :
    wpList Tryd.prog ops Q (o :: rest) a w := by
  obtain ⟨i0, hi, hz0, hz1, hz2⟩ := info_parts info24
  cases A with
  | none =>
    have hl : ys.length = 0 := by
      rcases Nat.eq_zero_or_pos ys.length with h1 | h1
      · exact h1
      · obtain ⟨ad, h2, _⟩ := hC.2.2 h1
        cases h2
    obtain rfl : ys = [] := List.length_eq_zero_iff.1 hl
    obtain rfl := hA rfl
    refine wpList_append_own_none hgd s x _ ho w0.heap.size 24 i0 4 Tryd.underlying22 hi v xs.length cells hs hown he ?_
    exact h v w cells (by simpa using hown) (by simpa using hx) hB ⟨rfl, rfl, rfl, Nat.le_refl _, fun _ _ _ => rfl⟩
  | some ad =>
    obtain ⟨news, hr, hcell0⟩ := ReadsRow.inner_ hC
    have hcell : ∀ j u, news[j]? = some u → w.cell? (ad.add j) = some u := fun j u h => pw_cell_below hB (hcell0 j u h)
    refine wpList_append_own_at w hgd s x _ ho w0.heap.size 24 i0 (.agg #[.int .i64 0, .int .i64 0, .string ⟨#[]⟩, .slice none 0 0]) 4 56 Tryd.underlying22 hi hz0 hz1 hz2 (by rfl) (by omega) v xs.length cells hs hown ad ys.length c news he hr.1 hcell (reps_one24 hr) (by unfold maxLen; omega) hsz hB.size ?_
    intro v' w' hown' hgrow _ _
    refine h v' w' (cells ++ news) (by rw [List.length_append]; exact hown') (reps_app hx hr) (hB.grown hgrow hB.size (fun k hk => own_base hown k hk)) hgrow
/-- One block that stays, and all that lies below. -/
def Fq (Wq : World) (q : Nat) (o : Obj) (wx : World) : Prop := Below Wq.heap.size Wq wx ∧ q < Wq.heap.size ∧ wx.heap[q]? = some o
theorem Fq.up {Wq W W' : World} {q : Nat} {o : Obj} (h : Fq Wq q o W) (hb : Below W.heap.size W W') : Fq Wq q o W' := ⟨bel2 h.1 hb, h.2.1, (hb.block q (Array.getElem?_eq_some_iff.1 h.2.2).1).trans h.2.2⟩
theorem Fq.al {Wq W : World} {q : Nat} {o : Obj} (h : Fq Wq q o W) (o' : Obj) : Fq Wq q o (W.alloc o') := h.up ((Below.refl _ _).alloc (Nat.le_refl _) _)
end Go.Proofs.YtddmdiaopaoekaaDoor.P
namespace Go.Proofs.YtddmdiaopaoekaaDoor.P
open Go.RowKit Go.Shelf Go.Proofs.YtddmdiaopaoekaaDoorW.PrintWords Go.Proofs.YtddmdiaopaoekaaDoorW.PrintLast Go.Proofs.YtddmdiaopaoekaaDoor.Rw
set_option linter.unusedVariables false
set_option linter.unusedSimpArgs false
end Go.Proofs.YtddmdiaopaoekaaDoor.P
