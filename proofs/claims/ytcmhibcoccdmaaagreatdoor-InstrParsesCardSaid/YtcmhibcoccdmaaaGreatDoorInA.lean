/- Instructions: the table of forms. -/
import Derived.Test.YtcmhibcoccdmaaaGreatDoorPx0
import Derived.Test.YtcmhibcoccdmaaaGreatDoorOwnRow
import Derived.Deep.WholeRow
import Derived.Laws.Tables
import Derived.Lib.Hide
namespace Go.Proofs.YtcmhibcoccdmaaaGreatDoor.P
open Go.RowKit Go.Proofs.YtcmhibcoccdmaaaGreatDoorW.PrintWords Go.Proofs.YtcmhibcoccdmaaaGreatDoorW.PrintLast Go.Proofs.YtcmhibcoccdmaaaGreatDoor.Rw
set_option linter.unusedVariables false
set_option linter.unusedSimpArgs false
theorem heap_new (w : World) (o : Obj) : (w.alloc o).heap[w.heap.size]? = some o := heap_alloc_last w o
theorem heap_old (w : World) (o : Obj) (k : Nat) (h : k < w.heap.size) : (w.alloc o).heap[k]? = w.heap[k]? := by
  show (w.heap.push o)[k]? = w.heap[k]?
  rw [Array.getElem?_push, if_neg (by omega)]
theorem new2_a (w : World) (o o' : Obj) : ((w.alloc o).alloc o').heap[w.heap.size]? = some o := by
  rw [heap_old _ _ _ (by simp), heap_new]
theorem new2_b (w : World) (o o' : Obj) : ((w.alloc o).alloc o').heap[w.heap.size + 1]? = some o' := by
  have := heap_new (w.alloc o) o'
  rwa [World.size_alloc] at this
theorem cell_in {w : World} {b : Nat} {cs : Array Value} {t : TypeId} (h : w.heap[b]? = some (.cells cs t (0, 0))) (j : Nat) : w.cell? ⟨b, j, none⟩ = cs[j]? := by simp [World.cell?, h]
theorem cell_allocN {w : World} (o : Obj) {a : Addr} {v : Value} (h : w.cell? a = some v) : (w.alloc o).cell? a = some v := by
  have hl : a.block < w.heap.size := World.block_lt_of_cell? w _ h
  rw [← h]
  exact World.cell?_of_block (heap_old w o _ hl)
theorem bel2 {w W W' : World} (h : Below w.heap.size w W) (k : Below W.heap.size W W') : Below w.heap.size w W' := h.trans (k.mono h.size)
structure Fm where
  (word : ByteArray) (nums least most reads readsA leaves leavesA : Int)
def fmT : List Fm := [⟨⟨#[105, 110, 116]⟩, 1, 0, 0, 0, 0, 1, 0⟩, ⟨⟨#[103, 108, 111, 98, 97, 108, 38]⟩, 1, 0, 65536, 0, 0, 1, 0⟩, ⟨⟨#[112, 117, 115, 104]⟩, 1, 0, 65536, 1, 1, 1, 0⟩, ⟨⟨#[109, 107, 97, 112]⟩, 0, 0, 0, 2, 0, -1, 0⟩,
  ⟨⟨#[117, 112, 100, 97, 116, 101]⟩, 1, 0, 65536, 2, 1, -1, 0⟩, ⟨⟨#[112, 111, 112]⟩, 1, 0, 65536, 0, 1, 0, -1⟩, ⟨⟨#[115, 108, 105, 100, 101]⟩, 1, 0, 65536, 1, 1, 0, -1⟩, ⟨⟨#[97, 108, 108, 111, 99]⟩, 1, 1, 65536, 0, 0, 0, 1⟩,
  ⟨⟨#[101, 118, 97, 108]⟩, 0, 0, 0, 1, 0, 0, 0⟩, ⟨⟨#[117, 110, 119, 105, 110, 100]⟩, 0, 0, 0, 1, 0, 0, 0⟩, ⟨⟨#[112, 97, 99, 107]⟩, 2, 0, 255, 0, 0, 1, 0⟩, ⟨⟨#[99, 97, 115, 101]⟩, -1, 0, 0, 1, 0, 0, 0⟩,
  ⟨⟨#[115, 112, 108, 105, 116]⟩, 1, 0, 65536, 1, 0, -1, 1⟩, ⟨⟨#[115, 119, 105, 116, 99, 104]⟩, -1, 0, 0, 1, 0, 0, 0⟩, ⟨⟨#[112, 114, 105, 109]⟩, 1, 0, 10, 2, 0, -1, 0⟩, ⟨⟨#[102, 97, 105, 108]⟩, 0, 0, 0, 0, 0, 0, 0⟩, ⟨⟨#[106, 117, 109, 112]⟩, 1, 0, 65536, 0, 0, 0, 0⟩]
def Fm.cells (f : Fm) : List Value := [.string f.word, .int .i64 f.nums, .int .i64 f.least, .int .i64 f.most, .int .i64 f.reads, .int .i64 f.readsA, .int .i64 f.leaves, .int .i64 f.leavesA]
def formsA : Array Value := (fmT.flatMap Fm.cells).toArray
/-! Pure operations of a plain region, run by the kernel. -/
def pureStep (P : Program) (o : Oper) (a : Act) : Option Act :=
  match o.guard, o.op with
  | none, .build t parts => (P.built t (parts.map fun (i, x) => (i, a.eval x)).toList).map fun c => a.put o.dst (.agg c)
  | none, .move x => some (a.put o.dst (a.eval x))
  | none, .assign x => some (a.put o.dst (a.eval x))
  | _, _ => none
def pureRun (P : Program) : List Oper → Act → Option Act
  | [], a => some a
  | o :: l, a => (pureStep P o a).bind (pureRun P l)
theorem pure_step {P : Program} {ops : Array Oper} {Q : Exit → Act → World → Prop} {rest : List Oper} {o : Oper} {a a' : Act} {w : World} (hs : pureStep P o a = some a') (h : wpList P ops Q rest a' w) : wpList P ops Q (o :: rest) a w := by
  unfold pureStep at hs
  split at hs
  · rename_i hg ho
    obtain ⟨c, hc, rfl⟩ := Option.map_eq_some_iff.1 hs
    refine wpList_build hg _ _ ho (by rw [hc]; rfl) ?_
    rw [hc]
    exact h
  · rename_i hg ho
    cases hs
    refine wpList_plain hg fun K hK => ?_
    unfold Oper.wp execOp
    simp only [ho]
    exact hK _ _ h
  · rename_i hg ho
    cases hs
    refine wpList_plain hg fun K hK => ?_
    unfold Oper.wp execOp
    simp only [ho]
    exact hK _ _ h
  · cases hs
theorem pure_run {P : Program} {ops : Array Oper} {Q : Exit → Act → World → Prop} {rest : List Oper} {w : World} : ∀ (l : List Oper) (a a' : Act), pureRun P l a = some a' → wpList P ops Q rest a' w → wpList P ops Q (l ++ rest) a w
  | [], a, a', h, k => by
    cases h
    exact k
  | o :: l, a, a', h, k => by
    obtain ⟨b, hb, h'⟩ := Option.bind_eq_some_iff.1 h
    exact pure_step hb (pure_run l b a' h' k)
theorem pure_take {P : Program} {ops : Array Oper} {Q : Exit → Act → World → Prop} {L : List Oper} {a : Act} {w : World} (n : Nat) (hs : (pureRun P (L.take n) a).isSome = true) (h : wpList P ops Q (L.drop n) ((pureRun P (L.take n) a).getD ⟨#[], []⟩) w) : wpList P ops Q L a w := by
  obtain ⟨a', ha⟩ := Option.isSome_iff_exists.1 hs
  rw [ha] at h
  have := pure_run (L.take n) a a' ha h
  rwa [List.take_append_drop] at this
theorem pure_take2 {P : Program} {ops : Array Oper} {Q : Exit → Act → World → Prop} {L : List Oper} {a : Act} {w : World} (n : Nat) {x y : Operand} {vx vy : Value} (hs : (pureRun P (L.take n) a).isSome = true) (hx : ((pureRun P (L.take n) a).getD ⟨#[], []⟩).eval x = vx) (hy : ((pureRun P (L.take n) a).getD ⟨#[], []⟩).eval y = vy)
    (h : ∀ a' : Act, a'.eval x = vx → a'.eval y = vy → a' = (pureRun P (L.take n) a).getD ⟨#[], []⟩ → wpList P ops Q (L.drop n) a' w) : wpList P ops Q L a w := pure_take n hs (h _ hx hy rfl)
def zeroA : Array Value := ((List.replicate 17 [Value.string ⟨#[]⟩, .int .i64 0, .int .i64 0, .int .i64 0, .int .i64 0, .int .i64 0, .int .i64 0, .int .i64 0]).flatten).toArray
theorem infoA : (Tryz.prog.info? 101).map (fun i => (i.zero, i.size)) = some (some (.agg zeroA), 136) := by kernel_rfl
theorem sizeA : (Tryz.prog.info? 101).map (·.size) = some formsA.size := by kernel_rfl
theorem oneA : formsA.all (·.oneCell') = true := by kernel_rfl
set_option maxHeartbeats 4000000 in
set_option maxRecDepth 100000 in
theorem forms_calls (w : World) : Calls Tryz.prog 52 #[] w fun e w' => e = .returned (.agg formsA) ∧ Below w.heap.size w w' := by
  obtain ⟨hz, hs⟩ := zero_of_info infoA
  go_enter Tryz.func52, Tryz.ntmps52
  go_upto_region 2 with (fail)
  refine wp_region_lit ?_
  refine pure_take2 26 (x := .tmp 0) (y := .tmp 27) (vx := .pointer (some ⟨w.heap.size, 0, none⟩)) (vy := .agg formsA) (by kernel_rfl) (by kernel_rfl) (by kernel_rfl) (fun a' hx hy ht => ?_)
  refine wpList_store_row rfl _ _ _ rfl w.heap.size formsA hx hy 101 zeroA (heap_alloc_last w _) sizeA (by kernel_rfl) oneA ?_
  rw [World.setRow_alloc_new]
  rename_i K hK
  refine hK _ _ ?_
  obtain ⟨tm, df⟩ := a'
  have hd : df = [] := by rw [show df = (⟨tm, df⟩ : Act).defers from rfl, ht]; kernel_rfl
  subst hd
  clear ht
  go_wp2_with fail
  exact bodyPost_ret (results_cell_row rfl _ _ w.heap.size 101 formsA (0, 0) _ hx (heap_alloc_last w _) Tryz.underlying101 rfl sizeA) rfl ⟨rfl, (Below.refl _ _).alloc (Nat.le_refl _) _⟩
def fmAt (i : Nat) : Fm := fmT.getD i ⟨⟨#[]⟩, 0, 0, 0, 0, 0, 0, 0⟩
theorem heap_set8 {W : World} {b : Nat} {a0 a1 a2 a3 a4 a5 a6 a7 : Value} {t : TypeId} {fr : Nat × Nat} (h : W.heap[b]? = some (.cells #[a0, a1, a2, a3, a4, a5, a6, a7] t fr)) (v0 v1 v2 v3 v4 v5 v6 v7 : Value) :
    ((((((((W.setCell ⟨b, 0, none⟩ v0).setCell ⟨b, 1, none⟩ v1).setCell ⟨b, 2, none⟩ v2).setCell ⟨b, 3, none⟩ v3).setCell ⟨b, 4, none⟩ v4).setCell ⟨b, 5, none⟩ v5).setCell ⟨b, 6, none⟩ v6).setCell ⟨b, 7, none⟩ v7).heap[b]? = some (.cells #[v0, v1, v2, v3, v4, v5, v6, v7] t fr) :=
  by
  have h4 : ((((W.setCell ⟨b, 0, none⟩ v0).setCell ⟨b, 1, none⟩ v1).setCell ⟨b, 2, none⟩ v2).setCell ⟨b, 3, none⟩ v3).heap[b]? = some (Obj.cells #[v0, v1, v2, v3, a4, a5, a6, a7] t fr) := heap_set (heap_set (heap_set (heap_set h 0 v0) 1 v1) 2 v2) 3 v3
  exact heap_set (heap_set (heap_set (heap_set h4 4 v4) 5 v5) 6 v6) 7 v7
theorem grown_set8 (W : World) (b : Nat) (v0 v1 v2 v3 v4 v5 v6 v7 : Value) : W.grownBy ((((((((W.setCell ⟨b, 0, none⟩ v0).setCell ⟨b, 1, none⟩ v1).setCell ⟨b, 2, none⟩ v2).setCell ⟨b, 3, none⟩ v3).setCell ⟨b, 4, none⟩ v4).setCell ⟨b, 5, none⟩ v5).setCell ⟨b, 6, none⟩ v6).setCell ⟨b, 7, none⟩ v7) (some b) :=
  (((((((grown_set W ⟨b, 0, none⟩ v0).trans (grown_set _ ⟨b, 1, none⟩ v1)).trans (grown_set _ ⟨b, 2, none⟩ v2)).trans (grown_set _ ⟨b, 3, none⟩ v3)).trans (grown_set _ ⟨b, 4, none⟩ v4)).trans (grown_set _ ⟨b, 5, none⟩ v5)).trans (grown_set _ ⟨b, 6, none⟩ v6)).trans (grown_set _ ⟨b, 7, none⟩ v7)
theorem forms_at : ∀ i : Fin 17, formsA[i.val * 8]? = some (.string (fmAt i.val).word) ∧ formsA[i.val * 8 + 1]? = some (.int .i64 (fmAt i.val).nums) ∧ formsA[i.val * 8 + 2]? = some (.int .i64 (fmAt i.val).least) ∧ formsA[i.val * 8 + 3]? = some (.int .i64 (fmAt i.val).most) ∧ formsA[i.val * 8 + 4]? = some (.int .i64 (fmAt i.val).reads) ∧ formsA[i.val * 8 + 5]? = some (.int .i64 (fmAt i.val).readsA) ∧ formsA[i.val * 8 + 6]? = some (.int .i64 (fmAt i.val).leaves) ∧ formsA[i.val * 8 + 7]? = some (.int .i64 (fmAt i.val).leavesA) := by
  intro i
  match i with
  | ⟨0, _⟩ | ⟨1, _⟩ | ⟨2, _⟩ | ⟨3, _⟩ | ⟨4, _⟩ | ⟨5, _⟩ | ⟨6, _⟩ | ⟨7, _⟩ | ⟨8, _⟩ | ⟨9, _⟩ | ⟨10, _⟩ | ⟨11, _⟩ | ⟨12, _⟩ | ⟨13, _⟩ | ⟨14, _⟩ | ⟨15, _⟩ | ⟨16, _⟩ => exact ⟨by kernel_rfl, by kernel_rfl, by kernel_rfl, by kernel_rfl, by kernel_rfl, by kernel_rfl, by kernel_rfl, by kernel_rfl⟩
  | ⟨n + 17, h⟩ => omega
set_option maxHeartbeats 4000000 in
set_option maxRecDepth 100000 in
theorem form_calls (op a b : Int) (A : Option Addr) (n c : Nat) (w : World) (h0 : 0 ≤ op) (h1 : op < 17) : Calls Tryz.prog 42 #[.agg #[.int .i64 op, .int .i64 a, .int .i64 b, .slice A n c]] w fun e w' => e = .returned (.tuple #[.agg #[.string (fmAt op.toNat).word, .int .i64 (fmAt op.toNat).nums, .int .i64 (fmAt op.toNat).least, .int .i64 (fmAt op.toNat).most, .int .i64 (fmAt op.toNat).reads, .int .i64 (fmAt op.toNat).readsA, .int .i64 (fmAt op.toNat).leaves, .int .i64 (fmAt op.toNat).leavesA], .bool true]) ∧ Below w.heap.size w w' := by
  obtain ⟨hz, hs⟩ := zero_of_info infoA
  go_enter Tryz.func42, Tryz.ntmps42
  have hn0 : ¬ op < 0 := by omega
  have hn1 : ¬ op ≥ 17 := by omega
  have hn2 : ¬ 17 ≤ op := by omega
  go_wp2_with fail
  refine (forms_calls _).mono ?_
  rintro e w2 ⟨rfl, hb2⟩
  have hbx := (hb2.block w.heap.size (by simp; omega)).trans (new2_a w _ _)
  have hby := (hb2.block (w.heap.size + 1) (by simp)).trans (new2_b w _ _)
  have hB2 : Below w.heap.size w w2 := by
    have ha := ((Below.refl _ w).alloc (Nat.le_refl _) (.cells #[.int .i64 op, .int .i64 a, .int .i64 b, .slice A n c] 46)).alloc (by simp) (.cells #[.string ⟨#[]⟩, .int .i64 0, .int .i64 0, .int .i64 0, .int .i64 0, .int .i64 0, .int .i64 0, .int .i64 0] 93)
    exact ha.trans (hb2.mono ha.size)
  have hx0 := fun o => cell_allocN o (cell_in hbx 0)
  have hf := forms_at ⟨op.toNat, by omega⟩
  have hnb := heap_new w2 (.cells formsA 101)
  obtain ⟨f0, f1, f2, f3, f4, f5, f6, f7⟩ := hf
  have g0 : (w2.alloc (.cells formsA 101)).cell? ⟨w2.heap.size, op.toNat * 8, none⟩ = _ := (cell_in hnb _).trans f0
  have g1 : (w2.alloc (.cells formsA 101)).cell? ⟨w2.heap.size, op.toNat * 8 + 1, none⟩ = _ := (cell_in hnb _).trans f1
  have g2 : (w2.alloc (.cells formsA 101)).cell? ⟨w2.heap.size, op.toNat * 8 + 2, none⟩ = _ := (cell_in hnb _).trans f2
  have g3 : (w2.alloc (.cells formsA 101)).cell? ⟨w2.heap.size, op.toNat * 8 + 3, none⟩ = _ := (cell_in hnb _).trans f3
  have g4 : (w2.alloc (.cells formsA 101)).cell? ⟨w2.heap.size, op.toNat * 8 + 4, none⟩ = _ := (cell_in hnb _).trans f4
  have g5 : (w2.alloc (.cells formsA 101)).cell? ⟨w2.heap.size, op.toNat * 8 + 5, none⟩ = _ := (cell_in hnb _).trans f5
  have g6 : (w2.alloc (.cells formsA 101)).cell? ⟨w2.heap.size, op.toNat * 8 + 6, none⟩ = _ := (cell_in hnb _).trans f6
  have g7 : (w2.alloc (.cells formsA 101)).cell? ⟨w2.heap.size, op.toNat * 8 + 7, none⟩ = _ := (cell_in hnb _).trans f7
  simp only at g0 g1 g2 g3 g4 g5 g6 g7
  have hyo := (heap_old w2 (.cells formsA 101) (w.heap.size + 1) (Array.getElem?_eq_some_iff.1 hby).1).trans hby
  have y0 := cell_in hyo 0
  have y1 := cell_in hyo 1
  have y2 := cell_in hyo 2
  have y3 := cell_in hyo 3
  have y4 := cell_in hyo 4
  have y5 := cell_in hyo 5
  have y6 := cell_in hyo 6
  have y7 := cell_in hyo 7
  have z0 := blk_frozen hyo 0
  have z1 := blk_frozen hyo 1
  have z2 := blk_frozen hyo 2
  have z3 := blk_frozen hyo 3
  have z4 := blk_frozen hyo 4
  have z5 := blk_frozen hyo 5
  have z6 := blk_frozen hyo 6
  have z7 := blk_frozen hyo 7
  clear hs f0 f1 f2 f3 f4 f5 f6 f7
  have HBX := Lib.hid hbx
  have HBY := Lib.hid hby
  have HYO := Lib.hid hyo
  have HB2 := Lib.hid hB2
  clear hb2 hbx hby hB2 hnb hyo
  generalize hfm : fmAt op.toNat = fm at g0 g1 g2 g3 g4 g5 g6 g7 ⊢
  go_wp2_with (first | (refine wpList_store_row rfl _ _ _ rfl w2.heap.size formsA rfl rfl 101 zeroA (heap_alloc_last _ _) sizeA (by kernel_rfl) oneA ?_; rw [World.setRow_alloc_new]))
  have hbr := heap_set8 HYO.out (.string fm.word) (.int .i64 fm.nums) (.int .i64 fm.least) (.int .i64 fm.most) (.int .i64 fm.reads) (.int .i64 fm.readsA) (.int .i64 fm.leaves) (.int .i64 fm.leavesA)
  have hgr := grown_set8 (w2.alloc (.cells formsA 101)) (w.heap.size + 1) (.string fm.word) (.int .i64 fm.nums) (.int .i64 fm.least) (.int .i64 fm.most) (.int .i64 fm.reads) (.int .i64 fm.readsA) (.int .i64 fm.leaves) (.int .i64 fm.leavesA)
  have hB3 := below_grown (HB2.out.trans ((Below.refl _ w2).alloc HB2.out.size (.cells formsA 101))) hgr (by omega)
  clear g0 g1 g2 g3 g4 g5 g6 g7 y0 y1 y2 y3 y4 y5 y6 y7 z0 z1 z2 z3 z4 z5 z6 z7 hgr hx0
  generalize (((((((((w2.alloc (.cells formsA 101)).setCell _ _).setCell _ _).setCell _ _).setCell _ _).setCell _ _).setCell _ _).setCell _ _).setCell _ _) = W4 at hbr hB3 ⊢
  have q0 := cell_in hbr 0
  have q1 := cell_in hbr 1
  have q2 := cell_in hbr 2
  have q3 := cell_in hbr 3
  have q4 := cell_in hbr 4
  have q5 := cell_in hbr 5
  have q6 := cell_in hbr 6
  have q7 := cell_in hbr 7
  exact bodyPost_ret (v := .tuple #[.agg #[.string fm.word, .int .i64 fm.nums, .int .i64 fm.least, .int .i64 fm.most, .int .i64 fm.reads, .int .i64 fm.readsA, .int .i64 fm.leaves, .int .i64 fm.leavesA], .bool true]) (by simp [results, Tryz.results42, go_sem, q0, q1, q2, q3, q4, q5, q6, q7]) rfl ⟨by rw [hfm], hB3⟩
end Go.Proofs.YtcmhibcoccdmaaaGreatDoor.P
