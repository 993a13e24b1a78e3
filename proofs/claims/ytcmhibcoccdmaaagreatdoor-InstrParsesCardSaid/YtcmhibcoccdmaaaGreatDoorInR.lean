/- An instruction of the reference's as one of the program's. -/
import Derived.Test.YtcmhibcoccdmaaaGreatDoorInQ
namespace Go.Proofs.YtcmhibcoccdmaaaGreatDoor.P
open Go.RowKit Go.Shelf Go.Proofs.YtcmhibcoccdmaaaGreatDoorW.PrintWords Go.Proofs.YtcmhibcoccdmaaaGreatDoorW.PrintLast Go.Proofs.YtcmhibcoccdmaaaGreatDoor.Rw
set_option linter.unusedVariables false
set_option linter.unusedSimpArgs false
theorem one_kP {W : World} {xs : List (Int × Int)} {cells : List Value} (h : Reps (kP.K W) 2 xs cells) : ∀ u ∈ cells, u.oneCell' = true := by
  intro u hu
  obtain ⟨q, hq, rfl⟩ := List.mem_iff_getElem.1 hu
  have hql : q / 2 < xs.length := by
    rw [Nat.div_lt_iff_lt_mul (by omega)]
    rw [← h.1]
    exact hq
  have hc := h.2 (q / 2) _ (List.getElem?_eq_getElem hql)
  refine kP.K_one hc _ ?_
  rw [List.mem_iff_getElem?]
  refine ⟨q % 2, ?_⟩
  rw [List.getElem?_take, if_pos (Nat.mod_lt _ (by omega)), List.getElem?_drop, Nat.mul_comm, Nat.div_add_mod, List.getElem?_eq_getElem hq]
theorem run_append_none {P : Program} {w : World} (base : Nat) (t ty e : TypeId) (i : TypeInfo) (size c : Nat) (ht : P.underlying t = some (.slice e)) (hi : P.info? e = some i)
    (v : Value) (n : Nat) (xs : List Value) (hown : w.ownsRow base e size v n xs) :
    (Builtin.append_ #[t, t] ty #[v, .slice none 0 c]).run P w = .ok v w := by
  rcases hown.2 with ⟨rfl, rfl⟩ | ⟨g, cap, cur, rfl, _, _, hnc, _⟩
  · simp [Builtin.append_, run_underlying ht, sizeOf, typeInfo, hi, Builtin.lenOf, Builtin.firstCells]
  · simp [Builtin.append_, run_underlying ht, sizeOf, typeInfo, hi, Builtin.lenOf, Builtin.firstCells, hnc, storeCells]
/-- All pairs of a row, put behind none. -/
theorem step_all {ops : Array Oper} {o : Oper} {a : Act} {Q : Exit → Act → World → Prop} {Kc : Act → World → Prop} {w0 W : World} (base : Nat) (hw : Region.wanted o (yielded ops a.tmps) = true) (s x : Operand)
    (ho : o.op = .call { callee := .builtin .append, args := #[s, x], argTypes := #[43, 43] }) (v : Value) (hs : a.eval s = v) (HO : W.ownsRow base 90 2 v 0 []) (hbase : base ≤ W.heap.size)
    (A : Option Addr) (c : Nat) (ys : List (Int × Int)) (he : a.eval x = .slice A ys.length c) (hC : kP.C w0 A ys.length ys) (h0 : Below w0.heap.size w0 W) (hl : ys.length ≤ 1000000)
    (h : ∀ v1 w1, Row kP 90 base (fun _ => False) w1 v1 ys → W.grownBy w1 v.ownBlock → Kc (a.put o.dst v1) w1) :
    if Region.wanted o (yielded ops a.tmps) = true then Oper.wp Tryz.prog o a W Kc Q else Kc (a.put o.dst undef) W := by
  obtain ⟨i0, hi, hz0, hz1, hz2⟩ := info_parts info90
  rw [if_pos hw]
  cases A with
  | none =>
    have hl0 : ys.length = 0 := by
      rcases Nat.eq_zero_or_pos ys.length with h1 | h1
      · exact h1
      · obtain ⟨ad, h2, _⟩ := hC.2.2 h1
        cases h2
    obtain rfl : ys = [] := List.length_eq_zero_iff.1 hl0
    have hrun := run_append_none (P := Tryz.prog) (w := W) base 43 o.type 90 i0 2 c Tryz.underlying43 hi v 0 [] HO
    have hx : a.eval x = .slice none 0 c := he
    unfold Oper.wp
    simp [execOp, ho, resolve, invoke, builtin, hs, hx, hrun, Result.andThen]
    exact h v W ⟨[], HO, Reps.none _ _⟩ ⟨rfl, rfl, rfl, Nat.le_refl _, fun _ _ _ => rfl⟩
  | some ad =>
    obtain ⟨news, hr, hcell0⟩ := ReadsRow.inner_ hC
    have hcell : ∀ j u, news[j]? = some u → W.cell? (ad.add j) = some u := fun j u hj => pw_cell_below h0 (hcell0 j u hj)
    obtain ⟨v1, w1, hrun, hown, hg, _, hat⟩ := run_append_own_at (P := Tryz.prog) W base 43 o.type 90 i0 (.agg #[.int .i64 0, .int .i64 0]) 2 16 Tryz.underlying43 hi hz0 hz1 hz2 (by rfl) (by omega) v 0 [] HO ad ys.length c news hr.1 hcell (one_kP hr) (by unfold maxLen; omega) (by omega) hbase
    unfold Oper.wp
    simp [execOp, ho, resolve, invoke, builtin, hs, he, hrun, Result.andThen]
    refine h v1 w1 ⟨news, (by have h1 := hown; rw [List.nil_append, Nat.zero_add] at h1; exact h1), hr.imp_ (fun p cs hk => fun W' _ => ?_)⟩ hg
    obtain ⟨_, _, rfl, rfl, rfl⟩ := hk
    exact ⟨[_], [_], rfl, rfl, rfl⟩
def OwnR (x : Ins) (w : World) (e : Ending) (w' : World) : Prop := ∃ (A : Option Addr) (c : Nat), e = .returned (.agg #[.int .i64 x.op, .int .i64 x.a, .int .i64 x.b, .slice A x.tb.length c]) ∧ x.tb.length ≤ c ∧ FC kP w' (fun k => w.heap.size ≤ k ∧ k < w'.heap.size) A x.tb.length x.tb ∧ Below w.heap.size w w'
set_option maxHeartbeats 2000000 in
set_option maxRecDepth 100000 in
theorem ownInstr_calls (x : Ins) (A : Option Addr) (c : Nat) (w : World) (hC : kP.C w A x.tb.length x.tb) (hl : x.tb.length ≤ 1000000) :
    Calls Tryz.prog 15 #[.agg #[.int .i64 x.op, .int .i64 x.a, .int .i64 x.b, .slice A x.tb.length c]] w (OwnR x w) := by
  have HC := Lib.hid hC; have HL := Lib.hid hl
  clear hC hl
  go_enter Tryz.func15, Tryz.ntmps15
  go_upto_region 1 with (fail)
  have hx1 := new2_a w (.cells #[.int .i64 x.op, .int .i64 x.a, .int .i64 x.b, .slice A x.tb.length c] 45) (.cells #[.int .i64 0, .int .i64 0, .int .i64 0, .slice none 0 0] 46)
  have hy1 := new2_b w (.cells #[.int .i64 x.op, .int .i64 x.a, .int .i64 x.b, .slice A x.tb.length c] 45) (.cells #[.int .i64 0, .int .i64 0, .int .i64 0, .slice none 0 0] 46)
  have hB1 := ((Below.refl _ w).alloc (Nat.le_refl _) (.cells #[.int .i64 x.op, .int .i64 x.a, .int .i64 x.b, .slice A x.tb.length c] 45)).alloc (by simp) (.cells #[.int .i64 0, .int .i64 0, .int .i64 0, .slice none 0 0] 46)
  have hs1 : ((w.alloc (.cells #[.int .i64 x.op, .int .i64 x.a, .int .i64 x.b, .slice A x.tb.length c] 45)).alloc (.cells #[.int .i64 0, .int .i64 0, .int .i64 0, .slice none 0 0] 46)).heap.size = w.heap.size + 2 := by simp
  generalize (w.alloc (.cells #[.int .i64 x.op, .int .i64 x.a, .int .i64 x.b, .slice A x.tb.length c] 45)).alloc (.cells #[.int .i64 0, .int .i64 0, .int .i64 0, .slice none 0 0] 46) = w1 at hx1 hy1 hB1 hs1 ⊢
  have HS1 := Lib.hid hs1
  clear hs1
  have HX := Lib.hid hx1; have HY := Lib.hid hy1; have HB := Lib.hid hB1
  clear hx1 hy1 hB1
  have x0 := cell_in HX.out 0
  have x1 := cell_in HX.out 1
  have x2 := cell_in HX.out 2
  have x3 := cell_in HX.out 3
  refine start_ (n := 12) (S := fun w' => w'.cell? ⟨w.heap.size, 0, none⟩ = some (.int .i64 x.op) ∧ w'.cell? ⟨w.heap.size, 1, none⟩ = some (.int .i64 x.a) ∧ w'.cell? ⟨w.heap.size, 2, none⟩ = some (.int .i64 x.b) ∧ w'.cell? ⟨w.heap.size, 3, none⟩ = some (.slice A x.tb.length c)) (ds := [11]) #[false, false, false, false, false, false, false, false, false, false, false, false] (by kernel_rfl) rfl rfl ⟨x0, x1, x2, x3⟩ (fun hHeld => ?_)
  refine pure_ (i := 0) (N := some 3) (v := ?_) (a' := ?_) #[true, false, false, false, false, false, false, false, false, false, false, false] rfl rfl (by kernel_rfl) (fun _ _ _ h => h) (Or.inl ⟨by rfl, ?_⟩) ?_ ?_
  rotate_left
  · intro w'
    go_simp
    with_reducible rfl
  rotate_left
  · simp only [Act.put, List.setIfInBounds_toArray, List.set_cons_zero, List.set_cons_succ, i64_w, i32_w]
    rfl
  refine pure_ (i := 2) (N := some 5) (v := ?_) (a' := ?_) #[true, false, true, false, false, false, false, false, false, false, false, false] rfl rfl (by kernel_rfl) (fun _ _ _ h => h) (Or.inl ⟨by rfl, ?_⟩) ?_ ?_
  rotate_left
  · intro w'
    go_simp
    with_reducible rfl
  rotate_left
  · simp only [Act.put, List.setIfInBounds_toArray, List.set_cons_zero, List.set_cons_succ, i64_w, i32_w]
    rfl
  refine pure_ (i := 4) (N := some 7) (v := ?_) (a' := ?_) #[true, false, true, false, true, false, false, false, false, false, false, false] rfl rfl (by kernel_rfl) (fun _ _ _ h => h) (Or.inl ⟨by rfl, ?_⟩) ?_ ?_
  rotate_left
  · intro w'
    go_simp
    with_reducible rfl
  rotate_left
  · simp only [Act.put, List.setIfInBounds_toArray, List.set_cons_zero, List.set_cons_succ, i64_w, i32_w]
    rfl
  refine pure_ (i := 7) (N := some 10) (v := ?_) (a' := ?_) #[true, false, true, false, true, false, false, true, false, false, false, false] rfl rfl (by kernel_rfl) (fun _ _ _ h => h) (Or.inl ⟨by rfl, ?_⟩) ?_ ?_
  rotate_left
  · intro w'
    go_simp
    with_reducible rfl
  rotate_left
  · simp only [Act.put, List.setIfInBounds_toArray, List.set_cons_zero, List.set_cons_succ, i64_w, i32_w]
    rfl
  refine take_ (i := 1) (N := some 4) (v := ?_) (a' := ?_) #[true, true, true, false, true, false, false, true, false, false, false, false] rfl rfl (by kernel_rfl) (fun _ _ _ h => h) (Or.inl ⟨by rfl, ?_⟩) hHeld ?_ ?_
  rotate_left
  · rintro w' ⟨s0, s1, s2, s3⟩
    go_simp
    with_reducible rfl
  rotate_left
  · simp only [Act.put, List.setIfInBounds_toArray, List.set_cons_zero, List.set_cons_succ, i64_w, i32_w]
    rfl
  refine take_ (i := 3) (N := some 6) (v := ?_) (a' := ?_) #[true, true, true, true, true, false, false, true, false, false, false, false] rfl rfl (by kernel_rfl) (fun _ _ _ h => h) (Or.inl ⟨by rfl, ?_⟩) hHeld ?_ ?_
  rotate_left
  · rintro w' ⟨s0, s1, s2, s3⟩
    go_simp
    with_reducible rfl
  rotate_left
  · simp only [Act.put, List.setIfInBounds_toArray, List.set_cons_zero, List.set_cons_succ, i64_w, i32_w]
    rfl
  refine take_ (i := 5) (N := some 8) (v := ?_) (a' := ?_) #[true, true, true, true, true, true, false, true, false, false, false, false] rfl rfl (by kernel_rfl) (fun _ _ _ h => h) (Or.inl ⟨by rfl, ?_⟩) hHeld ?_ ?_
  rotate_left
  · rintro w' ⟨s0, s1, s2, s3⟩
    go_simp
    with_reducible rfl
  rotate_left
  · simp only [Act.put, List.setIfInBounds_toArray, List.set_cons_zero, List.set_cons_succ, i64_w, i32_w]
    rfl
  refine take_ (i := 8) (N := some 11) (v := ?_) (a' := ?_) #[true, true, true, true, true, true, false, true, true, false, false, false] rfl rfl (by kernel_rfl) (fun _ _ _ h => h) (Or.inl ⟨by rfl, ?_⟩) hHeld ?_ ?_
  rotate_left
  · rintro w' ⟨s0, s1, s2, s3⟩
    go_simp
    with_reducible rfl
  rotate_left
  · simp only [Act.put, List.setIfInBounds_toArray, List.set_cons_zero, List.set_cons_succ, i64_w, i32_w]
    rfl
  refine one_ (i := 6) (N := some 9) #[true, true, true, true, true, true, true, true, true, false, false, false] rfl rfl (by kernel_rfl) (by decide) (fun K hK => ?_)
  refine value_ (w1 := ?_) (v := ?_) (by rfl) rfl ?_ ?_
  rotate_left 2
  · go_simp
    constructor
    · rfl
    · rfl
  refine hK.out _ _ ⟨cell_allocN _ (cell_in HX.out 0), cell_allocN _ (cell_in HX.out 1), cell_allocN _ (cell_in HX.out 2), cell_allocN _ (cell_in HX.out 3)⟩ (fun hHeld => ?_)
  clear hK K
  refine norm_ (a' := ?_) ?_ ?_
  rotate_left
  · show Act.put _ (some 9) _ = _
    simp only [Act.put, List.setIfInBounds_toArray, List.set_cons_zero, List.set_cons_succ, i64_w, i32_w]
    rfl
  refine one_ (i := 9) (N := some 12) #[true, true, true, true, true, true, true, true, true, true, false, false] rfl rfl (by kernel_rfl) (by decide) (fun K hK => ?_)
  have hq := heap_new w1.drew (.cells #[] 90)
  have hBa := (HB.out.drew).alloc HB.out.size (.cells #[] 90)
  have hXa := (heap_old w1.drew (.cells #[] 90) _ (lt_heap HX.out)).trans HX.out
  have hYa := (heap_old w1.drew (.cells #[] 90) _ (lt_heap HY.out)).trans HY.out
  refine step_all (w0 := w) w1.heap.size (by rfl) (.tmp 9) (.tmp 11) rfl _ rfl ⟨rfl, .inr ⟨w1.heap.size, 0, #[], rfl, Nat.le_refl _, hq, Nat.le_refl _, by decide, rfl, rfl⟩⟩ (by simp [World.drew]) A c x.tb rfl HC.out hBa HL.out ?_
  intro v2 w2 hrow hgr
  have HROW := Lib.hid hrow
  have hne : ∀ z, z < w1.heap.size → some z ≠ (Value.slice (some ⟨w1.heap.size, 0, none⟩) 0 0).ownBlock := fun z hz e => by cases e; exact absurd hz (Nat.lt_irrefl _)
  have HX2 := Lib.hid ((hgr.block _ (lt_heap hXa) (hne _ (lt_heap HX.out))).trans hXa)
  have HY2 := Lib.hid ((hgr.block _ (lt_heap hYa) (hne _ (lt_heap HY.out))).trans hYa)
  have HB2 := Lib.hid (hBa.grown hgr hBa.size (fun k hk => by cases hk; exact HB.out.size))
  obtain ⟨A2, c2, rfl, hc2, hf2⟩ := hrow.reads
  have HF2 := Lib.hid hf2
  clear hf2 hrow hgr hne hq hBa hXa hYa HROW
  refine hK.out _ _ ⟨cell_in HX2.out 0, cell_in HX2.out 1, cell_in HX2.out 2, cell_in HX2.out 3⟩ (fun hHeld => ?_)
  clear hK K
  refine norm_ (a' := ?_) ?_ ?_
  rotate_left
  · show Act.put _ (some 12) _ = _
    simp only [Act.put, List.setIfInBounds_toArray, List.set_cons_zero, List.set_cons_succ, i64_w, i32_w]
    rfl
  refine pure_ (i := 10) (N := some 13) (v := ?_) (a' := ?_) #[true, true, true, true, true, true, true, true, true, true, true, false] rfl rfl (by kernel_rfl) (fun _ _ _ h => h) (Or.inl ⟨by rfl, ?_⟩) ?_ ?_
  rotate_left
  · intro w'
    go_simp
    with_reducible rfl
  rotate_left
  · simp only [Act.put, List.setIfInBounds_toArray, List.set_cons_zero, List.set_cons_succ, i64_w, i32_w]
    rfl
  refine last_ (i := 11) (N := none) #[true, true, true, true, true, true, true, true, true, true, true, true] rfl rfl (by kernel_rfl) (by decide) (fun K hK => ?_)
  have y0 := cell_in HY2.out 0
  have y1 := cell_in HY2.out 1
  have y2 := cell_in HY2.out 2
  have y3 := cell_in HY2.out 3
  have z0 := blk_frozen HY2.out 0
  have z1 := blk_frozen HY2.out 1
  have z2 := blk_frozen HY2.out 2
  have z3 := blk_frozen HY2.out 3
  refine skip_ (w1 := ?_) (by rfl) rfl ?_ ?_
  rotate_left
  · go_simp
    rfl
  refine hK.out _ _ ?_
  clear hK K
  refine done_ (by kernel_rfl) ?_
  clear hHeld x0 x1 x2 x3
  have HS := Lib.hid (heap_set4 HY2.out (.int .i64 x.op) (.int .i64 x.a) (.int .i64 x.b) (.slice A2 x.tb.length c2))
  have HB3 := Lib.hid ((((HB2.out.setCell (p := ⟨w.heap.size + 1, 0, none⟩) (by dsimp only; omega) (.int .i64 x.op)).setCell (p := ⟨w.heap.size + 1, 1, none⟩) (by dsimp only; omega) (.int .i64 x.a)).setCell (p := ⟨w.heap.size + 1, 2, none⟩) (by dsimp only; omega) (.int .i64 x.b)).setCell (p := ⟨w.heap.size + 1, 3, none⟩) (by dsimp only; omega) (.slice A2 x.tb.length c2))
  have hk4 : ∀ k, k ≠ w.heap.size + 1 → ((((w2.setCell ⟨w.heap.size + 1, 0, none⟩ (.int .i64 x.op)).setCell ⟨w.heap.size + 1, 1, none⟩ (.int .i64 x.a)).setCell ⟨w.heap.size + 1, 2, none⟩ (.int .i64 x.b)).setCell ⟨w.heap.size + 1, 3, none⟩ (.slice A2 x.tb.length c2)).heap[k]? = w2.heap[k]? := fun k hk =>
    (Below.heap_setCell _ _ _ _ hk).trans ((Below.heap_setCell _ _ _ _ hk).trans ((Below.heap_setCell _ _ _ _ hk).trans (Below.heap_setCell _ _ _ _ hk)))
  have hs4 : ((((w2.setCell ⟨w.heap.size + 1, 0, none⟩ (.int .i64 x.op)).setCell ⟨w.heap.size + 1, 1, none⟩ (.int .i64 x.a)).setCell ⟨w.heap.size + 1, 2, none⟩ (.int .i64 x.b)).setCell ⟨w.heap.size + 1, 3, none⟩ (.slice A2 x.tb.length c2)).heap.size = w2.heap.size := by simp [World.setCell]
  have HK4 := Lib.hid hk4
  have HS4 := Lib.hid hs4
  clear hk4 hs4
  go_wp2_with fail
  generalize (((w2.setCell ⟨w.heap.size + 1, 0, none⟩ (.int .i64 x.op)).setCell ⟨w.heap.size + 1, 1, none⟩ (.int .i64 x.a)).setCell ⟨w.heap.size + 1, 2, none⟩ (.int .i64 x.b)).setCell ⟨w.heap.size + 1, 3, none⟩ (.slice A2 x.tb.length c2) = W3 at HS HB3 HK4 HS4 ⊢
  have q0 := cell_in HS.out 0
  have q1 := cell_in HS.out 1
  have q2 := cell_in HS.out 2
  have q3 := cell_in HS.out 3
  refine bodyPost_ret (v := .agg #[.int .i64 x.op, .int .i64 x.a, .int .i64 x.b, .slice A2 x.tb.length c2]) (by simp [results, Tryz.results15, go_sem, q0, q1, q2, q3]) rfl ⟨A2, c2, rfl, hc2, ?_, HB3.out⟩
  have hs1 := HS1.out
  have hs4 := HS4.out
  refine (HF2.out.to (W' := W3) (fun k hk => HK4.out k (by have := hk.1.resolve_left (fun f => f); omega))).mono (fun k hk => ⟨by have := hk.1.resolve_left (fun f => f); omega, by have := hk.2; omega⟩)
end Go.Proofs.YtcmhibcoccdmaaaGreatDoor.P
