/- An instruction's line, parsed. -/
import Derived.Test.YtcmhibcoccdmaaaGreatDoorInN
import Derived.Deep.CutRange
namespace Go.Proofs.YtcmhibcoccdmaaaGreatDoor.P
open Go.RowKit Go.Shelf Go.Proofs.YtcmhibcoccdmaaaGreatDoorW.PrintWords Go.Proofs.YtcmhibcoccdmaaaGreatDoorW.PrintLast Go.Proofs.YtcmhibcoccdmaaaGreatDoor.Rw
set_option linter.unusedVariables false
set_option linter.unusedSimpArgs false
attribute [local go_sem] Oper.semAt_some
theorem spl_size (s : ByteArray) : ∀ x ∈ spl s.data.toList, x.length ≤ s.size := by
  have h : ∀ l : List UInt8, ∀ x ∈ spl l, x.length ≤ l.length := by
    intro l
    induction l with
    | nil => intro x hx; simp [spl] at hx; simp [hx]
    | cons c t ih =>
      intro x hx
      rw [spl] at hx
      split at hx
      · rcases List.mem_cons.1 hx with rfl | hx
        · simp
        · have := ih x hx; simp; omega
      · split at hx
        · simp at hx; simp [hx]
        · next h r e =>
          rw [e] at ih
          rcases List.mem_cons.1 hx with rfl | hx
          · have := ih h (by simp); simp; omega
          · have := ih x (by simp [hx]); simp; omega
  intro x hx
  rw [sizeL]
  exact h _ x hx
theorem idx_op (w0 : List UInt8) : idxL (fun f : Fm => f.word.toList == (⟨w0.toArray⟩ : ByteArray).toList) fmT = match opOf w0 with | some i => (i : Int) | none => -1 := by
  unfold idxL opOf
  have e : (fun f : Fm => f.word.toList == (⟨w0.toArray⟩ : ByteArray).toList) = fun f : Fm => f.word.data.toList == w0 := by
    funext f
    rw [ByteArray.toList_eq, ByteArray.toList_eq]
  rw [e]
  rfl
/-- What stands behind the words: old blocks lie as they lay; the forms; the instruction. -/
structure PS (W : World) (f bx : Nat) (X : Array Value) (W' : World) : Prop where
  bel : Below W.heap.size W W'
  fm : W'.heap[f]? = some (.cells formsA 101 (0, 0))
  bx : W'.heap[bx]? = some (.cells X 46 (0, 0))
theorem PS.below {W : World} {f bx : Nat} {X : Array Value} {W' W2 : World} (h : PS W f bx X W') (hb : Below W'.heap.size W' W2) : PS W f bx X W2 :=
  ⟨bel2 h.bel hb, (hb.block f (lt_heap h.fm)).trans h.fm, (hb.block bx (lt_heap h.bx)).trans h.bx⟩
theorem res_put {w W W' : World} {D : Nat} (hb : Below w.heap.size w W) (hr : W.heap[w.heap.size]? = some (.cells #[.int .i64 0, .int .i64 0, .int .i64 0, .slice none 0 0] 46 (0, 0))) (hK : W.heap[D]? = some (.deferred (some []))) (hDw : w.heap.size ≤ D) (hB : Below W.heap.size W W') (v0 v1 v2 v3 : Value) :
    ((((W'.setCell ⟨w.heap.size, 0, none⟩ v0).setCell ⟨w.heap.size, 1, none⟩ v1).setCell ⟨w.heap.size, 2, none⟩ v2).setCell ⟨w.heap.size, 3, none⟩ v3).heap[D]? = some (.deferred (some [])) ∧
    (((((W'.setCell ⟨w.heap.size, 0, none⟩ v0).setCell ⟨w.heap.size, 1, none⟩ v1).setCell ⟨w.heap.size, 2, none⟩ v2).setCell ⟨w.heap.size, 3, none⟩ v3).putObj D (.deferred none)).heap[w.heap.size]? = some (.cells #[v0, v1, v2, v3] 46 (0, 0)) ∧
    Below w.heap.size w (((((W'.setCell ⟨w.heap.size, 0, none⟩ v0).setCell ⟨w.heap.size, 1, none⟩ v1).setCell ⟨w.heap.size, 2, none⟩ v2).setCell ⟨w.heap.size, 3, none⟩ v3).putObj D (.deferred none)) ∧
    ∀ k, W.heap.size ≤ k → (((((W'.setCell ⟨w.heap.size, 0, none⟩ v0).setCell ⟨w.heap.size, 1, none⟩ v1).setCell ⟨w.heap.size, 2, none⟩ v2).setCell ⟨w.heap.size, 3, none⟩ v3).putObj D (.deferred none)).heap[k]? = W'.heap[k]? := by
  have hD := lt_heap hK
  have hh := lt_heap hr
  have hne : ¬ w.heap.size = D := fun e => by subst e; rw [hr] at hK; cases hK
  have hs : ∀ k, k ≠ w.heap.size → ((((W'.setCell ⟨w.heap.size, 0, none⟩ v0).setCell ⟨w.heap.size, 1, none⟩ v1).setCell ⟨w.heap.size, 2, none⟩ v2).setCell ⟨w.heap.size, 3, none⟩ v3).heap[k]? = W'.heap[k]? := fun k hk =>
    (Below.heap_setCell _ _ _ _ hk).trans ((Below.heap_setCell _ _ _ _ hk).trans ((Below.heap_setCell _ _ _ _ hk).trans (Below.heap_setCell _ _ _ _ hk)))
  have hB2 : Below w.heap.size w W' := hb.trans (hB.mono hb.size)
  refine ⟨(hs D (by omega)).trans ((hB.block D hD).trans hK), (World.putObj_heap_other (by omega)).trans (heap_set4 ((hB.block _ hh).trans hr) v0 v1 v2 v3), ?_, fun k hk => (World.putObj_heap_other (by omega)).trans (hs k (by omega))⟩
  exact below_putObj ((((hB2.setCell (p := ⟨w.heap.size, 0, none⟩) (Nat.le_refl _) _).setCell (p := ⟨w.heap.size, 1, none⟩) (Nat.le_refl _) _).setCell (p := ⟨w.heap.size, 2, none⟩) (Nat.le_refl _) _).setCell (p := ⟨w.heap.size, 3, none⟩) (Nat.le_refl _) _) hDw
theorem FC_nilP (w : World) (S : Nat → Prop) : FC kP w S none ([] : List (Int × Int)).length [] := FC.nil w S none
def ParseR (l : List UInt8) (w : World) (e : Ending) (w' : World) : Prop :=
  ∃ (op a b : Int) (tb : List (Int × Int)) (A : Option Addr) (c : Nat), e = .returned (.tuple #[.agg #[.int .i64 op, .int .i64 a, .int .i64 b, .slice A tb.length c], .bool (parseI l).isSome]) ∧ (∀ x, parseI l = some x → x = ⟨op, a, b, tb⟩) ∧ tb.length ≤ c ∧ FC kP w' (fun k => w.heap.size ≤ k ∧ k < w'.heap.size) A tb.length tb ∧ Below w.heap.size w w'
theorem ParseR.zero {l : List UInt8} {w W : World} (h : parseI l = none) (hb : Below w.heap.size w W) : ParseR l w (.returned (.tuple #[.agg #[.int .i64 0, .int .i64 0, .int .i64 0, .slice none 0 0], .bool false])) W :=
  ⟨0, 0, 0, [], none, 0, by rw [h]; rfl, (fun x hx => by rw [h] at hx; cases hx), Nat.le_refl _, FC_nilP _ _, hb⟩
theorem ParseR.good {l : List UInt8} {w wr W WF : World} {x : Ins} {A : Option Addr} {c : Nat} (hpar : parseI l = if RightI x = true then some x else none) (hc : x.tb.length ≤ c) (hFC : FC kP wr (fun k => (False ∨ W.heap.size ≤ k) ∧ k < wr.heap.size) A x.tb.length x.tb)
    (hk : ∀ k, W.heap.size ≤ k → k < wr.heap.size → WF.heap[k]? = wr.heap[k]?) (hs : w.heap.size ≤ W.heap.size) (hb : Below w.heap.size w WF) :
    ParseR l w (.returned (.tuple #[.agg #[.int .i64 x.op, .int .i64 x.a, .int .i64 x.b, .slice A x.tb.length c], .bool (RightI x)])) WF := by
  refine ⟨x.op, x.a, x.b, x.tb, A, c, ?_, fun y hy => ?_, hc, ?_, hb⟩
  · rw [hpar]
    by_cases h : RightI x = true
    · rw [if_pos h, h]; rfl
    · rw [if_neg h, Bool.eq_false_iff.2 h]; rfl
  · rw [hpar] at hy
    split at hy
    · cases hy; rfl
    · cases hy
  · refine (hFC.to (W' := WF) (fun k hh => hk k (hh.1.resolve_left (fun f => f)) hh.2)).mono (fun k hh => ⟨Nat.le_trans hs (hh.1.resolve_left (fun f => f)), ?_⟩)
    have h1 := hk k (hh.1.resolve_left (fun f => f)) hh.2
    rw [Array.getElem?_eq_getElem hh.2] at h1
    exact lt_heap h1
/-- A statement that does not panic: what stands behind a panic matters not. -/
theorem wp_calm {c : Code} {K : Act → World → Prop} {Q0 : Exit → Act → World → Prop} {a : Act} {w : World} (h : c.wp Tryz.prog (Exit.then K (fun _ _ _ => False)) a w) : c.wp Tryz.prog (Exit.then K Q0) a w := by
  refine wp_mono h ?_
  intro e a' w' hq
  cases e with
  | normal => exact hq
  | ret => exact hq.elim
  | exit n => exact hq.elim
  | goto l => exact hq.elim
  | panic ch => exact hq.elim
  | outgrown => exact hq.elim
theorem cells_two (w : World) (a b : Value) (t : TypeId) : ∀ j u, [a, b][j]? = some u → (w.alloc (.cells #[a, b] t)).cell? ((⟨w.heap.size, 0, none⟩ : Addr).add j) = some u := by
  intro j u hj
  have ha : (⟨w.heap.size, 0, none⟩ : Addr).add j = ⟨w.heap.size, j, none⟩ := by unfold Addr.add; split <;> simp_all
  rw [ha]
  have h := cell_in (heap_new w (.cells #[a, b] t)) j
  rw [h]
  match j, hj with
  | 0, hj => exact hj
  | 1, hj => exact hj
theorem one_two (p q : Int) : ∀ u ∈ [Value.int .i64 p, Value.int .i64 q], u.oneCell' = true := by
  intro u hu
  simp at hu
  rcases hu with rfl | rfl <;> rfl
theorem info90 : (Tryz.prog.info? 90).map (fun i => (i.zero, i.size, i.bytes)) = some (some (.agg #[.int .i64 0, .int .i64 0]), 2, 16) := by kernel_rfl
set_option maxHeartbeats 8000000 in
set_option maxRecDepth 100000 in
theorem parse_calls (s : ByteArray) (hs : s.size ≤ 1000000) (w : World) (hT : GT w) : Calls Tryz.prog 23 #[.string s] w (ParseR s.data.toList w) := by
  refine (callsIn_wide (n := 5)).1 ?_
  refine callsIn_of_wp_marks Tryz.func23 rfl trivial ?_ rfl
  simp only [Tryz.ntmps23, List.size_toArray, List.length_cons, List.length_nil, Nat.reduceAdd, Nat.reduceSub, Array.replicate_succ, Array.replicate_zero, List.push_toArray, List.append_toArray, List.nil_append, List.cons_append]
  have HT := Lib.hid hT
  clear hT
  gi_wp2
  refine ⟨trivial, (callsIn_wide.2 (split_calls s _)).mono ?_⟩
  rintro e w1 ⟨rfl, hg, hp, hv, hb1, hsz⟩
  gi_wp2
  have hA := (((Below.refl _ w).alloc (Nat.le_refl _) (.cells #[.int .i64 0, .int .i64 0, .int .i64 0, .slice none 0 0] 46)).alloc (by simp) (.cells #[] 9)).alloc (by simp; omega) (.cells #[.slice (some ⟨w.heap.size + 1, 0, none⟩) 0 0] 83)
  have hz : (((w.alloc (.cells #[.int .i64 0, .int .i64 0, .int .i64 0, .slice none 0 0] 46)).alloc (.cells #[] 9)).alloc (.cells #[.slice (some ⟨w.heap.size + 1, 0, none⟩) 0 0] 83)).heap.size = w.heap.size + 3 := by simp
  have a0 : (((w.alloc (.cells #[.int .i64 0, .int .i64 0, .int .i64 0, .slice none 0 0] 46)).alloc (.cells #[] 9)).alloc (.cells #[.slice (some ⟨w.heap.size + 1, 0, none⟩) 0 0] 83)).heap[w.heap.size]? = some (.cells #[.int .i64 0, .int .i64 0, .int .i64 0, .slice none 0 0] 46 (0, 0)) :=
    (heap_old _ _ _ (by simp; omega)).trans ((heap_old _ _ _ (by simp)).trans (heap_new w _))
  have a1 : (((w.alloc (.cells #[.int .i64 0, .int .i64 0, .int .i64 0, .slice none 0 0] 46)).alloc (.cells #[] 9)).alloc (.cells #[.slice (some ⟨w.heap.size + 1, 0, none⟩) 0 0] 83)).heap[w.heap.size + 1]? = some (.cells #[] 9 (0, 0)) := by
    have := heap_new (w.alloc (.cells #[.int .i64 0, .int .i64 0, .int .i64 0, .slice none 0 0] 46)) (.cells #[] 9)
    rw [World.size_alloc] at this
    exact (heap_old _ _ _ (by simp)).trans this
  have a2 : (((w.alloc (.cells #[.int .i64 0, .int .i64 0, .int .i64 0, .slice none 0 0] 46)).alloc (.cells #[] 9)).alloc (.cells #[.slice (some ⟨w.heap.size + 1, 0, none⟩) 0 0] 83)).heap[w.heap.size + 2]? = some (.cells #[.slice (some ⟨w.heap.size + 1, 0, none⟩) 0 0] 83 (0, 0)) := by
    have := heap_new ((w.alloc (.cells #[.int .i64 0, .int .i64 0, .int .i64 0, .slice none 0 0] 46)).alloc (.cells #[] 9)) (.cells #[.slice (some ⟨w.heap.size + 1, 0, none⟩) 0 0] 83)
    rw [World.size_alloc, World.size_alloc] at this
    exact this
  have t0 := (hb1.block w.heap.size (by omega)).trans a0
  have t1 := (hb1.block (w.heap.size + 1) (by omega)).trans a1
  have t2 := (hb1.block (w.heap.size + 2) (by omega)).trans a2
  have hbw : Below w.heap.size w w1 := hA.trans (hb1.mono (by omega))
  rw [hz] at hg hp hv hsz
  clear hb1 a0 a1 a2 hA hz
  have h0 : WS w [] w1 := ⟨hbw, t0, _, t2, ⟨rfl, .inr ⟨w.heap.size + 1, 0, #[], rfl, by omega, t1, by simp, by decide, rfl, rfl⟩⟩, fun k hk => .inl (by cases hk; rfl)⟩
  clear t0 t1 t2
  obtain ⟨mx, hm⟩ := (HT.out.below hbw).mx
  have hlw : 0 < w.heap.size := by
    obtain ⟨m0, hm0⟩ := HT.out.mx
    exact cell_lt hm0
  have hsz6 : w1.heap.size = w.heap.size + 6 := by omega
  refine seq_loop 3 89 (w.heap.size + 3) _ (fun k => k = w.heap.size + 1 ∨ k = w.heap.size + 2) ((spl s.data.toList).map lnV) rfl (enters_of Tryz.func89 (by kernel_rfl) rfl) (by omega)
    (split_iter 3 (w.heap.size + 3) (w.heap.size + 3 + 1) (w.heap.size + 3 + 2) _ s w1 hg hp hv mx hm (by omega) (by omega) (by omega) (by omega) (by omega) (by omega) (by omega) (by omega)) rfl
    (WS w) (fun _ _ _ => False) (fun pre A A' h hk => h.kp hk) (fun pre A l ob o' h hl ho hc => h.put (by omega) ho hc) (fun _ _ _ _ _ _ h _ _ _ => h.elim) h0 ?round ?done (fun _ _ _ _ _ _ _ _ h _ => h.elim)
  case round =>
    rintro l pre x rest W hI hTe hsW hlB0 hlW ⟨o', ho', hoc⟩
    have hlB : w1.heap.size ≤ l := by omega
    clear hlB0
    dsimp only [Array.zip_eq_zipWith]
    gi_wp2
    refine ⟨⟨Nat.le_refl _, fun _ _ h _ => h⟩, ⟨Nat.le_refl _, fun _ _ _ => rfl⟩, ?_⟩
    rintro W2 ob rfl
    have hx : ∃ t, x = .string t := by
      have hm : x ∈ (spl s.data.toList).map lnV := by rw [hTe]; simp
      obtain ⟨t, _, rfl⟩ := List.mem_map.1 hm
      exact ⟨_, rfl⟩
    obtain ⟨t, rfl⟩ := hx
    have hpl : pre.length ≤ 1000001 := by
      have h1 := congrArg List.length hTe
      simp only [List.length_map, List.length_append, List.length_cons] at h1
      have h2 := spl_len s.data.toList
      rw [← sizeL] at h2
      omega
    have HI2 := hI.put (ob := ob) (by omega) ho' hoc
    have hsW2 : w1.heap.size ≤ (W.putObj l ob).heap.size := by unfold World.putObj; simp; omega
    clear hI ho' hoc
    generalize W.putObj l ob = W2 at HI2 hsW2 ⊢
    obtain ⟨hbel, hres, v, hv2, hown, hblk⟩ := HI2
    obtain ⟨A, cap, rfl⟩ := own_shape hown
    have cb := cell_in hv2 0
    have fb := blk_frozen hv2 0
    have hboxlt := lt_heap hv2
    have Hbel := Lib.hid hbel; have Hres := Lib.hid hres; have Hv := Lib.hid hv2; have Hown := Lib.hid hown; have Hblk := Lib.hid hblk
    clear hbel hres hv2 hown hblk
    obtain ⟨i0, hi0, hz0, hz1, hz2⟩ := info_parts info9
    gi_wp2_with (gi_at_builtin; go_loud (refine wpListIn_append_own_at _ rfl _ _ 83 rfl (w.heap.size + 1) 9 i0 _ 1 16 Tryz.underlying83 hi0 hz0 hz1 hz2 rfl (by decide) (.slice A pre.length cap) pre.length pre rfl (Hown.out.alloc _) ⟨W2.heap.size, 0, none⟩ 1 1 [.string t] rfl rfl ?c1 ?c2 ?c3 ?c4 ?c5 ?_))
    case c1 =>
      intro j u hj
      match j, hj with
      | 0, hj => simp at hj; subst hj; simp [Addr.add, go_sem]
    case c2 => intro u hu; simp at hu; subst hu; rfl
    case c3 => unfold maxLen; omega
    case c4 => omega
    case c5 => simp; omega
    intro v' w3 hown' hgrow _ hloc
    obtain ⟨g', cap', rfl⟩ := ownsRow_succ hown'
    have hs3 := hgrow.size
    rw [World.size_alloc] at hs3
    have hnew : ∀ k, (Value.slice (some ⟨g', 0, none⟩) (pre.length + 1) cap').ownBlock = some k → k = w.heap.size + 1 ∨ w.heap.size + 6 ≤ k := fun k hk => by
      rcases hloc with h | h
      · exact Hblk.out k (h.symm.trans hk)
      · rw [h] at hk; simp at hk; exact .inr (by omega)
    have hrow : ∀ k, (Value.slice A pre.length cap).ownBlock = some k → k = w.heap.size + 1 ∨ w.heap.size + 6 ≤ k := Hblk.out
    have hrlt := Hown.out.lt
    have hkeep : ∀ z o, W2.heap[z]? = some o → ¬ (z = w.heap.size + 1 ∨ w.heap.size + 6 ≤ z) → w3.heap[z]? = some o := fun z o hz hne =>
      (hgrow.block z (by rw [World.size_alloc]; have := lt_heap hz; omega) (fun e => hne (hrow z e.symm))).trans ((heap_old W2 _ z (lt_heap hz)).trans hz)
    have hres3 := hkeep _ _ Hres.out (by omega)
    have hv3 := hkeep _ _ Hv.out (by omega)
    have fb3 := blk_frozen hv3 0
    have cb3 := cell_in hv3 0
    have hko : KeepsOthers W2 w3 := (KeepsOthers.alloc W2 _).trans (KeepsOthers.of_grownBy hgrow (fun j o e ho => by
      obtain ⟨cells, hcl⟩ := own_typed Hown.out j e
      rw [heap_old W2 _ j (lt_heap hcl)] at ho
      rw [hcl] at ho
      cases Option.some.inj ho; rfl))
    have hbl : Below w.heap.size w w3 := (Hbel.out.alloc (by omega) _).grown hgrow (by rw [World.size_alloc]; omega) (fun k hk => by have := hrow k hk; omega)
    have hkg : ∀ k, k < w.heap.size + 6 → ¬ (k = w.heap.size + 1 ∨ k = w.heap.size + 2) → w3.heap[k]? = W2.heap[k]? := fun k hk hne =>
      (hgrow.block k (by rw [World.size_alloc]; omega) (fun e => by have := hrow k e.symm; omega)).trans (heap_old W2 _ k (by omega))
    have HN := Lib.hid hnew; have HKO := Lib.hid hko; have HBL := Lib.hid hbl; have HKG := Lib.hid hkg; have HR3 := Lib.hid hres3; have HV3 := Lib.hid hv3; have HO3 := Lib.hid hown'
    clear hnew hko hbl hkg hres3 hv3 hown' hkeep hgrow hloc hrow hrlt cb fb
    gi_wp2
    have hl3 := HO3.out.lt
    refine ⟨HKO.out.trans (KeepsOthers.setCell _ _ _), ⟨by simp [World.setCell]; omega, fun k hk hS => (Below.heap_setCell _ _ _ _ (by dsimp only; omega)).trans (HKG.out k (by omega) hS)⟩, HBL.out.setCell (p := ⟨w.heap.size + 2, 0, none⟩) (by dsimp only; omega) _, (Below.heap_setCell _ _ _ _ (by dsimp only; omega)).trans HR3.out, .slice (some ⟨g', 0, none⟩) (pre.length + 1) cap', heap_set HV3.out 0 _, ?_, HN.out⟩
    have hmv := own_move HO3.out (w1 := w3.setCell ⟨w.heap.size + 2, 0, none⟩ (.slice (some ⟨g', 0, none⟩) (pre.length + 1) cap')) (fun k hk => Below.heap_setCell _ _ _ _ (by
      have := HN.out k hk
      simp; omega))
    simpa using hmv
  case done =>
    rintro D W hD0 hI hK
    have hD : w1.heap.size ≤ D := by omega
    clear hD0
    rename_i aK
    show _
    refine aK _ _ ?_
    refine wpIn_wide.2 ?_
    clear aK hg hp hv h0 hm hsz
    obtain ⟨hbel, hres, v, hv2, hown, hblk⟩ := hI
    obtain ⟨w0, r, hwr⟩ := List.exists_cons_of_ne_nil (spl_ne s.data.toList)
    have hmem : ∀ x ∈ spl s.data.toList, x.length ≤ s.size := spl_size s
    rw [hwr] at hown hmem
    obtain ⟨g, cap, rfl, hgl, hncap, hcells⟩ := own_some hown (by simp)
    have hc0 : W.cell? ⟨g, 0, none⟩ = some (.string ⟨w0.toArray⟩) := hcells 0 _ rfl
    have hcr : ∀ j t, r[j]? = some t → W.cell? ⟨g, j + 1, none⟩ = some (lnV t) := fun j t hj => hcells (j + 1) _ (by simp [hj])
    have hr6 : r.length ≤ 1000000 := by
      have h1 := spl_len s.data.toList
      rw [hwr, ← sizeL] at h1
      simp at h1
      omega
    simp only [List.length_map, List.length_cons] at hv2 hncap
    have HBEL := Lib.hid hbel; have HRES := Lib.hid hres; have HK := Lib.hid hK; have HV := Lib.hid hv2; have HCR := Lib.hid hcr; have HC0 := Lib.hid hc0; have HWR := Lib.hid hwr; have HMEM := Lib.hid hmem; have HNC := Lib.hid hncap; have HR6 := Lib.hid hr6
    have hlW := hbel.size
    have hDl := lt_heap hK
    have hrl := lt_heap hres
    have hvl := lt_heap hv2
    clear hbel hres hK hv2 hcr hc0 hwr hmem hncap hr6 hown hblk hcells
    go_wp2_with fail
    refine (forms_calls _).mono ?_
    rintro e w2 ⟨rfl, hb2⟩
    obtain ⟨hz, hs0⟩ := zero_of_info infoA
    clear hs0
    go_wp2_with (first | (refine wpList_store_row rfl _ _ _ rfl w2.heap.size formsA rfl rfl 101 zeroA (heap_alloc_last _ _) sizeA (by kernel_rfl) oneA ?_; rw [World.setRow_alloc_new]))
    have hlt2 := hb2.size
    have hF3 := heap_new w2 (.cells formsA 101)
    have hB3 : Below W.heap.size W (w2.alloc (.cells formsA 101)) := hb2.alloc hb2.size _
    clear hb2
    have hff : W.heap.size ≤ w2.heap.size := hlt2
    generalize w2.alloc (.cells formsA 101) = W3 at hF3 hB3 ⊢
    generalize w2.heap.size = f at hF3 hff ⊢
    clear hlt2
    have hv3 := cell_in ((hB3.block (w.heap.size + 2) (by omega)).trans HV.out) 0
    have hc3 := (World.cell?_of_block (a := ⟨g, 0, none⟩) (hB3.block g hgl)).trans HC0.out
    have hsz3 := hB3.size
    refine (indexFm 54 _ (fun x => x.word.toList == (⟨w0.toArray⟩ : ByteArray).toList) (enters_of Tryz.func54 (by kernel_rfl) rfl) (some ⟨f, 0, none⟩) 17 fmT W3
      (predW W3 (w.heap.size + 2) g (r.length + 1) cap ⟨w0.toArray⟩ hv3 (by omega) hc3 (by omega) (by omega)) (forms_C hF3)).mono ?_
    rintro e w4 ⟨rfl, hb4⟩
    rw [idx_op]
    have hF4 := (hb4.block f (lt_heap hF3)).trans hF3
    have hB4 := bel2 hB3 hb4
    clear hv3 hc3 hF3 hB3 hb4 hsz3
    go_upto_region 7 with (fail)
    have hsz4 := hB4.size
    have hbw4 : W.heap.size ≤ w4.heap.size := hsz4
    generalize hidx : (match opOf w0 with | some i => (i : Int) | none => -1) = idx
    have HIDX := Lib.hid hidx
    clear hidx
    have HP := Lib.hid (show PS W f w4.heap.size #[.int .i64 idx, .int .i64 0, .int .i64 0, .slice none 0 0] (w4.alloc (.cells #[.int .i64 idx, .int .i64 0, .int .i64 0, .slice none 0 0] 46)) from
      ⟨hB4.alloc hsz4 _, (heap_old _ _ _ (lt_heap hF4)).trans hF4, heap_new _ _⟩)
    clear hF4 hB4
    generalize w4.alloc (.cells #[.int .i64 idx, .int .i64 0, .int .i64 0, .slice none 0 0] 46) = w5 at HP ⊢
    generalize w4.heap.size = bx at HP hbw4 ⊢
    clear hsz4 hz
    have x0 := cell_in HP.out.bx 0
    have hDw : w.heap.size ≤ D := by omega
    have hret := fun (W' : World) (hB : Below W.heap.size W W') v0 v1 v2 v3 => res_put HBEL.out HRES.out HK.out hDw hB v0 v1 v2 v3
    have HRET := Lib.hid hret
    clear hret
    by_cases hneg : idx < 0
    · have hno : parseI s.data.toList = none := by
        unfold parseI
        rw [HWR.out]
        simp only
        unfold lineI
        cases ho : opOf w0 with
        | none => rfl
        | some i =>
          have h := HIDX.out
          rw [ho] at h
          simp only at h
          omega
      have HNO := Lib.hid hno
      clear hno
      have r0 := (HP.out.bel.block w.heap.size hrl).trans HRES.out
      have y0 := cell_in r0 0
      have y1 := cell_in r0 1
      have y2 := cell_in r0 2
      have y3 := cell_in r0 3
      have f0 := blk_frozen r0 0
      have f1 := blk_frozen r0 1
      have f2 := blk_frozen r0 2
      have f3 := blk_frozen r0 3
      clear r0
      go_wp2_with fail
      obtain ⟨k1, k2, k3, _⟩ := HRET.out _ HP.out.bel (.int .i64 0) (.int .i64 0) (.int .i64 0) (.slice none 0 0)
      refine ⟨by simp, .inl ⟨_, _, rfl, run_takeDeferred k1, ?_⟩⟩
      generalize World.putObj _ D (.deferred none) = WF at k2 k3 ⊢
      have q0 := cell_in k2 0
      have q1 := cell_in k2 1
      have q2 := cell_in k2 2
      have q3 := cell_in k2 3
      exact ⟨.tuple #[.agg #[.int .i64 0, .int .i64 0, .int .i64 0, .slice none 0 0], .bool false], by simp [results, Tryz.f23, go_sem, q0, q1, q2, q3], ParseR.zero HNO.out k3⟩
    · have hex : ∃ op : Nat, idx = (op : Int) ∧ opOf w0 = some op := by
        cases ho : opOf w0 with
        | none =>
          have h := HIDX.out
          rw [ho] at h
          simp only at h
          omega
        | some i =>
          have h := HIDX.out
          rw [ho] at h
          exact ⟨i, h.symm, rfl⟩
      obtain ⟨op, rfl, hop⟩ := hex
      obtain ⟨h17, hword⟩ := opOf_some hop
      have hpar : parseI s.data.toList = match bodyI op r with
        | none => none
        | some x => if RightI x = true then some x else none := by
        unfold parseI
        rw [HWR.out]
        simp only
        unfold lineI
        rw [hop]
        rfl
      have hn := nums_fin ⟨op, h17⟩
      simp only at hn
      have hfm := (forms_at ⟨op, h17⟩).2.1
      simp only at hfm
      have z1 := (cell_in HP.out.fm (op * 8 + 1)).trans hfm
      have hv5 := cell_in ((HP.out.bel.block (w.heap.size + 2) (by omega)).trans HV.out) 0
      have HPAR := Lib.hid hpar
      clear hpar hfm hop hword HIDX
      generalize hN : (fmAt op).nums = N at hn z1
      have HN := Lib.hid hN
      clear hN
      have h17z : (op : Int) < 17 := by omega
      go_upto_region 10 with (fail)
      have hnc := HNC.out
      have hr6 := HR6.out
      have e1 : (1 : Int) ≤ (r.length : Int) + 1 := by omega
      have e2 : (r.length : Int) + 1 ≤ (cap : Int) := by omega
      have e3 : (0 : Int) ≤ 1 := by decide
      by_cases hN1 : N = -1
      · subst hN1
        clear hn
        go_upto_region 12 with (fail)
        go_cut [47, 48, 49, 50] from 12 to 90 (fun s47 s48 s49 s50 wx => ∃ (o c2 : Nat), (r.length = 0 ∨ o = 1) ∧ s48 = .slice (some ⟨g, o, none⟩) r.length c2 ∧ s49 = .int .i64 (r.length : Int) ∧ s50 = .int .i64 0 ∧ wx = w5)
        case first =>
          go_wp2_with fail
          all_goals go_meet
          all_goals exact ⟨_, _, by omega, rfl, rfl, rfl, rfl⟩
        case rest =>
        obtain ⟨o, c2, ho1, rfl, rfl, rfl, rfl⟩ := hcut
        go_wp2_with fail
        clear z1 x0 hv5 hnc e1 e2 e3
        go_loopg [50] (r.length + 1) (fun gg s50 wr => ∃ (kk : Nat) (tb : List (Int × Int)) (v : Value), kk ≤ r.length ∧ r.length - kk < gg ∧ s50 = .int .i64 kk ∧ tb.length ≤ 1000000 ∧ Hid (PS W f bx #[.int .i64 op, .int .i64 0, .int .i64 0, v] wr) ∧ Hid (Row kP 90 W.heap.size (fun _ => False) wr v tb) ∧ Hid (allO pairP (r.take kk) = some tb))
        case atStart => exact ⟨0, [], .slice none 0 0, Nat.zero_le _, by omega, rfl, by simp, HP, Lib.hid (Row.nil _), Lib.hid rfl⟩
        case round =>
          obtain ⟨kk, tb, v, hkk, hgg, rfl, htb, HP1, HROW, HALL⟩ := hrel
          clear HP
          obtain ⟨A, c, rfl, htc, hFC⟩ := HROW.out.reads
          have hFC' := Lib.hid hFC
          clear hFC
          rcases gk with _ | gf
          · omega
          by_cases hlt : kk < r.length
          · have hltz : (kk : Int) < (r.length : Int) := by omega
            have hkz : (0 : Int) ≤ (kk : Int) := by omega
            have hg1 : wr.cell? ⟨g, 1 + kk, none⟩ = some (.string ⟨(r[kk]).toArray⟩) := by rw [Nat.add_comm]; exact (World.cell?_of_block (a := ⟨g, kk + 1, none⟩) (HP1.out.bel.block g hgl)).trans (HCR.out kk _ (List.getElem?_eq_getElem hlt))
            obtain rfl : o = 1 := by omega
            have htk : (r.take kk) ++ r[kk] :: r.drop (kk + 1) = r := by rw [← List.drop_eq_getElem_cons hlt, List.take_append_drop]
            have htk2 : r.take (kk + 1) = r.take kk ++ [r[kk]] := List.take_succ_eq_append_getElem hlt
            have htl : (r[kk]).length ≤ s.size := HMEM.out _ (List.mem_cons_of_mem _ (List.getElem_mem hlt))
            generalize r[kk] = t at hg1 htk htk2 htl
            have HTK := Lib.hid htk
            have HTK2 := Lib.hid htk2
            clear htk htk2
            go_wp2_with fail
            have hbw : Below w.heap.size w wr := HBEL.out.trans (HP1.out.bel.mono HBEL.out.size)
            refine (pair_calls ⟨t.toArray⟩ (by rw [bsize]; omega) _ (HT.out.below hbw)).mono ?_
            rintro e w6 ⟨p, q, rfl, hpq, hb6⟩
            have hdt : (⟨t.toArray⟩ : ByteArray).data.toList = t := rfl
            rw [hdt] at hpq ⊢
            have HP6 := Lib.hid (HP1.out.below hb6)
            have HROW6 := Lib.hid (HROW.out.below hb6)
            clear HP1 HROW hFC' hb6 hg1 hbw
            cases hpp : pairP t with
            | none =>
              have HPP := Lib.hid hpp
              clear hpq hpp
              go_upto_region 18 with (fail)
              have hno : parseI s.data.toList = none := by
                rw [HPAR.out]
                have hb : bodyI op r = none := by
                  unfold bodyI
                  rw [HN.out, if_pos (by decide), ← HTK.out, allO_bad pairP _ t _ HPP.out]
                  rfl
                rw [hb]
              have HNO := Lib.hid hno
              have HP7 := Lib.hid (HP6.out.below ((Below.refl _ w6).alloc (Nat.le_refl _) (.cells #[.int .i64 p, .int .i64 q] 90)))
              clear hno HP6 HROW6
              generalize w6.alloc (.cells #[.int .i64 p, .int .i64 q] 90) = w7 at HP7 ⊢
              have r0 := (HP7.out.bel.block w.heap.size hrl).trans HRES.out
              have y0 := cell_in r0 0
              have y1 := cell_in r0 1
              have y2 := cell_in r0 2
              have y3 := cell_in r0 3
              have f0 := blk_frozen r0 0
              have f1 := blk_frozen r0 1
              have f2 := blk_frozen r0 2
              have f3 := blk_frozen r0 3
              clear r0
              go_wp2_with fail
              obtain ⟨k1, k2, k3, _⟩ := HRET.out _ HP7.out.bel (.int .i64 0) (.int .i64 0) (.int .i64 0) (.slice none 0 0)
              refine ⟨by simp, .inl ⟨_, _, rfl, run_takeDeferred k1, ?_⟩⟩
              generalize World.putObj _ D (.deferred none) = WF at k2 k3 ⊢
              have q0 := cell_in k2 0
              have q1 := cell_in k2 1
              have q2 := cell_in k2 2
              have q3 := cell_in k2 3
              exact ⟨.tuple #[.agg #[.int .i64 0, .int .i64 0, .int .i64 0, .slice none 0 0], .bool false], by simp [results, Tryz.f23, go_sem, q0, q1, q2, q3], ParseR.zero HNO.out k3⟩
            | some pq =>
              obtain rfl := hpq _ hpp
              have HPP := Lib.hid hpp
              clear hpq hpp
              go_upto_region 19 with (fail)
              have HP7 := Lib.hid (HP6.out.below ((Below.refl _ w6).alloc (Nat.le_refl _) (.cells #[.int .i64 p, .int .i64 q] 90)))
              have HROW7 := Lib.hid (HROW6.out.alloc (.cells #[.int .i64 p, .int .i64 q] 90))
              have hy := heap_new w6 (.cells #[.int .i64 p, .int .i64 q] 90)
              clear HP6 HROW6
              generalize w6.alloc (.cells #[.int .i64 p, .int .i64 q] 90) = w7 at HP7 HROW7 hy ⊢
              generalize w6.heap.size = y at hy ⊢
              have y0 := cell_in hy 0
              have y1 := cell_in hy 1
              have x3 := cell_in HP7.out.bx 3
              clear hy
              have HROW8 := HROW7.out.alloc (.cells #[.int .i64 p, .int .i64 q] 90)
              obtain ⟨cells, hown, hreps⟩ := HROW8
              have HOWN := Lib.hid hown
              have HREPS := Lib.hid hreps
              clear hown hreps
              obtain ⟨i0, hi0, hz0, hz1, hz2⟩ := info_parts info90
              have hlb := HP7.out.bel.size
              go_wp2_with (at_builtin; refine wpList_append_own_at _ rfl _ _ 43 rfl W.heap.size 90 i0 _ 2 16 Tryz.underlying43 hi0 hz0 hz1 hz2 rfl (by decide) (.slice A tb.length c) tb.length cells rfl HOWN.out ⟨w7.heap.size, 0, none⟩ 1 1 [.int .i64 p, .int .i64 q] rfl rfl (cells_two w7 _ _ _) (one_two p q) (by unfold maxLen; omega) (by omega) (by rw [World.size_alloc]; omega) ?_)
              intro v' w8 hown' hgrow _ hloc
              obtain ⟨g', cap', rfl⟩ := ownsRow_succ hown'
              have HPa := HP7.out.below ((Below.refl _ w7).alloc (Nat.le_refl _) (.cells #[.int .i64 p, .int .i64 q] 90))
              have hrow : Row kP 90 W.heap.size (fun _ => False) w8 (.slice (some ⟨g', 0, none⟩) (tb.length + 1) cap') (tb ++ [(p, q)]) :=
                Row.append (HROW7.out.alloc _) HOWN.out HREPS.out (fun W' _ => ⟨[.int .i64 p], [.int .i64 q], rfl, rfl, rfl⟩) rfl hown' hgrow (by
                  rcases hloc with h | h
                  · exact .inl (h.symm.trans rfl)
                  · exact .inr (by rw [World.size_alloc]; exact Nat.le_of_eq (Option.some.inj h).symm))
              have HP8 : PS W f bx #[.int .i64 op, .int .i64 0, .int .i64 0, .slice A tb.length c] w8 :=
                ⟨HPa.bel.grown hgrow HPa.bel.size (fun k hk => (HOWN.out.lt k hk).1), (hgrow.block f (lt_heap HPa.fm) (own_ne HOWN.out HPa.fm (by decide))).trans HPa.fm, (hgrow.block bx (lt_heap HPa.bx) (own_ne HOWN.out HPa.bx (by decide))).trans HPa.bx⟩
              have hbne : ¬ f = bx := fun e => by
                have h1 := HP8.fm
                rw [e, HP8.bx] at h1
                cases h1
              have HP9 := Lib.hid (show PS W f bx #[.int .i64 op, .int .i64 0, .int .i64 0, .slice (some ⟨g', 0, none⟩) (tb.length + 1) cap'] (w8.setCell ⟨bx, 3, none⟩ (.slice (some ⟨g', 0, none⟩) (tb.length + 1) cap')) from
                ⟨HP8.bel.setCell (p := ⟨bx, 3, none⟩) (by dsimp only; omega) _, (Below.heap_setCell _ _ _ _ hbne).trans HP8.fm, heap_set HP8.bx 3 _⟩)
              have HR9 := hrow.set ⟨bx, 3, none⟩ (.slice (some ⟨g', 0, none⟩) (tb.length + 1) cap') (fun e => own_ne hown' HP8.bx (by decide) e.symm) (fun h => h)
              have HLEN : (tb ++ [(p, q)]).length = tb.length + 1 := by simp
              rw [← HLEN] at HR9
              have HR9' := Lib.hid HR9
              have hall := allO_snoc pairP _ _ _ _ HALL.out HPP.out
              rw [← HTK2.out] at hall
              have HA9 := Lib.hid hall
              have htb9 : (tb ++ [(p, q)]).length ≤ 1000000 := by
                have h1 := allO_len pairP _ _ hall
                rw [h1, List.length_take]
                omega
              have z3 := cell_in HP8.bx 3
              have f3 := blk_frozen HP8.bx 3
              clear HPa hrow HP8 HR9 hall hown' hgrow hloc HP7 HROW7 HOWN HREPS y0 y1 x3 hbne
              go_wp2_with fail
              go_roundg gf
              case measure => omega
              case rel => exact ⟨kk + 1, tb ++ [(p, q)], _, by omega, by omega, by go_num, htb9, HP9, by rw [HLEN] at HR9'; exact HR9', HA9⟩
          · obtain rfl : kk = r.length := by omega
            have hltz : ¬ (r.length : Int) < (r.length : Int) := by omega
            have hbd : ∀ W', Below wr.heap.size wr W' → W'.cell? ⟨bx, 0, none⟩ = some (.int .i64 op) ∧ W'.cell? ⟨bx, 1, none⟩ = some (.int .i64 0) ∧ W'.cell? ⟨bx, 2, none⟩ = some (.int .i64 0) ∧ W'.cell? ⟨bx, 3, none⟩ = some (.slice A tb.length c) := fun W' hb =>
              have h := (HP1.out.below hb).bx
              ⟨cell_in h 0, cell_in h 1, cell_in h 2, cell_in h 3⟩
            obtain ⟨x0, x1, x2, x3⟩ := hbd wr (Below.refl _ _)
            have HBD := Lib.hid hbd
            clear hbd
            have hbody : bodyI op r = some ⟨op, 0, 0, tb⟩ := by
              have ha := HALL.out
              rw [List.take_length] at ha
              unfold bodyI
              rw [HN.out, if_pos (by decide), ha]
              rfl
            have HBODY := Lib.hid hbody
            clear hbody
            go_upto_region 25 with (fail)
            have hres9 : ∀ W', Below wr.heap.size wr W' → W'.heap[w.heap.size]? = some (.cells #[.int .i64 0, .int .i64 0, .int .i64 0, .slice none 0 0] 46 (0, 0)) := fun W' hb => ((HP1.out.below hb).bel.block _ hrl).trans HRES.out
            have HRES9 := Lib.hid hres9
            clear hres9
            refine wp_calm ?_
            go_region_with (go_at_call 18; refine (rightI_calls ⟨op, 0, 0, tb⟩ A c _ htc (Kd.C_drew hFC'.out.now)).mono ?_; rintro e w9 ⟨rfl, hb9⟩; obtain ⟨v0, v1, v2, v3⟩ := HBD.out w9 (((Below.refl _ wr).drew).trans hb9); have r9 := HRES9.out w9 (((Below.refl _ wr).drew).trans hb9); have y0 := cell_in r9 0; have y1 := cell_in r9 1; have y2 := cell_in r9 2; have y3 := cell_in r9 3; have f0 := blk_frozen r9 0; have f1 := blk_frozen r9 1; have f2 := blk_frozen r9 2; have f3 := blk_frozen r9 3)
            all_goals (
              go_wp2_with fail
              have hbw9 : Below wr.heap.size wr w9 := ((Below.refl _ wr).drew).trans hb9
              obtain ⟨k1, k2, k3, k4⟩ := HRET.out w9 (bel2 HP1.out.bel hbw9) (.int .i64 op) (.int .i64 0) (.int .i64 0) (.slice A tb.length c)
              refine ⟨by simp, .inl ⟨_, _, rfl, run_takeDeferred k1, ?_⟩⟩
              generalize World.putObj _ D (.deferred none) = WF at k2 k3 k4 ⊢
              have q0 := cell_in k2 0
              have q1 := cell_in k2 1
              have q2 := cell_in k2 2
              have q3 := cell_in k2 3
              exact ⟨.tuple #[.agg #[.int .i64 op, .int .i64 0, .int .i64 0, .slice A tb.length c], .bool (RightI ⟨op, 0, 0, tb⟩)], by simp [results, Tryz.f23, go_sem, q0, q1, q2, q3], ParseR.good (W := W) (wr := wr) (x := ⟨op, 0, 0, tb⟩) (by rw [HPAR.out, HBODY.out]) htc hFC'.out (fun k h1 h2 => (k4 k h1).trans (hbw9.block k h2)) hlW k3⟩)
      · obtain ⟨k, rfl, hk2⟩ : ∃ k : Nat, N = (k : Int) ∧ k ≤ 2 := by
          rcases hn with h | h | h | h
          · exact absurd h hN1
          · exact ⟨0, h, by decide⟩
          · exact ⟨1, h, by decide⟩
          · exact ⟨2, h, by decide⟩
        clear hn hN1
        have g0 : decide ((0 : Int) ≤ (k : Int)) = true := decide_eq_true (by omega)
        by_cases hlen : r.length = k
        · subst hlen
          have g2 : (((r.length : Int) + 1) == (1 + (r.length : Int))) = true := beq_iff_eq.2 (by omega)
          have e5 : ¬ ((r.length : Int) < 0) := by omega
          have e6 : decide ((r.length : Int) < 0) = false := decide_eq_false (by omega)
          go_upto_region 12 with (fail)
          go_cut [47, 48, 49, 50] from 12 to 90 (fun s47 s48 s49 s50 wx => ∃ (o c2 : Nat), (r.length = 0 ∨ o = 1) ∧ s48 = .slice (some ⟨g, o, none⟩) r.length c2 ∧ s49 = .int .i64 (r.length : Int) ∧ s50 = .int .i64 0 ∧ wx = w5)
          case first =>
            go_wp2_with fail
            all_goals go_meet
            all_goals exact ⟨_, _, by omega, rfl, rfl, rfl, rfl⟩
          case rest =>
          obtain ⟨o, c2, ho1, rfl, rfl, rfl, rfl⟩ := hcut
          go_wp2_with fail
          clear z1 x0 hv5 hnc e1 e2 e3 g2 g0
          go_loopg [50] (r.length + 1) (fun gg s50 wr => ∃ (kk : Nat) (ns : List Int), kk ≤ r.length ∧ r.length - kk < gg ∧ s50 = .int .i64 kk ∧ ns.length = kk ∧ Hid (PS W f bx #[.int .i64 op, .int .i64 (ns.getD 0 0), .int .i64 (ns.getD 1 0), .slice none 0 0] wr) ∧ Hid (allO numP (r.take kk) = some ns))
          case atStart => exact ⟨0, [], Nat.zero_le _, by omega, rfl, rfl, HP, Lib.hid rfl⟩
          case round =>
            obtain ⟨kk, ns, hkk, hgg, rfl, hns, HP1, HALL⟩ := hrel
            clear HP
            rcases gk with _ | gf
            · omega
            by_cases hlt : kk < r.length
            · have hltz : (kk : Int) < (r.length : Int) := by omega
              have hkz : (0 : Int) ≤ (kk : Int) := by omega
              have hg1 : wr.cell? ⟨g, 1 + kk, none⟩ = some (.string ⟨(r[kk]).toArray⟩) := by rw [Nat.add_comm]; exact (World.cell?_of_block (a := ⟨g, kk + 1, none⟩) (HP1.out.bel.block g hgl)).trans (HCR.out kk _ (List.getElem?_eq_getElem hlt))
              obtain rfl : o = 1 := by omega
              have htk : (r.take kk) ++ r[kk] :: r.drop (kk + 1) = r := by rw [← List.drop_eq_getElem_cons hlt, List.take_append_drop]
              have htk2 : r.take (kk + 1) = r.take kk ++ [r[kk]] := List.take_succ_eq_append_getElem hlt
              have htl : (r[kk]).length ≤ s.size := HMEM.out _ (List.mem_cons_of_mem _ (List.getElem_mem hlt))
              generalize r[kk] = t at hg1 htk htk2 htl
              have HTK := Lib.hid htk
              have HTK2 := Lib.hid htk2
              clear htk htk2
              go_wp2_with fail
              have hbw : Below w.heap.size w wr := HBEL.out.trans (HP1.out.bel.mono HBEL.out.size)
              refine (number_calls ⟨t.toArray⟩ (by rw [bsize]; omega) _ (HT.out.below hbw)).mono ?_
              rintro e w7 ⟨p, rfl, hpq, hb6⟩
              have hdt : (⟨t.toArray⟩ : ByteArray).data.toList = t := rfl
              rw [hdt] at hpq ⊢
              have HP7 := Lib.hid (HP1.out.below hb6)
              clear HP1 hb6 hg1 hbw
              cases hpp : numP t with
              | none =>
                have HPP := Lib.hid hpp
                clear hpq hpp
                go_upto_region 22 with (fail)
                have hno : parseI s.data.toList = none := by
                  rw [HPAR.out]
                  have hb : bodyI op r = none := by
                    unfold bodyI
                    rw [HN.out, if_neg (by omega), if_pos rfl, ← HTK.out, allO_bad numP _ t _ HPP.out]
                    rfl
                  rw [hb]
                have HNO := Lib.hid hno
                clear hno
                have r0 := (HP7.out.bel.block w.heap.size hrl).trans HRES.out
                have y0 := cell_in r0 0
                have y1 := cell_in r0 1
                have y2 := cell_in r0 2
                have y3 := cell_in r0 3
                have f0 := blk_frozen r0 0
                have f1 := blk_frozen r0 1
                have f2 := blk_frozen r0 2
                have f3 := blk_frozen r0 3
                clear r0
                go_wp2_with fail
                obtain ⟨k1, k2, k3, _⟩ := HRET.out _ HP7.out.bel (.int .i64 0) (.int .i64 0) (.int .i64 0) (.slice none 0 0)
                refine ⟨by simp, .inl ⟨_, _, rfl, run_takeDeferred k1, ?_⟩⟩
                generalize World.putObj _ D (.deferred none) = WF at k2 k3 ⊢
                have q0 := cell_in k2 0
                have q1 := cell_in k2 1
                have q2 := cell_in k2 2
                have q3 := cell_in k2 3
                exact ⟨.tuple #[.agg #[.int .i64 0, .int .i64 0, .int .i64 0, .slice none 0 0], .bool false], by simp [results, Tryz.f23, go_sem, q0, q1, q2, q3], ParseR.zero HNO.out k3⟩
              | some pq =>
                obtain rfl := hpq _ hpp
                have HPP := Lib.hid hpp
                clear hpq hpp
                go_upto_region 23 with (fail)
                have hbxl := HP7.out.bel.size
                have hall := allO_snoc numP _ _ _ _ HALL.out HPP.out
                rw [← HTK2.out] at hall
                have HA9 := Lib.hid hall
                clear hall
                have HP8 := HP7.out.below ((Below.refl _ w7).alloc (Nat.le_refl _) (.cells #[.pointer (some ⟨bx, 1, none⟩), .pointer (some ⟨bx, 2, none⟩)] 108))
                have hy := heap_new w7 (.cells #[.pointer (some ⟨bx, 1, none⟩), .pointer (some ⟨bx, 2, none⟩)] 108)
                have hbne : ¬ f = bx := fun e => by
                  have h1 := HP8.fm
                  rw [e, HP8.bx] at h1
                  cases h1
                have hcase : kk = 0 ∨ kk = 1 := by omega
                rcases hcase with rfl | rfl
                · obtain rfl : ns = [] := List.length_eq_zero_iff.1 hns
                  have HP9 := Lib.hid (show PS W f bx #[.int .i64 op, .int .i64 p, .int .i64 0, .slice none 0 0] ((w7.alloc (.cells #[.pointer (some ⟨bx, 1, none⟩), .pointer (some ⟨bx, 2, none⟩)] 108)).setCell ⟨bx, 1, none⟩ (.int .i64 p)) from
                    ⟨HP8.bel.setCell (p := ⟨bx, 1, none⟩) (by dsimp only; omega) _, (Below.heap_setCell _ _ _ _ hbne).trans HP8.fm, heap_set HP8.bx 1 _⟩)
                  have z0 := cell_in hy 0
                  have z3 := cell_in HP8.bx 1
                  have f3 := blk_frozen HP8.bx 1
                  clear HP8 hy hbne HP7
                  go_wp2_with fail
                  go_roundg gf
                  case measure => omega
                  case rel => exact ⟨0 + 1, [p], by omega, by omega, by go_num, rfl, HP9, HA9⟩
                · obtain ⟨a0, rfl⟩ := List.length_eq_one_iff.1 hns
                  have HP9 := Lib.hid (show PS W f bx #[.int .i64 op, .int .i64 a0, .int .i64 p, .slice none 0 0] ((w7.alloc (.cells #[.pointer (some ⟨bx, 1, none⟩), .pointer (some ⟨bx, 2, none⟩)] 108)).setCell ⟨bx, 2, none⟩ (.int .i64 p)) from
                    ⟨HP8.bel.setCell (p := ⟨bx, 2, none⟩) (by dsimp only; omega) _, (Below.heap_setCell _ _ _ _ hbne).trans HP8.fm, heap_set HP8.bx 2 _⟩)
                  have z0 := cell_in hy 1
                  have z3 := cell_in HP8.bx 2
                  have f3 := blk_frozen HP8.bx 2
                  clear HP8 hy hbne HP7
                  go_wp2_with fail
                  go_roundg gf
                  case measure => omega
                  case rel => exact ⟨1 + 1, [a0, p], by omega, by omega, by go_num, rfl, HP9, HA9⟩
            · obtain rfl : kk = r.length := by omega
              have hltz : ¬ (r.length : Int) < (r.length : Int) := by omega
              have hbody : ∀ a1 b1, ns.getD 0 0 = a1 → ns.getD 1 0 = b1 → bodyI op r = some ⟨op, a1, b1, []⟩ := fun a1 b1 h1 h2 => by
                have ha := HALL.out
                rw [List.take_length] at ha
                unfold bodyI
                rw [HN.out, if_neg (by omega), if_pos rfl, ha, ← h1, ← h2]
                rfl
              generalize ha1 : ns.getD 0 0 = a1 at HP1 hbody
              generalize hb1 : ns.getD 1 0 = b1 at HP1 hbody
              have HBODY := Lib.hid (hbody a1 b1 rfl rfl)
              clear hbody ha1 hb1 HALL hns
              have hbd : ∀ W', Below wr.heap.size wr W' → W'.cell? ⟨bx, 0, none⟩ = some (.int .i64 op) ∧ W'.cell? ⟨bx, 1, none⟩ = some (.int .i64 a1) ∧ W'.cell? ⟨bx, 2, none⟩ = some (.int .i64 b1) ∧ W'.cell? ⟨bx, 3, none⟩ = some (.slice none 0 0) := fun W' hb =>
                have h := (HP1.out.below hb).bx
                ⟨cell_in h 0, cell_in h 1, cell_in h 2, cell_in h 3⟩
              obtain ⟨x0, x1, x2, x3⟩ := hbd wr (Below.refl _ _)
              have HBD := Lib.hid hbd
              clear hbd
              go_upto_region 25 with (fail)
              have hres9 : ∀ W', Below wr.heap.size wr W' → W'.heap[w.heap.size]? = some (.cells #[.int .i64 0, .int .i64 0, .int .i64 0, .slice none 0 0] 46 (0, 0)) := fun W' hb => ((HP1.out.below hb).bel.block _ hrl).trans HRES.out
              have HRES9 := Lib.hid hres9
              clear hres9
              refine wp_calm ?_
              go_region_with (go_at_call 18; refine (rightI_calls ⟨op, a1, b1, []⟩ none 0 _ (Nat.le_refl _) (Kd.C_nil kP _)).mono ?_; rintro e w9 ⟨rfl, hb9⟩; obtain ⟨v0, v1, v2, v3⟩ := HBD.out w9 (((Below.refl _ wr).drew).trans hb9); have r9 := HRES9.out w9 (((Below.refl _ wr).drew).trans hb9); have y0 := cell_in r9 0; have y1 := cell_in r9 1; have y2 := cell_in r9 2; have y3 := cell_in r9 3; have f0 := blk_frozen r9 0; have f1 := blk_frozen r9 1; have f2 := blk_frozen r9 2; have f3 := blk_frozen r9 3)
              all_goals (
                go_wp2_with fail
                have hbw9 : Below wr.heap.size wr w9 := ((Below.refl _ wr).drew).trans hb9
                obtain ⟨k1, k2, k3, k4⟩ := HRET.out w9 (bel2 HP1.out.bel hbw9) (.int .i64 op) (.int .i64 a1) (.int .i64 b1) (.slice none 0 0)
                refine ⟨by simp, .inl ⟨_, _, rfl, run_takeDeferred k1, ?_⟩⟩
                generalize World.putObj _ D (.deferred none) = WF at k2 k3 k4 ⊢
                have q0 := cell_in k2 0
                have q1 := cell_in k2 1
                have q2 := cell_in k2 2
                have q3 := cell_in k2 3
                exact ⟨.tuple #[.agg #[.int .i64 op, .int .i64 a1, .int .i64 b1, .slice none 0 0], .bool (RightI ⟨op, a1, b1, []⟩)], by simp [results, Tryz.f23, go_sem, q0, q1, q2, q3], ParseR.good (W := W) (wr := wr) (x := ⟨op, a1, b1, []⟩) (by rw [HPAR.out, HBODY.out]) (Nat.le_refl _) (FC.nil wr _ none) (fun k h1 h2 => (k4 k h1).trans (hbw9.block k h2)) hlW k3⟩)
        · have hno : parseI s.data.toList = none := by
            rw [HPAR.out]
            have hb : bodyI op r = none := by
              unfold bodyI
              rw [HN.out, if_neg (by omega), if_neg (by omega)]
            rw [hb]
          have HNO := Lib.hid hno
          clear hno
          have g2 : (((r.length : Int) + 1) == (1 + (k : Int))) = false := beq_eq_false_iff_ne.2 (by omega)
          have r0 := (HP.out.bel.block w.heap.size hrl).trans HRES.out
          have y0 := cell_in r0 0
          have y1 := cell_in r0 1
          have y2 := cell_in r0 2
          have y3 := cell_in r0 3
          have f0 := blk_frozen r0 0
          have f1 := blk_frozen r0 1
          have f2 := blk_frozen r0 2
          have f3 := blk_frozen r0 3
          clear r0
          go_wp2_with fail
          obtain ⟨k1, k2, k3, _⟩ := HRET.out _ HP.out.bel (.int .i64 0) (.int .i64 0) (.int .i64 0) (.slice none 0 0)
          refine ⟨by simp, .inl ⟨_, _, rfl, run_takeDeferred k1, ?_⟩⟩
          generalize World.putObj _ D (.deferred none) = WF at k2 k3 ⊢
          have q0 := cell_in k2 0
          have q1 := cell_in k2 1
          have q2 := cell_in k2 2
          have q3 := cell_in k2 3
          exact ⟨.tuple #[.agg #[.int .i64 0, .int .i64 0, .int .i64 0, .slice none 0 0], .bool false], by simp [results, Tryz.f23, go_sem, q0, q1, q2, q3], ParseR.zero HNO.out k3⟩
end Go.Proofs.YtcmhibcoccdmaaaGreatDoor.P
