/- What stands while an instruction's line is parsed; the forms as a row; a form's word asked for. -/
import Derived.Test.YtcmhibcoccdmaaaGreatDoorInM
import Derived.Maps.OwnIn
namespace Go.Proofs.YtcmhibcoccdmaaaGreatDoor.P
open Go.RowKit Go.Shelf Go.Proofs.YtcmhibcoccdmaaaGreatDoorW.PrintWords Go.Proofs.YtcmhibcoccdmaaaGreatDoorW.PrintLast Go.Proofs.YtcmhibcoccdmaaaGreatDoor.Rw
set_option linter.unusedVariables false
set_option linter.unusedSimpArgs false
attribute [local go_sem] Oper.semAt_some
theorem own_shape {w : World} {base : Nat} {e : TypeId} {size : Nat} {v : Value} {n : Nat} {xs : List Value} (h : w.ownsRow base e size v n xs) : ∃ A c, v = .slice A n c := by
  rcases h.2 with ⟨rfl, h0⟩ | ⟨g, cap, cur, rfl, _⟩
  · subst h0; exact ⟨_, _, rfl⟩
  · exact ⟨_, _, rfl⟩
theorem spl_len : ∀ l : List UInt8, (spl l).length ≤ l.length + 1
  | [] => by simp [spl]
  | c :: t => by
    have := spl_len t
    rw [spl]
    split
    · simp; omega
    · split
      · simp
      · next h r e => rw [e] at this; simp at this ⊢; omega
/-- What stands while the words are gathered: the result, the row's box, the row. -/
structure WS (w : World) (pre : List Value) (W : World) : Prop where
  bel : Below w.heap.size w W
  res : W.heap[w.heap.size]? = some (.cells #[.int .i64 0, .int .i64 0, .int .i64 0, .slice none 0 0] 46 (0, 0))
  row : ∃ v, W.heap[w.heap.size + 2]? = some (.cells #[v] 83 (0, 0)) ∧ W.ownsRow (w.heap.size + 1) 9 1 v pre.length pre ∧ ∀ k, v.ownBlock = some k → k = w.heap.size + 1 ∨ w.heap.size + 6 ≤ k
theorem WS.move {w : World} {pre : List Value} {W W' : World} (h : WS w pre W) (hb : Below w.heap.size w W') (hk : ∀ k o, w.heap.size ≤ k → ¬ k = w.heap.size + 3 → W.heap[k]? = some o → o.isCells = true → W'.heap[k]? = W.heap[k]?) : WS w pre W' := by
  obtain ⟨hbl, hres, v, hv, hown, hblk⟩ := h
  refine ⟨hb, (hk _ _ (Nat.le_refl _) (by omega) hres rfl).trans hres, v, (hk _ _ (by omega) (by omega) hv rfl).trans hv, ?_, hblk⟩
  refine ⟨hown.1, ?_⟩
  rcases hown.2 with h0 | ⟨g, cap, cur, e, hg, hh, r⟩
  · exact .inl h0
  · refine .inr ⟨g, cap, cur, e, hg, (hk g _ (by omega) ?_ hh rfl).trans hh, r⟩
    have := hblk g (by rw [e]; rfl)
    omega
theorem WS.kp {w : World} {pre : List Value} {W W' : World} (h : WS w pre W) (hk : Kp (w.heap.size + 3) W W') : WS w pre W' :=
  h.move (below_kp h.bel (by omega) h.bel.size hk) (fun k o _ hne ho _ => hk.blk (lt_heap ho) hne)
theorem WS.put {w : World} {pre : List Value} {W : World} {l : Nat} {ob o' : Obj} (h : WS w pre W) (hl : w.heap.size ≤ l) (ho : W.heap[l]? = some o') (hc : o'.isCells = false) : WS w pre (W.putObj l ob) :=
  h.move (below_putObj h.bel hl) (fun k o _ _ hk hcl => World.putObj_heap_other (fun e => by subst e; rw [hk] at ho; cases Option.some.inj ho; rw [hc] at hcl; cases hcl))
theorem forms_C {W : World} {f : Nat} (h : W.heap[f]? = some (.cells formsA 101 (0, 0))) : kFm.C W (some ⟨f, 0, none⟩) 17 fmT := by
  refine ⟨rfl, by decide, fun _ => ⟨_, rfl, fun j p hp => ?_⟩⟩
  have hj : j < 17 := by
    have := (List.getElem?_eq_some_iff.1 hp).1
    exact this
  have hpj : p = fmAt j := by
    unfold fmAt
    rw [List.getD_eq_getElem?_getD, hp]; rfl
  subst hpj
  refine ⟨(fmAt j).cells, rfl, kFm_mk W _, fun i u hu => ?_⟩
  obtain ⟨f0, f1, f2, f3, f4, f5, f6, f7⟩ := forms_at ⟨j, hj⟩
  have ha : (⟨f, 0, none⟩ : Addr).add (j * 8 + i) = ⟨f, j * 8 + i, none⟩ := by unfold Addr.add; split <;> simp_all
  show W.cell? ((⟨f, 0, none⟩ : Addr).add (j * 8 + i)) = some u
  rw [ha, Lib.cell_of_heap h]
  match i, hu with
  | 0, hu => cases hu; exact f0
  | 1, hu => cases hu; exact f1
  | 2, hu => cases hu; exact f2
  | 3, hu => cases hu; exact f3
  | 4, hu => cases hu; exact f4
  | 5, hu => cases hu; exact f5
  | 6, hu => cases hu; exact f6
  | 7, hu => cases hu; exact f7
  | n + 8, hu => simp [Fm.cells] at hu
theorem predW (w : World) (b g n cap : Nat) (t : ByteArray) (hb : w.cell? ⟨b, 0, none⟩ = some (.slice (some ⟨g, 0, none⟩) n cap)) (h0 : 0 < n) (hg : w.cell? ⟨g, 0, none⟩ = some (.string t)) (hbl : b < w.heap.size) (hgl : g < w.heap.size) :
    PredFm 54 #[.pointer (some ⟨b, 0, none⟩)] (fun f => f.word.toList == t.toList) fmT w := by
  intro W x cs _ hB hK
  obtain rfl := kFm_open hK
  have hb1 := (World.cell?_of_block (a := ⟨b, 0, none⟩) (hB.block b hbl)).trans hb
  have hg1 := (World.cell?_of_block (a := ⟨g, 0, none⟩) (hB.block g hgl)).trans hg
  show Calls Tryz.prog 54 #[.agg #[.string x.word, .int .i64 x.nums, .int .i64 x.least, .int .i64 x.most, .int .i64 x.reads, .int .i64 x.readsA, .int .i64 x.leaves, .int .i64 x.leavesA], .pointer (some ⟨b, 0, none⟩)] W _
  go_enter Tryz.func54, Tryz.ntmps54
  go_wp2_with fail
  have hl := hB.size
  have b1 := (heap_old W (.cells #[.string x.word, .int .i64 x.nums, .int .i64 x.least, .int .i64 x.most, .int .i64 x.reads, .int .i64 x.readsA, .int .i64 x.leaves, .int .i64 x.leavesA] 93) b (by omega))
  have b2 := (heap_old W (.cells #[.string x.word, .int .i64 x.nums, .int .i64 x.least, .int .i64 x.most, .int .i64 x.reads, .int .i64 x.readsA, .int .i64 x.leaves, .int .i64 x.leavesA] 93) g (by omega))
  have c1 := (World.cell?_of_block (a := ⟨b, 0, none⟩) b1).trans hb1
  have c2 := (World.cell?_of_block (a := ⟨g, 0, none⟩) b2).trans hg1
  have c3 := cell_in (heap_new W (.cells #[.string x.word, .int .i64 x.nums, .int .i64 x.least, .int .i64 x.most, .int .i64 x.reads, .int .i64 x.readsA, .int .i64 x.leaves, .int .i64 x.leavesA] 93)) 0
  have HB := Lib.hid ((Below.refl _ W).alloc (Nat.le_refl _) (.cells #[.string x.word, .int .i64 x.nums, .int .i64 x.least, .int .i64 x.most, .int .i64 x.reads, .int .i64 x.readsA, .int .i64 x.leaves, .int .i64 x.leavesA] 93))
  clear b1 b2 hb1 hg1 hK
  have hnz : ¬ ((n : Int) ≤ 0) := by omega
  go_region
  go_wp2
  go_ret
  exact ⟨rfl, HB.out.drew⟩
end Go.Proofs.YtcmhibcoccdmaaaGreatDoor.P
