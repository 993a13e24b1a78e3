/- A range over an iterator that keeps a text in one box: the loop's law over the iterator's contract. -/
import Derived.Test.YtcmhibcoccdmaaaGreatDoorInJ
import Derived.RangeFuncNested
import Derived.RangeFuncBound
import Derived.RangeFuncCalls
import Derived.RangeFuncLeaves
import Derived.OwnWalkIn
import Derived.TacticsInMore
import Derived.LoopNIn
import Derived.LoopIn
namespace Go.Proofs.YtcmhibcoccdmaaaGreatDoor.P
open Go.RowKit Go.Shelf Go.Proofs.YtcmhibcoccdmaaaGreatDoorW.PrintWords Go.Proofs.YtcmhibcoccdmaaaGreatDoorW.PrintLast Go.Proofs.YtcmhibcoccdmaaaGreatDoor.Rw
set_option linter.unusedVariables false
set_option linter.unusedSimpArgs false
/-- What the iterator keeps: every block but g. -/
def Kp (g : Nat) (w w' : World) : Prop := w.grownBy w' (some g)
theorem Kp.refl (g : Nat) (w : World) : Kp g w w := ⟨rfl, rfl, rfl, Nat.le_refl _, fun _ _ _ => rfl⟩
theorem Kp.trans {g : Nat} {a b c : World} (h : Kp g a b) (k : Kp g b c) : Kp g a c :=
  ⟨k.os.trans h.os, k.tape.trans h.tape, k.output.trans h.output, Nat.le_trans h.size k.size, fun i hi hg => (k.block i (Nat.lt_of_lt_of_le hi h.size) hg).trans (h.block i hi hg)⟩
theorem Kp.of_below {g : Nat} {a b : World} (h : Below a.heap.size a b) : Kp g a b := ⟨h.os, h.tape, h.output, h.size, fun i hi _ => h.block i hi⟩
theorem Kp.below {g : Nat} {a b c : World} (h : Kp g a b) (k : Below b.heap.size b c) : Kp g a c := h.trans (.of_below k)
theorem Kp.alloc {g : Nat} {a b : World} (h : Kp g a b) (o : Obj) : Kp g a (b.alloc o) := h.below ((Below.refl _ _).alloc (Nat.le_refl _) _)
theorem Kp.setCell {g : Nat} {a b : World} (h : Kp g a b) (j : Nat) (v : Value) : Kp g a (b.setCell ⟨g, j, none⟩ v) := by
  refine h.trans ⟨?_, ?_, ?_, ?_, fun i _ hg => Below.heap_setCell b ⟨g, j, none⟩ v i (fun e => hg (by rw [e]))⟩
  · exact ((Below.refl 0 b).setCell (p := ⟨g, j, none⟩) (Nat.zero_le _) v).os
  · exact ((Below.refl 0 b).setCell (p := ⟨g, j, none⟩) (Nat.zero_le _) v).tape
  · exact ((Below.refl 0 b).setCell (p := ⟨g, j, none⟩) (Nat.zero_le _) v).output
  · exact ((Below.refl 0 b).setCell (p := ⟨g, j, none⟩) (Nat.zero_le _) v).size
theorem Kp.setNew {g : Nat} {a b : World} (h : Kp g a b) (p : Addr) (hp : a.heap.size ≤ p.block) (v : Value) : Kp g a (b.setCell p v) := by
  have k := (Below.refl a.heap.size b).setCell hp v
  exact ⟨k.os.trans h.os, k.tape.trans h.tape, k.output.trans h.output, Nat.le_trans h.size k.size, fun i hi hg => (k.block i hi).trans (h.block i hi hg)⟩
theorem lt_heap {w : World} {z : Nat} {o : Obj} (h : w.heap[z]? = some o) : z < w.heap.size := (Array.getElem?_eq_some_iff.1 h).1
theorem Kp.blk {g : Nat} {a b : World} (h : Kp g a b) {z : Nat} (hz : z < a.heap.size) (hg : ¬ z = g) : b.heap[z]? = a.heap[z]? := h.block z hz (fun e => hg (by simpa using e))
theorem below_kp {n : Nat} {w A A' : World} {g : Nat} (h : Below n w A) (hg : n ≤ g) (hn : n ≤ A.heap.size) (k : Kp g A A') : Below n w A' :=
  ⟨k.os.trans h.os, k.tape.trans h.tape, k.output.trans h.output, Nat.le_trans h.size k.size, fun i hi => (k.blk (Nat.lt_of_lt_of_le hi hn) (by omega)).trans (h.block i hi)⟩
theorem below_putObj {n : Nat} {w A : World} {l : Nat} {o : Obj} (h : Below n w A) (hl : n ≤ l) : Below n w (A.putObj l o) :=
  ⟨h.os, h.tape, h.output, Nat.le_trans h.size (by unfold World.putObj; simp), fun i hi => (World.putObj_heap_other (by omega)).trans (h.block i hi)⟩
/-- What a round's body keeps: every old block but such as S names. -/
def KG (B : Nat) (S : Nat → Prop) (W W' : World) : Prop := W.heap.size ≤ W'.heap.size ∧ ∀ k, k < B → ¬ S k → W'.heap[k]? = W.heap[k]?
theorem KG.trans {B : Nat} {S : Nat → Prop} {x y z : World} (h : KG B S x y) (k : KG B S y z) : KG B S x z := ⟨Nat.le_trans h.1 k.1, fun i hi hb => (k.2 i hi hb).trans (h.2 i hi hb)⟩
theorem KG.putObj {B : Nat} {S : Nat → Prop} (x : World) {l : Nat} (o : Obj) (h : B ≤ l) : KG B S x (x.putObj l o) := ⟨by unfold World.putObj; simp, fun k hk _ => World.putObj_heap_other (by omega)⟩
theorem keeps_kp {g : Nat} {A A' : World} {cs : Array Value} {t : TypeId} {p : Nat × Nat} (k : Kp g A A') (h : A.heap[g]? = some (.cells cs t p)) : KeepsOthers A A' :=
  ⟨k.size, fun j o hj ho => by
    by_cases e : j = g
    · subst e; rw [h] at hj; cases Option.some.inj hj; cases ho
    · exact (k.blk (lt_heap hj) e).trans hj⟩
theorem keeps_below {A A' : World} (k : Below A.heap.size A A') : KeepsOthers A A' := ⟨k.size, fun j o hj _ => (k.block j (lt_heap hj)).trans hj⟩
/-- The end of an iterator: it went through; or a round's body left it. -/
def SeqEnd (T : List Value) (J Jx : List Value → World → Prop) (e : Ending) (W' : World) : Prop :=
  (∃ v, e = .returned v) ∧ (J T W' ∨ ∃ pre x rest, T = pre ++ x :: rest ∧ Jx (pre ++ [x]) W')
/-- An iterator that tells the values T, its box being g. -/
def IterC (m gf : Nat) (lb : Array Value) (g : Nat) (T : List Value) (B : Nat) (S : Nat → Prop) (w0 : World) : Prop :=
  ∀ (l : Nat) (J Jx : List Value → World → Prop) (W : World), Below w0.heap.size w0 W →
    (∀ pre A A', J pre A → Kp g A A' → J pre A') →
    (∀ pre x rest W1, J pre W1 → T = pre ++ x :: rest → YieldAt Fence.wide m Tryz.prog l #[x] W1 fun e W' => (e = .returned (.bool true) ∧ J (pre ++ [x]) W' ∧ KG B S W1 W') ∨ (e = .returned (.bool false) ∧ Jx (pre ++ [x]) W')) →
    J [] W → Calls Tryz.prog gf (#[.func (.yield l) #[] #[]] ++ lb) W (SeqEnd T J Jx)
/-- How a round's body may be left: off its end; by a return; by an exit. -/
def bPost (B : Nat) (S : Nat → Prop) (W : World) (I : World → Prop) (Ix : Code → World → Prop) : Exit → Act → World → Prop
  | .normal, _, W' => KeepsOthers W W' ∧ KG B S W W' ∧ I W'
  | .ret, _, W' => KeepsOthers W W' ∧ Ix .ret W'
  | .exit n, _, W' => KeepsOthers W W' ∧ Ix (.exit n) W'
  | _, _, _ => False
set_option maxHeartbeats 1000000 in
theorem seq_loop {ps : Array Tmp} {assign body : Code} {Q : Exit → Act → World → Prop} {a : Act} {w : World} {o : Operand} (m gf g : Nat) (lb : Array Value) (S : Nat → Prop) (T : List Value)
    (ho : a.eval o = .func (.func gf) #[] lb) (eg : ∀ args w, (callFunc gf args).run Tryz.prog w = .ok (.enter gf args) w)
    (hgB : g < w.heap.size) (hit : IterC m gf lb g T w.heap.size S w) (hps : ps.size = 1)
    (I : List Value → World → Prop) (Ix : Code → List Value → World → Prop) (hI : ∀ pre A A', I pre A → Kp g A A' → I pre A') (hIo : ∀ pre A l ob o', I pre A → l = w.heap.size + 1 → A.heap[l]? = some o' → o'.isCells = false → I pre (A.putObj l ob)) (hIxo : ∀ c pre A l ob o', Ix c pre A → l = w.heap.size + 1 → A.heap[l]? = some o' → o'.isCells = false → Ix c pre (A.putObj l ob)) (h0 : I [] w)
    (hround : ∀ l pre x rest W, I pre W → T = pre ++ x :: rest → w.heap.size ≤ W.heap.size → l = w.heap.size + 1 → l < W.heap.size → (∃ o', W.heap[l]? = some o' ∧ o'.isCells = false) →
      assign.wpIn (Fence.wide.inRound l) m Tryz.prog (Exit.then (fun a₁ W₁ => KeepsOthers W W₁ ∧ KG w.heap.size S W W₁ ∧ ∀ W₂ ob, W₂ = W₁.putObj l ob → body.wpIn (Fence.wide.inRound l) m Tryz.prog (bPost w.heap.size S W₂ (I (pre ++ [x])) (fun c => Ix c (pre ++ [x]))) a₁ W₂) (fun _ _ _ => False))
        { tmps := (ps.zip #[x]).foldl (fun t (p, v) => t.setIfInBounds p v) a.tmps, defers := [] } W)
    (hdone : ∀ (D : Nat) (W : World), D = w.heap.size → I T W → W.heap[D]? = some (.deferred (some [])) → Q .normal { a with defers := { target := .collected D, args := #[] } :: a.defers } W)
    (hstop : ∀ (D : Nat) (W : World) pre x rest c, D = w.heap.size → T = pre ++ x :: rest → Ix c (pre ++ [x]) W → W.heap[D]? = some (.deferred (some [])) → c.wpIn Fence.wide (m + 2) Tryz.prog Q { a with defers := { target := .collected D, args := #[] } :: a.defers } W) :
    (Code.rangeFunc o ps assign body).wpIn Fence.wide (m + 2) Tryz.prog Q a w := by
  refine wpIn_rangeFunc ?_
  intro fn hfn
  rw [Fence.wide_round]
  obtain ⟨rec, hrec⟩ : ∃ rec : LoopState → Option Code → Loop, rec = fun st pe => { state := st, pending := pe, fn, tmps := a.tmps, params := ps, assign, body, defers := w.heap.size } := ⟨_, rfl⟩
  obtain ⟨W1, hW1⟩ : ∃ W1, (w.alloc (.deferred (some []))).alloc (.loop (rec .ready none)) = W1 := ⟨_, rfl⟩
  have hL1 : W1.heap[w.heap.size + 1]? = some (.loop (rec .ready none)) := by
    rw [← hW1]; have := World.alloc_heap_new (w.alloc (.deferred (some []))) (.loop (rec .ready none)); rwa [World.size_alloc] at this
  have hK1 : W1.heap[w.heap.size]? = some (.deferred (some [])) := by
    rw [← hW1]; exact (Below.heap_alloc _ _ _ (by simp)).trans (World.alloc_heap_new w _)
  have hKp : Kp g w W1 := by rw [← hW1]; exact ((Kp.refl g w).alloc _).alloc _
  have hBw : Below w.heap.size w W1 := by rw [← hW1]; exact ((Below.refl _ w).alloc (Nat.le_refl _) _).alloc (by simp) _
  have hI1 : I [] W1 := hI _ _ _ h0 hKp
  refine ⟨w.heap.size + 1, [{ target := .collected w.heap.size, args := #[] }], W1, { target := .fn (.func gf) lb, args := #[.func (.yield (w.heap.size + 1)) #[] #[]] }, W1, gf,
    #[.func (.yield (w.heap.size + 1)) #[] #[]] ++ lb, W1, ?_, ?_, ?_, ?_, ?_, ?_⟩
  · rw [← hW1, hrec]; exact run_enterLoop_outer _ _ _ _ _
  · simp only [resolve, ho]
    simp [go_sem]
  · intro f' hf'; trivial
  · simp [invoke, go_sem, eg]
  · intro h; simp [Fence.wide] at h
  · refine (callsIn_wide.2 (hit (w.heap.size + 1)
      (fun pre W => I pre W ∧ W.heap[w.heap.size + 1]? = some (.loop (rec .ready none)) ∧ W.heap[w.heap.size]? = some (.deferred (some [])) ∧ w.heap.size ≤ W.heap.size)
      (fun pre W => ∃ c, Ix c pre W ∧ W.heap[w.heap.size + 1]? = some (.loop (rec .done (some c))) ∧ W.heap[w.heap.size]? = some (.deferred (some [])))
      W1 hBw ?_ ?_ ⟨hI1, hL1, hK1, hBw.size⟩)).mono ?_
    · rintro pre A A' ⟨h1, h2, h3, h4⟩ hk
      exact ⟨hI _ _ _ h1 hk, (hk.blk (lt_heap h2) (by omega)).trans h2, (hk.blk (lt_heap h3) (by omega)).trans h3, Nat.le_trans h4 hk.size⟩
    · rintro pre x rest W ⟨hi, hl, hk, hsz⟩ hTe
      have hlt := lt_heap hl
      have hy := run_yield (P := Tryz.prog) (args := #[x]) hl (by rw [hrec]; simp [hps])
      rw [hrec] at hy
      refine ⟨fn, _, assign, body, hy, roundIn_of_wpIn hfn (wpIn_mono (hround (w.heap.size + 1) pre x rest W hi hTe hsz rfl hlt ⟨_, hl, rfl⟩) ?_)⟩
      rintro e a1 W2 hp
      cases e with
      | normal =>
        obtain ⟨hko, hkg, hb⟩ := hp
        have hl1 := hko.same _ _ hl rfl
        have hk1 := hko.same _ _ hk rfl
        refine ⟨_, run_beginRound hl1 (by rw [hrec]), ?_⟩
        have hl2 : (W2.putObj (w.heap.size + 1) (.loop { rec .ready none with state := .busy })).heap[w.heap.size + 1]? = some (.loop { rec .ready none with state := .busy }) := World.putObj_heap_same (lt_heap hl1)
        have hk2 : (W2.putObj (w.heap.size + 1) (.loop { rec .ready none with state := .busy })).heap[w.heap.size]? = some (.deferred (some [])) := (World.putObj_heap_other (by omega)).trans hk1
        have hkg2 : KG w.heap.size S W (W2.putObj (w.heap.size + 1) (.loop { rec .ready none with state := .busy })) := hkg.trans (KG.putObj _ _ (by omega))
        refine wpIn_mono (hb _ _ rfl) ?_
        have fin : ∀ (jump : Option Code) (W3 : World), KeepsOthers (W2.putObj (w.heap.size + 1) (.loop { rec .ready none with state := .busy })) W3 →
            (Instr.endRound (w.heap.size + 1) jump).run Tryz.prog W3 = .ok (.bool jump.isNone) (W3.putObj (w.heap.size + 1) (.loop (rec (if jump.isNone then .ready else .done) jump))) ∧
            (W3.putObj (w.heap.size + 1) (.loop (rec (if jump.isNone then .ready else .done) jump))).heap[w.heap.size + 1]? = some (.loop (rec (if jump.isNone then .ready else .done) jump)) ∧
            (W3.putObj (w.heap.size + 1) (.loop (rec (if jump.isNone then .ready else .done) jump))).heap[w.heap.size]? = some (.deferred (some [])) ∧ W3.heap[w.heap.size + 1]? = some (.loop { rec .ready none with state := .busy }) := fun jump W3 hk3 => by
          have hl3 := hk3.same _ _ hl2 rfl
          have := run_endRound (P := Tryz.prog) jump hl3
          rw [hrec] at this ⊢
          exact ⟨this, World.putObj_heap_same (lt_heap hl3), (World.putObj_heap_other (by omega)).trans (hk3.same _ _ hk2 rfl), by rw [hrec] at hl3; exact hl3⟩
        rintro e3 a3 W3 hp3
        cases e3 with
        | normal =>
          obtain ⟨hko3, hkg3, hi3⟩ := hp3
          obtain ⟨hr, hl4, hk4, hq4⟩ := fin none W3 hko3
          exact ⟨_, _, hr, .inl ⟨rfl, ⟨hIo _ _ _ _ _ hi3 rfl hq4 rfl, hl4, hk4, by have h1 := hko3.size; have h2 := (hkg2.trans hkg3).1; simp [World.putObj]; omega⟩, (hkg2.trans hkg3).trans (KG.putObj _ _ (by omega))⟩⟩
        | exit id =>
          obtain ⟨hko3, hi3⟩ := hp3
          obtain ⟨hr, hl4, hk4, hq4⟩ := fin (some (.exit id)) W3 hko3
          exact ⟨_, _, hr, .inr ⟨rfl, _, hIxo _ _ _ _ _ _ hi3 rfl hq4 rfl, hl4, hk4⟩⟩
        | ret =>
          obtain ⟨hko3, hi3⟩ := hp3
          obtain ⟨hr, hl4, hk4, hq4⟩ := fin (some .ret) W3 hko3
          exact ⟨_, _, hr, .inr ⟨rfl, _, hIxo _ _ _ _ _ _ hi3 rfl hq4 rfl, hl4, hk4⟩⟩
        | goto t => exact hp3.elim
        | panic ch => exact hp3.elim
        | outgrown => exact hp3.elim
      | ret => exact hp.elim
      | exit id => exact hp.elim
      | goto t => exact hp.elim
      | panic ch => exact hp.elim
      | outgrown => exact hp.elim
    · rintro e W2 ⟨⟨v, rfl⟩, hfin⟩
      rcases hfin with ⟨hi, hl, hk, hsz⟩ | ⟨pre, x, rest, hTe, c, hi, hl, hk⟩
      · exact ⟨none, _, by have := run_endLoop (P := Tryz.prog) hl (by rw [hrec]; simp); rw [hrec] at this; exact this, hdone _ _ rfl (hIo _ _ _ _ _ hi rfl hl rfl) ((World.putObj_heap_other (by omega)).trans hk)⟩
      · exact ⟨some c, _, by have := run_endLoop (P := Tryz.prog) hl (by rw [hrec]; simp); rw [hrec] at this; exact this, hstop _ _ pre x rest c rfl hTe (hIxo _ _ _ _ _ _ hi rfl hl rfl) ((World.putObj_heap_other (by omega)).trans hk)⟩
end Go.Proofs.YtcmhibcoccdmaaaGreatDoor.P
