/- A loop over the tokens. -/
import Derived.Test.YtiioanpmfpefcaaDoorTokK
namespace Go.Proofs.YtiioanpmfpefcaaDoor.Tok
open Go.RowKit Go.Proofs.YtiioanpmfpefcaaDoor.P Go.Proofs.YtiioanpmfpefcaaDoorW.PrintWords
theorem KG.trans {B b : Nat} {x y z : World} (h : KG B b x y) (k : KG B b y z) : KG B b x z := ⟨Nat.le_trans h.1 k.1, fun i hi hb => (k.2 i hi hb).trans (h.2 i hi hb)⟩
theorem KG.putObj {B b : Nat} (x : World) {l : Nat} (o : Obj) (h : B ≤ l) : KG B b x (x.putObj l o) := ⟨by unfold World.putObj; simp, fun k hk _ => World.putObj_heap_other (by omega)⟩
/-- How a round's body may be left: off its end; by the break. -/
def tokPost (B b : Nat) (W : World) (I Ix : World → Prop) : Exit → Act → World → Prop
  | .normal, _, W' => KeepsOthers W W' ∧ KG B b W W' ∧ I W'
  | .exit 0, _, W' => KeepsOthers W W' ∧ Ix W'
  | _, _, _ => False
theorem tok_loop {ps : Array Tmp} {assign body : Code} {Q : Exit → Act → World → Prop} {a : Act} {w : World} {o : Operand} (m g bx b : Nat) (s : ByteArray)
    (ho : a.eval o = .func (.func 22) #[] #[.pointer (some ⟨bx, 0, none⟩)])
    (hS : Sc g s 0 0 0 w) (hG : GOK w) (hg : 3 < g) (hbx : Bx bx g w) (hgb : ¬ g = b) (hxb : ¬ bx = b) (hxg : ¬ bx = g) (h3b : 3 < b) (hs : s.size ≤ 140737488351232) (hps : ps.size = 1)
    (T : List S41 × Option (Nat × Int)) (hT : toks s.data.toList (s.size + 1) 0 = T)
    (I Ix : List S41 → World → Prop) (hI : ∀ pre A A', I pre A → Kp g A A' → I pre A') (hIo : ∀ pre A l ob o', I pre A → w.heap.size ≤ l → A.heap[l]? = some o' → o'.isCells = false → I pre (A.putObj l ob)) (hIxo : ∀ pre A l ob o', Ix pre A → w.heap.size ≤ l → A.heap[l]? = some o' → o'.isCells = false → Ix pre (A.putObj l ob)) (h0 : I [] w)
    (hround : ∀ l pre x rest W, I pre W → (∃ j, Sc g s j 0 0 W) → T.1 = pre ++ x :: rest → w.heap.size ≤ W.heap.size → w.heap.size ≤ l → l < W.heap.size → (∃ o', W.heap[l]? = some o' ∧ o'.isCells = false) →
      assign.wpIn (Fence.wide.inRound l) m Tryd.prog (Exit.then (fun a₁ W₁ => KeepsOthers W W₁ ∧ KG w.heap.size b W W₁ ∧ ∀ W₂ ob, W₂ = W₁.putObj l ob → body.wpIn (Fence.wide.inRound l) m Tryd.prog (tokPost w.heap.size b W₂ (I (pre ++ [x])) (Ix (pre ++ [x]))) a₁ W₂) (fun _ _ _ => False))
        { tmps := (ps.zip #[encT x]).foldl (fun t (p, v) => t.setIfInBounds p v) a.tmps, defers := [] } W)
    (hdone : ∀ (D : Nat) (W : World) (j : Nat) (fa fe : Int), w.heap.size ≤ D → I T.1 W → Sc g s j fa fe W → GOK W → (match T.2 with | none => fa = 0 ∧ fe = 0 | some (a, e) => fa = (a : Int) ∧ fe = e) → W.heap[D]? = some (.deferred (some [])) → Q .normal { a with defers := { target := .collected D, args := #[] } :: a.defers } W)
    (hstop : ∀ (D : Nat) (W : World) pre x rest, w.heap.size ≤ D → T.1 = pre ++ x :: rest → Ix (pre ++ [x]) W → W.heap[D]? = some (.deferred (some [])) → (Code.exit 0).wpIn Fence.wide (m + 2) Tryd.prog Q { a with defers := { target := .collected D, args := #[] } :: a.defers } W) :
    (Code.rangeFunc o ps assign body).wpIn Fence.wide (m + 2) Tryd.prog Q a w := by
  refine wpIn_rangeFunc ?_
  intro fn hfn
  rw [Fence.wide_round]
  obtain ⟨rec, hrec⟩ : ∃ rec : LoopState → Option Code → Loop, rec = fun st pe => { state := st, pending := pe, fn, tmps := a.tmps, params := ps, assign, body, defers := w.heap.size } := ⟨_, rfl⟩
  obtain ⟨W1, hW1⟩ : ∃ W1, (w.alloc (.deferred (some []))).alloc (.loop (rec .ready none)) = W1 := ⟨_, rfl⟩
  have hL1 : W1.heap[w.heap.size + 1]? = some (.loop (rec .ready none)) := by
    rw [← hW1]; have := World.alloc_heap_new (w.alloc (.deferred (some []))) (.loop (rec .ready none)); rwa [World.size_alloc] at this
  have hK1 : W1.heap[w.heap.size]? = some (.deferred (some [])) := by
    rw [← hW1]; exact (Below.heap_alloc _ _ _ (by simp)).trans (World.alloc_heap_new w _)
  have hKp : Kp g w W1 := by rw [← hW1]; exact ((Kp.refl g w).alloc _).alloc _
  have hI1 : I [] W1 := hI _ _ _ h0 hKp
  refine ⟨w.heap.size + 1, [{ target := .collected w.heap.size, args := #[] }], W1, { target := .fn (.func 22) #[.pointer (some ⟨bx, 0, none⟩)], args := #[.func (.yield (w.heap.size + 1)) #[] #[]] }, W1, 22,
    #[.func (.yield (w.heap.size + 1)) #[] #[], .pointer (some ⟨bx, 0, none⟩)], W1, ?_, ?_, ?_, ?_, ?_, ?_⟩
  · rw [← hW1, hrec]; exact run_enterLoop_outer _ _ _ _ _
  · simp only [resolve, ho]
    simp [go_sem]
  · intro f' hf'; trivial
  · have eg : ∀ args w, (callFunc 22 args).run Tryd.prog w = .ok (.enter 22 args) w := enters_of Tryd.func22 (by kernel_rfl) rfl
    simp [invoke, go_sem, eg]
  · intro h; simp [Fence.wide] at h
  · refine (callsIn_wide.2 (tokens1_calls g bx w.heap.size b m (w.heap.size + 1) s W1
      (fun pre W => I pre W ∧ W.heap[w.heap.size + 1]? = some (.loop (rec .ready none)) ∧ W.heap[w.heap.size]? = some (.deferred (some [])) ∧ w.heap.size ≤ W.heap.size)
      (fun pre W => Ix pre W ∧ W.heap[w.heap.size + 1]? = some (.loop (rec .done (some (.exit 0)))) ∧ W.heap[w.heap.size]? = some (.deferred (some [])))
      (by rw [← hW1]; exact (hS.alloc _).alloc _) (hG.kp hg hKp) hg hS.lt (hbx.kp hKp hxg) (Lib.heap_lt hbx) hgb hxb hxg h3b hs ?_ ?_ ⟨hI1, hL1, hK1, by rw [← hW1]; simp; omega⟩)).mono ?_
    · rintro pre A A' ⟨h1, h2, h3, h4⟩ hk
      have hgl := hS.lt
      exact ⟨hI _ _ _ h1 hk, (hk.blk (Lib.heap_lt h2) (by omega)).trans h2, (hk.blk (Lib.heap_lt h3) (by omega)).trans h3, Nat.le_trans h4 hk.size⟩
    · rintro pre x rest W ⟨hi, hl, hk, hsz⟩ hsc hTe
      rw [hT] at hTe
      have hlt := Lib.heap_lt hl
      have hy := run_yield (P := Tryd.prog) (args := #[encT x]) hl (by rw [hrec]; simp [hps])
      rw [hrec] at hy
      refine ⟨fn, _, assign, body, hy, roundIn_of_wpIn hfn (wpIn_mono (hround (w.heap.size + 1) pre x rest W hi hsc hTe hsz (by omega) hlt ⟨_, hl, rfl⟩) ?_)⟩
      rintro e a1 W2 hp
      cases e with
      | normal =>
        obtain ⟨hko, hkg, hb⟩ := hp
        have hl1 := hko.same _ _ hl rfl
        have hk1 := hko.same _ _ hk rfl
        refine ⟨_, run_beginRound hl1 (by rw [hrec]), ?_⟩
        have hl2 : (W2.putObj (w.heap.size + 1) (.loop { rec .ready none with state := .busy })).heap[w.heap.size + 1]? = some (.loop { rec .ready none with state := .busy }) := World.putObj_heap_same (Lib.heap_lt hl1)
        have hk2 : (W2.putObj (w.heap.size + 1) (.loop { rec .ready none with state := .busy })).heap[w.heap.size]? = some (.deferred (some [])) := (World.putObj_heap_other (by omega)).trans hk1
        have hkg2 : KG w.heap.size b W (W2.putObj (w.heap.size + 1) (.loop { rec .ready none with state := .busy })) := hkg.trans (KG.putObj _ _ (by omega))
        refine wpIn_mono (hb _ _ rfl) ?_
        have fin : ∀ (jump : Option Code) (W3 : World), KeepsOthers (W2.putObj (w.heap.size + 1) (.loop { rec .ready none with state := .busy })) W3 →
            (Instr.endRound (w.heap.size + 1) jump).run Tryd.prog W3 = .ok (.bool jump.isNone) (W3.putObj (w.heap.size + 1) (.loop (rec (if jump.isNone then .ready else .done) jump))) ∧
            (W3.putObj (w.heap.size + 1) (.loop (rec (if jump.isNone then .ready else .done) jump))).heap[w.heap.size + 1]? = some (.loop (rec (if jump.isNone then .ready else .done) jump)) ∧
            (W3.putObj (w.heap.size + 1) (.loop (rec (if jump.isNone then .ready else .done) jump))).heap[w.heap.size]? = some (.deferred (some [])) ∧ W3.heap[w.heap.size + 1]? = some (.loop { rec .ready none with state := .busy }) := fun jump W3 hk3 => by
          have hl3 := hk3.same _ _ hl2 rfl
          have := run_endRound (P := Tryd.prog) jump hl3
          rw [hrec] at this ⊢
          exact ⟨this, World.putObj_heap_same (Lib.heap_lt hl3), (World.putObj_heap_other (by omega)).trans (hk3.same _ _ hk2 rfl), by rw [hrec] at hl3; exact hl3⟩
        rintro e3 a3 W3 hp3
        cases e3 with
        | normal =>
          obtain ⟨hko3, hkg3, hi3⟩ := hp3
          obtain ⟨hr, hl4, hk4, hq4⟩ := fin none W3 hko3
          exact ⟨_, _, hr, .inl ⟨rfl, ⟨hIo _ _ _ _ _ hi3 (by omega) hq4 rfl, hl4, hk4, by have h1 := hko3.size; have h2 := (hkg2.trans hkg3).1; simp [World.putObj]; omega⟩, (hkg2.trans hkg3).trans (KG.putObj _ _ (by omega))⟩⟩
        | exit id =>
          cases id with
          | zero =>
            obtain ⟨hko3, hi3⟩ := hp3
            obtain ⟨hr, hl4, hk4, hq4⟩ := fin (some (.exit 0)) W3 hko3
            exact ⟨_, _, hr, .inr ⟨rfl, hIxo _ _ _ _ _ hi3 (by omega) hq4 rfl, hl4, hk4⟩⟩
          | succ id => exact hp3.elim
        | ret => exact hp3.elim
        | goto t => exact hp3.elim
        | panic ch => exact hp3.elim
        | outgrown => exact hp3.elim
      | ret => exact hp.elim
      | exit id => exact hp.elim
      | goto t => exact hp.elim
      | panic ch => exact hp.elim
      | outgrown => exact hp.elim
    · rintro e W2 ⟨⟨v, rfl⟩, hfin⟩
      rw [hT] at hfin
      have hgl := hS.lt
      rcases hfin with ⟨j, fa, fe, ⟨hi, hl, hk, hsz⟩, hs2, hg2, hm⟩ | ⟨pre, x, rest, hTe, hi, hl, hk⟩
      · exact ⟨none, _, by have := run_endLoop (P := Tryd.prog) hl (by rw [hrec]; simp); rw [hrec] at this; exact this, hdone _ _ j fa fe (Nat.le_refl _) (hIo _ _ _ _ _ hi (by omega) hl rfl) ((World.putObj_heap_other (by omega)).trans hs2) (hg2.kg (B := w.heap.size) (by omega) h3b (KG.putObj _ _ (by omega))) hm ((World.putObj_heap_other (by omega)).trans hk)⟩
      · exact ⟨some (.exit 0), _, by have := run_endLoop (P := Tryd.prog) hl (by rw [hrec]; simp); rw [hrec] at this; exact this, hstop _ _ pre x rest (Nat.le_refl _) hTe (hIxo _ _ _ _ _ hi (by omega) hl rfl) ((World.putObj_heap_other (by omega)).trans hk)⟩
end Go.Proofs.YtiioanpmfpefcaaDoor.Tok
/- Scan. -/
namespace Go.Proofs.YtiioanpmfpefcaaDoor.Tok
open Go.RowKit Go.Proofs.YtiioanpmfpefcaaDoor.P Go.Proofs.YtiioanpmfpefcaaDoorW.PrintWords
attribute [local go_sem] Oper.semAt_some
theorem method_calls (g : Nat) (w : World) : Calls Tryd.prog 15 #[.pointer (some ⟨g, 0, none⟩)] w fun e w' => e = .returned (.func (.func 22) #[] #[.pointer (some ⟨w.heap.size, 0, none⟩)]) ∧ w' = w.alloc (.cells #[.pointer (some ⟨g, 0, none⟩)] 44) := by
  go_enter Tryd.func15, Tryd.ntmps15
  go_wp2
  go_ret
  exact ⟨rfl, rfl⟩
theorem clip_calls (A : Option Addr) (n c : Nat) (w : World) (hnc : n ≤ c) : Calls Tryd.prog 16 #[.slice A n c] w fun e w' => e = .returned (.slice A n n) ∧ w' = w := by
  go_enter Tryd.func16, Tryd.ntmps16
  have e1 : (0 : Int) ≤ (n : Int) := by omega
  have e2 : (n : Int) ≤ (c : Int) := by omega
  go_wp2
  go_ret
  exact ⟨rfl, rfl⟩
/-- Tokens as a row's cells. -/
def cells5 (xs : List S41) : List Value := xs.flatMap fun x => [.int .i64 x.f0, .int .i64 x.f1, .int .i64 x.f2, .string x.f3, .int .i64 x.f4]
theorem cells5_len (xs : List S41) : (cells5 xs).length = xs.length * 5 := by
  induction xs with
  | nil => rfl
  | cons x xs ih => simp only [cells5, List.flatMap_cons, List.length_append, List.length_cons, List.length_nil] at ih ⊢; omega
theorem infoT : (Tryd.prog.info? 41).map (fun i => (i.zero, i.size, i.bytes)) = some (some (.agg #[.int .i64 0, .int .i64 0, .int .i64 0, .string ⟨#[]⟩, .int .i64 0]), 5, 48) := by kernel_rfl
/-- What the loop of Scan holds. -/
def LoopI (w : World) (pre : List S41) (W : World) : Prop :=
  pre.length ≤ 16384 ∧ Below w.heap.size w W ∧ W.heap[w.heap.size]? = some (.cells #[.int .i64 0, .int .i64 0] 26 (0, 0)) ∧ Bx (w.heap.size + 2) (w.heap.size + 1) W ∧
  ∃ v, W.heap[w.heap.size + 3]? = some (.cells #[v] 23 (0, 0)) ∧ W.ownsRow (w.heap.size + 5) 41 5 v pre.length (cells5 pre)
def LoopX (s : ByteArray) (w : World) (pre : List S41) (W : World) : Prop :=
  pre.length = 16385 ∧ Below w.heap.size w W ∧ W.heap[w.heap.size]? = some (.cells #[.int .i64 0, .int .i64 0] 26 (0, 0)) ∧ Bx (w.heap.size + 2) (w.heap.size + 1) W ∧
  ∃ j x, pre[16384]? = some x ∧ Sc (w.heap.size + 1) s j x.f1 6 W
theorem below_kp {w A A' : World} {g : Nat} (h : Below w.heap.size w A) (hg : w.heap.size ≤ g) (k : Kp g A A') : Below w.heap.size w A' :=
  ⟨k.os.trans h.os, k.tape.trans h.tape, k.output.trans h.output, Nat.le_trans h.size k.size, fun i hi => (k.blk (Nat.lt_of_lt_of_le hi h.size) (by omega)).trans (h.block i hi)⟩
theorem below_putObj {w A : World} {l : Nat} {o : Obj} (h : Below w.heap.size w A) (hl : w.heap.size ≤ l) : Below w.heap.size w (A.putObj l o) :=
  ⟨h.os, h.tape, h.output, Nat.le_trans h.size (by unfold World.putObj; simp), fun i hi => (World.putObj_heap_other (by omega)).trans (h.block i hi)⟩
theorem LoopI.kp {w A A' : World} {pre : List S41} (h : LoopI w pre A) (k : Kp (w.heap.size + 1) A A') : LoopI w pre A' := by
  obtain ⟨h1, h2, h3, h4, v, h5, h6⟩ := h
  refine ⟨h1, below_kp h2 (by omega) k, (k.blk (Lib.heap_lt h3) (by omega)).trans h3, h4.kp k (by omega), v, (k.blk (Lib.heap_lt h5) (by omega)).trans h5, ?_⟩
  exact h6.kept (row := some (w.heap.size + 1)) k (by
    rcases hA : v.ownBlock with _ | q
    · exact .inl rfl
    · have := (h6.lt q hA).1
      exact .inr (by simp; omega))
theorem own_put {A : World} {base : Nat} {e : TypeId} {size : Nat} {v : Value} {n : Nat} {xs : List Value} (h : A.ownsRow base e size v n xs) {l : Nat} {o : Obj} (hl : v.ownBlock ≠ some l) : (A.putObj l o).ownsRow base e size v n xs :=
  own_move h (fun k hk => World.putObj_heap_other (fun e => hl (by rw [hk, e])))
theorem LoopI.put {w A : World} {pre : List S41} {l : Nat} {ob o' : Obj} (h : LoopI w pre A) (hl : w.heap.size + 5 ≤ l) (ho : A.heap[l]? = some o') (hc : o'.isCells = false) : LoopI w pre (A.putObj l ob) := by
  obtain ⟨h1, h2, h3, h4, v, h5, h6⟩ := h
  refine ⟨h1, below_putObj h2 (by omega), (World.putObj_heap_other (by omega)).trans h3, (World.putObj_heap_other (by omega)).trans h4, v, (World.putObj_heap_other (by omega)).trans h5, own_put h6 (fun e => ?_)⟩
  obtain ⟨cells, hcl⟩ := own_typed h6 l e
  rw [ho] at hcl
  cases Option.some.inj hcl
  cases hc
theorem LoopX.put {s : ByteArray} {w A : World} {pre : List S41} {l : Nat} {ob : Obj} (h : LoopX s w pre A) (hl : w.heap.size + 5 ≤ l) : LoopX s w pre (A.putObj l ob) := by
  obtain ⟨h1, h2, h3, h4, j, x, h5, h6⟩ := h
  exact ⟨h1, below_putObj h2 (by omega), (World.putObj_heap_other (by omega)).trans h3, (World.putObj_heap_other (by omega)).trans h4, j, x, h5, (World.putObj_heap_other (by omega)).trans h6⟩
def scanR (T : List S41 × Option (Nat × Int)) (n : Nat) : List S41 × Int × Int :=
  if 16384 < T.1.length then ([], (T.1.getD 16384 z41).f1, 6)
  else match T.2 with
    | none => (T.1 ++ [⟨9, n, n, ⟨#[]⟩, 0⟩], 0, 0)
    | some (a, e) => ([], a, e)
def ScanP (w : World) (r : List S41 × Int × Int) (e : Ending) (w' : World) : Prop :=
  ∃ v, e = .returned (.tuple #[v, .agg #[.int .i64 r.2.1, .int .i64 r.2.2]]) ∧ w'.ownsRow w.heap.size 41 5 v r.1.length (cells5 r.1) ∧ Below w.heap.size w w'
theorem al_size (w : World) (o : Obj) : (w.alloc o).heap.size = w.heap.size + 1 := by simp
theorem al_new (w : World) (o : Obj) : (w.alloc o).heap[w.heap.size]? = some o := by unfold World.alloc; exact Array.getElem?_push_size
theorem al_old {w : World} {o : Obj} {k : Nat} {x : Obj} (h : w.heap[k]? = some x) : (w.alloc o).heap[k]? = some x := (Lib.alloc_old w o k (Lib.heap_lt h)).trans h
theorem five {w W : World} {a b c d e : Obj} (h : ((((w.alloc a).alloc b).alloc c).alloc d).alloc e = W) :
    W.heap.size = w.heap.size + 5 ∧ W.heap[w.heap.size]? = some a ∧ W.heap[w.heap.size + 1]? = some b ∧ W.heap[w.heap.size + 2]? = some c ∧ W.heap[w.heap.size + 3]? = some d ∧ W.heap[w.heap.size + 4]? = some e ∧ Below w.heap.size w W := by
  subst h
  have h1 := al_new w a
  have h2 := al_new (w.alloc a) b
  have h3 := al_new ((w.alloc a).alloc b) c
  have h4 := al_new (((w.alloc a).alloc b).alloc c) d
  have h5 := al_new ((((w.alloc a).alloc b).alloc c).alloc d) e
  simp only [al_size] at h2 h3 h4 h5
  refine ⟨by simp only [al_size], al_old (al_old (al_old (al_old h1))), al_old (al_old (al_old h2)), al_old (al_old h3), al_old h4, h5, ?_⟩
  exact (((((Below.refl _ w).alloc (Nat.le_refl _) _).alloc (by simp) _).alloc (by simp; omega) _).alloc (by simp; omega) _).alloc (by simp; omega) _
theorem keeps_kp {g : Nat} {s : ByteArray} {i : Nat} {fa fe : Int} {A A' : World} (k : Kp g A A') (h : Sc g s i fa fe A) : KeepsOthers A A' :=
  ⟨k.size, fun j o hj ho => by
    by_cases e : j = g
    · subst e; rw [h] at hj; cases Option.some.inj hj; cases ho
    · exact (k.blk (Lib.heap_lt hj) e).trans hj⟩
theorem one_err {l : List UInt8} {d : Nat} {e : Int} (h : oneL l = .bad d e) : e ≠ 0 := by
  have hop : ∀ m, opFrom m l = .bad d e → e ≠ 0 := by
    intro m
    induction m with
    | zero => intro h; rw [opFrom] at h; injection h with _ h2; omega
    | succ m ih => intro h; rw [opFrom] at h; split at h; · cases h
                   · exact ih h
  have hw : ∀ k, wordL k l = .bad d e → e ≠ 0 := fun k h => by
    unfold wordL at h; split at h
    · injection h with _ h2; omega
    · cases h
  have hn : numL l = .bad d e → e ≠ 0 := fun h => by
    unfold numL at h; split at h
    · injection h with _ h2; omega
    · split at h
      · injection h with _ h2; omega
      · cases h
  have hq : quotedL l = .bad d e → e ≠ 0 := fun h => by
    unfold quotedL at h; split at h
    · injection h with _ h2; omega
    · split at h
      · injection h with _ h2; omega
      · split at h
        · injection h with _ h2; omega
        · cases h
  unfold oneL at h
  split at h
  · injection h with _ h2; omega
  · split at h
    · exact hw _ h
    · split at h
      · exact hw _ h
      · split at h
        · exact hn h
        · split at h
          · exact hq h
          · split at h
            · cases h
            · split at h
              · exact hop _ h
              · injection h with _ h2; omega
theorem toks_err (l : List UInt8) : ∀ (f i a : Nat) (e : Int), (toks l f i).2 = some (a, e) → e ≠ 0
  | 0, i, a, e, h => by simp [toks] at h
  | f + 1, i, a, e, h => by
    rw [toks] at h
    split at h
    · simp at h; omega
    · split at h
      · simp at h
      · split at h
        · next h1 => simp at h; rw [← h.2]; exact one_err h1
        · exact toks_err l f _ a e h
theorem pre_len {T : List S41} {pre rest : List S41} {x : S41} (h : T = pre ++ x :: rest) : (pre ++ [x]).length ≤ T.length ∧ T[pre.length]? = some x := by
  subst h
  constructor
  · simp
  · simp
set_option maxHeartbeats 4000000 in
set_option maxRecDepth 100000 in
theorem scan_calls (s : ByteArray) (w : World) (hG : GOK w) (hs : s.size ≤ 65536) (T : List S41 × Option (Nat × Int)) (hT : toks s.data.toList (s.size + 1) 0 = T) : Calls Tryd.prog 9 #[.string s] w (ScanP w (scanR T s.size)) := by
  refine (callsIn_wide (n := 5)).1 ?_
  refine callsIn_of_wp_marks Tryd.func9 rfl trivial ?_ rfl
  simp only [Tryd.ntmps9, List.size_toArray, List.length_cons, List.length_nil, Nat.reduceAdd, Nat.reduceSub, Array.replicate_succ, Array.replicate_zero, List.push_toArray, List.append_toArray, List.nil_append, List.cons_append]
  have e1 : ¬ (65536 : Int) < (s.size : Int) := by omega
  have hG3 := hG.lt
  have HG := Lib.hid hG
  have HT := Lib.hid hT
  obtain ⟨i0, hi0, hz0, hz1, hz2⟩ := info_parts infoT
  clear hG hT
  gi_wp2
  refine ⟨trivial, (callsIn_wide.2 (method_calls _ _)).mono ?_⟩
  rintro e w' ⟨rfl, rfl⟩
  gi_wp2
  generalize hwl : World.alloc (World.alloc _ _) _ = wl
  obtain ⟨hsz, b0, b1, b2, b3, b4, hbel⟩ := five hwl
  clear hwl
  have HB2 := Lib.hid hbel
  refine tok_loop 3 (w.heap.size + 1) (w.heap.size + 4) (w.heap.size + 3) s rfl b1 (HG.out.below HB2.out) (by omega) b4 (by omega) (by omega) (by omega) (by omega) (by omega) rfl T HT.out (LoopI w) (LoopX s w)
    (fun _ _ _ h k => h.kp k) (fun _ _ _ _ _ h hl ho hc => h.put (by omega) ho hc) (fun _ _ _ _ _ h hl _ _ => h.put (by omega)) ⟨by simp, HB2.out, b0, b2, _, b3, World.ownsRow_nil _ _ _ _⟩ ?round ?done ?stop
  case round =>
    rintro l pre x rest W hI ⟨jn, hSn⟩ hTe hsW hlB hlW ⟨o', ho', hoc⟩
    have hp1 := pre_len hTe
    obtain ⟨x0, x1, x2, x3, x4⟩ := x
    dsimp only [encT, Array.zip_eq_zipWith]
    gi_wp2
    refine ⟨KeepsOthers.alloc _ _, ⟨by simp, fun k hk _ => Lib.alloc_old _ _ _ (by omega)⟩, ?_⟩
    rintro W2 ob rfl
    have HI2 : LoopI w pre ((W.alloc (tk x0 x1 x2 x3 x4)).putObj l ob) := (hI.kp ((Kp.refl _ W).alloc _)).put (by omega) ((Below.heap_alloc W _ l hlW).trans ho') hoc
    have ht : ((W.alloc (tk x0 x1 x2 x3 x4)).putObj l ob).heap[W.heap.size]? = some (tk x0 x1 x2 x3 x4) := (World.putObj_heap_other (by omega)).trans (al_new _ _)
    have HS2 := Lib.hid (show Sc (w.heap.size + 1) s jn 0 0 ((W.alloc (tk x0 x1 x2 x3 x4)).putObj l ob) from (World.putObj_heap_other (by omega)).trans (hSn.alloc _))
    have e5 : Obj.cells #[.int .i64 x0, .int .i64 x1, .int .i64 x2, .string x3, .int .i64 x4] 41 = tk x0 x1 x2 x3 x4 := rfl
    rw [e5]
    clear e5
    have hszW : W.heap.size + 1 = ((W.alloc (tk x0 x1 x2 x3 x4)).putObj l ob).heap.size := by unfold World.putObj; simp
    generalize (W.alloc (tk x0 x1 x2 x3 x4)).putObj l ob = W2 at HI2 ht HS2 hszW ⊢
    clear hI hSn ho' hoc
    obtain ⟨hn, hbel2, hret, hbx2, v, hv, hown⟩ := HI2
    obtain ⟨A, cap, rfl⟩ := own_shape hown
    have cb : W2.cell? ⟨w.heap.size + 1 + 1 + 1, 0, none⟩ = some (.slice A pre.length cap) := by rw [Lib.cell_of_heap hv]; rfl
    have fb : W2.frozen? ⟨w.heap.size + 1 + 1 + 1, 0, none⟩ = false := Lib.frozen_of_heap hv 0
    have cx : W2.cell? ⟨w.heap.size + 1 + 1, 0, none⟩ = some (.pointer (some ⟨w.heap.size + 1, 0, none⟩)) := hbx2.c
    obtain ⟨⟨t0, t1, t2, t3, t4⟩, k0, k1, k2, k3, k4⟩ := tk_cells ht
    have Hret := Lib.hid hret; have Hbx := Lib.hid hbx2; have Hv := Lib.hid hv; have Hown := Lib.hid hown; have Hbel := Lib.hid hbel2
    clear hret hbx2 hv hown hbel2 ht
    by_cases hfull : pre.length = 16384
    · have g1 : ((pre.length : Int) == 16384) = true := by rw [hfull]; rfl
      gi_wp2_with (refine ⟨trivial, ?_⟩; gi_at_call 14; refine (CallsIn.inRound l (callsIn_wide.2 (fail_calls (w.heap.size + 1) s jn 0 0 x1 6 _ HS2.out))).mono ?_; rintro e w4 ⟨rfl, hS4, hK4⟩)
      refine ⟨keeps_kp hK4 HS2.out, by simp [hfull], below_kp Hbel.out (by omega) hK4, (hK4.blk (Lib.heap_lt Hret.out) (by omega)).trans Hret.out, Hbx.out.kp hK4 (by omega), jn, ⟨x0, x1, x2, x3, x4⟩, by rw [← hfull]; simp, hS4⟩
    · have g1 : ((pre.length : Int) == 16384) = false := beq_eq_false_iff_ne.2 (by omega)
      gi_wp2_with (gi_at_builtin; refine wpListIn_append_own _ rfl _ _ 23 rfl (w.heap.size + 5) 41 i0 _ 5 48 Tryd.underlying23 hi0 hz0 hz1 hz2 rfl (by decide) _ _ _ rfl (Hown.out.alloc _) ⟨W2.heap.size, 0, none⟩ 1 1 [.int .i64 x0, .int .i64 x1, .int .i64 x2, .string x3, .int .i64 x4] rfl rfl ?c1 ?c2 ?c3 ?c4 ?c5 ?_)
      case c1 =>
        intro j u hj
        match j, hj with
        | 0, hj => simp at hj; subst hj; simp [Addr.add]
        | 1, hj => simp at hj; subst hj; simp [Addr.add]
        | 2, hj => simp at hj; subst hj; simp [Addr.add]
        | 3, hj => simp at hj; subst hj; simp [Addr.add]
        | 4, hj => simp at hj; subst hj; simp [Addr.add]
      case c2 => intro u hu; simp at hu; rcases hu with rfl | rfl | rfl | rfl | rfl <;> rfl
      case c3 => unfold maxLen; omega
      case c4 => omega
      case c5 => simp; omega
      intro v' w3 hown' hgrow _
      obtain ⟨g', cap', rfl⟩ := ownsRow_succ hown'
      have hrow : ∀ k, (Value.slice A pre.length cap).ownBlock = some k → w.heap.size + 5 ≤ k := fun k hk => (Hown.out.lt k hk).1
      have hg5 : w.heap.size + 5 ≤ g' := (hown'.lt g' rfl).1
      have hsz3 := hgrow.size
      simp only [al_size] at hsz3
      have hv3 := (blk_grown hgrow (z := w.heap.size + 3) (by simp; omega) hrow (by omega)).trans (al_old Hv.out)
      have cb3 : w3.cell? ⟨w.heap.size + 1 + 1 + 1, 0, none⟩ = some (.slice A pre.length cap) := by rw [Lib.cell_of_heap hv3]; rfl
      have fb3 : w3.frozen? ⟨w.heap.size + 1 + 1 + 1, 0, none⟩ = false := Lib.frozen_of_heap hv3 0
      have hko : KeepsOthers W2 w3 := (KeepsOthers.alloc W2 _).trans (KeepsOthers.of_grownBy hgrow (fun j o e ho => by
        obtain ⟨cells, hcl⟩ := own_typed Hown.out j e
        rw [al_old hcl] at ho
        cases Option.some.inj ho; rfl))
      have hkg : ∀ k, k < w.heap.size + 5 → w3.heap[k]? = W2.heap[k]? := fun k hk => (blk_grown hgrow (z := k) (by simp; omega) hrow (by omega)).trans (Lib.alloc_old W2 _ k (by omega))
      have hbl : Below w.heap.size w w3 := (Hbel.out.alloc (by omega) _).grown hgrow (by simp; omega) (fun k hk => by have := hrow k hk; omega)
      gi_wp2
      refine ⟨hko.trans (KeepsOthers.setCell _ _ _), ⟨by have := hko.size; simp; omega, fun k hk hk3 => (Below.heap_setCell _ _ _ _ (by simp; omega)).trans (hkg k (by omega))⟩, by simp; omega, hbl.setCell (p := ⟨w.heap.size + 3, 0, none⟩) (by simp) _, ?_, ?_, .slice (some ⟨g', 0, none⟩) (pre.length + 1) cap', ?_, ?_⟩
      · exact (Below.heap_setCell _ _ _ _ (by simp; omega)).trans ((hkg _ (by omega)).trans Hret.out)
      · exact (Below.heap_setCell _ _ _ _ (by simp)).trans ((hkg _ (by omega)).trans Hbx.out)
      · unfold World.setCell; simp [Array.getElem?_modify, hv3]
      · have := own_move hown' (w1 := w3.setCell ⟨w.heap.size + 3, 0, none⟩ (.slice (some ⟨g', 0, none⟩) (pre.length + 1) cap')) (fun k hk => Below.heap_setCell _ _ _ _ (by
          have := (hown'.lt k hk).1
          simp; omega))
        simpa [cells5] using this
  case done =>
    rintro D W j fa fe hD hI hS hG2 hm hK
    obtain ⟨hn, hbl, hret, hbx, v, hv, hown⟩ := hI
    have cx : W.cell? ⟨w.heap.size + 1 + 1, 0, none⟩ = some (.pointer (some ⟨w.heap.size + 1, 0, none⟩)) := hbx.c
    have c2 := hS.c2; have c3 := hS.c3
    have r0 : W.cell? ⟨w.heap.size, 0, none⟩ = some (.int .i64 0) := by rw [Lib.cell_of_heap hret]; rfl
    have r1 : W.cell? ⟨w.heap.size, 1, none⟩ = some (.int .i64 0) := by rw [Lib.cell_of_heap hret]; rfl
    have f0 : W.frozen? ⟨w.heap.size, 0, none⟩ = false := Lib.frozen_of_heap hret 0
    have f1 : W.frozen? ⟨w.heap.size, 1, none⟩ = false := Lib.frozen_of_heap hret 1
    have HS := Lib.hid hS; have Hret := Lib.hid hret; have Hbl := Lib.hid hbl; have HK := Lib.hid hK; have Hv := Lib.hid hv; have Hown := Lib.hid hown
    clear hS hret hbl hK hbx hv hown
    rcases hT2 : T.2 with _ | ⟨a, er⟩
    · rw [hT2] at hm
      obtain ⟨rfl, rfl⟩ := hm
      obtain ⟨A, cap, rfl⟩ := own_shape Hown.out
      have cb : W.cell? ⟨w.heap.size + 1 + 1 + 1, 0, none⟩ = some (.slice A T.1.length cap) := by rw [Lib.cell_of_heap Hv.out]; rfl
      dsimp only
      have hcap : T.1.length ≤ cap := by
        rcases Hown.out.2 with ⟨hv, h0⟩ | ⟨g', cap', cur, hv, _, _, hc, _⟩
        · rw [h0]; exact Nat.zero_le _
        · simp only [Value.slice.injEq] at hv; omega
      have hrow : ∀ k, (Value.slice A T.1.length cap).ownBlock = some k → w.heap.size + 5 ≤ k := fun k hk => (Hown.out.lt k hk).1
      rename_i aK
      show _
      refine aK _ _ ?_
      refine wpIn_wide.2 ?_
      go_wp2_with fail
      refine (clip_calls A _ cap W hcap).mono ?_
      rintro e w' ⟨rfl, rfl⟩
      go_wp2_with (at_builtin; refine wpList_append_grows _ rfl _ _ 23 rfl 41 i0 _ 5 48 Tryd.underlying23 hi0 hz0 hz1 hz2 rfl (by decide) A T.1.length T.1.length (cells5 T.1) rfl ?cn (by rw [cells5_len]) ?ca ⟨w'.heap.size, 0, none⟩ 1 1 [.int .i64 9, .int .i64 s.size, .int .i64 s.size, .string ⟨#[]⟩, .int .i64 0] rfl rfl ?c1 ?c2 (Nat.lt_succ_self _) ?c3 ?c4 ?_)
      case cn =>
        rintro rfl
        rcases Hown.out.2 with ⟨_, h0⟩ | ⟨g', cap', cur, hv, _⟩
        · exact ⟨h0, h0⟩
        · simp at hv
      case ca =>
        rintro b rfl j u hj
        obtain ⟨g', hg'⟩ : ∃ g', b = ⟨g', 0, none⟩ := by
          rcases Hown.out.2 with ⟨hv, h0⟩ | ⟨g', cap', cur, hv, _⟩
          · simp at hv
          · simp only [Value.slice.injEq, Option.some.injEq] at hv; exact ⟨g', hv.1⟩
        subst hg'
        exact (Hown.out.alloc _).cells (g := g') rfl j u hj
      case c1 =>
        intro j u hj
        match j, hj with
        | 0, hj => simp at hj; subst hj; simp [Addr.add]
        | 1, hj => simp at hj; subst hj; simp [Addr.add]
        | 2, hj => simp at hj; subst hj; simp [Addr.add]
        | 3, hj => simp at hj; subst hj; simp [Addr.add]
        | 4, hj => simp at hj; subst hj; simp [Addr.add]
      case c2 => intro u hu; simp at hu; rcases hu with rfl | rfl | rfl | rfl <;> rfl
      case c3 => unfold maxLen; omega
      case c4 => omega
      intro v' w3 hown3 hgrow
      have hret3 : w3.heap[w.heap.size]? = some (.cells #[.int .i64 0, .int .i64 0] 26 (0, 0)) := (hgrow.block _ (Lib.heap_lt (al_old Hret.out)) (by simp)).trans (al_old Hret.out)
      have hK3 : w3.heap[D]? = some (.deferred (some [])) := (hgrow.block _ (Lib.heap_lt (al_old HK.out)) (by simp)).trans (al_old HK.out)
      have s0 : w3.cell? ⟨w.heap.size, 0, none⟩ = some (.int .i64 0) := by rw [Lib.cell_of_heap hret3]; rfl
      have s1 : w3.cell? ⟨w.heap.size, 1, none⟩ = some (.int .i64 0) := by rw [Lib.cell_of_heap hret3]; rfl
      have y0 : w3.frozen? ⟨w.heap.size, 0, none⟩ = false := Lib.frozen_of_heap hret3 0
      have y1 : w3.frozen? ⟨w.heap.size, 1, none⟩ = false := Lib.frozen_of_heap hret3 1
      have hlw := Hbl.out.size
      have hbl3 : Below w.heap.size w w3 := (Hbl.out.alloc (by omega) _).grown hgrow (by simp; omega) (fun k hk => by cases hk)
      have Hown3 := Lib.hid hown3
      have HK3 := Lib.hid hK3
      have Hret3 := Lib.hid hret3
      have Hbl3 := Lib.hid hbl3
      clear hown3 hK3 hret3 hbl3 hgrow
      go_wp2_with fail
      have hD2 := Lib.heap_lt HK.out
      have hKf : ((w3.setCell ⟨w.heap.size, 0, none⟩ (.int .i64 0)).setCell ⟨w.heap.size, 1, none⟩ (.int .i64 0)).heap[D]? = some (.deferred (some [])) :=
        ((Below.heap_setCell _ _ _ _ (by simp; omega)).trans (Below.heap_setCell _ _ _ _ (by simp; omega))).trans HK3.out
      refine ⟨by simp, .inl ⟨_, _, rfl, run_takeDeferred hKf, ?_⟩⟩
      have hF : (((w3.setCell ⟨w.heap.size, 0, none⟩ (.int .i64 0)).setCell ⟨w.heap.size, 1, none⟩ (.int .i64 0)).putObj D (.deferred none)).heap[w.heap.size]? = some (.cells #[.int .i64 0, .int .i64 0] 26 (0, 0)) :=
        (World.putObj_heap_other (by omega)).trans (by unfold World.setCell; simp [Array.getElem?_modify, Hret3.out])
      have hB : Below w.heap.size w (((w3.setCell ⟨w.heap.size, 0, none⟩ (.int .i64 0)).setCell ⟨w.heap.size, 1, none⟩ (.int .i64 0)).putObj D (.deferred none)) :=
        below_putObj ((Hbl3.out.setCell (p := ⟨w.heap.size, 0, none⟩) (Nat.le_refl _) _).setCell (p := ⟨w.heap.size, 1, none⟩) (Nat.le_refl _) _) (by omega)
      have hO := own_move Hown3.out (w1 := ((w3.setCell ⟨w.heap.size, 0, none⟩ (.int .i64 0)).setCell ⟨w.heap.size, 1, none⟩ (.int .i64 0)).putObj D (.deferred none)) (fun k hk => by
        have h1 := (Hown3.out.lt k hk).1
        exact (World.putObj_heap_other (by omega)).trans ((Below.heap_setCell _ _ _ _ (by simp; omega)).trans (Below.heap_setCell _ _ _ _ (by simp; omega))))
      generalize ((w3.setCell ⟨w.heap.size, 0, none⟩ (.int .i64 0)).setCell ⟨w.heap.size, 1, none⟩ (.int .i64 0)).putObj D (.deferred none) = WF at hF hB hO ⊢
      have q0 : WF.cell? ⟨w.heap.size, 0, none⟩ = some (.int .i64 0) := by rw [Lib.cell_of_heap hF]; rfl
      have q1 : WF.cell? ⟨w.heap.size, 1, none⟩ = some (.int .i64 0) := by rw [Lib.cell_of_heap hF]; rfl
      have hR : scanR T s.size = (T.1 ++ [⟨9, s.size, s.size, ⟨#[]⟩, 0⟩], 0, 0) := by
        unfold scanR
        rw [if_neg (by omega), hT2]
      refine ⟨.tuple #[v', .agg #[.int .i64 0, .int .i64 0]], by simp [results, Tryd.f9, go_sem, q0, q1], ?_⟩
      refine ⟨_, by rw [hR], ?_, hB⟩
      rw [hR]
      have := own_weaken hO (show w.heap.size ≤ _ by omega)
      simpa [cells5] using this
    · rw [hT2] at hm
      obtain ⟨rfl, rfl⟩ := hm
      have ger : (fe == 0) = false := beq_eq_false_iff_ne.2 (toks_err _ _ _ _ _ (by rw [HT.out]; exact hT2))
      have hR : scanR T s.size = ([], (a : Int), fe) := by
        unfold scanR
        rw [if_neg (by omega), hT2]
      dsimp only
      gi_wp2
      refine wpIn_wide.2 ?_
      go_region
      gi_wp2
      have hKf : (((W.setCell ⟨w.heap.size, 0, none⟩ (.int .i64 a)).setCell ⟨w.heap.size, 1, none⟩ (.int .i64 fe)).drew).heap[D]? = some (.deferred (some [])) :=
        ((Below.heap_setCell _ _ _ _ (by simp; omega)).trans (Below.heap_setCell _ _ _ _ (by simp; omega))).trans HK.out
      refine ⟨by simp, .inl ⟨_, _, rfl, run_takeDeferred hKf, ?_⟩⟩
      have hF : ((((W.setCell ⟨w.heap.size, 0, none⟩ (.int .i64 a)).setCell ⟨w.heap.size, 1, none⟩ (.int .i64 fe)).drew).putObj D (.deferred none)).heap[w.heap.size]? = some (.cells #[.int .i64 a, .int .i64 fe] 26 (0, 0)) :=
        (World.putObj_heap_other (by omega)).trans (by
          show ((W.setCell ⟨w.heap.size, 0, none⟩ (.int .i64 a)).setCell ⟨w.heap.size, 1, none⟩ (.int .i64 fe)).heap[w.heap.size]? = _
          unfold World.setCell; simp [Array.getElem?_modify, Hret.out])
      have hB : Below w.heap.size w ((((W.setCell ⟨w.heap.size, 0, none⟩ (.int .i64 a)).setCell ⟨w.heap.size, 1, none⟩ (.int .i64 fe)).drew).putObj D (.deferred none)) :=
        below_putObj (((Hbl.out.setCell (p := ⟨w.heap.size, 0, none⟩) (Nat.le_refl _) _).setCell (p := ⟨w.heap.size, 1, none⟩) (Nat.le_refl _) _).drew) (by omega)
      generalize (((W.setCell ⟨w.heap.size, 0, none⟩ (.int .i64 a)).setCell ⟨w.heap.size, 1, none⟩ (.int .i64 fe)).drew).putObj D (.deferred none) = WF at hF hB ⊢
      have q0 : WF.cell? ⟨w.heap.size, 0, none⟩ = some (.int .i64 a) := by rw [Lib.cell_of_heap hF]; rfl
      have q1 : WF.cell? ⟨w.heap.size, 1, none⟩ = some (.int .i64 fe) := by rw [Lib.cell_of_heap hF]; rfl
      refine ⟨.tuple #[.slice none 0 0, .agg #[.int .i64 a, .int .i64 fe]], by simp [results, Tryd.f9, go_sem, q0, q1], ?_⟩
      exact ⟨_, by rw [hR], by rw [hR]; exact World.ownsRow_nil _ _ _ _, hB⟩
  case stop =>
    rintro D W pre x rest hD hTe hX hK
    refine wpIn_exit ?_
    obtain ⟨hn, hbl, hret, hbx, j, x', hx', hS⟩ := hX
    have cx : W.cell? ⟨w.heap.size + 1 + 1, 0, none⟩ = some (.pointer (some ⟨w.heap.size + 1, 0, none⟩)) := hbx.c
    have c2 := hS.c2; have c3 := hS.c3
    have r0 : W.cell? ⟨w.heap.size, 0, none⟩ = some (.int .i64 0) := by rw [Lib.cell_of_heap hret]; rfl
    have r1 : W.cell? ⟨w.heap.size, 1, none⟩ = some (.int .i64 0) := by rw [Lib.cell_of_heap hret]; rfl
    have f0 : W.frozen? ⟨w.heap.size, 0, none⟩ = false := Lib.frozen_of_heap hret 0
    have f1 : W.frozen? ⟨w.heap.size, 1, none⟩ = false := Lib.frozen_of_heap hret 1
    have HS := Lib.hid hS; have Hret := Lib.hid hret; have Hbl := Lib.hid hbl; have HK := Lib.hid hK
    clear hS hret hbl hK hbx
    dsimp only
    gi_wp2
    refine wpIn_wide.2 ?_
    go_region
    gi_wp2
    have hKf : (((W.setCell ⟨w.heap.size, 0, none⟩ (.int .i64 x'.f1)).setCell ⟨w.heap.size, 1, none⟩ (.int .i64 6)).drew).heap[D]? = some (.deferred (some [])) :=
      ((Below.heap_setCell _ _ _ _ (by simp; omega)).trans (Below.heap_setCell _ _ _ _ (by simp; omega))).trans HK.out
    refine ⟨by simp, .inl ⟨_, _, rfl, run_takeDeferred hKf, ?_⟩⟩
    have hR : scanR T s.size = ([], x'.f1, 6) := by
      have h1 := pre_len hTe
      unfold scanR
      rw [if_pos (by omega)]
      have h2 : T.1.getD 16384 z41 = x' := by
        rw [hTe, show pre ++ x :: rest = (pre ++ [x]) ++ rest by simp, List.getD_eq_getElem?_getD, List.getElem?_append_left (by omega), hx']; rfl
      rw [h2]
    have hF : ((((W.setCell ⟨w.heap.size, 0, none⟩ (.int .i64 x'.f1)).setCell ⟨w.heap.size, 1, none⟩ (.int .i64 6)).drew).putObj D (.deferred none)).heap[w.heap.size]? = some (.cells #[.int .i64 x'.f1, .int .i64 6] 26 (0, 0)) :=
      (World.putObj_heap_other (by omega)).trans (by
        show ((W.setCell ⟨w.heap.size, 0, none⟩ (.int .i64 x'.f1)).setCell ⟨w.heap.size, 1, none⟩ (.int .i64 6)).heap[w.heap.size]? = _
        unfold World.setCell; simp [Array.getElem?_modify, Hret.out])
    have hB : Below w.heap.size w ((((W.setCell ⟨w.heap.size, 0, none⟩ (.int .i64 x'.f1)).setCell ⟨w.heap.size, 1, none⟩ (.int .i64 6)).drew).putObj D (.deferred none)) :=
      below_putObj (((Hbl.out.setCell (p := ⟨w.heap.size, 0, none⟩) (Nat.le_refl _) _).setCell (p := ⟨w.heap.size, 1, none⟩) (Nat.le_refl _) _).drew) (by omega)
    generalize (((W.setCell ⟨w.heap.size, 0, none⟩ (.int .i64 x'.f1)).setCell ⟨w.heap.size, 1, none⟩ (.int .i64 6)).drew).putObj D (.deferred none) = WF at hF hB ⊢
    have q0 : WF.cell? ⟨w.heap.size, 0, none⟩ = some (.int .i64 x'.f1) := by rw [Lib.cell_of_heap hF]; rfl
    have q1 : WF.cell? ⟨w.heap.size, 1, none⟩ = some (.int .i64 6) := by rw [Lib.cell_of_heap hF]; rfl
    refine ⟨.tuple #[.slice none 0 0, .agg #[.int .i64 x'.f1, .int .i64 6]], by simp [results, Tryd.f9, go_sem, q0, q1], ?_⟩
    exact ⟨_, by rw [hR], by rw [hR]; exact World.ownsRow_nil _ _ _ _, hB⟩
end Go.Proofs.YtiioanpmfpefcaaDoor.Tok
