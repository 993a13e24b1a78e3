/- A region that draws its order: some operations, each waiting for the one ahead of it, that may write; behind them such as only read. -/
import Derived.BigQuiet
import Derived.StillTail
import Derived.Deep.RegionWith
import Derived.Test.YtiioanpmfpefcaaDoorTokF
import Derived.Test.YtiioanpmfpefcaaDoorTokH
import Derived.Test.YtiioanpmfpefcaaDoorTokC
import Derived.RangeFuncNested
import Derived.RangeFuncBound
import Derived.RangeFuncCalls
import Derived.RangeFuncLeaves
import Derived.OwnWalkIn
import Derived.TacticsInMore
import Derived.LoopNIn
import Derived.LoopIn
namespace Go
section
variable {P : Program} {ops : Array Oper} {md : Region.Mode} {Q : Exit → Act → World → Prop}
/-- The head's operations, one behind the other; behind them the quiet walk. -/
def wpHead (P : Program) (ops : Array Oper) (Q : Exit → Act → World → Prop) (rest : List Oper) : List Oper → Act → World → Prop
  | [], a, w => wpQuiet P ops (fun w' => ∃ n, w' = w.drewN n) (fun a' => ∀ w', (∃ n, w' = w.drewN n) → Q .normal a' w') rest a
  | o :: hd, a, w => if Region.wanted o (yielded ops a.tmps) then o.wp P a w (wpHead P ops Q rest hd) Q ∨ (o.asks P a w ∧ LetsOut Q) else wpHead P ops Q rest hd (a.put o.dst undef) w
theorem wpHead_step {rest hd : List Oper} {o : Oper} {a : Act} {w : World}
    (h : ∀ K : Act → World → Prop, (∀ a w, wpHead P ops Q rest hd a w → K a w) → if Region.wanted o (yielded ops a.tmps) then o.wp P a w K Q else K (a.put o.dst undef) w) : wpHead P ops Q rest (o :: hd) a w := by
  have := h _ (fun _ _ h => h)
  unfold wpHead
  split
  · rename_i hw; rw [if_pos hw] at this; exact .inl this
  · rename_i hw; rw [if_neg hw] at this; exact this
def Region.headB (md : Region.Mode) (ops : Array Oper) (r : Nat) : Nat → Nat → Array Bool → Bool
  | 0, k, listed => Region.lexFrom md ops r k listed
  | n + 1, k, listed => decide (Region.ready md ops listed = [k]) && Region.headB md ops r n (k + 1) (listed.setIfInBounds k true)
theorem wpAny_of_headQ (hs : Region.noSelect ops = true) : ∀ (hd rest : List Oper) (k : Nat) (listed : Array Bool) (a : Act) (w : World), (∀ j, (hd ++ rest)[j]? = ops[k + j]?) →
    Region.headB md ops rest.length hd.length k listed = true → wpHead P ops Q rest hd a w → wpAny P md ops Q (hd.length + rest.length) listed a w
  | [], rest, k, listed, a, w, hl, hB, h => by
    have := wpAny_of_quiet (P := P) (md := md) (ops := ops) (C := fun w' => ∃ n, w' = w.drewN n) (Q := fun a' => ∀ w', (∃ n, w' = w.drewN n) → Q .normal a' w') (Q' := Q) (fun a w hw h => h w hw) rest.length listed a w ⟨0, rfl⟩
      (wpAnyQ_lex hs rest k listed a (by simpa using hl) hB h)
    simpa using this
  | o :: hd, rest, k, listed, a, w, hl, hB, h => by
    have h0 : ops[k]? = some o := by simpa using (hl 0).symm
    simp only [List.length_cons, Region.headB, Bool.and_eq_true, decide_eq_true_eq] at hB
    rw [show (o :: hd).length + rest.length = (hd.length + rest.length) + 1 by simp only [List.length_cons]; omega]
    refine ⟨fun h1 => (by rw [hB.1] at h1; cases h1), fun i hi => ?_⟩
    rw [hB.1] at hi
    have hik : i = k := by simpa using hi
    subst hik
    have hw : wpOp P ops Q i (wpHead P ops Q rest hd) a w := by unfold wpOp; simp only [h0]; exact h
    exact wpOp_mono (fun a' w' h' => wpAny_of_headQ hs hd rest (i + 1) _ a' w' (fun j => by have := hl (j + 1); simpa [Nat.add_assoc, Nat.add_comm 1 j] using this) hB.2 h') hw
theorem wp_region_head {id : Nat} {a : Act} {w : World} {l : List Oper} (n : Nat) (hm : P.follows .mixedOrders = true)
    (hB : (Region.noSelect l.toArray && Region.headB .any l.toArray (l.drop n).length (l.take n).length 0 (Array.replicate l.toArray.size false)) = true)
    (h : wpHead P l.toArray Q (l.drop n) (l.take n) a w.drew) : (Code.region id l.toArray true).wp P Q a w := by
  simp only [Bool.and_eq_true] at hB
  refine wp_region_any hm ?_
  have := wpAny_of_headQ (md := .any) (Q := Q) hB.1 (l.take n) (l.drop n) 0 (Array.replicate l.toArray.size false) a w.drew (fun j => by rw [List.take_append_drop]; simp) hB.2 h
  have e : (l.take n).length + (l.drop n).length = l.toArray.size := by rw [← List.length_append, List.take_append_drop]; simp
  rw [e] at this
  exact this
end
end Go
/- One token. -/
namespace Go.Proofs.YtiioanpmfpefcaaDoor.Tok
open Go.RowKit Go.Proofs.YtiioanpmfpefcaaDoor.P Go.Proofs.YtiioanpmfpefcaaDoorW.PrintWords
/-- The token that stands at the begin. -/
def oneL (l : List UInt8) : One :=
  match l with
  | [] => .bad 0 20
  | c :: _ =>
    if cls c = 3 then wordL 1 l
    else if cls c = 4 then wordL 2 l
    else if cls c = 2 then numL l
    else if cls c = 7 then quotedL l
    else if cls c = 6 then .tok 7 1 (l.take 1) 0
    else if cls c = 5 then opL l
    else .bad 0 20
theorem quiet_cls0 (c : UInt8) (w : World) (n : Nat) : Calls Tryd.prog 39 #[.int .u8 c.toNat] (w.drewN n) fun e w'' => e = .returned (.int .i64 (cls c : Nat)) ∧ ∃ m, w'' = w.drewN m :=
  Calls.quiet_of ((cls_calls c _).mono fun _ _ ⟨he, hd⟩ => ⟨he, dr hd⟩)
theorem cls_le (c : UInt8) : cls c ≤ 7 := by
  unfold cls
  repeat' split
  all_goals omega
/-- A token handed on. -/
theorem OneP.end_ {g : Nat} {s : ByteArray} {i : Nat} {r : One} {fa fe : Int} {w w1 w' : World} {e : Ending} (h : OneP g s i r fa fe w1 e w') (hk : Kp g w w1) : OneP g s i r fa fe w e w' := by
  cases r with
  | bad d er => exact ⟨h.1, h.2.1, hk.trans h.2.2⟩
  | tok k n t v => exact ⟨h.1, h.2.1, hk.trans h.2.2⟩
/-- What a token's reader hands back. -/
theorem OneP.forms {g : Nat} {s : ByteArray} {i : Nat} {r : One} {fa fe : Int} {w w' : World} {e : Ending} (h : OneP g s i r fa fe w e w') :
    ∃ (k a b : Int) (t : ByteArray) (n : Int) (ok : Bool), e = .returned (.tuple #[.agg #[.int .i64 k, .int .i64 a, .int .i64 b, .string t, .int .i64 n], .bool ok]) ∧ (∃ j fa' fe', Sc g s j fa' fe' w') ∧ Kp g w w' ∧
      ∀ w2, (∀ j fa' fe', Sc g s j fa' fe' w' → Sc g s j fa' fe' w2) → (Kp g w w2) → OneP g s i r fa fe w e w2 := by
  cases r with
  | bad d er => exact ⟨_, _, _, _, _, _, h.1, ⟨_, _, _, h.2.1⟩, h.2.2, fun w2 h1 h2 => ⟨h.1, h1 _ _ _ h.2.1, h2⟩⟩
  | tok k n t v => exact ⟨_, _, _, _, _, _, h.1, ⟨_, _, _, h.2.1⟩, h.2.2, fun w2 h1 h2 => ⟨h.1, h1 _ _ _ h.2.1, h2⟩⟩
set_option maxHeartbeats 4000000 in
set_option maxRecDepth 100000 in
theorem one_calls (g : Nat) (s : ByteArray) (i : Nat) (fa fe : Int) (w : World) (h : Sc g s i fa fe w) (hG : GOK w) (hg : 3 < g) (hi : i < s.size) (hs : s.size ≤ 140737488351232) :
    Calls Tryd.prog 24 #[.pointer (some ⟨g, 0, none⟩)] w (OneP g s i (oneL (s.data.toList.drop i)) fa fe w) := by
  have H := Lib.hid h
  have hlt := h.lt
  obtain ⟨c, hc, hcons⟩ := drop_cons0 hi
  have hb := at_q0 hc
  have HE : Hid (oneL (s.data.toList.drop i) = if cls c = 3 then wordL 1 (s.data.toList.drop i)
    else if cls c = 4 then wordL 2 (s.data.toList.drop i)
    else if cls c = 2 then numL (s.data.toList.drop i)
    else if cls c = 7 then quotedL (s.data.toList.drop i)
    else if cls c = 6 then .tok 7 1 ((s.data.toList.drop i).take 1) 0
    else if cls c = 5 then opL (s.data.toList.drop i)
    else .bad 0 20) := Lib.hid (by rw [hcons]; rfl)
  clear h hc hcons
  have e1 : (0 : Int) ≤ (i : Int) := by omega
  have e2 : (i : Int) < (s.size : Int) := by omega
  go_enter Tryd.func24, Tryd.ntmps24
  go_wp2_with fail
  rw [← zt]
  have HSq := Lib.hid (H.out.alloc zt)
  have HKq := Lib.hid ((Kp.refl g w).alloc zt)
  have hz := zt_new w
  have hls : w.heap.size < (w.alloc zt).heap.size := Lib.heap_lt (zt_new w)
  have HG := Lib.hid (hG.kp hg HKq.out)
  have hne : ¬ w.heap.size = g := by omega
  clear hG
  generalize w.alloc zt = wq at HSq HKq hz hls HG ⊢
  have HZ := Lib.hid hz
  clear hz
  have c0 := HSq.out.c0; have c1 := HSq.out.c1
  go_quiet ((go_at_call 39; exact quiet_cls0 c _ _))
  have HS := Lib.hid (HSq.out.drewN nq)
  have HK := Lib.hid (HKq.out.drewN nq)
  have HGp := Lib.hid (HG.out.below (Drawn0.below ⟨nq, rfl⟩))
  have HZp : Hid ((wq.drewN nq).heap[w.heap.size]? = some zt) := Lib.hid HZ.out
  clear c0 c1 HSq HKq HG HZ hls hb
  generalize wq.drewN nq = wp at HS HK HZp HGp ⊢
  have hls := Lib.heap_lt HZp.out
  have c0 := HS.out.c0; have c1 := HS.out.c1
  have hn4 : ¬ g = w.heap.size := by omega
  by_cases k3 : cls c = 3
  · rw [if_pos k3] at HE
    have g3 : (((cls c : Nat) : Int) == 3) = true := by rw [k3]; rfl
    clear k3
    go_wp2_with fail
    refine (word_calls g s i 1 fa fe _ HS.out (by omega) hs).mono ?_
    intro e w6 hp
    obtain ⟨k, a, b, t, n, ok, he, _, hK6, hend⟩ := (hp.end_ HK.out).forms
    obtain ⟨_, _, _, _, _, _, _, _, hKp6, _⟩ := hp.forms
    subst he
    have hz6 := (hKp6.blk (z := w.heap.size) hls hne).trans HZp.out
    obtain ⟨⟨z0, z1, z2, z3, z4⟩, f0, f1, f2, f3, f4⟩ := tk_cells (zt_tk ▸ hz6)
    have hend' := Lib.hid hend
    have hK6' := Lib.hid hK6
    clear hend hK6 hKp6 hp hz6 c0 c1
    go_wp2_with fail
    exact bodyPost_ret (v := .tuple #[.agg #[.int .i64 k, .int .i64 a, .int .i64 b, .string t, .int .i64 n], .bool ok]) (by simp [results, Tryd.results24, go_sem, *]) rfl (by rw [HE.out]; exact hend'.out _ (fun _ _ _ h => h.set5 hn4 _ _ _ _ _) (hK6'.out.set5 (Nat.le_refl _) _ _ _ _ _))
  · rw [if_neg k3] at HE
    have g3 : (((cls c : Nat) : Int) == 3) = false := beq_eq_false_iff_ne.2 (by omega)
    by_cases k4 : cls c = 4
    · rw [if_pos k4] at HE
      have g4 : (((cls c : Nat) : Int) == 4) = true := by rw [k4]; rfl
      clear k4 k3
      go_wp2_with fail
      refine (word_calls g s i 2 fa fe _ HS.out (by omega) hs).mono ?_
      intro e w6 hp
      obtain ⟨k, a, b, t, n, ok, he, _, hK6, hend⟩ := (hp.end_ HK.out).forms
      obtain ⟨_, _, _, _, _, _, _, _, hKp6, _⟩ := hp.forms
      subst he
      have hz6 := (hKp6.blk (z := w.heap.size) hls hne).trans HZp.out
      obtain ⟨⟨z0, z1, z2, z3, z4⟩, f0, f1, f2, f3, f4⟩ := tk_cells (zt_tk ▸ hz6)
      have hend' := Lib.hid hend
      have hK6' := Lib.hid hK6
      clear hend hK6 hKp6 hp hz6 c0 c1
      go_wp2_with fail
      exact bodyPost_ret (v := .tuple #[.agg #[.int .i64 k, .int .i64 a, .int .i64 b, .string t, .int .i64 n], .bool ok]) (by simp [results, Tryd.results24, go_sem, *]) rfl (by rw [HE.out]; exact hend'.out _ (fun _ _ _ h => h.set5 hn4 _ _ _ _ _) (hK6'.out.set5 (Nat.le_refl _) _ _ _ _ _))
    · rw [if_neg k4] at HE
      have g4 : (((cls c : Nat) : Int) == 4) = false := beq_eq_false_iff_ne.2 (by omega)
      by_cases k2 : cls c = 2
      · rw [if_pos k2] at HE
        have g2 : (((cls c : Nat) : Int) == 2) = true := by rw [k2]; rfl
        clear k2 k3 k4
        go_wp2_with fail
        refine (number_calls g s i fa fe _ HS.out HGp.out hg hi hs).mono ?_
        intro e w6 hp
        obtain ⟨k, a, b, t, n, ok, he, _, hK6, hend⟩ := (hp.end_ HK.out).forms
        obtain ⟨_, _, _, _, _, _, _, _, hKp6, _⟩ := hp.forms
        subst he
        have hz6 := (hKp6.blk (z := w.heap.size) hls hne).trans HZp.out
        obtain ⟨⟨z0, z1, z2, z3, z4⟩, f0, f1, f2, f3, f4⟩ := tk_cells (zt_tk ▸ hz6)
        have hend' := Lib.hid hend
        have hK6' := Lib.hid hK6
        clear hend hK6 hKp6 hp hz6 c0 c1
        go_wp2_with fail
        exact bodyPost_ret (v := .tuple #[.agg #[.int .i64 k, .int .i64 a, .int .i64 b, .string t, .int .i64 n], .bool ok]) (by simp [results, Tryd.results24, go_sem, *]) rfl (by rw [HE.out]; exact hend'.out _ (fun _ _ _ h => h.set5 hn4 _ _ _ _ _) (hK6'.out.set5 (Nat.le_refl _) _ _ _ _ _))
      · rw [if_neg k2] at HE
        have g2 : (((cls c : Nat) : Int) == 2) = false := beq_eq_false_iff_ne.2 (by omega)
        by_cases k7 : cls c = 7
        · rw [if_pos k7] at HE
          have g7 : (((cls c : Nat) : Int) == 7) = true := by rw [k7]; rfl
          clear k7 k2 k3 k4
          go_wp2_with fail
          refine (quoted_calls g s i fa fe _ HS.out hi hs).mono ?_
          intro e w6 hp
          obtain ⟨k, a, b, t, n, ok, he, _, hK6, hend⟩ := (hp.end_ HK.out).forms
          obtain ⟨_, _, _, _, _, _, _, _, hKp6, _⟩ := hp.forms
          subst he
          have hz6 := (hKp6.blk (z := w.heap.size) hls hne).trans HZp.out
          obtain ⟨⟨z0, z1, z2, z3, z4⟩, f0, f1, f2, f3, f4⟩ := tk_cells (zt_tk ▸ hz6)
          have hend' := Lib.hid hend
          have hK6' := Lib.hid hK6
          clear hend hK6 hKp6 hp hz6 c0 c1
          go_wp2_with fail
          exact bodyPost_ret (v := .tuple #[.agg #[.int .i64 k, .int .i64 a, .int .i64 b, .string t, .int .i64 n], .bool ok]) (by simp [results, Tryd.results24, go_sem, *]) rfl (by rw [HE.out]; exact hend'.out _ (fun _ _ _ h => h.set5 hn4 _ _ _ _ _) (hK6'.out.set5 (Nat.le_refl _) _ _ _ _ _))
        · rw [if_neg k7] at HE
          have g7 : (((cls c : Nat) : Int) == 7) = false := beq_eq_false_iff_ne.2 (by omega)
          by_cases k6 : cls c = 6
          · rw [if_pos k6] at HE
            have g6 : (((cls c : Nat) : Int) == 6) = true := by rw [k6]; rfl
            clear k7 k2 k3 k4 k6
            go_wp2_with fail
            refine (take_calls g s i (i + 1) 7 fa fe _ HS.out (by omega) (by omega)).mono ?_
            rintro e w4 ⟨rfl, hS4, hK4⟩
            have hz4 := (hK4.blk (z := w.heap.size) hls hne).trans HZp.out
            obtain ⟨⟨z0, z1, z2, z3, z4⟩, f0, f1, f2, f3, f4⟩ := tk_cells (zt_tk ▸ hz4)
            have hKw := Lib.hid (HK.out.trans hK4)
            have hS4' := Lib.hid hS4
            clear hS4 hK4 hz4 c0 c1
            rw [extract_eq]
            generalize (s.data.toList.drop i).take 1 = l at HE ⊢
            go_wp2_with fail
            exact bodyPost_ret (v := .tuple #[.agg #[.int .i64 7, .int .i64 i, .int .i64 ((i : Int) + 1), .string ⟨l.toArray⟩, .int .i64 0], .bool true]) (by simp [results, Tryd.results24, go_sem, *]) rfl (by rw [HE.out]; exact ⟨rfl, hS4'.out.set5 hn4 _ _ _ _ _, hKw.out.set5 (Nat.le_refl _) _ _ _ _ _⟩)
          · rw [if_neg k6] at HE
            have g6 : (((cls c : Nat) : Int) == 6) = false := beq_eq_false_iff_ne.2 (by omega)
            by_cases k5 : cls c = 5
            · rw [if_pos k5] at HE
              have g5 : (((cls c : Nat) : Int) == 5) = true := by rw [k5]; rfl
              clear k7 k2 k3 k4 k6 k5
              go_wp2_with fail
              refine (op_calls g s i fa fe _ HS.out hi hs).mono ?_
              intro e w6 hp
              obtain ⟨k, a, b, t, n, ok, he, _, hK6, hend⟩ := (hp.end_ HK.out).forms
              obtain ⟨_, _, _, _, _, _, _, _, hKp6, _⟩ := hp.forms
              subst he
              have hz6 := (hKp6.blk (z := w.heap.size) hls hne).trans HZp.out
              obtain ⟨⟨z0, z1, z2, z3, z4⟩, f0, f1, f2, f3, f4⟩ := tk_cells (zt_tk ▸ hz6)
              have hend' := Lib.hid hend
              have hK6' := Lib.hid hK6
              clear hend hK6 hKp6 hp hz6 c0 c1
              go_wp2_with fail
              exact bodyPost_ret (v := .tuple #[.agg #[.int .i64 k, .int .i64 a, .int .i64 b, .string t, .int .i64 n], .bool ok]) (by simp [results, Tryd.results24, go_sem, *]) rfl (by rw [HE.out]; exact hend'.out _ (fun _ _ _ h => h.set5 hn4 _ _ _ _ _) (hK6'.out.set5 (Nat.le_refl _) _ _ _ _ _))
            · rw [if_neg k5] at HE
              have g5 : (((cls c : Nat) : Int) == 5) = false := beq_eq_false_iff_ne.2 (by omega)
              clear k7 k2 k3 k4 k6 k5
              go_wp2_with fail
              refine (fail_calls g s i fa fe i 20 _ HS.out).mono ?_
              rintro e w4 ⟨rfl, hS4, hK4⟩
              have hz4 := (hK4.blk (z := w.heap.size) hls hne).trans HZp.out
              obtain ⟨⟨z0, z1, z2, z3, z4⟩, f0, f1, f2, f3, f4⟩ := tk_cells (zt_tk ▸ hz4)
              have hKw := Lib.hid (HK.out.trans hK4)
              have hS4' := Lib.hid hS4
              clear hS4 hK4 hz4 c0 c1
              go_wp2_with fail
              exact bodyPost_ret (v := .tuple #[.agg #[.int .i64 0, .int .i64 0, .int .i64 0, .string ⟨#[]⟩, .int .i64 0], .bool false]) (by simp [results, Tryd.results24, go_sem, *]) rfl (by rw [HE.out]; exact ⟨rfl, hS4'.out.set5 hn4 _ _ _ _ _, hKw.out.set5 (Nat.le_refl _) _ _ _ _ _⟩)
end Go.Proofs.YtiioanpmfpefcaaDoor.Tok
/- The tokens, one behind the other. -/
namespace Go.Proofs.YtiioanpmfpefcaaDoor.Tok
open Go.RowKit Go.Proofs.YtiioanpmfpefcaaDoor.P Go.Proofs.YtiioanpmfpefcaaDoorW.PrintWords
attribute [local go_sem] Oper.semAt_some

/-- The tokens from a place on, and the fault that ends them. -/
def toks (l : List UInt8) : Nat → Nat → List S41 × Option (Nat × Int)
  | 0, _ => ([], none)
  | f + 1, i =>
    if (skpL (l.drop i)).2 = false then ([], some (i + (skpL (l.drop i)).1, 23))
    else if l.length ≤ i + (skpL (l.drop i)).1 then ([], none)
    else match oneL (l.drop (i + (skpL (l.drop i)).1)) with
      | .bad d e => ([], some (i + (skpL (l.drop i)).1 + d, e))
      | .tok k n t v =>
        (⟨k, ((i + (skpL (l.drop i)).1 : Nat) : Int), ((i + (skpL (l.drop i)).1 + n : Nat) : Int), ⟨t.toArray⟩, v⟩ :: (toks l f (i + (skpL (l.drop i)).1 + n)).1, (toks l f (i + (skpL (l.drop i)).1 + n)).2)
theorem opFrom_len {m : Nat} {l : List UInt8} {k : Int} {n : Nat} {t : List UInt8} {v : Int} (h : opFrom m l = .tok k n t v) : 1 ≤ n ∧ n ≤ m := by
  induction m with
  | zero => simp [opFrom] at h
  | succ m ih =>
    rw [opFrom] at h
    split at h
    · injection h with _ h2 _ _; omega
    · have := ih h; omega
theorem skip_le : ∀ (f : Nat) (l : List UInt8), (skp f l).1 ≤ l.length
  | 0, _ => by simp [skp]
  | f + 1, [] => by simp [skp]
  | f + 1, c :: t => by
    rw [skp]
    split
    · have := skip_le f ((c :: t).drop 1); simp only [List.length_drop, List.length_cons] at this ⊢; omega
    · split
      · have := skip_le f ((c :: t).drop (runL isRow (c :: t))); have h2 := runL_le isRow (c :: t); simp only [List.length_drop] at this; (try simp only); omega
      · split
        · split
          · simp
          · next n hn => have := skip_le f ((c :: t).drop n); have h2 := note_le _ _ _ _ hn; simp only [List.length_drop] at this; (try simp only); omega
        · simp
theorem qs_le (q : UInt8) : ∀ (f : Nat) (l acc r : List UInt8) (m : Nat), qs q f l acc = some (r, m) → m ≤ l.length
  | 0, _, _, _, _, h => by simp [qs] at h
  | f + 1, l, acc, r, m, h => by
    rw [qs.eq_def] at h
    simp only at h
    split at h
    · cases h
    · next c t =>
      split at h
      · simp only [Option.some.injEq, Prod.mk.injEq] at h; obtain ⟨_, rfl⟩ := h; simp
      · split at h
        · cases h
        · next b n hu =>
          split at h
          · cases h
          · obtain ⟨⟨r', m'⟩, h1, h2⟩ := Option.map_eq_some_iff.1 h
            simp only [Prod.mk.injEq] at h2
            have := qs_le q f _ _ _ _ h1
            have h3 := unescL_le hu
            rw [List.length_drop] at this
            omega
theorem qsL_le {q : UInt8} {l acc r : List UInt8} {m : Nat} (h : qsL q l acc = some (r, m)) : m ≤ l.length := qs_le q _ _ _ _ _ h
theorem one_len {c : UInt8} {u : List UInt8} {k : Int} {n : Nat} {t : List UInt8} {v : Int} (h : oneL (c :: u) = .tok k n t v) : 1 ≤ n ∧ n ≤ (c :: u).length := by
  have hw : ∀ kk, (cls c = 3 ∨ cls c = 4) → wordL kk (c :: u) = .tok k n t v → 1 ≤ n ∧ n ≤ (c :: u).length := fun kk hc h => by
    unfold wordL at h
    split at h
    · cases h
    · injection h with _ h2 _ _
      have h3 : isInner c = true := by unfold isInner; rcases hc with hc | hc <;> simp [hc]
      have := runL_le isInner (c :: u)
      refine ⟨?_, by omega⟩
      rw [← h2]; unfold runL; rw [List.takeWhile_cons, h3]; simp
  unfold oneL at h
  simp only at h
  split at h
  · next hc => exact hw _ (.inl hc) h
  · split at h
    · next hc => exact hw _ (.inr hc) h
    · split at h
      · next hc =>
        unfold numL at h
        split at h
        · cases h
        · split at h
          · cases h
          · injection h with _ h2 _ _
            have h3 : isDig c = true := by unfold isDig; simp [hc]
            have := runL_le isDig (c :: u)
            refine ⟨?_, by omega⟩
            rw [← h2]; unfold runL; rw [List.takeWhile_cons, h3]; simp
      · split at h
        · unfold quotedL at h
          simp only at h
          split at h
          · cases h
          · next acc m hq =>
            split at h
            · cases h
            · injection h with _ h2 _ _
              have := qsL_le hq
              simp only [List.length_cons]
              omega
        · split at h
          · injection h with _ h2 _ _; simp only [List.length_cons]; omega
          · split at h
            · unfold opL at h
              have := opFrom_len h
              simp only [List.length_cons] at this ⊢
              omega
            · cases h
end Go.Proofs.YtiioanpmfpefcaaDoor.Tok
/- The tokens' iterator. -/
namespace Go.Proofs.YtiioanpmfpefcaaDoor.Tok
open Go.RowKit Go.Proofs.YtiioanpmfpefcaaDoor.P Go.Proofs.YtiioanpmfpefcaaDoorW.PrintWords
attribute [local go_sem] Oper.semAt_some
def encT (x : S41) : Value := .agg #[.int .i64 x.f0, .int .i64 x.f1, .int .i64 x.f2, .string x.f3, .int .i64 x.f4]
/-- What a round keeps: every old block but one. -/
def KG (B b : Nat) (W W' : World) : Prop := W.heap.size ≤ W'.heap.size ∧ ∀ k, k < B → k ≠ b → W'.heap[k]? = W.heap[k]?
theorem GOK.kg {B b : Nat} {W W' : World} (h : GOK W) (hB : 3 < B) (hb : 3 < b) (hk : KG B b W W') : GOK W' := by
  obtain ⟨⟨e2, h2, k2⟩, e3, h3, k3⟩ := h
  exact ⟨⟨e2, (cell_same (hk.2 _ (by omega) (by omega))).trans h2, k2⟩, e3, (cell_same (hk.2 _ (by omega) (by omega))).trans h3, k3⟩
/-- The box of the scanner's pointer. -/
def Bx (bx g : Nat) (w : World) : Prop := w.heap[bx]? = some (.cells #[.pointer (some ⟨g, 0, none⟩)] 44 (0, 0))
theorem Bx.c {bx g : Nat} {w : World} (h : Bx bx g w) : w.cell? ⟨bx, 0, none⟩ = some (.pointer (some ⟨g, 0, none⟩)) := by rw [Lib.cell_of_heap h]; rfl
theorem Bx.kp {bx g : Nat} {w w' : World} (h : Bx bx g w) (hk : Kp g w w') (hne : ¬ bx = g) : Bx bx g w' := (hk.blk (Lib.heap_lt h) hne).trans h
theorem Bx.drewN {bx g : Nat} {w : World} (h : Bx bx g w) (n : Nat) : Bx bx g (w.drewN n) := h
theorem skip_true (g bx : Nat) (s : ByteArray) (i : Nat) (fa fe : Int) (w : World) (h : Sc g s i fa fe w) (hb : Bx bx g w) (hne : ¬ bx = g) (hi : i ≤ s.size) (hs : s.size ≤ 140737488351232) (ht : (skpL (s.data.toList.drop i)).2 = true) :
    Calls Tryd.prog 23 #[.pointer (some ⟨g, 0, none⟩)] w fun e w' => e = .returned (.bool true) ∧ w'.cell? ⟨bx, 0, none⟩ = some (.pointer (some ⟨g, 0, none⟩)) ∧ w'.cell? ⟨g, 0, none⟩ = some (.string s) ∧ w'.cell? ⟨g, 1, none⟩ = some (.int .i64 ((i + (skpL (s.data.toList.drop i)).1 : Nat) : Int)) ∧ Hid (Sc g s (i + (skpL (s.data.toList.drop i)).1) fa fe w') ∧ Hid (Kp g w w') :=
  (skip_calls g s i fa fe w h hi hs).mono fun e w' hp => by
    rcases hp with ⟨_, h1, h2, h3⟩ | ⟨j, h0, _⟩
    · exact ⟨h1, (hb.kp h3 hne).c, h2.c0, h2.c1, Lib.hid h2, Lib.hid h3⟩
    · rw [ht] at h0; cases h0
theorem skip_false (g : Nat) (s : ByteArray) (i : Nat) (fa fe : Int) (w : World) (h : Sc g s i fa fe w) (hi : i ≤ s.size) (hs : s.size ≤ 140737488351232) (ht : (skpL (s.data.toList.drop i)).2 = false) :
    Calls Tryd.prog 23 #[.pointer (some ⟨g, 0, none⟩)] w fun e w' => e = .returned (.bool false) ∧ Hid (∃ j, Sc g s j ((i + (skpL (s.data.toList.drop i)).1 : Nat) : Int) 23 w') ∧ Hid (Kp g w w') :=
  (skip_calls g s i fa fe w h hi hs).mono fun e w' hp => by
    rcases hp with ⟨h0, _⟩ | ⟨j, _, h1, h2, h3⟩
    · rw [ht] at h0; cases h0
    · exact ⟨h1, Lib.hid ⟨j, h2⟩, Lib.hid h3⟩
theorem to_in {id n : Nat} {P : Program} {ops : Array Oper} {Q : Exit → Act → World → Prop} {a : Act} {w : World} (h : (Code.region (id + 2) ops false).wpIn Fence.wide n P Q a w) : (Code.region (id + 2) ops false).wp P Q a w := wpIn_wide.1 h
def TokEnd (g : Nat) (s : ByteArray) (T : List S41 × Option (Nat × Int)) (J Jx : List S41 → World → Prop) (e : Ending) (W' : World) : Prop :=
  (∃ v, e = .returned v) ∧ ((∃ j fa fe, J T.1 W' ∧ Sc g s j fa fe W' ∧ GOK W' ∧ (match T.2 with | none => fa = 0 ∧ fe = 0 | some (a, e) => fa = (a : Int) ∧ fe = e)) ∨ ∃ pre x rest, T.1 = pre ++ x :: rest ∧ Jx (pre ++ [x]) W')

set_option maxHeartbeats 4000000 in
set_option maxRecDepth 100000 in
theorem tokens1_calls (g bx B b m l : Nat) (s : ByteArray) (W : World) (J Jx : List S41 → World → Prop) (hS : Sc g s 0 0 0 W) (hG : GOK W) (hg : 3 < g) (hgB : g < B) (hbx : Bx bx g W) (hbB : bx < B) (hgb : ¬ g = b) (hxb : ¬ bx = b) (hxg : ¬ bx = g) (h3b : 3 < b) (hs : s.size ≤ 140737488351232)
    (hJ : ∀ pre A A', J pre A → Kp g A A' → J pre A')
    (hY : ∀ pre x rest W1, J pre W1 → (∃ j, Sc g s j 0 0 W1) → (toks s.data.toList (s.size + 1) 0).1 = pre ++ x :: rest → YieldAt Fence.wide m Tryd.prog l #[encT x] W1 fun e W' => (e = .returned (.bool true) ∧ J (pre ++ [x]) W' ∧ KG B b W1 W') ∨ (e = .returned (.bool false) ∧ Jx (pre ++ [x]) W'))
    (h0 : J [] W) :
    Calls Tryd.prog 22 #[.func (.yield l) #[] #[], .pointer (some ⟨bx, 0, none⟩)] W (TokEnd g s (toks s.data.toList (s.size + 1) 0) J Jx) := by
  have HS := Lib.hid hS; have HG := Lib.hid hG; have HB := Lib.hid hbx; have HJ := Lib.hid hJ; have HY := Lib.hid hY; have H0 := Lib.hid h0
  clear hS hG hbx hJ hY h0
  generalize hT : toks s.data.toList (s.size + 1) 0 = T at HY ⊢
  have HT := Lib.hid hT
  clear hT
  go_enter Tryd.func22, Tryd.ntmps22
  go_wp2_with fail
  go_loopg [] (s.size + 1) (fun kq wr => ∃ (pre : List S41) (j : Nat), j ≤ s.size ∧ s.size - j < kq ∧ Hid (J pre wr) ∧ Hid (Sc g s j 0 0 wr) ∧ Hid (GOK wr) ∧ Hid (Bx bx g wr) ∧ Hid (T = (pre ++ (toks s.data.toList kq j).1, (toks s.data.toList kq j).2)))
  case atStart => exact ⟨[], 0, by omega, by omega, H0, HS, HG, HB, Lib.hid (by rw [← HT.out]; rfl)⟩
  case round =>
    obtain ⟨pre, j, hj, hk, HJ1, HS1, HG1, HB1, HE⟩ := hrel
    clear HS HG HB H0 HT
    rcases gk with _ | f
    · omega
    have hE := HE.out
    rw [toks] at hE
    clear HE
    have cb := HB1.out.c
    cases hr2 : (skpL (s.data.toList.drop j)).2 with
    | false =>
      rw [if_pos hr2] at hE
      have HE := Lib.hid hE
      clear hE
      have HR := Lib.hid hr2
      clear hr2
      go_wp2_with fail
      refine wp_region_head 3 (by kernel_rfl) (by kernel_rfl) ?_
      simp only [List.take_succ_cons, List.take_zero, List.drop_succ_cons, List.drop_zero]
      refine wpHead_step (fun K hK => ?_)
      go_simp
      refine hK _ _ ?_
      clear hK K
      refine wpHead_step (fun K hK => ?_)
      go_simp
      (refine (skip_false g s j 0 0 _ (HS1.out.drewN 1) hj hs HR.out).mono ?_; rintro e w3 ⟨rfl, H3, K3⟩)
      refine hK _ _ ?_
      clear hK K
      refine wpHead_step (fun K hK => ?_)
      go_simp
      refine hK _ _ ?_
      clear hK K
      unfold wpHead
      repeat (go_big_quiet_step (fail))
      refine wpQuiet_nil ?_
      intro _ hw'
      obtain ⟨nq, hw''⟩ := hw'
      subst hw''
      have KW : Hid (Kp g wr (w3.drewN nq)) := Lib.hid ((((Kp.refl g wr).drewN 1).trans K3.out).drewN nq)
      go_wp2_with fail
      refine bodyPost_ret (v := .tuple #[]) (by simp [results, go_sem]) rfl ⟨⟨_, rfl⟩, .inl ?_⟩
      obtain ⟨j3, h3⟩ := H3.out
      exact ⟨j3, _, _, by rw [HE.out]; simp only [List.append_nil]; exact HJ.out _ _ _ HJ1.out KW.out, h3.drewN nq, HG1.out.kp hg KW.out, by rw [HE.out]; exact ⟨rfl, rfl⟩⟩
    | true =>
      rw [if_neg (by rw [hr2]; exact fun h => Bool.noConfusion h)] at hE
      have hrl := skip_le ((s.data.toList.drop j).length + 1) (s.data.toList.drop j)
      rw [← skpL, List.length_drop, ← size_eq] at hrl
      have hsk := fun (w : World) (h : Sc g s j 0 0 w) (hb : Bx bx g w) => skip_true g bx s j 0 0 w h hb hxg hj hs hr2
      obtain ⟨p, hp⟩ : ∃ p, j + (skpL (s.data.toList.drop j)).1 = p := ⟨_, rfl⟩
      rw [hp] at hE hsk
      have hp1 : p ≤ s.size := by omega
      have hp2 : j ≤ p := by omega
      have HSK := Lib.hid hsk
      clear hsk hp hrl hr2
      rw [← size_eq] at hE
      by_cases hend : s.size ≤ p
      · rw [if_pos hend] at hE
        have HE := Lib.hid hE
        clear hE
        have g1 : decide ((p : Int) < (s.size : Int)) = false := decide_eq_false (by omega)
        go_wp2_with fail
        refine wp_region_head 3 (by kernel_rfl) (by kernel_rfl) ?_
        simp only [List.take_succ_cons, List.take_zero, List.drop_succ_cons, List.drop_zero]
        refine wpHead_step (fun K hK => ?_)
        go_simp
        refine hK _ _ ?_
        clear hK K
        refine wpHead_step (fun K hK => ?_)
        go_simp
        (refine (HSK.out _ (HS1.out.drewN 1) (HB1.out.drewN 1)).mono ?_; rintro e w3 ⟨rfl, d0, d1, d2, H3, K3⟩)
        refine hK _ _ ?_
        clear hK K
        refine wpHead_step (fun K hK => ?_)
        go_simp
        refine hK _ _ ?_
        clear hK K
        unfold wpHead
        repeat (go_big_quiet_step (fail))
        refine wpQuiet_nil ?_
        intro _ hw'
        obtain ⟨nq, hw''⟩ := hw'
        subst hw''
        have KW : Hid (Kp g wr (w3.drewN nq)) := Lib.hid ((((Kp.refl g wr).drewN 1).trans K3.out).drewN nq)
        go_wp2_with fail
        refine bodyPost_ret (v := .tuple #[]) (by simp [results, go_sem]) rfl ⟨⟨_, rfl⟩, .inl ?_⟩
        exact ⟨_, 0, 0, by rw [HE.out]; simp only [List.append_nil]; exact HJ.out _ _ _ HJ1.out KW.out, H3.out.drewN nq, HG1.out.kp hg KW.out, by rw [HE.out]; exact ⟨rfl, rfl⟩⟩
      · rw [if_neg hend] at hE
        have g1 : decide ((p : Int) < (s.size : Int)) = true := decide_eq_true (by omega)
        have g2 : (p : Int) < (s.size : Int) := by omega
        go_wp2_with fail
        refine wp_region_head 3 (by kernel_rfl) (by kernel_rfl) ?_
        simp only [List.take_succ_cons, List.take_zero, List.drop_succ_cons, List.drop_zero]
        refine wpHead_step (fun K hK => ?_)
        go_simp
        refine hK _ _ ?_
        clear hK K
        refine wpHead_step (fun K hK => ?_)
        go_simp
        (refine (HSK.out _ (HS1.out.drewN 1) (HB1.out.drewN 1)).mono ?_; rintro e w3 ⟨rfl, d0, d1, d2, H3, K3⟩)
        refine hK _ _ ?_
        clear hK K
        refine wpHead_step (fun K hK => ?_)
        go_simp
        refine hK _ _ ?_
        clear hK K
        unfold wpHead
        repeat (go_big_quiet_step (fail))
        refine wpQuiet_nil ?_
        intro _ hw'
        obtain ⟨nq, hw''⟩ := hw'
        subst hw''
        have KW : Hid (Kp g wr (w3.drewN nq)) := Lib.hid ((((Kp.refl g wr).drewN 1).trans K3.out).drewN nq)
        have HS2 := Lib.hid (H3.out.drewN nq)
        have HB2 := Lib.hid (HB1.out.kp KW.out hxg)
        have HG2 := Lib.hid (HG1.out.kp hg KW.out)
        have HJ2 := Lib.hid (HJ.out _ _ _ HJ1.out KW.out)
        clear HS1 HG1 HB1 HJ1 d0 d1 d2 H3 K3 cb
        generalize w3.drewN nq = wq at KW HS2 HB2 HG2 HJ2 ⊢
        have cb := HB2.out.c
        have hcall := one_calls g s p 0 0 wq HS2.out HG2.out hg (by omega) hs
        cases h1 : oneL (s.data.toList.drop p) with
        | bad d er =>
          rw [h1] at hE hcall
          have HE := Lib.hid hE
          have HC := Lib.hid hcall
          clear hE hcall
          go_wp2_with fail
          refine HC.out.mono ?_
          rintro e w4 ⟨rfl, h4, k4⟩
          have K4 := Lib.hid k4
          have H4 := Lib.hid h4
          clear h4 k4 cb
          go_wp2_with fail
          refine bodyPost_ret (v := .tuple #[]) (by simp [results, go_sem]) rfl ⟨⟨_, rfl⟩, .inl ?_⟩
          exact ⟨p, _, _, by rw [HE.out]; simp only [List.append_nil]; exact HJ.out _ _ _ HJ2.out (K4.out.alloc _), H4.out.alloc _, HG2.out.kp hg (K4.out.alloc _), by rw [HE.out]; exact ⟨rfl, rfl⟩⟩
        | tok k n t v =>
          rw [h1] at hE hcall
          have HE := Lib.hid hE
          have HC := Lib.hid hcall
          clear hE hcall
          go_wp2_with fail
          refine HC.out.mono ?_
          rintro e w4 ⟨rfl, h4, k4⟩
          have K4 := Lib.hid k4
          have H4 := Lib.hid h4
          clear h4 k4 cb
          go_simp
          iterate 22 (first | go_values | go_skip | go_guarded | go_step | go_upon | go_simp)
          have HJ5 := HJ.out _ _ _ HJ2.out (K4.out.alloc (tk k p ((p : Int) + n) ⟨t.toArray⟩ v))
          obtain ⟨fn, tmps, assign, body, hy, hR⟩ := HY.out pre ⟨k, (p : Int), ((p + n : Nat) : Int), ⟨t.toArray⟩, v⟩ _ _ HJ5 ⟨p + n, H4.out.alloc _⟩ (by rw [HE.out])
          have e5 : (tk k p ((p : Int) + n) ⟨t.toArray⟩ v) = Obj.cells #[.int .i64 k, .int .i64 p, .int .i64 ((p : Int) + n), .string ⟨t.toArray⟩, .int .i64 v] 41 := rfl
          rw [← e5]
          have HS5 := Lib.hid (H4.out.alloc (tk k p ((p : Int) + n) ⟨t.toArray⟩ v))
          have HK5 := Lib.hid (K4.out.alloc (tk k p ((p : Int) + n) ⟨t.toArray⟩ v))
          have ht5 : (w4.alloc (tk k p ((p : Int) + n) ⟨t.toArray⟩ v)).heap[w4.heap.size]? = some (tk k p ((p : Int) + n) ⟨t.toArray⟩ v) := by unfold World.alloc; exact Array.getElem?_push_size
          have hl : 1 ≤ n ∧ n ≤ s.size - p := by
            obtain ⟨c, _, hc⟩ := drop_cons0 (s := s) (j := p) (by omega)
            rw [hc] at h1
            have := one_len h1
            rw [← hc, List.length_drop, ← size_eq] at this
            exact this
          generalize w4.alloc (tk k p ((p : Int) + n) ⟨t.toArray⟩ v) = w5 at HS5 HK5 ht5 hy hR HJ5 ⊢
          have HB5 := Lib.hid (HB2.out.kp HK5.out hxg)
          have HG5 := Lib.hid (HG2.out.kp hg HK5.out)
          clear H4 K4 HJ5 HJ2 HB2 HG2 HS2 KW e5 h1
          have hyv : (Instr.yield l #[.agg #[.int .i64 k, .int .i64 p, .int .i64 ((p : Int) + n), .string ⟨t.toArray⟩, .int .i64 v]]).run Tryd.prog w5 = .ok (.round l fn tmps assign body) w5 := hy
          obtain ⟨⟨t0, t1, t2, t3, t4⟩, k0, k1, k2, k3, k4⟩ := tk_cells ht5
          have HR5 := Lib.hid hR
          clear hy hR ht5
          refine (wpIn_wide (n := m + 1)).1 ?_
          gi_wp2
          refine HR5.out.mono ?_
          rintro e w6 (⟨rfl, hJ6, hk6⟩ | ⟨rfl, hJx6⟩)
          · have HS6 : Hid (Sc g s (p + n) 0 0 w6) := Lib.hid ((hk6.2 g hgB hgb).trans HS5.out)
            have HB6 : Hid (Bx bx g w6) := Lib.hid ((hk6.2 bx hbB hxb).trans HB5.out)
            have HG6 := Lib.hid (HG5.out.kg (by omega) h3b hk6)
            have HJ6 := Lib.hid hJ6
            clear hJ6 hk6 HS5 HB5 HG5 HK5 HR5 t0 t1 t2 t3 t4 k0 k1 k2 k3 k4
            gi_wp2
            go_wp2_with fail
            go_roundg f
            case measure => omega
            case rel => exact ⟨pre ++ [_], p + n, by omega, by omega, HJ6, HS6, HG6, HB6, Lib.hid (by rw [HE.out]; simp)⟩
          · have HJ6 := Lib.hid hJx6
            clear hJx6 HS5 HB5 HG5 HK5 HR5 t0 t1 t2 t3 t4 k0 k1 k2 k3 k4
            gi_wp2
            go_wp2_with fail
            refine bodyPost_ret (v := .tuple #[]) (by simp [results, go_sem]) rfl ⟨⟨_, rfl⟩, .inr ?_⟩
            exact ⟨pre, _, _, by rw [HE.out], HJ6.out⟩
end Go.Proofs.YtiioanpmfpefcaaDoor.Tok
