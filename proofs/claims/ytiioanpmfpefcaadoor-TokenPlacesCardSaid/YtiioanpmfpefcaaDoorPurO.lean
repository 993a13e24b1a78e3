/- What a token and what is skipped hang on: the bytes that they take, and that no byte goes on behind them. -/
import Derived.Test.YtiioanpmfpefcaaDoorTokK
import Derived.Test.YtiioanpmfpefcaaDoorPurP
import Derived.Test.YtiioanpmfpefcaaDoorJoin
import Derived.Lib.ItoaLen
namespace Go.Proofs.YtiioanpmfpefcaaDoor.Loc
open Go.RowKit Go.Proofs.YtiioanpmfpefcaaDoor.P Go.Proofs.YtiioanpmfpefcaaDoorW.PrintWords Go.Proofs.YtiioanpmfpefcaaDoor.Tok
/-- Nothing, or a blank or a line feed first. -/
def Sep (y : List UInt8) : Prop := y = [] ∨ ∃ b z, y = b :: z ∧ (b = 10 ∨ b = 32)
theorem sep_inner {y : List UInt8} (h : Sep y) : badNext y = false := by
  rcases h with rfl | ⟨b, z, rfl, rfl | rfl⟩
  · rfl
  · show (isInner 10 && (10 : UInt8) != 39) = false; decide
  · show (isInner 32 && (32 : UInt8) != 39) = false; decide
theorem sep_run (p : UInt8 → Bool) (h10 : p 10 = false) (h32 : p 32 = false) {y : List UInt8} (h : Sep y) : runL p y = 0 := by
  rcases h with rfl | ⟨b, z, rfl, rfl | rfl⟩
  · rfl
  · unfold runL; rw [List.takeWhile_cons, h10]; rfl
  · unfold runL; rw [List.takeWhile_cons, h32]; rfl
theorem run_cons (p : UInt8 → Bool) (c : UInt8) (t : List UInt8) : runL p (c :: t) = if p c = true then runL p t + 1 else 0 := by
  unfold runL; rw [List.takeWhile_cons]; split <;> simp
theorem run_loc (p : UInt8 → Bool) (y y' : List UInt8) (hy : runL p y' = 0) : ∀ (x : List UInt8), runL p (x ++ y) ≤ x.length → runL p (x ++ y') = runL p (x ++ y)
  | [], h => by
    simp only [List.nil_append, List.length_nil] at h ⊢
    omega
  | c :: x, h => by
    rw [List.cons_append, run_cons] at h ⊢
    rw [List.cons_append, run_cons]
    by_cases hc : p c = true
    · rw [if_pos hc] at h ⊢
      rw [if_pos hc, run_loc p y y' hy x (by simp only [List.length_cons] at h; omega)]
    · rw [if_neg hc, if_neg hc]
/-- A run that ends ahead of the end is a run whatever follows. -/
theorem run_in (p : UInt8 → Bool) (y y' : List UInt8) : ∀ (x : List UInt8), runL p (x ++ y) < x.length → runL p (x ++ y') = runL p (x ++ y)
  | [], h => by simp at h
  | c :: x, h => by
    rw [List.cons_append, run_cons] at h ⊢
    rw [List.cons_append, run_cons]
    by_cases hc : p c = true
    · rw [if_pos hc] at h ⊢
      rw [if_pos hc, run_in p y y' x (by simp only [List.length_cons] at h; omega)]
    · rw [if_neg hc, if_neg hc]
theorem take_loc {x y y' : List UInt8} {n : Nat} (h : n ≤ x.length) : (x ++ y').take n = (x ++ y).take n := by
  rw [List.take_append_of_le_length h, List.take_append_of_le_length h]
theorem note_loc (y y' : List UInt8) : ∀ (f : Nat) (x : List UInt8) (d n f' : Nat), note f (x ++ y) d = some n → n ≤ x.length → x.length < f' → note f' (x ++ y') d = some n
  | 0, _, _, _, _, h, _, _ => by cases h
  | f + 1, x, d, n, 0, h, h1, h2 => by omega
  | f + 1, x, d, n, f' + 1, h, h1, h2 => by
    have hn := note_le _ _ _ _ h
    have hx : x ≠ [] := by rintro rfl; simp at h1; omega
    have hxl : 0 < x.length := List.length_pos_iff.2 hx
    rw [note] at h ⊢
    rw [if_neg (by simp [hx])] at h
    rw [if_neg (by simp [hx])]
    have hdrop : ∀ (z : List UInt8) m, m ≤ x.length → (x ++ z).drop m = x.drop m ++ z := fun z m hm => List.drop_append_of_le_length hm
    by_cases c1 : (x ++ y).take 2 = [123, 45]
    · rw [if_pos c1] at h
      by_cases c2 : 100 < d + 1
      · rw [if_pos c2] at h; cases h
      · rw [if_neg c2] at h
        obtain ⟨m, hm, rfl⟩ := Option.map_eq_some_iff.1 h
        have hm1 := note_le _ _ _ _ hm
        rw [if_pos (by rw [take_loc (y := y) (by omega)]; exact c1), if_neg c2]
        rw [hdrop _ _ (by omega)] at hm
        rw [hdrop _ _ (by omega), note_loc y y' f (x.drop 2) (d + 1) m f' hm (by rw [List.length_drop]; omega) (by rw [List.length_drop]; omega)]
        rfl
    · rw [if_neg c1] at h
      by_cases c2 : (x ++ y).take 2 = [45, 125]
      · rw [if_pos c2] at h
        by_cases c3 : d = 1
        · rw [if_pos c3] at h
          have h4 := Option.some.inj h
          rw [if_neg (by rw [take_loc (y := y) (by omega)]; exact c1), if_pos (by rw [take_loc (y := y) (by omega)]; exact c2), if_pos c3, ← h4]
        · rw [if_neg c3] at h
          obtain ⟨m, hm, rfl⟩ := Option.map_eq_some_iff.1 h
          have hm1 := note_le _ _ _ _ hm
          rw [if_neg (by rw [take_loc (y := y) (by omega)]; exact c1), if_pos (by rw [take_loc (y := y) (by omega)]; exact c2), if_neg c3]
          rw [hdrop _ _ (by omega)] at hm
          rw [hdrop _ _ (by omega), note_loc y y' f (x.drop 2) (d - 1) m f' hm (by rw [List.length_drop]; omega) (by rw [List.length_drop]; omega)]
          rfl
      · rw [if_neg c2] at h
        obtain ⟨m, hm, rfl⟩ := Option.map_eq_some_iff.1 h
        have hm1 := note_le _ _ _ _ hm
        rw [if_neg (by rw [take_loc (y := y) (by omega)]; exact c1), if_neg (by rw [take_loc (y := y) (by omega)]; exact c2)]
        rw [hdrop _ _ (by omega)] at hm
        rw [hdrop _ _ (by omega), note_loc y y' f (x.drop 1) d m f' hm (by rw [List.length_drop]; omega) (by rw [List.length_drop]; omega)]
        rfl
theorem note_fuel2 (l : List UInt8) (d n f : Nat) (h : noteL l d = some n) (hf : l.length < f) : note f l d = some n := by
  rw [note_fuel f l d hf]; exact h
/-- Of two bytes, where the second one is no more there, none begins a note. -/
theorem sep_two {c : UInt8} {y : List UInt8} (h : Sep y) (b : UInt8) (hb : b ≠ 10 ∧ b ≠ 32) (a : UInt8) : (c :: y).take 2 ≠ [a, b] := by
  rcases h with rfl | ⟨d, z, rfl, hd⟩
  · simp
  · intro e
    simp only [List.take_succ_cons, List.take_zero, List.cons.injEq, and_true] at e
    obtain ⟨_, rfl⟩ := e
    rcases hd with h | h
    · exact hb.1 h
    · exact hb.2 h
theorem drop_loc {x z : List UInt8} {m : Nat} (h : m ≤ x.length) : (x ++ z).drop m = x.drop m ++ z := List.drop_append_of_le_length h
theorem take_two {a b : UInt8} {l : List UInt8} (h : l.take 2 = [a, b]) : ∃ z, l = a :: b :: z := by
  match l, h with
  | [], h => simp at h
  | [c], h => simp at h
  | c :: d :: z, h => simp at h; obtain ⟨rfl, rfl⟩ := h; exact ⟨z, rfl⟩
/-- What a skip goes by at a byte: the same where what follows is cut off, or another. -/
theorem two_same (c : UInt8) (x y y' : List UInt8) (hy : Sep y') (a b : UInt8) (hb : b ≠ 10 ∧ b ≠ 32) (h : (c :: (x ++ y)).take 2 ≠ [a, b]) : (c :: (x ++ y')).take 2 ≠ [a, b] := by
  cases x with
  | nil => exact sep_two hy b hb a
  | cons d x => simpa using h
theorem skp_loc (y y' : List UInt8) (hy : Sep y') : ∀ (f : Nat) (x : List UInt8) (d f' : Nat), (x ++ y).length < f → skp f (x ++ y) = (d, true) → d < x.length → (x ++ y').length < f' → skp f' (x ++ y') = (d, true)
  | 0, x, d, f', h0, _, _, _ => by omega
  | f + 1, x, d, 0, _, h, h1, h2 => by omega
  | f + 1, [], d, f' + 1, _, h, h1, h2 => by simp at h1
  | f + 1, c :: x, d, f' + 1, h0, h, h1, h2 => by
    rw [List.cons_append, skp] at h
    rw [List.cons_append, skp]
    simp only [List.length_cons, List.cons_append, List.length_append] at h0 h1 h2
    by_cases c1 : cls c = 1
    · rw [if_pos c1] at h
      rw [if_pos c1]
      simp only [List.drop_succ_cons, List.drop_zero] at h ⊢
      obtain ⟨e1, e2⟩ := Prod.mk.inj h
      have := skp_loc y y' hy f x (d - 1) f' (by simp only [List.length_append]; omega) (Prod.ext (by simp only; omega) e2) (by omega) (by simp only [List.length_append]; omega)
      rw [this]
      exact Prod.ext (by simp only; omega) rfl
    · rw [if_neg c1] at h
      rw [if_neg c1]
      by_cases c2 : (c :: (x ++ y)).take 2 = [45, 45]
      · rw [if_pos c2] at h
        obtain ⟨e1, e2⟩ := Prod.mk.inj h
        obtain ⟨z, hz⟩ := take_two c2
        have hr2 : 2 ≤ runL isRow (c :: (x ++ y)) := by
          rw [hz, run_cons, if_pos (by decide), run_cons, if_pos (by decide)]; omega
        obtain ⟨r, hr⟩ : ∃ r, runL isRow (c :: (x ++ y)) = r := ⟨_, rfl⟩
        rw [hr] at e1 e2 hr2
        have hlt : runL isRow ((c :: x) ++ y) < (c :: x).length := by rw [List.cons_append, hr, List.length_cons]; omega
        have hrun := run_in isRow y y' (c :: x) hlt
        rw [List.cons_append, List.cons_append, hr] at hrun
        have hd1 : (c :: (x ++ y)).drop r = (c :: x).drop r ++ y := drop_loc (x := c :: x) (by simp only [List.length_cons]; omega)
        have hd2 : (c :: (x ++ y')).drop r = (c :: x).drop r ++ y' := drop_loc (x := c :: x) (by simp only [List.length_cons]; omega)
        rw [hd1] at e1 e2
        have := skp_loc y y' hy f ((c :: x).drop r) (d - r) f' (by simp only [List.length_append, List.length_drop, List.length_cons]; omega) (Prod.ext (by simp only; omega) e2) (by simp only [List.length_drop, List.length_cons]; omega) (by simp only [List.length_append, List.length_drop, List.length_cons]; omega)
        have ht : (c :: (x ++ y')).take 2 = [45, 45] := by
          have := take_loc (x := c :: x) (y := y) (y' := y') (n := 2) (by simp only [List.length_cons]; omega)
          rw [List.cons_append, List.cons_append] at this
          rw [this]; exact c2
        rw [if_pos ht, hrun, hd2, this]
        exact Prod.ext (by simp only; omega) rfl
      · rw [if_neg c2] at h
        rw [if_neg (two_same c x y y' hy _ _ (by decide) c2)]
        by_cases c3 : (c :: (x ++ y)).take 2 = [123, 45]
        · rw [if_pos c3] at h
          cases hn : noteL (c :: (x ++ y)) 0 with
          | none => rw [hn] at h; cases h
          | some n =>
            rw [hn] at h
            obtain ⟨e1, e2⟩ := Prod.mk.inj h
            have hnl := note_le _ _ _ _ hn
            have hnn : noteL (c :: (x ++ y')) 0 = some n := note_loc y y' _ (c :: x) 0 n _ hn (by simp only [List.length_cons]; omega) (by simp only [List.length_cons, List.length_append]; omega)
            have h2n : 2 ≤ n := by
              obtain ⟨z, hz⟩ := take_two c3
              rw [hz, noteL_step _ _ (by simp), if_pos (by simp), if_neg (by omega)] at hn
              obtain ⟨m, _, rfl⟩ := Option.map_eq_some_iff.1 hn
              omega
            have ht : (c :: (x ++ y')).take 2 = [123, 45] := by
              have := take_loc (x := c :: x) (y := y) (y' := y') (n := 2) (by simp only [List.length_cons]; omega)
              rw [List.cons_append, List.cons_append] at this
              rw [this]; exact c3
            have hd1 : (c :: (x ++ y)).drop n = (c :: x).drop n ++ y := drop_loc (x := c :: x) (by simp only [List.length_cons]; omega)
            have hd2 : (c :: (x ++ y')).drop n = (c :: x).drop n ++ y' := drop_loc (x := c :: x) (by simp only [List.length_cons]; omega)
            rw [hd1] at e1 e2
            have := skp_loc y y' hy f ((c :: x).drop n) (d - n) f' (by simp only [List.length_append, List.length_drop, List.length_cons]; omega) (Prod.ext (by simp only; omega) e2) (by simp only [List.length_drop, List.length_cons]; omega) (by simp only [List.length_append, List.length_drop, List.length_cons]; omega)
            rw [if_pos ht, hnn]
            simp only
            rw [hd2, this]
            exact Prod.ext (by simp only; omega) rfl
        · rw [if_neg c3] at h
          rw [if_neg (two_same c x y y' hy _ _ (by decide) c3), h]
theorem skpL_loc {x y y' : List UInt8} (hy : Sep y') {d : Nat} (h : skpL (x ++ y) = (d, true)) (hd : d < x.length) : skpL (x ++ y') = (d, true) :=
  skp_loc y y' hy _ x d _ (by omega) h hd (by omega)
theorem unesc_loc {x y y' : List UInt8} {b : UInt8} {n : Nat} (h : unescL (x ++ y) = some (b, n)) (hn : n ≤ x.length) : unescL (x ++ y') = some (b, n) := by
  have h1 := (unescL_le h).1
  unfold unescL at h ⊢
  match x, hn with
  | [], hn => simp at hn; omega
  | c :: t, hn =>
    simp only [List.cons_append] at h ⊢
    by_cases c1 : (c.toNat : Int) < 32 ∨ 126 < (c.toNat : Int)
    · rw [if_pos c1] at h; cases h
    · rw [if_neg c1] at h ⊢
      by_cases c2 : (c.toNat : Int) ≠ 92
      · rw [if_pos c2] at h ⊢; exact h
      · rw [if_neg c2] at h ⊢
        match t, hn with
        | [], hn =>
          exfalso
          simp only [List.nil_append] at h
          split at h
          · cases h
          · split at h
            · injection h with h; injection h with _ h; simp at hn; omega
            · split at h
              · cases h
              · split at h
                · split at h
                  · cases h
                  · injection h with h; injection h with _ h; simp at hn; omega
                · cases h
        | d :: u, hn =>
          simp only [List.cons_append] at h ⊢
          by_cases c3 : findFst (d.toNat : Int) < 5
          · rw [if_pos c3] at h ⊢; exact h
          · rw [if_neg c3] at h ⊢
            by_cases c4 : (d.toNat : Int) ≠ 120
            · rw [if_pos c4] at h; cases h
            · rw [if_neg c4] at h ⊢
              have hn4 : n = 4 := by
                split at h
                · split at h
                  · cases h
                  · injection h with h; injection h with _ h; omega
                · cases h
              subst hn4
              match u, hn with
              | [], hn => simp at hn
              | [e], hn => simp at hn
              | e :: g :: v, hn => exact h
theorem qs_ge (q : UInt8) : ∀ (f : Nat) (l acc r : List UInt8) (m : Nat), qs q f l acc = some (r, m) → 1 ≤ m
  | 0, _, _, _, _, h => by simp [qs] at h
  | f + 1, [], acc, r, m, h => by simp [qs] at h
  | f + 1, c :: t, acc, r, m, h => by
    rw [qs] at h
    split at h
    · injection h with h; injection h with _ h; omega
    · split at h
      · cases h
      · split at h
        · cases h
        · obtain ⟨⟨r', m'⟩, h1, h2⟩ := Option.map_eq_some_iff.1 h
          simp only [Prod.mk.injEq] at h2
          have := qs_ge q f _ _ _ _ h1
          omega
theorem qs_loc (q : UInt8) (y y' : List UInt8) : ∀ (f : Nat) (x acc r : List UInt8) (m f' : Nat), qs q f (x ++ y) acc = some (r, m) → m ≤ x.length → x.length < f' → qs q f' (x ++ y') acc = some (r, m)
  | 0, _, _, _, _, _, h, _, _ => by simp [qs] at h
  | f + 1, x, acc, r, m, 0, h, h1, h2 => by omega
  | f + 1, [], acc, r, m, f' + 1, h, h1, h2 => by have := qs_ge _ _ _ _ _ _ h; simp at h1; omega
  | f + 1, c :: x, acc, r, m, f' + 1, h, h1, h2 => by
    rw [List.cons_append, qs] at h
    rw [List.cons_append, qs]
    by_cases c1 : c = q
    · rw [if_pos c1] at h ⊢; exact h
    · rw [if_neg c1] at h ⊢
      cases hu : unescL (c :: (x ++ y)) with
      | none => rw [hu] at h; cases h
      | some bn =>
        obtain ⟨b, n⟩ := bn
        rw [hu] at h
        simp only at h
        by_cases c2 : acc.length = 256
        · rw [if_pos c2] at h; cases h
        · rw [if_neg c2] at h
          obtain ⟨⟨r', m'⟩, h3, h4⟩ := Option.map_eq_some_iff.1 h
          simp only [Prod.mk.injEq] at h4
          have hm1 := qs_ge _ _ _ _ _ _ h3
          have hn1 := (unescL_le hu).1
          have hu' : unescL (c :: (x ++ y')) = some (b, n) := unesc_loc (x := c :: x) (y := y) hu (by omega)
          rw [hu']
          simp only
          have hd1 : (c :: (x ++ y)).drop n = (c :: x).drop n ++ y := drop_loc (x := c :: x) (by omega)
          have hd2 : (c :: (x ++ y')).drop n = (c :: x).drop n ++ y' := drop_loc (x := c :: x) (by omega)
          rw [hd1] at h3
          rw [if_neg c2, hd2, qs_loc q y y' f ((c :: x).drop n) (acc ++ [b]) r' m' f' h3 (by rw [List.length_drop]; omega) (by rw [List.length_drop]; omega), Option.map_some, h4.1, h4.2]
theorem sig_sep (c : UInt8) (b : UInt8) (h : b = 10 ∨ b = 32) : isSig [c, b] = false := by
  unfold isSig sigs
  rcases h with rfl | rfl <;> simp
theorem one_loc {x y y' : List UInt8} (hy : Sep y') {k : Int} {n : Nat} {t : List UInt8} {v : Int} (h : oneL (x ++ y) = .tok k n t v) (hn : n ≤ x.length) : oneL (x ++ y') = .tok k n t v := by
  match x, hn with
  | [], hn =>
    exfalso
    cases y with
    | nil => cases h
    | cons c u => have := one_len h; simp at hn; omega
  | c :: x, hn =>
    have word : ∀ kk, wordL kk (c :: x ++ y) = .tok k n t v → wordL kk (c :: x ++ y') = .tok k n t v := fun kk h => by
      unfold wordL at h ⊢
      by_cases h32 : 32 < runL isInner (c :: x ++ y)
      · rw [if_pos h32] at h; cases h
      · rw [if_neg h32] at h
        obtain ⟨h1, h2, h3, h4⟩ := One.tok.inj h
        have hr := run_loc isInner y y' (sep_run _ (by decide) (by decide) hy) (c :: x) (by rw [h2]; exact hn)
        rw [hr, if_neg h32, take_loc (y := y) (by rw [h2]; exact hn)]
        exact h
    have num : numL (c :: x ++ y) = .tok k n t v → numL (c :: x ++ y') = .tok k n t v := fun h => by
      unfold numL at h ⊢
      have hrn : runL isDig (c :: x ++ y) = n := by
        split at h
        · cases h
        · split at h
          · cases h
          · exact (One.tok.inj h).2.1
      have hr := run_loc isDig y y' (sep_run _ (by decide) (by decide) hy) (c :: x) (by rw [hrn]; exact hn)
      rw [hr, take_loc (y := y) (by rw [hrn]; exact hn)]
      have hbad : badNext ((c :: x ++ y).drop n) = true → False := by
        intro hb
        rw [hrn, hb] at h
        split at h
        · cases h
        · rw [if_pos rfl] at h; cases h
      have hb' : badNext ((c :: x ++ y').drop (runL isDig (c :: x ++ y))) = badNext ((c :: x ++ y).drop (runL isDig (c :: x ++ y))) := by
        rw [hrn, drop_loc hn, drop_loc hn]
        rw [drop_loc hn] at hbad
        cases hz : (c :: x).drop n with
        | nil =>
          rw [hz] at hbad
          rw [List.nil_append, List.nil_append, sep_inner hy]
          cases hq : badNext y with
          | false => rfl
          | true => exact (hbad hq).elim
        | cons e z => rfl
      rw [hb']
      exact h
    unfold oneL at h ⊢
    simp only [List.cons_append] at h ⊢
    simp only [List.cons_append] at word num
    by_cases c3 : cls c = 3
    · rw [if_pos c3] at h ⊢; exact word _ h
    rw [if_neg c3] at h ⊢
    by_cases c4 : cls c = 4
    · rw [if_pos c4] at h ⊢; exact word _ h
    rw [if_neg c4] at h ⊢
    by_cases c2 : cls c = 2
    · rw [if_pos c2] at h ⊢; exact num h
    rw [if_neg c2] at h ⊢
    by_cases c7 : cls c = 7
    · rw [if_pos c7] at h ⊢
      unfold quotedL at h ⊢
      simp only at h ⊢
      cases hq : qsL c (x ++ y) [] with
      | none => rw [hq] at h; cases h
      | some r =>
        obtain ⟨acc, m⟩ := r
        rw [hq] at h
        simp only at h
        by_cases hb : c = 39 ∧ acc.length ≠ 1
        · rw [if_pos hb] at h; cases h
        · rw [if_neg hb] at h
          have h2 := (One.tok.inj h).2.1
          have hq' : qsL c (x ++ y') [] = some (acc, m) := qs_loc c y y' _ x [] acc m _ hq (by simp only [List.length_cons] at hn; omega) (by simp only [List.length_append]; omega)
          rw [hq']
          simp only
          rw [if_neg hb]
          exact h
    rw [if_neg c7] at h ⊢
    by_cases c6 : cls c = 6
    · rw [if_pos c6] at h ⊢; exact h
    rw [if_neg c6] at h ⊢
    by_cases c5 : cls c = 5
    · rw [if_pos c5] at h ⊢
      unfold opL at h ⊢
      cases x with
      | nil =>
        have h1 : n = 1 := by
          have := opFrom_len h
          simp only [List.length_cons, List.length_nil] at hn
          omega
        subst h1
        have g1 : isSig [c] = true ∧ opFrom 1 [c] = .tok k 1 t v := by
          cases y with
          | nil =>
            rw [List.append_nil] at h
            have h' : opFrom 1 [c] = .tok k 1 t v := h
            refine ⟨?_, h'⟩
            rw [opFrom] at h'
            by_cases hs : isSig ([c].take (0 + 1)) = true
            · exact hs
            · rw [if_neg hs] at h'; cases h'
          | cons e z =>
            have h' : opFrom 2 (c :: e :: z) = .tok k 1 t v := by
              have e2 : min 2 (c :: ([] ++ e :: z)).length = 2 := by simp
              rw [e2] at h; exact h
            rw [opFrom] at h'
            by_cases hs2 : isSig ((c :: e :: z).take (1 + 1)) = true
            · rw [if_pos hs2] at h'; cases h'
            · rw [if_neg hs2, opFrom] at h'
              by_cases hs : isSig ((c :: e :: z).take (0 + 1)) = true
              · rw [if_pos hs] at h'
                have hs' : isSig [c] = true := hs
                refine ⟨hs', ?_⟩
                rw [opFrom, if_pos (show isSig ([c].take (0 + 1)) = true from hs)]
                exact h'
              · rw [if_neg hs] at h'; cases h'
        have g2 := g1.2
        rw [opFrom, if_pos (show isSig ([c].take (0 + 1)) = true from g1.1)] at g2
        rcases hy with rfl | ⟨b, z, rfl, hb⟩
        · exact g1.2
        · have e2 : min 2 (c :: ([] ++ b :: z)).length = 2 := by simp
          rw [e2, opFrom, if_neg (by show ¬ isSig [c, b] = true; rw [sig_sep c b hb]; simp), opFrom, if_pos (show isSig ((c :: ([] ++ b :: z)).take (0 + 1)) = true from g1.1)]
          exact g2
      | cons e x =>
        have e2 : ∀ z : List UInt8, min 2 (c :: (e :: x ++ z)).length = 2 := fun z => by simp
        rw [e2] at h ⊢
        exact h
    rw [if_neg c5] at h
    cases h
end Go.Proofs.YtiioanpmfpefcaaDoor.Loc
/- The tokens up to where one ends. -/
namespace Go.Proofs.YtiioanpmfpefcaaDoor.Loc
open Go.RowKit Go.Proofs.YtiioanpmfpefcaaDoor.P Go.Proofs.YtiioanpmfpefcaaDoorW.PrintWords Go.Proofs.YtiioanpmfpefcaaDoor.Tok
/-- Where there is a token there is a first one. -/
theorem toks_first {S : List UInt8} {f i : Nat} (h : 0 < (toks S (f + 1) i).1.length) : ∃ d k n t v, skpL (S.drop i) = (d, true) ∧ i + d < S.length ∧ oneL (S.drop (i + d)) = .tok k n t v ∧ 1 ≤ n ∧ i + d + n ≤ S.length ∧
    toks S (f + 1) i = (⟨k, ((i + d : Nat) : Int), ((i + d + n : Nat) : Int), ⟨t.toArray⟩, v⟩ :: (toks S f (i + d + n)).1, (toks S f (i + d + n)).2) := by
  rw [toks] at h
  rw [toks]
  obtain ⟨⟨d, b⟩, hs⟩ : ∃ q, skpL (S.drop i) = q := ⟨_, rfl⟩
  rw [hs] at h ⊢
  simp only at h ⊢
  by_cases c1 : b = false
  · rw [if_pos c1] at h; simp at h
  · rw [if_neg c1] at h
    by_cases c2 : S.length ≤ i + d
    · rw [if_pos c2] at h; simp at h
    · rw [if_neg c2] at h
      cases ho : oneL (S.drop (i + d)) with
      | bad a e => rw [ho] at h; simp at h
      | tok k n t v =>
        have hcons := List.drop_eq_getElem_cons (show i + d < S.length by omega)
        have hlen : 1 ≤ n ∧ n ≤ (S.drop (i + d)).length := by
          rw [hcons] at ho ⊢; exact one_len ho
        rw [List.length_drop] at hlen
        rw [if_neg c1, if_neg c2]
        refine ⟨d, k, n, t, v, ?_, by omega, ho, hlen.1, by omega, rfl⟩
        cases b with
        | false => exact absurd rfl c1
        | true => rfl
theorem toks_end (S : List UInt8) : ∀ (f i r : Nat), r < (toks S f i).1.length → ∃ e : Nat, ((toks S f i).1.getD r z41).f2 = (e : Int) ∧ i + r < e ∧ e ≤ S.length
  | 0, _, _, h => by simp [toks] at h
  | f + 1, i, r, h => by
    obtain ⟨d, k, n, t, v, _, h2, _, h4, h5, h6⟩ := toks_first (f := f) (i := i) (S := S) (by omega)
    rw [h6] at h ⊢
    cases r with
    | zero => exact ⟨i + d + n, rfl, by omega, h5⟩
    | succ r =>
      simp only [List.length_cons] at h
      obtain ⟨e, g1, g2, g3⟩ := toks_end S f (i + d + n) r (by omega)
      exact ⟨e, by rw [List.getD_cons_succ]; exact g1, by omega, g3⟩
theorem drop_take_app (S : List UInt8) (i e : Nat) (h : i ≤ e) (he : e ≤ S.length) : S.drop i = (S.take e).drop i ++ S.drop e := by
  conv => lhs; rw [← List.take_append_drop e S]
  rw [List.drop_append_of_le_length (by rw [List.length_take]; omega)]
theorem cut_drop (S z : List UInt8) (i e : Nat) (h : i ≤ e) (he : e ≤ S.length) : (S.take e ++ z).drop i = (S.take e).drop i ++ z := List.drop_append_of_le_length (by rw [List.length_take]; omega)
theorem toks_pre (S : List UInt8) (e : Nat) (he : e ≤ S.length) : ∀ (r f i : Nat), r < (toks S f i).1.length → ((toks S f i).1.getD r z41).f2 = (e : Int) → ∀ f', r + 1 < f' → toks (S.take e ++ [10]) f' i = ((toks S f i).1.take (r + 1), none)
  | _, 0, _, h, _, _, _ => by simp [toks] at h
  | r, f + 1, i, h, h2, 0, h3 => by omega
  | r, f + 1, i, h, h2, f' + 1, h3 => by
    obtain ⟨d, k, n, t, v, g1, g2, g3, g4, g5, g6⟩ := toks_first (f := f) (i := i) (S := S) (by omega)
    have hge : i + d + n ≤ e := by
      rw [g6] at h h2
      cases r with
      | zero => simp only [List.getD_cons_zero] at h2; omega
      | succ r =>
        simp only [List.length_cons] at h
        obtain ⟨e', q1, q2, _⟩ := toks_end S f (i + d + n) r (by omega)
        rw [List.getD_cons_succ, q1] at h2
        omega
    have hP : (S.take e ++ [10]).length = e + 1 := by rw [List.length_append, List.length_take]; simp; omega
    have hsep : Sep [10] := .inr ⟨10, [], rfl, .inl rfl⟩
    have s1 : skpL ((S.take e ++ [10]).drop i) = (d, true) := by
      rw [cut_drop S _ i e (by omega) he]
      rw [drop_take_app S i e (by omega) he] at g1
      exact skpL_loc hsep g1 (by rw [List.length_drop, List.length_take]; omega)
    have s2 : oneL ((S.take e ++ [10]).drop (i + d)) = .tok k n t v := by
      rw [cut_drop S _ (i + d) e (by omega) he]
      rw [drop_take_app S (i + d) e (by omega) he] at g3
      exact one_loc hsep g3 (by rw [List.length_drop, List.length_take]; omega)
    rw [toks, s1]
    rw [if_neg (by simp), if_neg (by rw [hP]; simp only; omega)]
    simp only
    rw [s2]
    simp only
    rw [g6] at h h2 ⊢
    cases r with
    | zero =>
      simp only [List.getD_cons_zero] at h2
      have he2 : i + d + n = e := by omega
      rw [he2]
      obtain ⟨f'', rfl⟩ : ∃ f'', f' = f'' + 1 := ⟨f' - 1, by omega⟩
      have hd : (S.take e ++ [10]).drop e = [10] := by
        rw [cut_drop S _ e e (Nat.le_refl _) he, List.drop_of_length_le (by rw [List.length_take]; omega)]; rfl
      rw [toks, hd, show skpL [10] = (1, true) from by decide, if_neg (by simp), if_pos (by rw [hP]; exact Nat.le_refl _)]
      rfl
    | succ r =>
      simp only [List.length_cons] at h
      rw [List.getD_cons_succ] at h2
      rw [toks_pre S e he r f (i + d + n) (by omega) h2 f' (by omega)]
      rfl
end Go.Proofs.YtiioanpmfpefcaaDoor.Loc
/- What is shown of a token, with a blank behind it, is scanned as the token. -/
namespace Go.Proofs.YtiioanpmfpefcaaDoor.Loc
open Go.RowKit Go.Proofs.YtiioanpmfpefcaaDoor.P Go.Proofs.YtiioanpmfpefcaaDoorW.PrintWords Go.Proofs.YtiioanpmfpefcaaDoor.Tok
open Go.Proofs.YtiioanpmfpefcaaDoor.Pr0 (pm numV_pm runL_cons)
def escL (c q : UInt8) : List UInt8 := (strOfNums (esc c.toNat q.toNat)).data.toList
theorem esc_fin34 : ∀ c : Fin 256, unescL (escL (UInt8.ofNat c.val) 34) = some (UInt8.ofNat c.val, (escL (UInt8.ofNat c.val) 34).length) ∧ (escL (UInt8.ofNat c.val) 34).head? ≠ some 34 := by decide +kernel
theorem esc_fin39 : ∀ c : Fin 256, unescL (escL (UInt8.ofNat c.val) 39) = some (UInt8.ofNat c.val, (escL (UInt8.ofNat c.val) 39).length) ∧ (escL (UInt8.ofNat c.val) 39).head? ≠ some 39 := by decide +kernel
theorem esc_back (c q : UInt8) (hq : q = 34 ∨ q = 39) : unescL (escL c q) = some (c, (escL c q).length) ∧ (escL c q).head? ≠ some q := by
  have h1 := esc_fin34 ⟨c.toNat, c.toNat_lt⟩
  have h2 := esc_fin39 ⟨c.toNat, c.toNat_lt⟩
  simp only [UInt8.ofNat_toNat] at h1 h2
  rcases hq with rfl | rfl
  · exact h1
  · exact h2
/-- One sign between quotes. -/
theorem qs_step (c q : UInt8) (hq : q = 34 ∨ q = 39) (z acc r : List UInt8) (m f : Nat) (ha : acc.length ≠ 256) (h : qs q f z (acc ++ [c]) = some (r, m)) : qs q (f + 1) (escL c q ++ z) acc = some (r, m + (escL c q).length) := by
  obtain ⟨h1, h2⟩ := esc_back c q hq
  have hl := unescL_le h1
  cases he : escL c q with
  | nil => rw [he] at hl; simp at hl
  | cons e t =>
    rw [he] at h1 h2 hl
    have h3 : e ≠ q := by rintro rfl; exact h2 rfl
    have h4 : unescL (e :: (t ++ z)) = some (c, (e :: t).length) := by
      have := unesc_loc (x := e :: t) (y := []) (y' := z) (by rw [List.append_nil]; exact h1) (Nat.le_refl _)
      exact this
    rw [List.cons_append, qs]
    rw [if_neg h3, h4]
    simp only
    have hd : (e :: (t ++ z)).drop (e :: t).length = z := by
      rw [← List.cons_append, List.drop_left]
    rw [if_neg ha, hd, h]
    rfl
theorem qs_quote : ∀ (txt acc z : List UInt8) (f : Nat), acc.length + txt.length ≤ 256 → txt.length < f → qs 34 f (quoteL txt ++ 34 :: z) acc = some (acc ++ txt, (quoteL txt).length + 1)
  | [], acc, z, f, h, hf => by
    obtain ⟨f, rfl⟩ : ∃ f', f = f' + 1 := ⟨f - 1, by simp at hf; omega⟩
    simp only [quoteL, List.flatMap_nil, List.nil_append, List.append_nil, List.length_nil]
    rw [qs, if_pos rfl]
  | c :: txt, acc, z, f, h, hf => by
    obtain ⟨f, rfl⟩ : ∃ f', f = f' + 1 := ⟨f - 1, by simp at hf; omega⟩
    simp only [List.length_cons] at h hf
    have ih := qs_quote txt (acc ++ [c]) z f (by simp; omega) (by omega)
    have e1 : quoteL (c :: txt) = escL c 34 ++ quoteL txt := by unfold quoteL escL escB; rw [List.flatMap_cons]; rfl
    rw [e1, List.append_assoc, qs_step c 34 (.inl rfl) _ acc _ _ f (by omega) ih, List.append_assoc, List.length_append]
    congr 2
    omega
theorem quoteL_len (txt : List UInt8) : txt.length ≤ (quoteL txt).length := by
  induction txt with
  | nil => exact Nat.zero_le _
  | cons c txt ih =>
    have e1 : quoteL (c :: txt) = escL c 34 ++ quoteL txt := by unfold quoteL escL escB; rw [List.flatMap_cons]; rfl
    have := (unescL_le (esc_back c 34 (.inl rfl)).1).1
    rw [e1, List.length_append, List.length_cons]
    omega
theorem quoted_text (txt z : List UInt8) (h : txt.length ≤ 256) : quotedL (34 :: (quoteL txt ++ 34 :: z)) = .tok 5 ((quoteL txt).length + 1 + 1) txt 0 := by
  have hl := quoteL_len txt
  have hq : qsL 34 (quoteL txt ++ 34 :: z) [] = some (txt, (quoteL txt).length + 1) := qs_quote txt [] z _ (by simpa using h) (by simp; omega)
  unfold quotedL
  simp only
  rw [hq]
  rfl
theorem quoted_letter (b : UInt8) (z : List UInt8) : quotedL (39 :: (escL b 39 ++ 39 :: z)) = .tok 4 (1 + (escL b 39).length + 1) [b] b.toNat := by
  have hq : qsL 39 (escL b 39 ++ 39 :: z) [] = some ([b], 1 + (escL b 39).length) := by
    unfold qsL
    refine qs_step b 39 (.inr rfl) (39 :: z) [] [b] 1 _ (by simp) ?_
    have hl : (escL b 39 ++ 39 :: z).length = (escL b 39).length + z.length + 1 := by simp; omega
    rw [hl, List.nil_append, qs, if_pos rfl]
  unfold quotedL
  simp only
  rw [hq]
  rfl
/-- Digits. -/
theorem dig_of (d : Nat) (h : d < 10) : isDig (UInt8.ofNat (48 + d)) = true ∧ (UInt8.ofNat (48 + d)).toNat - 48 = d := by
  have : ∀ d : Fin 10, isDig (UInt8.ofNat (48 + d.val)) = true ∧ (UInt8.ofNat (48 + d.val)).toNat - 48 = d.val := by decide
  exact this ⟨d, h⟩
theorem pm_append : ∀ (xs ys : List UInt8) (a : Nat), pm a (xs ++ ys) = (pm a xs).bind fun b => pm b ys
  | [], ys, a => rfl
  | c :: xs, ys, a => by
    rw [List.cons_append, pm, pm]
    split
    · rfl
    · exact pm_append xs ys _
theorem dec_pm (u : Nat) : u ≤ 9223372036854775807 → pm 0 (Lib.decDigits u) = some u ∧ (∀ c ∈ Lib.decDigits u, isDig c = true) ∧ Lib.decDigits u ≠ [] := by
  induction u using Nat.strongRecOn with
  | ind u ih =>
    intro hu
    by_cases h : u < 10
    · rw [Lib.decDigits, dif_pos h]
      obtain ⟨h1, h2⟩ := dig_of u h
      refine ⟨?_, ?_, by simp⟩
      · rw [pm, h2, if_neg (by omega), pm]; simp
      · intro c hc; rw [List.mem_singleton] at hc; rw [hc]; exact h1
    · rw [Lib.decDigits, dif_neg h]
      obtain ⟨g1, g2, g3⟩ := ih (u / 10) (by omega) (by omega)
      obtain ⟨h1, h2⟩ := dig_of (u % 10) (by omega)
      refine ⟨?_, ?_, by simp⟩
      · rw [pm_append, g1, Option.bind_some, pm, h2, if_neg (by omega), pm]
        congr 1; omega
      · intro c hc
        rw [List.mem_append, List.mem_singleton] at hc
        rcases hc with hc | rfl
        · exact g2 c hc
        · exact h1
theorem run_all (p : UInt8 → Bool) (y : List UInt8) (hy : runL p y = 0) : ∀ (x : List UInt8), (∀ c ∈ x, p c = true) → runL p (x ++ y) = x.length
  | [], _ => hy
  | c :: x, h => by
    rw [List.cons_append, run_cons, if_pos (h c (by simp)), run_all p y hy x (fun d hd => h d (by simp [hd]))]
    rfl
theorem num_shown (u : Nat) (hu : u ≤ 9223372036854775807) (z : List UInt8) : numL (Lib.decDigits u ++ 32 :: z) = .tok 3 (Lib.decDigits u).length (Lib.decDigits u) u := by
  obtain ⟨h1, h2, h3⟩ := dec_pm u hu
  have hsep : Sep (32 :: z) := .inr ⟨32, z, rfl, .inr rfl⟩
  have hr := run_all isDig (32 :: z) (sep_run _ (by decide) (by decide) hsep) (Lib.decDigits u) h2
  unfold numL
  rw [hr, List.take_left, List.drop_left, numV_pm _ h3 h2, h1]
  simp only [Option.map_some]
  rw [sep_inner hsep, if_neg (by decide)]
/-- Where nothing is skipped. -/
theorem skp_stop (c : UInt8) (u : List UInt8) (h1 : cls c ≠ 1) (h2 : (c :: u).take 2 ≠ [45, 45]) (h3 : (c :: u).take 2 ≠ [123, 45]) : skpL (c :: u) = (0, true) := by
  unfold skpL
  rw [skp, if_neg h1, if_neg h2, if_neg h3]
theorem qs_len (q : UInt8) : ∀ (f : Nat) (l acc r : List UInt8) (m : Nat), acc.length ≤ 256 → qs q f l acc = some (r, m) → r.length ≤ 256
  | 0, _, _, _, _, _, h => by simp [qs] at h
  | f + 1, [], acc, r, m, _, h => by simp [qs] at h
  | f + 1, c :: t, acc, r, m, ha, h => by
    rw [qs] at h
    split at h
    · injection h with h; injection h with h _; rw [← h]; exact ha
    · split at h
      · cases h
      · split at h
        · cases h
        · next hne =>
          obtain ⟨⟨r', m'⟩, h1, h2⟩ := Option.map_eq_some_iff.1 h
          simp only [Prod.mk.injEq] at h2
          rw [← h2.1]
          exact qs_len q f _ _ _ _ (by simp; omega) h1
/-- What a token is. -/
def Kinds (l : List UInt8) (k : Int) (n : Nat) (txt : List UInt8) (v : Int) : Prop :=
  (k ≠ 3 ∧ k ≠ 4 ∧ k ≠ 5 ∧ k ≠ 9 ∧ txt = l.take n ∧ n ≤ l.length ∧ ∃ c u, txt = c :: u ∧ cls c ≠ 1 ∧ ∀ z, (txt ++ 32 :: z).take 2 ≠ [45, 45] ∧ (txt ++ 32 :: z).take 2 ≠ [123, 45]) ∧ v = 0 ∨
  (k = 3 ∧ 0 ≤ v ∧ v ≤ 9223372036854775807 ∧ txt.length ≤ l.length) ∨ (k = 4 ∧ ∃ b : UInt8, txt = [b] ∧ v = b.toNat) ∨ (k = 5 ∧ txt.length ≤ 256 ∧ v = 0)
theorem pm_le : ∀ (l : List UInt8) (a v : Nat), a ≤ 9223372036854775807 → pm a l = some v → v ≤ 9223372036854775807
  | [], a, v, ha, h => by rw [pm] at h; injection h with h; omega
  | c :: t, a, v, ha, h => by
    rw [pm] at h
    split at h
    · cases h
    · exact pm_le t _ v (by omega) h
theorem two_first {c : UInt8} {u : List UInt8} {a b : UInt8} (h : c ≠ a) : (c :: u).take 2 ≠ [a, b] := by
  intro e
  rw [List.take_succ_cons] at e
  exact h (List.cons.inj e).1
theorem one_kinds {l : List UInt8} {k : Int} {n : Nat} {txt : List UInt8} {v : Int} (h : oneL l = .tok k n txt v) : Kinds l k n txt v := by
  match l, h with
  | [], h => cases h
  | c :: u, h =>
    have hlen := one_len h
    have word : ∀ kk : Int, (kk = 1 ∨ kk = 2) → (cls c = 3 ∨ cls c = 4) → wordL kk (c :: u) = .tok k n txt v → Kinds (c :: u) k n txt v := fun kk hkk hc h => by
      unfold wordL at h
      by_cases h32 : 32 < runL isInner (c :: u)
      · rw [if_pos h32] at h; cases h
      · rw [if_neg h32] at h
        obtain ⟨h1, h2, h3, h4⟩ := One.tok.inj h
        have hk : k = 8 ∨ k = 1 ∨ k = 2 := by
          rw [← h1]; split
          · exact .inl rfl
          · exact .inr hkk
        rw [h2] at h3
        obtain ⟨m, rfl⟩ : ∃ m, n = m + 1 := ⟨n - 1, by omega⟩
        have h45 : c ≠ 45 := by rintro rfl; revert hc; decide
        have h123 : c ≠ 123 := by rintro rfl; revert hc; decide
        refine .inl ⟨⟨by omega, by omega, by omega, by omega, h3.symm, hlen.2, c, u.take m, ?_, by omega, ?_⟩, h4.symm⟩
        · rw [← h3]; rfl
        · intro z
          rw [← h3, List.take_succ_cons, List.cons_append]
          exact ⟨two_first h45, two_first h123⟩
    unfold oneL at h
    simp only at h
    by_cases c3 : cls c = 3
    · rw [if_pos c3] at h; exact word 1 (.inl rfl) (.inl c3) h
    rw [if_neg c3] at h
    by_cases c4 : cls c = 4
    · rw [if_pos c4] at h; exact word 2 (.inr rfl) (.inr c4) h
    rw [if_neg c4] at h
    by_cases c2 : cls c = 2
    · rw [if_pos c2] at h
      have hd : isDig c = true := by unfold isDig; simp [c2]
      have hne : (c :: u).take (runL isDig (c :: u)) ≠ [] := by rw [run_cons, if_pos hd, List.take_succ_cons]; simp
      unfold numL at h
      rw [numV_pm _ hne (Pr0.take_run isDig _)] at h
      cases hp : pm 0 ((c :: u).take (runL isDig (c :: u))) with
      | none => rw [hp] at h; cases h
      | some w =>
        rw [hp] at h
        have hw := pm_le _ _ _ (by omega) hp
        simp only [Option.map_some] at h
        split at h
        · cases h
        · obtain ⟨h1, h2, h3, h4⟩ := One.tok.inj h
          refine .inr (.inl ⟨h1.symm, by omega, by omega, ?_⟩)
          rw [← h3, List.length_take]; omega
    rw [if_neg c2] at h
    by_cases c7 : cls c = 7
    · rw [if_pos c7] at h
      unfold quotedL at h
      simp only at h
      cases hq : qsL c u [] with
      | none => rw [hq] at h; cases h
      | some r =>
        obtain ⟨acc, m⟩ := r
        rw [hq] at h
        simp only at h
        split at h
        · cases h
        · next hb =>
          obtain ⟨h1, h2, h3, h4⟩ := One.tok.inj h
          by_cases h39 : c = 39
          · rw [if_pos h39] at h1 h4
            have hl : acc.length = 1 := by
              rcases Nat.decEq acc.length 1 with h | h
              · exact absurd ⟨h39, h⟩ hb
              · exact h
            obtain ⟨b, rfl⟩ := List.length_eq_one_iff.1 hl
            exact .inr (.inr (.inl ⟨h1.symm, b, h3.symm, h4.symm⟩))
          · rw [if_neg h39] at h1 h4
            exact .inr (.inr (.inr ⟨h1.symm, by rw [← h3]; exact qs_len c _ _ _ _ _ (by simp) hq, h4.symm⟩))
    rw [if_neg c7] at h
    by_cases c6 : cls c = 6
    · rw [if_pos c6] at h
      obtain ⟨h1, h2, h3, h4⟩ := One.tok.inj h
      have ht : txt = [c] := by rw [← h3]; rfl
      refine .inl ⟨⟨by omega, by omega, by omega, by omega, by rw [← h3, h2], hlen.2, c, [], ht, by omega, ?_⟩, h4.symm⟩
      intro z
      rw [ht]
      constructor <;> simp
    rw [if_neg c6] at h
    by_cases c5 : cls c = 5
    · rw [if_pos c5] at h
      unfold opL at h
      have hop : ∀ m, m ≤ 2 → opFrom m (c :: u) = .tok k n txt v → k = 6 ∧ txt = (c :: u).take n ∧ v = 0 ∧ isSig txt = true ∧ n ≤ 2 := by
        intro m
        induction m with
        | zero => intro _ h; cases h
        | succ m ih =>
          intro hm h
          rw [opFrom] at h
          split at h
          · next hs =>
            obtain ⟨h1, h2, h3, h4⟩ := One.tok.inj h
            exact ⟨h1.symm, by rw [← h3, h2], h4.symm, by rw [← h3]; exact hs, by omega⟩
          · exact ih (by omega) h
      obtain ⟨g1, g2, g3, g4, g5⟩ := hop _ (Nat.min_le_left _ _) h
      obtain ⟨m, rfl⟩ : ∃ m, n = m + 1 := ⟨n - 1, by omega⟩
      refine .inl ⟨⟨by omega, by omega, by omega, by omega, g2, hlen.2, c, u.take m, by rw [g2]; rfl, by omega, ?_⟩, g3⟩
      intro z
      have hz : ∀ a : UInt8, (txt ++ 32 :: z).take 2 = [a, 45] → txt = [a, 45] := by
        intro a he
        have hl : txt.length = m + 1 := by rw [g2, List.length_take]; omega
        match txt, hl, he with
        | [x], _, he => simp at he
        | [x, y], _, he => simpa using he
        | x :: y :: w :: t, hl, _ => simp only [List.length_cons] at hl; omega
      constructor
      · intro he; rw [hz _ he] at g4; revert g4; decide
      · intro he; rw [hz _ he] at g4; revert g4; decide
    rw [if_neg c5] at h
    cases h
theorem reshow {l : List UInt8} {k : Int} {n : Nat} {txt : List UInt8} {v : Int} (h : oneL l = .tok k n txt v) (z : List UInt8) :
    skpL (showL k ⟨txt.toArray⟩ v ++ 32 :: z) = (0, true) ∧ 1 ≤ (showL k ⟨txt.toArray⟩ v).length ∧ ∃ txt', oneL (showL k ⟨txt.toArray⟩ v ++ 32 :: z) = .tok k (showL k ⟨txt.toArray⟩ v).length txt' v ∧ (k ≠ 3 → txt' = txt) := by
  have hsep : Sep (32 :: z) := .inr ⟨32, z, rfl, .inr rfl⟩
  rcases one_kinds h with ⟨⟨k3, k4, k5, k9, ht, hn, c, u, hc, hcl, htwo⟩, hv⟩ | ⟨rfl, v0, v1, _⟩ | ⟨rfl, b, rfl, rfl⟩ | ⟨rfl, ht, rfl⟩
  · have hs : showL k ⟨txt.toArray⟩ v = txt := by unfold showL; rw [if_neg k4, if_neg k5, if_neg k3, if_neg k9]
    rw [hs]
    refine ⟨?_, by rw [hc]; simp, txt, ?_, fun _ => rfl⟩
    · have := htwo z
      rw [hc, List.cons_append] at this ⊢
      exact skp_stop c _ hcl this.1 this.2
    · have hx : l = l.take n ++ l.drop n := (List.take_append_drop n l).symm
      rw [hx] at h
      have hl : (l.take n).length = n := by rw [List.length_take]; omega
      have := one_loc hsep h (by omega)
      rw [ht, hl]
      rw [ht] at this
      exact this
  · obtain ⟨w, rfl⟩ := Int.eq_ofNat_of_zero_le v0
    have hs : showL 3 ⟨txt.toArray⟩ (w : Int) = Lib.decDigits w := by
      unfold showL
      rw [if_neg (by omega), if_neg (by omega), if_pos rfl, show max (w : Int) 0 = (w : Int) by omega]
      unfold Lib.itoa
      rw [if_neg (by omega)]
      rfl
    rw [hs]
    obtain ⟨h1, h2, h3⟩ := dec_pm w (by omega)
    have hnum := num_shown w (by omega) z
    cases hd : Lib.decDigits w with
    | nil => exact absurd hd h3
    | cons c u =>
      have hcd : isDig c = true := h2 c (by rw [hd]; simp)
      have hc2 : cls c = 2 := by unfold isDig at hcd; simpa using hcd
      rw [hd] at hnum
      refine ⟨?_, by simp, c :: u, ?_, fun e => absurd rfl e⟩
      · rw [List.cons_append]
        exact skp_stop c _ (by omega) (two_first (by rintro rfl; revert hc2; decide)) (two_first (by rintro rfl; revert hc2; decide))
      · rw [List.cons_append] at hnum ⊢
        unfold oneL
        simp only
        rw [if_neg (by omega), if_neg (by omega), if_pos hc2]
        exact hnum
  · have hs : showL 4 ⟨[b].toArray⟩ (b.toNat : Int) = 39 :: (escL b 39 ++ [39]) := by
      unfold showL
      have hb : bt (⟨[b].toArray⟩ : ByteArray) 0 = (b.toNat : Int) := bt_q _ 0 b rfl
      rw [if_pos rfl, if_pos (by rfl), hb]
      rfl
    have hq := quoted_letter b (32 :: z)
    have he : 39 :: (escL b 39 ++ [39]) ++ 32 :: z = 39 :: (escL b 39 ++ 39 :: 32 :: z) := by simp
    rw [hs, he]
    refine ⟨skp_stop 39 _ (by decide) (two_first (by decide)) (two_first (by decide)), by simp, [b], ?_, fun _ => rfl⟩
    unfold oneL
    simp only
    rw [if_neg (by decide), if_neg (by decide), if_neg (by decide), if_pos (by decide), hq]
    simp only [List.length_cons, List.length_append, List.length_nil]
    congr 1
    omega
  · have hs : showL 5 ⟨txt.toArray⟩ 0 = 34 :: (quoteL txt ++ [34]) := by
      unfold showL
      rw [if_neg (by omega), if_pos rfl]
      rfl
    have hq := quoted_text txt (32 :: z) ht
    have he : 34 :: (quoteL txt ++ [34]) ++ 32 :: z = 34 :: (quoteL txt ++ 34 :: 32 :: z) := by simp
    rw [hs, he]
    refine ⟨skp_stop 34 _ (by decide) (two_first (by decide)) (two_first (by decide)), by simp, txt, ?_, fun _ => rfl⟩
    unfold oneL
    simp only
    rw [if_neg (by decide), if_neg (by decide), if_neg (by decide), if_pos (by decide), hq]
    simp only [List.length_cons, List.length_append, List.length_nil]
end Go.Proofs.YtiioanpmfpefcaaDoor.Loc
/- What is joined with blanks is scanned as the same tokens. -/
namespace Go.Proofs.YtiioanpmfpefcaaDoor.Loc
open Go.RowKit Go.Proofs.YtiioanpmfpefcaaDoor.P Go.Proofs.YtiioanpmfpefcaaDoorW.PrintWords Go.Proofs.YtiioanpmfpefcaaDoor.Tok
def shown (t : S41) : List UInt8 := showL t.f0 t.f3 t.f4
/-- A token that some text has. -/
def GoodT (B : Nat) (t : S41) : Prop := ∃ l n txt, l.length ≤ B ∧ oneL l = .tok t.f0 n txt t.f4 ∧ t.f3 = ⟨txt.toArray⟩
theorem toks_good (S : List UInt8) : ∀ (f i : Nat), ∀ t ∈ (toks S f i).1, GoodT S.length t
  | 0, _, t, h => by simp [toks] at h
  | f + 1, i, t, h => by
    obtain ⟨d, k, n, txt, v, _, _, h3, _, _, h6⟩ := toks_first (f := f) (i := i) (S := S) (List.length_pos_of_mem h)
    rw [h6] at h
    rcases List.mem_cons.1 h with rfl | h
    · exact ⟨_, n, txt, by rw [List.length_drop]; omega, h3, rfl⟩
    · exact toks_good S f _ t h
def flatJ (ts : List S41) : List UInt8 := ts.flatMap fun t => shown t ++ [32]
theorem flatJ_cons (t : S41) (ts : List S41) (z : List UInt8) : flatJ (t :: ts) ++ z = shown t ++ 32 :: (flatJ ts ++ z) := by
  unfold flatJ; simp
theorem join_flat : ∀ (ts : List S41) (e : S41), shown e = [] → Lib.join ((ts ++ [e]).map shown) [32] = flatJ ts
  | [], e, h => by
    rw [List.nil_append, List.map_cons, List.map_nil, Lib.join_one, h]; rfl
  | t :: ts, e, h => by
    have ih := join_flat ts e h
    rw [List.cons_append, List.map_cons, Lib.join_cons]
    have h2 : flatJ (t :: ts) = shown t ++ 32 :: flatJ ts := by have := flatJ_cons t ts []; simpa using this
    rw [h2, ← ih]
    cases hts : (ts ++ [e]).map shown with
    | nil => simp at hts
    | cons x r =>
      rw [Lib.join_cons]
      simp [Lib.joinTail]
def Same2 : List S41 → List S41 → Prop
  | [], [] => True
  | a :: x, b :: y => (a.f0 = b.f0 ∧ a.f4 = b.f4 ∧ (b.f0 ≠ 3 → a.f3 = b.f3)) ∧ Same2 x y
  | _, _ => False
theorem Same2.length : ∀ {x y : List S41}, Same2 x y → x.length = y.length
  | [], [], _ => rfl
  | _ :: x, _ :: y, h => by simp [Same2.length h.2]
  | [], _ :: _, h => h.elim
  | _ :: _, [], h => h.elim
theorem Same2.get : ∀ {x y : List S41}, Same2 x y → ∀ j, j < y.length → ((x.getD j z41).f0 = (y.getD j z41).f0 ∧ (x.getD j z41).f4 = (y.getD j z41).f4 ∧ ((y.getD j z41).f0 ≠ 3 → (x.getD j z41).f3 = (y.getD j z41).f3))
  | [], [], _, j, hj => by simp at hj
  | _ :: x, _ :: y, h, 0, _ => h.1
  | a :: x, b :: y, h, j + 1, hj => by
    rw [List.getD_cons_succ, List.getD_cons_succ]
    exact Same2.get h.2 j (by simp only [List.length_cons] at hj; omega)
  | [], _ :: _, h, _, _ => h.elim
  | _ :: _, [], h, _, _ => h.elim
theorem Same2.snoc : ∀ {x y : List S41} {a b : S41}, Same2 x y → a.f0 = b.f0 → a.f4 = b.f4 → a.f3 = b.f3 → Same2 (x ++ [a]) (y ++ [b])
  | [], [], _, _, _, h0, h4, h3 => ⟨⟨h0, h4, fun _ => h3⟩, trivial⟩
  | _ :: _, _ :: _, _, _, h, h0, h4, h3 => ⟨h.1, Same2.snoc h.2 h0 h4 h3⟩
  | [], _ :: _, _, _, h, _, _, _ => h.elim
  | _ :: _, [], _, _, h, _, _, _ => h.elim
theorem skp_space (X : List UInt8) : skpL (32 :: X) = ((skpL X).1 + 1, (skpL X).2) := by
  unfold skpL
  rw [skp, if_pos (by decide)]
  rfl
theorem rescan (J : List UInt8) : ∀ (rest : List S41) (lead : List UInt8) (pos f B : Nat), (lead = [] ∨ lead = [32]) → J.drop pos = lead ++ flatJ rest → pos ≤ J.length → (∀ t ∈ rest, GoodT B t) → rest.length < f →
    (toks J f pos).2 = none ∧ Same2 (toks J f pos).1 rest
  | rest, lead, pos, 0, B, _, _, _, _, h => by omega
  | [], lead, pos, f + 1, B, hlead, hd, hpos, _, _ => by
    have hl := congrArg List.length hd
    rw [List.length_drop] at hl
    simp only [flatJ, List.flatMap_nil, List.append_nil] at hd hl
    rw [toks, hd]
    have hs : skpL lead = (lead.length, true) := by rcases hlead with rfl | rfl <;> decide
    rw [hs, if_neg (by simp), if_pos (by simp only; omega)]
    exact ⟨rfl, trivial⟩
  | t :: rest, lead, pos, f + 1, B, hlead, hd, hpos, hg, hf => by
    obtain ⟨l, n, txt, _, ho, h3⟩ := hg t (by simp)
    have hfl : flatJ (t :: rest) = shown t ++ 32 :: flatJ rest := by have := flatJ_cons t rest []; simpa using this
    rw [hfl] at hd
    have hsh : shown t = showL t.f0 ⟨txt.toArray⟩ t.f4 := by unfold shown; rw [h3]
    obtain ⟨r1, r2, txt', r3, r4⟩ := reshow ho (flatJ rest)
    rw [← hsh] at r1 r2 r3
    have hl := congrArg List.length hd
    rw [List.length_drop] at hl
    simp only [List.length_append, List.length_cons] at hl
    have hs : skpL (J.drop pos) = (lead.length, true) := by
      rw [hd]
      rcases hlead with rfl | rfl
      · rw [List.nil_append, r1]; rfl
      · rw [List.cons_append, List.nil_append, skp_space, r1]; rfl
    have hX : J.drop (pos + lead.length) = shown t ++ 32 :: flatJ rest := by
      rw [← List.drop_drop, hd, List.drop_left]
    rw [toks, hs, if_neg (by simp), if_neg (by simp only; omega)]
    simp only
    rw [hX, r3]
    simp only
    have hn : J.drop (pos + lead.length + (shown t).length) = [32] ++ flatJ rest := by
      rw [← List.drop_drop, hX, List.drop_left]; rfl
    have ih := rescan J rest [32] (pos + lead.length + (shown t).length) f B (.inr rfl) hn (by omega) (fun x hx => hg x (by simp [hx])) (by simp only [List.length_cons] at hf; omega)
    exact ⟨ih.1, ⟨rfl, rfl, fun hk => by rw [h3, r4 hk]⟩, ih.2⟩
theorem shown_len {B : Nat} {t : S41} (h : GoodT B t) : (shown t).length ≤ 4 * (B + 256) + 30 ∧ t.f3.size ≤ B + 256 ∧ 0 ≤ t.f4 ∧ t.f4 ≤ 9223372036854775807 := by
  obtain ⟨l, n, txt, hl, ho, h3⟩ := h
  have hsz : t.f3.size = txt.length := by rw [h3]; rfl
  have hsh : shown t = showL t.f0 ⟨txt.toArray⟩ t.f4 := by unfold shown; rw [h3]
  rw [hsh, hsz]
  rcases one_kinds ho with ⟨⟨k3, k4, k5, k9, ht, hn, _⟩, hv⟩ | ⟨hk, v0, v1, ht⟩ | ⟨hk, b, rfl, hv⟩ | ⟨hk, ht, hv⟩
  · have hs : showL t.f0 ⟨txt.toArray⟩ t.f4 = txt := by unfold showL; rw [if_neg k4, if_neg k5, if_neg k3, if_neg k9]
    have : txt.length ≤ l.length := by rw [ht, List.length_take]; omega
    rw [hs, hv]
    exact ⟨by omega, by omega, by omega, by omega⟩
  · have hs : showL t.f0 ⟨txt.toArray⟩ t.f4 = Lib.itoa (max t.f4 0) := by unfold showL; rw [if_neg (by omega), if_neg (by omega), if_pos hk]
    have := Lib.itoa_length_le (max t.f4 0) (by omega) (by omega)
    rw [hs]
    exact ⟨by omega, by omega, v0, v1⟩
  · have hs : (showL t.f0 ⟨[b].toArray⟩ t.f4).length ≤ 6 := by
      unfold showL
      rw [if_pos hk, if_pos (by rfl)]
      have h2 : (strOfNums (esc (bt (⟨[b].toArray⟩ : ByteArray) 0) 39)).size ≤ 4 := by
        rw [strOfNums_size]; unfold esc
        split
        · simp
        · split <;> simp
      rw [size_eq] at h2
      simp only [List.length_append, List.length_cons, List.length_nil]
      omega
    have := b.toNat_lt
    refine ⟨by omega, by simp, by omega, by omega⟩
  · have hs : showL t.f0 ⟨txt.toArray⟩ t.f4 = 34 :: quoteL txt ++ [34] := by unfold showL; rw [if_neg (by omega), if_pos hk]
    have := quoteL_length txt
    rw [hs, hv]
    simp only [List.length_append, List.length_cons, List.length_nil]
    exact ⟨by omega, by omega, by omega, by omega⟩
theorem flatJ_len (B : Nat) : ∀ (ts : List S41), (∀ t ∈ ts, GoodT B t) → ts.length ≤ (flatJ ts).length ∧ (flatJ ts).length ≤ ts.length * (4 * (B + 256) + 31)
  | [], _ => by simp [flatJ]
  | t :: ts, h => by
    have ih := flatJ_len B ts (fun x hx => h x (by simp [hx]))
    have h1 := (shown_len (h t (by simp))).1
    have hfl : flatJ (t :: ts) = shown t ++ 32 :: flatJ ts := by have := flatJ_cons t ts []; simpa using this
    rw [hfl, List.length_append, List.length_cons, List.length_cons, Nat.succ_mul]
    omega
theorem one_bad {l : List UInt8} {d : Nat} {e : Int} (h : oneL l = .bad d e) : d ≤ l.length := by
  match l, h with
  | [], h => injection h with h _; omega
  | c :: u, h =>
    have word : ∀ kk, wordL kk (c :: u) = .bad d e → d ≤ (c :: u).length := fun kk h => by
      unfold wordL at h
      split at h
      · injection h with h _; omega
      · cases h
    unfold oneL at h
    simp only at h
    split at h
    · exact word _ h
    · split at h
      · exact word _ h
      · split at h
        · unfold numL at h
          split at h
          · injection h with h _; omega
          · split at h
            · injection h with h _; rw [← h]; exact runL_le _ _
            · cases h
        · split at h
          · unfold quotedL at h
            simp only at h
            split at h
            · injection h with h _; omega
            · split at h
              · injection h with h _; omega
              · cases h
          · split at h
            · cases h
            · split at h
              · have hop : ∀ m, opFrom m (c :: u) = .bad d e → d = 0 := by
                  intro m
                  induction m with
                  | zero => intro h; injection h with h _; omega
                  | succ m ih =>
                    intro h
                    rw [opFrom] at h
                    split at h
                    · cases h
                    · exact ih h
                unfold opL at h
                have := hop _ h
                omega
              · injection h with h _; omega
theorem toks_fault (S : List UInt8) : ∀ (f i a : Nat) (e : Int), i ≤ S.length → (toks S f i).2 = some (a, e) → a ≤ S.length
  | 0, _, _, _, _, h => by simp [toks] at h
  | f + 1, i, a, e, hi, h => by
    have hsk := skip_le ((S.drop i).length + 1) (S.drop i)
    have hsk' : (skpL (S.drop i)).1 ≤ S.length - i := by rw [← List.length_drop]; exact hsk
    rw [toks] at h
    split at h
    · injection h with h; injection h with h _; omega
    · split at h
      · cases h
      · next hlt =>
        split at h
        · next d er ho =>
          injection h with h; injection h with h _
          have := one_bad ho
          rw [List.length_drop] at this
          omega
        · next k n t v ho =>
          have hcons := List.drop_eq_getElem_cons (show i + (skpL (S.drop i)).1 < S.length by omega)
          have hlen : 1 ≤ n ∧ n ≤ (S.drop (i + (skpL (S.drop i)).1)).length := by rw [hcons] at ho ⊢; exact one_len ho
          rw [List.length_drop] at hlen
          exact toks_fault S f _ a e (by omega) h
theorem toks_count (S : List UInt8) (f i : Nat) : (toks S f i).1.length ≤ S.length := by
  rcases Nat.eq_zero_or_pos (toks S f i).1.length with h | h
  · omega
  · obtain ⟨e, _, h1, h2⟩ := toks_end S f i ((toks S f i).1.length - 1) (by omega)
    omega
end Go.Proofs.YtiioanpmfpefcaaDoor.Loc
