/- What a token and what is skipped hang on: the bytes that they take, and that no byte goes on behind them. -/
import Derived.Test.YtiioanpmfpefcaaDoorTokK
namespace Go.Proofs.YtiioanpmfpefcaaDoor.Loc
open Go.RowKit Go.Proofs.YtiioanpmfpefcaaDoor.P Go.Proofs.YtiioanpmfpefcaaDoorW.PrintWords Go.Proofs.YtiioanpmfpefcaaDoor.Tok
/-- Nothing, or a blank or a line feed first. -/
def Sep (y : List UInt8) : Prop := y = [] ∨ ∃ b z, y = b :: z ∧ (b = 10 ∨ b = 32)
theorem sep_inner {y : List UInt8} (h : Sep y) : badNext y = false := by
  rcases h with rfl | ⟨b, z, rfl, rfl | rfl⟩
  · rfl
  · show (isInner 10 && (10 : UInt8) != 39) = false; decide
  · show (isInner 32 && (32 : UInt8) != 39) = false; decide
theorem sep_run (p : UInt8 → Bool) (h10 : p 10 = false) (h32 : p 32 = false) {y : List UInt8} (h : Sep y) : runL p y = 0 := by
  rcases h with rfl | ⟨b, z, rfl, rfl | rfl⟩
  · rfl
  · unfold runL; rw [List.takeWhile_cons, h10]; rfl
  · unfold runL; rw [List.takeWhile_cons, h32]; rfl
theorem run_cons (p : UInt8 → Bool) (c : UInt8) (t : List UInt8) : runL p (c :: t) = if p c = true then runL p t + 1 else 0 := by
  unfold runL; rw [List.takeWhile_cons]; split <;> simp
theorem run_loc (p : UInt8 → Bool) (y y' : List UInt8) (hy : runL p y' = 0) : ∀ (x : List UInt8), runL p (x ++ y) ≤ x.length → runL p (x ++ y') = runL p (x ++ y)
  | [], h => by
    simp only [List.nil_append, List.length_nil] at h ⊢
    omega
  | c :: x, h => by
    rw [List.cons_append, run_cons] at h ⊢
    rw [List.cons_append, run_cons]
    by_cases hc : p c = true
    · rw [if_pos hc] at h ⊢
      rw [if_pos hc, run_loc p y y' hy x (by simp only [List.length_cons] at h; omega)]
    · rw [if_neg hc, if_neg hc]
/-- A run that ends ahead of the end is a run whatever follows. -/
theorem run_in (p : UInt8 → Bool) (y y' : List UInt8) : ∀ (x : List UInt8), runL p (x ++ y) < x.length → runL p (x ++ y') = runL p (x ++ y)
  | [], h => by simp at h
  | c :: x, h => by
    rw [List.cons_append, run_cons] at h ⊢
    rw [List.cons_append, run_cons]
    by_cases hc : p c = true
    · rw [if_pos hc] at h ⊢
      rw [if_pos hc, run_in p y y' x (by simp only [List.length_cons] at h; omega)]
    · rw [if_neg hc, if_neg hc]
theorem take_loc {x y y' : List UInt8} {n : Nat} (h : n ≤ x.length) : (x ++ y').take n = (x ++ y).take n := by
  rw [List.take_append_of_le_length h, List.take_append_of_le_length h]
theorem note_loc (y y' : List UInt8) : ∀ (f : Nat) (x : List UInt8) (d n f' : Nat), note f (x ++ y) d = some n → n ≤ x.length → x.length < f' → note f' (x ++ y') d = some n
  | 0, _, _, _, _, h, _, _ => by cases h
  | f + 1, x, d, n, 0, h, h1, h2 => by omega
  | f + 1, x, d, n, f' + 1, h, h1, h2 => by
    have hn := note_le _ _ _ _ h
    have hx : x ≠ [] := by rintro rfl; simp at h1; omega
    have hxl : 0 < x.length := List.length_pos_iff.2 hx
    rw [note] at h ⊢
    rw [if_neg (by simp [hx])] at h
    rw [if_neg (by simp [hx])]
    have hdrop : ∀ (z : List UInt8) m, m ≤ x.length → (x ++ z).drop m = x.drop m ++ z := fun z m hm => List.drop_append_of_le_length hm
    by_cases c1 : (x ++ y).take 2 = [123, 45]
    · rw [if_pos c1] at h
      by_cases c2 : 100 < d + 1
      · rw [if_pos c2] at h; cases h
      · rw [if_neg c2] at h
        obtain ⟨m, hm, rfl⟩ := Option.map_eq_some_iff.1 h
        have hm1 := note_le _ _ _ _ hm
        rw [if_pos (by rw [take_loc (y := y) (by omega)]; exact c1), if_neg c2]
        rw [hdrop _ _ (by omega)] at hm
        rw [hdrop _ _ (by omega), note_loc y y' f (x.drop 2) (d + 1) m f' hm (by rw [List.length_drop]; omega) (by rw [List.length_drop]; omega)]
        rfl
    · rw [if_neg c1] at h
      by_cases c2 : (x ++ y).take 2 = [45, 125]
      · rw [if_pos c2] at h
        by_cases c3 : d = 1
        · rw [if_pos c3] at h
          have h4 := Option.some.inj h
          rw [if_neg (by rw [take_loc (y := y) (by omega)]; exact c1), if_pos (by rw [take_loc (y := y) (by omega)]; exact c2), if_pos c3, ← h4]
        · rw [if_neg c3] at h
          obtain ⟨m, hm, rfl⟩ := Option.map_eq_some_iff.1 h
          have hm1 := note_le _ _ _ _ hm
          rw [if_neg (by rw [take_loc (y := y) (by omega)]; exact c1), if_pos (by rw [take_loc (y := y) (by omega)]; exact c2), if_neg c3]
          rw [hdrop _ _ (by omega)] at hm
          rw [hdrop _ _ (by omega), note_loc y y' f (x.drop 2) (d - 1) m f' hm (by rw [List.length_drop]; omega) (by rw [List.length_drop]; omega)]
          rfl
      · rw [if_neg c2] at h
        obtain ⟨m, hm, rfl⟩ := Option.map_eq_some_iff.1 h
        have hm1 := note_le _ _ _ _ hm
        rw [if_neg (by rw [take_loc (y := y) (by omega)]; exact c1), if_neg (by rw [take_loc (y := y) (by omega)]; exact c2)]
        rw [hdrop _ _ (by omega)] at hm
        rw [hdrop _ _ (by omega), note_loc y y' f (x.drop 1) d m f' hm (by rw [List.length_drop]; omega) (by rw [List.length_drop]; omega)]
        rfl
theorem note_fuel2 (l : List UInt8) (d n f : Nat) (h : noteL l d = some n) (hf : l.length < f) : note f l d = some n := by
  rw [note_fuel f l d hf]; exact h
/-- Of two bytes, where the second one is no more there, none begins a note. -/
theorem sep_two {c : UInt8} {y : List UInt8} (h : Sep y) (b : UInt8) (hb : b ≠ 10 ∧ b ≠ 32) (a : UInt8) : (c :: y).take 2 ≠ [a, b] := by
  rcases h with rfl | ⟨d, z, rfl, hd⟩
  · simp
  · intro e
    simp only [List.take_succ_cons, List.take_zero, List.cons.injEq, and_true] at e
    obtain ⟨_, rfl⟩ := e
    rcases hd with h | h
    · exact hb.1 h
    · exact hb.2 h
theorem drop_loc {x z : List UInt8} {m : Nat} (h : m ≤ x.length) : (x ++ z).drop m = x.drop m ++ z := List.drop_append_of_le_length h
theorem take_two {a b : UInt8} {l : List UInt8} (h : l.take 2 = [a, b]) : ∃ z, l = a :: b :: z := by
  match l, h with
  | [], h => simp at h
  | [c], h => simp at h
  | c :: d :: z, h => simp at h; obtain ⟨rfl, rfl⟩ := h; exact ⟨z, rfl⟩
/-- What a skip goes by at a byte: the same where what follows is cut off, or another. -/
theorem two_same (c : UInt8) (x y y' : List UInt8) (hy : Sep y') (a b : UInt8) (hb : b ≠ 10 ∧ b ≠ 32) (h : (c :: (x ++ y)).take 2 ≠ [a, b]) : (c :: (x ++ y')).take 2 ≠ [a, b] := by
  cases x with
  | nil => exact sep_two hy b hb a
  | cons d x => simpa using h
theorem skp_loc (y y' : List UInt8) (hy : Sep y') : ∀ (f : Nat) (x : List UInt8) (d f' : Nat), (x ++ y).length < f → skp f (x ++ y) = (d, true) → d < x.length → (x ++ y').length < f' → skp f' (x ++ y') = (d, true)
  | 0, x, d, f', h0, _, _, _ => by omega
  | f + 1, x, d, 0, _, h, h1, h2 => by omega
  | f + 1, [], d, f' + 1, _, h, h1, h2 => by simp at h1
  | f + 1, c :: x, d, f' + 1, h0, h, h1, h2 => by
    rw [List.cons_append, skp] at h
    rw [List.cons_append, skp]
    simp only [List.length_cons, List.cons_append, List.length_append] at h0 h1 h2
    by_cases c1 : cls c = 1
    · rw [if_pos c1] at h
      rw [if_pos c1]
      simp only [List.drop_succ_cons, List.drop_zero] at h ⊢
      obtain ⟨e1, e2⟩ := Prod.mk.inj h
      have := skp_loc y y' hy f x (d - 1) f' (by simp only [List.length_append]; omega) (Prod.ext (by simp only; omega) e2) (by omega) (by simp only [List.length_append]; omega)
      rw [this]
      exact Prod.ext (by simp only; omega) rfl
    · rw [if_neg c1] at h
      rw [if_neg c1]
      by_cases c2 : (c :: (x ++ y)).take 2 = [45, 45]
      · rw [if_pos c2] at h
        obtain ⟨e1, e2⟩ := Prod.mk.inj h
        obtain ⟨z, hz⟩ := take_two c2
        have hr2 : 2 ≤ runL isRow (c :: (x ++ y)) := by
          rw [hz, run_cons, if_pos (by decide), run_cons, if_pos (by decide)]; omega
        obtain ⟨r, hr⟩ : ∃ r, runL isRow (c :: (x ++ y)) = r := ⟨_, rfl⟩
        rw [hr] at e1 e2 hr2
        have hlt : runL isRow ((c :: x) ++ y) < (c :: x).length := by rw [List.cons_append, hr, List.length_cons]; omega
        have hrun := run_in isRow y y' (c :: x) hlt
        rw [List.cons_append, List.cons_append, hr] at hrun
        have hd1 : (c :: (x ++ y)).drop r = (c :: x).drop r ++ y := drop_loc (x := c :: x) (by simp only [List.length_cons]; omega)
        have hd2 : (c :: (x ++ y')).drop r = (c :: x).drop r ++ y' := drop_loc (x := c :: x) (by simp only [List.length_cons]; omega)
        rw [hd1] at e1 e2
        have := skp_loc y y' hy f ((c :: x).drop r) (d - r) f' (by simp only [List.length_append, List.length_drop, List.length_cons]; omega) (Prod.ext (by simp only; omega) e2) (by simp only [List.length_drop, List.length_cons]; omega) (by simp only [List.length_append, List.length_drop, List.length_cons]; omega)
        have ht : (c :: (x ++ y')).take 2 = [45, 45] := by
          have := take_loc (x := c :: x) (y := y) (y' := y') (n := 2) (by simp only [List.length_cons]; omega)
          rw [List.cons_append, List.cons_append] at this
          rw [this]; exact c2
        rw [if_pos ht, hrun, hd2, this]
        exact Prod.ext (by simp only; omega) rfl
      · rw [if_neg c2] at h
        rw [if_neg (two_same c x y y' hy _ _ (by decide) c2)]
        by_cases c3 : (c :: (x ++ y)).take 2 = [123, 45]
        · rw [if_pos c3] at h
          cases hn : noteL (c :: (x ++ y)) 0 with
          | none => rw [hn] at h; cases h
          | some n =>
            rw [hn] at h
            obtain ⟨e1, e2⟩ := Prod.mk.inj h
            have hnl := note_le _ _ _ _ hn
            have hnn : noteL (c :: (x ++ y')) 0 = some n := note_loc y y' _ (c :: x) 0 n _ hn (by simp only [List.length_cons]; omega) (by simp only [List.length_cons, List.length_append]; omega)
            have h2n : 2 ≤ n := by
              obtain ⟨z, hz⟩ := take_two c3
              rw [hz, noteL_step _ _ (by simp), if_pos (by simp), if_neg (by omega)] at hn
              obtain ⟨m, _, rfl⟩ := Option.map_eq_some_iff.1 hn
              omega
            have ht : (c :: (x ++ y')).take 2 = [123, 45] := by
              have := take_loc (x := c :: x) (y := y) (y' := y') (n := 2) (by simp only [List.length_cons]; omega)
              rw [List.cons_append, List.cons_append] at this
              rw [this]; exact c3
            have hd1 : (c :: (x ++ y)).drop n = (c :: x).drop n ++ y := drop_loc (x := c :: x) (by simp only [List.length_cons]; omega)
            have hd2 : (c :: (x ++ y')).drop n = (c :: x).drop n ++ y' := drop_loc (x := c :: x) (by simp only [List.length_cons]; omega)
            rw [hd1] at e1 e2
            have := skp_loc y y' hy f ((c :: x).drop n) (d - n) f' (by simp only [List.length_append, List.length_drop, List.length_cons]; omega) (Prod.ext (by simp only; omega) e2) (by simp only [List.length_drop, List.length_cons]; omega) (by simp only [List.length_append, List.length_drop, List.length_cons]; omega)
            rw [if_pos ht, hnn]
            simp only
            rw [hd2, this]
            exact Prod.ext (by simp only; omega) rfl
        · rw [if_neg c3] at h
          rw [if_neg (two_same c x y y' hy _ _ (by decide) c3), h]
theorem skpL_loc {x y y' : List UInt8} (hy : Sep y') {d : Nat} (h : skpL (x ++ y) = (d, true)) (hd : d < x.length) : skpL (x ++ y') = (d, true) :=
  skp_loc y y' hy _ x d _ (by omega) h hd (by omega)
theorem unesc_loc {x y y' : List UInt8} {b : UInt8} {n : Nat} (h : unescL (x ++ y) = some (b, n)) (hn : n ≤ x.length) : unescL (x ++ y') = some (b, n) := by
  have h1 := (unescL_le h).1
  unfold unescL at h ⊢
  match x, hn with
  | [], hn => simp at hn; omega
  | c :: t, hn =>
    simp only [List.cons_append] at h ⊢
    by_cases c1 : (c.toNat : Int) < 32 ∨ 126 < (c.toNat : Int)
    · rw [if_pos c1] at h; cases h
    · rw [if_neg c1] at h ⊢
      by_cases c2 : (c.toNat : Int) ≠ 92
      · rw [if_pos c2] at h ⊢; exact h
      · rw [if_neg c2] at h ⊢
        match t, hn with
        | [], hn =>
          exfalso
          simp only [List.nil_append] at h
          split at h
          · cases h
          · split at h
            · injection h with h; injection h with _ h; simp at hn; omega
            · split at h
              · cases h
              · split at h
                · split at h
                  · cases h
                  · injection h with h; injection h with _ h; simp at hn; omega
                · cases h
        | d :: u, hn =>
          simp only [List.cons_append] at h ⊢
          by_cases c3 : findFst (d.toNat : Int) < 5
          · rw [if_pos c3] at h ⊢; exact h
          · rw [if_neg c3] at h ⊢
            by_cases c4 : (d.toNat : Int) ≠ 120
            · rw [if_pos c4] at h; cases h
            · rw [if_neg c4] at h ⊢
              have hn4 : n = 4 := by
                split at h
                · split at h
                  · cases h
                  · injection h with h; injection h with _ h; omega
                · cases h
              subst hn4
              match u, hn with
              | [], hn => simp at hn
              | [e], hn => simp at hn
              | e :: g :: v, hn => exact h
theorem qs_ge (q : UInt8) : ∀ (f : Nat) (l acc r : List UInt8) (m : Nat), qs q f l acc = some (r, m) → 1 ≤ m
  | 0, _, _, _, _, h => by simp [qs] at h
  | f + 1, [], acc, r, m, h => by simp [qs] at h
  | f + 1, c :: t, acc, r, m, h => by
    rw [qs] at h
    split at h
    · injection h with h; injection h with _ h; omega
    · split at h
      · cases h
      · split at h
        · cases h
        · obtain ⟨⟨r', m'⟩, h1, h2⟩ := Option.map_eq_some_iff.1 h
          simp only [Prod.mk.injEq] at h2
          have := qs_ge q f _ _ _ _ h1
          omega
theorem qs_loc (q : UInt8) (y y' : List UInt8) : ∀ (f : Nat) (x acc r : List UInt8) (m f' : Nat), qs q f (x ++ y) acc = some (r, m) → m ≤ x.length → x.length < f' → qs q f' (x ++ y') acc = some (r, m)
  | 0, _, _, _, _, _, h, _, _ => by simp [qs] at h
  | f + 1, x, acc, r, m, 0, h, h1, h2 => by omega
  | f + 1, [], acc, r, m, f' + 1, h, h1, h2 => by have := qs_ge _ _ _ _ _ _ h; simp at h1; omega
  | f + 1, c :: x, acc, r, m, f' + 1, h, h1, h2 => by
    rw [List.cons_append, qs] at h
    rw [List.cons_append, qs]
    by_cases c1 : c = q
    · rw [if_pos c1] at h ⊢; exact h
    · rw [if_neg c1] at h ⊢
      cases hu : unescL (c :: (x ++ y)) with
      | none => rw [hu] at h; cases h
      | some bn =>
        obtain ⟨b, n⟩ := bn
        rw [hu] at h
        simp only at h
        by_cases c2 : acc.length = 256
        · rw [if_pos c2] at h; cases h
        · rw [if_neg c2] at h
          obtain ⟨⟨r', m'⟩, h3, h4⟩ := Option.map_eq_some_iff.1 h
          simp only [Prod.mk.injEq] at h4
          have hm1 := qs_ge _ _ _ _ _ _ h3
          have hn1 := (unescL_le hu).1
          have hu' : unescL (c :: (x ++ y')) = some (b, n) := unesc_loc (x := c :: x) (y := y) hu (by omega)
          rw [hu']
          simp only
          have hd1 : (c :: (x ++ y)).drop n = (c :: x).drop n ++ y := drop_loc (x := c :: x) (by omega)
          have hd2 : (c :: (x ++ y')).drop n = (c :: x).drop n ++ y' := drop_loc (x := c :: x) (by omega)
          rw [hd1] at h3
          rw [if_neg c2, hd2, qs_loc q y y' f ((c :: x).drop n) (acc ++ [b]) r' m' f' h3 (by rw [List.length_drop]; omega) (by rw [List.length_drop]; omega), Option.map_some, h4.1, h4.2]
theorem sig_sep (c : UInt8) (b : UInt8) (h : b = 10 ∨ b = 32) : isSig [c, b] = false := by
  unfold isSig sigs
  rcases h with rfl | rfl <;> simp
theorem one_loc {x y y' : List UInt8} (hy : Sep y') {k : Int} {n : Nat} {t : List UInt8} {v : Int} (h : oneL (x ++ y) = .tok k n t v) (hn : n ≤ x.length) : oneL (x ++ y') = .tok k n t v := by
  match x, hn with
  | [], hn =>
    exfalso
    cases y with
    | nil => cases h
    | cons c u => have := one_len h; simp at hn; omega
  | c :: x, hn =>
    have word : ∀ kk, wordL kk (c :: x ++ y) = .tok k n t v → wordL kk (c :: x ++ y') = .tok k n t v := fun kk h => by
      unfold wordL at h ⊢
      by_cases h32 : 32 < runL isInner (c :: x ++ y)
      · rw [if_pos h32] at h; cases h
      · rw [if_neg h32] at h
        obtain ⟨h1, h2, h3, h4⟩ := One.tok.inj h
        have hr := run_loc isInner y y' (sep_run _ (by decide) (by decide) hy) (c :: x) (by rw [h2]; exact hn)
        rw [hr, if_neg h32, take_loc (y := y) (by rw [h2]; exact hn)]
        exact h
    have num : numL (c :: x ++ y) = .tok k n t v → numL (c :: x ++ y') = .tok k n t v := fun h => by
      unfold numL at h ⊢
      have hrn : runL isDig (c :: x ++ y) = n := by
        split at h
        · cases h
        · split at h
          · cases h
          · exact (One.tok.inj h).2.1
      have hr := run_loc isDig y y' (sep_run _ (by decide) (by decide) hy) (c :: x) (by rw [hrn]; exact hn)
      rw [hr, take_loc (y := y) (by rw [hrn]; exact hn)]
      have hbad : badNext ((c :: x ++ y).drop n) = true → False := by
        intro hb
        rw [hrn, hb] at h
        split at h
        · cases h
        · rw [if_pos rfl] at h; cases h
      have hb' : badNext ((c :: x ++ y').drop (runL isDig (c :: x ++ y))) = badNext ((c :: x ++ y).drop (runL isDig (c :: x ++ y))) := by
        rw [hrn, drop_loc hn, drop_loc hn]
        rw [drop_loc hn] at hbad
        cases hz : (c :: x).drop n with
        | nil =>
          rw [hz] at hbad
          rw [List.nil_append, List.nil_append, sep_inner hy]
          cases hq : badNext y with
          | false => rfl
          | true => exact (hbad hq).elim
        | cons e z => rfl
      rw [hb']
      exact h
    unfold oneL at h ⊢
    simp only [List.cons_append] at h ⊢
    simp only [List.cons_append] at word num
    by_cases c3 : cls c = 3
    · rw [if_pos c3] at h ⊢; exact word _ h
    rw [if_neg c3] at h ⊢
    by_cases c4 : cls c = 4
    · rw [if_pos c4] at h ⊢; exact word _ h
    rw [if_neg c4] at h ⊢
    by_cases c2 : cls c = 2
    · rw [if_pos c2] at h ⊢; exact num h
    rw [if_neg c2] at h ⊢
    by_cases c7 : cls c = 7
    · rw [if_pos c7] at h ⊢
      unfold quotedL at h ⊢
      simp only at h ⊢
      cases hq : qsL c (x ++ y) [] with
      | none => rw [hq] at h; cases h
      | some r =>
        obtain ⟨acc, m⟩ := r
        rw [hq] at h
        simp only at h
        by_cases hb : c = 39 ∧ acc.length ≠ 1
        · rw [if_pos hb] at h; cases h
        · rw [if_neg hb] at h
          have h2 := (One.tok.inj h).2.1
          have hq' : qsL c (x ++ y') [] = some (acc, m) := qs_loc c y y' _ x [] acc m _ hq (by simp only [List.length_cons] at hn; omega) (by simp only [List.length_append]; omega)
          rw [hq']
          simp only
          rw [if_neg hb]
          exact h
    rw [if_neg c7] at h ⊢
    by_cases c6 : cls c = 6
    · rw [if_pos c6] at h ⊢; exact h
    rw [if_neg c6] at h ⊢
    by_cases c5 : cls c = 5
    · rw [if_pos c5] at h ⊢
      unfold opL at h ⊢
      cases x with
      | nil =>
        have h1 : n = 1 := by
          have := opFrom_len h
          simp only [List.length_cons, List.length_nil] at hn
          omega
        subst h1
        have g1 : isSig [c] = true ∧ opFrom 1 [c] = .tok k 1 t v := by
          cases y with
          | nil =>
            rw [List.append_nil] at h
            have h' : opFrom 1 [c] = .tok k 1 t v := h
            refine ⟨?_, h'⟩
            rw [opFrom] at h'
            by_cases hs : isSig ([c].take (0 + 1)) = true
            · exact hs
            · rw [if_neg hs] at h'; cases h'
          | cons e z =>
            have h' : opFrom 2 (c :: e :: z) = .tok k 1 t v := by
              have e2 : min 2 (c :: ([] ++ e :: z)).length = 2 := by simp
              rw [e2] at h; exact h
            rw [opFrom] at h'
            by_cases hs2 : isSig ((c :: e :: z).take (1 + 1)) = true
            · rw [if_pos hs2] at h'; cases h'
            · rw [if_neg hs2, opFrom] at h'
              by_cases hs : isSig ((c :: e :: z).take (0 + 1)) = true
              · rw [if_pos hs] at h'
                have hs' : isSig [c] = true := hs
                refine ⟨hs', ?_⟩
                rw [opFrom, if_pos (show isSig ([c].take (0 + 1)) = true from hs)]
                exact h'
              · rw [if_neg hs] at h'; cases h'
        have g2 := g1.2
        rw [opFrom, if_pos (show isSig ([c].take (0 + 1)) = true from g1.1)] at g2
        rcases hy with rfl | ⟨b, z, rfl, hb⟩
        · exact g1.2
        · have e2 : min 2 (c :: ([] ++ b :: z)).length = 2 := by simp
          rw [e2, opFrom, if_neg (by show ¬ isSig [c, b] = true; rw [sig_sep c b hb]; simp), opFrom, if_pos (show isSig ((c :: ([] ++ b :: z)).take (0 + 1)) = true from g1.1)]
          exact g2
      | cons e x =>
        have e2 : ∀ z : List UInt8, min 2 (c :: (e :: x ++ z)).length = 2 := fun z => by simp
        rw [e2] at h ⊢
        exact h
    rw [if_neg c5] at h
    cases h
end Go.Proofs.YtiioanpmfpefcaaDoor.Loc
