/- What lies between tokens has none; a token's bytes alone are it. -/
import Derived.Test.YtiioanpmfpefcaaDoorPurO
namespace Go.Proofs.YtiioanpmfpefcaaDoor.Loc
open Go.RowKit Go.Proofs.YtiioanpmfpefcaaDoor.P Go.Proofs.YtiioanpmfpefcaaDoorW.PrintWords Go.Proofs.YtiioanpmfpefcaaDoor.Tok
theorem sep_nil : Sep [] := .inl rfl
/-- What is skipped, alone, is skipped whole. -/
theorem skp_whole (y : List UInt8) : ∀ (f : Nat) (x : List UInt8) (f' : Nat), (x ++ y).length < f → skp f (x ++ y) = (x.length, true) → x.length < f' → skp f' x = (x.length, true)
  | 0, x, f', h0, _, _ => by omega
  | f + 1, x, 0, _, h, h2 => by omega
  | f + 1, [], f' + 1, _, h, h2 => rfl
  | f + 1, c :: x, f' + 1, h0, h, h2 => by
    rw [List.cons_append, skp] at h
    rw [skp]
    simp only [List.length_cons, List.cons_append, List.length_append] at h0 h h2
    have hl : ∀ m, m ≤ x.length + 1 → (c :: (x ++ y)).drop m = (c :: x).drop m ++ y := fun m hm => drop_loc (x := c :: x) (by simp only [List.length_cons]; omega)
    by_cases c1 : cls c = 1
    · rw [if_pos c1] at h
      rw [if_pos c1]
      simp only [List.drop_succ_cons, List.drop_zero] at h ⊢
      obtain ⟨e1, e2⟩ := Prod.mk.inj h
      have := skp_whole y f x f' (by simp only [List.length_append]; omega) (Prod.ext (by simp only; omega) e2) (by omega)
      rw [this]
      simp only [List.length_cons]
    · rw [if_neg c1] at h
      rw [if_neg c1]
      by_cases c2 : (c :: (x ++ y)).take 2 = [45, 45]
      · rw [if_pos c2] at h
        obtain ⟨e1, e2⟩ := Prod.mk.inj h
        obtain ⟨z, hz⟩ := take_two c2
        have hr2 : 2 ≤ runL isRow (c :: (x ++ y)) := by
          rw [hz, run_cons, if_pos (by decide), run_cons, if_pos (by decide)]; omega
        have hle : runL isRow ((c :: x) ++ y) ≤ (c :: x).length := by rw [List.cons_append, List.length_cons]; omega
        have hrun := run_loc isRow y [] rfl (c :: x) hle
        rw [List.append_nil, List.cons_append] at hrun
        obtain ⟨r, hr⟩ : ∃ r, runL isRow (c :: (x ++ y)) = r := ⟨_, rfl⟩
        rw [hr] at e1 e2 hr2 hrun
        rw [List.cons_append, hr, List.length_cons] at hle
        rw [hl r hle] at e1 e2
        have hdl : ((c :: x).drop r).length = x.length + 1 - r := by rw [List.length_drop, List.length_cons]
        have := skp_whole y f ((c :: x).drop r) f' (by simp only [List.length_append, hdl]; omega) (Prod.ext (by rw [hdl]; simp only; omega) e2) (by rw [hdl]; omega)
        have ht : (c :: x).take 2 = [45, 45] := by
          have := take_loc (x := c :: x) (y := y) (y' := []) (n := 2) (by simp only [List.length_cons]; omega)
          rw [List.append_nil, List.cons_append] at this
          rw [this]; exact c2
        rw [if_pos ht, hrun, this, hdl]
        exact Prod.ext (by simp only [List.length_cons]; omega) rfl
      · rw [if_neg c2] at h
        by_cases c3 : (c :: (x ++ y)).take 2 = [123, 45]
        · rw [if_pos c3] at h
          cases hn : noteL (c :: (x ++ y)) 0 with
          | none => rw [hn] at h; cases h
          | some n =>
            rw [hn] at h
            obtain ⟨e1, e2⟩ := Prod.mk.inj h
            have hnl := note_le _ _ _ _ hn
            have hnx : n ≤ x.length + 1 := by omega
            have hnn : noteL (c :: x) 0 = some n := by
              have := note_loc y [] _ (c :: x) 0 n ((c :: x).length + 1) hn (by simp only [List.length_cons]; omega) (by omega)
              rw [List.append_nil] at this
              exact this
            have h2n : 2 ≤ n := by
              obtain ⟨z, hz⟩ := take_two c3
              rw [hz, noteL_step _ _ (by simp), if_pos (by simp), if_neg (by omega)] at hn
              obtain ⟨m, _, rfl⟩ := Option.map_eq_some_iff.1 hn
              omega
            have ht : (c :: x).take 2 = [123, 45] := by
              have := take_loc (x := c :: x) (y := y) (y' := []) (n := 2) (by simp only [List.length_cons]; omega)
              rw [List.append_nil, List.cons_append] at this
              rw [this]; exact c3
            have ht2 : (c :: x).take 2 ≠ [45, 45] := by rw [ht]; decide
            rw [hl n hnx] at e1 e2
            have hdl : ((c :: x).drop n).length = x.length + 1 - n := by rw [List.length_drop, List.length_cons]
            have := skp_whole y f ((c :: x).drop n) f' (by simp only [List.length_append, hdl]; omega) (Prod.ext (by rw [hdl]; simp only; omega) e2) (by rw [hdl]; omega)
            rw [if_neg ht2, if_pos ht, hnn]
            simp only
            rw [this, hdl]
            exact Prod.ext (by simp only [List.length_cons]; omega) rfl
        · rw [if_neg c3] at h
          exact absurd (Prod.mk.inj h).1 (by omega)
/-- The tokens of what is skipped: none. -/
theorem scan_gap (x y : List UInt8) (h : skpL (x ++ y) = (x.length, true)) (hx : x.length ≤ 65536) : scanL x = ([⟨9, x.length, x.length, ⟨#[]⟩, 0⟩], 0, 0) := by
  have hs : skpL x = (x.length, true) := skp_whole y _ x _ (by omega) h (by omega)
  unfold scanL
  rw [if_neg (by omega), toks, List.drop_zero, hs, if_neg (by simp), if_pos (by simp only; omega)]
  rfl
/-- Behind what is skipped nothing is skipped. -/
theorem skp_twice : ∀ (f : Nat) (l : List UInt8) (d f' : Nat), l.length < f → skp f l = (d, true) → l.length < f' → skp f' (l.drop d) = (0, true)
  | 0, l, d, f', h, _, _ => by omega
  | f + 1, l, d, 0, _, _, h => by omega
  | f + 1, [], d, f' + 1, _, h, _ => by rw [List.drop_nil]; rfl
  | f + 1, c :: x, d, f' + 1, h0, h, h2 => by
    simp only [List.length_cons] at h0 h2
    have go : ∀ n, 1 ≤ n → n ≤ x.length + 1 → ((skp f ((c :: x).drop n)).1 + n, (skp f ((c :: x).drop n)).2) = (d, true) → skp (f' + 1) ((c :: x).drop d) = (0, true) := fun n h1 hn he => by
      obtain ⟨e1, e2⟩ := Prod.mk.inj he
      have hl : ((c :: x).drop n).length = x.length + 1 - n := by rw [List.length_drop, List.length_cons]
      have := skp_twice f ((c :: x).drop n) (d - n) (f' + 1) (by rw [hl]; omega) (Prod.ext (by simp only; omega) e2) (by rw [hl]; omega)
      rw [List.drop_drop] at this
      rw [show n + (d - n) = d by omega] at this
      exact this
    rw [skp] at h
    by_cases c1 : cls c = 1
    · rw [if_pos c1] at h; exact go 1 (by omega) (by omega) h
    · rw [if_neg c1] at h
      by_cases c2 : (c :: x).take 2 = [45, 45]
      · rw [if_pos c2] at h
        obtain ⟨z, hz⟩ := take_two c2
        have hr2 : 2 ≤ runL isRow (c :: x) := by
          rw [hz, run_cons, if_pos (by decide), run_cons, if_pos (by decide)]; omega
        have hle := runL_le isRow (c :: x)
        rw [List.length_cons] at hle
        exact go _ (by omega) hle h
      · rw [if_neg c2] at h
        by_cases c3 : (c :: x).take 2 = [123, 45]
        · rw [if_pos c3] at h
          cases hn : noteL (c :: x) 0 with
          | none => rw [hn] at h; cases h
          | some n =>
            rw [hn] at h
            have hnl := note_le _ _ _ _ hn
            simp only [List.length_cons] at hnl
            exact go n hnl.1 hnl.2 h
        · rw [if_neg c3] at h
          obtain rfl : 0 = d := (Prod.mk.inj h).1
          rw [List.drop_zero, skp, if_neg c1, if_neg c2, if_neg c3]
theorem skpL_twice {l : List UInt8} {d : Nat} (h : skpL l = (d, true)) : skpL (l.drop d) = (0, true) := by
  have h1 := skp_twice (l.length + 1) l d (l.length + 1) (by omega) h (by omega)
  unfold skpL
  cases hd : l.drop d with
  | nil => rfl
  | cons c x =>
    rw [hd] at h1
    rw [skp] at h1
    rw [skp]
    by_cases c1 : cls c = 1
    · rw [if_pos c1] at h1; exact absurd (Prod.mk.inj h1).1 (by omega)
    · rw [if_neg c1] at h1 ⊢
      by_cases c2 : (c :: x).take 2 = [45, 45]
      · rw [if_pos c2] at h1
        obtain ⟨z, hz⟩ := take_two c2
        have hr2 : 2 ≤ runL isRow (c :: x) := by
          rw [hz, run_cons, if_pos (by decide), run_cons, if_pos (by decide)]; omega
        exact absurd (Prod.mk.inj h1).1 (by omega)
      · rw [if_neg c2] at h1 ⊢
        by_cases c3 : (c :: x).take 2 = [123, 45]
        · rw [if_pos c3] at h1
          cases hn : noteL (c :: x) 0 with
          | none => rw [hn] at h1; cases h1
          | some n =>
            rw [hn] at h1
            have hnl := note_le _ _ _ _ hn
            exact absurd (Prod.mk.inj h1).1 (by omega)
        · rw [if_neg c3]
/-- A token's bytes alone. -/
theorem scan_one (x y : List UInt8) (k v : Int) (txt : List UInt8) (hs0 : skpL (x ++ y) = (0, true)) (h : oneL (x ++ y) = .tok k x.length txt v) (hx0 : 1 ≤ x.length) (hx : x.length ≤ 65536) :
    scanL x = ([⟨k, 0, x.length, ⟨txt.toArray⟩, v⟩, ⟨9, x.length, x.length, ⟨#[]⟩, 0⟩], 0, 0) := by
  have ho : oneL x = .tok k x.length txt v := by
    have := one_loc sep_nil h (Nat.le_refl _)
    rwa [List.append_nil] at this
  have hs : skpL x = (0, true) := by
    have := skpL_loc sep_nil hs0 (by omega)
    rwa [List.append_nil] at this
  obtain ⟨m, hm⟩ : ∃ m, x.length = m + 1 := ⟨x.length - 1, by omega⟩
  unfold scanL
  rw [if_neg (by omega), toks, List.drop_zero, hs, if_neg (by simp), if_neg (by simp only; omega)]
  simp only [Nat.add_zero, List.drop_zero, Nat.zero_add]
  rw [ho]
  simp only
  have hd : x.drop x.length = [] := List.drop_length ..
  rw [hm, toks, ← hm, hd, show skpL [] = (0, true) from rfl, if_neg (by simp), if_pos (by simp)]
  rfl
end Go.Proofs.YtiioanpmfpefcaaDoor.Loc
