/- The tokens up to where one ends. -/
import Derived.Test.YtiioanpmfpefcaaDoorPurL
namespace Go.Proofs.YtiioanpmfpefcaaDoor.Loc
open Go.RowKit Go.Proofs.YtiioanpmfpefcaaDoor.P Go.Proofs.YtiioanpmfpefcaaDoorW.PrintWords Go.Proofs.YtiioanpmfpefcaaDoor.Tok
/-- Where there is a token there is a first one. -/
theorem toks_first {S : List UInt8} {f i : Nat} (h : 0 < (toks S (f + 1) i).1.length) : ∃ d k n t v, skpL (S.drop i) = (d, true) ∧ i + d < S.length ∧ oneL (S.drop (i + d)) = .tok k n t v ∧ 1 ≤ n ∧ i + d + n ≤ S.length ∧
    toks S (f + 1) i = (⟨k, ((i + d : Nat) : Int), ((i + d + n : Nat) : Int), ⟨t.toArray⟩, v⟩ :: (toks S f (i + d + n)).1, (toks S f (i + d + n)).2) := by
  rw [toks] at h
  rw [toks]
  obtain ⟨⟨d, b⟩, hs⟩ : ∃ q, skpL (S.drop i) = q := ⟨_, rfl⟩
  rw [hs] at h ⊢
  simp only at h ⊢
  by_cases c1 : b = false
  · rw [if_pos c1] at h; simp at h
  · rw [if_neg c1] at h
    by_cases c2 : S.length ≤ i + d
    · rw [if_pos c2] at h; simp at h
    · rw [if_neg c2] at h
      cases ho : oneL (S.drop (i + d)) with
      | bad a e => rw [ho] at h; simp at h
      | tok k n t v =>
        have hcons := List.drop_eq_getElem_cons (show i + d < S.length by omega)
        have hlen : 1 ≤ n ∧ n ≤ (S.drop (i + d)).length := by
          rw [hcons] at ho ⊢; exact one_len ho
        rw [List.length_drop] at hlen
        rw [if_neg c1, if_neg c2]
        refine ⟨d, k, n, t, v, ?_, by omega, ho, hlen.1, by omega, rfl⟩
        cases b with
        | false => exact absurd rfl c1
        | true => rfl
theorem toks_end (S : List UInt8) : ∀ (f i r : Nat), r < (toks S f i).1.length → ∃ e : Nat, ((toks S f i).1.getD r z41).f2 = (e : Int) ∧ i + r < e ∧ e ≤ S.length
  | 0, _, _, h => by simp [toks] at h
  | f + 1, i, r, h => by
    obtain ⟨d, k, n, t, v, _, h2, _, h4, h5, h6⟩ := toks_first (f := f) (i := i) (S := S) (by omega)
    rw [h6] at h ⊢
    cases r with
    | zero => exact ⟨i + d + n, rfl, by omega, h5⟩
    | succ r =>
      simp only [List.length_cons] at h
      obtain ⟨e, g1, g2, g3⟩ := toks_end S f (i + d + n) r (by omega)
      exact ⟨e, by rw [List.getD_cons_succ]; exact g1, by omega, g3⟩
theorem drop_take_app (S : List UInt8) (i e : Nat) (h : i ≤ e) (he : e ≤ S.length) : S.drop i = (S.take e).drop i ++ S.drop e := by
  conv => lhs; rw [← List.take_append_drop e S]
  rw [List.drop_append_of_le_length (by rw [List.length_take]; omega)]
theorem cut_drop (S z : List UInt8) (i e : Nat) (h : i ≤ e) (he : e ≤ S.length) : (S.take e ++ z).drop i = (S.take e).drop i ++ z := List.drop_append_of_le_length (by rw [List.length_take]; omega)
theorem toks_pre (S : List UInt8) (e : Nat) (he : e ≤ S.length) : ∀ (r f i : Nat), r < (toks S f i).1.length → ((toks S f i).1.getD r z41).f2 = (e : Int) → ∀ f', r + 1 < f' → toks (S.take e ++ [10]) f' i = ((toks S f i).1.take (r + 1), none)
  | _, 0, _, h, _, _, _ => by simp [toks] at h
  | r, f + 1, i, h, h2, 0, h3 => by omega
  | r, f + 1, i, h, h2, f' + 1, h3 => by
    obtain ⟨d, k, n, t, v, g1, g2, g3, g4, g5, g6⟩ := toks_first (f := f) (i := i) (S := S) (by omega)
    have hge : i + d + n ≤ e := by
      rw [g6] at h h2
      cases r with
      | zero => simp only [List.getD_cons_zero] at h2; omega
      | succ r =>
        simp only [List.length_cons] at h
        obtain ⟨e', q1, q2, _⟩ := toks_end S f (i + d + n) r (by omega)
        rw [List.getD_cons_succ, q1] at h2
        omega
    have hP : (S.take e ++ [10]).length = e + 1 := by rw [List.length_append, List.length_take]; simp; omega
    have hsep : Sep [10] := .inr ⟨10, [], rfl, .inl rfl⟩
    have s1 : skpL ((S.take e ++ [10]).drop i) = (d, true) := by
      rw [cut_drop S _ i e (by omega) he]
      rw [drop_take_app S i e (by omega) he] at g1
      exact skpL_loc hsep g1 (by rw [List.length_drop, List.length_take]; omega)
    have s2 : oneL ((S.take e ++ [10]).drop (i + d)) = .tok k n t v := by
      rw [cut_drop S _ (i + d) e (by omega) he]
      rw [drop_take_app S (i + d) e (by omega) he] at g3
      exact one_loc hsep g3 (by rw [List.length_drop, List.length_take]; omega)
    rw [toks, s1]
    rw [if_neg (by simp), if_neg (by rw [hP]; simp only; omega)]
    simp only
    rw [s2]
    simp only
    rw [g6] at h h2 ⊢
    cases r with
    | zero =>
      simp only [List.getD_cons_zero] at h2
      have he2 : i + d + n = e := by omega
      rw [he2]
      obtain ⟨f'', rfl⟩ : ∃ f'', f' = f'' + 1 := ⟨f' - 1, by omega⟩
      have hd : (S.take e ++ [10]).drop e = [10] := by
        rw [cut_drop S _ e e (Nat.le_refl _) he, List.drop_of_length_le (by rw [List.length_take]; omega)]; rfl
      rw [toks, hd, show skpL [10] = (1, true) from by decide, if_neg (by simp), if_pos (by rw [hP]; exact Nat.le_refl _)]
      rfl
    | succ r =>
      simp only [List.length_cons] at h
      rw [List.getD_cons_succ] at h2
      rw [toks_pre S e he r f (i + d + n) (by omega) h2 f' (by omega)]
      rfl
end Go.Proofs.YtiioanpmfpefcaaDoor.Loc
