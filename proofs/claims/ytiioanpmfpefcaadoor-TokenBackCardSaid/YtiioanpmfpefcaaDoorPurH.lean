/- The reference's scan is the program's. -/
import Derived.Test.YtiioanpmfpefcaaDoorPurF
import Derived.Test.YtiioanpmfpefcaaDoorPx8
import Derived.Test.YtiioanpmfpefcaaDoorPx9
import Derived.Test.YtiioanpmfpefcaaDoorPx16
namespace Go.Proofs.YtiioanpmfpefcaaDoor.Pur
open Go.RowKit Go.Proofs.YtiioanpmfpefcaaDoor.P Go.Proofs.YtiioanpmfpefcaaDoorW.PrintWords Go.Proofs.YtiioanpmfpefcaaDoor.Tok
def t54 (x : S41) : S54 := ⟨x.f0, x.f1, x.f2, x.f3, x.f4⟩
/-- What a scan that has these tokens, and goes on so, hands back. -/
def scanE (acc : List S54) (T : List S41 × Option (Nat × Int)) (n : Nat) : List S54 × Int × Int :=
  if 16384 < acc.length + T.1.length then ([], (T.1.getD (16384 - acc.length) z41).f1, 6)
  else match T.2 with
    | none => (acc ++ T.1.map t54 ++ [⟨9, (n : Int), (n : Int), ⟨#[]⟩, 0⟩], 0, 0)
    | some (a, e) => ([], (a : Int), e)
theorem scanE_nil (acc : List S54) (n : Nat) (h : acc.length ≤ 16384) : scanE acc ([], none) n = (acc ++ [⟨9, (n : Int), (n : Int), ⟨#[]⟩, 0⟩], 0, 0) := by
  unfold scanE
  rw [if_neg (by simp; omega)]
  simp
theorem scanE_bad (acc : List S54) (n a : Nat) (e : Int) (h : acc.length ≤ 16384) : scanE acc ([], some (a, e)) n = ([], (a : Int), e) := by
  unfold scanE
  rw [if_neg (by simp; omega)]
theorem scanE_cons (acc : List S54) (x : S41) (T : List S41 × Option (Nat × Int)) (n : Nat) (h : acc.length < 16384) : scanE acc (x :: T.1, T.2) n = scanE (acc ++ [t54 x]) T n := by
  unfold scanE
  simp only [List.length_cons, List.length_append, List.length_nil, Nat.zero_add, List.map_cons, List.append_assoc, List.singleton_append]
  rw [show acc.length + (T.1.length + 1) = acc.length + 1 + T.1.length by omega]
  by_cases hg : 16384 < acc.length + 1 + T.1.length
  · rw [if_pos hg, if_pos hg]
    rw [show 16384 - acc.length = (16384 - (acc.length + 1)) + 1 by omega, List.getD_cons_succ]
  · rw [if_neg hg, if_neg hg]
theorem scanE_full (acc : List S54) (x : S41) (T : List S41 × Option (Nat × Int)) (n : Nat) (h : acc.length = 16384) : scanE acc (x :: T.1, T.2) n = ([], x.f1, 6) := by
  unfold scanE
  rw [if_pos (by simp; omega), h]
  rfl
theorem rscan (s : ByteArray) (hs : s.size ≤ 140737488351232) (C : Nat) (hC : s.size * (s.size + 50) + 3 * s.size + 300 ≤ C) : ∀ (n i : Nat) (acc : List S54) (f : Nat), s.size - i ≤ n → i ≤ s.size → acc.length ≤ 16384 → s.size - i < f → ∀ K, 4 * n + 4 + C ≤ K →
    hammockref02_Scan.l0 K s acc (skipR s i).1 (skipR s i).2.1 (skipR s i).2.2 = some (scanE acc (toks s.data.toList f i) s.size) := by
  intro n
  induction n with
  | zero =>
    intro i acc f h1 h2 h3 h4 K hK
    obtain ⟨K, rfl⟩ : ∃ K', K = K' + 2 := ⟨K - 2, by omega⟩
    obtain ⟨f, rfl⟩ : ∃ f', f = f' + 1 := ⟨f - 1, by omega⟩
    have hle := skip_le ((s.data.toList.drop i).length + 1) (s.data.toList.drop i)
    have hnil : s.data.toList.drop i = [] := List.drop_of_length_le (by rw [← size_eq]; omega)
    have hsk : skpL (s.data.toList.drop i) = (0, true) := by rw [hnil]; rfl
    have hR : skipR s i = ((i : Int), 0, 0) := by unfold skipR; rw [hsk]; rfl
    rw [hR, hammockref02_Scan.l0, if_neg (by simp only; omega), hammockref02_Scan.j1, if_neg (by decide), if_pos rfl, if_pos (by omega), toks, hsk]
    rw [if_neg (by decide), if_pos (by rw [← size_eq]; simp only; omega), scanE_nil acc _ h3]
  | succ n ih =>
    intro i acc f h1 h2 h3 h4 K hK
    obtain ⟨K, rfl⟩ : ∃ K', K = K' + 3 := ⟨K - 3, by omega⟩
    obtain ⟨f, rfl⟩ : ∃ f', f = f' + 1 := ⟨f - 1, by omega⟩
    have hle : (skpL (s.data.toList.drop i)).1 ≤ (s.data.toList.drop i).length := skip_le _ _
    rw [List.length_drop, ← size_eq] at hle
    unfold skipR
    rw [toks]
    obtain ⟨p, hp⟩ : ∃ p, i + (skpL (s.data.toList.drop i)).1 = p := ⟨_, rfl⟩
    rw [hp]
    cases hb : (skpL (s.data.toList.drop i)).2 with
    | false =>
      rw [if_neg (by decide), if_pos rfl, scanE_bad acc _ _ _ h3]
      have hj : hammockref02_Scan.j1 (K + 2) s acc (p : Int) false (p : Int) 23 = some (([] : List S54), (p : Int), 23) := by
        rw [hammockref02_Scan.j1, if_neg (by decide), if_neg (by decide)]
      rw [hammockref02_Scan.l0]
      simp only []
      rw [show ((23 : Int) == 0) = false by decide, hj]
      split <;> rfl
    | true =>
      rw [if_pos rfl, if_neg (by decide)]
      simp only []
      rw [hammockref02_Scan.l0]
      rcases Nat.lt_or_ge p s.size with hlt | hge
      · rw [if_pos (by omega), if_neg (by rw [← size_eq]; omega), show ((0 : Int) == 0) = true by decide, hammockref02_Scan.j1, if_pos rfl, rone s hs p hlt _ (by omega)]
        simp only [Option.bind_some]
        cases ho : oneL (s.data.toList.drop p) with
        | bad d e =>
          obtain ⟨c, _, hcons⟩ := drop_cons0 hlt
          have he : e ≠ 0 := by rw [hcons] at ho; exact one_err ho
          have he' : ¬ (oneR p (.bad d e)).2.2.2.2.2.2 = 0 := he
          rw [if_neg he', hammockref02_Scan.j2, if_neg (by decide), if_neg he', scanE_bad acc _ _ _ h3]
          rfl
        | tok k m t v =>
          obtain ⟨c, _, hcons⟩ := drop_cons0 hlt
          have hlen : 1 ≤ m ∧ m ≤ s.size - p := by
            have h5 := ho
            rw [hcons] at h5
            have := one_len h5
            rw [← hcons, List.length_drop, ← size_eq] at this
            exact this
          have he' : (oneR p (.tok k m t v)).2.2.2.2.2.2 = 0 := rfl
          rw [if_pos he', hammockref02_Scan.j2]
          by_cases hfull : acc.length = 16384
          · rw [if_pos (by simp; omega), if_neg (by decide), scanE_full acc _ _ _ hfull]
          · rw [if_neg (by simp; omega), if_pos he', if_pos (by omega), scanE_cons acc _ _ _ (by omega)]
            unfold hammockref02_skip.f
            have hmul : s.size * (s.size + 50) + s.size + 50 ≤ K := by omega
            have hsk : hammockref02_skip.l0 K s (oneR p (.tok k m t v)).2.2.1 = some (skipR s (p + m)) := skip_l0 s hs s.size (p + m) (by omega) (by omega) K hmul
            rw [hsk]
            simp only [Option.bind_some]
            exact ih (p + m) _ f (by omega) (by omega) (by simp; omega) (by omega) K (by omega)
      · rw [if_neg (by omega), if_pos (by rw [← size_eq]; omega), hammockref02_Scan.j1, if_neg (by decide), if_pos rfl, if_pos (by omega), scanE_nil acc _ h3]
set_option maxRecDepth 4000 in
theorem fuel_ar (M n K : Nat) (h : M + 7 * n + 310 ≤ K) : 4 * n + 4 + (M + 3 * n + 300) ≤ K := by omega
theorem rscan_f (s : ByteArray) (hs : s.size ≤ 140737488351232) (K : Nat) (hK : s.size * (s.size + 50) + 7 * s.size + 310 ≤ K) :
    hammockref02_Scan.f K s = some ((scanL s.data.toList).1.map t54, (scanL s.data.toList).2) := by
  unfold hammockref02_Scan.f scanL
  rw [← size_eq]
  by_cases hbig : 65536 < s.size
  · rw [if_pos (by omega), if_pos hbig]; rfl
  · rw [if_neg (by omega), if_neg hbig]
    unfold hammockref02_skip.f
    have h0 := skip_l0 s hs s.size 0 (by omega) (by omega) K (by omega)
    rw [show ((0 : Nat) : Int) = 0 from rfl] at h0
    rw [h0]
    simp only [Option.bind_some]
    have e0 : ([] : List S54).length ≤ 16384 := by rw [List.length_nil]; omega
    have e1 := fuel_ar _ _ _ hK
    have hr := rscan s hs (s.size * (s.size + 50) + 3 * s.size + 300) (Nat.le_refl _) s.size 0 [] (s.size + 1) (by omega) (by omega) e0 (by omega) K e1
    refine hr.trans ?_
    congr 1
    unfold scanE scanR
    simp only [List.length_nil, Nat.zero_add, Nat.sub_zero, List.nil_append]
    split
    · rfl
    · cases (toks s.data.toList (s.size + 1) 0).2 with
      | none => simp [t54]
      | some q => rfl
end Go.Proofs.YtiioanpmfpefcaaDoor.Pur
/- The tokens are the same. -/
namespace Go.Proofs.YtiioanpmfpefcaaDoor.Pur
open Go.RowKit Go.Proofs.YtiioanpmfpefcaaDoor.P Go.Proofs.YtiioanpmfpefcaaDoorW.PrintWords Go.Proofs.YtiioanpmfpefcaaDoor.Tok
theorem rsame (xs : List S41) (hl : xs.length ≤ 1000000) : ∀ (n j : Nat), xs.length - j ≤ n → j ≤ xs.length → ∀ K, n + 1 ≤ K → hammocklaw02_Same.l0 K xs (xs.map t54) (j : Int) = some true := by
  intro n
  induction n with
  | zero =>
    intro j h1 h2 K hK
    obtain ⟨K, rfl⟩ : ∃ K', K = K' + 1 := ⟨K - 1, by omega⟩
    rw [hammocklaw02_Same.l0, if_neg (by omega)]
  | succ n ih =>
    intro j h1 h2 K hK
    obtain ⟨K, rfl⟩ : ∃ K', K = K' + 1 := ⟨K - 1, by omega⟩
    rcases Nat.lt_or_ge j xs.length with hlt | hge
    · rw [hammocklaw02_Same.l0, if_pos (by omega), if_pos (by omega), if_pos (by rw [List.length_map]; omega)]
      have e1 : rd_T41 xs (j : Int) = xs[j] := by unfold rd_T41; simp [hlt]
      have e2 : rd_T54 (xs.map t54) (j : Int) = t54 xs[j] := by unfold rd_T54; simp [hlt]
      rw [e1, e2]
      unfold hammocklaw02_Own.f t54
      simp only [Option.bind_some, beq_self_eq_true, Bool.not_true, Bool.or_self]
      rw [if_neg (by decide), w64 (by omega) (by omega), show ((j : Int) + 1) = ((j + 1 : Nat) : Int) by omega]
      exact ih (j + 1) (by omega) (by omega) K (by omega)
    · rw [hammocklaw02_Same.l0, if_neg (by omega)]
theorem rsame_f (xs : List S41) (hl : xs.length ≤ 1000000) (K : Nat) (hK : xs.length + 1 ≤ K) : hammocklaw02_Same.f K xs (xs.map t54) = some true := by
  unfold hammocklaw02_Same.f
  rw [if_pos (by rw [List.length_map])]
  exact rsame xs hl xs.length 0 (by omega) (by omega) K hK
theorem scanL_len (l : List UInt8) : (scanL l).1.length ≤ 20000 := by
  unfold scanL
  split
  · simp
  · unfold scanR
    split
    · simp
    · split
      · simp; omega
      · simp
theorem knows_ok : hammocklaw02_knows.f = some true := by decide +kernel
end Go.Proofs.YtiioanpmfpefcaaDoor.Pur
