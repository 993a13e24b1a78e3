/- The lines of a text of at most 1000 bytes, with line feeds between them, are the text, and there is no line ahead of the first or behind the last: proved for every text. -/
import Derived.Test.YthdggiccibnneaaPx4
import Derived.Test.YthdggiccibnneaaKnow
import Derived.Test.YthdggiccibnneaaLin
namespace Go.Proofs.Ythdggiccibnneaa.Pure
open Go.RowKit Go.Proofs.Ythdggiccibnneaa.P Go.Proofs.Ythdggiccibnneaa.Lin Go.Proofs.YthdggiccibnneaaW.PrintWords Go.Proofs.YthdggiccibnneaaW.PrintLast

theorem take_nl (l : List UInt8) (h : 0 ≤ nl l) : l.take ((nl l).toNat + 1) = l.take (nl l).toNat ++ [10] := by
  induction l with
  | nil => rw [nl_nil] at h; omega
  | cons b t ih =>
    by_cases hb : b = 10
    · subst hb; rw [nl_feed]; rfl
    · rw [nl_other b t hb] at h ⊢
      by_cases hn : nl t < 0
      · rw [if_pos hn] at h; omega
      · rw [if_neg hn]
        rw [show (nl t + 1).toNat = (nl t).toNat + 1 by omega, List.take_succ_cons, List.take_succ_cons, ih (by omega)]
        rfl
theorem glue (L : List UInt8) (q : Nat) (hq : q ≤ L.length) (h : ¬ nl (L.drop q) < 0) :
    L.take (en L q) ++ [10] ++ ln L (q + (nl (L.drop q)).toNat + 1) = L.take (en L (q + (nl (L.drop q)).toNat + 1)) := by
  have hlt := nl_lt (L.drop q)
  rw [List.length_drop] at hlt
  have e1 : L.take (en L q) ++ [10] = L.take (q + (nl (L.drop q)).toNat + 1) := by
    unfold en; rw [if_neg h]
    rw [show q + (nl (L.drop q)).toNat + 1 = q + ((nl (L.drop q)).toNat + 1) by omega, List.take_add, List.take_add, take_nl _ (by omega), List.append_assoc]
  rw [e1]
  unfold ln
  have he := en_le L (q + (nl (L.drop q)).toNat + 1) (by omega)
  generalize en L (q + (nl (L.drop q)).toNat + 1) = e at *
  generalize q + (nl (L.drop q)).toNat + 1 = p at *
  rw [show L.take p = (L.take e).take p by rw [List.take_take]; congr 1; omega]
  exact List.take_append_drop p _

theorem loop (s : ByteArray) (hs : s.size ≤ 1000) : ∀ (m k : Nat) (t : ByteArray) (i q : Nat), s.size + 2 - i = m → 2 ≤ i → i ≤ s.size + 2 → 2 * s.size + 60 < k + i →
    st s.data.toList (i - 2) 0 = some q → t.data.toList = s.data.toList.take (en s.data.toList q) →
    hammocklaw01_GlyphLines.l0 k s t ((i : Int) - 1) (i : Int) = some true := by
  intro m
  induction m with
  | zero =>
    intro k t i q hm h2 hi hk hst ht
    obtain rfl : i = s.size + 2 := by omega
    obtain ⟨k, rfl⟩ : ∃ m, k = m + 1 := ⟨k - 1, by omega⟩
    have hb := st_le _ _ _ _ (Nat.zero_le _) hst
    rw [← size_eq] at hb
    obtain rfl : q = s.size := by omega
    have he := en_le s.data.toList s.size (by rw [size_eq]; exact Nat.le_refl _)
    rw [← size_eq] at he
    obtain rfl : t = s := bytes_ext (by rw [ht, List.take_of_length_le (by rw [← size_eq]; omega)])
    simp only [hammocklaw01_GlyphLines.l0]
    rw [if_neg (by unfold wrap64; omega)]
    rw [show wrap64 (((t.size + 2 : Nat) : Int) - 1 + 1) = ((t.size + 2 : Nat) : Int) by unfold wrap64; omega]
    rw [line_f t (by omega) _ (by omega) k (by omega), line_f t (by omega) 0 (by omega) k (by omega)]
    rw [if_neg (by omega), if_pos (by omega)]
    have hn : st t.data.toList ((((t.size + 2 : Nat) : Int) - 1).toNat) 0 = none := by
      cases hc : st t.data.toList ((((t.size + 2 : Nat) : Int) - 1).toNat) 0 with
      | none => rfl
      | some r => have := st_le _ _ _ _ (Nat.zero_le _) hc; rw [← size_eq] at this; omega
    rw [hn]
    simp only [Option.bind_some, if_true]
    rw [if_neg (by decide), if_neg (by decide)]
    rw [at_rounds hammocklaw01_knows.mono (show 40 ≤ k by omega) knows_true]
    rfl
  | succ m ih =>
    intro k t i q hm h2 hi hk hst ht
    obtain ⟨k, rfl⟩ : ∃ m, k = m + 1 := ⟨k - 1, by omega⟩
    have hb := st_le _ _ _ _ (Nat.zero_le _) hst
    rw [← size_eq] at hb
    have hsn := st_snoc s.data.toList (i - 2) 0
    rw [hst] at hsn
    simp only [Option.bind_some] at hsn
    rw [show i - 2 + 1 = i - 1 by omega] at hsn
    simp only [hammocklaw01_GlyphLines.l0]
    rw [if_pos (by unfold wrap64; omega)]
    rw [line_f s (by omega) _ (by omega) k (by omega), if_neg (by omega)]
    rw [show ((i : Int) - 1).toNat = i - 1 by omega, hsn]
    by_cases hn : nl (s.data.toList.drop q) < 0
    · rw [if_pos hn]
      simp only [Option.bind_some]
      rw [if_neg (by decide)]
      rw [show wrap64 ((i : Int) - 1 + 1) = (i : Int) by unfold wrap64; omega]
      rw [line_f s (by omega) _ (by omega) k (by omega), if_neg (by omega), show ((i : Int) - 1).toNat = i - 1 by omega, hsn, if_pos hn]
      rw [line_f s (by omega) 0 (by omega) k (by omega), if_pos (by omega)]
      obtain rfl : t = s := bytes_ext (by rw [ht]; unfold en; rw [if_pos hn, List.take_length])
      simp only [Option.bind_some, if_true]
      rw [if_neg (by decide), if_neg (by decide)]
      rw [at_rounds hammocklaw01_knows.mono (show 40 ≤ k by omega) knows_true]
      rfl
    · rw [if_neg hn]
      simp only [Option.bind_some, if_true]
      have hts : t.size ≤ 1000 := by rw [size_eq, ht, List.length_take]; rw [← size_eq]; omega
      have hlt := nl_lt (s.data.toList.drop q)
      rw [List.length_drop, ← size_eq] at hlt
      have hl := slice_data s (q + (nl (s.data.toList.drop q)).toNat + 1) (en s.data.toList (q + (nl (s.data.toList.drop q)).toNat + 1))
      have hls : (s.extract (q + (nl (s.data.toList.drop q)).toNat + 1) (en s.data.toList (q + (nl (s.data.toList.drop q)).toNat + 1))).size ≤ 1000 := by
        rw [size_eq, hl, List.length_drop, List.length_take, ← size_eq]; omega
      rw [if_pos (by omega), if_pos (by rw [ByteArray.size_append]; have : (⟨#[10]⟩ : ByteArray).size = 1 := rfl; omega)]
      rw [show wrap64 ((i : Int) + 1) = ((i + 1 : Nat) : Int) by unfold wrap64; omega]
      have := ih k ((t ++ (⟨#[10]⟩ : ByteArray)) ++ s.extract (q + (nl (s.data.toList.drop q)).toNat + 1) (en s.data.toList (q + (nl (s.data.toList.drop q)).toNat + 1))) (i + 1) (q + (nl (s.data.toList.drop q)).toNat + 1) (by omega) (by omega) (by omega) (by omega)
        (by rw [show i + 1 - 2 = i - 1 by omega, hsn, if_neg hn])
        (by
          rw [ByteArray.data_append, Array.toList_append, ByteArray.data_append, Array.toList_append, ht, hl]
          exact glue s.data.toList q (by rw [← size_eq]; omega) hn)
      rw [show ((i + 1 : Nat) : Int) - 1 = (i : Int) by omega] at this
      exact this

theorem lines_at (s : ByteArray) (hs : s.size ≤ 140737488351232) (K : Nat) (hK : 2 * s.size + 100 ≤ K) : hammocklaw01_GlyphLines.f K s = some true := by
  have hkn := at_rounds hammocklaw01_knows.mono (show 40 ≤ K by omega) knows_true
  unfold hammocklaw01_GlyphLines.f
  by_cases h : (s.size : Int) > 1000
  · rw [if_pos h, hkn]; rfl
  · rw [if_neg h, line_f s hs 1 (by omega) K (by omega), if_neg (by omega)]
    have e0 : ((1 : Int) - 1).toNat = 0 := by omega
    rw [e0]
    have e3 : st s.data.toList 0 0 = some 0 := by rw [st]
    rw [e3]
    simp only [Option.bind_some, if_true]
    have key := loop s (by omega) (s.size + 2 - 2) K (s.extract 0 (en s.data.toList 0)) 2 0 rfl (by omega) (by omega) (by omega) e3 (by rw [slice_data, List.drop_zero])
    have e1 : ((2 : Nat) : Int) - 1 = 1 := by omega
    have e2 : ((2 : Nat) : Int) = 2 := by omega
    rw [e1, e2] at key
    exact key
theorem GlyphLines : hammocklaw01_GlyphLines.Pure := fun s hs => ⟨2 * s.size + 100, lines_at s hs _ (Nat.le_refl _)⟩
end Go.Proofs.Ythdggiccibnneaa.Pure
