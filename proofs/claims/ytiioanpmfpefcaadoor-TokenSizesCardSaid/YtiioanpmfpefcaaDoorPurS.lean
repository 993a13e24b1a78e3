/- Scans of sources at the limits. -/
import Derived.Test.YtiioanpmfpefcaaDoorPurH
namespace Go.Proofs.YtiioanpmfpefcaaDoor.Pur
open Go.RowKit Go.Proofs.YtiioanpmfpefcaaDoor.P Go.Proofs.YtiioanpmfpefcaaDoorW.PrintWords Go.Proofs.YtiioanpmfpefcaaDoor.Tok
theorem skp_spaces : ∀ (f n : Nat), n < f → skp f (List.replicate n 32) = (n, true)
  | 0, _, h => by omega
  | f + 1, 0, _ => rfl
  | f + 1, n + 1, h => by
    rw [List.replicate_succ, skp]
    have hd : (32 :: List.replicate n (32 : UInt8)).drop 1 = List.replicate n 32 := rfl
    rw [if_pos (by decide), hd, skp_spaces f n (by omega)]
theorem scan_spaces (n : Nat) : (scanL (List.replicate n 32)).2.2 = if 65536 < n then 6 else 0 := by
  unfold scanL
  rw [List.length_replicate]
  by_cases h : 65536 < n
  · rw [if_pos h, if_pos h]
  · rw [if_neg h, if_neg h, toks, List.drop_zero]
    unfold skpL
    rw [List.length_replicate, skp_spaces _ _ (by omega), if_neg (by simp), if_pos (by simp)]
    rfl
theorem toks_semi (n : Nat) : ∀ (f i : Nat), i ≤ n → n - i < f → (toks (List.replicate n 59) f i).1.length = n - i ∧ (toks (List.replicate n 59) f i).2 = none
  | 0, _, _, h => by omega
  | f + 1, i, hi, h => by
    rw [toks, List.drop_replicate, List.length_replicate]
    rcases Nat.lt_or_ge i n with hlt | hge
    · obtain ⟨m, hm⟩ : ∃ m, n - i = m + 1 := ⟨n - i - 1, by omega⟩
      rw [hm]
      have hs : skpL (List.replicate (m + 1) 59) = (0, true) := by
        unfold skpL
        rw [List.length_replicate, List.replicate_succ, skp, if_neg (by decide)]
        have ht : ∀ a b : UInt8, a ≠ 59 → (59 :: List.replicate m (59 : UInt8)).take 2 ≠ [a, b] := by
          intro a b ha he
          rw [List.take_succ_cons] at he
          exact ha (List.cons.inj he).1.symm
        rw [if_neg (ht _ _ (by decide)), if_neg (ht _ _ (by decide))]
      rw [hs, if_neg (by decide), if_neg (by simp only; omega)]
      simp only [Nat.add_zero]
      rw [List.drop_replicate, hm]
      have ho : oneL (List.replicate (m + 1) 59) = .tok 7 1 [59] 0 := by
        rw [List.replicate_succ]
        rfl
      rw [ho]
      have := toks_semi n f (i + 1) (by omega) (by omega)
      simp only [List.length_cons]
      exact ⟨by omega, this.2⟩
    · obtain rfl : i = n := by omega
      rw [Nat.sub_self]
      rw [show skpL (List.replicate 0 59) = (0, true) from rfl, if_neg (by decide), if_pos (by simp)]
      exact ⟨rfl, rfl⟩
theorem scan_semi (n : Nat) (h : n ≤ 65536) : (scanL (List.replicate n 59)).2.2 = if 16384 < n then 6 else 0 := by
  unfold scanL
  rw [List.length_replicate, if_neg (by omega)]
  have ht := toks_semi n (n + 1) 0 (by omega) (by omega)
  unfold scanR
  rw [ht.1, ht.2, Nat.sub_zero]
  split <;> rfl
theorem scan_name : (scanL (List.replicate 31 97)).2.2 = 0 ∧ (scanL (List.replicate 32 97)).2.2 = 0 ∧ (scanL (List.replicate 33 97)).2.2 ≠ 0 := by decide +kernel
theorem scan_text : (scanL (34 :: List.replicate 255 98 ++ [34])).2.2 = 0 ∧ (scanL (34 :: List.replicate 256 98 ++ [34])).2.2 = 0 ∧ (scanL (34 :: List.replicate 257 98 ++ [34])).2.2 ≠ 0 := by decide +kernel
def deepL : Nat → List UInt8
  | 0 => []
  | n + 1 => [123, 45] ++ deepL n ++ [45, 125]
theorem scan_deep : (scanL (deepL 99)).2.2 = 0 ∧ (scanL (deepL 100)).2.2 = 0 ∧ (scanL (deepL 101)).2.2 ≠ 0 := by decide +kernel
end Go.Proofs.YtiioanpmfpefcaaDoor.Pur
