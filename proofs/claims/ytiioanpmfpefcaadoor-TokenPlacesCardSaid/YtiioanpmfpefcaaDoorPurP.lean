/- Few facts that the plain laws lean on: numbers of digits; knows. -/
import Derived.Test.YtiioanpmfpefcaaDoorPx16
import Derived.Test.YtiioanpmfpefcaaDoorTokK
namespace Go.Proofs.YtiioanpmfpefcaaDoor.Pr0
open Go.RowKit Go.Proofs.YtiioanpmfpefcaaDoor.P Go.Proofs.YtiioanpmfpefcaaDoorW.PrintWords Go.Proofs.YtiioanpmfpefcaaDoor.Tok
theorem w64 {n : Int} (h0 : -9223372036854775808 ≤ n) (h1 : n < 9223372036854775808) : wrap64 n = n := by unfold wrap64; omega
theorem dig_fin : ∀ c : Fin 256, isDig (UInt8.ofNat c.val) = true → 48 ≤ c.val ∧ c.val ≤ 57 := by decide +kernel
theorem dig_rng {c : UInt8} (h : isDig c = true) : 48 ≤ c.toNat ∧ c.toNat ≤ 57 := by
  have := dig_fin ⟨c.toNat, c.toNat_lt⟩ (by simpa using h)
  simpa using this
/-- The number of a row of digits, behind one that is there; none: too great. -/
def pm : Nat → List UInt8 → Option Nat
  | a, [] => some a
  | a, c :: t => if 9223372036854775807 < 10 * a + (c.toNat - 48) then none else pm (10 * a + (c.toNat - 48)) t
theorem uint_ge : ∀ (l : List UInt8) (a u : Nat), Lib.parseUint10 a l = .ok u → a ≤ u
  | [], a, u, h => by simp only [Lib.parseUint10, Lib.NumEnd.ok.injEq] at h; omega
  | c :: t, a, u, h => by
    simp only [Lib.parseUint10] at h
    split at h
    · split at h
      · cases h
      · split at h
        · cases h
        · have := uint_ge t _ u h; omega
    · cases h
theorem pm_eq : ∀ (l : List UInt8) (a : Nat), a ≤ 9223372036854775807 → (∀ c ∈ l, isDig c = true) →
    pm a l = match Lib.parseUint10 a l with | .ok u => if 9223372036854775808 ≤ u then none else some u | _ => none
  | [], a, ha, _ => by simp only [pm, Lib.parseUint10]; rw [if_neg (by omega)]
  | c :: t, a, ha, hd => by
    have hc := dig_rng (hd c (by simp))
    rw [pm, Lib.parseUint10, if_pos hc]
    by_cases h1 : 9223372036854775807 < 10 * a + (c.toNat - 48)
    · rw [if_pos h1]
      split
      next u hu =>
        split at hu
        · cases hu
        · split at hu
          · cases hu
          · have := uint_ge _ _ _ hu
            rw [if_pos (by omega)]
      next => rfl
    · rw [if_neg h1, if_neg (by omega), if_neg (by omega), pm_eq t _ (by omega) (fun x hx => hd x (by simp [hx])), Nat.mul_comm a 10]
theorem numV_pm (l : List UInt8) (h0 : l ≠ []) (hd : ∀ c ∈ l, isDig c = true) : numV l = (pm 0 l).map (fun n : Nat => (n : Int)) := by
  cases l with
  | nil => exact absurd rfl h0
  | cons c t =>
    have hc := dig_rng (hd c (by simp))
    rw [pm_eq _ 0 (by omega) hd]
    unfold numV Lib.atoiAll
    simp only []
    rw [if_neg (by omega)]
    unfold Lib.parseMag
    rw [if_neg h0]
    cases Lib.parseUint10 0 (c :: t) with
    | ok u =>
      simp only []
      by_cases hu : 9223372036854775808 ≤ u
      · rw [if_pos ⟨by omega, hu⟩, if_pos hu]; rfl
      · rw [if_neg (by omega), if_neg (by omega), if_neg hu, if_neg (by omega)]; rfl
    | _ => rfl
theorem runL_cons (p : UInt8 → Bool) (c : UInt8) (t : List UInt8) : runL p (c :: t) = if p c = true then runL p t + 1 else 0 := by
  unfold runL; rw [List.takeWhile_cons]; split <;> simp
theorem take_run (p : UInt8 → Bool) : ∀ (l : List UInt8) (x : UInt8), x ∈ l.take (runL p l) → p x = true
  | [], x, h => by simp at h
  | c :: t, x, h => by
    rw [runL_cons] at h
    split at h
    next hc =>
      rw [List.take_succ_cons, List.mem_cons] at h
      rcases h with rfl | h
      · exact hc
      · exact take_run p t x h
    next => simp at h
theorem knows_ok : hammocklaw02_knows.f = some true := by decide +kernel
end Go.Proofs.YtiioanpmfpefcaaDoor.Pr0
