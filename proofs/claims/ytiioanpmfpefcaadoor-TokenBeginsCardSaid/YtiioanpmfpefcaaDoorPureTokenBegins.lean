/- TokenBegins, the plain law: what is scanned up to where a token ends. -/
import Derived.Test.YtiioanpmfpefcaaDoorPx12
import Derived.Test.YtiioanpmfpefcaaDoorPurH
import Derived.Test.YtiioanpmfpefcaaDoorPurM
namespace Go.Proofs.YtiioanpmfpefcaaDoor.Pure
open Go.RowKit Go.Proofs.YtiioanpmfpefcaaDoor.P Go.Proofs.YtiioanpmfpefcaaDoorW.PrintWords Go.Proofs.YtiioanpmfpefcaaDoorW.PrintLast Go.Proofs.YtiioanpmfpefcaaDoor.Pur Go.Proofs.YtiioanpmfpefcaaDoor.Loc
open Go.Proofs.YtiioanpmfpefcaaDoor.Tok (size_eq scanR toks extract_eq)
theorem begins_l0 (q : Nat) (xs ys : List S41) (hq : q < 1000000) (hx : q < xs.length) (hy : q < ys.length) (h : ∀ j, j ≤ q → ys.getD j z41 = xs.getD j z41) (K : Nat) : ∀ (d i : Nat), i + d = q + 1 → hammocklaw02_TokenBegins.l0 (K + d + 1) q xs ys i = some true := by
  intro d
  induction d with
  | zero =>
    intro i hi
    rw [hammocklaw02_TokenBegins.l0, if_neg (by omega)]
  | succ d ih =>
    intro i hi
    rw [hammocklaw02_TokenBegins.l0, if_pos (by omega), if_pos (by omega), if_pos (by omega), if_pos (by omega)]
    have e : rd_T41 ys i = rd_T41 xs i := by
      unfold rd_T41
      rw [Int.toNat_natCast]
      exact h i (by omega)
    rw [e]
    simp only [beq_self_eq_true, Bool.not_true, Bool.or_self]
    rw [if_neg (by decide), w64 (by omega) (by omega), show ((i : Int) + 1) = ((i + 1 : Nat) : Int) by omega]
    exact ih (i + 1) (by omega)
/-- What a scan without a fault is. -/
theorem scan_ok {l : List UInt8} (h : (scanL l).2.2 = 0) : l.length ≤ 65536 ∧ (toks l (l.length + 1) 0).1.length ≤ 16384 ∧ (toks l (l.length + 1) 0).2 = none ∧ scanL l = ((toks l (l.length + 1) 0).1 ++ [⟨9, l.length, l.length, ⟨#[]⟩, 0⟩], 0, 0) := by
  unfold scanL at h ⊢
  by_cases c1 : 65536 < l.length
  · rw [if_pos c1] at h; cases h
  · rw [if_neg c1] at h ⊢
    unfold scanR at h ⊢
    by_cases c2 : 16384 < (toks l (l.length + 1) 0).1.length
    · rw [if_pos c2] at h; cases h
    · rw [if_neg c2] at h ⊢
      cases c3 : (toks l (l.length + 1) 0).2 with
      | none => exact ⟨by omega, by omega, rfl, rfl⟩
      | some q =>
        rw [c3] at h
        exact absurd h (Tok.toks_err _ _ _ _ _ c3)
theorem getD_app {α : Type} (xs ys : List α) (j : Nat) (z : α) (h : j < xs.length) : (xs ++ ys).getD j z = xs.getD j z := by
  simp [List.getD_eq_getElem?_getD, List.getElem?_append_left h]
theorem getD_take {α : Type} (xs : List α) (n j : Nat) (z : α) (h : j < n) : (xs.take n).getD j z = xs.getD j z := by
  simp [List.getD_eq_getElem?_getD, h]
theorem begins_f (K : Nat) (a0 : ByteArray) (a1 : Int) (R : List S41 × Int × Int) (hbig : ¬ (a0.size : Int) > 1500) (h1 : token_Scan.f a0 = some R) (hE : R.2.2 = 0) (h2 : ¬ (R.1.length : Int) < 2) :
    hammocklaw02_TokenBegins.f K a0 a1 = hammocklaw02_TokenBegins.j0 K a0 a1 R.1 false := by
  unfold hammocklaw02_TokenBegins.f
  rw [knows_ok, if_neg hbig, h1]
  show (if R.2.2 = 0 then _ else _) = _
  rw [if_pos hE, decide_eq_false h2]
theorem begins_j0 (K : Nat) (a0 : ByteArray) (a1 : Int) (l m : List S41) (L q e : Nat) (hL : wrap64 ((l.length : Int) - 1) = L) (hpos : 0 < L)
    (hq : (q : Int) = Int.tmod (wrap64 ((wrap64 ((Int.tmod a1 L) + (l.length : Int))) - 1)) L) (_hqL : q < L) (hql : (q : Int) < l.length) (he : (rd_T41 l (q : Int)).f2 = (e : Int)) (hes : e ≤ a0.size ∧ a0.size ≤ 1500)
    (hm : token_Scan.f (a0.extract 0 e ++ (⟨#[10]⟩ : ByteArray)) = some (m, 0, 0)) (hlen : (m.length : Int) = wrap64 ((q : Int) + 2)) (hl0 : hammocklaw02_TokenBegins.l0 K q l m 0 = some true) :
    hammocklaw02_TokenBegins.j0 (K + 1 + 1) a0 a1 l false = some true := by
  rw [hammocklaw02_TokenBegins.j0, knows_ok, if_neg (by decide), hL, ← hq, if_neg (by omega), if_pos (by omega), if_pos hql, he, if_pos (by omega), if_pos (by omega), Int.toNat_natCast,
    if_pos (by rw [ByteArray.size_extract]; omega), hm]
  rw [Option.bind_some]
  unfold hammocklaw02_num.f
  rw [Option.bind_some, if_pos (show ((m, (0 : Int), (0 : Int)) : List S41 × Int × Int).2.2 = 0 from rfl), if_pos (show ((((m, (0 : Int), (0 : Int)) : List S41 × Int × Int).1.length : Nat) : Int) = wrap64 ((q : Int) + 2) from hlen), Option.bind_some, Bool.not_true,
    hammocklaw02_TokenBegins.j1, if_neg (by decide)]
  exact hl0
theorem TokenBegins : hammocklaw02_TokenBegins.Pure := by
  intro a0 a1 hs w1
  by_cases hbig : (a0.size : Int) > 1500
  · exact ⟨0, by unfold hammocklaw02_TokenBegins.f; rw [if_pos hbig, knows_ok]; rfl⟩
  have h1 : token_Scan.f a0 = some (scanL a0.data.toList) := by unfold token_Scan.f; rw [if_pos (by omega)]
  by_cases hE : (scanL a0.data.toList).2.2 = 0
  · obtain ⟨_, hT1, hT2, hsc⟩ := scan_ok hE
    generalize hT : toks a0.data.toList (a0.data.toList.length + 1) 0 = T at hT1 hT2 hsc
    have hlen : (scanL a0.data.toList).1.length = T.1.length + 1 := by rw [hsc]; simp
    by_cases h2 : ((scanL a0.data.toList).1.length : Int) < 2
    · refine ⟨1, ?_⟩
      unfold hammocklaw02_TokenBegins.f
      rw [if_neg hbig, h1]
      simp only [Option.bind_some, hammocklaw02_num.f]
      rw [if_pos hE, decide_eq_true h2, hammocklaw02_TokenBegins.j0, if_pos rfl, knows_ok]
      rfl
    · obtain ⟨L, hL⟩ : ∃ L : Nat, (L : Int) = T.1.length := ⟨_, rfl⟩
      have hw1 : wrap64 (((scanL a0.data.toList).1.length : Int) - 1) = L := by rw [hlen, w64 (by omega) (by omega)]; omega
      have hLpos : 0 < (L : Int) := by omega
      have t1 := Int.tmod_lt_of_pos a1 hLpos
      have t2 : -(L : Int) < Int.tmod a1 L := by have := Int.lt_tmod_of_pos a1 hLpos; omega
      obtain ⟨q, hq⟩ : ∃ q : Nat, (q : Int) = Int.tmod (wrap64 ((wrap64 ((Int.tmod a1 L) + ((scanL a0.data.toList).1.length : Int))) - 1)) L := by
        rw [hlen]
        have e1 : wrap64 ((Int.tmod a1 L) + ((T.1.length + 1 : Nat) : Int)) = (Int.tmod a1 L) + ((T.1.length + 1 : Nat) : Int) := w64 (by omega) (by omega)
        rw [e1, w64 (by omega) (by omega), Int.tmod_eq_emod_of_nonneg (by omega)]
        have := Int.emod_nonneg ((Int.tmod a1 L) + ((T.1.length + 1 : Nat) : Int) - 1) (show (L : Int) ≠ 0 by omega)
        exact ⟨_, Int.toNat_of_nonneg this⟩
      have hqL : (q : Int) < L := by rw [hq]; exact Int.tmod_lt_of_pos _ hLpos
      obtain ⟨e, he1, heq, he2⟩ := toks_end a0.data.toList (a0.data.toList.length + 1) 0 q (by rw [hT]; omega)
      rw [hT] at he1
      have hrd : rd_T41 (scanL a0.data.toList).1 (q : Int) = T.1.getD q z41 := by
        unfold rd_T41
        rw [hsc, Int.toNat_natCast, getD_app _ _ _ _ (by omega)]
      have hS2 : (a0.extract 0 e ++ (⟨#[10]⟩ : ByteArray)).data.toList = a0.data.toList.take e ++ [10] := by
        have h2 := extract_eq a0 0 e
        rw [Nat.zero_add, List.drop_zero] at h2
        rw [h2]
        simp
      have hlen2 : (a0.data.toList.take e ++ [10]).length = e + 1 := by rw [List.length_append, List.length_take, Nat.min_eq_left he2]; rfl
      have hsz : a0.data.toList.length = a0.size := (size_eq a0).symm
      have hsc2 : scanL (a0.data.toList.take e ++ [10]) = (T.1.take (q + 1) ++ [⟨9, (e + 1 : Nat), (e + 1 : Nat), ⟨#[]⟩, 0⟩], 0, 0) := by
        have hpre2 := toks_pre a0.data.toList e he2 q (a0.data.toList.length + 1) 0 (by rw [hT]; omega) (by rw [hT]; exact he1) (e + 1 + 1) (by omega)
        rw [hT] at hpre2
        unfold scanL
        rw [hlen2, if_neg (by omega), hpre2]
        unfold scanR
        simp only
        rw [if_neg (by rw [List.length_take]; omega)]
      have hm : token_Scan.f (a0.extract 0 e ++ (⟨#[10]⟩ : ByteArray)) = some (T.1.take (q + 1) ++ [⟨9, (e + 1 : Nat), (e + 1 : Nat), ⟨#[]⟩, 0⟩], 0, 0) := by
        unfold token_Scan.f
        rw [if_pos (by rw [ByteArray.size_append, ByteArray.size_extract]; have : (⟨#[10]⟩ : ByteArray).size = 1 := rfl; omega), hS2, hsc2]
      have hmlen : (T.1.take (q + 1) ++ [(⟨9, (e + 1 : Nat), (e + 1 : Nat), ⟨#[]⟩, 0⟩ : S41)]).length = q + 2 := by
        rw [List.length_append, List.length_take]; simp; omega
      have hl0 := begins_l0 q (scanL a0.data.toList).1 (T.1.take (q + 1) ++ [⟨9, (e + 1 : Nat), (e + 1 : Nat), ⟨#[]⟩, 0⟩]) (by omega) (by omega) (by omega) (fun j hj => by
        rw [getD_app _ _ _ _ (by rw [List.length_take]; omega), getD_take _ _ _ _ (by omega), hsc, getD_app _ _ _ _ (by omega)]) 0 (q + 1) 0 (by omega)
      rw [Nat.zero_add] at hl0
      refine ⟨q + 1 + 1 + 1 + 1, ?_⟩
      rw [begins_f _ a0 a1 _ hbig h1 hE h2]
      refine begins_j0 _ a0 a1 _ _ L q e hw1 (by omega) hq (by omega) (by omega) (by rw [hrd]; exact he1) (by omega) hm ?_ hl0
      rw [hmlen, w64 (by omega) (by omega)]
      omega
  · refine ⟨1, ?_⟩
    unfold hammocklaw02_TokenBegins.f
    rw [if_neg hbig, h1]
    simp only [Option.bind_some, hammocklaw02_num.f]
    rw [if_neg hE, hammocklaw02_TokenBegins.j0, if_pos rfl, knows_ok]
    rfl
end Go.Proofs.YtiioanpmfpefcaaDoor.Pure
