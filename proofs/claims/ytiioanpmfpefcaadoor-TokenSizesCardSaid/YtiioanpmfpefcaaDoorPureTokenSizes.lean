/- TokenSizes, the plain law. -/
import Derived.Test.YtiioanpmfpefcaaDoorPx11
import Derived.Test.YtiioanpmfpefcaaDoorPurS
namespace Go.Proofs.YtiioanpmfpefcaaDoor.Pure
open Go.RowKit Go.Proofs.YtiioanpmfpefcaaDoor.P Go.Proofs.YtiioanpmfpefcaaDoorW.PrintWords Go.Proofs.YtiioanpmfpefcaaDoorW.PrintLast Go.Proofs.YtiioanpmfpefcaaDoor.Pur
open Go.Proofs.YtiioanpmfpefcaaDoor.Tok (size_eq)
/-- Where both have scanned. -/
theorem sizes_j3 (s : ByteArray) (hs : s.size ≤ 70000) (m : Int) (h : ((scanL s.data.toList).2.2 ≠ 0) ↔ m > 0) (K : Nat) (hK : 70000 * 70050 + 7 * 70000 + 400 ≤ K) :
    hammocklaw02_TokenSizes.j3 K m s = some true := by
  obtain ⟨K, rfl⟩ : ∃ K', K = K' + 1 := ⟨K - 1, by omega⟩
  have h1 : token_Scan.f s = some (scanL s.data.toList) := by unfold token_Scan.f; rw [if_pos (by omega)]
  have hmul : s.size * (s.size + 50) ≤ 70000 * 70050 := Nat.mul_le_mul hs (by omega)
  rw [hammocklaw02_TokenSizes.j3, h1, rscan_f s (by omega) K (by omega)]
  simp only [Option.bind_some, hammocklaw02_num.f]
  have hb : (((scanL s.data.toList).2.2 != 0) == decide (m > 0)) = true := by
    rw [beq_iff_eq, Bool.eq_iff_iff, bne_iff_ne, decide_eq_true_iff]
    exact h
  rw [hb, if_pos rfl, if_pos trivial, if_pos trivial, knows_ok]
  rfl
/-- The loop that fills. -/
theorem sizes_fill (a0 m : Int) (c : Int) (hc : rd ([32, 59, 97, 98, 32] : List Int) (Int.tmod (wrap64 ((Int.tmod a0 5) + 5)) 5) = c) (h0 : 0 ≤ Int.tmod (wrap64 ((Int.tmod a0 5) + 5)) 5) (h1 : Int.tmod (wrap64 ((Int.tmod a0 5) + 5)) 5 < 5) (n : Nat) (hn : n ≤ 70000) (r : Bool) (K : Nat)
    (hend : hammocklaw02_TokenSizes.l0 K a0 m n (List.replicate n c) n = some r) : ∀ (d i : Nat), i + d = n → hammocklaw02_TokenSizes.l0 (K + d) a0 m n (List.replicate i c ++ List.replicate d 0) i = some r := by
  intro d
  induction d with
  | zero =>
    intro i hi
    obtain rfl : i = n := by omega
    simpa using hend
  | succ d ih =>
    intro i hi
    rw [show K + (d + 1) = (K + d) + 1 by omega, hammocklaw02_TokenSizes.l0, if_pos (by omega)]
    simp only [Option.bind_some]
    rw [if_pos h0, if_pos (by simpa using h1), if_pos (by omega), if_pos (by simp; omega), hc, w64 (by omega) (by omega), Int.toNat_natCast]
    have hset : (List.replicate i c ++ List.replicate (d + 1) 0).set i c = List.replicate (i + 1) c ++ List.replicate d 0 := by
      rw [List.set_append_right _ _ (by simp), List.length_replicate, Nat.sub_self, List.replicate_succ, List.set_cons_zero, List.replicate_succ', List.append_assoc]
      rfl
    rw [hset, show ((i : Int) + 1) = ((i + 1 : Nat) : Int) by omega]
    exact ih (i + 1) (by omega)
/-- The loop that wraps notes. -/
theorem deep_size : ∀ n, (deepL n).length = 4 * n
  | 0 => rfl
  | n + 1 => by simp [deepL, deep_size n]; omega
theorem sizes_deep (m : Int) (n : Nat) (hn : n ≤ 1000) (r : Bool) (K : Nat) (hend : hammocklaw02_TokenSizes.l1 K m n ⟨(deepL n).toArray⟩ n = some r) : ∀ (d i : Nat), i + d = n → hammocklaw02_TokenSizes.l1 (K + d) m n ⟨(deepL i).toArray⟩ i = some r := by
  intro d
  induction d with
  | zero =>
    intro i hi
    obtain rfl : i = n := by omega
    exact hend
  | succ d ih =>
    intro i hi
    have hz : (⟨(deepL i).toArray⟩ : ByteArray).size = 4 * i := by rw [size_eq]; exact deep_size i
    have h2 : (⟨#[123, 45]⟩ : ByteArray).size = 2 := rfl
    rw [show K + (d + 1) = (K + d) + 1 by omega, hammocklaw02_TokenSizes.l1, if_pos (by omega), if_pos (by omega), if_pos (by rw [ByteArray.size_append]; omega), w64 (by omega) (by omega), show ((i : Int) + 1) = ((i + 1 : Nat) : Int) by omega]
    have hs : ((⟨#[123, 45]⟩ : ByteArray) ++ ⟨(deepL i).toArray⟩) ++ (⟨#[45, 125]⟩ : ByteArray) = ⟨(deepL (i + 1)).toArray⟩ := by
      apply ByteArray.ext
      apply Array.toList_inj.1
      simp [deepL]
    rw [hs]
    exact ih (i + 1) (by omega)
theorem nums_rep (n : Nat) (b : UInt8) : strOfNums (List.replicate n (b.toNat : Int)) = ⟨(List.replicate n b).toArray⟩ := by
  have := Tok.nums_bytes (List.replicate n b)
  rwa [List.map_replicate] at this
theorem size_rep (n : Nat) (b : UInt8) : (⟨(List.replicate n b).toArray⟩ : ByteArray).size = n := by
  rw [size_eq]; simp
/-- Behind the filling. -/
theorem sizes_l0 (a0 m j : Int) (hj : Int.tmod (wrap64 ((Int.tmod a0 5) + 5)) 5 = j) (h0 : 0 ≤ j) (h1 : j < 5) (n : Nat) (hn : n ≤ 65537) (b : UInt8) (hb : rd ([32, 59, 97, 98, 32] : List Int) j = b.toNat) (K : Nat)
    (h : hammocklaw02_TokenSizes.j1 K a0 m n (if j = 3 then ⟨(34 :: List.replicate n b ++ [34]).toArray⟩ else ⟨(List.replicate n b).toArray⟩) = some true) :
    hammocklaw02_TokenSizes.l0 (K + 1 + n) a0 m n (List.replicate n 0) 0 = some true := by
  have hend : hammocklaw02_TokenSizes.l0 (K + 1) a0 m n (List.replicate n (b.toNat : Int)) n = some true := by
    rw [hammocklaw02_TokenSizes.l0, if_neg (by omega), hj, nums_rep]
    by_cases h3 : j = 3
    · rw [if_pos h3] at h ⊢
      have h2 : (⟨#[34]⟩ : ByteArray).size = 1 := rfl
      have hz := size_rep n b
      rw [if_pos (by omega), if_pos (by rw [ByteArray.size_append]; omega)]
      have hs : ((⟨#[34]⟩ : ByteArray) ++ ⟨(List.replicate n b).toArray⟩) ++ (⟨#[34]⟩ : ByteArray) = ⟨(34 :: List.replicate n b ++ [34]).toArray⟩ := by
        apply ByteArray.ext
        apply Array.toList_inj.1
        simp
      rw [hs]
      exact h
    · rw [if_neg h3] at h ⊢
      exact h
  have := sizes_fill a0 m b.toNat (by rw [hj]; exact hb) (by rw [hj]; exact h0) (by rw [hj]; exact h1) n (by omega) true (K + 1) hend n 0 (by omega)
  simpa using this
theorem sizes_flat (a0 m j : Int) (hj : Int.tmod (wrap64 ((Int.tmod a0 5) + 5)) 5 = j) (h4 : j ≠ 4) (n : Nat) (s : ByteArray) (hs : s.size ≤ 70000) (h : ((scanL s.data.toList).2.2 ≠ 0) ↔ m > 0) (K : Nat) (hK : 70000 * 70050 + 7 * 70000 + 401 ≤ K) :
    hammocklaw02_TokenSizes.j1 K a0 m n s = some true := by
  obtain ⟨K, rfl⟩ : ∃ K', K = K' + 1 := ⟨K - 1, by omega⟩
  rw [hammocklaw02_TokenSizes.j1, hj, if_neg h4]
  exact sizes_j3 s hs m h K (by omega)
theorem sizes_wrap (a0 m : Int) (hj : Int.tmod (wrap64 ((Int.tmod a0 5) + 5)) 5 = 4) (n : Nat) (hn : n ≤ 1000) (s : ByteArray) (h : ((scanL (deepL n)).2.2 ≠ 0) ↔ m > 0) (K : Nat) (hK : 70000 * 70050 + 7 * 70000 + 401 ≤ K) :
    hammocklaw02_TokenSizes.j1 (K + n + 1) a0 m n s = some true := by
  obtain ⟨K, rfl⟩ : ∃ K', K = K' + 1 := ⟨K - 1, by omega⟩
  rw [hammocklaw02_TokenSizes.j1, hj, if_pos rfl]
  have hz : (⟨(deepL n).toArray⟩ : ByteArray).size = 4 * n := by rw [size_eq]; exact deep_size n
  refine sizes_deep m n hn true (K + 1) ?_ n 0 (by omega)
  rw [hammocklaw02_TokenSizes.l1, if_neg (by omega)]
  exact sizes_j3 _ (by omega) m h K (by omega)
theorem three {m : Int} (h0 : -1 ≤ m) (h1 : m ≤ 1) : m = -1 ∨ m = 0 ∨ m = 1 := by omega
theorem TokenSizes : hammocklaw02_TokenSizes.Pure := by
  intro a0 a1 w0 w1
  obtain ⟨j, hj⟩ : ∃ j, Int.tmod (wrap64 ((Int.tmod a0 5) + 5)) 5 = j := ⟨_, rfl⟩
  obtain ⟨m, hm⟩ : ∃ m, wrap64 ((Int.tmod (wrap64 ((Int.tmod a1 3) + 3)) 3) - 1) = m := ⟨_, rfl⟩
  have t5 := Int.tmod_lt_of_pos a0 (show (0 : Int) < 5 by omega)
  have t5' : -5 < Int.tmod a0 5 := by have := Int.lt_tmod_of_pos a0 (show (0 : Int) < 5 by omega); omega
  have t3 := Int.tmod_lt_of_pos a1 (show (0 : Int) < 3 by omega)
  have t3' : -3 < Int.tmod a1 3 := by have := Int.lt_tmod_of_pos a1 (show (0 : Int) < 3 by omega); omega
  have hj0 : 0 ≤ j ∧ j < 5 := by
    rw [← hj, w64 (by omega) (by omega), Int.tmod_eq_emod_of_nonneg (by omega)]
    omega
  have hm0 : -1 ≤ m ∧ m ≤ 1 := by
    have e : wrap64 ((Int.tmod a1 3) + 3) = (Int.tmod a1 3) + 3 := w64 (by omega) (by omega)
    rw [e, Int.tmod_eq_emod_of_nonneg (by omega), w64 (by omega) (by omega)] at hm
    omega
  have body : ∀ (N : Nat), rd ([65536, 16384, 32, 256, 100] : List Int) j = N → 2 ≤ N → N ≤ 65536 → (∀ n : Nat, (n : Int) = N + m → ∃ k, hammocklaw02_TokenSizes.l0 k a0 m n (List.replicate n 0) 0 = some true) → ∃ k, hammocklaw02_TokenSizes.f k a0 a1 = some true := by
    intro N hN h2 hN2 hk
    obtain ⟨n, hn⟩ : ∃ n : Nat, (n : Int) = N + m := ⟨((N : Int) + m).toNat, by omega⟩
    obtain ⟨k, hk⟩ := hk n hn
    refine ⟨k, ?_⟩
    unfold hammocklaw02_TokenSizes.f
    simp only [Option.bind_some]
    rw [hj, hm, hN, w64 (n := (N : Int) + m) (by omega) (by omega), ← hn, Int.toNat_natCast, if_pos hj0.1, if_pos (by simpa using hj0.2), if_pos (by omega), if_pos (by omega)]
    exact hk
  have cases5 : j = 0 ∨ j = 1 ∨ j = 2 ∨ j = 3 ∨ j = 4 := by omega
  rcases cases5 with rfl | rfl | rfl | rfl | rfl
  · refine body 65536 rfl (by omega) (by omega) fun n hn => ⟨_, sizes_l0 a0 m 0 hj (by omega) (by omega) n (by omega) 32 rfl (70000 * 70050 + 7 * 70000 + 401) ?_⟩
    rw [if_neg (by omega)]
    refine sizes_flat a0 m 0 hj (by omega) n _ (by rw [size_rep]; omega) ?_ _ (Nat.le_refl _)
    rw [show (⟨(List.replicate n 32).toArray⟩ : ByteArray).data.toList = List.replicate n 32 from rfl, scan_spaces]
    split <;> omega
  · refine body 16384 rfl (by omega) (by omega) fun n hn => ⟨_, sizes_l0 a0 m 1 hj (by omega) (by omega) n (by omega) 59 rfl (70000 * 70050 + 7 * 70000 + 401) ?_⟩
    rw [if_neg (by omega)]
    refine sizes_flat a0 m 1 hj (by omega) n _ (by rw [size_rep]; omega) ?_ _ (Nat.le_refl _)
    rw [show (⟨(List.replicate n 59).toArray⟩ : ByteArray).data.toList = List.replicate n 59 from rfl, scan_semi n (by omega)]
    split <;> omega
  · refine body 32 rfl (by omega) (by omega) fun n hn => ⟨_, sizes_l0 a0 m 2 hj (by omega) (by omega) n (by omega) 97 rfl (70000 * 70050 + 7 * 70000 + 401) ?_⟩
    rw [if_neg (by omega)]
    refine sizes_flat a0 m 2 hj (by omega) n _ (by rw [size_rep]; omega) ?_ _ (Nat.le_refl _)
    show (scanL (List.replicate n 97)).2.2 ≠ 0 ↔ m > 0
    have sn := scan_name
    rcases three hm0.1 hm0.2 with rfl | rfl | rfl
    · obtain rfl : n = 31 := by omega
      rw [sn.1]; decide
    · obtain rfl : n = 32 := by omega
      rw [sn.2.1]; decide
    · obtain rfl : n = 33 := by omega
      exact ⟨fun _ => by omega, fun _ => sn.2.2⟩
  · refine body 256 rfl (by omega) (by omega) fun n hn => ⟨_, sizes_l0 a0 m 3 hj (by omega) (by omega) n (by omega) 98 rfl (70000 * 70050 + 7 * 70000 + 401) ?_⟩
    rw [if_pos rfl]
    refine sizes_flat a0 m 3 hj (by omega) n _ (by rw [size_eq]; simp; omega) ?_ _ (Nat.le_refl _)
    show (scanL (34 :: List.replicate n 98 ++ [34])).2.2 ≠ 0 ↔ m > 0
    have sn := scan_text
    rcases three hm0.1 hm0.2 with rfl | rfl | rfl
    · obtain rfl : n = 255 := by omega
      rw [sn.1]; decide
    · obtain rfl : n = 256 := by omega
      rw [sn.2.1]; decide
    · obtain rfl : n = 257 := by omega
      exact ⟨fun _ => by omega, fun _ => sn.2.2⟩
  · refine body 100 rfl (by omega) (by omega) fun n hn => ⟨_, sizes_l0 a0 m 4 hj (by omega) (by omega) n (by omega) 32 rfl (70000 * 70050 + 7 * 70000 + 401 + n + 1) ?_⟩
    rw [if_neg (by omega)]
    refine sizes_wrap a0 m hj n (by omega) _ ?_ _ (Nat.le_refl _)
    have sn := scan_deep
    rcases three hm0.1 hm0.2 with rfl | rfl | rfl
    · obtain rfl : n = 99 := by omega
      rw [sn.1]; decide
    · obtain rfl : n = 100 := by omega
      rw [sn.2.1]; decide
    · obtain rfl : n = 101 := by omega
      exact ⟨fun _ => by omega, fun _ => sn.2.2⟩
end Go.Proofs.YtiioanpmfpefcaaDoor.Pure
