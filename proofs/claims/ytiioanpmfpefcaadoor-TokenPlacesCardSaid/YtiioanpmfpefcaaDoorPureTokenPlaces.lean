/- TokenPlaces, the plain law: tokens stand one behind the other; what lies between them has no tokens; a token's bytes alone are it. -/
import Derived.Test.YtiioanpmfpefcaaDoorPx17
import Derived.Test.YtiioanpmfpefcaaDoorPurQ
namespace Go.Proofs.YtiioanpmfpefcaaDoor.Pure
open Go.RowKit Go.Proofs.YtiioanpmfpefcaaDoor.P Go.Proofs.YtiioanpmfpefcaaDoorW.PrintWords Go.Proofs.YtiioanpmfpefcaaDoorW.PrintLast Go.Proofs.YtiioanpmfpefcaaDoor.Pr0 Go.Proofs.YtiioanpmfpefcaaDoor.Loc
open Go.Proofs.YtiioanpmfpefcaaDoor.Tok (size_eq scanR toks skpL oneL extract_eq skip_le)
theorem pl_round (K : Nat) (a0 : ByteArray) (l : List S41) (pos i : Int) (t : S41) (G O : List S41 × Int × Int) (h0 : 0 ≤ i) (hi : i < (l.length : Int)) (hrd : rd_T41 l i = t)
    (hp : 0 ≤ pos) (h1 : pos ≤ t.f1) (h2 : t.f1 ≤ t.f2) (h3 : t.f2 ≤ (a0.size : Int)) (hk : ((t.f0 == 9) != (i == wrap64 ((l.length : Int) - 1))) = false)
    (hg : token_Scan.f (a0.extract pos.toNat t.f1.toNat) = some G) (hg1 : G.2.2 = 0) (hg2 : (G.1.length : Int) = 1)
    (ho : token_Scan.f (a0.extract t.f1.toNat t.f2.toNat) = some O) (ho1 : O.2.2 = 0)
    (hcmp : i < wrap64 ((l.length : Int) - 1) → (O.1.length : Int) = 2 ∧ (rd_T41 O.1 0).f0 = t.f0 ∧ ((rd_T41 O.1 0).f3).toList = (t.f3).toList ∧ (rd_T41 O.1 0).f4 = t.f4)
    (hnext : hammocklaw02_TokenPlaces.l0 K a0 l t.f2 (wrap64 (i + 1)) = some true) : hammocklaw02_TokenPlaces.l0 (K + 1 + 1 + 1) a0 l pos i = some true := by
  rw [hammocklaw02_TokenPlaces.l0, if_pos hi, if_pos h0, hrd, if_neg (by omega), if_neg (by omega), if_neg (by omega), hk,
    hammocklaw02_TokenPlaces.j1, if_neg (by decide), if_pos h0, if_pos hi, if_pos hp, hrd, if_pos h1, if_pos (by omega), hg, Option.bind_some]
  unfold hammocklaw02_num.f
  rw [Option.bind_some, if_pos hg1, hg2, show ((1 : Int) != 1) = false by decide,
    hammocklaw02_TokenPlaces.j2, if_neg (by decide), if_pos h0, if_pos hi, hrd, if_pos (by omega), if_pos h2, if_pos h3, ho, Option.bind_some]
  unfold hammocklaw02_num.f
  rw [Option.bind_some, if_pos ho1]
  by_cases hc : i < wrap64 ((l.length : Int) - 1)
  · obtain ⟨c1, c2, c3, c4⟩ := hcmp hc
    rw [if_pos hc, if_pos c1, if_pos (by omega), if_pos c2, if_pos c3, if_pos c4]
    exact hnext
  · rw [if_neg hc]
    exact hnext
theorem pl_end (K : Nat) (a0 : ByteArray) (l : List S41) (i : Int) (hl : 0 < (l.length : Int)) (hi : i = (l.length : Int)) : hammocklaw02_TokenPlaces.l0 (K + 1) a0 l (a0.size : Int) i = some true := by
  rw [hammocklaw02_TokenPlaces.l0, knows_ok, if_neg (by omega), if_pos hl, if_pos rfl, Option.bind_some]
theorem cut_scan (a0 : ByteArray) (a n : Nat) (hs : a0.size ≤ 140737488351232) (h : a + n ≤ a0.size) : token_Scan.f (a0.extract a (a + n)) = some (scanL ((a0.data.toList.drop a).take n)) := by
  rw [extract_eq]
  unfold token_Scan.f
  rw [if_pos (by rw [size_eq]; simp only [List.length_take, List.length_drop]; omega)]
theorem places (a0 : ByteArray) (hs : a0.size ≤ 1000) (l pre0 : List S41) : ∀ (f pos : Nat) (pre : List S41), a0.size - pos < f → pos ≤ a0.size → l = pre ++ (toks a0.data.toList f pos).1 ++ [⟨9, a0.size, a0.size, ⟨#[]⟩, 0⟩] → (toks a0.data.toList f pos).2 = none →
    ∀ K, 3 * f + 10 ≤ K → l.length ≤ 100000 → hammocklaw02_TokenPlaces.l0 K a0 l pos pre.length = some true
  | 0, pos, pre, h, _, _, _, _, _, _ => by omega
  | f + 1, pos, pre, hf, hpos, hl, hnone, K, hK, hll => by
    obtain ⟨K, rfl⟩ : ∃ K', K = K' + 1 + 1 + 1 := ⟨K - 3, by omega⟩
    have hsz : a0.data.toList.length = a0.size := (size_eq a0).symm
    have hsk : (skpL (a0.data.toList.drop pos)).1 ≤ a0.size - pos := by
      have := skip_le ((a0.data.toList.drop pos).length + 1) (a0.data.toList.drop pos)
      rw [List.length_drop, hsz] at this
      rw [skpL, List.length_drop, hsz]
      exact this
    rcases Nat.eq_zero_or_pos (toks a0.data.toList (f + 1) pos).1.length with hz | hpositive
    · -- the end
      have hnil := List.eq_nil_of_length_eq_zero hz
      have hlen : l.length = pre.length + 1 := by rw [hl, hnil]; simp
      have hskip : skpL (a0.data.toList.drop pos) = (a0.size - pos, true) := by
        have hn2 := hnone
        have hz2 := hz
        rw [toks] at hn2 hz2
        by_cases c1 : (skpL (a0.data.toList.drop pos)).2 = false
        · rw [if_pos c1] at hn2; cases hn2
        · rw [if_neg c1] at hn2 hz2
          by_cases c2 : a0.data.toList.length ≤ pos + (skpL (a0.data.toList.drop pos)).1
          · exact Prod.ext (by simp only; omega) (by simpa using c1)
          · rw [if_neg c2] at hn2 hz2
            split at hz2
            · next ho => rw [ho] at hn2; cases hn2
            · simp at hz2
      have hrd : rd_T41 l (pre.length : Int) = ⟨9, a0.size, a0.size, ⟨#[]⟩, 0⟩ := by
        unfold rd_T41
        rw [Int.toNat_natCast, hl, hnil]
        simp
      have hgap : token_Scan.f (a0.extract (pos : Int).toNat (a0.size : Int).toNat) = some ([⟨9, (a0.size - pos : Nat), (a0.size - pos : Nat), ⟨#[]⟩, 0⟩], 0, 0) := by
        have h1 := cut_scan a0 pos (a0.size - pos) (by omega) (by omega)
        rw [show pos + (a0.size - pos) = a0.size by omega] at h1
        rw [Int.toNat_natCast, Int.toNat_natCast, h1, List.take_of_length_le (by rw [List.length_drop]; omega)]
        have hxl : (a0.data.toList.drop pos).length = a0.size - pos := by rw [List.length_drop, hsz]
        have := scan_gap (a0.data.toList.drop pos) [] (by rw [List.append_nil, hxl]; exact hskip) (by omega)
        rw [this, hxl]
      have hone : token_Scan.f (a0.extract (a0.size : Int).toNat (a0.size : Int).toNat) = some ([⟨9, 0, 0, ⟨#[]⟩, 0⟩], 0, 0) := by
        have h1 := cut_scan a0 a0.size 0 (by omega) (by omega)
        rw [Nat.add_zero] at h1
        rw [Int.toNat_natCast, h1, List.take_zero]
        rfl
      refine pl_round K a0 l pos pre.length _ _ _ (by omega) (by omega) hrd (by omega) (by show (pos : Int) ≤ (a0.size : Int); omega) (Int.le_refl _) (Int.le_refl _) ?_ hgap rfl rfl hone rfl ?_ ?_
      · rw [w64 (by omega) (by omega), hlen, show ((pre.length : Int) == ((pre.length + 1 : Nat) : Int) - 1) = true by rw [beq_iff_eq]; omega]
        rfl
      · intro hc
        rw [w64 (by omega) (by omega)] at hc
        omega
      · rw [w64 (by omega) (by omega)]
        obtain ⟨K, rfl⟩ : ∃ K', K = K' + 1 := ⟨K - 1, by omega⟩
        exact pl_end K a0 l _ (by omega) (by omega)
    · obtain ⟨d, k, n, txt, v, g1, g2, g3, g4, g5, g6⟩ := toks_first (f := f) (i := pos) (S := a0.data.toList) hpositive
      rw [g6] at hl hnone
      simp only at hl hnone
      rw [hsz] at g2 g5
      have hd : d ≤ a0.size - pos := by omega
      have hlen : pre.length + 2 ≤ l.length := by rw [hl]; simp
      have hrd : rd_T41 l (pre.length : Int) = ⟨k, ((pos + d : Nat) : Int), ((pos + d + n : Nat) : Int), ⟨txt.toArray⟩, v⟩ := by
        unfold rd_T41
        rw [Int.toNat_natCast, hl]
        simp
      have hk9 : k ≠ 9 := by
        rcases one_kinds g3 with ⟨⟨_, _, _, h9, _⟩, _⟩ | ⟨h, _⟩ | ⟨h, _⟩ | ⟨h, _⟩
        · exact h9
        all_goals omega
      have hgap : token_Scan.f (a0.extract (pos : Int).toNat ((pos + d : Nat) : Int).toNat) = some ([⟨9, (d : Nat), (d : Nat), ⟨#[]⟩, 0⟩], 0, 0) := by
        rw [Int.toNat_natCast, Int.toNat_natCast, cut_scan a0 pos d (by omega) (by omega)]
        have hxl : ((a0.data.toList.drop pos).take d).length = d := by rw [List.length_take, List.length_drop, hsz]; omega
        have := scan_gap ((a0.data.toList.drop pos).take d) ((a0.data.toList.drop pos).drop d) (by rw [List.take_append_drop, hxl]; exact g1) (by omega)
        rw [this, hxl]
      have hone : token_Scan.f (a0.extract ((pos + d : Nat) : Int).toNat ((pos + d + n : Nat) : Int).toNat) = some ([⟨k, 0, (n : Nat), ⟨txt.toArray⟩, v⟩, ⟨9, (n : Nat), (n : Nat), ⟨#[]⟩, 0⟩], 0, 0) := by
        rw [Int.toNat_natCast, Int.toNat_natCast, cut_scan a0 (pos + d) n (by omega) (by omega)]
        have hxl : ((a0.data.toList.drop (pos + d)).take n).length = n := by rw [List.length_take, List.length_drop, hsz]; omega
        have htw : skpL (a0.data.toList.drop (pos + d)) = (0, true) := by
          have := skpL_twice g1
          rw [List.drop_drop] at this
          exact this
        have := scan_one ((a0.data.toList.drop (pos + d)).take n) ((a0.data.toList.drop (pos + d)).drop n) k v txt (by rw [List.take_append_drop]; exact htw) (by rw [List.take_append_drop, hxl]; exact g3) (by omega) (by omega)
        rw [this, hxl]
      refine pl_round K a0 l pos pre.length _ _ _ (by omega) (by omega) hrd (by omega) (by show (pos : Int) ≤ ((pos + d : Nat) : Int); omega) (by show ((pos + d : Nat) : Int) ≤ ((pos + d + n : Nat) : Int); omega) (by show ((pos + d + n : Nat) : Int) ≤ (a0.size : Int); omega) ?_ hgap rfl rfl hone rfl (fun _ => ⟨rfl, rfl, rfl, rfl⟩) ?_
      · rw [w64 (by omega) (by omega), show ((pre.length : Int) == (l.length : Int) - 1) = false by rw [beq_eq_false_iff_ne]; omega, show (k == 9) = false by rw [beq_eq_false_iff_ne]; exact hk9]
        rfl
      · rw [w64 (by omega) (by omega)]
        have ih := places a0 hs l pre0 f (pos + d + n) (pre ++ [⟨k, ((pos + d : Nat) : Int), ((pos + d + n : Nat) : Int), ⟨txt.toArray⟩, v⟩]) (by omega) (by omega) (by rw [hl]; simp) hnone K (by omega) hll
        rw [List.length_append, List.length_cons, List.length_nil, Nat.zero_add] at ih
        rw [show ((pre.length : Int) + 1) = ((pre.length + 1 : Nat) : Int) by omega]
        exact ih
theorem scan_okp {l : List UInt8} (h : (scanL l).2.2 = 0) : (toks l (l.length + 1) 0).2 = none ∧ scanL l = ((toks l (l.length + 1) 0).1 ++ [⟨9, l.length, l.length, ⟨#[]⟩, 0⟩], 0, 0) := by
  unfold scanL at h ⊢
  by_cases c1 : 65536 < l.length
  · rw [if_pos c1] at h; cases h
  · rw [if_neg c1] at h ⊢
    unfold scanR at h ⊢
    by_cases c2 : 16384 < (toks l (l.length + 1) 0).1.length
    · rw [if_pos c2] at h; cases h
    · rw [if_neg c2] at h ⊢
      cases c3 : (toks l (l.length + 1) 0).2 with
      | none => exact ⟨rfl, rfl⟩
      | some q =>
        rw [c3] at h
        exact absurd h (Tok.toks_err _ _ _ _ _ c3)
theorem pl_f (K : Nat) (a0 : ByteArray) (R : List S41 × Int × Int) (hbig : ¬ (a0.size : Int) > 1000) (h1 : token_Scan.f a0 = some R) (hok : R.2.2 = 0 → hammocklaw02_TokenPlaces.l0 K a0 R.1 0 0 = some true) :
    hammocklaw02_TokenPlaces.f K a0 = some true := by
  unfold hammocklaw02_TokenPlaces.f
  rw [knows_ok, if_neg hbig, h1, Option.bind_some]
  unfold hammocklaw02_num.f
  rw [Option.bind_some]
  by_cases hE : R.2.2 = 0
  · rw [if_pos hE]; exact hok hE
  · rw [if_neg hE, Option.bind_some]
theorem TokenPlaces : ∀ (a0 : ByteArray), a0.size ≤ 140737488351232 → ∃ k, hammocklaw02_TokenPlaces.f k a0 = some true := by
  intro a0 hs
  by_cases hbig : (a0.size : Int) > 1000
  · exact ⟨0, by unfold hammocklaw02_TokenPlaces.f; rw [knows_ok, if_pos hbig, Option.bind_some]⟩
  have h1 : token_Scan.f a0 = some (scanL a0.data.toList) := by unfold token_Scan.f; rw [if_pos (by omega)]
  have hsz : a0.data.toList.length = a0.size := (size_eq a0).symm
  refine ⟨3 * (a0.size + 1) + 10, pl_f _ a0 _ hbig h1 fun hE => ?_⟩
  obtain ⟨hT2, hsc⟩ := scan_okp hE
  have hcnt := toks_count a0.data.toList (a0.data.toList.length + 1) 0
  rw [hsz] at hT2 hsc hcnt
  have hR : (scanL a0.data.toList).1 = (toks a0.data.toList (a0.size + 1) 0).1 ++ [⟨9, a0.size, a0.size, ⟨#[]⟩, 0⟩] := by rw [hsc]
  have := places a0 (by omega) (scanL a0.data.toList).1 [] (a0.size + 1) 0 [] (by omega) (by omega) (by rw [List.nil_append]; exact hR) hT2 (3 * (a0.size + 1) + 10) (Nat.le_refl _) (by rw [hR, List.length_append]; simp; omega)
  exact this
end Go.Proofs.YtiioanpmfpefcaaDoor.Pure
