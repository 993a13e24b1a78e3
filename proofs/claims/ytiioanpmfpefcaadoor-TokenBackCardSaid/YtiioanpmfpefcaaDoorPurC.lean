/- The reference's scanner, function by function, is the program's. Classes; what stands at a place. -/
import Derived.Test.YtiioanpmfpefcaaDoorPx2
import Derived.Test.YtiioanpmfpefcaaDoorScan
import Derived.Test.YtiioanpmfpefcaaDoorPx3
namespace Go.Proofs.YtiioanpmfpefcaaDoor.Pur
open Go.RowKit Go.Proofs.YtiioanpmfpefcaaDoor.P Go.Proofs.YtiioanpmfpefcaaDoorW.PrintWords Go.Proofs.YtiioanpmfpefcaaDoor.Tok
theorem rcls_fin : ∀ c : Fin 256, hammockref01_Class.f 40 (c.val : Int) = some ((cls (UInt8.ofNat c.val) : Nat) : Int) := by decide +kernel
theorem rcls (c : UInt8) (K : Nat) (hK : 40 ≤ K) : hammockref01_Class.f K (c.toNat : Int) = some ((cls c : Nat) : Int) := by
  have h : hammockref01_Class.f 40 (c.toNat : Int) = some ((cls c : Nat) : Int) := by
    have := rcls_fin ⟨c.toNat, c.toNat_lt⟩
    simpa using this
  induction K with
  | zero => omega
  | succ K ih =>
    rcases Nat.lt_or_ge K 40 with h' | h'
    · obtain rfl : K = 39 := by omega
      exact h
    · exact hammockref01_Class.mono _ _ _ (ih h')
theorem w64 {n : Int} (h0 : -9223372036854775808 ≤ n) (h1 : n < 9223372036854775808) : wrap64 n = n := by unfold wrap64; omega
theorem rat (s t : ByteArray) (i : Nat) (hs : s.size ≤ 140737488351232) (ht : t.size ≤ 1000) (hi : i ≤ s.size) :
    hammockref02_at.f s (i : Int) t = some (t.data.toList.isPrefixOf (s.data.toList.drop i)) := by
  unfold hammockref02_at.f
  rw [w64 (by omega) (by omega), w64 (by omega) (by omega)]
  by_cases h : (s.size : Int) - i ≥ t.size
  · rw [if_pos h, if_pos (by omega), if_pos (by omega), if_pos (by omega)]
    congr 1
    rw [show ((i : Int) + (t.size : Int)) = ((i + t.size : Nat) : Int) by omega, Int.toNat_natCast, Int.toNat_natCast, ByteArray.toList_eq, ByteArray.toList_eq, extract_eq]
    show (((s.data.toList.drop i).take t.size) == t.data.toList) = _
    rw [Bool.eq_iff_iff, beq_iff_eq, List.isPrefixOf_iff_prefix, List.prefix_iff_eq_take, size_eq t]
    exact ⟨fun h => h.symm, fun h => h.symm⟩
  · rw [if_neg h]
    congr 1
    symm
    rw [Bool.eq_false_iff]
    intro hp
    have := (List.isPrefixOf_iff_prefix.1 hp).length_le
    rw [List.length_drop, ← size_eq, ← size_eq] at this
    omega
end Go.Proofs.YtiioanpmfpefcaaDoor.Pur
/- The reference's skip. -/
namespace Go.Proofs.YtiioanpmfpefcaaDoor.Pur
open Go.RowKit Go.Proofs.YtiioanpmfpefcaaDoor.P Go.Proofs.YtiioanpmfpefcaaDoorW.PrintWords Go.Proofs.YtiioanpmfpefcaaDoor.Tok
theorem isRow_iff (c : UInt8) : isRow c = false ↔ (c.toNat : Int) = 10 := by
  unfold isRow
  constructor
  · intro h
    have : c = 10 := by simpa using h
    subst this; rfl
  · intro h
    have : c = 10 := UInt8.toNat_inj.1 (Int.ofNat_inj.1 h)
    subst this; rfl
theorem skip_l1 (s : ByteArray) (hs : s.size ≤ 140737488351232) : ∀ (n j K : Nat), j ≤ s.size → runL isRow (s.data.toList.drop j) = n → hammockref02_skip.l1 (K + n + 1) s (j : Int) = hammockref02_skip.l0 K s ((j + n : Nat) : Int) := by
  intro n
  induction n with
  | zero =>
    intro j K hj h
    rw [hammockref02_skip.l1]
    rcases drop_case s j with ⟨hge, hd⟩ | ⟨c, hlt, hd, hb⟩
    · rw [if_neg (by omega)]; rfl
    · have hb2 : bt s (j : Int) = (c.toNat : Int) := bt_q s j c (drop_two hd).1
      have hr : isRow c = false := by
        rw [hd] at h; unfold runL at h; rw [List.takeWhile_cons] at h
        cases hc : isRow c with
        | false => rfl
        | true => rw [hc] at h; simp at h
      rw [if_pos (by omega), if_pos (by omega), hb2, if_pos ((isRow_iff c).1 hr)]; rfl
  | succ n ih =>
    intro j K hj h
    rw [show K + (n + 1) + 1 = (K + n + 1) + 1 by omega, hammockref02_skip.l1]
    rcases drop_case s j with ⟨hge, hd⟩ | ⟨c, hlt, hd, hb⟩
    · rw [hd] at h; simp [runL] at h
    · have hb2 : bt s (j : Int) = (c.toNat : Int) := bt_q s j c (drop_two hd).1
      rw [hd] at h; unfold runL at h; rw [List.takeWhile_cons] at h
      cases hc : isRow c with
      | false => rw [hc] at h; simp at h
      | true =>
        rw [hc] at h
        rw [if_pos (by omega), if_pos (by omega), hb2, if_neg (by intro e; rw [(isRow_iff c).2 e] at hc; cases hc), w64 (by omega) (by omega)]
        rw [show ((j : Int) + 1) = ((j + 1 : Nat) : Int) by omega, ih (j + 1) K (by omega) (by simpa [runL] using h)]
        congr 1; omega
theorem take2_pre (a b : UInt8) (l : List UInt8) : ([a, b] : List UInt8).isPrefixOf l = decide (l.take 2 = [a, b]) := pre2 a b l
theorem skip_l2 (s : ByteArray) (hs : s.size ≤ 140737488351232) (fr : Int) : ∀ (n j d : Nat), s.size - j ≤ n → j < s.size → 1 ≤ d → d ≤ 100 →
    (noteL (s.data.toList.drop j) d = none → ∀ K, n + 2 ≤ K → hammockref02_skip.l2 K s (j : Int) fr (d : Int) true = some (fr, fr, 23)) ∧
    (∀ m R K0, noteL (s.data.toList.drop j) d = some m → (∀ K', K0 ≤ K' → hammockref02_skip.l0 K' s ((j + m : Nat) : Int) = some R) → ∀ K, K0 + n + 2 ≤ K → hammockref02_skip.l2 K s (j : Int) fr (d : Int) true = some R) := by
  intro n
  induction n with
  | zero => intro j d h1 h2; omega
  | succ n ih =>
    intro j d hn hj h1 h100
    have hne : s.data.toList.drop j ≠ [] := by
      intro e; have := congrArg List.length e; rw [List.length_drop, ← size_eq] at this; simp at this; omega
    have hst := noteL_step (s.data.toList.drop j) d hne
    have ha := rat s ⟨#[123, 45]⟩ j hs (by decide) (by omega)
    have hb := rat s ⟨#[45, 125]⟩ j hs (by decide) (by omega)
    rw [show (⟨#[123, 45]⟩ : ByteArray).data.toList = [123, 45] from rfl, take2_pre] at ha
    rw [show (⟨#[45, 125]⟩ : ByteArray).data.toList = [45, 125] from rfl, take2_pre] at hb
    have endN : ∀ e, s.size ≤ j + e → ∀ d', noteL (s.data.toList.drop (j + e)) d' = none := fun e he d' => by
      rw [List.drop_of_length_le (by rw [← size_eq]; exact he)]; rfl
    have w1 : wrap64 ((j : Int) + 2) = ((j + 2 : Nat) : Int) := by rw [w64 (by omega) (by omega)]; omega
    have w2 : wrap64 ((j : Int) + 1) = ((j + 1 : Nat) : Int) := by rw [w64 (by omega) (by omega)]; omega
    by_cases hA : (s.data.toList.drop j).take 2 = [123, 45]
    · have h2 := take2_len hA
      rw [List.length_drop, ← size_eq] at h2
      rw [if_pos hA] at hst
      have wd : wrap64 ((d : Int) + 1) = ((d + 1 : Nat) : Int) := by rw [w64 (by omega) (by omega)]; omega
      have step : ∀ K, hammockref02_skip.l2 (K + 1) s (j : Int) fr (d : Int) true = if 100 < d + 1 then some (fr, fr, 23) else if j + 2 = s.size then some (fr, fr, 23) else hammockref02_skip.l2 K s ((j + 2 : Nat) : Int) fr ((d + 1 : Nat) : Int) true := fun K => by
        rw [hammockref02_skip.l2, if_pos rfl, ha]
        simp only [hA, decide_true, Option.bind_some, if_true, wd, w1]
        by_cases k1 : 100 < d + 1
        · rw [if_pos (by omega), if_pos k1]
        · rw [if_neg (by omega), if_neg k1, if_neg (by omega), if_pos (by omega)]
          by_cases k2 : j + 2 = s.size
          · rw [if_pos (by omega), if_pos k2]
          · rw [if_neg (by omega), if_neg k2, decide_eq_true (by omega)]
      by_cases k1 : 100 < d + 1
      · rw [if_pos k1] at hst
        refine ⟨fun _ K hK => ?_, fun m R K0 h => by rw [hst] at h; cases h⟩
        obtain ⟨K, rfl⟩ : ∃ K', K = K' + 1 := ⟨K - 1, by omega⟩
        rw [step, if_pos k1]
      · rw [if_neg k1, List.drop_drop] at hst
        by_cases k2 : j + 2 = s.size
        · rw [endN 2 (by omega)] at hst
          refine ⟨fun _ K hK => ?_, fun m R K0 h => by rw [hst] at h; cases h⟩
          obtain ⟨K, rfl⟩ : ∃ K', K = K' + 1 := ⟨K - 1, by omega⟩
          rw [step, if_neg k1, if_pos k2]
        · have hh := ih (j + 2) (d + 1) (by omega) (by omega) (by omega) (by omega)
          refine ⟨fun h K hK => ?_, fun m R K0 h hl K hK => ?_⟩
          · obtain ⟨K, rfl⟩ : ∃ K', K = K' + 1 := ⟨K - 1, by omega⟩
            rw [step, if_neg k1, if_neg k2]
            rw [hst] at h
            exact hh.1 (by simpa using h) K (by omega)
          · obtain ⟨K, rfl⟩ : ∃ K', K = K' + 1 := ⟨K - 1, by omega⟩
            rw [step, if_neg k1, if_neg k2]
            rw [hst] at h
            obtain ⟨m', hm', rfl⟩ := Option.map_eq_some_iff.1 h
            exact hh.2 m' R K0 hm' (fun K' hK' => by rw [show j + 2 + m' = j + (m' + 2) by omega]; exact hl K' hK') K (by omega)
    · rw [if_neg hA] at hst
      by_cases hB : (s.data.toList.drop j).take 2 = [45, 125]
      · have h2 := take2_len hB
        rw [List.length_drop, ← size_eq] at h2
        rw [if_pos hB] at hst
        have wd : wrap64 ((d : Int) - 1) = ((d - 1 : Nat) : Int) := by rw [w64 (by omega) (by omega)]; omega
        have step : ∀ K, hammockref02_skip.l2 (K + 1) s (j : Int) fr (d : Int) true = if d = 1 then hammockref02_skip.l2 K s ((j + 2 : Nat) : Int) fr 0 false else if j + 2 = s.size then some (fr, fr, 23) else hammockref02_skip.l2 K s ((j + 2 : Nat) : Int) fr ((d - 1 : Nat) : Int) true := fun K => by
          rw [hammockref02_skip.l2, if_pos rfl, ha]
          simp only [Option.bind_some, hb, hB, decide_true, if_true, wd, w1]
          rw [if_neg (by decide), if_neg (by omega), if_neg (by omega)]
          by_cases k1 : d = 1
          · subst k1; rfl
          · rw [if_pos (by omega), if_neg k1]
            by_cases k2 : j + 2 = s.size
            · rw [if_pos (by omega), if_pos k2]
            · rw [if_neg (by omega), if_neg k2, decide_eq_true (by omega)]
        by_cases k1 : d = 1
        · rw [if_pos k1] at hst
          refine ⟨fun h => (by rw [hst] at h; cases h), fun m R K0 h hl K hK => ?_⟩
          rw [hst] at h
          obtain rfl := Option.some.inj h
          obtain ⟨K, rfl⟩ : ∃ K', K = K' + 1 + 1 := ⟨K - 2, by omega⟩
          rw [step, if_pos k1, hammockref02_skip.l2, if_neg (by decide)]
          exact hl K (by omega)
        · rw [if_neg k1, List.drop_drop] at hst
          by_cases k2 : j + 2 = s.size
          · rw [endN 2 (by omega)] at hst
            refine ⟨fun _ K hK => ?_, fun m R K0 h => by rw [hst] at h; cases h⟩
            obtain ⟨K, rfl⟩ : ∃ K', K = K' + 1 := ⟨K - 1, by omega⟩
            rw [step, if_neg k1, if_pos k2]
          · have hh := ih (j + 2) (d - 1) (by omega) (by omega) (by omega) (by omega)
            refine ⟨fun h K hK => ?_, fun m R K0 h hl K hK => ?_⟩
            · obtain ⟨K, rfl⟩ : ∃ K', K = K' + 1 := ⟨K - 1, by omega⟩
              rw [step, if_neg k1, if_neg k2]
              rw [hst] at h
              exact hh.1 (by simpa using h) K (by omega)
            · obtain ⟨K, rfl⟩ : ∃ K', K = K' + 1 := ⟨K - 1, by omega⟩
              rw [step, if_neg k1, if_neg k2]
              rw [hst] at h
              obtain ⟨m', hm', rfl⟩ := Option.map_eq_some_iff.1 h
              exact hh.2 m' R K0 hm' (fun K' hK' => by rw [show j + 2 + m' = j + (m' + 2) by omega]; exact hl K' hK') K (by omega)
      · rw [if_neg hB, List.drop_drop] at hst
        have step : ∀ K, hammockref02_skip.l2 (K + 1) s (j : Int) fr (d : Int) true = if j + 1 = s.size then some (fr, fr, 23) else hammockref02_skip.l2 K s ((j + 1 : Nat) : Int) fr (d : Int) true := fun K => by
          rw [hammockref02_skip.l2, if_pos rfl, ha]
          simp only [hA, decide_false, Option.bind_some, hb, hB, w2]
          rw [if_neg (by decide), if_neg (by decide), if_neg (by omega), if_neg (by omega), if_pos (by omega)]
          by_cases k2 : j + 1 = s.size
          · rw [if_pos (by omega), if_pos k2]
          · rw [if_neg (by omega), if_neg k2, decide_eq_true (by omega)]
        by_cases k2 : j + 1 = s.size
        · rw [endN 1 (by omega)] at hst
          refine ⟨fun _ K hK => ?_, fun m R K0 h => by rw [hst] at h; cases h⟩
          obtain ⟨K, rfl⟩ : ∃ K', K = K' + 1 := ⟨K - 1, by omega⟩
          rw [step, if_pos k2]
        · have hh := ih (j + 1) d (by omega) (by omega) (by omega) (by omega)
          refine ⟨fun h K hK => ?_, fun m R K0 h hl K hK => ?_⟩
          · obtain ⟨K, rfl⟩ : ∃ K', K = K' + 1 := ⟨K - 1, by omega⟩
            rw [step, if_neg k2]
            rw [hst] at h
            exact hh.1 (by simpa using h) K (by omega)
          · obtain ⟨K, rfl⟩ : ∃ K', K = K' + 1 := ⟨K - 1, by omega⟩
            rw [step, if_neg k2]
            rw [hst] at h
            obtain ⟨m', hm', rfl⟩ := Option.map_eq_some_iff.1 h
            exact hh.2 m' R K0 hm' (fun K' hK' => by rw [show j + 1 + m' = j + (m' + 1) by omega]; exact hl K' hK') K (by omega)
/-- At a note's begin. -/
theorem skip_l2_0 (s : ByteArray) (hs : s.size ≤ 140737488351232) (fr : Int) (j : Nat) (hA : (s.data.toList.drop j).take 2 = [123, 45]) :
    (noteL (s.data.toList.drop j) 0 = none → ∀ K, s.size + 3 ≤ K → hammockref02_skip.l2 K s (j : Int) fr 0 true = some (fr, fr, 23)) ∧
    (∀ m R K0, noteL (s.data.toList.drop j) 0 = some m → (∀ K', K0 ≤ K' → hammockref02_skip.l0 K' s ((j + m : Nat) : Int) = some R) → ∀ K, K0 + s.size + 3 ≤ K → hammockref02_skip.l2 K s (j : Int) fr 0 true = some R) := by
  have h2 := take2_len hA
  rw [List.length_drop, ← size_eq] at h2
  have hne : s.data.toList.drop j ≠ [] := by
    intro e; rw [e] at hA; simp at hA
  have hst := noteL_step (s.data.toList.drop j) 0 hne
  rw [if_pos hA, if_neg (by omega), List.drop_drop] at hst
  have ha := rat s ⟨#[123, 45]⟩ j hs (by decide) (by omega)
  rw [show (⟨#[123, 45]⟩ : ByteArray).data.toList = [123, 45] from rfl, take2_pre] at ha
  have w1 : wrap64 ((j : Int) + 2) = ((j + 2 : Nat) : Int) := by rw [w64 (by omega) (by omega)]; omega
  have wz : wrap64 ((0 : Int) + 1) = 1 := by unfold wrap64; omega
  have step : ∀ K, hammockref02_skip.l2 (K + 1) s (j : Int) fr 0 true = if j + 2 = s.size then some (fr, fr, 23) else hammockref02_skip.l2 K s ((j + 2 : Nat) : Int) fr ((1 : Nat) : Int) true := fun K => by
    rw [hammockref02_skip.l2, if_pos rfl, ha]
    simp only [hA, decide_true, Option.bind_some, if_true, w1]
    rw [wz, if_neg (by decide), if_neg (by omega), if_pos (by decide)]
    by_cases k2 : j + 2 = s.size
    · rw [if_pos (by omega), if_pos k2]
    · rw [if_neg (by omega), if_neg k2]; rfl
  by_cases k2 : j + 2 = s.size
  · have : noteL (s.data.toList.drop (j + 2)) (0 + 1) = none := by rw [List.drop_of_length_le (by rw [← size_eq]; omega)]; rfl
    rw [this] at hst
    refine ⟨fun _ K hK => ?_, fun m R K0 h => by rw [hst] at h; cases h⟩
    obtain ⟨K, rfl⟩ : ∃ K', K = K' + 1 := ⟨K - 1, by omega⟩
    rw [step, if_pos k2]
  · have hh := skip_l2 s hs fr s.size (j + 2) 1 (by omega) (by omega) (by omega) (by omega)
    refine ⟨fun h K hK => ?_, fun m R K0 h hl K hK => ?_⟩
    · obtain ⟨K, rfl⟩ : ∃ K', K = K' + 1 := ⟨K - 1, by omega⟩
      rw [step, if_neg k2]
      rw [hst] at h
      exact hh.1 (by simpa using h) K (by omega)
    · obtain ⟨K, rfl⟩ : ∃ K', K = K' + 1 := ⟨K - 1, by omega⟩
      rw [step, if_neg k2]
      rw [hst] at h
      obtain ⟨m', hm', rfl⟩ := Option.map_eq_some_iff.1 h
      exact hh.2 m' R K0 hm' (fun K' hK' => by rw [show j + 2 + m' = j + (m' + 2) by omega]; exact hl K' hK') K (by omega)
/-- What skip tells. -/
def skipR (s : ByteArray) (j : Nat) : Int × Int × Int :=
  if (skpL (s.data.toList.drop j)).2 then (((j + (skpL (s.data.toList.drop j)).1 : Nat) : Int), 0, 0) else (((j + (skpL (s.data.toList.drop j)).1 : Nat) : Int), ((j + (skpL (s.data.toList.drop j)).1 : Nat) : Int), 23)
theorem skip_l0 (s : ByteArray) (hs : s.size ≤ 140737488351232) : ∀ (n j : Nat), s.size - j ≤ n → j ≤ s.size → ∀ K, n * (s.size + 50) + s.size + 50 ≤ K → hammockref02_skip.l0 K s (j : Int) = some (skipR s j) := by
  intro n
  induction n with
  | zero =>
    intro j h1 h2 K hK
    obtain ⟨K, rfl⟩ : ∃ K', K = K' + 1 := ⟨K - 1, by omega⟩
    rw [hammockref02_skip.l0, if_neg (by omega)]
    unfold skipR
    rw [List.drop_of_length_le (by rw [← size_eq]; omega), skpL_nil]
    rfl
  | succ n ih =>
    intro j h1 h2 K hK
    rw [Nat.succ_mul] at hK
    rcases Nat.lt_or_ge j s.size with hlt | hge
    · obtain ⟨K, rfl⟩ : ∃ K', K = K' + 1 := ⟨K - 1, by omega⟩
      obtain ⟨c, hc, hcons⟩ := drop_cons0 hlt
      have hb2 : bt s (j : Int) = (c.toNat : Int) := bt_q s j c hc
      have hst := skpL_cons c (s.data.toList.drop (j + 1))
      rw [← hcons] at hst
      have ha := rat s ⟨#[45, 45]⟩ j hs (by decide) (by omega)
      have hb := rat s ⟨#[123, 45]⟩ j hs (by decide) (by omega)
      rw [show (⟨#[45, 45]⟩ : ByteArray).data.toList = [45, 45] from rfl, take2_pre] at ha
      rw [show (⟨#[123, 45]⟩ : ByteArray).data.toList = [123, 45] from rfl, take2_pre] at hb
      have w2 : wrap64 ((j : Int) + 1) = ((j + 1 : Nat) : Int) := by rw [w64 (by omega) (by omega)]; omega
      rw [hammockref02_skip.l0, if_pos (by omega), if_pos (by omega), hb2, rcls c K (by omega)]
      simp only [Option.bind_some]
      by_cases k1 : cls c = 1
      · rw [if_pos (by omega), w2, ih (j + 1) (by omega) (by omega) K (by omega)]
        rw [if_pos k1] at hst
        unfold skipR
        rw [hst]
        simp only
        rw [show j + ((skpL (s.data.toList.drop (j + 1))).1 + 1) = j + 1 + (skpL (s.data.toList.drop (j + 1))).1 by omega]
      · rw [if_neg (by omega), ha]
        rw [if_neg k1] at hst
        simp only [Option.bind_some]
        by_cases kA : (s.data.toList.drop j).take 2 = [45, 45]
        · rw [if_pos kA] at hst
          have hr1 := dash_run kA
          have hr2 := runL_le isRow (s.data.toList.drop j)
          rw [List.length_drop, ← size_eq] at hr2
          rw [if_pos (by simp [kA]), show K = (K - runL isRow (s.data.toList.drop j) - 1) + runL isRow (s.data.toList.drop j) + 1 by omega, skip_l1 s hs _ j _ h2 rfl, ih _ (by omega) (by omega) _ (by omega)]
          unfold skipR
          rw [hst, List.drop_drop]
          simp only
          rw [show j + ((skpL (s.data.toList.drop (j + runL isRow (s.data.toList.drop j)))).1 + runL isRow (s.data.toList.drop j)) = j + runL isRow (s.data.toList.drop j) + (skpL (s.data.toList.drop (j + runL isRow (s.data.toList.drop j)))).1 by omega]
        · rw [if_neg kA] at hst
          rw [if_neg (by simp [kA]), hb]
          simp only [Option.bind_some]
          by_cases kB : (s.data.toList.drop j).take 2 = [123, 45]
          · rw [if_pos kB] at hst
            rw [if_pos (by simp [kB])]
            have hh := skip_l2_0 s hs (j : Int) j kB
            cases hn : noteL (s.data.toList.drop j) 0 with
            | none =>
              rw [hn] at hst
              rw [hh.1 hn K (by omega)]
              unfold skipR
              rw [hst]; rfl
            | some m =>
              rw [hn] at hst
              have hle := note_le _ _ _ _ hn
              rw [List.length_drop, ← size_eq] at hle
              rw [hh.2 m (skipR s (j + m)) (n * (s.size + 50) + s.size + 50) hn (fun K' hK' => ih (j + m) (by omega) (by omega) K' (by omega)) K (by omega)]
              unfold skipR
              rw [hst]
              simp only [List.drop_drop]
              rw [show j + ((skpL (s.data.toList.drop (j + m))).1 + m) = j + m + (skpL (s.data.toList.drop (j + m))).1 by omega]
          · rw [if_neg kB] at hst
            rw [if_neg (by simp [kB])]
            unfold skipR
            rw [hst]; rfl
    · exact (by
        obtain ⟨K, rfl⟩ : ∃ K', K = K' + 1 := ⟨K - 1, by omega⟩
        rw [hammockref02_skip.l0, if_neg (by omega)]
        unfold skipR
        rw [List.drop_of_length_le (by rw [← size_eq]; omega), skpL_nil]
        rfl)
end Go.Proofs.YtiioanpmfpefcaaDoor.Pur
/- The reference's letters, runs and keys. -/
namespace Go.Proofs.YtiioanpmfpefcaaDoor.Pur
open Go.RowKit Go.Proofs.YtiioanpmfpefcaaDoor.P Go.Proofs.YtiioanpmfpefcaaDoorW.PrintWords Go.Proofs.YtiioanpmfpefcaaDoor.Tok
theorem rletter (c : UInt8) (K : Nat) (hK : 40 ≤ K) : hammockref02_letter.f K (c.toNat : Int) = some (isInner c) := by
  unfold hammockref02_letter.f isInner
  rw [rcls c K hK]
  simp only [Option.bind_some]
  have h39 : ((c.toNat : Int) == 39) = (c == 39) := by
    rw [Bool.eq_iff_iff, beq_iff_eq, beq_iff_eq]
    constructor
    · intro h; exact UInt8.toNat_inj.1 (Int.ofNat_inj.1 h)
    · rintro rfl; rfl
  rw [h39]
  by_cases h3 : cls c = 3
  · simp [h3]
  · by_cases h4 : cls c = 4
    · simp [h4]
    · by_cases h2 : cls c = 2
      · simp [h2]
      · rw [if_neg (by omega), if_neg (by omega), if_neg (by omega)]
        simp [h2, h3, h4]
theorem rrun (s : ByteArray) (hs : s.size ≤ 140737488351232) : ∀ (n j : Nat), s.size - j ≤ n → j ≤ s.size → ∀ K, n + 50 ≤ K → hammockref02_run.l0 K s (j : Int) = some ((j + runL isInner (s.data.toList.drop j) : Nat) : Int) := by
  intro n
  induction n with
  | zero =>
    intro j h1 h2 K hK
    obtain ⟨K, rfl⟩ : ∃ K', K = K' + 1 := ⟨K - 1, by omega⟩
    rw [hammockref02_run.l0, if_neg (by omega), List.drop_of_length_le (by rw [← size_eq]; omega)]
    rfl
  | succ n ih =>
    intro j h1 h2 K hK
    obtain ⟨K, rfl⟩ : ∃ K', K = K' + 1 := ⟨K - 1, by omega⟩
    rcases Nat.lt_or_ge j s.size with hlt | hge
    · obtain ⟨c, hc, hcons⟩ := drop_cons0 hlt
      rw [hammockref02_run.l0, if_pos (by omega), if_pos (by omega), bt_q s j c hc, rletter c K (by omega)]
      simp only [Option.bind_some]
      have hr : runL isInner (s.data.toList.drop j) = if isInner c = true then runL isInner (s.data.toList.drop (j + 1)) + 1 else 0 := by
        rw [hcons]; unfold runL; rw [List.takeWhile_cons]
        split <;> simp
      by_cases hi : isInner c = true
      · rw [if_pos hi, w64 (by omega) (by omega), show ((j : Int) + 1) = ((j + 1 : Nat) : Int) by omega, ih (j + 1) (by omega) (by omega) K (by omega), hr, if_pos hi]
        congr 2; omega
      · rw [if_neg hi, hr, if_neg hi]; rfl
    · rw [hammockref02_run.l0, if_neg (by omega), List.drop_of_length_le (by rw [← size_eq]; omega)]
      rfl
theorem rkey (x : ByteArray) (xs : List ByteArray) (hxs : xs.length ≤ 1000) : ∀ (n i : Nat), xs.length - i ≤ n → i ≤ xs.length → ∀ K, n + 1 ≤ K → hammockref02_key.l0 K x xs (i : Int) = some (decide (x.data.toList ∈ (xs.drop i).map fun y => y.data.toList)) := by
  intro n
  induction n with
  | zero =>
    intro i h1 h2 K hK
    obtain ⟨K, rfl⟩ : ∃ K', K = K' + 1 := ⟨K - 1, by omega⟩
    rw [hammockref02_key.l0, if_neg (by omega), List.drop_of_length_le (by omega)]
    simp
  | succ n ih =>
    intro i h1 h2 K hK
    obtain ⟨K, rfl⟩ : ∃ K', K = K' + 1 := ⟨K - 1, by omega⟩
    rcases Nat.lt_or_ge i xs.length with hlt | hge
    · rw [hammockref02_key.l0, if_pos (by omega), if_pos (by omega)]
      have hd := List.drop_eq_getElem_cons hlt
      have hg : rdOf ByteArray.empty xs (i : Int) = xs[i] := by
        unfold rdOf; simp [hlt]
      rw [hg, ByteArray.toList_eq, ByteArray.toList_eq, hd, List.map_cons]
      by_cases h : xs[i].data.toList = x.data.toList
      · rw [if_pos h]; simp [h]
      · rw [if_neg h, w64 (by omega) (by omega), show ((i : Int) + 1) = ((i + 1 : Nat) : Int) by omega, ih (i + 1) (by omega) (by omega) K (by omega)]
        congr 1
        rw [decide_eq_decide, List.mem_cons]
        exact ⟨.inr, fun h' => h'.resolve_left (fun e => h e.symm)⟩
    · rw [hammockref02_key.l0, if_neg (by omega), List.drop_of_length_le (by omega)]
      simp
theorem rkey_f (x : ByteArray) (K : Nat) (hK : 20 ≤ K) : hammockref02_key.f K x = some (isKey x.data.toList) := by
  unfold hammockref02_key.f
  generalize hx : ([(⟨#[99, 97, 115, 101]⟩ : ByteArray), (⟨#[100, 97, 116, 97]⟩ : ByteArray), (⟨#[101, 108, 115, 101]⟩ : ByteArray), (⟨#[105, 102]⟩ : ByteArray), (⟨#[105, 110]⟩ : ByteArray), (⟨#[108, 101, 116]⟩ : ByteArray), (⟨#[111, 102]⟩ : ByteArray), (⟨#[116, 104, 101, 110]⟩ : ByteArray)] : List ByteArray) = xs
  have hl : xs.length = 8 := by rw [← hx]; rfl
  have hm : (xs.map fun y => y.data.toList) = keys := by rw [← hx]; rfl
  have := rkey x xs (by omega) 8 0 (by omega) (by omega) K (by omega)
  rw [List.drop_zero, hm] at this
  exact this
end Go.Proofs.YtiioanpmfpefcaaDoor.Pur
