/- The reference's numbers. -/
import Derived.Test.YtiioanpmfpefcaaDoorPurC
import Derived.Test.YtiioanpmfpefcaaDoorPx4
import Derived.Test.YtiioanpmfpefcaaDoorPx6
import Derived.Test.YtiioanpmfpefcaaDoorPx7
namespace Go.Proofs.YtiioanpmfpefcaaDoor.Pur
open Go.RowKit Go.Proofs.YtiioanpmfpefcaaDoor.P Go.Proofs.YtiioanpmfpefcaaDoorW.PrintWords Go.Proofs.YtiioanpmfpefcaaDoor.Tok
theorem dig_fin : ∀ c : Fin 256, isDig (UInt8.ofNat c.val) = true → 48 ≤ c.val ∧ c.val ≤ 57 := by decide +kernel
theorem dig_rng {c : UInt8} (h : isDig c = true) : 48 ≤ c.toNat ∧ c.toNat ≤ 57 := by
  have := dig_fin ⟨c.toNat, c.toNat_lt⟩ (by simpa using h)
  simpa using this
/-- The number of a row of digits, behind one that is there; none: too great. -/
def pm : Nat → List UInt8 → Option Nat
  | a, [] => some a
  | a, c :: t => if 9223372036854775807 < 10 * a + (c.toNat - 48) then none else pm (10 * a + (c.toNat - 48)) t
theorem uint_ge : ∀ (l : List UInt8) (a u : Nat), Lib.parseUint10 a l = .ok u → a ≤ u
  | [], a, u, h => by simp only [Lib.parseUint10, Lib.NumEnd.ok.injEq] at h; omega
  | c :: t, a, u, h => by
    simp only [Lib.parseUint10] at h
    split at h
    · split at h
      · cases h
      · split at h
        · cases h
        · have := uint_ge t _ u h; omega
    · cases h
theorem pm_eq : ∀ (l : List UInt8) (a : Nat), a ≤ 9223372036854775807 → (∀ c ∈ l, isDig c = true) →
    pm a l = match Lib.parseUint10 a l with | .ok u => if 9223372036854775808 ≤ u then none else some u | _ => none
  | [], a, ha, _ => by simp only [pm, Lib.parseUint10]; rw [if_neg (by omega)]
  | c :: t, a, ha, hd => by
    have hc := dig_rng (hd c (by simp))
    rw [pm, Lib.parseUint10, if_pos hc]
    by_cases h1 : 9223372036854775807 < 10 * a + (c.toNat - 48)
    · rw [if_pos h1]
      split
      next u hu =>
        split at hu
        · cases hu
        · split at hu
          · cases hu
          · have := uint_ge _ _ _ hu
            rw [if_pos (by omega)]
      next => rfl
    · rw [if_neg h1, if_neg (by omega), if_neg (by omega), pm_eq t _ (by omega) (fun x hx => hd x (by simp [hx])), Nat.mul_comm a 10]
theorem numV_pm (l : List UInt8) (h0 : l ≠ []) (hd : ∀ c ∈ l, isDig c = true) : numV l = (pm 0 l).map (fun n : Nat => (n : Int)) := by
  cases l with
  | nil => exact absurd rfl h0
  | cons c t =>
    have hc := dig_rng (hd c (by simp))
    rw [pm_eq _ 0 (by omega) hd]
    unfold numV Lib.atoiAll
    simp only []
    rw [if_neg (by omega)]
    unfold Lib.parseMag
    rw [if_neg h0]
    cases Lib.parseUint10 0 (c :: t) with
    | ok u =>
      simp only []
      by_cases hu : 9223372036854775808 ≤ u
      · rw [if_pos ⟨by omega, hu⟩, if_pos hu]; rfl
      · rw [if_neg (by omega), if_neg (by omega), if_neg hu, if_neg (by omega)]; rfl
    | _ => rfl
theorem runL_cons (p : UInt8 → Bool) (c : UInt8) (t : List UInt8) : runL p (c :: t) = if p c = true then runL p t + 1 else 0 := by
  unfold runL; rw [List.takeWhile_cons]; split <;> simp
theorem take_run (p : UInt8 → Bool) : ∀ (l : List UInt8) (x : UInt8), x ∈ l.take (runL p l) → p x = true
  | [], x, h => by simp at h
  | c :: t, x, h => by
    rw [runL_cons] at h
    split at h
    next hc =>
      rw [List.take_succ_cons, List.mem_cons] at h
      rcases h with rfl | h
      · exact hc
      · exact take_run p t x h
    next => simp at h
/-- What the reference's number hands back. -/
def digR (s : ByteArray) (i j : Nat) (a : Nat) : Int × Int × Int × ByteArray × Int × Int × Int :=
  match pm a ((s.data.toList.drop j).take (runL isDig (s.data.toList.drop j))) with
  | none => (0, 0, 0, ⟨#[]⟩, 0, (i : Int), 21)
  | some v =>
    if badNext (s.data.toList.drop (j + runL isDig (s.data.toList.drop j))) = true then (0, 0, 0, ⟨#[]⟩, 0, ((j + runL isDig (s.data.toList.drop j) : Nat) : Int), 20)
    else (3, (i : Int), ((j + runL isDig (s.data.toList.drop j) : Nat) : Int), s.extract i (j + runL isDig (s.data.toList.drop j)), (v : Int), 0, 0)
theorem rdig_stop (s : ByteArray) (_hs : s.size ≤ 140737488351232) (i j a K : Nat) (hij : i ≤ j) (hj : j ≤ s.size) (hK : 50 ≤ K) (h : runL isDig (s.data.toList.drop j) = 0) :
    hammockref02_digits.j1 K s i j false 3 i 0 ⟨#[]⟩ a = some (digR s i j a) := by
  obtain ⟨K, rfl⟩ : ∃ K', K = K' + 1 := ⟨K - 1, by omega⟩
  unfold digR
  rw [hammockref02_digits.j1, if_neg (by decide), h, List.take_zero, pm]
  simp only [Nat.add_zero]
  rcases Nat.lt_or_ge j s.size with hlt | hge
  · obtain ⟨c, hc, hcons⟩ := drop_cons0 hlt
    rw [if_pos (by omega), if_pos (by omega), bt_q s j c hc, rletter c K (by omega), hcons]
    simp only [Option.bind_some, Int.toNat_natCast]
    have hbn : badNext (c :: s.data.toList.drop (j + 1)) = (isInner c && c != 39) := rfl
    rw [hbn]
    by_cases hi : isInner c = true
    · rw [if_pos hi]
      by_cases h39 : (c.toNat : Int) = 39
      · have : c = 39 := UInt8.toNat_inj.1 (Int.ofNat_inj.1 h39)
        subst this
        rw [if_pos h39, if_pos (by omega), if_pos (by omega), if_pos (by omega), if_neg (by decide)]
      · have : c ≠ 39 := by rintro rfl; exact h39 rfl
        rw [if_neg h39, if_pos (by simp [hi, this])]
    · rw [if_neg hi, if_pos (by omega), if_pos (by omega), if_pos (by omega), if_neg (by simp [hi])]
  · rw [if_neg (by omega), if_pos (by omega), if_pos (by omega), if_pos (by omega), List.drop_of_length_le (by rw [← size_eq]; omega)]
    simp only [Int.toNat_natCast]
    rfl
theorem rdig (s : ByteArray) (hs : s.size ≤ 140737488351232) (i : Nat) : ∀ (n j a : Nat), s.size - j ≤ n → i ≤ j → j ≤ s.size → a ≤ 9223372036854775807 → ∀ K, 2 * n + 60 ≤ K →
    hammockref02_digits.l0 K s i j 3 i 0 ⟨#[]⟩ a = some (digR s i j a) := by
  intro n
  induction n with
  | zero =>
    intro j a h1 h2 h3 h4 K hK
    obtain ⟨K, rfl⟩ : ∃ K', K = K' + 1 := ⟨K - 1, by omega⟩
    rw [hammockref02_digits.l0, if_neg (by omega)]
    exact rdig_stop s hs i j a K h2 h3 (by omega) (by rw [List.drop_of_length_le (by rw [← size_eq]; omega)]; rfl)
  | succ n ih =>
    intro j a h1 h2 h3 h4 K hK
    obtain ⟨K, rfl⟩ : ∃ K', K = K' + 1 := ⟨K - 1, by omega⟩
    rcases Nat.lt_or_ge j s.size with hlt | hge
    · obtain ⟨c, hc, hcons⟩ := drop_cons0 hlt
      rw [hammockref02_digits.l0, if_pos (by omega), if_pos (by omega), bt_q s j c hc, rcls c K (by omega)]
      simp only [Option.bind_some]
      by_cases hd : isDig c = true
      · have hr := dig_rng hd
        have hb : (((cls c : Nat) : Int) == 2) = true := by
          unfold isDig at hd; rw [beq_iff_eq] at hd ⊢; omega
        obtain ⟨K, rfl⟩ : ∃ K', K = K' + 1 := ⟨K - 1, by omega⟩
        rw [hb, hammockref02_digits.j1, if_pos rfl, if_pos (by omega), if_pos (by omega), bt_q s j c hc, show ((c.toNat : Int) - 48) % 256 = ((c.toNat - 48 : Nat) : Int) by omega]
        have hrun : runL isDig (s.data.toList.drop j) = runL isDig (s.data.toList.drop (j + 1)) + 1 := by rw [hcons, runL_cons, if_pos hd]
        have hR : digR s i j a = if 9223372036854775807 < 10 * a + (c.toNat - 48) then (0, 0, 0, ⟨#[]⟩, 0, (i : Int), 21) else digR s i (j + 1) (10 * a + (c.toNat - 48)) := by
          unfold digR
          rw [hrun, show j + (runL isDig (s.data.toList.drop (j + 1)) + 1) = j + 1 + runL isDig (s.data.toList.drop (j + 1)) by omega]
          conv => lhs; rw [hcons, List.take_succ_cons, pm]
          by_cases hg : 9223372036854775807 < 10 * a + (c.toNat - 48)
          · rw [if_pos hg, if_pos hg]
          · rw [if_neg hg, if_neg hg]
        rw [hR]
        by_cases hg : 9223372036854775807 < 10 * a + (c.toNat - 48)
        · rw [if_pos (by omega), if_pos hg]
        · rw [if_neg (by omega), if_neg hg, w64 (n := (j : Int) + 1) (by omega) (by omega), w64 (n := 10 * (a : Int)) (by omega) (by omega), w64 (by omega) (by omega), show ((j : Int) + 1) = ((j + 1 : Nat) : Int) by omega,
            show (10 * (a : Int) + ((c.toNat - 48 : Nat) : Int)) = ((10 * a + (c.toNat - 48) : Nat) : Int) by omega]
          exact ih (j + 1) _ (by omega) (by omega) (by omega) (by omega) K (by omega)
      · have hb : (((cls c : Nat) : Int) == 2) = false := by
          unfold isDig at hd; rw [beq_iff_eq] at hd; rw [beq_eq_false_iff_ne]; omega
        rw [hb]
        exact rdig_stop s hs i j a K h2 h3 (by omega) (by rw [hcons, runL_cons, if_neg hd])
    · rw [hammockref02_digits.l0, if_neg (by omega)]
      exact rdig_stop s hs i j a K h2 h3 (by omega) (by rw [List.drop_of_length_le (by rw [← size_eq]; omega)]; rfl)
/-- What the reference hands back at a place. -/
def oneR (i : Nat) : One → Int × Int × Int × ByteArray × Int × Int × Int
  | .bad d e => (0, 0, 0, ⟨#[]⟩, 0, ((i + d : Nat) : Int), e)
  | .tok k n t v => (k, (i : Int), ((i + n : Nat) : Int), ⟨t.toArray⟩, v, 0, 0)
theorem rdigits (s : ByteArray) (hs : s.size ≤ 140737488351232) (i : Nat) (hi : i < s.size) (c : UInt8) (hc : s.data.toList[i]? = some c) (hd : isDig c = true) (K : Nat) (hK : 2 * s.size + 60 ≤ K) :
    hammockref02_digits.f K s i = some (oneR i (numL (s.data.toList.drop i))) := by
  unfold hammockref02_digits.f
  have := rdig s hs i s.size i 0 (by omega) (Nat.le_refl _) (by omega) (by omega) K hK
  refine this.trans ?_
  congr 1
  obtain ⟨c', hc', hcons⟩ := drop_cons0 hi
  rw [hc] at hc'; cases hc'
  have hne : (s.data.toList.drop i).take (runL isDig (s.data.toList.drop i)) ≠ [] := by
    rw [hcons, runL_cons, if_pos hd, List.take_succ_cons]; simp
  have hall : ∀ x ∈ (s.data.toList.drop i).take (runL isDig (s.data.toList.drop i)), isDig x = true := by
    intro x hx
    exact take_run isDig _ x hx
  unfold numL digR
  rw [numV_pm _ hne hall]
  cases pm 0 ((s.data.toList.drop i).take (runL isDig (s.data.toList.drop i))) with
  | none => rfl
  | some v =>
    have hm : (Option.map (fun n : Nat => (n : Int)) (some v)) = some (v : Int) := rfl
    rw [hm]
    simp only [List.drop_drop]
    by_cases hb : badNext (s.data.toList.drop (i + runL isDig (s.data.toList.drop i))) = true
    · rw [if_pos hb, if_pos hb]; rfl
    · rw [if_neg hb, if_neg hb]
      unfold oneR
      simp only [Prod.mk.injEq, true_and, and_true]
      exact extract_eq _ _ _
end Go.Proofs.YtiioanpmfpefcaaDoor.Pur
/- The reference's quoted signs and texts, its operators' words. -/
namespace Go.Proofs.YtiioanpmfpefcaaDoor.Pur
open Go.RowKit Go.Proofs.YtiioanpmfpefcaaDoor.P Go.Proofs.YtiioanpmfpefcaaDoorW.PrintWords Go.Proofs.YtiioanpmfpefcaaDoor.Tok
def nums (l : List UInt8) : List Int := l.map fun c => (c.toNat : Int)
/-- What the reference's quote hands back. -/
def quR (q : UInt8) (j : Nat) (o : Option (List UInt8 × Nat)) : ByteArray × Int × Bool :=
  match o with
  | none => (⟨#[]⟩, 0, false)
  | some (acc, m) => if q = 39 ∧ acc.length ≠ 1 then (⟨#[]⟩, 0, false) else (⟨acc.toArray⟩, ((j + m : Nat) : Int), true)
theorem quR_some (q : UInt8) (j : Nat) (acc : List UInt8) (m : Nat) : quR q j (some (acc, m)) = if q = 39 ∧ acc.length ≠ 1 then (⟨#[]⟩, 0, false) else (⟨acc.toArray⟩, ((j + m : Nat) : Int), true) := rfl
theorem rquoted_end (s : ByteArray) (hs : s.size ≤ 140737488351232) (q : UInt8) (j : Nat) (acc : List UInt8) (K : Nat) (hj : j < s.size) :
    hammockref02_quoted.j1 (K + 1) s q.toNat j (nums acc) false = some (quR q j (some (acc, 1))) := by
  rw [hammockref02_quoted.j1, if_neg (by decide), if_neg (by omega)]
  have hl : ((nums acc).length : Int) = acc.length := by simp [nums]
  rw [hl, w64 (by omega) (by omega), show strOfNums (nums acc) = ⟨acc.toArray⟩ from nums_bytes acc, show ((j : Int) + 1) = ((j + 1 : Nat) : Int) by omega]
  rw [quR_some]
  by_cases hq : (q.toNat : Int) = 39
  · have : q = 39 := UInt8.toNat_inj.1 (Int.ofNat_inj.1 hq)
    subst this
    rw [if_pos hq]
    by_cases h1 : acc.length = 1
    · rw [if_pos (by omega), if_neg (by rintro ⟨_, h⟩; exact h h1)]
    · rw [if_neg (by omega), if_pos ⟨rfl, h1⟩]
  · have : q ≠ 39 := by rintro rfl; exact hq rfl
    rw [if_neg hq, if_neg (by rintro ⟨h, _⟩; exact this h)]
theorem rquoted (s : ByteArray) (hs : s.size ≤ 140737488351232) (q : UInt8) : ∀ (n j : Nat) (acc : List UInt8), s.size - j ≤ n → j ≤ s.size → acc.length ≤ 256 → ∀ K, 2 * n + 4 ≤ K →
    hammockref02_quoted.l0 K s q.toNat j (nums acc) = some (quR q j (qsL q (s.data.toList.drop j) acc)) := by
  intro n
  induction n with
  | zero =>
    intro j acc h1 h2 h3 K hK
    obtain ⟨K, rfl⟩ : ∃ K', K = K' + 2 := ⟨K - 2, by omega⟩
    rw [hammockref02_quoted.l0, if_neg (by omega), hammockref02_quoted.j1, if_neg (by decide), if_pos (by omega), List.drop_of_length_le (by rw [← size_eq]; omega), qsL_nil]
    rfl
  | succ n ih =>
    intro j acc h1 h2 h3 K hK
    obtain ⟨K, rfl⟩ : ∃ K', K = K' + 2 := ⟨K - 2, by omega⟩
    rcases Nat.lt_or_ge j s.size with hlt | hge
    · obtain ⟨c, hc, hcons⟩ := drop_cons0 hlt
      rw [hammockref02_quoted.l0, if_pos (by omega), if_pos (by omega), bt_q s j c hc]
      by_cases hcq : c = q
      · subst hcq
        rw [show (((c.toNat : Int)) != (c.toNat : Int)) = false by simp]
        rw [rquoted_end s hs c j acc K hlt, hcons, qsL_cons, if_pos rfl]
      · have hne : ((c.toNat : Int) != (q.toNat : Int)) = true := by
          rw [bne_iff_ne]; intro h; exact hcq (UInt8.toNat_inj.1 (Int.ofNat_inj.1 h))
        rw [hne, hammockref02_quoted.j1, if_pos rfl]
        unfold hammockref01_Unescape.f
        rw [if_pos (by omega), unesc_eq]
        simp only [Option.bind_some]
        rw [hcons, qsL_cons, if_neg hcq, ← hcons]
        cases hu : unescL (s.data.toList.drop j) with
        | none => simp only []; rw [if_neg (by decide)]; rfl
        | some bn =>
          obtain ⟨b, m⟩ := bn
          have hle := unescL_le hu
          rw [List.length_drop, ← size_eq] at hle
          simp only [if_true]
          have hl : (nums acc).length = acc.length := by simp [nums]
          rw [hl]
          by_cases h256 : acc.length = 256
          · rw [if_pos (by omega), if_pos h256]; rfl
          · rw [if_neg (by omega), if_pos (by omega), if_neg h256]
            have hn : nums acc ++ [(b.toNat : Int)] = nums (acc ++ [b]) := by simp [nums]
            rw [hn, ih (j + m) (acc ++ [b]) (by omega) (by omega) (by simp; omega) K (by omega), List.drop_drop]
            congr 1
            cases qsL q (s.data.toList.drop (j + m)) (acc ++ [b]) with
            | none => rfl
            | some r =>
              obtain ⟨r1, r2⟩ := r
              rw [Option.map_some, quR_some, quR_some, show j + m + r2 = j + (r2 + m) by omega]
    · rw [hammockref02_quoted.l0, if_neg (by omega), hammockref02_quoted.j1, if_neg (by decide), if_pos (by omega), List.drop_of_length_le (by rw [← size_eq]; omega), qsL_nil]
      rfl
theorem rquoted_f (s : ByteArray) (hs : s.size ≤ 140737488351232) (i : Nat) (hi : i < s.size) (q : UInt8) (hq : s.data.toList[i]? = some q) (K : Nat) (hK : 2 * s.size + 10 ≤ K) :
    hammockref02_quoted.f K s i = some (quR q (i + 1) (qsL q (s.data.toList.drop (i + 1)) [])) := by
  unfold hammockref02_quoted.f
  rw [if_pos (by omega), if_pos (by omega), bt_q s i q hq, w64 (by omega) (by omega), show ((i : Int) + 1) = ((i + 1 : Nat) : Int) by omega]
  exact rquoted s hs q s.size (i + 1) [] (by omega) (by omega) (by simp) K (by omega)
theorem rsign (x : ByteArray) (xs : List ByteArray) (hxs : xs.length ≤ 1000) : ∀ (n i : Nat), xs.length - i ≤ n → i ≤ xs.length → ∀ K, n + 1 ≤ K → hammockref02_Sign.l0 K x xs (i : Int) = some (decide (x.data.toList ∈ (xs.drop i).map fun y => y.data.toList)) := by
  intro n
  induction n with
  | zero =>
    intro i h1 h2 K hK
    obtain ⟨K, rfl⟩ : ∃ K', K = K' + 1 := ⟨K - 1, by omega⟩
    rw [hammockref02_Sign.l0, if_neg (by omega), List.drop_of_length_le (by omega)]
    simp
  | succ n ih =>
    intro i h1 h2 K hK
    obtain ⟨K, rfl⟩ : ∃ K', K = K' + 1 := ⟨K - 1, by omega⟩
    rcases Nat.lt_or_ge i xs.length with hlt | hge
    · rw [hammockref02_Sign.l0, if_pos (by omega), if_pos (by omega)]
      have hd := List.drop_eq_getElem_cons hlt
      have hg : rdOf ByteArray.empty xs (i : Int) = xs[i] := by
        unfold rdOf; simp [hlt]
      rw [hg, ByteArray.toList_eq, ByteArray.toList_eq, hd, List.map_cons]
      by_cases h : xs[i].data.toList = x.data.toList
      · rw [if_pos h]; simp [h]
      · rw [if_neg h, w64 (by omega) (by omega), show ((i : Int) + 1) = ((i + 1 : Nat) : Int) by omega, ih (i + 1) (by omega) (by omega) K (by omega)]
        congr 1
        rw [decide_eq_decide, List.mem_cons]
        exact ⟨.inr, fun h' => h'.resolve_left (fun e => h e.symm)⟩
    · rw [hammockref02_Sign.l0, if_neg (by omega), List.drop_of_length_le (by omega)]
      simp
theorem rsign_f (x : ByteArray) (K : Nat) (hK : 30 ≤ K) : hammockref02_Sign.f K x = some (isSig x.data.toList) := by
  unfold hammockref02_Sign.f
  generalize hx : ([(⟨#[43]⟩ : ByteArray), (⟨#[45]⟩ : ByteArray), (⟨#[42]⟩ : ByteArray), (⟨#[47]⟩ : ByteArray), (⟨#[37]⟩ : ByteArray), (⟨#[61, 61]⟩ : ByteArray), (⟨#[47, 61]⟩ : ByteArray), (⟨#[60]⟩ : ByteArray), (⟨#[60, 61]⟩ : ByteArray), (⟨#[62]⟩ : ByteArray), (⟨#[62, 61]⟩ : ByteArray), (⟨#[38, 38]⟩ : ByteArray), (⟨#[124, 124]⟩ : ByteArray), (⟨#[58]⟩ : ByteArray), (⟨#[43, 43]⟩ : ByteArray), (⟨#[61]⟩ : ByteArray), (⟨#[124]⟩ : ByteArray), (⟨#[45, 62]⟩ : ByteArray), (⟨#[92]⟩ : ByteArray), (⟨#[58, 58]⟩ : ByteArray), (⟨#[46]⟩ : ByteArray)] : List ByteArray) = xs
  have hl : xs.length = 21 := by rw [← hx]; rfl
  have hm : (xs.map fun y => y.data.toList) = sigs := by rw [← hx]; rfl
  have := rsign x xs (by omega) 21 0 (by omega) (by omega) K (by omega)
  rw [List.drop_zero, hm] at this
  exact this
end Go.Proofs.YtiioanpmfpefcaaDoor.Pur
/- The reference's token at a place. -/
namespace Go.Proofs.YtiioanpmfpefcaaDoor.Pur
open Go.RowKit Go.Proofs.YtiioanpmfpefcaaDoor.P Go.Proofs.YtiioanpmfpefcaaDoorW.PrintWords Go.Proofs.YtiioanpmfpefcaaDoor.Tok
theorem rword (s : ByteArray) (hs : s.size ≤ 140737488351232) (i : Nat) (hi : i ≤ s.size) (k : Int) (K : Nat) (hK : 50 ≤ K) (t : ByteArray) :
    hammockref02_one.j1 K s i k i ((i + runL isInner (s.data.toList.drop i) : Nat) : Int) t 0 = some (oneR i (wordL k (s.data.toList.drop i))) := by
  obtain ⟨K, rfl⟩ : ∃ K', K = K' + 1 := ⟨K - 1, by omega⟩
  have hle := runL_le isInner (s.data.toList.drop i)
  rw [List.length_drop, ← size_eq] at hle
  rw [hammockref02_one.j1, w64 (by omega) (by omega)]
  unfold wordL
  by_cases h32 : 32 < runL isInner (s.data.toList.drop i)
  · rw [if_pos (by omega), if_pos h32]; rfl
  · rw [if_neg (by omega), if_neg h32, if_pos (by omega), if_pos (by omega), if_pos (by omega), Int.toNat_natCast, Int.toNat_natCast, extract_eq, rkey_f _ K (by omega)]
    simp only [Option.bind_some]
    by_cases hk : isKey ((s.data.toList.drop i).take (runL isInner (s.data.toList.drop i))) = true
    · rw [if_pos hk, if_pos hk]; rfl
    · rw [if_neg hk, if_neg hk]; rfl
theorem rop (s : ByteArray) (hs : s.size ≤ 140737488351232) (i : Nat) (hi : i < s.size) (e : Int) (t : ByteArray) : ∀ (m : Nat), m ≤ 2 → ∀ K, m + 40 ≤ K →
    hammockref02_one.l0 K s i (m : Int) 6 i e t 0 = some (oneR i (opFrom (min m (s.size - i)) (s.data.toList.drop i))) := by
  intro m
  induction m with
  | zero =>
    intro _ K hK
    obtain ⟨K, rfl⟩ : ∃ K', K = K' + 1 := ⟨K - 1, by omega⟩
    rw [hammockref02_one.l0, if_neg (by omega), Nat.zero_min, opFrom]
    rfl
  | succ m ih =>
    intro hm K hK
    obtain ⟨K, rfl⟩ : ∃ K', K = K' + 1 := ⟨K - 1, by omega⟩
    have hnext : hammockref02_one.l0 K s i (wrap64 (((m + 1 : Nat) : Int) - 1)) 6 i e t 0 = some (oneR i (opFrom (min m (s.size - i)) (s.data.toList.drop i))) := by
      rw [w64 (by omega) (by omega), show (((m + 1 : Nat) : Int) - 1) = (m : Int) by omega]
      exact ih (by omega) K (by omega)
    rw [hammockref02_one.l0, if_pos (by omega), w64 (n := (s.size : Int) - i) (by omega) (by omega)]
    by_cases hl : m + 1 ≤ s.size - i
    · rw [if_pos (by omega), if_pos (by omega), w64 (n := (i : Int) + ((m + 1 : Nat) : Int)) (by omega) (by omega), if_pos (by omega), if_pos (by omega),
        show ((i : Int) + ((m + 1 : Nat) : Int)) = ((i + (m + 1) : Nat) : Int) by omega, Int.toNat_natCast, Int.toNat_natCast, extract_eq, rsign_f _ K (by omega), hnext, Nat.min_eq_left hl, opFrom]
      simp only [Option.bind_some]
      by_cases hk : isSig ((s.data.toList.drop i).take (m + 1)) = true
      · rw [if_pos hk, if_pos hk]; rfl
      · rw [if_neg hk, if_neg hk, Nat.min_eq_left (by omega)]
    · rw [if_neg (by omega), hnext, show min m (s.size - i) = min (m + 1) (s.size - i) by omega]
theorem rone (s : ByteArray) (hs : s.size ≤ 140737488351232) (i : Nat) (hi : i < s.size) (K : Nat) (hK : 2 * s.size + 100 ≤ K) :
    hammockref02_one.f K s i = some (oneR i (oneL (s.data.toList.drop i))) := by
  obtain ⟨K, rfl⟩ : ∃ K', K = K' + 1 := ⟨K - 1, by omega⟩
  obtain ⟨c, hc, hcons⟩ := drop_cons0 hi
  unfold hammockref02_one.f
  rw [if_pos (by omega), if_pos (by omega), bt_q s i c hc, rcls c _ (by omega)]
  simp only [Option.bind_some]
  have hone : oneL (s.data.toList.drop i) = if cls c = 3 then wordL 1 (s.data.toList.drop i)
    else if cls c = 4 then wordL 2 (s.data.toList.drop i)
    else if cls c = 2 then numL (s.data.toList.drop i)
    else if cls c = 7 then quotedL (s.data.toList.drop i)
    else if cls c = 6 then .tok 7 1 ((s.data.toList.drop i).take 1) 0
    else if cls c = 5 then opL (s.data.toList.drop i)
    else .bad 0 20 := by
    conv => lhs; rw [hcons]
    rw [hcons]; rfl
  rw [hone]
  have hrun : hammockref02_run.f K s i = some ((i + runL isInner (s.data.toList.drop i) : Nat) : Int) := by
    unfold hammockref02_run.f
    exact rrun s hs s.size i (by omega) (by omega) K (by omega)
  have hw : wrap64 ((i : Int) + 1) = ((i + 1 : Nat) : Int) := by rw [w64 (by omega) (by omega)]; omega
  rw [hw]
  by_cases h3 : cls c = 3
  · rw [if_pos (by omega), if_pos h3, show (((cls c : Nat) : Int) == 3) = true by simp [h3], hammockref02_one.j0, if_pos rfl, hrun]
    simp only [Option.bind_some]
    rw [if_pos (by omega), if_pos (by omega), bt_q s i c hc, rcls c _ (by omega)]
    simp only [Option.bind_some]
    rw [if_pos (by omega)]
    exact rword s hs i (by omega) 1 K (by omega) _
  rw [if_neg (by omega), if_neg h3]
  by_cases h4 : cls c = 4
  · rw [if_pos h4, show (((cls c : Nat) : Int) == 4) = true by simp [h4], hammockref02_one.j0, if_pos rfl, hrun]
    simp only [Option.bind_some]
    rw [if_pos (by omega), if_pos (by omega), bt_q s i c hc, rcls c _ (by omega)]
    simp only [Option.bind_some]
    rw [if_neg (by omega)]
    exact rword s hs i (by omega) 2 K (by omega) _
  rw [if_neg h4, show (((cls c : Nat) : Int) == 4) = false by rw [beq_eq_false_iff_ne]; omega, hammockref02_one.j0, if_neg (by decide)]
  by_cases h2 : cls c = 2
  · rw [if_pos (by omega), if_pos h2, rdigits s hs i hi c hc (by unfold isDig; simp [h2]) K (by omega)]
    rfl
  rw [if_neg (by omega), if_neg h2]
  by_cases h7 : cls c = 7
  · rw [if_pos (by omega), if_pos h7, rquoted_f s hs i hi c hc K (by omega)]
    simp only [Option.bind_some]
    rw [hcons]
    unfold quotedL
    simp only
    cases hq : qsL c (s.data.toList.drop (i + 1)) [] with
    | none => rfl
    | some r =>
      obtain ⟨acc, m⟩ := r
      rw [quR_some]
      simp only
      by_cases hb : c = 39 ∧ acc.length ≠ 1
      · rw [if_pos hb, if_pos hb]; rfl
      · rw [if_neg hb, if_neg hb]
        simp only [if_true]
        rw [if_pos (by omega), if_pos (by omega), bt_q s i c hc]
        by_cases hq39 : c = 39
        · subst hq39
          have hl : acc.length = 1 := by
            rcases Nat.decEq acc.length 1 with h | h
            · exact absurd ⟨rfl, h⟩ hb
            · exact h
          obtain ⟨a, rfl⟩ := List.length_eq_one_iff.1 hl
          rw [if_pos rfl, if_pos (by simp)]
          have hbt : bt (⟨[a].toArray⟩ : ByteArray) 0 = (a.toNat : Int) := bt_q _ 0 a rfl
          have := a.toNat_lt
          rw [hbt, w64 (by omega) (by omega)]
          show some _ = some (oneR i (.tok 4 (m + 1) [a] _))
          unfold oneR
          simp only [Option.some.injEq, Prod.mk.injEq, true_and, and_true]
          refine ⟨by omega, rfl⟩
        · have h39 : ¬ (c.toNat : Int) = 39 := fun h => hq39 (UInt8.toNat_inj.1 (Int.ofNat_inj.1 h))
          rw [if_neg h39, if_neg hq39, if_neg hq39]
          unfold oneR
          simp only [Option.some.injEq, Prod.mk.injEq, true_and, and_true]
          omega
  rw [if_neg (by omega), if_neg h7]
  by_cases h6 : cls c = 6
  · rw [if_pos (by omega), if_pos h6, hw, if_pos (by omega), if_pos (by omega), if_pos (by omega), Int.toNat_natCast, Int.toNat_natCast, extract_eq]
    rfl
  rw [if_neg (by omega), if_neg h6]
  by_cases h5 : cls c = 5
  · rw [if_pos (by omega), if_pos h5]
    have := rop s hs i hi ((i + 1 : Nat) : Int) ⟨#[]⟩ 2 (by omega) K (by omega)
    refine this.trans ?_
    unfold opL
    rw [List.length_drop, ← size_eq]
  · rw [if_neg (by omega), if_neg h5]
    rfl
end Go.Proofs.YtiioanpmfpefcaaDoor.Pur
