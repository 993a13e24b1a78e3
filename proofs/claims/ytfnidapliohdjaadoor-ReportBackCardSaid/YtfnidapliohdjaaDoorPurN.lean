/- Numbers as digits: what the program's reader and the document's number tell; Where. -/
import Derived.Test.YtfnidapliohdjaaDoorPx2
import Derived.Test.YtfnidapliohdjaaDoorLin
namespace Go.Proofs.YtfnidapliohdjaaDoor.Pur
open Go.RowKit Go.Proofs.YtfnidapliohdjaaDoor.P Go.Proofs.YtfnidapliohdjaaDoorW.PrintWords
open Lin (drop_data slice_data bytes_ext)
set_option linter.unusedVariables false

theorem isDig_fin : ∀ c : Fin 256, isDig (UInt8.ofNat c.val) = decide (48 ≤ c.val ∧ c.val ≤ 57) := by decide +kernel
theorem isDig_iff (c : UInt8) : isDig c = true ↔ 48 ≤ c.toNat ∧ c.toNat ≤ 57 := by
  have := isDig_fin ⟨c.toNat, c.toNat_lt⟩
  simp only [UInt8.ofNat_toNat] at this
  rw [this, decide_eq_true_iff]
/-- What digits spell, behind such as spell a number. -/
def val (a : Nat) (l : List UInt8) : Nat := l.foldl (fun a c => a * 10 + (c.toNat - 48)) a
theorem val_nil (a : Nat) : val a [] = a := rfl
theorem val_cons (a : Nat) (c : UInt8) (r : List UInt8) : val a (c :: r) = val (a * 10 + (c.toNat - 48)) r := by unfold val; rw [List.foldl_cons]
theorem val_ge : ∀ (l : List UInt8) (a : Nat), a ≤ val a l
  | [], a => Nat.le_refl _
  | c :: r, a => by rw [val_cons]; have := val_ge r (a * 10 + (c.toNat - 48)); omega
theorem val_append (l r : List UInt8) (a : Nat) : val a (l ++ r) = val (val a l) r := by unfold val; rw [List.foldl_append]
theorem parse_val : ∀ (l : List UInt8) (a : Nat), l.all isDig = true → a < 18446744073709551616 → Lib.parseUint10 a l = if val a l < 18446744073709551616 then .ok (val a l) else .range
  | [], a, _, ha => by rw [val_nil, Lib.parseUint10, if_pos ha]
  | c :: r, a, h, ha => by
    simp only [List.all_cons, Bool.and_eq_true] at h
    have hc := (isDig_iff c).1 h.1
    simp only [Lib.parseUint10, val_cons]
    rw [if_pos hc]
    have hge := val_ge r (a * 10 + (c.toNat - 48))
    by_cases h1 : 1844674407370955162 ≤ a
    · rw [if_pos h1, if_neg (by omega)]
    · rw [if_neg h1]
      by_cases h2 : 18446744073709551616 ≤ a * 10 + (c.toNat - 48)
      · rw [if_pos h2, if_neg (by omega)]
      · rw [if_neg h2]
        exact parse_val r _ h.2 (by omega)
theorem numV_digits (l : List UInt8) (h : l.all isDig = true) : numV l = if l ≠ [] ∧ val 0 l < 9223372036854775808 then some (val 0 l : Int) else none := by
  unfold numV
  cases l with
  | nil => simp [Lib.atoiAll]
  | cons c r =>
    have hc := (isDig_iff c).1 (by simp only [List.all_cons, Bool.and_eq_true] at h; exact h.1)
    unfold Lib.atoiAll
    simp only
    rw [if_neg (by omega)]
    unfold Lib.parseMag
    rw [if_neg (by simp), parse_val _ _ h (by omega)]
    by_cases h1 : val 0 (c :: r) < 18446744073709551616
    · rw [if_pos h1]
      simp only
      by_cases h2 : val 0 (c :: r) < 9223372036854775808
      · rw [if_neg (by omega), if_neg (by omega), if_neg (by omega), if_pos ⟨by simp, h2⟩]
      · rw [if_pos (by omega), if_neg (by rintro ⟨_, h⟩; exact h2 h)]
    · rw [if_neg h1, if_neg (by rintro ⟨_, h⟩; omega)]
/-- May digits be a number? -/
def okN (l : List UInt8) : Bool := decide (l ≠ [] ∧ l.headD 0 ≠ 48 ∧ val 0 l ≤ 2147483648)
theorem takeRun (p : UInt8 → Bool) (l : List UInt8) : l.take (runL p l) = l.takeWhile p := by
  induction l with
  | nil => rfl
  | cons c r ih =>
    unfold runL at *
    rw [List.takeWhile_cons]
    split
    · rw [List.length_cons, List.take_succ_cons, ih]
    · rfl
theorem all_takeWhile (p : UInt8 → Bool) (l : List UInt8) : (l.takeWhile p).all p = true := by
  induction l with
  | nil => rfl
  | cons c r ih =>
    rw [List.takeWhile_cons]
    split
    · rename_i h; simp only [List.all_cons, h, ih, Bool.and_self]
    · rfl
theorem bt_head (s : ByteArray) (c : UInt8) (r : List UInt8) (h : s.data.toList = c :: r) : bt s 0 = (c.toNat : Int) := bt_q s 0 c (by rw [h]; rfl)
theorem numOk_eq (s : ByteArray) : numOk s = okN (s.data.toList.takeWhile isDig) := by
  unfold numOk numO numD
  rw [takeRun, numV_digits _ (all_takeWhile _ _)]
  unfold okN
  cases hl : s.data.toList.takeWhile isDig with
  | nil => simp
  | cons c r =>
    have hd : ∃ q, s.data.toList = c :: q := by
      cases hs : s.data.toList with
      | nil => rw [hs] at hl; simp at hl
      | cons d q =>
        rw [hs, List.takeWhile_cons] at hl
        split at hl
        · injection hl with h1 h2; subst h1; exact ⟨q, rfl⟩
        · cases hl
    obtain ⟨q, hq⟩ := hd
    by_cases h1 : val 0 (c :: r) < 9223372036854775808
    · rw [if_pos ⟨by simp, h1⟩]
      simp only
      rw [bt_head s c q hq, Bool.eq_iff_iff]
      simp only [Bool.and_eq_true, bne_iff_ne, decide_eq_true_eq, List.headD_cons, ne_eq, reduceCtorEq, not_false_eq_true, true_and]
      constructor
      · rintro ⟨a, b⟩; exact ⟨fun e => a (by rw [e]; rfl), by omega⟩
      · rintro ⟨a, b⟩
        refine ⟨fun e => a (UInt8.toNat_inj.1 ?_), by omega⟩
        have h48 : (48 : UInt8).toNat = 48 := rfl
        omega
    · have hn : (if c :: r ≠ [] ∧ val 0 (c :: r) < 9223372036854775808 then some (val 0 (c :: r) : Int) else none) = none := if_neg (fun h => h1 h.2)
      rw [hn]
      exact (decide_eq_false (by rintro ⟨_, _, h⟩; omega)).symm
theorem numO_eq (s : ByteArray) (h : okN (s.data.toList.takeWhile isDig) = true) : numO s = some (val 0 (s.data.toList.takeWhile isDig) : Int) := by
  unfold okN at h
  have h' := of_decide_eq_true h
  unfold numO numD
  rw [takeRun, numV_digits _ (all_takeWhile _ _), if_pos ⟨h'.1, by omega⟩]

/-! ### the document's -/
theorem ref_begins (s t : ByteArray) (hs : s.size ≤ 140737488351232) (ht : t.size ≤ 1000) (p : Nat) (hp : p ≤ s.size) :
    hammockref28_begins.f s (p : Int) t = some (if Lib.hasPrefix (s.data.toList.drop p) t.data.toList = true then (((p + t.size : Nat) : Int), true) else ((p : Int), false)) := by
  unfold hammockref28_begins.f Lib.hasPrefix
  have e1 : wrap64 ((s.size : Int) - (p : Int)) = (s.size : Int) - (p : Int) := by unfold wrap64; omega
  have e2 : wrap64 ((p : Int) + (t.size : Int)) = ((p + t.size : Nat) : Int) := by unfold wrap64; omega
  rw [e1, e2]
  by_cases h : (s.size : Int) - (p : Int) < (t.size : Int)
  · rw [if_pos h, if_neg]
    intro hh
    have := (List.isPrefixOf_iff_prefix.1 hh).length_le
    rw [List.length_drop, ← size_eq, ← size_eq] at this
    omega
  · rw [if_neg h, if_pos (by omega), if_pos (by omega), if_pos (by omega), Int.toNat_natCast, Int.toNat_natCast, ByteArray.toList_eq, ByteArray.toList_eq, slice_data]
    have e3 : (s.data.toList.take (p + t.size)).drop p = (s.data.toList.drop p).take t.size := by
      rw [List.drop_take]; congr 1; omega
    rw [e3]
    by_cases h2 : (s.data.toList.drop p).take t.size = t.data.toList
    · rw [if_pos h2, if_pos (List.isPrefixOf_iff_prefix.2 ⟨(s.data.toList.drop p).drop t.size, by rw [← h2]; exact List.take_append_drop _ _⟩)]
    · rw [if_neg h2, if_neg]
      intro hh
      obtain ⟨r, hr⟩ := List.isPrefixOf_iff_prefix.1 hh
      exact h2 (by rw [← hr, size_eq, List.take_left])
theorem byte_at (s : ByteArray) (i : Nat) (hi : i < s.size) : ∃ c, s.data.toList[i]? = some c ∧ bt s (i : Int) = (c.toNat : Int) := by
  have h : i < s.data.toList.length := by rw [← size_eq]; exact hi
  exact ⟨s.data.toList[i], List.getElem?_eq_getElem h, bt_q s i _ (List.getElem?_eq_getElem h)⟩
theorem drop_at (L : List UInt8) (i : Nat) (c : UInt8) (h : L[i]? = some c) : L.drop i = c :: L.drop (i + 1) := by
  obtain ⟨hi, rfl⟩ := List.getElem?_eq_some_iff.1 h
  exact List.drop_eq_getElem_cons hi
/-- The end of the document's number: what it tells at a place behind digits that spell v. -/
def endN (d0 : List UInt8) (v : Nat) (q : Nat) : Int × Int × Bool := ((v : Int), (q : Int), decide (d0 ≠ [] ∧ d0.headD 0 ≠ 48 ∧ v ≤ 2147483648))
theorem wrap_succ (n : Nat) (h : n ≤ 140737488351232) : wrap64 ((n : Int) + 1) = ((n + 1 : Nat) : Int) := by unfold wrap64; omega
theorem wrap_dig (v c : Nat) (h : v ≤ 2147483648) (h1 : 48 ≤ c) (h2 : c ≤ 57) : wrap64 ((wrap64 (10 * (v : Int))) + (((c : Int) - 48) % 256)) = ((v * 10 + (c - 48) : Nat) : Int) := by
  have e : wrap64 (10 * (v : Int)) = 10 * v := by unfold wrap64; omega
  rw [e]; unfold wrap64; omega
theorem ok_big (d0 e : List UInt8) (h : 2147483648 < val 0 d0) : okN (d0 ++ e) = false := by
  unfold okN
  refine decide_eq_false ?_
  rintro ⟨_, _, h3⟩
  rw [val_append] at h3
  have := val_ge e (val 0 d0)
  omega
/-- Behind the last byte that is looked at. -/
theorem ref_end (s : ByteArray) (p i : Nat) (d0 : List UInt8) (hp : p + i ≤ s.size) (hd : s.data.toList.drop p = d0 ++ s.data.toList.drop (p + i)) (hi : d0.length = i) (v : Nat) :
    (if ((p + i : Nat) : Int) > (p : Int) then (if 0 ≤ (p : Int) then (if (p : Int) < (s.size : Int) then (if (bt s (p : Int)) = 48 then (some ((v : Int), ((p + i : Nat) : Int), false)) else (some ((v : Int), ((p + i : Nat) : Int), decide ((v : Int) ≤ 2147483648)))) else (none)) else (none)) else (some ((v : Int), ((p + i : Nat) : Int), false))) =
      some ((v : Int), ((p + i : Nat) : Int), decide (d0 ≠ [] ∧ d0.headD 0 ≠ 48 ∧ v ≤ 2147483648)) := by
  cases d0 with
  | nil =>
    simp only [List.length_nil] at hi
    subst hi
    rw [if_neg (by omega)]
    simp
  | cons c r =>
    simp only [List.length_cons] at hi
    have hb : bt s (p : Int) = (c.toNat : Int) := bt_q s p c (by
      have : (s.data.toList.drop p)[0]? = some c := by rw [hd]; rfl
      rwa [List.getElem?_drop, Nat.add_zero] at this)
    have h48 : (48 : UInt8).toNat = 48 := rfl
    rw [if_pos (by omega), if_pos (by omega), if_pos (by omega), hb]
    by_cases h : c = 48
    · subst h
      rw [if_pos (by omega)]
      rw [decide_eq_false (by rintro ⟨_, h, _⟩; exact h rfl)]
    · rw [if_neg (fun e => h (UInt8.toNat_inj.1 (by omega)))]
      congr 3
      rw [decide_eq_decide]
      constructor
      · intro h3; exact ⟨by simp, h, by omega⟩
      · rintro ⟨_, _, h3⟩; omega
theorem ref_loop (s : ByteArray) (hs : s.size ≤ 140737488351232) (p : Nat) : ∀ (m i k : Nat) (d0 : List UInt8), p + i + m = s.size → m < k → s.data.toList.drop p = d0 ++ s.data.toList.drop (p + i) → d0.length = i → val 0 d0 ≤ 30000000000 →
    ∃ j v, hammockref28_number.l0 k s ((p + i : Nat) : Int) (val 0 d0 : Int) (p : Int) = some ((v : Int), ((p + i + j : Nat) : Int), okN (d0 ++ (s.data.toList.drop (p + i)).takeWhile isDig)) ∧
      (okN (d0 ++ (s.data.toList.drop (p + i)).takeWhile isDig) = true → v = val 0 (d0 ++ (s.data.toList.drop (p + i)).takeWhile isDig) ∧ j = ((s.data.toList.drop (p + i)).takeWhile isDig).length) := by
  intro m
  induction m with
  | zero =>
    intro i k d0 hm hk hd hi hv
    obtain ⟨k, rfl⟩ : ∃ m, k = m + 1 := ⟨k - 1, by omega⟩
    have hnil : s.data.toList.drop (p + i) = [] := List.drop_eq_nil_of_le (by rw [← size_eq]; omega)
    have he := ref_end s p i d0 (by omega) hd hi (val 0 d0)
    rw [hnil, List.takeWhile_nil, List.append_nil]
    refine ⟨0, val 0 d0, ?_, fun _ => ⟨rfl, rfl⟩⟩
    rw [hammockref28_number.l0, if_neg (by omega), he]
    rfl
  | succ m ih =>
    intro i k d0 hm hk hd hi hv
    obtain ⟨k, rfl⟩ : ∃ m, k = m + 1 := ⟨k - 1, by omega⟩
    have he := ref_end s p i d0 (by omega) hd hi (val 0 d0)
    obtain ⟨c, hc, hbc⟩ := byte_at s (p + i) (by omega)
    have hdr := drop_at _ _ _ hc
    have hci := isDig_iff c
    rw [hammockref28_number.l0, if_pos (by omega), if_pos (by omega), hbc]
    by_cases hdig : isDig c = true
    · have hcr := hci.1 hdig
      rw [if_pos (by omega), if_pos (by omega)]
      by_cases hle : (val 0 d0 : Int) ≤ 2147483648
      · rw [if_pos hle]
        have e1 : wrap64 (((p + i : Nat) : Int) + 1) = ((p + (i + 1) : Nat) : Int) := wrap_succ (p + i) (by omega)
        have e2 : wrap64 ((wrap64 (10 * (val 0 d0 : Int))) + ((((c.toNat : Int)) - 48) % 256)) = (val 0 (d0 ++ [c]) : Int) := by
          rw [val_append, val_cons, val_nil]; exact wrap_dig _ _ (by omega) hcr.1 hcr.2
        rw [e1, e2]
        have hd' : s.data.toList.drop p = (d0 ++ [c]) ++ s.data.toList.drop (p + (i + 1)) := by
          rw [hd, hdr, List.append_assoc]; rfl
        obtain ⟨j, v, h1, h2⟩ := ih (i + 1) k (d0 ++ [c]) (by omega) (by omega) hd' (by simp [hi]) (by rw [val_append, val_cons, val_nil]; omega)
        have e3 : d0 ++ (s.data.toList.drop (p + i)).takeWhile isDig = (d0 ++ [c]) ++ (s.data.toList.drop (p + (i + 1))).takeWhile isDig := by
          rw [hdr, List.takeWhile_cons, if_pos hdig, List.append_assoc]; rfl
        rw [e3]
        refine ⟨j + 1, v, ?_, fun h => ⟨(h2 h).1, ?_⟩⟩
        · rw [h1]; congr 3; omega
        · rw [(h2 h).2, hdr, List.takeWhile_cons, if_pos hdig, List.length_cons]; rfl
      · rw [if_neg hle, he]
        have hb := ok_big d0 ((s.data.toList.drop (p + i)).takeWhile isDig) (by omega)
        rw [hb]
        refine ⟨0, val 0 d0, ?_, fun h => by cases h⟩
        congr 3
        exact decide_eq_false (by rintro ⟨_, _, h⟩; omega)
    · have htw : (s.data.toList.drop (p + i)).takeWhile isDig = [] := by rw [hdr, List.takeWhile_cons, if_neg hdig]
      rw [htw, List.append_nil]
      refine ⟨0, val 0 d0, ?_, fun _ => ⟨rfl, rfl⟩⟩
      by_cases h1 : (c.toNat : Int) ≥ 48
      · rw [if_pos h1, if_neg (fun h => hdig (hci.2 ⟨by omega, by omega⟩)), he]; rfl
      · rw [if_neg h1, he]; rfl
/-- The document's number at a place. -/
theorem ref_number (s : ByteArray) (hs : s.size ≤ 140737488351232) (p : Nat) (hp : p ≤ s.size) (k : Nat) (hk : s.size < k) :
    ∃ j v, hammockref28_number.f k s (p : Int) = some ((v : Int), ((p + j : Nat) : Int), okN ((s.data.toList.drop p).takeWhile isDig)) ∧
      (okN ((s.data.toList.drop p).takeWhile isDig) = true → v = val 0 ((s.data.toList.drop p).takeWhile isDig) ∧ j = ((s.data.toList.drop p).takeWhile isDig).length) := by
  exact ref_loop s hs p (s.size - p) 0 k [] (by omega) (by omega) rfl rfl (by rw [val_nil]; omega)

/-! ### Where -/
theorem cut_data (s t : ByteArray) : (cutS s t).data.toList = if Lib.hasPrefix s.data.toList t.data.toList = true then s.data.toList.drop t.size else s.data.toList := by
  unfold cutS Lib.trimPrefix
  rw [size_eq]
theorem rest_data (s : ByteArray) : (numRest s).data.toList = s.data.toList.drop (s.data.toList.takeWhile isDig).length := by
  unfold numRest numD runL
  exact drop_data s _
theorem ref_where (s : ByteArray) (hs : s.size ≤ 140737488351232) (k : Nat) (hk : s.size < k) : hammockref28_Where.f k s = some (whereL s) := by
  unfold hammockref28_Where.f whereL whOk
  have b1 := ref_begins s ⟨#[108, 105, 110, 101, 32]⟩ hs (by decide) 0 (by omega)
  rw [show ((0 : Nat) : Int) = 0 from rfl, List.drop_zero, show (0 + (⟨#[108, 105, 110, 101, 32]⟩ : ByteArray).size) = 5 from rfl] at b1
  rw [b1, Option.bind_some]
  unfold cutB
  by_cases h1 : Lib.hasPrefix s.data.toList tLine.data.toList = true
  · have h1' : Lib.hasPrefix s.data.toList (⟨#[108, 105, 110, 101, 32]⟩ : ByteArray).data.toList = true := h1
    rw [if_pos h1', h1]
    simp only [Bool.true_and, if_true]
    have hl5 : 5 ≤ s.size := by
      have := (List.isPrefixOf_iff_prefix.1 h1).length_le
      rw [← size_eq, ← size_eq] at this
      exact this
    have d1 : (wh1 s).data.toList = s.data.toList.drop 5 := by unfold wh1; rw [cut_data, if_pos h1]; rfl
    obtain ⟨j1, v1, n1, n2⟩ := ref_number s hs 5 hl5 k hk
    rw [show ((5 : Nat) : Int) = 5 from rfl] at n1
    rw [show ((5 : Nat) : Int) = 5 from rfl, n1, Option.bind_some]
    rw [numOk_eq, d1]
    by_cases o1 : okN ((s.data.toList.drop 5).takeWhile isDig) = true
    · obtain ⟨rfl, rfl⟩ := n2 o1
      rw [o1]
      simp only [Bool.true_and, if_true]
      have d2 : (wh2 s).data.toList = s.data.toList.drop (5 + ((s.data.toList.drop 5).takeWhile isDig).length) := by
        unfold wh2; rw [rest_data, d1, List.drop_drop]
      have le2 : 5 + ((s.data.toList.drop 5).takeWhile isDig).length ≤ s.size := by
        have := (List.takeWhile_sublist isDig (l := s.data.toList.drop 5)).length_le
        rw [List.length_drop, ← size_eq] at this
        omega
      have o1' := numO_eq (wh1 s) (by rw [d1]; exact o1)
      rw [d1] at o1'
      rw [o1', Option.getD_some]
      generalize val 0 ((s.data.toList.drop 5).takeWhile isDig) = V1
      generalize 5 + ((s.data.toList.drop 5).takeWhile isDig).length = P1 at d2 le2 ⊢
      rw [ref_begins s ⟨#[44, 32, 99, 111, 108, 117, 109, 110, 32]⟩ hs (by decide) P1 le2, Option.bind_some, d2]
      by_cases h2 : Lib.hasPrefix (s.data.toList.drop P1) tCol.data.toList = true
      · have h2' : Lib.hasPrefix (s.data.toList.drop P1) (⟨#[44, 32, 99, 111, 108, 117, 109, 110, 32]⟩ : ByteArray).data.toList = true := h2
        rw [if_pos h2', h2]
        simp only [Bool.true_and, if_true]
        rw [show (⟨#[44, 32, 99, 111, 108, 117, 109, 110, 32]⟩ : ByteArray).size = 9 from rfl]
        have hl9 : P1 + 9 ≤ s.size := by
          have := (List.isPrefixOf_iff_prefix.1 h2).length_le
          rw [← size_eq, List.length_drop, ← size_eq, show tCol.size = 9 from rfl] at this
          omega
        have d3 : (wh3 s).data.toList = s.data.toList.drop (P1 + 9) := by
          unfold wh3; rw [cut_data, d2, if_pos h2, List.drop_drop]; rfl
        obtain ⟨j2, v2, n3, n4⟩ := ref_number s hs (P1 + 9) hl9 k hk
        rw [n3, Option.bind_some, numOk_eq, d3]
        by_cases o2 : okN ((s.data.toList.drop (P1 + 9)).takeWhile isDig) = true
        · obtain ⟨rfl, rfl⟩ := n4 o2
          rw [o2]
          simp only [Bool.true_and, if_true]
          have d4 : (wh4 s).data.toList = s.data.toList.drop (P1 + 9 + ((s.data.toList.drop (P1 + 9)).takeWhile isDig).length) := by
            unfold wh4; rw [rest_data, d3, List.drop_drop]
          have le4 : P1 + 9 + ((s.data.toList.drop (P1 + 9)).takeWhile isDig).length ≤ s.size := by
            have := (List.takeWhile_sublist isDig (l := s.data.toList.drop (P1 + 9))).length_le
            rw [List.length_drop, ← size_eq] at this
            omega
          have o2' := numO_eq (wh3 s) (by rw [d3]; exact o2)
          rw [d3] at o2'
          rw [o2', Option.getD_some]
          generalize val 0 ((s.data.toList.drop (P1 + 9)).takeWhile isDig) = V2
          generalize P1 + 9 + ((s.data.toList.drop (P1 + 9)).takeWhile isDig).length = P2 at d4 le4 ⊢
          rw [ref_begins s ⟨#[58, 32]⟩ hs (by decide) P2 le4, Option.bind_some, d4]
          by_cases h3 : Lib.hasPrefix (s.data.toList.drop P2) tEnd.data.toList = true
          · have h3' : Lib.hasPrefix (s.data.toList.drop P2) (⟨#[58, 32]⟩ : ByteArray).data.toList = true := h3
            rw [if_pos h3', h3]; rfl
          · have h3' : ¬ Lib.hasPrefix (s.data.toList.drop P2) (⟨#[58, 32]⟩ : ByteArray).data.toList = true := h3
            rw [if_neg h3', Bool.not_eq_true _ |>.mp h3]; rfl
        · rw [Bool.not_eq_true _ |>.mp o2]; rfl
      · have h2' : ¬ Lib.hasPrefix (s.data.toList.drop P1) (⟨#[44, 32, 99, 111, 108, 117, 109, 110, 32]⟩ : ByteArray).data.toList = true := h2
        rw [if_neg h2', Bool.not_eq_true _ |>.mp h2]; rfl
    · rw [Bool.not_eq_true _ |>.mp o1]; rfl
  · have h1' : ¬ Lib.hasPrefix s.data.toList (⟨#[108, 105, 110, 101, 32]⟩ : ByteArray).data.toList = true := h1
    rw [if_neg h1', Bool.not_eq_true _ |>.mp h1]; rfl
end Go.Proofs.YtfnidapliohdjaaDoor.Pur
