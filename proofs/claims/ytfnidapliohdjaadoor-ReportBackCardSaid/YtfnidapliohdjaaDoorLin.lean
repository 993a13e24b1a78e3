/- Lines and places of a text as lists of bytes: what glyph.Line and glyph.Place come to; the line of a place. -/
import Derived.Test.YtfnidapliohdjaaDoorFault
namespace Go.Proofs.YtfnidapliohdjaaDoor.Lin
open Go.RowKit Go.Proofs.YtfnidapliohdjaaDoor.P Go.Proofs.YtfnidapliohdjaaDoorW.PrintWords

/-- Where the next line feed is; -1: there is none. -/
def nl (l : List UInt8) : Int := Lib.indexByte l 10
theorem nl_nil : nl [] = -1 := rfl
theorem nl_feed (t : List UInt8) : nl (10 :: t) = 0 := rfl
theorem nl_ge (l : List UInt8) : -1 ≤ nl l := Lib.indexByte_ge _ _
theorem nl_other (b : UInt8) (t : List UInt8) (h : b ≠ 10) : nl (b :: t) = if nl t < 0 then -1 else nl t + 1 := by
  have hg := nl_ge t
  unfold nl at *
  rw [Lib.indexByte]
  rw [if_neg (by simpa using h)]
  by_cases e : Lib.indexByte t 10 = -1
  · rw [e]; rfl
  · rw [if_neg (by simpa using e), if_neg (by omega)]
theorem nl_lt (l : List UInt8) : nl l < l.length := by
  induction l with
  | nil => simp [nl_nil]
  | cons b t ih =>
    by_cases h : b = 10
    · subst h; rw [nl_feed]; simp only [List.length_cons]; omega
    · rw [nl_other b t h]; simp only [List.length_cons]; split <;> omega

/-- The start of the line that is d lines behind the one at a place. -/
def st (L : List UInt8) : Nat → Nat → Option Nat
  | 0, p => some p
  | d + 1, p => if nl (L.drop p) < 0 then none else st L d (p + (nl (L.drop p)).toNat + 1)
theorem st_le (L : List UInt8) : ∀ (d p q : Nat), p ≤ L.length → st L d p = some q → q ≤ L.length ∧ p + d ≤ q
  | 0, p, q, hp, h => by simp [st] at h; omega
  | d + 1, p, q, hp, h => by
    rw [st] at h
    split at h
    · cases h
    · have hl := nl_lt (L.drop p)
      rw [List.length_drop] at hl
      have := st_le L d _ q (by omega) h
      omega
theorem st_snoc (L : List UInt8) : ∀ (d p : Nat), st L (d + 1) p = (st L d p).bind fun q => if nl (L.drop q) < 0 then none else some (q + (nl (L.drop q)).toNat + 1)
  | 0, p => by simp [st]
  | d + 1, p => by
    rw [st]
    by_cases h : nl (L.drop p) < 0
    · rw [if_pos h, st, if_pos h]; rfl
    · rw [if_neg h, st_snoc L d, st, if_neg h]
/-- Where a line that starts at a place ends. -/
def en (L : List UInt8) (p : Nat) : Nat := if nl (L.drop p) < 0 then L.length else p + (nl (L.drop p)).toNat
theorem en_le (L : List UInt8) (p : Nat) (hp : p ≤ L.length) : p ≤ en L p ∧ en L p ≤ L.length := by
  unfold en
  have h := nl_lt (L.drop p)
  rw [List.length_drop] at h
  split <;> omega

theorem drop_data (s : ByteArray) (p : Nat) : (s.extract p s.size).data.toList = s.data.toList.drop p := by
  rw [ByteArray.data_extract, Array.toList_extract, List.extract_eq_drop_take', List.take_of_length_le (by rw [size_eq]; exact Nat.le_refl _)]
theorem slice_data (s : ByteArray) (p q : Nat) : (s.extract p q).data.toList = (s.data.toList.take q).drop p := by
  rw [ByteArray.data_extract, Array.toList_extract, List.extract_eq_drop_take']
theorem bytes_ext {a b : ByteArray} (h : a.data.toList = b.data.toList) : a = b := by
  obtain ⟨⟨a⟩⟩ := a; obtain ⟨⟨b⟩⟩ := b; simp at h; subst h; rfl
theorem index_f (s : ByteArray) (p : Nat) : strings_IndexByte.f (s.extract p s.size) 10 = some (nl (s.data.toList.drop p)) := by
  unfold strings_IndexByte.f nl
  rw [drop_data]; rfl

theorem start_loop (s : ByteArray) (hs : s.size ≤ 140737488351232) : ∀ (k p : Nat) (line : Int), 1 ≤ line → line ≤ 9223372036854775807 → p ≤ s.size → s.size - p + 1 < k →
    glyph_start.l0 k s line (p : Int) = some (match st s.data.toList (line - 1).toNat p with | some q => ((q : Int), true) | none => (0, false))
  | 0, p, line, h1, h2, hp, hk => by omega
  | k + 1, p, line, h1, h2, hp, hk => by
    simp only [glyph_start.l0]
    by_cases hl : line > 1
    · rw [if_pos hl, if_pos (by omega), if_pos (by omega)]
      rw [show ((p : Int)).toNat = p from rfl, index_f]
      simp only [Option.bind_some]
      obtain ⟨d, hd⟩ : ∃ d : Nat, (line - 1).toNat = d + 1 := ⟨(line - 2).toNat, by omega⟩
      rw [hd, st]
      have hlt := nl_lt (s.data.toList.drop p)
      rw [List.length_drop, ← size_eq] at hlt
      by_cases hn : nl (s.data.toList.drop p) < 0
      · rw [if_pos hn, if_pos hn]
      · rw [if_neg hn, if_neg hn]
        have e1 : wrap64 ((p : Int) + wrap64 (nl (s.data.toList.drop p) + 1)) = ((p + (nl (s.data.toList.drop p)).toNat + 1 : Nat) : Int) := by unfold wrap64; omega
        have e2 : wrap64 (line - 1) = line - 1 := by unfold wrap64; omega
        rw [e1, e2]
        rw [start_loop s hs k _ (line - 1) (by omega) (by omega) (by omega) (by omega)]
        rw [show (line - 1 - 1).toNat = d by omega]
    · have : line = 1 := by omega
      subst this
      rw [if_neg (by omega)]
      rfl
theorem start_f (s : ByteArray) (hs : s.size ≤ 140737488351232) (line : Int) (h2 : line ≤ 9223372036854775807) (k : Nat) (hk : s.size + 1 < k) :
    glyph_start.f k s line = some (if line < 1 then (0, false) else match st s.data.toList (line - 1).toNat 0 with | some q => ((q : Int), true) | none => (0, false)) := by
  unfold glyph_start.f
  by_cases h : line < 1
  · obtain ⟨k, rfl⟩ : ∃ m, k = m + 1 := ⟨k - 1, by omega⟩
    simp only [glyph_start.l0]
    rw [if_neg (by omega), if_pos h]
    have : (line == 1) = false := beq_eq_false_iff_ne.2 (by omega)
    rw [this]
  · rw [if_neg h]
    exact start_loop s hs k 0 line (by omega) h2 (by omega) (by omega)
theorem end_f (s : ByteArray) (hs : s.size ≤ 140737488351232) (p : Nat) (hp : p ≤ s.size) : glyph_end.f s (p : Int) = some ((en s.data.toList p : Nat) : Int) := by
  unfold glyph_end.f
  rw [if_pos (by omega), if_pos (by omega), show ((p : Int)).toNat = p from rfl, index_f]
  simp only [Option.bind_some]
  unfold en
  have hlt := nl_lt (s.data.toList.drop p)
  rw [List.length_drop, ← size_eq] at hlt
  by_cases hn : nl (s.data.toList.drop p) < 0
  · rw [if_neg (by omega), if_pos hn, ← size_eq]
  · rw [if_pos (by omega), if_neg hn]
    congr 1
    unfold wrap64; omega
/-- A line, by its bytes. -/
def ln (L : List UInt8) (p : Nat) : List UInt8 := (L.take (en L p)).drop p
theorem line_f (s : ByteArray) (hs : s.size ≤ 140737488351232) (line : Int) (h2 : line ≤ 9223372036854775807) (k : Nat) (hk : s.size + 1 < k) :
    glyph_Line.f k s line = some (if line < 1 then (⟨#[]⟩, false) else match st s.data.toList (line - 1).toNat 0 with | some q => (s.extract q (en s.data.toList q), true) | none => (⟨#[]⟩, false)) := by
  unfold glyph_Line.f
  rw [start_f s hs line h2 k hk]
  by_cases h : line < 1
  · rw [if_pos h, if_pos h]; rfl
  · rw [if_neg h, if_neg h]
    cases hq : st s.data.toList (line - 1).toNat 0 with
    | none => rfl
    | some q =>
      have hb := st_le _ _ _ _ (by omega) hq
      rw [← size_eq] at hb
      have he := en_le s.data.toList q (by rw [← size_eq]; omega)
      rw [← size_eq] at he
      simp only [Option.bind_some, if_true]
      rw [end_f s hs q hb.1]
      simp only [Option.bind_some]
      rw [if_pos (by omega), if_pos (by omega), if_pos (by omega)]
      rfl
theorem bt_drop (s : ByteArray) (i : Nat) (hi : i < s.size) : s.data.toList.drop i = s.data.toList[i]'(by rw [← size_eq]; exact hi) :: s.data.toList.drop (i + 1) := List.drop_eq_getElem_cons _
theorem bt_get (s : ByteArray) (i : Nat) (hi : i < s.size) : bt s (i : Int) = ((s.data.toList[i]'(by rw [← size_eq]; exact hi)).toNat : Int) := by
  rw [← bt_at s (i : Int) hi]
  rfl
theorem bt_ten (s : ByteArray) (i : Nat) (hi : i < s.size) : bt s (i : Int) = 10 ↔ s.data.toList[i]'(by rw [← size_eq]; exact hi) = 10 := by
  rw [bt_get s i hi]
  generalize s.data.toList[i]'(by rw [← size_eq]; exact hi) = b
  constructor
  · intro h
    have : b.toNat = 10 := by omega
    exact UInt8.toNat_inj.1 (by rw [this]; rfl)
  · rintro rfl; rfl

/-- The last line feed among the first n bytes; -1: there is none. -/
def lastAt (L : List UInt8) : Nat → Int
  | 0 => -1
  | n + 1 => if L.getD n 0 = 10 then (n : Int) else lastAt L n
theorem lastAt_bounds (L : List UInt8) : ∀ n, -1 ≤ lastAt L n ∧ lastAt L n < n
  | 0 => by simp [lastAt]
  | n + 1 => by
    have := lastAt_bounds L n
    rw [lastAt]
    split <;> omega
theorem lastAt_take (L : List UInt8) (m : Nat) : ∀ n, n ≤ m → lastAt (L.take m) n = lastAt L n
  | 0, _ => rfl
  | n + 1, h => by
    rw [lastAt, lastAt, lastAt_take L m n (by omega)]
    rw [List.getD_eq_getElem?_getD, List.getD_eq_getElem?_getD, List.getElem?_take_of_lt (by omega)]
/-- Line and column of a place. -/
def pl (L : List UInt8) (i : Nat) : Int × Int := (((L.take i).count 10 : Nat) + 1, (i : Int) - lastAt L i)
theorem pl_feed (L : List UInt8) (i : Nat) (hi : i < L.length) (h : L[i] = 10) : pl L (i + 1) = ((pl L i).1 + 1, 1) := by
  unfold pl
  rw [List.take_succ_eq_append_getElem hi, List.count_append, h, lastAt, List.getD_eq_getElem?_getD, List.getElem?_eq_getElem hi, Option.getD_some, if_pos h]
  simp only [List.count_singleton_self]
  ext <;> simp <;> omega
theorem pl_other (L : List UInt8) (i : Nat) (hi : i < L.length) (h : L[i] ≠ 10) : pl L (i + 1) = ((pl L i).1, (pl L i).2 + 1) := by
  unfold pl
  rw [List.take_succ_eq_append_getElem hi, List.count_append, lastAt, List.getD_eq_getElem?_getD, List.getElem?_eq_getElem hi, Option.getD_some, if_neg h]
  rw [List.count_singleton, if_neg (by simpa using h)]
  ext <;> simp <;> omega
theorem last_loop (t : ByteArray) (ht : t.size ≤ 140737488351232) : ∀ (i k : Nat), i ≤ t.size → i < k → bytealg_LastIndexByteString.l0 k t 10 ((i : Int) - 1) = some (lastAt t.data.toList i)
  | 0, k, hi, hk => by
    obtain ⟨k, rfl⟩ : ∃ m, k = m + 1 := ⟨k - 1, by omega⟩
    rw [bytealg_LastIndexByteString.l0, if_neg (by omega)]; rfl
  | i + 1, k, hi, hk => by
    obtain ⟨k, rfl⟩ : ∃ m, k = m + 1 := ⟨k - 1, by omega⟩
    rw [bytealg_LastIndexByteString.l0, if_pos (by omega), if_pos (by omega), if_pos (by omega)]
    rw [show ((i + 1 : Nat) : Int) - 1 = (i : Int) by omega, lastAt]
    rw [List.getD_eq_getElem?_getD, List.getElem?_eq_getElem (by rw [← size_eq]; omega), Option.getD_some]
    by_cases hb : t.data.toList[i]'(by rw [← size_eq]; omega) = 10
    · rw [if_pos ((bt_ten t i (by omega)).2 hb), if_pos hb]
    · rw [if_neg (fun e => hb ((bt_ten t i (by omega)).1 e)), if_neg hb]
      rw [show wrap64 ((i : Int) - 1) = (i : Int) - 1 by unfold wrap64; omega]
      exact last_loop t ht i k (by omega) (by omega)
theorem place_f (s : ByteArray) (hs : s.size ≤ 140737488351232) (at_ : Int) (k : Nat) (hk : s.size + 2 < k) :
    glyph_Place.f k s at_ = some (if at_ < 0 ∨ (s.size : Int) < at_ then (0, 0) else pl s.data.toList at_.toNat) := by
  unfold glyph_Place.f
  obtain ⟨k, rfl⟩ : ∃ m, k = m + 1 := ⟨k - 1, by omega⟩
  by_cases h : at_ < 0
  · rw [if_pos h, if_pos (.inl h), glyph_Place.j0, if_pos rfl]
  · rw [if_neg h]
    by_cases h2 : (s.size : Int) < at_
    · rw [if_pos (.inr h2), show decide (at_ > (s.size : Int)) = true from decide_eq_true h2, glyph_Place.j0, if_pos rfl]
    · rw [if_neg (by omega), show decide (at_ > (s.size : Int)) = false from decide_eq_false h2, glyph_Place.j0, if_neg (by decide), if_pos (by omega), if_pos (by omega)]
      obtain ⟨i, rfl⟩ := Int.eq_ofNat_of_zero_le (show 0 ≤ at_ by omega)
      rw [show ((i : Int)).toNat = i from rfl]
      have hd : (s.extract 0 i).data.toList = s.data.toList.take i := by rw [slice_data, List.drop_zero]
      have hz : (s.extract 0 i).size = i := by rw [size_eq, hd, List.length_take, ← size_eq]; omega
      have hc : strings_Count.f (s.extract 0 i) (⟨#[10]⟩ : ByteArray) = some (((s.data.toList.take i).count 10 : Nat) : Int) := by
        unfold strings_Count.f
        rw [if_pos (show (⟨#[10]⟩ : ByteArray).size = 1 from rfl), hd]; rfl
      have hcl : (s.data.toList.take i).count 10 ≤ i := Nat.le_trans List.count_le_length (by rw [List.length_take]; omega)
      rw [hc]
      rw [Option.bind_some]
      unfold strings_LastIndexByte.f bytealg_LastIndexByteString.f
      rw [hz, show wrap64 ((i : Int) - 1) = (i : Int) - 1 by unfold wrap64; omega]
      rw [last_loop _ (by omega) i k (by omega) (by omega), hd, lastAt_take _ _ _ (Nat.le_refl _)]
      simp only [Option.bind_some]
      have hb := lastAt_bounds s.data.toList i
      have w1 : wrap64 (((s.data.toList.take i).count 10 : Nat) + 1) = ((s.data.toList.take i).count 10 : Nat) + 1 := by unfold wrap64; omega
      have w2 : wrap64 ((i : Int) - lastAt s.data.toList i) = (i : Int) - lastAt s.data.toList i := by unfold wrap64; omega
      rw [w1, w2]
      rfl


theorem nl_ge_of : ∀ (l : List UInt8) (m : Nat), m ≤ l.length → (∀ j, j < m → l.getD j 0 ≠ 10) → nl l < 0 ∨ (m : Int) ≤ nl l
  | l, 0, _, _ => by have := nl_ge l; omega
  | [], m + 1, h, _ => by simp at h
  | b :: t, m + 1, h, hj => by
    have hb : b ≠ 10 := by have := hj 0 (by omega); simpa using this
    rw [nl_other b t hb]
    have := nl_ge_of t m (by simpa using h) (fun j hj' => by have := hj (j + 1) (by omega); simpa using this)
    split <;> omega
theorem nl_at : ∀ (l : List UInt8) (m : Nat), m < l.length → (∀ j, j < m → l.getD j 0 ≠ 10) → l.getD m 0 = 10 → nl l = m
  | [], m, h, _, _ => by simp at h
  | b :: t, 0, _, _, h => by have : b = 10 := by simpa using h
                             subst this; rfl
  | b :: t, m + 1, h, hj, hm => by
    have hb : b ≠ 10 := by have := hj 0 (by omega); simpa using this
    rw [nl_other b t hb]
    have := nl_at t m (by simpa using h) (fun j hj' => by have := hj (j + 1) (by omega); simpa using this) (by simpa using hm)
    rw [this, if_neg (by omega)]; omega
theorem getD_drop (L : List UInt8) (p j : Nat) : (L.drop p).getD j 0 = L.getD (p + j) 0 := by
  rw [List.getD_eq_getElem?_getD, List.getD_eq_getElem?_getD, List.getElem?_drop]
/-- The line of a place starts behind the last feed ahead of it. -/
theorem st_place (L : List UInt8) : ∀ n, n ≤ L.length → ∃ p : Nat, st L ((L.take n).count 10) 0 = some p ∧ (p : Int) = lastAt L n + 1 ∧ p ≤ n ∧ ∀ j, p ≤ j → j < n → L.getD j 0 ≠ 10
  | 0, _ => ⟨0, by simp [st], by simp [lastAt], by omega, fun j h1 h2 => by omega⟩
  | n + 1, h => by
    obtain ⟨p, h1, h2, h3, h4⟩ := st_place L n (by omega)
    rw [List.take_succ_eq_append_getElem (show n < L.length by omega), List.count_append, lastAt]
    have hg : L.getD n 0 = L[n]'(by omega) := by rw [List.getD_eq_getElem?_getD, List.getElem?_eq_getElem (by omega), Option.getD_some]
    by_cases hb : L[n]'(by omega) = 10
    · rw [hg, if_pos hb, hb, List.count_singleton_self, st_snoc, h1, Option.bind_some]
      have hnl : nl (L.drop p) = ((n - p : Nat) : Int) := nl_at _ _ (by rw [List.length_drop]; omega) (fun j hj => by rw [getD_drop]; exact h4 _ (by omega) (by omega)) (by rw [getD_drop, show p + (n - p) = n by omega, hg, hb])
      rw [hnl, if_neg (by omega), Int.toNat_natCast]
      exact ⟨n + 1, by congr 1; omega, by omega, by omega, fun j a b => by omega⟩
    · rw [hg, if_neg hb, List.count_singleton, if_neg (by simpa using hb)]
      refine ⟨p, h1, h2, by omega, fun j a b => ?_⟩
      rcases Nat.lt_succ_iff_lt_or_eq.1 b with b | rfl
      · exact h4 j a b
      · rw [hg]; exact hb
theorem en_place (L : List UInt8) (p n : Nat) (hn : n ≤ L.length) (hp : p ≤ n) (h : ∀ j, p ≤ j → j < n → L.getD j 0 ≠ 10) : n ≤ en L p := by
  unfold en
  have := nl_ge_of (L.drop p) (n - p) (by rw [List.length_drop]; omega) (fun j hj => by rw [getD_drop]; exact h _ (by omega) (by omega))
  split <;> omega
/-- Line, column and the line's text of a place. -/
theorem place_line (s : ByteArray) (hs : s.size ≤ 140737488351232) (n : Nat) (hn : n ≤ s.size) (k : Nat) (hk : s.size + 2 < k) :
    ∃ (l c p : Nat) (ln : ByteArray), glyph_Place.f k s (n : Int) = some ((l : Int), (c : Int)) ∧ glyph_Line.f k s (l : Int) = some (ln, true) ∧ 1 ≤ l ∧ l ≤ n + 1 ∧ 1 ≤ c ∧ c = n - p + 1 ∧ p ≤ n ∧ c - 1 ≤ ln.size ∧ ln.size ≤ s.size := by
  obtain ⟨p, h1, h2, h3, h4⟩ := st_place s.data.toList n (by rw [← size_eq]; exact hn)
  have hcl : (s.data.toList.take n).count 10 ≤ n := Nat.le_trans List.count_le_length (by rw [List.length_take]; omega)
  have he := en_place _ p n (by rw [← size_eq]; exact hn) h3 h4
  have hel := (en_le s.data.toList p (by rw [← size_eq]; omega)).2
  rw [← size_eq] at hel
  refine ⟨(s.data.toList.take n).count 10 + 1, n - p + 1, p, s.extract p (en s.data.toList p), ?_, ?_, by omega, by omega, by omega, by omega, h3, ?_, ?_⟩
  · rw [place_f s hs _ k hk, if_neg (by omega), Int.toNat_natCast]
    unfold pl
    simp only [Option.some.injEq, Prod.mk.injEq]
    omega
  · rw [line_f s hs _ (by omega) k (by omega), if_neg (by omega)]
    rw [show (((((s.data.toList.take n).count 10 + 1 : Nat) : Int)) - 1).toNat = (s.data.toList.take n).count 10 by omega, h1]
  · rw [ByteArray.size_extract]; omega
  · rw [ByteArray.size_extract]; omega
end Go.Proofs.YtfnidapliohdjaaDoor.Lin
