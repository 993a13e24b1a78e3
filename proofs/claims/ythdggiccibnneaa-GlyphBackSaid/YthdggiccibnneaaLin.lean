/- Lines of a text as lists of bytes: what start, end, Line, Offset and Place of layer 1 come to. -/
import Derived.Test.YthdggiccibnneaaPx3
namespace Go.Proofs.Ythdggiccibnneaa.Lin
open Go.RowKit Go.Proofs.Ythdggiccibnneaa.P Go.Proofs.YthdggiccibnneaaW.PrintWords

/-- Where the next line feed is; -1: there is none. -/
def nl (l : List UInt8) : Int := Lib.indexByte l 10
theorem nl_nil : nl [] = -1 := rfl
theorem nl_feed (t : List UInt8) : nl (10 :: t) = 0 := rfl
theorem nl_ge (l : List UInt8) : -1 ≤ nl l := Lib.indexByte_ge _ _
theorem nl_other (b : UInt8) (t : List UInt8) (h : b ≠ 10) : nl (b :: t) = if nl t < 0 then -1 else nl t + 1 := by
  have hg := nl_ge t
  unfold nl at *
  rw [Lib.indexByte]
  rw [if_neg (by simpa using h)]
  by_cases e : Lib.indexByte t 10 = -1
  · rw [e]; rfl
  · rw [if_neg (by simpa using e), if_neg (by omega)]
theorem nl_lt (l : List UInt8) : nl l < l.length := by
  induction l with
  | nil => simp [nl_nil]
  | cons b t ih =>
    by_cases h : b = 10
    · subst h; rw [nl_feed]; simp only [List.length_cons]; omega
    · rw [nl_other b t h]; simp only [List.length_cons]; split <;> omega

/-- The start of the line that is d lines behind the one at a place. -/
def st (L : List UInt8) : Nat → Nat → Option Nat
  | 0, p => some p
  | d + 1, p => if nl (L.drop p) < 0 then none else st L d (p + (nl (L.drop p)).toNat + 1)
theorem st_le (L : List UInt8) : ∀ (d p q : Nat), p ≤ L.length → st L d p = some q → q ≤ L.length ∧ p + d ≤ q
  | 0, p, q, hp, h => by simp [st] at h; omega
  | d + 1, p, q, hp, h => by
    rw [st] at h
    split at h
    · cases h
    · have hl := nl_lt (L.drop p)
      rw [List.length_drop] at hl
      have := st_le L d _ q (by omega) h
      omega
theorem st_snoc (L : List UInt8) : ∀ (d p : Nat), st L (d + 1) p = (st L d p).bind fun q => if nl (L.drop q) < 0 then none else some (q + (nl (L.drop q)).toNat + 1)
  | 0, p => by simp [st]
  | d + 1, p => by
    rw [st]
    by_cases h : nl (L.drop p) < 0
    · rw [if_pos h, st, if_pos h]; rfl
    · rw [if_neg h, st_snoc L d, st, if_neg h]
/-- Where a line that starts at a place ends. -/
def en (L : List UInt8) (p : Nat) : Nat := if nl (L.drop p) < 0 then L.length else p + (nl (L.drop p)).toNat
theorem en_le (L : List UInt8) (p : Nat) (hp : p ≤ L.length) : p ≤ en L p ∧ en L p ≤ L.length := by
  unfold en
  have h := nl_lt (L.drop p)
  rw [List.length_drop] at h
  split <;> omega

theorem size_eq (s : ByteArray) : s.size = s.data.toList.length := by rw [Array.length_toList]; rfl
theorem drop_data (s : ByteArray) (p : Nat) : (s.extract p s.size).data.toList = s.data.toList.drop p := by
  rw [ByteArray.data_extract, Array.toList_extract, List.extract_eq_drop_take', List.take_of_length_le (by rw [size_eq]; exact Nat.le_refl _)]
theorem slice_data (s : ByteArray) (p q : Nat) : (s.extract p q).data.toList = (s.data.toList.take q).drop p := by
  rw [ByteArray.data_extract, Array.toList_extract, List.extract_eq_drop_take']
theorem bytes_ext {a b : ByteArray} (h : a.data.toList = b.data.toList) : a = b := by
  obtain ⟨⟨a⟩⟩ := a; obtain ⟨⟨b⟩⟩ := b; simp at h; subst h; rfl
theorem index_f (s : ByteArray) (p : Nat) : strings_IndexByte.f (s.extract p s.size) 10 = some (nl (s.data.toList.drop p)) := by
  unfold strings_IndexByte.f nl
  rw [drop_data]; rfl

theorem start_loop (s : ByteArray) (hs : s.size ≤ 140737488351232) : ∀ (k p : Nat) (line : Int), 1 ≤ line → line ≤ 9223372036854775807 → p ≤ s.size → s.size - p + 1 < k →
    glyph_start.l0 k s line (p : Int) = some (match st s.data.toList (line - 1).toNat p with | some q => ((q : Int), true) | none => (0, false))
  | 0, p, line, h1, h2, hp, hk => by omega
  | k + 1, p, line, h1, h2, hp, hk => by
    simp only [glyph_start.l0]
    by_cases hl : line > 1
    · rw [if_pos hl, if_pos (by omega), if_pos (by omega)]
      rw [show ((p : Int)).toNat = p from rfl, index_f]
      simp only [Option.bind_some]
      obtain ⟨d, hd⟩ : ∃ d : Nat, (line - 1).toNat = d + 1 := ⟨(line - 2).toNat, by omega⟩
      rw [hd, st]
      have hlt := nl_lt (s.data.toList.drop p)
      rw [List.length_drop, ← size_eq] at hlt
      by_cases hn : nl (s.data.toList.drop p) < 0
      · rw [if_pos hn, if_pos hn]
      · rw [if_neg hn, if_neg hn]
        have e1 : wrap64 ((p : Int) + wrap64 (nl (s.data.toList.drop p) + 1)) = ((p + (nl (s.data.toList.drop p)).toNat + 1 : Nat) : Int) := by unfold wrap64; omega
        have e2 : wrap64 (line - 1) = line - 1 := by unfold wrap64; omega
        rw [e1, e2]
        rw [start_loop s hs k _ (line - 1) (by omega) (by omega) (by omega) (by omega)]
        rw [show (line - 1 - 1).toNat = d by omega]
    · have : line = 1 := by omega
      subst this
      rw [if_neg (by omega)]
      rfl
theorem start_f (s : ByteArray) (hs : s.size ≤ 140737488351232) (line : Int) (h2 : line ≤ 9223372036854775807) (k : Nat) (hk : s.size + 1 < k) :
    glyph_start.f k s line = some (if line < 1 then (0, false) else match st s.data.toList (line - 1).toNat 0 with | some q => ((q : Int), true) | none => (0, false)) := by
  unfold glyph_start.f
  by_cases h : line < 1
  · obtain ⟨k, rfl⟩ : ∃ m, k = m + 1 := ⟨k - 1, by omega⟩
    simp only [glyph_start.l0]
    rw [if_neg (by omega), if_pos h]
    have : (line == 1) = false := beq_eq_false_iff_ne.2 (by omega)
    rw [this]
  · rw [if_neg h]
    exact start_loop s hs k 0 line (by omega) h2 (by omega) (by omega)
theorem end_f (s : ByteArray) (hs : s.size ≤ 140737488351232) (p : Nat) (hp : p ≤ s.size) : glyph_end.f s (p : Int) = some ((en s.data.toList p : Nat) : Int) := by
  unfold glyph_end.f
  rw [if_pos (by omega), if_pos (by omega), show ((p : Int)).toNat = p from rfl, index_f]
  simp only [Option.bind_some]
  unfold en
  have hlt := nl_lt (s.data.toList.drop p)
  rw [List.length_drop, ← size_eq] at hlt
  by_cases hn : nl (s.data.toList.drop p) < 0
  · rw [if_neg (by omega), if_pos hn, ← size_eq]
  · rw [if_pos (by omega), if_neg hn]
    congr 1
    unfold wrap64; omega
/-- A line, by its bytes. -/
def ln (L : List UInt8) (p : Nat) : List UInt8 := (L.take (en L p)).drop p
theorem line_f (s : ByteArray) (hs : s.size ≤ 140737488351232) (line : Int) (h2 : line ≤ 9223372036854775807) (k : Nat) (hk : s.size + 1 < k) :
    glyph_Line.f k s line = some (if line < 1 then (⟨#[]⟩, false) else match st s.data.toList (line - 1).toNat 0 with | some q => (s.extract q (en s.data.toList q), true) | none => (⟨#[]⟩, false)) := by
  unfold glyph_Line.f
  rw [start_f s hs line h2 k hk]
  by_cases h : line < 1
  · rw [if_pos h, if_pos h]; rfl
  · rw [if_neg h, if_neg h]
    cases hq : st s.data.toList (line - 1).toNat 0 with
    | none => rfl
    | some q =>
      have hb := st_le _ _ _ _ (by omega) hq
      rw [← size_eq] at hb
      have he := en_le s.data.toList q (by rw [← size_eq]; omega)
      rw [← size_eq] at he
      simp only [Option.bind_some, if_true]
      rw [end_f s hs q hb.1]
      simp only [Option.bind_some]
      rw [if_pos (by omega), if_pos (by omega), if_pos (by omega)]
      rfl
end Go.Proofs.Ythdggiccibnneaa.Lin
