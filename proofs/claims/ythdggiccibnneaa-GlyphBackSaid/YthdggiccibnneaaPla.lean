/- Places of a text: the program's Offset and Place and the document's are one search over the bytes. -/
import Derived.Test.YthdggiccibnneaaPx5
import Derived.Test.YthdggiccibnneaaLin
namespace Go.Proofs.Ythdggiccibnneaa.Lin
open Go.RowKit Go.Proofs.Ythdggiccibnneaa.P Go.Proofs.YthdggiccibnneaaW.PrintWords

/-- The first place at which the line is d lines on, and the column, now c, is 'col'. -/
def go : List UInt8 → Int → Int → Int → Option Int
  | [], d, c, col => if d = 0 ∧ c = col then some 0 else none
  | b :: t, d, c, col => if d = 0 ∧ c = col then some 0 else (if b = 10 then go t (d - 1) 1 col else go t d (c + 1) col).map (· + 1)
theorem go_neg (l : List UInt8) : ∀ (d c col : Int), d < 0 → go l d c col = none := by
  induction l with
  | nil => intro d c col h; rw [go]; rw [if_neg (by omega)]
  | cons b t ih =>
    intro d c col h
    rw [go]
    rw [if_neg (by omega)]
    split
    · rw [ih _ _ _ (by omega)]; rfl
    · rw [ih _ _ _ h]; rfl
/-- How far the line goes on. -/
def er (l : List UInt8) : Int := if nl l < 0 then (l.length : Int) else nl l
theorem er_nil : er [] = 0 := rfl
theorem er_feed (t : List UInt8) : er (10 :: t) = 0 := rfl
theorem er_ge (l : List UInt8) : 0 ≤ er l := by unfold er; split <;> omega
theorem er_other (b : UInt8) (t : List UInt8) (h : b ≠ 10) : er (b :: t) = er t + 1 := by
  have hg := nl_ge t
  unfold er
  rw [nl_other b t h, List.length_cons]
  by_cases hn : nl t < 0
  · rw [if_pos hn, if_pos hn, if_pos (by omega)]; omega
  · rw [if_neg hn, if_neg hn, if_neg (by omega)]
theorem go_zero (l : List UInt8) : ∀ (c col : Int), go l 0 c col = if c ≤ col ∧ col - c ≤ er l then some (col - c) else none := by
  induction l with
  | nil =>
    intro c col
    rw [go, er_nil]
    by_cases h : c = col
    · rw [if_pos ⟨rfl, h⟩, if_pos (by omega), h]; congr 1; omega
    · rw [if_neg (by omega), if_neg (by omega)]
  | cons b t ih =>
    intro c col
    rw [go]
    have hg := er_ge t
    by_cases h : c = col
    · subst h
      rw [if_pos ⟨rfl, rfl⟩, if_pos]
      · congr 1; omega
      · exact ⟨Int.le_refl _, by have := er_ge (b :: t); omega⟩
    · rw [if_neg (by omega)]
      by_cases hb : b = 10
      · subst hb
        rw [if_pos rfl, go_neg _ _ _ _ (by omega), er_feed, if_neg (by omega)]; rfl
      · rw [if_neg hb, ih, er_other b t hb]
        by_cases hc : c + 1 ≤ col ∧ col - (c + 1) ≤ er t
        · rw [if_pos hc, if_pos (by omega)]; simp only [Option.map_some]; congr 1; omega
        · rw [if_neg hc, if_neg (by omega)]; rfl
theorem go_pos (l : List UInt8) : ∀ (d c col : Int), 0 < d → go l d c col = if nl l < 0 then none else (go (l.drop ((nl l).toNat + 1)) (d - 1) 1 col).map (· + (nl l + 1)) := by
  induction l with
  | nil => intro d c col h; rw [go, if_neg (by omega), if_pos (by rw [nl_nil]; omega)]
  | cons b t ih =>
    intro d c col h
    rw [go]
    have hg := nl_ge t
    rw [if_neg (by omega)]
    by_cases hb : b = 10
    · subst hb
      rw [if_pos rfl, nl_feed, if_neg (by omega)]; rfl
    · rw [if_neg hb, ih _ _ _ h, nl_other b t hb]
      by_cases hn : nl t < 0
      · rw [if_pos hn, if_pos hn, if_pos (by omega)]; rfl
      · rw [if_neg hn, if_neg hn, if_neg (by omega)]
        rw [show (nl t + 1).toNat + 1 = ((nl t).toNat + 1) + 1 by omega, List.drop_succ_cons, Option.map_map]
        congr 1
        funext x; simp only [Function.comp]; omega
theorem go_st (L : List UInt8) (col : Int) : ∀ (d p : Nat), p ≤ L.length → go (L.drop p) (d : Int) 1 col = (st L d p).bind fun q => (go (L.drop q) 0 1 col).map (· + ((q : Int) - p))
  | 0, p, hp => by
    simp only [st, Option.bind_some]
    rw [show (fun x : Int => x + ((p : Int) - p)) = id by funext x; simp only [id]; omega]
    simp
  | d + 1, p, hp => by
    rw [go_pos _ _ _ _ (by omega), st]
    have hl := nl_lt (L.drop p)
    rw [List.length_drop] at hl
    by_cases hn : nl (L.drop p) < 0
    · rw [if_pos hn, if_pos hn]; rfl
    · rw [if_neg hn, if_neg hn, List.drop_drop]
      rw [show p + ((nl (L.drop p)).toNat + 1) = p + (nl (L.drop p)).toNat + 1 by omega, show ((d + 1 : Nat) : Int) - 1 = (d : Int) by omega]
      rw [go_st L col d _ (by omega)]
      cases st L d (p + (nl (L.drop p)).toNat + 1) with
      | none => rfl
      | some q =>
        simp only [Option.bind_some, Option.map_map]
        congr 1
        funext x; simp only [Function.comp]; omega
def pair (o : Option Int) : Int × Bool := match o with | some x => (x, true) | none => (0, false)
theorem offset_f (s : ByteArray) (hs : s.size ≤ 140737488351232) (line col : Int) (h2 : line ≤ 9223372036854775807) (h3 : -9223372036854775808 ≤ col) (h4 : col ≤ 9223372036854775807) (k : Nat) (hk : s.size + 1 < k) :
    glyph_Offset.f k s line col = some (pair (go s.data.toList (line - 1) 1 col)) := by
  unfold glyph_Offset.f
  rw [start_f s hs line h2 k hk]
  by_cases h : line < 1
  · rw [if_pos h, go_neg _ _ _ _ (by omega)]; rfl
  · rw [if_neg h]
    have hg := go_st s.data.toList col (line - 1).toNat 0 (Nat.zero_le _)
    rw [List.drop_zero, show (((line - 1).toNat : Nat) : Int) = line - 1 by omega] at hg
    rw [hg]
    cases hq : st s.data.toList (line - 1).toNat 0 with
    | none => rfl
    | some q =>
      have hb := st_le _ _ _ _ (Nat.zero_le _) hq
      rw [← size_eq] at hb
      have he := en_le s.data.toList q (by rw [← size_eq]; omega)
      rw [← size_eq] at he
      simp only [Option.bind_some, if_true]
      rw [go_zero]
      have hen : er (s.data.toList.drop q) = ((en s.data.toList q : Nat) : Int) - q := by
        unfold en er
        rw [List.length_drop, ← size_eq]
        split <;> omega
      rw [hen]
      by_cases hc : col < 1
      · rw [if_pos hc, if_neg (by omega)]; rfl
      · rw [if_neg hc, end_f s hs q hb.1]
        simp only [Option.bind_some]
        rw [show wrap64 (col - 1) = col - 1 by unfold wrap64; omega, show wrap64 (((en s.data.toList q : Nat) : Int) - q) = ((en s.data.toList q : Nat) : Int) - q by unfold wrap64; omega]
        by_cases hx : col - 1 > ((en s.data.toList q : Nat) : Int) - q
        · rw [if_pos hx, if_neg (by omega)]; rfl
        · rw [if_neg hx, if_pos (by omega)]
          simp only [pair, Option.map_some]
          congr 2
          unfold wrap64; omega

theorem bt_drop (s : ByteArray) (i : Nat) (hi : i < s.size) : s.data.toList.drop i = s.data.toList[i]'(by rw [← size_eq]; exact hi) :: s.data.toList.drop (i + 1) := List.drop_eq_getElem_cons _
theorem bt_get (s : ByteArray) (i : Nat) (hi : i < s.size) : bt s (i : Int) = ((s.data.toList[i]'(by rw [← size_eq]; exact hi)).toNat : Int) := by
  rw [← bt_at s (i : Int) hi]
  rfl
theorem bt_ten (s : ByteArray) (i : Nat) (hi : i < s.size) : bt s (i : Int) = 10 ↔ s.data.toList[i]'(by rw [← size_eq]; exact hi) = 10 := by
  rw [bt_get s i hi]
  generalize s.data.toList[i]'(by rw [← size_eq]; exact hi) = b
  constructor
  · intro h
    have : b.toNat = 10 := by omega
    exact UInt8.toNat_inj.1 (by rw [this]; rfl)
  · rintro rfl; rfl

theorem ref_offset (s : ByteArray) (hs : s.size ≤ 140737488351232) (line col : Int) : ∀ (m k i : Nat) (l c : Int), s.size - i = m → i ≤ s.size → 2 * m + 4 < k → 1 ≤ l → l ≤ i + 1 → 1 ≤ c → c ≤ i + 1 →
    hammockref01_Offset.l0 k s line col l c (i : Int) = some (pair ((go (s.data.toList.drop i) (line - l) c col).map (· + (i : Int)))) := by
  intro m
  induction m with
  | zero =>
    intro k i l c hm hi hk h1 h2 h3 h4
    obtain rfl : i = s.size := by omega
    obtain ⟨k, rfl⟩ : ∃ m, k = m + 3 := ⟨k - 3, by omega⟩
    rw [List.drop_of_length_le (by rw [← size_eq]; exact Nat.le_refl _)]
    rw [go]
    rw [hammockref01_Offset.l0, if_pos (by omega)]
    have fall : hammockref01_Offset.j1 (k + 2) s line col l c ((s.size : Nat) : Int) false = some (0, false) := by
      rw [hammockref01_Offset.j1, if_neg (by decide), if_neg (by omega), hammockref01_Offset.l0, if_neg (by unfold wrap64; omega)]
    by_cases e1 : l = line
    · subst e1
      rw [if_pos rfl]
      by_cases e2 : c = col
      · subst e2
        rw [show (c == c) = true from beq_self_eq_true c, hammockref01_Offset.j1, if_pos rfl, if_pos (by omega)]
        simp only [Option.map_some, pair]; congr 2; omega
      · rw [show (c == col) = false from beq_eq_false_iff_ne.2 e2, fall, if_neg (by omega)]; rfl
    · rw [if_neg e1, fall, if_neg (by omega)]; rfl
  | succ m ih =>
    intro k i l c hm hi hk h1 h2 h3 h4
    obtain ⟨k, rfl⟩ : ∃ m, k = m + 2 := ⟨k - 2, by omega⟩
    rw [bt_drop s i (by omega)]
    rw [go]
    rw [hammockref01_Offset.l0, if_pos (by omega)]
    have fall : hammockref01_Offset.j1 (k + 1) s line col l c (i : Int) false = some (pair (((if s.data.toList[i]'(by rw [← size_eq]; omega) = 10 then go (s.data.toList.drop (i + 1)) (line - l - 1) 1 col else go (s.data.toList.drop (i + 1)) (line - l) (c + 1) col).map (· + 1)).map (· + (i : Int)))) := by
      rw [hammockref01_Offset.j1, if_neg (by decide), if_pos (by omega), if_pos (by omega)]
      have hw : wrap64 ((i : Int) + 1) = ((i + 1 : Nat) : Int) := by unfold wrap64; omega
      have hmap : ∀ o : Option Int, (o.map (· + 1)).map (· + (i : Int)) = o.map (· + ((i + 1 : Nat) : Int)) := by
        intro o; rw [Option.map_map]; congr 1; funext x; simp only [Function.comp]; omega
      rw [hmap]
      by_cases hb : s.data.toList[i]'(by rw [← size_eq]; omega) = 10
      · rw [if_pos ((bt_ten s i (by omega)).2 hb), if_pos hb, hw, show wrap64 (l + 1) = l + 1 by unfold wrap64; omega]
        rw [ih k (i + 1) (l + 1) 1 (by omega) (by omega) (by omega) (by omega) (by omega) (by omega) (by omega), show line - (l + 1) = line - l - 1 by omega]
      · rw [if_neg (fun e => hb ((bt_ten s i (by omega)).1 e)), if_neg hb, hw, show wrap64 (c + 1) = c + 1 by unfold wrap64; omega]
        rw [ih k (i + 1) l (c + 1) (by omega) (by omega) (by omega) (by omega) (by omega) (by omega) (by omega)]
    by_cases e1 : l = line
    · subst e1
      rw [if_pos rfl]
      by_cases e2 : c = col
      · subst e2
        rw [show (c == c) = true from beq_self_eq_true c, hammockref01_Offset.j1, if_pos rfl, if_pos (by omega)]
        simp only [Option.map_some, pair]; congr 2; omega
      · rw [show (c == col) = false from beq_eq_false_iff_ne.2 e2, fall, if_neg (show ¬ (l - l = 0 ∧ c = col) by omega)]
    · rw [if_neg e1, fall, if_neg (show ¬ (line - l = 0 ∧ c = col) by omega)]
theorem ref_offset_f (s : ByteArray) (hs : s.size ≤ 140737488351232) (line col : Int) (k : Nat) (hk : 2 * s.size + 4 < k) :
    hammockref01_Offset.f k s line col = some (pair (go s.data.toList (line - 1) 1 col)) := by
  unfold hammockref01_Offset.f
  have := ref_offset s hs line col s.size k 0 1 1 (by omega) (by omega) hk (by omega) (by omega) (by omega) (by omega)
  rw [show ((0 : Nat) : Int) = 0 from rfl, List.drop_zero] at this
  rw [this]
  congr 1
  rw [show (fun x : Int => x + 0) = id by funext x; simp]
  simp
/-- The document's Line from a start on. -/
theorem ref_line (s : ByteArray) (hs : s.size ≤ 140737488351232) (p : Nat) : ∀ (m k i : Nat), s.size - i = m → p ≤ i → i ≤ s.size → m < k → (∀ j, p ≤ j → j < i → s.data.toList.getD j 0 ≠ 10) →
    hammockref01_Line.l0 k s (p : Int) (i : Int) = some (s.extract p (i + (if nl (s.data.toList.drop i) < 0 then s.size - i else (nl (s.data.toList.drop i)).toNat)), true) := by
  intro m
  induction m with
  | zero =>
    intro k i hm hp hi hk hj
    obtain rfl : i = s.size := by omega
    obtain ⟨k, rfl⟩ : ∃ m, k = m + 1 := ⟨k - 1, by omega⟩
    rw [hammockref01_Line.l0, if_neg (by omega), if_pos (by omega), if_pos (by omega), if_pos (by omega)]
    rw [List.drop_of_length_le (by rw [← size_eq]; exact Nat.le_refl _), nl_nil, if_pos (by omega)]
    rw [show s.size + (s.size - s.size) = s.size by omega]
    rfl
  | succ m ih =>
    intro k i hm hp hi hk hj
    obtain ⟨k, rfl⟩ : ∃ m, k = m + 1 := ⟨k - 1, by omega⟩
    rw [hammockref01_Line.l0, if_pos (by omega), if_pos (by omega), bt_drop s i (by omega)]
    by_cases hb : s.data.toList[i]'(by rw [← size_eq]; omega) = 10
    · rw [if_pos ((bt_ten s i (by omega)).2 hb), if_pos (by omega), if_pos (by omega), if_pos (by omega), hb, nl_feed]
      rfl
    · rw [if_neg (fun e => hb ((bt_ten s i (by omega)).1 e)), nl_other _ _ hb]
      rw [show wrap64 ((i : Int) + 1) = ((i + 1 : Nat) : Int) by unfold wrap64; omega]
      rw [ih k (i + 1) (by omega) (by omega) (by omega) (by omega) (fun j h1 h2 => by
        rcases Nat.lt_succ_iff_lt_or_eq.1 h2 with h | rfl
        · exact hj j h1 h
        · rw [List.getD_eq_getElem?_getD, List.getElem?_eq_getElem (by rw [← size_eq]; omega)]; exact hb)]
      have hg := nl_ge (s.data.toList.drop (i + 1))
      congr 3
      by_cases hn : nl (s.data.toList.drop (i + 1)) < 0
      · rw [if_pos hn, if_pos hn, if_pos (by omega)]; omega
      · rw [if_neg hn, if_neg hn, if_neg (by omega)]; omega
/-- The last line feed among the first n bytes; -1: there is none. -/
def lastAt (L : List UInt8) : Nat → Int
  | 0 => -1
  | n + 1 => if L.getD n 0 = 10 then (n : Int) else lastAt L n
theorem lastAt_bounds (L : List UInt8) : ∀ n, -1 ≤ lastAt L n ∧ lastAt L n < n
  | 0 => by simp [lastAt]
  | n + 1 => by
    have := lastAt_bounds L n
    rw [lastAt]
    split <;> omega
theorem lastAt_take (L : List UInt8) (m : Nat) : ∀ n, n ≤ m → lastAt (L.take m) n = lastAt L n
  | 0, _ => rfl
  | n + 1, h => by
    rw [lastAt, lastAt, lastAt_take L m n (by omega)]
    rw [List.getD_eq_getElem?_getD, List.getD_eq_getElem?_getD, List.getElem?_take_of_lt (by omega)]
/-- Line and column of a place. -/
def pl (L : List UInt8) (i : Nat) : Int × Int := (((L.take i).count 10 : Nat) + 1, (i : Int) - lastAt L i)
theorem pl_feed (L : List UInt8) (i : Nat) (hi : i < L.length) (h : L[i] = 10) : pl L (i + 1) = ((pl L i).1 + 1, 1) := by
  unfold pl
  rw [List.take_succ_eq_append_getElem hi, List.count_append, h, lastAt, List.getD_eq_getElem?_getD, List.getElem?_eq_getElem hi, Option.getD_some, if_pos h]
  simp only [List.count_singleton_self]
  ext <;> simp <;> omega
theorem pl_other (L : List UInt8) (i : Nat) (hi : i < L.length) (h : L[i] ≠ 10) : pl L (i + 1) = ((pl L i).1, (pl L i).2 + 1) := by
  unfold pl
  rw [List.take_succ_eq_append_getElem hi, List.count_append, lastAt, List.getD_eq_getElem?_getD, List.getElem?_eq_getElem hi, Option.getD_some, if_neg h]
  rw [List.count_singleton, if_neg (by simpa using h)]
  ext <;> simp <;> omega
theorem last_loop (t : ByteArray) (ht : t.size ≤ 140737488351232) : ∀ (i k : Nat), i ≤ t.size → i < k → bytealg_LastIndexByteString.l0 k t 10 ((i : Int) - 1) = some (lastAt t.data.toList i)
  | 0, k, hi, hk => by
    obtain ⟨k, rfl⟩ : ∃ m, k = m + 1 := ⟨k - 1, by omega⟩
    rw [bytealg_LastIndexByteString.l0, if_neg (by omega)]; rfl
  | i + 1, k, hi, hk => by
    obtain ⟨k, rfl⟩ : ∃ m, k = m + 1 := ⟨k - 1, by omega⟩
    rw [bytealg_LastIndexByteString.l0, if_pos (by omega), if_pos (by omega), if_pos (by omega)]
    rw [show ((i + 1 : Nat) : Int) - 1 = (i : Int) by omega, lastAt]
    rw [List.getD_eq_getElem?_getD, List.getElem?_eq_getElem (by rw [← size_eq]; omega), Option.getD_some]
    by_cases hb : t.data.toList[i]'(by rw [← size_eq]; omega) = 10
    · rw [if_pos ((bt_ten t i (by omega)).2 hb), if_pos hb]
    · rw [if_neg (fun e => hb ((bt_ten t i (by omega)).1 e)), if_neg hb]
      rw [show wrap64 ((i : Int) - 1) = (i : Int) - 1 by unfold wrap64; omega]
      exact last_loop t ht i k (by omega) (by omega)
theorem place_f (s : ByteArray) (hs : s.size ≤ 140737488351232) (at_ : Int) (k : Nat) (hk : s.size + 2 < k) :
    glyph_Place.f k s at_ = some (if at_ < 0 ∨ (s.size : Int) < at_ then (0, 0) else pl s.data.toList at_.toNat) := by
  unfold glyph_Place.f
  obtain ⟨k, rfl⟩ : ∃ m, k = m + 1 := ⟨k - 1, by omega⟩
  by_cases h : at_ < 0
  · rw [if_pos h, if_pos (.inl h), glyph_Place.j0, if_pos rfl]
  · rw [if_neg h]
    by_cases h2 : (s.size : Int) < at_
    · rw [if_pos (.inr h2), show decide (at_ > (s.size : Int)) = true from decide_eq_true h2, glyph_Place.j0, if_pos rfl]
    · rw [if_neg (by omega), show decide (at_ > (s.size : Int)) = false from decide_eq_false h2, glyph_Place.j0, if_neg (by decide), if_pos (by omega), if_pos (by omega)]
      obtain ⟨i, rfl⟩ := Int.eq_ofNat_of_zero_le (show 0 ≤ at_ by omega)
      rw [show ((i : Int)).toNat = i from rfl]
      have hd : (s.extract 0 i).data.toList = s.data.toList.take i := by rw [slice_data, List.drop_zero]
      have hz : (s.extract 0 i).size = i := by rw [size_eq, hd, List.length_take, ← size_eq]; omega
      have hc : strings_Count.f (s.extract 0 i) (⟨#[10]⟩ : ByteArray) = some (((s.data.toList.take i).count 10 : Nat) : Int) := by
        unfold strings_Count.f
        rw [if_pos (show (⟨#[10]⟩ : ByteArray).size = 1 from rfl), hd]; rfl
      have hcl : (s.data.toList.take i).count 10 ≤ i := Nat.le_trans List.count_le_length (by rw [List.length_take]; omega)
      rw [hc]
      rw [Option.bind_some]
      unfold strings_LastIndexByte.f bytealg_LastIndexByteString.f
      rw [hz, show wrap64 ((i : Int) - 1) = (i : Int) - 1 by unfold wrap64; omega]
      rw [last_loop _ (by omega) i k (by omega) (by omega), hd, lastAt_take _ _ _ (Nat.le_refl _)]
      simp only [Option.bind_some]
      have hb := lastAt_bounds s.data.toList i
      have w1 : wrap64 (((s.data.toList.take i).count 10 : Nat) + 1) = ((s.data.toList.take i).count 10 : Nat) + 1 := by unfold wrap64; omega
      have w2 : wrap64 ((i : Int) - lastAt s.data.toList i) = (i : Int) - lastAt s.data.toList i := by unfold wrap64; omega
      rw [w1, w2]
      rfl
theorem ref_place (s : ByteArray) (hs : s.size ≤ 140737488351232) (n : Nat) (hn : n ≤ s.size) : ∀ (m k i : Nat), n - i = m → i ≤ n → m < k →
    hammockref01_Place.l0 k s (n : Int) (pl s.data.toList i).1 (pl s.data.toList i).2 (i : Int) = some (pl s.data.toList n) := by
  intro m
  induction m with
  | zero =>
    intro k i hm hi hk
    obtain ⟨k, rfl⟩ : ∃ m, k = m + 1 := ⟨k - 1, by omega⟩
    obtain rfl : i = n := by omega
    rw [hammockref01_Place.l0, if_neg (by omega)]
  | succ m ih =>
    intro k i hm hi hk
    obtain ⟨k, rfl⟩ : ∃ m, k = m + 1 := ⟨k - 1, by omega⟩
    have hcl : (s.data.toList.take i).count 10 ≤ i := Nat.le_trans List.count_le_length (by rw [List.length_take]; omega)
    have hb := lastAt_bounds s.data.toList i
    rw [hammockref01_Place.l0, if_pos (by omega), if_pos (by omega), if_pos (by omega)]
    rw [show wrap64 ((i : Int) + 1) = ((i + 1 : Nat) : Int) by unfold wrap64; omega]
    have e1 : wrap64 ((pl s.data.toList i).1 + 1) = (pl s.data.toList i).1 + 1 := by unfold pl wrap64; simp only; omega
    have e2 : wrap64 ((pl s.data.toList i).2 + 1) = (pl s.data.toList i).2 + 1 := by unfold pl wrap64; simp only; omega
    have key := ih k (i + 1) (by omega) (by omega) (by omega)
    by_cases h : s.data.toList[i]'(by rw [← size_eq]; omega) = 10
    · rw [if_pos ((bt_ten s i (by omega)).2 h), e1]
      rw [pl_feed _ i (by rw [← size_eq]; omega) h] at key
      exact key
    · rw [if_neg (fun e => h ((bt_ten s i (by omega)).1 e)), e2]
      rw [pl_other _ i (by rw [← size_eq]; omega) h] at key
      exact key
theorem ref_place_f (s : ByteArray) (hs : s.size ≤ 140737488351232) (at_ : Int) (k : Nat) (hk : s.size + 2 < k) :
    hammockref01_Place.f k s at_ = some (if at_ < 0 ∨ (s.size : Int) < at_ then (0, 0) else pl s.data.toList at_.toNat) := by
  unfold hammockref01_Place.f
  obtain ⟨k, rfl⟩ : ∃ m, k = m + 1 := ⟨k - 1, by omega⟩
  by_cases h : at_ < 0
  · rw [if_pos h, if_pos (.inl h), hammockref01_Place.j0, if_pos rfl]
  · rw [if_neg h]
    by_cases h2 : (s.size : Int) < at_
    · rw [if_pos (.inr h2), show decide (at_ > (s.size : Int)) = true from decide_eq_true h2, hammockref01_Place.j0, if_pos rfl]
    · rw [if_neg (by omega), show decide (at_ > (s.size : Int)) = false from decide_eq_false h2, hammockref01_Place.j0, if_neg (by decide)]
      obtain ⟨i, rfl⟩ := Int.eq_ofNat_of_zero_le (show 0 ≤ at_ by omega)
      exact ref_place s hs i (by omega) (i - 0) k 0 rfl (by omega) (by omega)
/-- The offset of a place is the place. -/
theorem count_same (L : List UInt8) (i : Nat) : ∀ j, i ≤ j → j ≤ L.length → (pl L i).1 ≤ (pl L j).1 ∧ ((pl L i).1 = (pl L j).1 → lastAt L j = lastAt L i) := by
  intro j
  induction j with
  | zero => intro h _; obtain rfl : i = 0 := by omega
            exact ⟨Int.le_refl _, fun _ => rfl⟩
  | succ j ih =>
    intro h hl
    rcases Nat.lt_or_ge i (j + 1) with h1 | h1
    · obtain ⟨h2, h3⟩ := ih (by omega) (by omega)
      by_cases hb : L[j]'(by omega) = 10
      · rw [pl_feed L j (by omega) hb]; simp only
        exact ⟨by omega, fun e => by omega⟩
      · rw [pl_other L j (by omega) hb]; simp only
        refine ⟨h2, fun e => ?_⟩
        rw [lastAt, List.getD_eq_getElem?_getD, List.getElem?_eq_getElem (by omega), Option.getD_some, if_neg hb]
        exact h3 e
    · obtain rfl : i = j + 1 := by omega
      exact ⟨Int.le_refl _, fun _ => rfl⟩
theorem go_self (l : List UInt8) (c : Int) : go l 0 c c = some 0 := by
  cases l with
  | nil => rw [go]; rw [if_pos ⟨rfl, rfl⟩]
  | cons b t => rw [go]; rw [if_pos ⟨rfl, rfl⟩]
theorem go_place (L : List UInt8) (n : Nat) (hn : n ≤ L.length) : ∀ (m i : Nat), n - i = m → i ≤ n → go (L.drop i) ((pl L n).1 - (pl L i).1) (pl L i).2 (pl L n).2 = some ((n : Int) - i) := by
  intro m
  induction m with
  | zero =>
    intro i hm hi
    obtain rfl : i = n := by omega
    rw [Int.sub_self, go_self, Int.sub_self]
  | succ m ih =>
    intro i hm hi
    have hs := count_same L i n hi hn
    rw [List.drop_eq_getElem_cons (show i < L.length by omega)]
    rw [go]
    rw [if_neg (by
      rintro ⟨e1, e2⟩
      have := hs.2 (by omega)
      unfold pl at e2; simp only at e2; omega)]
    have key := ih (i + 1) (by omega) (by omega)
    by_cases hb : L[i]'(by omega) = 10
    · rw [pl_feed L i (by omega) hb] at key
      simp only at key
      rw [if_pos hb, show (pl L n).1 - (pl L i).1 - 1 = (pl L n).1 - ((pl L i).1 + 1) by omega, key]
      simp only [Option.map_some]; congr 1; omega
    · rw [pl_other L i (by omega) hb] at key
      simp only at key
      rw [if_neg hb, key]
      simp only [Option.map_some]; congr 1; omega
end Go.Proofs.Ythdggiccibnneaa.Lin
