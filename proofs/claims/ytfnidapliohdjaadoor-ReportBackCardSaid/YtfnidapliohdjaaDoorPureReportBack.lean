/- ReportBack, plain: the place that a fault's text tells is the fault's; it has three lines, and ^ stands under the place's byte. -/
import Derived.Test.YtfnidapliohdjaaDoorPurN
import Derived.Test.YtfnidapliohdjaaDoorPx3
import Derived.Test.YtfnidapliohdjaaDoorKnow
import Derived.Lib.ItoaLen
namespace Go.Proofs.YtfnidapliohdjaaDoor.Pure
open Go.RowKit Go.Proofs.YtfnidapliohdjaaDoor.P Go.Proofs.YtfnidapliohdjaaDoorW.PrintWords
open Pur (val val_nil val_cons val_append isDig_iff okN numOk_eq numO_eq cut_data rest_data)
open Lin (bytes_ext slice_data place_line)
set_option linter.unusedVariables false

/-! ### numerals -/
theorem dig_byte (d : Nat) (h : d < 10) : (UInt8.ofNat (48 + d)).toNat = 48 + d := by
  rw [UInt8.toNat_ofNat']; omega
theorem dec_all (n : Nat) : (Lib.decDigits n).all isDig = true ∧ val 0 (Lib.decDigits n) = n ∧ Lib.decDigits n ≠ [] ∧ (1 ≤ n → (Lib.decDigits n).headD 0 ≠ 48) := by
  induction n using Nat.strongRecOn with
  | _ n ih =>
    rw [Lib.decDigits]
    split
    next h =>
      have hb := dig_byte n h
      refine ⟨?_, ?_, by simp, fun h1 => ?_⟩
      · simp only [List.all_cons, List.all_nil, Bool.and_true]; rw [isDig_iff, hb]; omega
      · rw [val_cons, val_nil, hb]; omega
      · intro e
        have : (UInt8.ofNat (48 + n)).toNat = 48 := by
          have : UInt8.ofNat (48 + n) = 48 := e
          rw [this]; rfl
        omega
    next h =>
      obtain ⟨h1, h2, h3, h4⟩ := ih (n / 10) (by omega)
      have hb := dig_byte (n % 10) (by omega)
      refine ⟨?_, ?_, by simp, fun _ => ?_⟩
      · rw [List.all_append, h1]
        simp only [List.all_cons, List.all_nil, Bool.and_true, Bool.true_and]; rw [isDig_iff, hb]; omega
      · rw [val_append, h2, val_cons, val_nil, hb]; omega
      · have := h4 (by omega)
        cases hd : Lib.decDigits (n / 10) with
        | nil => exact absurd hd h3
        | cons c r => rw [hd] at this; exact this
theorem itoa_nat (n : Nat) : (itB (n : Int)).data.toList = Lib.decDigits n := by
  unfold itB Lib.itoa
  rw [if_neg (by omega)]; rfl
theorem take_dig (l r : List UInt8) (h : l.all isDig = true) (hr : isDig (r.headD 0) = false) : (l ++ r).takeWhile isDig = l := by
  induction l with
  | nil =>
    cases r with
    | nil => rfl
    | cons c r => rw [List.nil_append, List.takeWhile_cons, if_neg (by simpa using hr)]
  | cons c l ih =>
    simp only [List.all_cons, Bool.and_eq_true] at h
    rw [List.cons_append, List.takeWhile_cons, if_pos h.1, ih h.2]
theorem okN_dec (n : Nat) (h1 : 1 ≤ n) (h2 : n ≤ 2147483648) : okN (Lib.decDigits n) = true := by
  obtain ⟨a, b, c, d⟩ := dec_all n
  unfold okN
  exact decide_eq_true ⟨c, d h1, by omega⟩

/-! ### the text -/
def WordP (o : Option ByteArray) : Prop := ∃ m, o = some m ∧ m.size ≤ 100 ∧ m.data.toList.all (fun c => c != 10) = true
theorem word_some (m : ByteArray) (h : (decide (m.size ≤ 100) && m.data.toList.all (fun c => c != 10)) = true) : WordP (some m) := by
  rw [Bool.and_eq_true, decide_eq_true_eq] at h
  exact ⟨m, rfl, h⟩
theorem word_ite {p : Prop} [Decidable p] {a b : Option ByteArray} (ha : WordP a) (hb : WordP b) : WordP (if p then a else b) := by split <;> assumption
theorem word_ok (e : Int) : WordP (report_Word.f e) := by
  unfold report_Word.f
  repeat' refine word_ite ?_ ?_
  all_goals exact word_some _ (by decide +kernel)
theorem head_list (l c : Nat) (m : ByteArray) : (headB l c m).data.toList = [108, 105, 110, 101, 32] ++ (Lib.decDigits l ++ ([44, 32, 99, 111, 108, 117, 109, 110, 32] ++ (Lib.decDigits c ++ ([58, 32] ++ m.data.toList)))) := by
  have e1 := itoa_nat l
  have e2 := itoa_nat c
  unfold headB
  simp only [List.map_cons, List.map_nil, Lib.join, List.intercalate, List.intersperse, e1, e2, List.flatten_cons, List.flatten_nil, List.nil_append, List.append_nil]
def lineL (c : Nat) (ln : ByteArray) : List UInt8 := (ln.data.toList.take (c - 1)).map underB
theorem text_list (l c : Nat) (m ln : ByteArray) : (textB l c m ln).data.toList = (headB l c m).data.toList ++ (10 :: ((ln.data.toList.map shownB) ++ (10 :: (lineL c ln ++ [94, 10])))) := by
  unfold textB
  simp only [List.map_cons, List.map_nil, Lib.join, List.intercalate, List.intersperse, List.flatten_cons, List.flatten_nil, List.append_nil]
  have e1 : (mapB shownB ln).data.toList = ln.data.toList.map shownB := rfl
  have e2 : (mapB underB (ln.extract 0 ((c : Int).toNat - 1)) ++ ⟨#[94]⟩).data.toList = lineL c ln ++ [94] := by
    rw [ByteArray.data_append, Array.toList_append]
    congr 1
    unfold mapB lineL
    rw [slice_data, List.drop_zero, Int.toNat_natCast]
  rw [e1, e2]
  simp [List.append_assoc]
/-! ### Where of it -/
theorem where_text (l c : Nat) (m ln : ByteArray) (l1 : 1 ≤ l) (l2 : l ≤ 2147483648) (c1 : 1 ≤ c) (c2 : c ≤ 2147483648) : whereL (textB l c m ln) = ((l : Int), (c : Int), true) := by
  have ht := text_list l c m ln
  rw [head_list] at ht
  generalize textB l c m ln = T at ht ⊢
  generalize (10 :: ((ln.data.toList.map shownB) ++ (10 :: (lineL c ln ++ [94, 10])))) = R at ht
  simp only [List.append_assoc] at ht
  obtain ⟨da, db, dc, dd⟩ := dec_all l
  obtain ⟨ea, eb, ec, ed⟩ := dec_all c
  have hp1 : Lib.hasPrefix T.data.toList tLine.data.toList = true := by
    unfold Lib.hasPrefix; rw [ht]; exact List.isPrefixOf_iff_prefix.2 (List.prefix_append _ _)
  have d1 : (wh1 T).data.toList = Lib.decDigits l ++ ([44, 32, 99, 111, 108, 117, 109, 110, 32] ++ (Lib.decDigits c ++ ([58, 32] ++ (m.data.toList ++ R)))) := by
    unfold wh1; rw [cut_data, if_pos hp1, ht]; rfl
  have t1 : (wh1 T).data.toList.takeWhile isDig = Lib.decDigits l := by rw [d1]; exact take_dig _ _ da (by rfl)
  have d2 : (wh2 T).data.toList = [44, 32, 99, 111, 108, 117, 109, 110, 32] ++ (Lib.decDigits c ++ ([58, 32] ++ (m.data.toList ++ R))) := by
    unfold wh2; rw [rest_data, t1, d1, List.drop_left]
  have hp2 : Lib.hasPrefix (wh2 T).data.toList tCol.data.toList = true := by
    unfold Lib.hasPrefix; rw [d2]; exact List.isPrefixOf_iff_prefix.2 (List.prefix_append _ _)
  have d3 : (wh3 T).data.toList = Lib.decDigits c ++ ([58, 32] ++ (m.data.toList ++ R)) := by
    unfold wh3; rw [cut_data, if_pos hp2, d2]; rfl
  have t3 : (wh3 T).data.toList.takeWhile isDig = Lib.decDigits c := by rw [d3]; exact take_dig _ _ ea (by rfl)
  have d4 : (wh4 T).data.toList = [58, 32] ++ (m.data.toList ++ R) := by
    unfold wh4; rw [rest_data, t3, d3, List.drop_left]
  have hp3 : Lib.hasPrefix (wh4 T).data.toList tEnd.data.toList = true := by
    unfold Lib.hasPrefix; rw [d4]; exact List.isPrefixOf_iff_prefix.2 (List.prefix_append _ _)
  have o1 := okN_dec l l1 l2
  have o2 := okN_dec c c1 c2
  have n1 := numO_eq (wh1 T) (by rw [t1]; exact o1)
  have n2 := numO_eq (wh3 T) (by rw [t3]; exact o2)
  unfold whereL whOk cutB
  rw [hp1, hp2, hp3, numOk_eq, numOk_eq, t1, t3, o1, o2, n1, n2, t1, t3, db, eb]
  rfl
/-! ### the law's loop -/
theorem byte_of (T : ByteArray) (i : Nat) (c : UInt8) (r : List UInt8) (h : T.data.toList.drop i = c :: r) : i < T.size ∧ bt T (i : Int) = (c.toNat : Int) ∧ T.data.toList.drop (i + 1) = r := by
  have h0 : T.data.toList[i]? = some c := by
    have : (T.data.toList.drop i)[0]? = some c := by rw [h]; rfl
    rwa [List.getElem?_drop, Nat.add_zero] at this
  have hl := (List.getElem?_eq_some_iff.1 h0).1
  refine ⟨by rw [size_eq]; exact hl, bt_q T i c h0, ?_⟩
  have := Pur.drop_at _ _ _ h0
  rw [h] at this
  injection this with _ h2
  exact h2.symm
theorem ten_nat (n : Nat) (e : (n : Int) = 10) : n = (10 : UInt8).toNat := by
  have h : (10 : UInt8).toNat = 10 := rfl
  omega
theorem cap_nat (n : Nat) (e : (n : Int) = 94) : n = (94 : UInt8).toNat := by
  have h : (94 : UInt8).toNat = 94 := rfl
  omega
theorem wrapS (i : Nat) (h : i ≤ 100000) : wrap64 ((i : Int) + 1) = ((i + 1 : Nat) : Int) := by unfold wrap64; omega
theorem seg (T : ByteArray) (l c a b : Int) (ok : Bool) (la ma : Int) (fe : Nat) (hz : T.size ≤ 100000) : ∀ (g r : List UInt8) (i k : Nat), T.data.toList.drop i = g ++ r → (∀ x, x ∈ g → x ≠ 10 ∧ (fe ≠ 2 ∨ x ≠ 94)) →
    hammocklaw28_ReportBack.l0 (k + g.length) T l c a b ok (fe : Int) la ma (i : Int) = hammocklaw28_ReportBack.l0 k T l c a b ok (fe : Int) la ma ((i + g.length : Nat) : Int)
  | [], r, i, k, h, hg => rfl
  | x :: g, r, i, k, h, hg => by
    obtain ⟨h1, h2, h3⟩ := byte_of T i x (g ++ r) h
    have hx := hg x List.mem_cons_self
    have n10 : ¬ ((x.toNat : Int) = 10) := fun e => hx.1 (UInt8.toNat_inj.1 (ten_nat _ e))
    rw [List.length_cons, show k + (g.length + 1) = (k + g.length) + 1 by omega, hammocklaw28_ReportBack.l0, if_pos (by omega), if_pos (by omega), h2, if_neg n10, wrapS i (by omega)]
    have key := seg T l c a b ok la ma fe hz g r (i + 1) k h3 (fun y hy => hg y (List.mem_cons_of_mem _ hy))
    rw [show i + (g.length + 1) = i + 1 + g.length by omega, key]
    by_cases hf : fe = 2
    · have n94 : ¬ ((x.toNat : Int) = 94) := fun e => by
        rcases hx.2 with h | h
        · exact h hf
        · exact h (UInt8.toNat_inj.1 (cap_nat _ e))
      rw [if_pos (by omega), if_neg n94]
    · rw [if_neg (by omega)]
theorem feed (T : ByteArray) (l c a b : Int) (ok : Bool) (la ma : Int) (fe : Nat) (hf : fe ≤ 2) (hz : T.size ≤ 100000) (r : List UInt8) (i k : Nat) (h : T.data.toList.drop i = 10 :: r) :
    hammocklaw28_ReportBack.l0 (k + 1) T l c a b ok (fe : Int) la ma (i : Int) = hammocklaw28_ReportBack.l0 k T l c a b ok ((fe + 1 : Nat) : Int) (if fe = 1 then ((i + 1 : Nat) : Int) else la) ma ((i + 1 : Nat) : Int) := by
  obtain ⟨h1, h2, h3⟩ := byte_of T i 10 r h
  rw [hammocklaw28_ReportBack.l0, if_pos (by omega), if_pos (by omega), h2, if_pos (by decide), wrapS i (by omega), wrapS fe (by omega)]
  by_cases h1 : fe = 1
  · subst h1
    rw [if_pos (by decide), if_neg (by decide), if_pos rfl]
  · rw [if_neg (by omega), if_neg h1]
theorem mark (T : ByteArray) (l c a b : Int) (ok : Bool) (la ma : Int) (hz : T.size ≤ 100000) (r : List UInt8) (i k : Nat) (h : T.data.toList.drop i = 94 :: r) :
    hammocklaw28_ReportBack.l0 (k + 1) T l c a b ok 2 la ma (i : Int) = hammocklaw28_ReportBack.l0 k T l c a b ok 2 la (i : Int) ((i + 1 : Nat) : Int) := by
  obtain ⟨h1, h2, h3⟩ := byte_of T i 94 r h
  rw [hammocklaw28_ReportBack.l0, if_pos (by omega), if_pos (by omega), h2, if_neg (by decide), wrapS i (by omega), if_pos rfl, if_pos (by decide)]
theorem shown_fin2 : ∀ c : Fin 256, shownB (UInt8.ofNat c.val) ≠ 10 := by decide +kernel
theorem shown_ne (c : UInt8) : shownB c ≠ 10 := by
  have := shown_fin2 ⟨c.toNat, c.toNat_lt⟩
  simpa only [UInt8.ofNat_toNat] using this
theorem under_fin2 : ∀ c : Fin 256, underB (UInt8.ofNat c.val) ≠ 10 ∧ underB (UInt8.ofNat c.val) ≠ 94 := by decide +kernel
theorem under_ne (c : UInt8) : underB c ≠ 10 ∧ underB c ≠ 94 := by
  have := under_fin2 ⟨c.toNat, c.toNat_lt⟩
  simpa only [UInt8.ofNat_toNat] using this
theorem dig_ne (l : List UInt8) (h : l.all isDig = true) (x : UInt8) (hx : x ∈ l) : x ≠ 10 := by
  have := (isDig_iff x).1 (List.all_eq_true.1 h x hx)
  rintro rfl
  have h10 : (10 : UInt8).toNat = 10 := rfl
  omega
theorem drop_len (L a r : List UInt8) (i : Nat) (h : L.drop i = a ++ r) : L.drop (i + a.length) = r := by
  rw [← List.drop_drop, h, List.drop_left]
/-- The loop over a text of three lines whose last one ends in a mark. -/
theorem loop_text (T : ByteArray) (hd sh un : List UInt8) (l c : Nat) (h : T.data.toList = hd ++ (10 :: (sh ++ (10 :: (un ++ [94, 10]))))) (hz : T.size ≤ 100000)
    (n1 : ∀ x, x ∈ hd → x ≠ 10) (n2 : ∀ x, x ∈ sh → x ≠ 10) (n3 : ∀ x, x ∈ un → x ≠ 10 ∧ x ≠ 94) (hc : un.length = c - 1) (c1 : 1 ≤ c) (c2 : c ≤ 100000) (k : Nat) (hk : 1 ≤ k) :
    hammocklaw28_ReportBack.l0 (k + T.size) T (l : Int) (c : Int) (l : Int) (c : Int) true 0 0 (-1) 0 = some true := by
  have hs : T.size = hd.length + (sh.length + (un.length + 4)) := by
    rw [size_eq, h]; simp only [List.length_append, List.length_cons, List.length_nil]; omega
  have g0 : T.data.toList.drop 0 = hd ++ (10 :: (sh ++ (10 :: (un ++ [94, 10])))) := by rw [List.drop_zero, h]
  have g1 := drop_len _ _ _ _ g0
  have g2 := (byte_of T _ _ _ g1).2.2
  have g3 := drop_len _ _ _ _ g2
  have g4 := (byte_of T _ _ _ g3).2.2
  have g5 := drop_len _ _ _ _ g4
  have g6 := (byte_of T _ _ _ g5).2.2
  have e1 := seg T l c l c true 0 (-1) 0 hz hd _ 0 (k + (sh.length + (un.length + 4))) g0 (fun x hx => ⟨n1 x hx, .inl (by omega)⟩)
  have e2 := feed T l c l c true 0 (-1) 0 (by omega) hz _ _ (k + (sh.length + (un.length + 3))) g1
  have e3 := seg T l c l c true 0 (-1) 1 hz sh _ _ (k + (un.length + 3)) g2 (fun x hx => ⟨n2 x hx, .inl (by omega)⟩)
  have e4 := feed T l c l c true 0 (-1) 1 (by omega) hz _ _ (k + (un.length + 2)) g3
  have e5 := seg T l c l c true ((0 + hd.length + 1 + sh.length + 1 : Nat) : Int) (-1) 2 hz un _ _ (k + 2) g4 (fun x hx => ⟨(n3 x hx).1, .inr (n3 x hx).2⟩)
  have e6 := mark T l c l c true ((0 + hd.length + 1 + sh.length + 1 : Nat) : Int) (-1) hz _ _ (k + 1) g5
  have e7 := feed T l c l c true ((0 + hd.length + 1 + sh.length + 1 : Nat) : Int) ((0 + hd.length + 1 + sh.length + 1 + un.length : Nat) : Int) 2 (by omega) hz _ _ k g6
  rw [show k + T.size = k + (sh.length + (un.length + 4)) + hd.length by omega]
  rw [show ((0 : Nat) : Int) = 0 from rfl] at e1 e2
  rw [e1, show k + (sh.length + (un.length + 4)) = k + (sh.length + (un.length + 3)) + 1 by omega, e2]
  rw [if_neg (by omega), show k + (sh.length + (un.length + 3)) = k + (un.length + 3) + sh.length by omega, show 0 + 1 = 1 from rfl, e3]
  rw [show k + (un.length + 3) = k + (un.length + 2) + 1 by omega, e4, if_pos rfl]
  rw [show k + (un.length + 2) = k + 2 + un.length by omega, show 1 + 1 = 2 from rfl, e5]
  rw [show ((2 : Nat) : Int) = 2 from rfl, show k + 2 = k + 1 + 1 by omega, e6]
  rw [show ((2 : Nat) : Int) = 2 from rfl] at e7
  rw [e7, if_neg (by omega)]
  obtain ⟨k, rfl⟩ : ∃ m, k = m + 1 := ⟨k - 1, by omega⟩
  obtain ⟨q1, q2, q3⟩ := byte_of T _ _ _ g6
  rw [hammocklaw28_ReportBack.l0, if_neg (by omega), if_pos rfl, if_pos rfl, if_pos rfl, if_pos (by decide)]
  have w1 : wrap64 ((T.size : Int) - 1) = ((0 + hd.length + 1 + sh.length + 1 + un.length + 1 : Nat) : Int) := by unfold wrap64; omega
  have w2 : wrap64 ((T.size : Int) - 2) = ((0 + hd.length + 1 + sh.length + 1 + un.length : Nat) : Int) := by unfold wrap64; omega
  rw [w1, w2, if_pos (by omega), if_pos (by omega), q2, if_pos (by decide), if_pos rfl, if_pos, knows_ok]
  · rfl
  · unfold wrap64; omega

/-! ### the law -/
theorem tmod_range (s : Nat) (hs : s ≤ 2000) (a : Int) (h1 : -9223372036854775808 ≤ a) (h2 : a ≤ 9223372036854775807) :
    ∃ n : Nat, n ≤ s ∧ Int.tmod (wrap64 ((wrap64 ((Int.tmod a (wrap64 ((s : Int) + 1))) + (s : Int))) + 1)) (wrap64 ((s : Int) + 1)) = (n : Int) := by
  have e : wrap64 ((s : Int) + 1) = (s : Int) + 1 := by unfold wrap64; omega
  have b1 := Int.tmod_lt_of_pos a (show 0 < (s : Int) + 1 by omega)
  have b2 : -((s : Int) + 1) < Int.tmod a ((s : Int) + 1) := by
    have := Int.lt_tmod_of_pos a (show 0 < (s : Int) + 1 by omega)
    omega
  rw [e]
  generalize Int.tmod a ((s : Int) + 1) = t at b1 b2 ⊢
  have e2 : wrap64 (wrap64 (t + s) + 1) = t + s + 1 := by
    have : wrap64 (t + s) = t + s := by unfold wrap64; omega
    rw [this]; unfold wrap64; omega
  rw [e2]
  have c1 := Int.tmod_lt_of_pos (t + s + 1) (show 0 < (s : Int) + 1 by omega)
  have c2 := Int.tmod_nonneg ((s : Int) + 1) (show 0 ≤ t + s + 1 by omega)
  exact ⟨(Int.tmod (t + s + 1) ((s : Int) + 1)).toNat, by omega, by omega⟩
theorem ReportBack : hammocklaw28_ReportBack.Pure := by
  intro s a e hs w1 w2
  by_cases h2000 : (s.size : Int) > 2000
  · refine ⟨1, ?_⟩
    unfold hammocklaw28_ReportBack.f
    rw [if_pos h2000, hammocklaw28_ReportBack.j0, if_pos rfl, knows_ok]; rfl
  · by_cases he : e = 0
    · refine ⟨1, ?_⟩
      unfold hammocklaw28_ReportBack.f
      rw [if_neg h2000, hammocklaw28_ReportBack.j0, if_pos (by rw [he]; rfl), knows_ok]; rfl
    · have ha : -9223372036854775808 ≤ a ∧ a ≤ 9223372036854775807 := by
        simp [Lit.wf, show IntKind.i64.min = -9223372036854775808 from rfl, show IntKind.i64.max = 9223372036854775807 from rfl] at w1; omega
      obtain ⟨n, hn, hat⟩ := tmod_range s.size (by omega) a ha.1 ha.2
      obtain ⟨l, c, p, ln, p1, p2, p3, p4, p5, p6, p7, p8, p9⟩ := place_line s hs n hn (s.size + 10) (by omega)
      obtain ⟨m, m1, m2, m3⟩ := word_ok e
      have hh := head_list l c m
      have ht := text_list l c m ln
      obtain ⟨da, _, _, _⟩ := dec_all l
      obtain ⟨ea, _, _, _⟩ := dec_all c
      have ll : (Lib.decDigits l).length ≤ 20 := by rw [Lib.decDigits_length]; exact Lib.nDigits_le20 _ (by omega)
      have lc : (Lib.decDigits c).length ≤ 20 := by rw [Lib.decDigits_length]; exact Lib.nDigits_le20 _ (by omega)
      have hm : m.data.toList.length ≤ 100 := by rw [← size_eq]; exact m2
      have hlen : (headB l c m).size ≤ 200 := by
        rw [size_eq, hh]; simp only [List.length_append, List.length_cons, List.length_nil]; omega
      have hun : (lineL c ln).length = c - 1 := by
        unfold lineL
        rw [List.length_map, List.length_take, ← size_eq]; omega
      have tlen : (textB l c m ln).size ≤ 5000 := by
        rw [size_eq, ht]
        simp only [List.length_append, List.length_cons, List.length_nil, List.length_map]
        rw [← size_eq, ← size_eq, hun]; omega
      have hF : report_Fault.f s (n : Int) e = some (textB l c m ln) := by
        unfold report_Fault.f
        rw [if_neg he, m1]
        simp only
        rw [if_pos m2, if_neg (by omega)]
        unfold faultIn
        rw [p1]
        simp only
        rw [p2]
        simp only
        rw [if_pos ⟨by omega, by omega, by omega, by omega, by omega, by omega⟩]
      have hW : report_Where.f (textB l c m ln) = some ((l : Int), (c : Int), true) := by
        unfold report_Where.f
        rw [if_pos (by omega), where_text l c m ln p3 (by omega) p5 (by omega)]
      refine ⟨(s.size + 10 + (textB l c m ln).size) + 1, ?_⟩
      unfold hammocklaw28_ReportBack.f
      rw [if_neg h2000, hammocklaw28_ReportBack.j0, if_neg (by rw [beq_iff_eq]; exact he), hat, if_neg (by unfold wrap64; omega), hF, Option.bind_some, at_rounds (fun k => glyph_Place.mono _ _ k) (by omega) p1, Option.bind_some, hW, Option.bind_some]
      refine loop_text _ _ _ _ l c ht (by omega) ?_ ?_ ?_ hun p5 (by omega) (s.size + 10) (by omega)
      · intro x hx
        rw [hh] at hx
        simp only [List.mem_append] at hx
        rcases hx with hx | hx | hx | hx | hx | hx
        · revert x; decide
        · exact dig_ne _ da x hx
        · revert x; decide
        · exact dig_ne _ ea x hx
        · revert x; decide
        · have := List.all_eq_true.1 m3 x hx
          simpa using this
      · intro x hx
        obtain ⟨y, _, rfl⟩ := List.mem_map.1 hx
        exact shown_ne y
      · intro x hx
        unfold lineL at hx
        obtain ⟨y, _, rfl⟩ := List.mem_map.1 hx
        exact under_ne y
end Go.Proofs.YtfnidapliohdjaaDoor.Pure
