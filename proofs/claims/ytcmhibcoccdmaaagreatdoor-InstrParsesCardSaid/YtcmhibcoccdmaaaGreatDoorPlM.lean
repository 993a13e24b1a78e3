/- The reference's numbers in plain words: what it reads of a text is what the program reads. -/
import Derived.Test.YtcmhibcoccdmaaaGreatDoorPx3
import Derived.Test.YtcmhibcoccdmaaaGreatDoorPlI
namespace Go.Proofs.YtcmhibcoccdmaaaGreatDoor.P
open Go.RowKit Go.Shelf Go.Proofs.YtcmhibcoccdmaaaGreatDoorW.PrintWords Go.Proofs.YtcmhibcoccdmaaaGreatDoorW.PrintLast Go.Proofs.YtcmhibcoccdmaaaGreatDoor.Rw
set_option linter.unusedVariables false
set_option linter.unusedSimpArgs false
theorem ba_app (a b : List UInt8) : ((⟨a.toArray⟩ : ByteArray) ++ ⟨b.toArray⟩) = ⟨(a ++ b).toArray⟩ := by
  apply ByteArray.ext
  apply Array.ext'
  simp
theorem nums_one (u : Int) (b : UInt8) (h : UInt8.ofNat u.toNat = b) : strOfNums [u] = ⟨[b].toArray⟩ := by
  unfold strOfNums
  rw [List.map_cons, h]
  rfl
theorem Digits_ex : ∀ (n : Nat) (acc : List UInt8), (n : Int) ≤ 9223372036854775807 → acc.length + (Lib.decDigits n).length ≤ 1000000000 → ∃ k, hammockref02_Digits.l0 k (n : Int) ⟨acc.toArray⟩ = some ⟨(Lib.decDigits n ++ acc).toArray⟩ := by
  intro n
  induction n using Nat.strongRecOn with
  | _ n ih =>
    intro acc hn hl
    rw [Lib.decDigits] at hl ⊢
    by_cases h : n < 10
    · rw [dif_pos h] at hl ⊢
      refine ⟨1, ?_⟩
      have e1 : strOfNums [(wrap64 (48 + (n : Int))) % 256] = ⟨[UInt8.ofNat (48 + n)].toArray⟩ := nums_one _ _ (by
        have : ((wrap64 (48 + (n : Int))) % 256).toNat = 48 + n := by unfold wrap64; omega
        rw [this])
      simp only [List.length_cons, List.length_nil] at hl
      rw [hammockref02_Digits.l0, if_neg (by omega), Option.bind_some, e1, if_pos (by rw [bsize, bsize]; simp only [List.length_cons, List.length_nil]; omega), ba_app]
    · rw [dif_neg h] at hl ⊢
      have e1 : strOfNums [(wrap64 (48 + Int.tmod (n : Int) 10)) % 256] = ⟨[UInt8.ofNat (48 + n % 10)].toArray⟩ := nums_one _ _ (by
        have : ((wrap64 (48 + Int.tmod (n : Int) 10)) % 256).toNat = 48 + n % 10 := by
          rw [Int.tmod_eq_emod_of_nonneg (by omega)]
          unfold wrap64
          omega
        rw [this])
      have e2 : wrap64 (Int.tdiv (n : Int) 10) = ((n / 10 : Nat) : Int) := by
        rw [Int.tdiv_eq_ediv_of_nonneg (by omega)]
        unfold wrap64
        omega
      rw [List.length_append] at hl
      simp only [List.length_cons, List.length_nil] at hl
      obtain ⟨k, hk⟩ := ih (n / 10) (by omega) (UInt8.ofNat (48 + n % 10) :: acc) (by omega) (by rw [List.length_cons]; omega)
      refine ⟨k + 1, ?_⟩
      rw [hammockref02_Digits.l0, if_pos (by omega), Option.bind_some, e1, if_pos (by rw [bsize, bsize]; simp only [List.length_cons, List.length_nil]; omega), ba_app, e2]
      rw [List.append_assoc]
      exact hk
theorem Digits_nat (u : Nat) (h : u ≤ 9223372036854775807) : ∃ k, hammockref02_Digits.f k (u : Int) = some ⟨(Lib.decDigits u).toArray⟩ := by
  have hd := Lib.itoa_length_le (u : Int) (by omega) (by omega)
  rw [Lib.itoa_nonneg] at hd
  obtain ⟨k, hk⟩ := Digits_ex u [] (by omega) (by simp only [List.length_nil]; omega)
  rw [List.append_nil] at hk
  exact ⟨k, hk⟩
theorem itoa_least : Lib.itoa (-9223372036854775808) = [45, 57, 50, 50, 51, 51, 55, 50, 48, 51, 54, 56, 53, 52, 55, 55, 53, 56, 48, 56] := by
  have h : Lib.itoa (-9223372036854775808) = 45 :: Lib.decDigits 9223372036854775808 := Lib.itoa_neg 9223372036854775808 (by omega)
  rw [h]
  simp [Lib.decDigits]
theorem rdigits_ex (n : Int) (h : i64 n) : ∃ k, hammockref20_digits.f k n = some ⟨(Lib.itoa n).toArray⟩ := by
  obtain ⟨h0, h1⟩ := h
  by_cases hn : n ≥ 0
  · obtain ⟨u, rfl⟩ : ∃ u : Nat, n = (u : Int) := ⟨n.toNat, by omega⟩
    obtain ⟨k, hk⟩ := Digits_nat u (by omega)
    refine ⟨k, ?_⟩
    rw [hammockref20_digits.f, if_pos hn, hk, Option.bind_some, Lib.itoa_nonneg]
  · by_cases hl : n = -9223372036854775808
    · subst hl
      refine ⟨0, ?_⟩
      rw [hammockref20_digits.f, if_neg hn, if_pos (by unfold wrap64; omega), itoa_least]
    · obtain ⟨u, hu, rfl⟩ : ∃ u : Nat, 1 ≤ u ∧ n = -(u : Int) := ⟨(-n).toNat, by omega, by omega⟩
      obtain ⟨k, hk⟩ := Digits_nat u (by omega)
      have hw : wrap64 (- -(u : Int)) = (u : Int) := by unfold wrap64; omega
      have hd := Lib.itoa_length_le (u : Int) (by omega) (by omega)
      rw [Lib.itoa_nonneg] at hd
      refine ⟨k, ?_⟩
      rw [hammockref20_digits.f, if_neg hn, hw, if_neg (by omega), hk, Option.bind_some, if_pos (by rw [bsize]; omega), Lib.itoa_neg u hu]
      have e3 : (⟨#[45]⟩ : ByteArray) = ⟨[45].toArray⟩ := rfl
      rw [e3, ba_app]
      rfl
def digB (c : UInt8) : Prop := 48 ≤ c.toNat ∧ c.toNat ≤ 57
instance (c : UInt8) : Decidable (digB c) := by unfold digB; exact inferInstance
/-- The number of digits that stand, behind what was read; none: too much, or no digit. -/
def rn : List UInt8 → Nat → Option Nat
  | [], v => some v
  | c :: t, v => if digB c then (if 10 * v + (c.toNat - 48) ≤ 9223372036854775808 then rn t (10 * v + (c.toNat - 48)) else none) else none
def rsg (s : List UInt8) (v : Nat) : Int := if s.head? = some 45 then -(v : Int) else wrap64 (v : Int)
def rend (s : List UInt8) : Option Nat → Int × Bool
  | none => (0, false)
  | some u => (rsg s u, Lib.itoa (rsg s u) == s)
theorem bt_q (x : ByteArray) (n : Nat) (b : UInt8) (h : x.data.toList[n]? = some b) : bt x (n : Int) = (b.toNat : Int) := by
  obtain ⟨hl, he⟩ := List.getElem?_eq_some_iff.1 h
  have hs : n < x.size := by rw [sizeL]; exact hl
  unfold bt
  rw [dif_pos (by rw [Int.toNat_natCast]; exact hs)]
  subst he
  simp
  rfl
theorem eqB (a s : List UInt8) : (((⟨a.toArray⟩ : ByteArray).toList == s) : Bool) = (a == s) := by
  rw [ByteArray.toList_eq]
theorem rloop (s t : ByteArray) (hs : 0 < s.size) (ht : t.size ≤ 19) : ∀ (rem : List UInt8) (i v : Nat), t.data.toList.drop i = rem → i ≤ t.size → v < 10 ^ i → v ≤ 9223372036854775808 → ∃ k, hammockref20_number.l0 k s t (-(v : Int)) (i : Int) = some (rend s.data.toList (rn rem v))
  | [], i, v, hd, hi, hv, hv2 => by
    have hie : i = t.size := by
      have := congrArg List.length hd
      rw [List.length_drop, ← sizeL] at this
      simp at this
      omega
    obtain ⟨c, r, hc⟩ : ∃ c r, s.data.toList = c :: r := by
      cases h : s.data.toList with
      | nil => rw [sizeL, h] at hs; simp at hs
      | cons c r => exact ⟨c, r, rfl⟩
    have hb : bt s 0 = (c.toNat : Int) := bt_q s 0 c (by rw [hc]; rfl)
    have hsl : s.toList = s.data.toList := ByteArray.toList_eq s
    by_cases h45 : c = 45
    · have hg : rsg s.data.toList v = -(v : Int) := by unfold rsg; rw [hc, h45]; rfl
      obtain ⟨k, hk⟩ := rdigits_ex (-(v : Int)) ⟨by omega, by omega⟩
      refine ⟨k + 1, ?_⟩
      rw [hammockref20_number.l0, if_neg (by omega), if_pos (by omega), hb, if_pos (by rw [h45]; rfl), hk, Option.bind_some, hsl, eqB, rn, rend, hg]
    · have hg : rsg s.data.toList v = wrap64 (v : Int) := by
        unfold rsg
        rw [hc, List.head?_cons, if_neg (fun e => h45 (Option.some.inj e))]
      have hw : wrap64 (- -(v : Int)) = wrap64 (v : Int) := by rw [Int.neg_neg]
      obtain ⟨k, hk⟩ := rdigits_ex (wrap64 (v : Int)) ⟨by unfold wrap64; omega, by unfold wrap64; omega⟩
      refine ⟨k + 1, ?_⟩
      rw [hammockref20_number.l0, if_neg (by omega), if_pos (by omega), hb, if_neg (fun e => h45 (UInt8.toNat_inj.1 (by rw [show (45 : UInt8).toNat = 45 from rfl]; omega))), hw, hk, Option.bind_some, hsl, eqB, rn, rend, hg]
  | c :: rem, i, v, hd, hi, hv, hv2 => by
    have hil : i < t.size := by
      have := congrArg List.length hd
      rw [List.length_drop, ← sizeL] at this
      simp at this
      omega
    have hci : t.data.toList[i]? = some c := by
      have h := congrArg (·[0]?) hd
      simp only [List.getElem?_drop, Nat.add_zero, List.getElem?_cons_zero] at h
      exact h
    have hd2 : t.data.toList.drop (i + 1) = rem := by
      have h := congrArg (List.drop 1) hd
      rw [List.drop_drop] at h
      exact h
    have hb := bt_q t i c hci
    have hi0 : (0 : Int) ≤ (i : Int) := by omega
    have hiz : (i : Int) < (t.size : Int) := by omega
    rw [rn]
    by_cases h0 : c.toNat < 48
    · refine ⟨2, ?_⟩
      rw [hammockref20_number.l0, if_pos hiz, if_pos hi0, hb, if_pos (by omega), hammockref20_number.j4, if_pos rfl, if_neg (fun h => by have := h.1; omega)]
      rfl
    · by_cases h1 : 57 < c.toNat
      · refine ⟨2, ?_⟩
        rw [hammockref20_number.l0, if_pos hiz, if_pos hi0, hb, if_neg (by omega), hammockref20_number.j4, if_pos (decide_eq_true (by omega)), if_neg (fun h => by have := h.2; omega)]
        rfl
      · have hp : 10 ^ i ≤ 10 ^ 18 := Nat.pow_le_pow_right (by omega) (by omega)
        have hw : wrap64 (wrap64 (10 * -(v : Int)) - ((c.toNat : Int) - 48) % 256) = wrap64 (-((10 * v + (c.toNat - 48) : Nat) : Int)) := by unfold wrap64; omega
        rw [if_pos ⟨by omega, by omega⟩]
        by_cases hov : 10 * v + (c.toNat - 48) ≤ 9223372036854775808
        · rw [if_pos hov]
          have hw2 : wrap64 (-((10 * v + (c.toNat - 48) : Nat) : Int)) = -((10 * v + (c.toNat - 48) : Nat) : Int) := by unfold wrap64; omega
          obtain ⟨k, hk⟩ := rloop s t hs ht rem (i + 1) (10 * v + (c.toNat - 48)) hd2 (by omega) (by rw [Nat.pow_succ]; omega) hov
          have hi1 : wrap64 ((i : Int) + 1) = ((i + 1 : Nat) : Int) := by unfold wrap64; omega
          refine ⟨k + 2, ?_⟩
          rw [hammockref20_number.l0, if_pos hiz, if_pos hi0, hb, if_neg (by omega), hammockref20_number.j4, if_neg (by rw [decide_eq_false (by omega)]; decide), if_pos hi0, if_pos hiz, hb, hw, hw2, if_neg (by omega), hi1]
          exact hk
        · rw [if_neg hov]
          have hw2 : wrap64 (-((10 * v + (c.toNat - 48) : Nat) : Int)) > 0 := by unfold wrap64; omega
          refine ⟨2, ?_⟩
          rw [hammockref20_number.l0, if_pos hiz, if_pos hi0, hb, if_neg (by omega), hammockref20_number.j4, if_neg (by rw [decide_eq_false (by omega)]; decide), if_pos hi0, if_pos hiz, hb, hw, if_pos hw2]
          rfl
def rtl (s : List UInt8) : List UInt8 := if s.head? = some 45 then s.tail else s
def rnumL (s : List UInt8) : Int × Bool := if rtl s = [] ∨ 19 < (rtl s).length then (0, false) else rend s (rn (rtl s) 0)
theorem rnum_t (s t : ByteArray) (hs : t.size ≤ s.size) : ∃ k, hammockref20_number.j1 k s t = some (if t.data.toList = [] ∨ 19 < t.data.toList.length then (0, false) else rend s.data.toList (rn t.data.toList 0)) := by
  have htl : t.toList = t.data.toList := ByteArray.toList_eq t
  by_cases h0 : t.data.toList = []
  · refine ⟨2, ?_⟩
    rw [hammockref20_number.j1, htl, if_pos h0, hammockref20_number.j2, if_pos rfl, if_pos (.inl h0)]
  · have hlen : t.size = t.data.toList.length := sizeL t
    by_cases h1 : 19 < t.data.toList.length
    · refine ⟨2, ?_⟩
      rw [hammockref20_number.j1, htl, if_neg h0, hammockref20_number.j2, if_pos (decide_eq_true (by omega)), if_pos (.inr h1)]
    · have hp : 0 < t.data.toList.length := List.length_pos_iff.2 h0
      obtain ⟨k, hk⟩ := rloop s t (by omega) (by omega) t.data.toList 0 0 rfl (by omega) (by simp) (by omega)
      refine ⟨k + 2, ?_⟩
      rw [hammockref20_number.j1, htl, if_neg h0, hammockref20_number.j2, if_neg (by rw [decide_eq_false (by omega)]; decide), if_neg (fun h => h.elim h0 h1)]
      exact hk
theorem rnum_ex (s : ByteArray) : ∃ k, hammockref20_number.f k s = some (rnumL s.data.toList) := by
  unfold rnumL rtl
  cases hc : s.data.toList with
  | nil =>
    have hs : s.size = 0 := by rw [sizeL, hc]; rfl
    obtain ⟨k, hk⟩ := rnum_t s s (Nat.le_refl _)
    rw [hc] at hk
    refine ⟨k + 1, ?_⟩
    rw [hammockref20_number.f, if_neg (by omega), hammockref20_number.j0, if_neg (by decide), hk]
    rfl
  | cons c r =>
    have hs : s.size = r.length + 1 := by rw [sizeL, hc]; rfl
    have hb : bt s 0 = (c.toNat : Int) := bt_q s 0 c (by rw [hc]; rfl)
    by_cases h45 : c = 45
    · have hx : (s.extract 1 s.size).data.toList = r := by
        rw [ByteArray.data_extract]
        simp [hc, hs]
      have hxs : (s.extract 1 s.size).size ≤ s.size := by rw [sizeL, hx]; omega
      obtain ⟨k, hk⟩ := rnum_t s (s.extract 1 s.size) hxs
      rw [hx, hc] at hk
      refine ⟨k + 1, ?_⟩
      rw [hammockref20_number.f, if_pos (by omega), if_pos (by omega), hb, hammockref20_number.j0, if_pos (by rw [h45]; rfl), if_pos (by omega), hk]
      simp [h45]
    · obtain ⟨k, hk⟩ := rnum_t s s (Nat.le_refl _)
      rw [hc] at hk
      have h45' : ¬ ((c.toNat : Int) == 45) = true := fun e => h45 (UInt8.toNat_inj.1 (by
        have := beq_iff_eq.1 e
        rw [show (45 : UInt8).toNat = 45 from rfl]; omega))
      refine ⟨k + 1, ?_⟩
      rw [hammockref20_number.f, if_pos (by omega), if_pos (by omega), hb, hammockref20_number.j0, if_neg h45', hk]
      simp [h45]
theorem dec_len : ∀ (k u : Nat), u < 10 ^ (k + 1) → (Lib.decDigits u).length ≤ k + 1
  | 0, u, h => by
    rw [Lib.decDigits, dif_pos (by simpa using h)]
    simp
  | k + 1, u, h => by
    rw [Lib.decDigits]
    split
    · simp
    · have := dec_len k (u / 10) (by rw [Nat.pow_succ] at h; omega)
      rw [List.length_append, List.length_singleton]
      omega
theorem rn_snoc (c : UInt8) : ∀ (l : List UInt8) (v : Nat), rn (l ++ [c]) v = (rn l v).bind fun u => rn [c] u
  | [], v => by rw [List.nil_append, rn, Option.bind_some]
  | d :: l, v => by
    rw [List.cons_append, rn, rn]
    split
    · split
      · exact rn_snoc c l _
      · rfl
    · rfl
theorem rn_dec (u : Nat) : u ≤ 9223372036854775808 → rn (Lib.decDigits u) 0 = some u := by
  induction u using Nat.strongRecOn with
  | _ u ih =>
    intro h
    rw [Lib.decDigits]
    split
    · next h10 =>
      have hd := dig_nat u h10
      rw [rn, if_pos (by unfold digB; omega), if_pos (by omega), rn]
      congr 1
      omega
    · next h10 =>
      have hd := dig_nat (u % 10) (by omega)
      rw [rn_snoc, ih (u / 10) (by omega) (by omega), Option.bind_some, rn, if_pos (by unfold digB; omega), if_pos (by omega), rn]
      congr 1
      omega
theorem dec_head (u : Nat) : ∃ c r, Lib.decDigits u = c :: r ∧ c ≠ 45 := by
  cases h : Lib.decDigits u with
  | nil => exact absurd h (dec_ne u)
  | cons c r =>
    refine ⟨c, r, rfl, fun e => ?_⟩
    have := dec_digit u c (by rw [h]; exact List.mem_cons_self)
    rw [e] at this
    exact absurd this.1 (by decide)
theorem rnum_itoa (v : Int) (h : i64 v) : rnumL (Lib.itoa v) = (v, true) := by
  obtain ⟨h0, h1⟩ := h
  by_cases hv : 0 ≤ v
  · obtain ⟨u, rfl⟩ : ∃ u : Nat, v = (u : Int) := ⟨v.toNat, by omega⟩
    rw [Lib.itoa_nonneg]
    obtain ⟨c, r, hc, hne⟩ := dec_head u
    have ht : rtl (Lib.decDigits u) = Lib.decDigits u := by unfold rtl; rw [if_neg (by rw [hc]; simp [hne])]
    have hl := dec_len 18 u (by omega)
    have hg : rsg (Lib.decDigits u) u = (u : Int) := by unfold rsg; rw [if_neg (by rw [hc]; simp [hne])]; unfold wrap64; omega
    unfold rnumL
    rw [ht, if_neg (by rintro (e | e); exact dec_ne u e; omega), rn_dec u (by omega), rend, hg, Lib.itoa_nonneg]
    simp
  · obtain ⟨u, hu, rfl⟩ : ∃ u : Nat, 1 ≤ u ∧ v = -(u : Int) := ⟨(-v).toNat, by omega, by omega⟩
    rw [Lib.itoa_neg u hu]
    have ht : rtl (45 :: Lib.decDigits u) = Lib.decDigits u := rfl
    have hl := dec_len 18 u (by omega)
    have hg : rsg (45 :: Lib.decDigits u) u = -(u : Int) := rfl
    unfold rnumL
    rw [ht, if_neg (by rintro (e | e); exact dec_ne u e; omega), rn_dec u (by omega), rend, hg, Lib.itoa_neg u hu]
    simp
theorem rn_le : ∀ (l : List UInt8) (v u : Nat), v ≤ 9223372036854775808 → rn l v = some u → u ≤ 9223372036854775808
  | [], v, u, hv, h => by rw [rn] at h; cases h; exact hv
  | c :: l, v, u, hv, h => by
    rw [rn] at h
    split at h
    · split at h
      · next hh => exact rn_le l _ u hh h
      · cases h
    · cases h
theorem rnum_true {s : List UInt8} (h : (rnumL s).2 = true) : Lib.itoa (rnumL s).1 = s ∧ i64 (rnumL s).1 := by
  unfold rnumL at h ⊢
  split at h
  · cases h
  · next hc =>
    rw [if_neg hc]
    cases hr : rn (rtl s) 0 with
    | none => rw [hr] at h; cases h
    | some u =>
      rw [hr, rend] at h
      have hu := rn_le _ _ u (by omega) hr
      rw [rend]
      refine ⟨beq_iff_eq.1 h, ?_⟩
      unfold rsg i64
      split
      · constructor <;> omega
      · unfold wrap64
        constructor <;> omega
/-- What the reference reads of a text as a number. -/
theorem rnum_law (s : List UInt8) : (rnumL s).2 = (numP s).isSome ∧ ∀ v, numP s = some v → (rnumL s).1 = v := by
  cases h : numP s with
  | some v =>
    obtain ⟨h1, h2⟩ := numP_some h
    have := rnum_itoa v h2
    rw [h1] at this
    rw [this]
    exact ⟨rfl, fun w hw => Option.some.inj hw⟩
  | none =>
    refine ⟨?_, fun v hv => by cases hv⟩
    cases hr : (rnumL s).2 with
    | false => rfl
    | true =>
      obtain ⟨h1, h2⟩ := rnum_true hr
      have := numP_itoa _ h2
      rw [h1, h] at this
      cases this
theorem rnumber_calls (s : ByteArray) (w : World) : Calls Tryz.prog 57 #[.string s] w (NumR s.data.toList w) := by
  obtain ⟨k, hk⟩ := rnum_ex s
  obtain ⟨h1, h2⟩ := rnum_law s.data.toList
  refine (hammockref20_number.calls k s (rnumL s.data.toList).1 (rnumL s.data.toList).2 w hk).mono ?_
  rintro e w' ⟨rfl, hb⟩
  exact ⟨_, by rw [h1], fun v hv => h2 v hv, hb⟩
end Go.Proofs.YtcmhibcoccdmaaaGreatDoor.P
