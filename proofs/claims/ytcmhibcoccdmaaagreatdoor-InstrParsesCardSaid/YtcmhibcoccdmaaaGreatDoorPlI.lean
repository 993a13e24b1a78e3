/- Lines, words, numbers and pairs as lists of bytes: what is printed is parsed as it was; what is parsed is printed as the text. -/
import Derived.Test.YtcmhibcoccdmaaaGreatDoorInJ
namespace Go.Proofs.YtcmhibcoccdmaaaGreatDoor.P
open Go.RowKit Go.Shelf Go.Proofs.YtcmhibcoccdmaaaGreatDoorW.PrintWords Go.Proofs.YtcmhibcoccdmaaaGreatDoorW.PrintLast Go.Proofs.YtcmhibcoccdmaaaGreatDoor.Rw
set_option linter.unusedVariables false
set_option linter.unusedSimpArgs false
/-! The first place of a byte. -/
theorem ix_miss (c : UInt8) : ∀ l : List UInt8, c ∉ l → Lib.index l [c] = -1
  | [], _ => by simp [Lib.index]
  | b :: l, h => by
    have hb : ¬ c = b := fun e => h (e ▸ List.mem_cons_self)
    have hl := ix_miss c l (fun m => h (List.mem_cons_of_mem _ m))
    rw [Lib.index, hl]
    simp [List.isPrefixOf, hb]
theorem ix_hit (c : UInt8) : ∀ (p q : List UInt8), c ∉ p → Lib.index (p ++ c :: q) [c] = (p.length : Int)
  | [], q, _ => by rw [List.nil_append, Lib.index]; simp [List.isPrefixOf]
  | b :: p, q, h => by
    have hb : ¬ c = b := fun e => h (e ▸ List.mem_cons_self)
    have hl := ix_hit c p q (fun m => h (List.mem_cons_of_mem _ m))
    rw [List.cons_append, Lib.index, hl]
    have h1 : ¬ (p.length : Int) = -1 := by omega
    simp only [List.isPrefixOf, beq_iff_eq, hb, Bool.false_and, Bool.false_eq_true, if_false, h1, List.length_cons, Int.natCast_add, Int.natCast_one, beq_eq_false_iff_ne.2 hb]
theorem cut_at (c : UInt8) : ∀ l : List UInt8, c ∈ l → ∃ p q, l = p ++ c :: q ∧ c ∉ p
  | [], h => by cases h
  | b :: l, h => by
    by_cases e : c = b
    · exact ⟨[], l, by rw [e]; rfl, by simp⟩
    · rcases List.mem_cons.1 h with h | h
      · exact absurd h e
      · obtain ⟨p, q, rfl, hp⟩ := cut_at c l h
        exact ⟨b :: p, q, rfl, fun m => by rcases List.mem_cons.1 m with m | m; exact e m; exact hp m⟩
/-- A text's first place of a byte, both ways. -/
theorem ix_cases (c : UInt8) (l : List UInt8) : (Lib.index l [c] = -1 ∧ c ∉ l) ∨ ∃ p q, l = p ++ c :: q ∧ c ∉ p ∧ Lib.index l [c] = (p.length : Int) := by
  by_cases h : c ∈ l
  · obtain ⟨p, q, rfl, hp⟩ := cut_at c l h
    exact .inr ⟨p, q, rfl, hp, ix_hit c p q hp⟩
  · exact .inl ⟨ix_miss c l h, h⟩
theorem cut_hit (c : UInt8) (p q : List UInt8) (h : c ∉ p) : Lib.cut (p ++ c :: q) [c] = (p, q, true) := by
  unfold Lib.cut
  rw [ix_hit c p q h, if_pos (by omega)]
  simp
theorem cut_miss (c : UInt8) (l : List UInt8) (h : c ∉ l) : Lib.cut l [c] = (l, [], false) := by
  unfold Lib.cut
  rw [ix_miss c l h, if_neg (by omega)]
/-! Words. -/
def spl : List UInt8 → List (List UInt8)
  | [] => [[]]
  | c :: t => if c = 32 then [] :: spl t else match spl t with | [] => [[c]] | h :: r => (c :: h) :: r
theorem spl_miss : ∀ l : List UInt8, (32 : UInt8) ∉ l → spl l = [l]
  | [], _ => rfl
  | c :: t, h => by
    have hc : ¬ c = 32 := fun e => h (e ▸ List.mem_cons_self)
    rw [spl, if_neg hc, spl_miss t (fun m => h (List.mem_cons_of_mem _ m))]
theorem spl_hit : ∀ p q : List UInt8, (32 : UInt8) ∉ p → spl (p ++ 32 :: q) = p :: spl q
  | [], q, _ => by rw [List.nil_append, spl, if_pos rfl]
  | c :: t, q, h => by
    have hc : ¬ c = 32 := fun e => h (e ▸ List.mem_cons_self)
    rw [List.cons_append, spl, if_neg hc, spl_hit t q (fun m => h (List.mem_cons_of_mem _ m))]
theorem spl_ne : ∀ l : List UInt8, spl l ≠ []
  | [] => by simp [spl]
  | c :: t => by
    rw [spl]
    split
    · simp
    · split <;> simp
theorem joinTail_cons (y : List UInt8) (r : List (List UInt8)) : Lib.joinTail [32] (y :: r) = 32 :: y ++ Lib.joinTail [32] r := by simp [Lib.joinTail]
theorem join_two (x y : List UInt8) (r : List (List UInt8)) : Lib.join (x :: y :: r) [32] = x ++ 32 :: Lib.join (y :: r) [32] := by
  rw [Lib.join_cons, Lib.join_cons, joinTail_cons, List.cons_append]
theorem spl_join : ∀ (r : List (List UInt8)) (w : List UInt8), (∀ x ∈ w :: r, (32 : UInt8) ∉ x) → spl (Lib.join (w :: r) [32]) = w :: r
  | [], w, h => by rw [Lib.join_one]; exact spl_miss w (h w (by simp))
  | y :: r, w, h => by
    rw [join_two, spl_hit w _ (h w (by simp)), spl_join r y (fun x hx => h x (List.mem_cons_of_mem _ hx))]
theorem join_spl : ∀ l : List UInt8, Lib.join (spl l) [32] = l
  | [] => by simp [spl, Lib.join_one]
  | c :: t => by
    have ih := join_spl t
    rw [spl]
    split
    · next e =>
      subst e
      obtain ⟨h, r, hr⟩ := List.exists_cons_of_ne_nil (spl_ne t)
      rw [hr] at ih ⊢
      rw [join_two, ih, List.nil_append]
    · obtain ⟨h, r, hr⟩ := List.exists_cons_of_ne_nil (spl_ne t)
      rw [hr] at ih ⊢
      simp only
      rw [Lib.join_cons] at ih ⊢
      rw [List.cons_append, ih]
/-! At most four words. -/
theorem splitK_join : ∀ (k : Nat) (l : List UInt8), Lib.join (Lib.splitK [32] 0 k l) [32] = l
  | 0, l => by rw [Lib.splitK, Lib.join_one]
  | k + 1, l => by
    rcases ix_cases 32 l with ⟨h1, h2⟩ | ⟨p, q, rfl, hp, hi⟩
    · rw [Lib.splitK, h1, if_pos (by rfl), Lib.join_one]
    · have hn : ¬ (((p.length : Int)) == -1) = true := fun e => by have := beq_iff_eq.1 e; omega
      have e1 : (p ++ 32 :: q).take (p.length + 0) = p := by simp
      have e2 : (p ++ 32 :: q).drop (p.length + 1) = q := by simp
      rw [Lib.splitK, hi, if_neg hn, Int.toNat_natCast, e1, List.length_singleton, e2]
      have ih := splitK_join k q
      obtain ⟨y, r, hr⟩ : ∃ y r, Lib.splitK [32] 0 k q = y :: r := by
        cases k with
        | zero => exact ⟨q, [], rfl⟩
        | succ k => rw [Lib.splitK]; split; exact ⟨_, _, rfl⟩; exact ⟨_, _, rfl⟩
      rw [hr] at ih ⊢
      rw [join_two, ih]
theorem splitK_hit (k : Nat) (p q : List UInt8) (h : (32 : UInt8) ∉ p) : Lib.splitK [32] 0 (k + 1) (p ++ 32 :: q) = p :: Lib.splitK [32] 0 k q := by
  have hn : ¬ (((p.length : Int)) == -1) = true := fun e => by have := beq_iff_eq.1 e; omega
  rw [Lib.splitK, ix_hit 32 p q h, if_neg hn, Int.toNat_natCast]
  simp
theorem splitK_head (k : Nat) (l : List UInt8) (h : (32 : UInt8) ∉ l) : Lib.splitK [32] 0 k l = [l] := by
  cases k with
  | zero => rfl
  | succ k => rw [Lib.splitK, ix_miss 32 l h, if_pos (by rfl)]
theorem split4_data (s : ByteArray) : (split4 s).map (·.data.toList) = Lib.splitK [32] 0 (min 4 (s.size + 1) - 1) s.data.toList := Lib.splitB_data ⟨#[32]⟩ 0 _ s
/-! Numbers. -/
theorem parse_snoc : ∀ (l : List UInt8) (a : Nat) (c : UInt8), Lib.parseUint10 a (l ++ [c]) = match Lib.parseUint10 a l with
    | .ok v => Lib.parseUint10 v [c]
    | e => e
  | [], a, c => rfl
  | b :: l, a, c => by
    rw [List.cons_append, Lib.parseUint10, Lib.parseUint10]
    split
    · split
      · rfl
      · split
        · rfl
        · exact parse_snoc l _ c
    · rfl
theorem dig_nat (d : Nat) (h : d < 10) : (UInt8.ofNat (48 + d)).toNat = 48 + d := by
  rw [UInt8.toNat_ofNat']; omega
theorem parse_dec (u : Nat) : u < 18446744073709551616 → Lib.parseUint10 0 (Lib.decDigits u) = .ok u := by
  induction u using Nat.strongRecOn with
  | _ u ih =>
    intro h
    rw [Lib.decDigits]
    split
    · next h10 =>
      rw [Lib.parseUint10, dig_nat u h10, if_pos (by omega), if_neg (by omega), if_neg (by omega), Lib.parseUint10]
      congr 1
      omega
    · next h10 =>
      rw [parse_snoc, ih (u / 10) (by omega) (by omega)]
      simp only
      rw [Lib.parseUint10, dig_nat (u % 10) (by omega), if_pos (by omega), if_neg (by omega), if_neg (by omega), Lib.parseUint10]
      congr 1
      omega
theorem dec_ne (u : Nat) : Lib.decDigits u ≠ [] := by
  rw [Lib.decDigits]
  split <;> simp
theorem dec_digit (u : Nat) : ∀ c ∈ Lib.decDigits u, 48 ≤ c.toNat ∧ c.toNat ≤ 57 := by
  induction u using Nat.strongRecOn with
  | _ u ih =>
    intro c hc
    rw [Lib.decDigits] at hc
    split at hc
    · next h10 =>
      rw [List.mem_singleton] at hc
      rw [hc, dig_nat u h10]; omega
    · next h10 =>
      rcases List.mem_append.1 hc with hc | hc
      · exact ih (u / 10) (by omega) c hc
      · rw [List.mem_singleton] at hc
        rw [hc, dig_nat (u % 10) (by omega)]; omega
theorem itoa_byte (n : Int) : ∀ c ∈ Lib.itoa n, c = 45 ∨ (48 ≤ c.toNat ∧ c.toNat ≤ 57) := by
  intro c hc
  unfold Lib.itoa at hc
  split at hc
  · rcases List.mem_cons.1 hc with hc | hc
    · exact .inl hc
    · exact .inr (dec_digit _ c hc)
  · exact .inr (dec_digit _ c hc)
theorem numV_itoa (n : Int) (h : i64 n) : numV (Lib.itoa n) = some n := by
  have hd : ∀ u, u < 18446744073709551616 → Lib.parseMag (Lib.decDigits u) = .ok u := fun u hu => by
    unfold Lib.parseMag
    rw [if_neg (dec_ne u), parse_dec u hu]
  unfold i64 at h
  have hA : Lib.atoiAll (Lib.itoa n) = .ok n := by
    unfold Lib.itoa
    split
    · next h0 =>
      rw [Lib.atoiAll_minus, hd _ (by omega)]
      simp only [Lib.signed]
      rw [if_neg (by omega)]
      congr 1
      omega
    · next h0 =>
      obtain ⟨c, t, ht⟩ := List.exists_cons_of_ne_nil (dec_ne n.toNat)
      have hc := dec_digit n.toNat c (by rw [ht]; simp)
      have h1 := hd n.toNat (by omega)
      rw [ht] at h1 ⊢
      rw [Lib.atoiAll_plain c t (by omega) (by omega), h1]
      simp only [Lib.signless]
      rw [if_neg (by omega)]
      congr 1
      omega
  unfold numV
  rw [hA]
theorem numP_itoa (n : Int) (h : i64 n) : numP (Lib.itoa n) = some n := by
  unfold numP
  rw [numV_itoa n h]
  simp
theorem numP_some {l : List UInt8} {n : Int} (h : numP l = some n) : Lib.itoa n = l ∧ i64 n := by
  unfold numP at h
  split at h
  · next v hv =>
    split at h
    · next e => cases h; exact ⟨e, numV_range hv⟩
    · cases h
  · cases h
theorem no_byte {c : UInt8} (h : c = 32 ∨ c = 58 ∨ c = 10 ∨ c = 95) (n : Int) : c ∉ Lib.itoa n := by
  intro hm
  have h32 : (32 : UInt8).toNat = 32 := rfl
  have h58 : (58 : UInt8).toNat = 58 := rfl
  have h10 : (10 : UInt8).toNat = 10 := rfl
  have h95 : (95 : UInt8).toNat = 95 := rfl
  have h45 : (45 : UInt8).toNat = 45 := rfl
  rcases itoa_byte n c hm with h1 | h1
  · have h1 := congrArg UInt8.toNat h1
    rcases h with rfl | rfl | rfl | rfl <;> omega
  · rcases h with rfl | rfl | rfl | rfl <;> omega
/-! Pairs. -/
def pairL (p : Int × Int) : List UInt8 := tagL p.1 ++ 58 :: Lib.itoa p.2
theorem pairT_data (p : Int × Int) : (pairT p).data.toList = pairL p := by
  unfold pairT pairL itoaB
  rw [ByteArray.data_append, Array.toList_append, ByteArray.data_append, Array.toList_append]
  simp
theorem tag_no {c : UInt8} (h : c = 32 ∨ c = 58 ∨ c = 10) (n : Int) : c ∉ tagL n := by
  unfold tagL
  split
  · rcases h with rfl | rfl | rfl <;> decide
  · exact no_byte (by rcases h with h | h | h; exact .inl h; exact .inr (.inl h); exact .inr (.inr (.inl h))) n
theorem pair_no {c : UInt8} (h : c = 32 ∨ c = 10) (p : Int × Int) : c ∉ pairL p := by
  unfold pairL
  intro hm
  rcases List.mem_append.1 hm with hm | hm
  · exact tag_no (by rcases h with h | h; exact .inl h; exact .inr (.inr h)) _ hm
  · rcases List.mem_cons.1 hm with hm | hm
    · rcases h with rfl | rfl <;> cases hm
    · exact no_byte (by rcases h with h | h; exact .inl h; exact .inr (.inr (.inl h))) _ hm
theorem pairP_pair (p : Int × Int) (h1 : i64 p.1) (h2 : i64 p.2) : pairP (pairL p) = some p := by
  unfold pairP pairL
  rw [cut_hit 58 _ _ (tag_no (.inr (.inl rfl)) _)]
  simp only [if_true, numP_itoa _ h2]
  unfold tagL
  by_cases e : p.1 = -1
  · rw [if_pos e, if_pos rfl, ← e]
  · rw [if_neg e]
    have hne : ¬ Lib.itoa p.1 = [95] := fun e2 => no_byte (c := 95) (.inr (.inr (.inr rfl))) p.1 (by rw [e2]; simp)
    rw [if_neg hne, numP_itoa _ h1]
    simp only [if_neg e]
theorem pairP_some {l : List UInt8} {p : Int × Int} (h : pairP l = some p) : l = pairL p ∧ i64 p.1 ∧ i64 p.2 := by
  unfold pairP at h
  rcases ix_cases 58 l with ⟨_, hm⟩ | ⟨a, b, rfl, ha, _⟩
  · rw [cut_miss 58 l hm] at h
    simp at h
  · rw [cut_hit 58 a b ha] at h
    simp only [if_true] at h
    split at h
    · cases h
    · next t ht =>
      obtain ⟨rfl, ht2⟩ := numP_some ht
      split at h
      · next e =>
        cases h
        subst e
        exact ⟨by unfold pairL tagL; rw [if_pos rfl], by unfold i64; simp, ht2⟩
      · split at h
        · cases h
        · next n hn =>
          obtain ⟨rfl, hn2⟩ := numP_some hn
          split at h
          · cases h
          · next e =>
            cases h
            exact ⟨by unfold pairL tagL; rw [if_neg e], hn2, ht2⟩
end Go.Proofs.YtcmhibcoccdmaaaGreatDoor.P
