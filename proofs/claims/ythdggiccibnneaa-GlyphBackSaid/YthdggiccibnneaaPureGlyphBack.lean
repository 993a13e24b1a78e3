/- The offset of a place is the place; a quoted text is unquoted as it was; a byte's escape is it, and all of it: for every text of at most 3000 bytes, every place and every byte. -/
import Derived.Test.YthdggiccibnneaaPx6
import Derived.Test.YthdggiccibnneaaKnow
import Derived.Test.YthdggiccibnneaaPla
namespace Go.Proofs.Ythdggiccibnneaa.Pure
open Go.RowKit Go.Proofs.Ythdggiccibnneaa.P Go.Proofs.Ythdggiccibnneaa.Lin Go.Proofs.YthdggiccibnneaaW.PrintWords Go.Proofs.YthdggiccibnneaaW.PrintLast

theorem pair_back : ∀ c : Fin 256, escAt (c.val : Int) 34 < 5 → findFst (pfst (escAt (c.val : Int) 34)) = escAt (c.val : Int) 34 ∧ psnd (escAt (c.val : Int) 34) = (c.val : Int) := by decide +kernel
theorem hex_back : ∀ c : Fin 256, hxb (hexB ((c.val : Int) / 16)) = (c.val : Int) / 16 ∧ hxb (hexB ((c.val : Int) % 16)) = (c.val : Int) % 16 := by decide +kernel
theorem self_back : ∀ c : Fin 256, ¬ escAt (c.val : Int) 34 < 5 → ¬ ((c.val : Int) < 32 ∨ 126 < (c.val : Int)) → (c.val : Int) ≠ 92 ∧ (c.val : Int) ≠ 34 := by decide +kernel
theorem esc_back : ∀ c : Fin 256, unesc (strOfNums (esc (c.val : Int) 34)) 0 = ((c.val : Int), ((esc (c.val : Int) 34).length : Int), true) ∧ unesc (strOfNums (esc (c.val : Int) 39)) 0 = ((c.val : Int), ((esc (c.val : Int) 39).length : Int), true) := by decide +kernel
theorem byte_fin {c : Int} (h : (Lit.int .u8 c).wf = true) : ∃ f : Fin 256, c = (f.val : Int) := by
  have hb : 0 ≤ c ∧ c < 256 := by
    simp [Lit.wf, show IntKind.u8.min = 0 from rfl, show IntKind.u8.max = 255 from rfl] at h
    omega
  obtain ⟨n, rfl⟩ := Int.eq_ofNat_of_zero_le hb.1
  exact ⟨⟨n, by omega⟩, rfl⟩

theorem unesc_at (x : ByteArray) (i : Nat) (c : Fin 256) (h : ∀ j v, (esc (c.val : Int) 34)[j]? = some v → bt x ((i + j : Nat) : Int) = v) (hsz : i + (esc (c.val : Int) 34).length ≤ x.size) :
    unesc x (i : Int) = ((c.val : Int), ((i + (esc (c.val : Int) 34).length : Nat) : Int), true) ∧ bt x (i : Int) ≠ 34 := by
  by_cases h1 : escAt (c.val : Int) 34 < 5
  · have e : esc (c.val : Int) 34 = [92, pfst (escAt (c.val : Int) 34)] := by unfold esc; rw [if_pos h1]
    obtain ⟨p1, p2⟩ := pair_back c h1
    rw [e] at h hsz ⊢
    simp only [List.length_cons, List.length_nil] at hsz ⊢
    have b0 := h 0 92 rfl
    have b1 := h 1 _ rfl
    rw [Nat.add_zero] at b0
    rw [show ((i + 1 : Nat) : Int) = (i : Int) + 1 by omega] at b1
    refine ⟨?_, by rw [b0]; decide⟩
    unfold unesc
    rw [if_neg (by omega), if_neg (by rw [b0]; decide), if_neg (by rw [b0]; decide), if_neg (by omega), b1, p1, if_pos h1, p2]
    congr 2
  · by_cases h2 : (c.val : Int) < 32 ∨ 126 < (c.val : Int)
    · have e : esc (c.val : Int) 34 = [92, 120, hexB ((c.val : Int) / 16), hexB ((c.val : Int) % 16)] := by unfold esc; rw [if_neg h1, if_pos h2]
      obtain ⟨p1, p2⟩ := hex_back c
      rw [e] at h hsz ⊢
      simp only [List.length_cons, List.length_nil] at hsz ⊢
      have b0 := h 0 92 rfl
      have b1 := h 1 120 rfl
      have b2 := h 2 _ rfl
      have b3 := h 3 _ rfl
      rw [Nat.add_zero] at b0
      rw [show ((i + 1 : Nat) : Int) = (i : Int) + 1 by omega] at b1
      rw [show ((i + 2 : Nat) : Int) = (i : Int) + 2 by omega] at b2
      rw [show ((i + 3 : Nat) : Int) = (i : Int) + 3 by omega] at b3
      refine ⟨?_, by rw [b0]; decide⟩
      have q2 : hx x ((i : Int) + 2) = (c.val : Int) / 16 := by unfold hx; rw [b2, p1]
      have q3 : hx x ((i : Int) + 3) = (c.val : Int) % 16 := by unfold hx; rw [b3, p2]
      unfold unesc
      rw [if_neg (by omega), if_neg (by rw [b0]; decide), if_neg (by rw [b0]; decide), if_neg (by omega), b1, if_neg (by decide), if_neg (by omega), q2, q3, if_neg (by omega)]
      rw [show (c.val : Int) / 16 * 16 + (c.val : Int) % 16 = (c.val : Int) by omega]
      congr 2
    · have e : esc (c.val : Int) 34 = [(c.val : Int)] := by unfold esc; rw [if_neg h1, if_neg h2]
      obtain ⟨p1, p2⟩ := self_back c h1 h2
      rw [e] at h hsz ⊢
      simp only [List.length_cons, List.length_nil] at hsz ⊢
      have b0 := h 0 _ rfl
      rw [Nat.add_zero] at b0
      refine ⟨?_, by rw [b0]; exact p2⟩
      unfold unesc
      rw [if_neg (by omega), if_neg (by rw [b0]; exact h2), if_pos (by rw [b0]; exact p1), b0]
      congr 2

theorem esc_byte : ∀ c : Fin 256, ∀ v ∈ esc (c.val : Int) 34, 0 ≤ v ∧ v < 256 := by decide +kernel
theorem bt_q (x : ByteArray) (n : Nat) (b : UInt8) (h : x.data.toList[n]? = some b) : bt x (n : Int) = (b.toNat : Int) := by
  obtain ⟨hn, he⟩ := List.getElem?_eq_some_iff.1 h
  rw [bt_get x n (by rw [size_eq]; exact hn), he]
theorem unq_all (x : ByteArray) : ∀ (rest : List UInt8) (i k : Nat) (acc : List Int), x.data.toList.drop i = quoteL rest → i ≤ x.size → rest.length < k → acc.length + rest.length < 1099511627777 →
    unq x k (i : Int) acc = some (acc ++ rest.map fun c => (c.toNat : Int)) := by
  intro rest
  induction rest with
  | nil =>
    intro i k acc hd hi hk _
    obtain ⟨k, rfl⟩ : ∃ m, k = m + 1 := ⟨k - 1, by omega⟩
    have : x.size ≤ i := by
      have := congrArg List.length hd
      rw [List.length_drop, ← size_eq] at this
      simp [quoteL] at this; omega
    rw [unq, if_neg (by omega)]; simp
  | cons c t ih =>
    intro i k acc hd hi hk hl
    obtain ⟨k, rfl⟩ : ∃ m, k = m + 1 := ⟨k - 1, by omega⟩
    simp only [List.length_cons] at hk hl
    have hq : quoteL (c :: t) = (escB c).data.toList ++ quoteL t := rfl
    rw [hq] at hd
    have hlen : (escB c).data.toList.length = (esc (c.toNat : Int) 34).length := by unfold escB; rw [strOfNums_data, List.length_map]
    have hsz : i + (esc (c.toNat : Int) 34).length ≤ x.size := by
      have := congrArg List.length hd
      rw [List.length_drop, ← size_eq, List.length_append, hlen] at this; omega
    let f : Fin 256 := ⟨c.toNat, c.toNat_lt⟩
    have hpos : 0 < (esc (c.toNat : Int) 34).length := by
      unfold esc; split
      · simp
      · split <;> simp
    obtain ⟨u1, u2⟩ := unesc_at x i f (fun j v hv => by
      have hv' : (esc (c.toNat : Int) 34)[j]? = some v := hv
      have hjl : j < (esc (c.toNat : Int) 34).length := (List.getElem?_eq_some_iff.1 hv').1
      have hb := esc_byte f v (List.mem_of_getElem? hv)
      have : x.data.toList[i + j]? = some (UInt8.ofNat v.toNat) := by
        rw [← List.getElem?_drop, hd, List.getElem?_append_left (by rw [hlen]; exact hjl)]
        unfold escB
        rw [strOfNums_data, List.getElem?_map, hv']; rfl
      rw [bt_q x (i + j) _ this]
      have : (UInt8.ofNat v.toNat).toNat = v.toNat := by simp; omega
      rw [this]; omega) hsz
    have u1' : unesc x (i : Int) = ((c.toNat : Int), ((i + (esc (c.toNat : Int) 34).length : Nat) : Int), true) := u1
    rw [unq, if_pos (by omega), u1', if_pos ⟨rfl, u2, by omega, by omega⟩]
    simp only
    rw [ih _ k (acc ++ [(c.toNat : Int)]) (by
      rw [← List.drop_drop, hd, ← hlen, List.drop_left]) hsz (by omega) (by rw [List.length_append]; simp only [List.length_cons, List.length_nil]; omega)]
    rw [List.map_cons, List.append_assoc]; rfl
theorem nums_back (s : ByteArray) : strOfNums (s.data.toList.map fun c => (c.toNat : Int)) = s := by
  apply bytes_ext
  rw [strOfNums_data, List.map_map]
  have : ((fun n : Int => UInt8.ofNat n.toNat) ∘ fun c : UInt8 => (c.toNat : Int)) = id := by
    funext c; simp [Function.comp]
  rw [this]; simp

theorem unquote_quote (s : ByteArray) (hs : s.size ≤ 3000) : glyph_Unquote.f ⟨(34 :: quoteL s.data.toList ++ [34]).toArray⟩ = some (s, true) := by
  have hq := quoteL_length s.data.toList
  rw [← size_eq] at hq
  generalize hz : (⟨(34 :: quoteL s.data.toList ++ [34]).toArray⟩ : ByteArray) = z
  have hzd : z.data.toList = 34 :: quoteL s.data.toList ++ [34] := by rw [← hz]
  have hzs : z.size = (quoteL s.data.toList).length + 2 := by rw [size_eq, hzd]; simp
  have h34 : (⟨#[34]⟩ : ByteArray).size = 1 := rfl
  have hone : ∀ y : ByteArray, y.data.toList = [34] → y.toList = (⟨#[34]⟩ : ByteArray).toList := fun y hy => by
    rw [show y = (⟨#[34]⟩ : ByteArray) from bytes_ext hy]
  generalize ht : z.extract 1 z.size = t
  have htd : t.data.toList = quoteL s.data.toList ++ [34] := by rw [← ht, drop_data, hzd]; rfl
  have hts : t.size = (quoteL s.data.toList).length + 1 := by rw [size_eq, htd]; simp
  have hp : stringslite_HasPrefix.f z ⟨#[34]⟩ = some true := by
    unfold stringslite_HasPrefix.f
    rw [h34, if_pos (by omega), if_pos (by omega), if_pos (by omega)]
    rw [hone _ (by rw [slice_data, hzd]; rfl)]
    simp
  have hcut : strings_CutPrefix.f z ⟨#[34]⟩ = some (t, true) := by
    unfold strings_CutPrefix.f stringslite_CutPrefix.f
    rw [hp]
    simp only [Option.bind_some, if_true]
    rw [h34, if_pos (by omega), if_pos (by omega)]
    rw [show (((1 : Nat) : Int)).toNat = 1 from rfl, ht]
    rfl
  have hw : wrap64 ((t.size : Int) - ((1 : Nat) : Int)) = (((quoteL s.data.toList).length : Nat) : Int) := by unfold wrap64; omega
  have hsuf : strings_HasSuffix.f t ⟨#[34]⟩ = some true := by
    unfold strings_HasSuffix.f stringslite_HasSuffix.f
    rw [h34, if_pos (by omega), hw, if_pos (by omega), if_pos (by omega)]
    rw [hone _ (by rw [show ((((quoteL s.data.toList).length : Nat) : Int)).toNat = (quoteL s.data.toList).length from rfl, drop_data, htd, List.drop_left])]
    simp
  unfold glyph_Unquote.f
  rw [if_pos (by omega), hcut]
  simp only
  rw [if_pos ⟨hsuf, by omega, by omega⟩]
  have hx : (t.extract 0 (t.size - 1)).data.toList = quoteL s.data.toList := by
    rw [slice_data, htd, List.drop_zero, hts, Nat.add_sub_cancel, List.take_left]
  have key := unq_all (t.extract 0 (t.size - 1)) s.data.toList 0 (t.size + 1) [] (by rw [hx, List.drop_zero]) (Nat.zero_le _) (by
    have : ∀ l : List UInt8, l.length ≤ (quoteL l).length := by
      intro l
      induction l with
      | nil => simp
      | cons c l ih =>
        have h1 : 0 < (escB c).data.toList.length := by
          unfold escB; rw [strOfNums_data, List.length_map]; unfold esc; split
          · simp
          · split <;> simp
        have h2 : quoteL (c :: l) = (escB c).data.toList ++ quoteL l := rfl
        rw [h2, List.length_append, List.length_cons]; omega
    have := this s.data.toList
    omega) (by rw [← size_eq]; simp only [List.length_nil]; omega)
  have e0 : ((0 : Nat) : Int) = 0 := rfl
  rw [e0] at key
  rw [key, List.nil_append, Option.map_some, nums_back]

theorem back_at (s : ByteArray) (hs : s.size ≤ 140737488351232) (a : Int) (f : Fin 256) (single : Bool) (K : Nat) (hK : 2 * s.size + 100 ≤ K) :
    hammocklaw01_GlyphBack.f K s a (f.val : Int) single = some true := by
  have hkn : ∀ k, 40 ≤ k → hammocklaw01_knows.f k = some true := fun k hk => at_rounds hammocklaw01_knows.mono hk knows_true
  unfold hammocklaw01_GlyphBack.f
  by_cases h : (s.size : Int) > 3000
  · rw [if_pos h, hkn K (by omega)]; rfl
  · have tail : ∀ k, 40 ≤ k → s.size ≤ 3000 → hammocklaw01_GlyphBack.j1 (k + 1) s (f.val : Int) single false = some true := by
      intro k hk hs3
      rw [hammocklaw01_GlyphBack.j1, if_neg (by decide)]
      have hq : glyph_Quote.f s = some ⟨(34 :: quoteL s.data.toList ++ [34]).toArray⟩ := by unfold glyph_Quote.f; rw [if_pos (by omega)]
      rw [hq, Option.bind_some, unquote_quote s hs3, Option.bind_some]
      obtain ⟨e1, e2⟩ := esc_back f
      have hE : ∀ q, glyph_Escape.f (f.val : Int) q = some (strOfNums (esc (f.val : Int) q)) := fun q => by
        unfold glyph_Escape.f; exact if_pos ⟨by omega, by have := f.isLt; omega⟩
      have hU : ∀ y : ByteArray, y.size ≤ 4 → glyph_Unescape.f y 0 = some (unesc y 0) := fun y hy => by unfold glyph_Unescape.f; rw [if_pos (by omega)]
      have hL : ∀ q, (esc (f.val : Int) q).length ≤ 4 := fun q => by
        unfold esc; split
        · simp
        · split <;> simp
      cases single with
      | true =>
        rw [if_pos rfl, hE, Option.bind_some, hU _ (by rw [strOfNums_size]; exact hL _), Option.bind_some, e2]
        simp only [if_true]
        rw [strOfNums_size, if_pos rfl, hkn k hk]; rfl
      | false =>
        rw [if_neg (by decide), hE, Option.bind_some, hU _ (by rw [strOfNums_size]; exact hL _), Option.bind_some, e1]
        simp only [if_true]
        rw [strOfNums_size, if_pos rfl, hkn k hk]; rfl
    obtain ⟨k, rfl⟩ : ∃ k, K = k + 2 := ⟨K - 2, by omega⟩
    rw [if_neg h, place_f s hs a (k + 2) (by omega), Option.bind_some]
    by_cases hin : a < 0 ∨ (s.size : Int) < a
    · rw [if_pos hin]
      rw [offset_f s hs 0 0 (by omega) (by omega) (by omega) (k + 2) (by omega), go_neg _ _ _ _ (by omega), Option.bind_some]
      simp only [pair]
      have fall : hammocklaw01_GlyphBack.j0 (k + 2) s a (f.val : Int) single 0 false false = some true := by
        rw [hammocklaw01_GlyphBack.j0, if_neg (by decide), if_neg (by decide)]
        exact tail k (by omega) (by omega)
      by_cases h0 : a ≥ 0
      · rw [if_pos h0, show decide (a ≤ (s.size : Int)) = false from decide_eq_false (by omega), fall]
      · rw [if_neg h0, fall]
    · rw [if_neg hin]
      obtain ⟨n, rfl⟩ := Int.eq_ofNat_of_zero_le (show 0 ≤ a by omega)
      rw [show ((n : Int)).toNat = n from rfl]
      have hb := lastAt_bounds s.data.toList n
      have hcl : (s.data.toList.take n).count 10 ≤ n := Nat.le_trans List.count_le_length (by rw [List.length_take]; omega)
      have g := go_place s.data.toList n (by rw [← size_eq]; omega) n 0 (by omega) (Nat.zero_le _)
      rw [List.drop_zero] at g
      have p0 : pl s.data.toList 0 = (1, 1) := rfl
      rw [p0] at g
      simp only at g
      have q1 : (pl s.data.toList n).1 ≤ 9223372036854775807 := by unfold pl; simp only; omega
      have q2 : -9223372036854775808 ≤ (pl s.data.toList n).2 := by unfold pl; simp only; omega
      have q3 : (pl s.data.toList n).2 ≤ 9223372036854775807 := by unfold pl; simp only; omega
      rw [offset_f s hs _ _ q1 q2 q3 (k + 2) (by omega), g, Option.bind_some, if_pos (by omega)]
      simp only [pair]
      rw [show decide ((n : Int) ≤ (s.size : Int)) = true from decide_eq_true (by omega), hammocklaw01_GlyphBack.j0, if_neg (by decide), if_pos rfl]
      rw [show ((n : Int) - ((0 : Nat) : Int) != (n : Int)) = false by rw [bne_eq_false_iff_eq]; omega]
      exact tail k (by omega) (by omega)
theorem GlyphBack : hammocklaw01_GlyphBack.Pure := fun s a c single hs _ hc => by
  obtain ⟨f, rfl⟩ := byte_fin hc
  exact ⟨2 * s.size + 100, back_at s hs a f single _ (Nat.le_refl _)⟩
end Go.Proofs.Ythdggiccibnneaa.Pure
