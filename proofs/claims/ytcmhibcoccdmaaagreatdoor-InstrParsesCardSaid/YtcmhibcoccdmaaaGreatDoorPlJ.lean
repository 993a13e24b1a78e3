/- Lines of code as lists of bytes: an instruction's line and a global's, parsed; code, parsed; and back. -/
import Derived.Test.YtcmhibcoccdmaaaGreatDoorPlI
namespace Go.Proofs.YtcmhibcoccdmaaaGreatDoor.P
open Go.RowKit Go.Shelf Go.Proofs.YtcmhibcoccdmaaaGreatDoorW.PrintWords Go.Proofs.YtcmhibcoccdmaaaGreatDoorW.PrintLast Go.Proofs.YtcmhibcoccdmaaaGreatDoor.Rw
set_option linter.unusedVariables false
set_option linter.unusedSimpArgs false
/-! All of a list. -/
def allO {α β : Type} (f : α → Option β) : List α → Option (List β)
  | [] => some []
  | a :: l => match f a with
    | none => none
    | some b => match allO f l with
      | none => none
      | some bs => some (b :: bs)
theorem allO_map {α β : Type} (f : α → Option β) (g : β → α) : ∀ l : List β, (∀ x ∈ l, f (g x) = some x) → allO f (l.map g) = some l
  | [], _ => rfl
  | b :: l, h => by
    rw [List.map_cons, allO, h b (by simp), allO_map f g l (fun x hx => h x (List.mem_cons_of_mem _ hx))]
theorem allO_some {α β : Type} (f : α → Option β) (g : β → α) (p : β → Prop) (h : ∀ a b, f a = some b → a = g b ∧ p b) : ∀ (l : List α) (bs : List β), allO f l = some bs → l = bs.map g ∧ ∀ b ∈ bs, p b
  | [], bs, hb => by cases hb; exact ⟨rfl, fun b hb => by cases hb⟩
  | a :: l, bs, hb => by
    rw [allO] at hb
    split at hb
    · cases hb
    · next b h1 =>
      split at hb
      · cases hb
      · next cs h2 =>
        cases hb
        obtain ⟨e, hp⟩ := h a b h1
        obtain ⟨e2, hp2⟩ := allO_some f g p h l cs h2
        exact ⟨by rw [List.map_cons, ← e, ← e2], fun x hx => by rcases List.mem_cons.1 hx with rfl | hx; exact hp; exact hp2 x hx⟩
theorem allO_snoc {α β : Type} (f : α → Option β) : ∀ (l : List α) (a : α) (bs : List β) (b : β), allO f l = some bs → f a = some b → allO f (l ++ [a]) = some (bs ++ [b])
  | [], a, bs, b, h, h2 => by cases h; simp [allO, h2]
  | c :: l, a, bs, b, h, h2 => by
    rw [allO] at h
    split at h
    · cases h
    · next d h1 =>
      split at h
      · cases h
      · next cs h3 =>
        cases h
        rw [List.cons_append, allO, h1, allO_snoc f l a cs b h3 h2]
        rfl
theorem allO_bad {α β : Type} (f : α → Option β) : ∀ (l : List α) (a : α) (r : List α), f a = none → allO f (l ++ a :: r) = none
  | [], a, r, h => by rw [List.nil_append, allO, h]
  | c :: l, a, r, h => by
    rw [List.cons_append, allO, allO_bad f l a r h]
    cases f c <;> rfl
theorem allO_len {α β : Type} (f : α → Option β) : ∀ (l : List α) (bs : List β), allO f l = some bs → bs.length = l.length
  | [], bs, h => by cases h; rfl
  | a :: l, bs, h => by
    rw [allO] at h
    split at h
    · cases h
    · split at h
      · cases h
      · next cs h2 =>
        cases h
        rw [List.length_cons, List.length_cons, allO_len f l cs h2]
/-! An instruction's line. -/
def opOf (w : List UInt8) : Option Nat := fmT.findIdx? (fun f => f.word.data.toList == w)
def bodyI (op : Nat) (r : List (List UInt8)) : Option Ins :=
  if (fmAt op).nums < 0 then (allO pairP r).map (fun t => ⟨op, 0, 0, t⟩)
  else if (r.length : Int) = (fmAt op).nums then (allO numP r).map (fun n => ⟨op, n.getD 0 0, n.getD 1 0, []⟩) else none
def lineI (w : List UInt8) (r : List (List UInt8)) : Option Ins :=
  match opOf w with
  | none => none
  | some op => match bodyI op r with
    | none => none
    | some x => if RightI x = true then some x else none
def parseI (l : List UInt8) : Option Ins := match spl l with
  | [] => none
  | w :: r => lineI w r
theorem opOf_fin : ∀ i : Fin 17, opOf (fmAt i.val).word.data.toList = some i.val := by decide +kernel
theorem word_fin : ∀ i : Fin 17, (32 : UInt8) ∉ (fmAt i.val).word.data.toList ∧ (10 : UInt8) ∉ (fmAt i.val).word.data.toList ∧ ¬ (fmAt i.val).word.data.toList = [103, 108, 111, 98, 97, 108] ∧ ¬ (fmAt i.val).word.data.toList = [] := by decide +kernel
theorem opOf_some {w : List UInt8} {op : Nat} (h : opOf w = some op) : op < 17 ∧ (fmAt op).word.data.toList = w := by
  unfold opOf at h
  obtain ⟨h1, h2, _⟩ := List.findIdx?_eq_some_iff_getElem.1 h
  refine ⟨h1, ?_⟩
  have h3 := beq_iff_eq.1 h2
  unfold fmAt
  rw [List.getD_eq_getElem?_getD, List.getElem?_eq_getElem h1]
  exact h3
/-- What a right instruction holds. -/
theorem right_parts {x : Ins} (h : RightI x = true) : (0 ≤ x.op ∧ x.op < 17) ∧ ((fmAt x.op.toNat).nums < 2 → x.b = 0) ∧ ((fmAt x.op.toNat).nums < 1 → x.a = 0) ∧ ((fmAt x.op.toNat).nums ≥ 0 → x.tb = []) := by
  unfold RightI at h
  split at h
  · next h0 =>
    simp only [Bool.and_eq_true, Bool.not_eq_true', Bool.or_eq_false_iff, Bool.and_eq_false_iff, decide_eq_false_iff_not, bne_eq_false_iff_eq] at h
    obtain ⟨⟨⟨h1, h2⟩, h3⟩, _⟩ := h
    refine ⟨h0, fun hn => ?_, fun hn => ?_, fun hn => ?_⟩
    · rcases h1 with h1 | h1
      · exact absurd hn h1
      · exact h1
    · rcases h2 with h2 | h2
      · exact absurd hn h2
      · exact h2
    · rcases h3 with h3 | h3
      · exact absurd hn h3
      · exact List.length_eq_zero_iff.1 (by omega)
  · cases h
def wordsL (x : Ins) : List (List UInt8) := (numsI x).map Lib.itoa ++ x.tb.map pairL
theorem words_data (x : Ins) : (wordsI x).map (·.data.toList) = (fmAt x.op.toNat).word.data.toList :: wordsL x := by
  unfold wordsI wordsL
  rw [List.map_cons, List.map_append, List.map_map, List.map_map]
  congr 2
  refine List.map_congr_left (fun p _ => ?_)
  exact pairT_data p
theorem words_no {c : UInt8} (h : c = 32 ∨ c = 10) (x : Ins) : ∀ l ∈ wordsL x, c ∉ l := by
  intro l hl
  unfold wordsL at hl
  rcases List.mem_append.1 hl with hl | hl
  · obtain ⟨n, _, rfl⟩ := List.mem_map.1 hl
    exact no_byte (by rcases h with h | h; exact .inl h; exact .inr (.inr (.inl h))) n
  · obtain ⟨p, _, rfl⟩ := List.mem_map.1 hl
    exact pair_no h p
theorem fin_of {x : Ins} (h : 0 ≤ x.op ∧ x.op < 17) : ∃ i : Fin 17, x.op.toNat = i.val := ⟨⟨x.op.toNat, by omega⟩, rfl⟩
theorem word_no {c : UInt8} (h : c = 32 ∨ c = 10) {x : Ins} (h0 : 0 ≤ x.op ∧ x.op < 17) : c ∉ (fmAt x.op.toNat).word.data.toList := by
  obtain ⟨i, hi⟩ := fin_of h0
  rw [hi]
  rcases h with rfl | rfl
  · exact (word_fin i).1
  · exact (word_fin i).2.1
theorem show_eq {x : Ins} (h : RightI x = true) : showI x = Lib.join ((fmAt x.op.toNat).word.data.toList :: wordsL x) [32] := by
  unfold showI
  rw [if_pos h, words_data]
theorem spl_show {x : Ins} (h : RightI x = true) : spl (showI x) = (fmAt x.op.toNat).word.data.toList :: wordsL x := by
  rw [show_eq h]
  refine spl_join _ _ (fun l hl => ?_)
  rcases List.mem_cons.1 hl with rfl | hl
  · exact word_no (.inl rfl) (right_parts h).1
  · exact words_no (.inl rfl) x l hl
theorem parse_show {x : Ins} (h : RightI x = true) (hx : InsOK x) : parseI (showI x) = some x := by
  unfold parseI
  rw [spl_show h]
  obtain ⟨h0, hb, ha, ht⟩ := right_parts h
  simp only
  obtain ⟨i, hi⟩ := fin_of h0
  unfold lineI
  have hop : x.op = (x.op.toNat : Int) := by omega
  have h1 : opOf (fmAt x.op.toNat).word.data.toList = some x.op.toNat := by rw [hi]; exact opOf_fin i
  rw [h1]
  simp only
  have h2 : bodyI x.op.toNat (wordsL x) = some x := by
    unfold bodyI wordsL numsI
    have hn := nums_fin i
    rw [← hi] at hn
    obtain ⟨op, a, b, tb⟩ := x
    simp only at *
    rcases hn with hn | hn | hn | hn
    · rw [hn] at ha hb ht ⊢
      rw [if_pos (by decide), show (max (-1) 0 : Int).toNat = 0 from rfl, List.take_zero, List.map_nil, List.nil_append, allO_map pairP pairL tb (fun p hp => pairP_pair p (hx.tb p hp).1 (hx.tb p hp).2)]
      simp only [Option.map_some, Option.some.injEq]
      rw [ha (by decide), hb (by decide), ← hop]
    · rw [hn] at ha hb ht ⊢
      rw [ht (by decide), ha (by decide), hb (by decide), if_neg (by decide), show (max 0 0 : Int).toNat = 0 from rfl, List.take_zero, if_pos (by rfl)]
      simp only [List.map_nil, List.append_nil, allO, Option.map_some, ← hop]
      rfl
    · rw [hn] at ha hb ht ⊢
      rw [ht (by decide), hb (by decide), if_neg (by decide), show (max 1 0 : Int).toNat = 1 from rfl, if_pos (by rfl)]
      simp only [List.take_succ_cons, List.take_zero, List.map_cons, List.map_nil, List.append_nil, allO, numP_itoa a hx.a, Option.map_some, ← hop]
      rfl
    · rw [hn] at ha hb ht ⊢
      rw [ht (by decide), if_neg (by decide), show (max 2 0 : Int).toNat = 2 from rfl, if_pos (by rfl)]
      simp only [List.take_succ_cons, List.take_zero, List.map_cons, List.map_nil, List.append_nil, allO, numP_itoa a hx.a, numP_itoa b hx.b, Option.map_some, ← hop]
      rfl
  rw [h2]
  simp only [h, if_true]
theorem i64_zero : i64 0 := by unfold i64; decide
theorem parse_some {l : List UInt8} {x : Ins} (h : parseI l = some x) : RightI x = true ∧ InsOK x ∧ showI x = l := by
  have hj := join_spl l
  unfold parseI at h
  split at h
  · cases h
  · next w r hw =>
    rw [hw] at hj
    unfold lineI at h
    split at h
    · cases h
    · next op hop =>
      split at h
      · cases h
      · next y hy =>
        split at h
        · next hR =>
          cases h
          obtain ⟨h17, hword⟩ := opOf_some hop
          have hn := nums_fin ⟨op, h17⟩
          simp only at hn
          have fin : x.op.toNat = op → wordsL x = r → InsOK x → RightI x = true ∧ InsOK x ∧ showI x = l := fun e1 e2 e3 => ⟨hR, e3, by rw [show_eq hR, e1, hword, e2, hj]⟩
          unfold bodyI at hy
          split at hy
          · next hneg =>
            obtain ⟨tb, ht, rfl⟩ := Option.map_eq_some_iff.1 hy
            obtain ⟨e, hp⟩ := allO_some pairP pairL (fun p => i64 p.1 ∧ i64 p.2) (fun a b hab => pairP_some hab) r tb ht
            refine fin (by simp) ?_ ⟨i64_zero, i64_zero, hp⟩
            unfold wordsL numsI
            rw [e]
            simp only [Int.toNat_natCast]
            rcases hn with hn | hn | hn | hn
            · rw [hn, show (max (-1) 0 : Int).toNat = 0 from rfl]; rfl
            all_goals omega
          · next hneg =>
            split at hy
            · next hlen =>
              obtain ⟨ns, hs, rfl⟩ := Option.map_eq_some_iff.1 hy
              obtain ⟨e, hp⟩ := allO_some numP Lib.itoa i64 (fun a b hab => ⟨(numP_some hab).1.symm, (numP_some hab).2⟩) r ns hs
              have hl := allO_len numP r ns hs
              have hw2 : ∀ a b : Int, wordsL ⟨(op : Int), a, b, []⟩ = ([a, b].take (max (fmAt op).nums 0).toNat).map Lib.itoa := fun a b => by
                unfold wordsL numsI
                simp
              rcases hn with hn | hn | hn | hn
              · omega
              · rw [hn] at hlen
                match ns, hl with
                | [], _ =>
                  refine fin (by simp) ?_ ⟨i64_zero, i64_zero, fun p hp => by cases hp⟩
                  rw [hw2, hn, e]; rfl
                | _ :: _, hl => simp at hl; omega
              · rw [hn] at hlen
                match ns, hl, e, hp with
                | [a], _, e, hp =>
                  refine fin (by simp) ?_ ⟨hp a (by simp), i64_zero, fun p hp => by cases hp⟩
                  rw [hw2, hn, e]; rfl
                | [], hl, _, _ => simp at hl; omega
                | _ :: _ :: _, hl, _, _ => simp at hl; omega
              · rw [hn] at hlen
                match ns, hl, e, hp with
                | [a, b], _, e, hp =>
                  refine fin (by simp) ?_ ⟨hp a (by simp), hp b (by simp), fun p hp => by cases hp⟩
                  rw [hw2, hn, e]; rfl
                | [], hl, _, _ => simp at hl; omega
                | [_], hl, _, _ => simp at hl; omega
                | _ :: _ :: _ :: _, hl, _, _ => simp at hl; omega
            · cases hy
        · cases h
/-! A global's line. -/
def globM (l : List (List UInt8)) : Option S52 := match l with
  | [a, b, c, d] => if a = [103, 108, 111, 98, 97, 108] then (match numP b with
    | none => none
    | some x => (match numP c with
      | none => none
      | some y => if globB ⟨d.toArray⟩ x y = true then some ⟨⟨d.toArray⟩, x, y⟩ else none)) else none
  | _ => none
theorem globM_data (l : List ByteArray) : globP4 l = globM (l.map (·.data.toList)) := by
  unfold globP4 globM
  match l with
  | [a, b, c, d] => rfl
  | [] => rfl
  | [_] => rfl
  | [_, _] => rfl
  | [_, _, _] => rfl
  | _ :: _ :: _ :: _ :: _ :: _ => rfl
theorem globP_eq (s : ByteArray) : globP s = globM (Lib.splitK [32] 0 (min 4 (s.size + 1) - 1) s.data.toList) := by
  unfold globP
  rw [globM_data, split4_data]
theorem joinG_eq (g : S52) : joinG g = [103, 108, 111, 98, 97, 108] ++ 32 :: (Lib.itoa g.f1 ++ 32 :: (Lib.itoa g.f2 ++ 32 :: g.f0.data.toList)) := by
  unfold joinG wordsG
  simp only [List.map_cons, List.map_nil]
  rw [join_two, join_two, join_two, Lib.join_one]
  rfl
theorem glob_no : (32 : UInt8) ∉ ([103, 108, 111, 98, 97, 108] : List UInt8) := by decide
theorem mk_toArray (s : ByteArray) : (⟨s.data.toList.toArray⟩ : ByteArray) = s := by cases s; simp
theorem globP_join {g : S52} (h : globB g.f0 g.f1 g.f2 = true) (s : ByteArray) (hs : s.data.toList = joinG g) : globP s = some g := by
  have hsz : 3 ≤ s.size := by
    rw [sizeL, hs, joinG_eq]
    simp only [List.length_append, List.length_cons]
    omega
  obtain ⟨hr1, hr2⟩ := globB_range h
  rw [globP_eq, hs, show min 4 (s.size + 1) - 1 = 3 by omega, joinG_eq, splitK_hit _ _ _ glob_no, splitK_hit _ _ _ (no_byte (.inl rfl) _), splitK_hit _ _ _ (no_byte (.inl rfl) _), Lib.splitK]
  unfold globM
  simp only [if_true]
  rw [numP_itoa _ (by unfold i64; omega), numP_itoa _ (by unfold i64; omega)]
  simp only [mk_toArray, h, if_true]
theorem globP_some {s : ByteArray} {g : S52} (h : globP s = some g) : s.data.toList = joinG g ∧ globB g.f0 g.f1 g.f2 = true := by
  rw [globP_eq] at h
  have hj := splitK_join (min 4 (s.size + 1) - 1) s.data.toList
  generalize Lib.splitK [32] 0 (min 4 (s.size + 1) - 1) s.data.toList = L at h hj
  unfold globM at h
  split at h
  · next a b c d =>
    split at h
    · next e =>
      subst e
      split at h
      · cases h
      · next x hx =>
        split at h
        · cases h
        · next y hy =>
          split at h
          · next hb =>
            cases h
            obtain ⟨rfl, _⟩ := numP_some hx
            obtain ⟨rfl, _⟩ := numP_some hy
            refine ⟨?_, hb⟩
            rw [← hj, joinG_eq, join_two, join_two, join_two, Lib.join_one]
          · cases h
    · cases h
  · cases h
theorem globP_show {x : Ins} (h : RightI x = true) (s : ByteArray) (hs : s.data.toList = showI x) : globP s = none := by
  cases hg : globP s with
  | none => rfl
  | some g =>
    have h1 := (globP_some hg).1
    rw [hs] at h1
    have h2 := spl_show h
    rw [h1, joinG_eq, spl_hit _ _ glob_no] at h2
    obtain ⟨i, hi⟩ := fin_of (right_parts h).1
    have h3 := (word_fin i).2.2.1
    rw [← hi] at h3
    exact absurd (List.cons.inj h2).1.symm h3
/-! Lines. -/
def lns : List UInt8 → List (List UInt8)
  | [] => []
  | c :: t => if c = 10 then [10] :: lns t else match lns t with | [] => [[c]] | h :: r => (c :: h) :: r
theorem lns_miss : ∀ l : List UInt8, (10 : UInt8) ∉ l → l ≠ [] → lns l = [l]
  | [], _, h => absurd rfl h
  | [c], h, _ => by
    have hc : ¬ c = 10 := fun e => h (by simp [e])
    simp [lns, hc]
  | c :: d :: t, h, _ => by
    have hc : ¬ c = 10 := fun e => h (e ▸ List.mem_cons_self)
    rw [lns, if_neg hc, lns_miss (d :: t) (fun m => h (List.mem_cons_of_mem _ m)) (by simp)]
theorem lns_hit : ∀ p q : List UInt8, (10 : UInt8) ∉ p → lns (p ++ 10 :: q) = (p ++ [10]) :: lns q
  | [], q, _ => by rw [List.nil_append, lns, if_pos rfl]; rfl
  | c :: t, q, h => by
    have hc : ¬ c = 10 := fun e => h (e ▸ List.mem_cons_self)
    rw [List.cons_append, lns, if_neg hc, lns_hit t q (fun m => h (List.mem_cons_of_mem _ m))]
    rfl
theorem lns_flat : ∀ l : List UInt8, (lns l).flatten = l
  | [] => rfl
  | c :: t => by
    have ih := lns_flat t
    rw [lns]
    split
    · next e => rw [List.flatten_cons, ih, e]; rfl
    · split
      · next e => rw [e] at ih; rw [← ih]; rfl
      · next h r e => rw [e] at ih; rw [List.flatten_cons, List.cons_append, ← List.flatten_cons, ih]
/-! Code. -/
def endB (t : List UInt8) : Bool := t.getLast? == some 10
def parseGo : List (List UInt8) → Nat → List S52 → List Ins → Option (List S52 × List Ins) × Nat
  | [], n, gs, xs => (some (gs, xs), 0)
  | t :: r, n, gs, xs =>
    if endB t = true then
      (match (if xs.length = 0 ∧ gs.length < 65536 then globP ⟨t.dropLast.toArray⟩ else none) with
      | some g => parseGo r (n + 1) (gs ++ [g]) xs
      | none => (match parseI t.dropLast with
        | none => (none, n + 1)
        | some x => if 65536 ≤ xs.length then (none, n + 1) else parseGo r (n + 1) gs (xs ++ [x])))
    else (none, n + 1)
def parseC (l : List UInt8) : Option (List S52 × List Ins) × Nat := parseGo (lns l) 0 [] []
theorem end_snoc (l : List UInt8) : endB (l ++ [10]) = true := by unfold endB; simp
theorem drop_snoc (l : List UInt8) : (l ++ [10]).dropLast = l := by simp
theorem code_lines : ∀ (gs : List S52) (xs : List Ins), (∀ g ∈ gs, (10 : UInt8) ∉ joinG g) → (∀ x ∈ xs, (10 : UInt8) ∉ showI x) → lns (codeL gs xs) = gs.map globL ++ xs.map lineL
  | [], [], _, _ => rfl
  | [], x :: xs, hg, hx => by
    have ih := code_lines [] xs hg (fun y hy => hx y (List.mem_cons_of_mem _ hy))
    unfold codeL at ih ⊢
    rw [List.flatMap_nil, List.nil_append] at ih ⊢
    rw [List.flatMap_cons, lineL, List.append_assoc, List.singleton_append, lns_hit _ _ (hx x (by simp)), ih]
    rfl
  | g :: gs, xs, hg, hx => by
    have ih := code_lines gs xs (fun y hy => hg y (List.mem_cons_of_mem _ hy)) hx
    unfold codeL at ih ⊢
    rw [List.flatMap_cons, globL, List.append_assoc, List.append_assoc, List.singleton_append, lns_hit _ _ (hg g (by simp)), ih]
    rfl
theorem go_ins : ∀ (xs : List Ins) (n : Nat) (gs : List S52) (ys : List Ins), (∀ x ∈ xs, RightI x = true ∧ InsOK x) → ys.length + xs.length ≤ 65536 → parseGo (xs.map lineL) n gs ys = (some (gs, ys ++ xs), 0)
  | [], n, gs, ys, _, _ => by rw [List.append_nil]; rfl
  | x :: xs, n, gs, ys, h, hl => by
    obtain ⟨h1, h2⟩ := h x (by simp)
    simp only [List.length_cons] at hl
    rw [List.map_cons, parseGo, lineL, end_snoc, if_pos rfl, drop_snoc]
    have hg : (if ys.length = 0 ∧ gs.length < 65536 then globP ⟨(showI x).toArray⟩ else none) = none := by
      split
      · exact globP_show h1 _ rfl
      · rfl
    rw [hg, parse_show h1 h2]
    simp only
    rw [if_neg (by omega), go_ins xs (n + 1) gs (ys ++ [x]) (fun y hy => h y (List.mem_cons_of_mem _ hy)) (by simp; omega), List.append_assoc]
    rfl
theorem go_code : ∀ (gs : List S52) (n : Nat) (hs : List S52) (xs : List Ins), (∀ g ∈ gs, globB g.f0 g.f1 g.f2 = true) → (∀ x ∈ xs, RightI x = true ∧ InsOK x) → hs.length + gs.length ≤ 65536 → xs.length ≤ 65536 → parseGo (gs.map globL ++ xs.map lineL) n hs [] = (some (hs ++ gs, xs), 0)
  | [], n, hs, xs, _, hx, _, hl => by
    rw [List.map_nil, List.nil_append, List.append_nil, go_ins xs n hs [] hx (by simpa using hl)]
    rfl
  | g :: gs, n, hs, xs, hg, hx, h1, h2 => by
    simp only [List.length_cons] at h1
    rw [List.map_cons, List.cons_append, parseGo, globL, end_snoc, if_pos rfl, drop_snoc, if_pos ⟨rfl, by omega⟩, globP_join (hg g (by simp)) _ rfl]
    simp only
    rw [go_code gs (n + 1) (hs ++ [g]) xs (fun y hy => hg y (List.mem_cons_of_mem _ hy)) hx (by simp; omega) h2, List.append_assoc]
    rfl
theorem show_no {x : Ins} (h : RightI x = true) : (10 : UInt8) ∉ showI x := by
  have hj : ∀ (r : List (List UInt8)) (w : List UInt8), (∀ l ∈ w :: r, (10 : UInt8) ∉ l) → (10 : UInt8) ∉ Lib.join (w :: r) [32] := by
    intro r
    induction r with
    | nil => intro w hw; rw [Lib.join_one]; exact hw w (by simp)
    | cons y r ih =>
      intro w hw hm
      rw [join_two] at hm
      rcases List.mem_append.1 hm with hm | hm
      · exact hw w (by simp) hm
      · rcases List.mem_cons.1 hm with hm | hm
        · cases hm
        · exact ih y (fun l hl => hw l (List.mem_cons_of_mem _ hl)) hm
  rw [show_eq h]
  refine hj _ _ (fun l hl => ?_)
  rcases List.mem_cons.1 hl with rfl | hl
  · exact word_no (.inr rfl) (right_parts h).1
  · exact words_no (.inr rfl) x l hl
theorem byte_none {l : List UInt8} {c : UInt8} (h : Lib.indexByte l c < 0) : c ∉ l := by
  intro hm
  obtain ⟨k, hk, he⟩ := List.getElem_of_mem hm
  have := Lib.indexByte_ge l c
  exact Lib.indexByte_none (l := l) (c := c) (by omega) k (by rw [List.getElem?_eq_getElem hk, he])
theorem glob_line {g : S52} (h : globB g.f0 g.f1 g.f2 = true) : (10 : UInt8) ∉ joinG g := by
  have hn : (10 : UInt8) ∉ g.f0.data.toList := by
    unfold globB at h
    simp only [Bool.and_eq_true, Bool.not_eq_true', decide_eq_false_iff_not] at h
    exact byte_none (by have := h.2.2.2; omega)
  rw [joinG_eq]
  have hd : (10 : UInt8) ∉ ([103, 108, 111, 98, 97, 108] : List UInt8) := by decide
  have h32 : ¬ (10 : UInt8) = 32 := by decide
  simp only [List.mem_append, List.mem_cons, not_or]
  refine ⟨by simp, h32, no_byte (.inr (.inr (.inl rfl))) _, h32, no_byte (.inr (.inr (.inl rfl))) _, h32, hn⟩
/-- What is printed is parsed as it was. -/
theorem parse_print {gs : List S52} {xs : List Ins} (hx : ∀ x ∈ xs, InsOK x) (h : printI gs xs ≠ []) : parseC (printI gs xs) = (some (gs, xs), 0) := by
  unfold printI at h ⊢
  split at h
  · exact absurd rfl h
  · next hb =>
    rw [if_neg hb]
    simp only [not_or, badG, badI, List.any_eq_true, not_exists, not_and, Bool.not_eq_true', Bool.not_eq_false] at hb
    obtain ⟨h1, h2, h3⟩ := hb
    have hm := Nat.le_max_left gs.length xs.length
    have hm2 := Nat.le_max_right gs.length xs.length
    unfold parseC
    rw [code_lines gs xs (fun g hg => glob_line (h1 g hg)) (fun x hx => show_no (h2 x hx)), go_code gs 0 [] xs h1 (fun x hm => ⟨h2 x hm, hx x hm⟩) (by simp; omega) (by omega)]
    rfl
theorem last_snoc {t : List UInt8} (h : endB t = true) : t = t.dropLast ++ [10] := by
  unfold endB at h
  have h1 := beq_iff_eq.1 h
  obtain ⟨l, rfl⟩ := List.getLast?_eq_some_iff.1 h1
  simp
/-- What is parsed is the text of what it is parsed as. -/
theorem go_some : ∀ (T : List (List UInt8)) (n : Nat) (gs : List S52) (xs : List Ins) (gs' : List S52) (xs' : List Ins) (m : Nat),
    (∀ g ∈ gs, globB g.f0 g.f1 g.f2 = true) → (∀ x ∈ xs, RightI x = true ∧ InsOK x) → gs.length ≤ 65536 → xs.length ≤ 65536 → parseGo T n gs xs = (some (gs', xs'), m) →
    codeL gs' xs' = codeL gs xs ++ T.flatten ∧ (∀ g ∈ gs', globB g.f0 g.f1 g.f2 = true) ∧ (∀ x ∈ xs', RightI x = true ∧ InsOK x) ∧ gs'.length ≤ 65536 ∧ xs'.length ≤ 65536 ∧ m = 0
  | [], n, gs, xs, gs', xs', m, hg, hx, h1, h2, h => by
    rw [parseGo] at h
    cases h
    exact ⟨by simp, hg, hx, h1, h2, rfl⟩
  | t :: T, n, gs, xs, gs', xs', m, hg, hx, h1, h2, h => by
    rw [parseGo] at h
    split at h
    · next he =>
      have ht := last_snoc he
      split at h
      · next g hgo =>
        split at hgo
        · next hc =>
          obtain ⟨e1, e2⟩ := globP_some hgo
          have hxs : xs = [] := List.length_eq_zero_iff.1 hc.1
          subst hxs
          obtain ⟨r1, r2⟩ := go_some T (n + 1) (gs ++ [g]) [] gs' xs' m (fun y hy => by rcases List.mem_append.1 hy with hy | hy; exact hg y hy; rw [List.mem_singleton] at hy; rw [hy]; exact e2) hx (by simp; omega) h2 h
          refine ⟨?_, r2⟩
          rw [r1, List.flatten_cons, ht]
          unfold codeL
          simp only at e1
          simp only [List.flatMap_append, List.flatMap_cons, List.flatMap_nil, List.append_nil, globL, List.append_assoc]
          rw [← e1]
        · cases hgo
      · next hgo =>
        split at h
        · cases h
        · next x hxp =>
          obtain ⟨e1, e2, e3⟩ := parse_some hxp
          split at h
          · cases h
          · next hle =>
            obtain ⟨r1, r2⟩ := go_some T (n + 1) gs (xs ++ [x]) gs' xs' m hg (fun y hy => by rcases List.mem_append.1 hy with hy | hy; exact hx y hy; rw [List.mem_singleton] at hy; rw [hy]; exact ⟨e1, e2⟩) h1 (by simp; omega) h
            refine ⟨?_, r2⟩
            rw [r1, List.flatten_cons, ht]
            unfold codeL
            simp only [List.flatMap_append, List.flatMap_cons, List.flatMap_nil, List.append_nil, lineL, List.append_assoc]
            rw [e3]
    · cases h
theorem print_parse {l : List UInt8} {gs : List S52} {xs : List Ins} {m : Nat} (h : parseC l = (some (gs, xs), m)) : printI gs xs = l ∧ (∀ x ∈ xs, InsOK x) ∧ codeL gs xs = l ∧ m = 0 := by
  unfold parseC at h
  obtain ⟨r1, r2, r3, r4, r5, r6⟩ := go_some _ 0 [] [] gs xs m (fun g hg => by cases hg) (fun x hx => by cases hx) (by simp) (by simp) h
  rw [lns_flat] at r1
  have hc : codeL gs xs = l := by rw [r1]; rfl
  refine ⟨?_, fun x hx => (r3 x hx).2, hc, r6⟩
  unfold printI
  rw [if_neg, hc]
  simp only [not_or, badG, badI, List.any_eq_true, not_exists, not_and, Bool.not_eq_true', Bool.not_eq_false]
  exact ⟨r2, fun x hx => (r3 x hx).1, by omega⟩
theorem go_bad : ∀ (T : List (List UInt8)) (n : Nat) (gs : List S52) (xs : List Ins) (m : Nat), parseGo T n gs xs = (none, m) → 0 < m ∧ m ≤ n + T.length
  | [], n, gs, xs, m, h => by rw [parseGo] at h; cases h
  | t :: T, n, gs, xs, m, h => by
    rw [parseGo] at h
    split at h
    · split at h
      · have := go_bad T (n + 1) _ _ m h
        simp only [List.length_cons]; omega
      · split at h
        · cases h; simp only [List.length_cons]; omega
        · split at h
          · cases h; simp only [List.length_cons]; omega
          · have := go_bad T (n + 1) _ _ m h
            simp only [List.length_cons]; omega
    · cases h; simp only [List.length_cons]; omega
end Go.Proofs.YtcmhibcoccdmaaaGreatDoor.P
