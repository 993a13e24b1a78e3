/- glyph.Unquote at a text that is a quoted one: in the form that the print calls its functions by. -/
import Derived.Test.YthdggiccibnneaaExtB
import Derived.Test.YthdggiccibnneaaPx4
import Derived.Test.YthdggiccibnneaaPx5
namespace Go.Proofs.Ythdggiccibnneaa.P
open Go.RowKit Go.Proofs.YthdggiccibnneaaW.PrintWords

/-- What the loop of Unquote collects; none: it ends otherwise. -/
def unq (t : ByteArray) : Nat → Int → List Int → Option (List Int)
  | 0, _, _ => none
  | k + 1, i, acc => if i < t.size then (if (unesc t i).2.2 = true ∧ bt t i ≠ 34 ∧ 0 ≤ i ∧ acc.length < 1099511627777 then unq t k (unesc t i).2.1 (acc ++ [(unesc t i).1]) else none) else some acc
def glyph_Unquote.f (a0 : ByteArray) : Option (ByteArray × Bool) :=
  if a0.size ≤ 1099511627776 then
    match strings_CutPrefix.f a0 ⟨#[34]⟩ with
    | some (t, true) => if strings_HasSuffix.f t ⟨#[34]⟩ = some true ∧ 1 ≤ t.size ∧ t.size ≤ 1099511627776 then (unq (t.extract 0 (t.size - 1)) (t.size + 1) 0 []).map fun r => (strOfNums r, true) else none
    | _ => none
  else none
theorem infoB : (Try.prog.info? 5).map (fun i => (i.zero, i.size, i.bytes)) = some (some (.int .u8 0), 1, 1) := by kernel_rfl
theorem conv_row (W : World) (B : Nat) (v : Value) (xs : List Int) (h : W.ownsRow B 5 1 v xs.length (xs.map (Value.int .u8))) :
    (convert 43 9 v).run Try.prog W = .ok (.string (strOfNums xs)) W := by
  rcases h.2 with ⟨rfl, h0⟩ | ⟨g, cap, cur, rfl, _⟩
  · obtain rfl : xs = [] := List.length_eq_zero_iff.1 h0
    exact run_convert_bytes_nil W 43 5 Try.underlying43 Try.underlying5 0 0 9 Try.underlying9
  · refine run_convert_bytes_arg W 43 5 Try.underlying43 Try.underlying5 g 0 _ cap xs rfl (fun i hi => ?_) 9 Try.underlying9
    have := h.cells (g := g) rfl i (.int .u8 (xs.getD i 0)) (by rw [List.getElem?_map, List.getElem?_eq_getElem hi, List.getD_eq_getElem?_getD, List.getElem?_eq_getElem hi]; rfl)
    cases i <;> simpa [Addr.add] using this

set_option maxHeartbeats 2000000 in
set_option maxRecDepth 100000 in
theorem unquote_walk (s t : ByteArray) (r : List Int) (w : World) (_hs : s.size ≤ 1099511627776) (h1 : strings_CutPrefix.f s ⟨#[34]⟩ = some (t, true)) (h2 : strings_HasSuffix.f t ⟨#[34]⟩ = some true) (ht : 1 ≤ t.size) (ht2 : t.size ≤ 1099511627776)
    (h : unq (t.extract 0 (t.size - 1)) (t.size + 1) 0 [] = some r) :
    Calls Try.prog 18 #[.string s] w fun e w' => e = .returned (.tuple #[.string (strOfNums r), .bool true]) ∧ Below w.heap.size w w' := by
  obtain ⟨i0, hi, hz0, hz1, hz2⟩ := info_parts infoB
  have H := Lib.hid h
  have H1 := Lib.hid h1
  have H2 := Lib.hid h2
  clear h h1 h2
  go_enter Try.func18, Try.ntmps18
  go_wp2_with fail
  refine (strings_CutPrefix.calls s ⟨#[34]⟩ t true _ H1.out).mono ?_
  rintro e w1 ⟨rfl, ⟨n1, rfl⟩⟩
  go_wp2_with fail
  refine (strings_HasSuffix.calls t ⟨#[34]⟩ true _ H2.out).mono ?_
  rintro e w2 ⟨rfl, ⟨n2, rfl⟩⟩
  go_wp2_with fail
  have hsz : (t.extract 0 (t.size - 1)).size = t.size - 1 := by simp [ByteArray.size_extract]
  generalize t.extract 0 (t.size - 1) = x at H hsz ⊢
  have hxs : x.size ≤ 1099511627776 := by omega
  clear hsz
  go_loopg [6, 7] (t.size + 1) (fun kq v6 v7 w' => ∃ (acc : List Int) (i : Int), v7 = .int .i64 i ∧ Hid (unq x kq i acc = some r) ∧ w'.ownsRow w.heap.size 5 1 v6 acc.length (acc.map (Value.int .u8)) ∧ Below w.heap.size w w')
  case atStart => exact ⟨[], 0, rfl, H, World.ownsRow_nil _ _ _ _, Drawn0.below ⟨_, rfl⟩⟩
  case round =>
    obtain ⟨acc, i, rfl, HA, hown, hb⟩ := hrel
    cases gk with
    | zero => exact absurd HA.out (by simp [unq])
    | succ k1 =>
      have h := HA.out
      clear HA
      rw [unq] at h
      by_cases c1 : i < x.size
      · rw [if_pos c1] at h
        split at h
        next c2 =>
          obtain ⟨c2, c3, c4, c5⟩ := c2
          have HA := Lib.hid h
          clear h
          have hun : glyph_Unescape.f x i = some ((unesc x i).1, (unesc x i).2.1, true) := by
            unfold glyph_Unescape.f
            rw [if_pos (by omega), ← c2]
          clear c2
          generalize (unesc x i).1 = c at *
          generalize (unesc x i).2.1 = n at *
          have HU := Lib.hid hun
          clear hun
          have c6 : (bt x i == 34) = false := beq_eq_false_iff_ne.2 c3
          have hbt := bt_at x i
          clear c3
          go_wp2_with fail
          refine (glyph_Unescape.calls x i c n true _ HU.out).mono ?_
          rintro e w2 ⟨rfl, hb2⟩
          have hown2 := hown.kept (row := none) ⟨hb2.os, hb2.tape, hb2.output, hb2.size, fun k hk _ => hb2.block k hk⟩ (Decidable.em _)
          go_wp2_with (at_builtin; refine wpList_append_own _ rfl _ _ 43 rfl w.heap.size 5 i0 (.int .u8 0) 1 1 Try.underlying43 hi hz0 hz1 hz2 rfl (by decide) _ _ _ rfl (hown2.alloc _) ⟨w2.heap.size, 0, none⟩ 1 1 [.int .u8 c] rfl rfl ?c1 ?c2 ?c3 ?c4 ?c5 ?_)
          case c1 =>
            intro j u hj
            match j, hj with
            | 0, hj => simp at hj; subst hj; simp [Addr.add]
          case c2 => intro u hu; simp at hu; subst hu; rfl
          case c3 => unfold maxLen; omega
          case c4 => omega
          case c5 => have := hb.size; have := hb2.size; simp; omega
          intro v' w3 hown' hgrow _
          have hb3 : Below w.heap.size w w3 := ((hb.trans (hb2.mono hb.size)).alloc (by have := hb.size; have := hb2.size; omega) _).grown hgrow (by have := hb.size; have := hb2.size; simp; omega) (fun k hk => (hown2.lt k hk).1)
          go_wp2
          go_roundg k1
          case measure => omega
          case rel => exact ⟨acc ++ [c], n, rfl, HA, by simpa using hown', hb3⟩
        next => cases h
      · rw [if_neg c1] at h
        obtain rfl := Option.some.inj h
        have hcv := conv_row wr _ _ _ hown
        go_wp2
        go_ret2
        exact ⟨rfl, hb⟩
theorem glyph_Unquote.calls (a0 : ByteArray) (r1 : ByteArray) (r2 : Bool) (w : World) (h : glyph_Unquote.f a0 = some (r1, r2)) :
    Calls Try.prog 18 #[.string a0] w fun e w' => e = .returned (.tuple #[.string r1, .bool r2]) ∧ Below w.heap.size w w' := by
  unfold glyph_Unquote.f at h
  split at h
  next hs =>
    split at h
    next t ht =>
      split at h
      next hc =>
        obtain ⟨r, hr, he⟩ := Option.map_eq_some_iff.1 h
        simp only [Prod.mk.injEq] at he
        obtain ⟨rfl, rfl⟩ := he
        exact unquote_walk a0 t r w hs ht hc.1 hc.2.1 hc.2.2 hr
      next => cases h
    next => cases h
  next => cases h
end Go.Proofs.Ythdggiccibnneaa.P
