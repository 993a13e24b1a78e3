/- report.Where, in the form that the print calls its functions by. -/
import Derived.Test.YtfnidapliohdjaaDoorNum
namespace Go.Proofs.YtfnidapliohdjaaDoor.P
open Go.RowKit Go.Proofs.YtfnidapliohdjaaDoorW.PrintWords
theorem Only.b {g : Nat} {w w' : World} (h : Only g w w') : OnlyB g w w' := ⟨h.1, h.2.1, h.2.2.1, Nat.le_of_eq h.2.2.2.1.symm, fun j _ hj => h.2.2.2.2 j hj⟩
theorem OnlyB.gok {g : Nat} {w w' : World} (h : OnlyB g w w') (hg : 1 ≠ g ∧ 2 ≠ g) (hG : GOK w) : GOK w' := by
  have hl := hG.lt
  obtain ⟨⟨e2, h2, k2⟩, e3, h3, k3⟩ := hG
  exact ⟨⟨e2, (cell_same (h.block _ (by omega) hg.1)).trans h2, k2⟩, e3, (cell_same (h.block _ (by omega) hg.2)).trans h3, k3⟩
theorem cutS_size (s t : ByteArray) : (cutS s t).size ≤ s.size := by
  unfold cutS
  rw [size_eq, size_eq]
  show (Lib.trimPrefix s.data.toList t.data.toList).length ≤ _
  unfold Lib.trimPrefix
  split
  · rw [List.length_drop]; omega
  · exact Nat.le_refl _
theorem numRest_size (s : ByteArray) : (numRest s).size ≤ s.size := by unfold numRest; rw [ByteArray.size_extract]; omega
def tLine : ByteArray := ⟨#[108, 105, 110, 101, 32]⟩
def tCol : ByteArray := ⟨#[44, 32, 99, 111, 108, 117, 109, 110, 32]⟩
def tEnd : ByteArray := ⟨#[58, 32]⟩
def wh1 (s : ByteArray) : ByteArray := cutS s tLine
def wh2 (s : ByteArray) : ByteArray := numRest (wh1 s)
def wh3 (s : ByteArray) : ByteArray := cutS (wh2 s) tCol
def wh4 (s : ByteArray) : ByteArray := numRest (wh3 s)
def whOk (s : ByteArray) : Bool := cutB s tLine && numOk (wh1 s) && cutB (wh2 s) tCol && numOk (wh3 s) && cutB (wh4 s) tEnd
def whereL (s : ByteArray) : Int × Int × Bool := if whOk s = true then ((numO (wh1 s)).getD 0, (numO (wh3 s)).getD 0, true) else (0, 0, false)
set_option maxHeartbeats 4000000 in
set_option maxRecDepth 100000 in
theorem where_walk (s : ByteArray) (w : World) (hs : s.size ≤ 1099511627776) (hG : Hid (GOK w)) :
    Calls Tryd.prog 6 #[.string s] w fun e w' => e = .returned (.tuple #[.int .i64 (whereL s).1, .int .i64 (whereL s).2.1, .bool (whereL s).2.2]) ∧ Below w.heap.size w w' := by
  have z1 := cutS_size s tLine
  have z2 := numRest_size (wh1 s)
  have z3 := cutS_size (wh2 s) tCol
  have hl := hG.out.lt
  go_enter Tryd.func6, Tryd.ntmps6
  go_wp2_with fail
  have hR0 : Rest w.heap.size s true (w.alloc (.cells #[.string s, .bool true] 38)) := by
    unfold Rest World.alloc
    exact Array.getElem?_push_size
  have hB0 : Below w.heap.size w (w.alloc (.cells #[.string s, .bool true] 38)) := (Below.refl _ _).alloc (Nat.le_refl _) _
  have hG0 := Lib.hid (hG.out.below hB0)
  generalize w.alloc (.cells #[.string s, .bool true] 38) = w0 at hR0 hB0 hG0 ⊢
  refine (word_calls w.heap.size s true tLine w0 hR0).mono ?_
  rintro e w1 ⟨⟨v1, rfl⟩, hR1, hO1⟩
  have hG1 := Lib.hid (hO1.b.gok ⟨by omega, by omega⟩ hG0.out)
  go_wp2_with fail
  refine (number_calls w.heap.size (wh1 s) _ w1 hR1 (by show (cutS s tLine).size ≤ _; omega) hG1).mono ?_
  rintro e w2 ⟨n1, rfl, hn1, hR2, hO2⟩
  have hG2 := Lib.hid (hO2.gok ⟨by omega, by omega⟩ hG1.out)
  go_wp2_with fail
  refine (word_calls w.heap.size (wh2 s) _ tCol w2 hR2).mono ?_
  rintro e w3 ⟨⟨v3, rfl⟩, hR3, hO3⟩
  have hG3 := Lib.hid (hO3.b.gok ⟨by omega, by omega⟩ hG2.out)
  go_wp2_with fail
  refine (number_calls w.heap.size (wh3 s) _ w3 hR3 (by unfold wh3; unfold wh2 wh1 at *; omega) hG3).mono ?_
  rintro e w4 ⟨n2, rfl, hn2, hR4, hO4⟩
  go_wp2_with fail
  refine (word_calls w.heap.size (wh4 s) _ tEnd w4 hR4).mono ?_
  rintro e w5 ⟨⟨v5, rfl⟩, hR5, hO5⟩
  have hB : Hid (Below w.heap.size w w5) := Lib.hid (by
    have h := (((hO1.b.trans hO2).trans hO3.b).trans hO4).trans hO5.b
    exact hB0.trans ⟨h.os, h.tape, h.output, h.size, fun j hj => h.block j (by have := hB0.size; omega) (by omega)⟩)
  have c1 := Rest.c1 hR5
  have hb5 : (((((true && cutB s tLine) && numOk (wh1 s)) && cutB (wh2 s) tCol) && numOk (wh3 s)) && cutB (wh4 s) tEnd) = whOk s := by unfold whOk; rw [Bool.true_and]
  rw [hb5] at c1
  have hN1 := Lib.hid hn1
  have hN2 := Lib.hid hn2
  clear hR0 hB0 hR1 hO1 hR2 hO2 hR3 hO3 hR4 hO4 hR5 hO5 hb5 hn1 hn2
  cases hok : whOk s with
  | true =>
    rw [hok] at c1
    have HK := Lib.hid hok
    clear hok
    have hW : Hid (whereL s = (n1, n2, true)) := Lib.hid (by
      have h := HK.out
      unfold whOk at h
      simp only [Bool.and_eq_true] at h
      unfold whereL
      rw [if_pos HK.out, hN1.out h.1.1.1.2, hN2.out h.1.2]
      rfl)
    go_wp2_with fail
    go_ret3
    exact ⟨by rw [hW.out]; rfl, hB.out⟩
  | false =>
    rw [hok] at c1
    have hW : Hid (whereL s = (0, 0, false)) := Lib.hid (by
      unfold whereL
      rw [if_neg (by rw [hok]; decide)])
    clear hok
    go_wp2_with fail
    go_ret3
    exact ⟨by rw [hW.out]; rfl, hB.out⟩
def report_Where.f (a0 : ByteArray) : Option (Int × Int × Bool) := if a0.size ≤ 1099511627776 then some (whereL a0) else none
theorem report_Where.callsG (a0 : ByteArray) (r1 r2 : Int) (r3 : Bool) (w : World) (h : report_Where.f a0 = some (r1, r2, r3)) (hG : Hid (GOK w)) :
    Calls Tryd.prog 6 #[.string a0] w fun e w' => e = .returned (.tuple #[.int .i64 r1, .int .i64 r2, .bool r3]) ∧ Below w.heap.size w w' := by
  unfold report_Where.f at h
  split at h
  next hs =>
    have h2 := Option.some.inj h
    have := where_walk a0 w hs hG
    rw [h2] at this
    exact this
  next => cases h
end Go.Proofs.YtfnidapliohdjaaDoor.P
