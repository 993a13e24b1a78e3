import Derived.Test.YtiioanpmfpefcaaDoorGlyB
namespace Go.Proofs.YtiioanpmfpefcaaDoor.P
open Go.RowKit Go.Proofs.YtiioanpmfpefcaaDoorW.PrintWords

def escB (c : UInt8) : ByteArray := strOfNums (esc c.toNat 34)
def quoteL (l : List UInt8) : List UInt8 := l.flatMap fun c => (escB c).data.toList
theorem escB_size (c : UInt8) : (escB c).size ≤ 4 := by
  unfold escB; rw [strOfNums_size]; unfold esc
  split
  · simp
  · split <;> simp
theorem quoteL_length (l : List UInt8) : (quoteL l).length ≤ 4 * l.length := by
  induction l with
  | nil => simp [quoteL]
  | cons c l ih =>
    have h1 := escB_size c
    have h2 : (escB c).data.toList.length = (escB c).size := by rw [Array.length_toList]; rfl
    simp only [quoteL, List.flatMap_cons, List.length_append, List.length_cons] at *
    omega
theorem quoteL_take (s : ByteArray) (k : Nat) (h : k < s.data.toList.length) : quoteL (s.data.toList.take (k + 1)) = quoteL (s.data.toList.take k) ++ (escB (s.data.toList.getD k 0)).data.toList := by
  rw [List.take_succ_eq_append_getElem h]
  simp [quoteL, List.getD_eq_getElem?_getD, List.getElem?_eq_getElem h]
def glyph_Quote.f (a0 : ByteArray) : Option ByteArray := if a0.size ≤ 1099511627776 then some ⟨(34 :: quoteL a0.data.toList ++ [34]).toArray⟩ else none

theorem others_row {w w1 w' : World} {s : ByteArray} {b : Nat} (hb : b ≠ w1.heap.size) (h : Bld.Others b w w') (hc : w.heap[w1.heap.size]? = (Lib.bytesWorld w1 5 s).heap[w1.heap.size]?) : w'.heap[w1.heap.size]? = (Lib.bytesWorld w1 5 s).heap[w1.heap.size]? := by
  rw [Lib.bytesWorld_at_new] at hc ⊢
  exact h _ _ hc (fun e => hb e.symm) (fun c e => by simp at e)
theorem row_cell {wr w1 : World} {s : ByteArray} (h : wr.heap[w1.heap.size]? = (Lib.bytesWorld w1 5 s).heap[w1.heap.size]?) (j : Nat) (hj : j < s.size) : wr.cell? ⟨w1.heap.size, j, none⟩ = some (.int .u8 (s.data.toList.getD j 0).toNat) := by
  rw [← Lib.bytesWorld_cell w1 5 s j hj]
  simp [World.cell?, h]

set_option maxHeartbeats 2000000 in
set_option maxRecDepth 100000 in
theorem quote_walk (s : ByteArray) (w : World) (hs : s.size ≤ 1099511627776) :
    Calls Tryd.prog 36 #[.string s] w fun e w' => e = .returned (.string ⟨(34 :: quoteL s.data.toList ++ [34]).toArray⟩) ∧ Below w.heap.size w w' := by
  have hcv := fun W => Lib.run_convert_string_bytes (P := Tryd.prog) W 9 38 5 s Tryd.underlying9 Tryd.underlying38 Tryd.underlying5
  go_enter Tryd.func36, Tryd.ntmps36
  go_wp2_with (go_at_call 32; refine (Bld.writeByte w.heap.size w.heap.size [] 34 _ (Lib.fresh_isBuilder 71 5 w) (by simp) (by simp)).mono ?_; rintro e w1 ⟨rfl, hb1, hw1, ho1⟩)
  clear hcv
  have hbw : Lib.BuilderAt 71 5 w.heap.size w.heap.size (.pointer (some ⟨w.heap.size, 0, none⟩)) ([] ++ [.int .u8 34]) (Lib.bytesWorld w1 5 s) := Bld.at_kept hb1 (fun j hj => Lib.bytesWorld_at_old w1 5 s j hj)
  have hlt := hb1.lt
  have hw2 : Below w.heap.size w (Lib.bytesWorld w1 5 s) := bytes_below (((Below.refl _ _).alloc (Nat.le_refl _) _).trans hw1) (by omega) 5 s
  have hne : w.heap.size ≠ w1.heap.size := by omega
  go_loopw [10] (fun j wr => ∃ k : Nat, k ≤ s.size ∧ j = .int .i64 k ∧ Lib.BuilderAt 71 5 w.heap.size w.heap.size (.pointer (some ⟨w.heap.size, 0, none⟩)) (Lib.byteCells (34 :: quoteL (s.data.toList.take k))) wr ∧ Below w.heap.size w wr ∧ Hid (wr.heap[w1.heap.size]? = (Lib.bytesWorld w1 5 s).heap[w1.heap.size]?)) (fun j _ => s.size - (intOf j).toNat)
  case atStart => exact ⟨0, by omega, rfl, by simpa [quoteL, Lib.byteCells] using hbw, hw2, Lib.hid rfl⟩
  case round =>
    obtain ⟨k, hk, rfl, hb, hw, HR⟩ := hrel
    have hql := quoteL_length (s.data.toList.take k)
    have htl : (s.data.toList.take k).length ≤ s.size := by have := List.length_take_le' k s.data.toList; rw [Array.length_toList] at this; exact this
    by_cases hlt2 : k < s.size
    · have hcell := row_cell HR.out k hlt2
      have ht := quoteL_take s k (by rw [Array.length_toList]; exact hlt2)
      generalize s.data.toList.getD k 0 = c at hcell ht
      have hle : (strOfNums (esc c.toNat 34)).size ≤ 4 := escB_size c
      have HT := Lib.hid ht
      clear ht
      have hnb : w.heap.size < wr.heap.size := hb.lt
      go_wp2_with fail
      refine (esc_walk (c.toNat : Int) 34 _ (by omega) (by have := c.toNat_lt; omega)).mono ?_
      rintro e w2 ⟨rfl, hb2⟩
      have hk2 : ∀ j, j < wr.heap.size → w2.heap[j]? = wr.heap[j]? := fun j hj => hb2.block j hj
      have hB2 := Bld.at_kept hb hk2
      go_wp2_with fail
      refine (Bld.writeString w.heap.size w.heap.size _ _ _ (.inr hB2) ?_ ?_).mono ?_
      · rw [Lib.byteCells_length, List.length_cons]; omega
      · have := hb2.size; omega
      · rintro e w3 ⟨rfl, hb3, hw3, ho3⟩
        go_wp2
        go_roundw
        case rel =>
          refine ⟨k + 1, by omega, by go_num, ?_, ?_, ?_⟩
          · have e : Lib.byteCells (34 :: quoteL (s.data.toList.take (k + 1))) = Lib.byteCells (34 :: quoteL (s.data.toList.take k)) ++ Lib.strCells (strOfNums (esc c.toNat 34)) := by
              rw [HT.out, Lib.strCells_eq, ← Lib.byteCells_append]; rfl
            rw [e]; exact hb3
          · exact (hw.trans (hb2.mono (by omega))).trans hw3
          · exact Lib.hid (others_row hne ho3 ((hk2 _ (Nat.lt_of_not_le fun h => by have := HR.out; rw [Lib.bytesWorld_at_new, Array.getElem?_eq_none h] at this; cases this)).trans HR.out))
        case measure => simp [intOf]; omega
    · obtain rfl : k = s.size := by omega
      go_wp2_with fail
      refine (Bld.writeByte w.heap.size w.heap.size _ 34 _ (.inr hb) ?_ ?_).mono ?_
      · rw [Lib.byteCells_length, List.length_cons]; omega
      · have := hb.lt; omega
      · rintro e w3 ⟨rfl, hb3, hw3, ho3⟩
        have hb4 : Lib.BuilderAt 71 5 w.heap.size w.heap.size (.pointer (some ⟨w.heap.size, 0, none⟩)) (Lib.byteCells (34 :: quoteL s.data.toList ++ [34])) w3 := by
          have e : Lib.byteCells (34 :: quoteL s.data.toList ++ [34]) = Lib.byteCells (34 :: quoteL (s.data.toList.take s.size)) ++ [.int .u8 34] := by
            rw [List.take_of_length_le (by rw [Array.length_toList]; exact Nat.le_refl _), Lib.byteCells_append]; rfl
          rw [e]; exact hb3
        go_wp2_with fail
        refine (Tryd.Builder_String_any w.heap.size w.heap.size _ _ (.inr hb4) (by have := hb4.lt; omega)).mono ?_
        rintro e w4 ⟨rfl, hw4⟩
        go_wp2
        go_ret
        exact ⟨rfl, (hw.trans hw3).trans hw4⟩

theorem glyph_Quote.calls (a0 : ByteArray) (r : ByteArray) (w : World) (h : glyph_Quote.f a0 = some r) :
    Calls Tryd.prog 36 #[.string a0] w fun e w' => e = .returned (.string r) ∧ Below w.heap.size w w' := by
  unfold glyph_Quote.f at h
  split at h
  next hs => obtain rfl := Option.some.inj h; exact quote_walk a0 w hs
  next => cases h
end Go.Proofs.YtiioanpmfpefcaaDoor.P
