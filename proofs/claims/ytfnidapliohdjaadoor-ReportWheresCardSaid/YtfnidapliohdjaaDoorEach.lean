/- report.each: a text with each byte made another one. -/
import Derived.Test.YtfnidapliohdjaaDoorPx0
import Derived.Test.YtfnidapliohdjaaDoorBld
import Derived.Test.YtfnidapliohdjaaDoorShelf
import Derived.Outline
import Derived.Lib.Hide
import Derived.LoopTactic
import Derived.RegionTactic
import Derived.Deep.QuietTactic
import Derived.BigQuiet
namespace Go.Proofs.YtfnidapliohdjaaDoor.P
open Go.RowKit Go.Proofs.YtfnidapliohdjaaDoorW.PrintWords

theorem is_kept {T e : TypeId} {B b : Nat} {bs : List Value} {w w' : World} (h : Lib.IsBuilder T e B b bs w) (hk : ∀ j, j < w.heap.size → w'.heap[j]? = w.heap[j]?) : Lib.IsBuilder T e B b bs w' := by
  rcases h with h | h
  · exact .inl (Bld.at_kept h hk)
  · exact .inr (Bld.at_kept h hk)
theorem is_lt {T e : TypeId} {B b : Nat} {bs : List Value} {w : World} (h : Lib.IsBuilder T e B b bs w) : b < w.heap.size := by
  rcases h with h | h <;> exact h.lt
theorem each_row {w w1 w' : World} {s : ByteArray} {b : Nat} (hb : b ≠ w1.heap.size) (h : Bld.Others b w w') (hc : w.heap[w1.heap.size]? = (Lib.bytesWorld w1 5 s).heap[w1.heap.size]?) : w'.heap[w1.heap.size]? = (Lib.bytesWorld w1 5 s).heap[w1.heap.size]? := by
  rw [Lib.bytesWorld_at_new] at hc ⊢
  exact h _ _ hc (fun e => hb e.symm) (fun c e => by simp at e)
theorem each_cell {wr w1 : World} {s : ByteArray} (h : wr.heap[w1.heap.size]? = (Lib.bytesWorld w1 5 s).heap[w1.heap.size]?) (j : Nat) (hj : j < s.size) : wr.cell? ⟨w1.heap.size, j, none⟩ = some (.int .u8 (s.data.toList.getD j 0).toNat) := by
  rw [← Lib.bytesWorld_cell w1 5 s j hj]
  simp [World.cell?, h]

set_option maxHeartbeats 2000000 in
set_option maxRecDepth 100000 in
theorem each_walk (G : Nat) (g : UInt8 → UInt8) (eg : ∀ args w, (callFunc G args).run Tryd.prog w = .ok (.enter G args) w)
    (hp : ∀ (c : UInt8) W, Calls Tryd.prog G #[.int .u8 c.toNat] W fun e w' => e = .returned (.int .u8 ((g c).toNat : Int)) ∧ Drawn0 W w') (s : ByteArray) (w : World) (hs : s.size ≤ 1099511627776) :
    Calls Tryd.prog 18 #[.string s, .func (.func G) #[] #[]] w fun e w' => e = .returned (.string ⟨(s.data.toList.map g).toArray⟩) ∧ Below w.heap.size w w' := by
  have hcv := fun W => Lib.run_convert_string_bytes (P := Tryd.prog) W 9 63 5 s Tryd.underlying9 Tryd.underlying63 Tryd.underlying5
  have hfr := Lib.fresh_isBuilder 65 5 w
  go_enter Tryd.func18, Tryd.ntmps18
  go_wp2_with fail
  clear hcv
  generalize hw1 : w.alloc (.cells #[.pointer none, .slice none 0 0] 65) = w1 at hfr ⊢
  have hsz : w1.heap.size = w.heap.size + 1 := by rw [← hw1]; simp
  have hbw : Lib.IsBuilder 65 5 w.heap.size w.heap.size [] (Lib.bytesWorld w1 5 s) := is_kept hfr (fun j hj => Lib.bytesWorld_at_old w1 5 s j hj)
  have hw2 : Below w.heap.size w (Lib.bytesWorld w1 5 s) := by
    have h0 : Below w.heap.size w w1 := by rw [← hw1]; exact (Below.refl _ _).alloc (Nat.le_refl _) _
    exact h0.trans ((Lib.bytesWorld_below w1 5 s).mono (by omega))
  have hne : w.heap.size ≠ w1.heap.size := by omega
  go_loopw [11] (fun j wr => ∃ k : Nat, k ≤ s.size ∧ j = .int .i64 k ∧ Hid (Lib.IsBuilder 65 5 w.heap.size w.heap.size (Lib.byteCells ((s.data.toList.take k).map g)) wr) ∧ Hid (Below w.heap.size w wr) ∧ Hid (wr.heap[w1.heap.size]? = (Lib.bytesWorld w1 5 s).heap[w1.heap.size]?)) (fun j _ => s.size - (intOf j).toNat)
  case atStart => exact ⟨0, by omega, rfl, Lib.hid (by simpa [Lib.byteCells] using hbw), Lib.hid hw2, Lib.hid rfl⟩
  case round =>
    obtain ⟨k, hk, rfl, hb, hw, HR⟩ := hrel
    have htl : ((s.data.toList.take k).map g).length ≤ s.size := by
      rw [List.length_map]
      have := List.length_take_le' k s.data.toList; rw [Array.length_toList] at this; exact this
    by_cases hlt2 : k < s.size
    · have hcell := each_cell HR.out k hlt2
      rw [hsz] at hcell
      have ht : Hid ((s.data.toList.take (k + 1)).map g = (s.data.toList.take k).map g ++ [g (s.data.toList.getD k 0)]) := Lib.hid (by
        rw [List.take_succ_eq_append_getElem (by rw [Array.length_toList]; exact hlt2), List.map_append]
        congr 1
        simp [List.getD_eq_getElem?_getD, hlt2])
      generalize s.data.toList.getD k 0 = c at hcell ht
      have hpc := hp c
      have hnb := is_lt hb.out
      have HP := Lib.hid hpc
      clear hpc
      go_wp2_with fail
      refine (HP.out _).mono ?_
      rintro e w2 ⟨rfl, hd2⟩
      obtain ⟨nd, rfl⟩ := hd2
      have hB2 : Lib.IsBuilder 65 5 w.heap.size w.heap.size (Lib.byteCells ((s.data.toList.take k).map g)) (wr.drewN nd) := is_kept hb.out (fun j _ => rfl)
      have HB2 := Lib.hid hB2
      clear hB2
      go_wp2_with fail
      refine (Bld.writeByte w.heap.size w.heap.size _ _ _ HB2.out ?_ ?_).mono ?_
      · rw [Lib.byteCells_length]; omega
      · show w.heap.size ≤ wr.heap.size; omega
      · rintro e w3 ⟨rfl, hb3, hw3, ho3⟩
        have H3 := Lib.hid hb3
        have HW3 := Lib.hid ((hw.out.trans (Drawn0.below ⟨nd, rfl⟩ |> fun x => x.mono (by omega))).trans hw3)
        have HO3 : Hid (w3.heap[w1.heap.size]? = (Lib.bytesWorld w1 5 s).heap[w1.heap.size]?) := Lib.hid (each_row hne ho3 HR.out)
        clear hb3 hw3 ho3
        go_wp2_with fail
        go_roundw
        case rel => exact ⟨k + 1, by omega, by go_num, Lib.hid (by rw [ht.out, Lib.byteCells_append]; exact .inr H3.out), HW3, HO3⟩
        case measure => simp [intOf]; omega
    · obtain rfl : k = s.size := by omega
      have hb2 : Lib.IsBuilder 65 5 w.heap.size w.heap.size (Lib.byteCells (s.data.toList.map g)) wr := by
        have := hb.out
        rwa [List.take_of_length_le (by rw [Array.length_toList]; exact Nat.le_refl _)] at this
      have HB2 := Lib.hid hb2
      clear hb2
      have hnb := is_lt HB2.out
      go_wp2_with fail
      refine (Tryd.Builder_String_any w.heap.size w.heap.size _ _ HB2.out (by omega)).mono ?_
      rintro e w4 ⟨rfl, hw4⟩
      go_wp2
      go_ret
      exact ⟨rfl, hw.out.trans hw4⟩
end Go.Proofs.YtfnidapliohdjaaDoor.P
