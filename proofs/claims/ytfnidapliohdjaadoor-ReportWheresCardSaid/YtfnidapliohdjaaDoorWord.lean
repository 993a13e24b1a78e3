/- (*report.rest).word: takes a text. -/
import Derived.Test.YtfnidapliohdjaaDoorEach
namespace Go.Proofs.YtfnidapliohdjaaDoor.P
open Go.RowKit Go.Proofs.YtfnidapliohdjaaDoorW.PrintWords
/-- What is left of a text. -/
def Rest (g : Nat) (s : ByteArray) (b : Bool) (w : World) : Prop := w.heap[g]? = some (.cells #[.string s, .bool b] 38 (0, 0))
theorem Rest.c0 {g : Nat} {s : ByteArray} {b : Bool} {w : World} (h : Rest g s b w) : w.cell? ⟨g, 0, none⟩ = some (.string s) := by unfold Rest at h; simp [World.cell?, h]
theorem Rest.c1 {g : Nat} {s : ByteArray} {b : Bool} {w : World} (h : Rest g s b w) : w.cell? ⟨g, 1, none⟩ = some (.bool b) := by unfold Rest at h; simp [World.cell?, h]
theorem Rest.f0 {g : Nat} {s : ByteArray} {b : Bool} {w : World} (h : Rest g s b w) : w.frozen? ⟨g, 0, none⟩ = false := by unfold Rest at h; simp [World.frozen?, h]
theorem Rest.f1 {g : Nat} {s : ByteArray} {b : Bool} {w : World} (h : Rest g s b w) : w.frozen? ⟨g, 1, none⟩ = false := by unfold Rest at h; simp [World.frozen?, h]
def cutS (s t : ByteArray) : ByteArray := ⟨(Lib.trimPrefix s.data.toList t.data.toList).toArray⟩
def cutB (s t : ByteArray) : Bool := Lib.hasPrefix s.data.toList t.data.toList
/-- What lies in other blocks is as it was; nothing new. -/
def Only (g : Nat) (w w' : World) : Prop := w'.os = w.os ∧ w'.tape = w.tape ∧ w'.output = w.output ∧ w'.heap.size = w.heap.size ∧ ∀ j, j ≠ g → w'.heap[j]? = w.heap[j]?

theorem Rest.set {g : Nat} {s : ByteArray} {b : Bool} {w : World} (h : Rest g s b w) (s' : ByteArray) (b' : Bool) : Rest g s' b' ((w.setCell ⟨g, 0, none⟩ (.string s')).setCell ⟨g, 1, none⟩ (.bool b')) := by
  unfold Rest at h ⊢
  have hl : g < w.heap.size := by
    rcases Nat.lt_or_ge g w.heap.size with h' | h'
    · exact h'
    · rw [Array.getElem?_eq_none h'] at h; cases h
  obtain ⟨hl', h'⟩ := Array.getElem?_eq_some_iff.1 h
  simp [World.setCell, hl, Array.getElem_modify, h']
theorem Only.set {g : Nat} (w : World) (v v' : Value) : Only g w ((w.setCell ⟨g, 0, none⟩ v).setCell ⟨g, 1, none⟩ v') := by
  refine ⟨rfl, rfl, rfl, by simp [World.setCell], fun j hj => ?_⟩
  have hj' : ¬ g = j := fun e => hj e.symm
  simp [World.setCell, Array.getElem?_modify, hj']
set_option maxHeartbeats 2000000 in
set_option maxRecDepth 100000 in
theorem word_calls (g : Nat) (s : ByteArray) (b : Bool) (t : ByteArray) (w : World) (h : Rest g s b w) :
    Calls Tryd.prog 11 #[.pointer (some ⟨g, 0, none⟩), .string t] w fun e w' => (∃ v, e = .returned v) ∧ Rest g (cutS s t) (b && cutB s t) w' ∧ Only g w w' := by
  have c0 := h.c0
  have c1 := h.c1
  have f0 := h.f0
  have f1 := h.f1
  have H := Lib.hid h
  clear h
  have hcall := Lib.hid (Tryd.strings_CutPrefix s t)
  cases b with
  | true =>
    go_enter Tryd.func11, Tryd.ntmps11
    go_wp2_with fail
    refine (hcall.out _).mono ?_
    rintro e w1 ⟨rfl, rfl⟩
    go_wp2_with fail
    exact bodyPost_end (v := .tuple #[]) (by simp [results, go_sem]) rfl ⟨⟨_, rfl⟩, H.out.set _ _, Only.set _ _ _⟩
  | false =>
    go_enter Tryd.func11, Tryd.ntmps11
    go_wp2_with fail
    refine (hcall.out _).mono ?_
    rintro e w1 ⟨rfl, rfl⟩
    go_wp2_with fail
    exact bodyPost_end (v := .tuple #[]) (by simp [results, go_sem]) rfl ⟨⟨_, rfl⟩, H.out.set _ _, Only.set _ _ _⟩
end Go.Proofs.YtfnidapliohdjaaDoor.P
