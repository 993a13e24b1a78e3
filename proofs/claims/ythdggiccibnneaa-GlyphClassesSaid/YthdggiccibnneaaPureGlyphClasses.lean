/- Any byte's class, and its escapes: the program's Class and Escape answer as the document's do, for every byte and quote; no condition. -/
import Derived.Test.YthdggiccibnneaaPx4
import Derived.Test.YthdggiccibnneaaKnow
namespace Go.Proofs.Ythdggiccibnneaa.Pure
open Go.RowKit Go.Proofs.Ythdggiccibnneaa.P Go.Proofs.YthdggiccibnneaaW.PrintWords Go.Proofs.YthdggiccibnneaaW.PrintLast

theorem class_same : ∀ c : Fin 256, ∃ v, glyph_Class.f 40 (c.val : Int) = some v ∧ hammockref01_Class.f 40 (c.val : Int) = some v := by
  have h : ∀ c : Fin 256, (glyph_Class.f 40 (c.val : Int)).isSome = true ∧ glyph_Class.f 40 (c.val : Int) = hammockref01_Class.f 40 (c.val : Int) := by decide +kernel
  intro c
  obtain ⟨v, hv⟩ := Option.isSome_iff_exists.1 (h c).1
  exact ⟨v, hv, (h c).2 ▸ hv⟩
theorem esc_same39 : ∀ c : Fin 256, (hammockref01_Escape.f 40 (c.val : Int) 39).map (·.data.toList) = some (strOfNums (esc (c.val : Int) 39)).data.toList := by decide +kernel
theorem esc_same34 : ∀ c : Fin 256, (hammockref01_Escape.f 40 (c.val : Int) 34).map (·.data.toList) = some (strOfNums (esc (c.val : Int) 34)).data.toList := by decide +kernel
theorem esc_other (c q : Int) (h : ¬ q = 39) : esc c q = esc c 34 := by
  have : escAt c q = escAt c 34 := by unfold escAt; rw [show other q = other 34 by unfold other; rw [if_neg h]; rfl]
  unfold esc; rw [this]
theorem ref_other (k : Nat) (c q : Int) (h : ¬ q = 39) : hammockref01_Escape.f k c q = hammockref01_Escape.f k c 34 := by
  unfold hammockref01_Escape.f; rw [if_neg h, if_neg (show ¬ (34 : Int) = 39 by decide)]
theorem bytes_ext {a b : ByteArray} (h : a.data.toList = b.data.toList) : a = b := by
  obtain ⟨⟨a⟩⟩ := a; obtain ⟨⟨b⟩⟩ := b; simp at h; subst h; rfl
theorem esc_same (c : Fin 256) (q : Int) : hammockref01_Escape.f 40 (c.val : Int) q = some (strOfNums (esc (c.val : Int) q)) := by
  have key : (hammockref01_Escape.f 40 (c.val : Int) q).map (·.data.toList) = some (strOfNums (esc (c.val : Int) q)).data.toList := by
    by_cases h : q = 39
    · subst h; exact esc_same39 c
    · rw [ref_other _ _ _ h, esc_other _ _ h]; exact esc_same34 c
  obtain ⟨r, hr, he⟩ := Option.map_eq_some_iff.1 key
  rw [hr, bytes_ext he]
theorem byte_fin {c : Int} (h : (Lit.int .u8 c).wf = true) : ∃ f : Fin 256, c = (f.val : Int) := by
  have hb : 0 ≤ c ∧ c < 256 := by
    simp [Lit.wf, show IntKind.u8.min = 0 from rfl, show IntKind.u8.max = 255 from rfl] at h
    omega
  obtain ⟨n, rfl⟩ := Int.eq_ofNat_of_zero_le hb.1
  exact ⟨⟨n, by omega⟩, rfl⟩

theorem GlyphClasses : hammocklaw01_GlyphClasses.Pure := by
  intro c q hc _
  obtain ⟨f, rfl⟩ := byte_fin hc
  refine ⟨40, ?_⟩
  obtain ⟨v, h1, h2⟩ := class_same f
  have h3 := esc_same f q
  have h4 : glyph_Escape.f (f.val : Int) q = some (strOfNums (esc (f.val : Int) q)) := by
    unfold glyph_Escape.f; exact if_pos ⟨by omega, by have := f.isLt; omega⟩
  unfold hammocklaw01_GlyphClasses.f
  rw [h1, h2, h3, h4, knows_true]
  simp
end Go.Proofs.Ythdggiccibnneaa.Pure
