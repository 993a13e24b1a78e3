/- Any place of a text of at most 5000 bytes, and any line and column: the program's Place, Offset and Line answer as the document's do. -/
import Derived.Test.YthdggiccibnneaaPx5
import Derived.Test.YthdggiccibnneaaKnow
import Derived.Test.YthdggiccibnneaaPla
namespace Go.Proofs.Ythdggiccibnneaa.Pure
open Go.RowKit Go.Proofs.Ythdggiccibnneaa.P Go.Proofs.Ythdggiccibnneaa.Lin Go.Proofs.YthdggiccibnneaaW.PrintWords Go.Proofs.YthdggiccibnneaaW.PrintLast

theorem ref_line_f (s : ByteArray) (hs : s.size ≤ 140737488351232) (line : Int) (k : Nat) (hk : 2 * s.size + 4 < k) :
    hammockref01_Line.f k s line = some (if line < 1 then (⟨#[]⟩, false) else match st s.data.toList (line - 1).toNat 0 with | some q => (s.extract q (en s.data.toList q), true) | none => (⟨#[]⟩, false)) := by
  unfold hammockref01_Line.f
  rw [ref_offset_f s hs line 1 k hk]
  by_cases h : line < 1
  · rw [if_pos h, go_neg _ _ _ _ (by omega)]; rfl
  · rw [if_neg h]
    have hg := go_st s.data.toList 1 (line - 1).toNat 0 (Nat.zero_le _)
    rw [List.drop_zero, show (((line - 1).toNat : Nat) : Int) = line - 1 by omega] at hg
    rw [hg]
    cases hq : st s.data.toList (line - 1).toNat 0 with
    | none => rfl
    | some q =>
      have hb := st_le _ _ _ _ (Nat.zero_le _) hq
      rw [← size_eq] at hb
      rw [Option.bind_some, Option.bind_some, go_self]
      simp only [Option.map_some, pair, if_true]
      rw [show (0 : Int) + ((q : Int) - ((0 : Nat) : Int)) = (q : Int) by omega]
      rw [ref_line s hs q (s.size - q) k q rfl (Nat.le_refl _) hb.1 (by omega) (fun j h1 h2 => by omega)]
      congr 3
      unfold en
      rw [← size_eq]
      split <;> omega

theorem places_at (s : ByteArray) (hs : s.size ≤ 140737488351232) (a line col : Int) (h2 : line ≤ 9223372036854775807) (h3 : -9223372036854775808 ≤ col) (h4 : col ≤ 9223372036854775807) (K : Nat) (hK : 2 * s.size + 100 ≤ K) :
    hammocklaw01_GlyphPlaces.f K s a line col = some true := by
  have hkn := at_rounds hammocklaw01_knows.mono (show 40 ≤ K by omega) knows_true
  unfold hammocklaw01_GlyphPlaces.f
  by_cases h : (s.size : Int) > 5000
  · rw [if_pos h, hkn]; rfl
  · rw [if_neg h, place_f s hs a K (by omega), ref_place_f s hs a K (by omega), offset_f s hs line col h2 h3 h4 K (by omega), ref_offset_f s hs line col K (by omega), line_f s hs line h2 K (by omega), ref_line_f s hs line K (by omega)]
    generalize (if a < 0 ∨ (s.size : Int) < a then ((0 : Int), (0 : Int)) else pl s.data.toList a.toNat) = x
    generalize pair (go s.data.toList (line - 1) 1 col) = y
    generalize (if line < 1 then ((⟨#[]⟩ : ByteArray), false) else match st s.data.toList (line - 1).toNat 0 with | some q => (s.extract q (en s.data.toList q), true) | none => (⟨#[]⟩, false)) = z
    simp [hkn]

theorem GlyphPlaces : hammocklaw01_GlyphPlaces.Pure := fun s a line col hs _ h2 h3 =>
  ⟨2 * s.size + 100, places_at s hs a line col
    (by simp [Lit.wf, show IntKind.i64.min = -9223372036854775808 from rfl, show IntKind.i64.max = 9223372036854775807 from rfl] at h2; omega)
    (by simp [Lit.wf, show IntKind.i64.min = -9223372036854775808 from rfl, show IntKind.i64.max = 9223372036854775807 from rfl] at h3; omega)
    (by simp [Lit.wf, show IntKind.i64.min = -9223372036854775808 from rfl, show IntKind.i64.max = 9223372036854775807 from rfl] at h3; omega) _ (Nat.le_refl _)⟩
end Go.Proofs.Ythdggiccibnneaa.Pure
