/- Is a code small? How long its text is then. -/
import Derived.Test.YtcmhibcoccdmaaaGreatDoorInS
namespace Go.Proofs.YtcmhibcoccdmaaaGreatDoor.P
open Go.RowKit Go.Shelf Go.Proofs.YtcmhibcoccdmaaaGreatDoorW.PrintWords Go.Proofs.YtcmhibcoccdmaaaGreatDoorW.PrintLast Go.Proofs.YtcmhibcoccdmaaaGreatDoor.Rw
set_option linter.unusedVariables false
set_option linter.unusedSimpArgs false
def sg (l : List S52) : Nat := (l.map fun g => g.f0.size / 20).sum
def sx (l : List Ins) : Nat := (l.map fun x => x.tb.length).sum
theorem sg_step (l : List S52) (k : Nat) (h : k < l.length) : sg (l.take (k + 1)) = sg (l.take k) + (l.getD k z52).f0.size / 20 := by
  unfold sg
  rw [take_map_succ (fun g : S52 => g.f0.size / 20) l k z52 h, List.sum_append]
  simp
theorem sx_step (l : List Ins) (k : Nat) (h : k < l.length) : sx (l.take (k + 1)) = sx (l.take k) + (l.getD k zI).tb.length := by
  unfold sx
  rw [take_map_succ (fun x : Ins => x.tb.length) l k zI h, List.sum_append]
  simp
def lightB (gs : List S52) (xs : List Ins) : Bool := decide (gs.length ≤ 60 ∧ xs.length ≤ 200 ∧ sg gs + sx xs ≤ 400)
set_option maxHeartbeats 2000000 in
set_option maxRecDepth 100000 in
theorem light_calls (gs : List S52) (xs : List Ins) (Ag Ax : Option Addr) (cg cx : Nat) (w : World) (hG : k52.C w Ag gs.length gs) (hX : kI.C w Ax xs.length xs) (hg : ∀ g ∈ gs, g.f0.size ≤ 140737488351232) (hx : ∀ x ∈ xs, x.tb.length ≤ 140737488351232) :
    Calls Tryz.prog 11 #[.agg #[.slice Ag gs.length cg, .slice Ax xs.length cx]] w fun e w' => e = .returned (.bool (lightB gs xs)) ∧ Below w.heap.size w w' := by
  have hgm : gs.length ≤ 9223372036854775807 := hG.2.1
  have hxm : xs.length ≤ 9223372036854775807 := hX.2.1
  have HG := Lib.hid hG; have HX := Lib.hid hX; have HGS := Lib.hid hg; have HXS := Lib.hid hx
  clear hG hX hg hx
  go_enter Tryz.func11, Tryz.ntmps11
  go_upto_region 1 with (fail)
  have hb := heap_new w (.cells #[.slice Ag gs.length cg, .slice Ax xs.length cx] 32)
  have HB := Lib.hid ((Below.refl _ w).alloc (Nat.le_refl _) (.cells #[.slice Ag gs.length cg, .slice Ax xs.length cx] 32))
  generalize w.alloc (.cells #[.slice Ag gs.length cg, .slice Ax xs.length cx] 32) = w1 at hb HB ⊢
  have HBX := Lib.hid hb
  clear hb
  have c0 := cell_in HBX.out 0
  have c1 := cell_in HBX.out 1
  by_cases h1 : (60 : Int) < (gs.length : Int)
  · have hf : lightB gs xs = false := decide_eq_false (by omega)
    have HF := Lib.hid hf
    clear hf
    go_wp2_with fail
    go_ret
    exact ⟨by rw [HF.out]; rfl, HB.out⟩
  · by_cases h2 : (200 : Int) < (xs.length : Int)
    · have hf : lightB gs xs = false := decide_eq_false (by omega)
      have HF := Lib.hid hf
      clear hf
      go_wp2_with fail
      go_ret
      exact ⟨by rw [HF.out]; rfl, HB.out⟩
    · go_wp2_with fail
      have HNG := Lib.hid h1; have HNX := Lib.hid h2
      clear h1 h2
      go_loopg [3, 4] (gs.length + 1) (fun gg s3 s4 wr => ∃ (kk : Nat) (lf : Int), kk ≤ gs.length ∧ gs.length - kk < gg ∧ s4 = .int .i64 kk ∧ s3 = .int .i64 lf ∧ Hid (lf = 400 - (sg (gs.take kk) : Int) ∧ sg (gs.take kk) ≤ kk * 7036874417562) ∧ w1 = wr)
      case atStart => exact ⟨0, 400, Nat.zero_le _, by omega, rfl, rfl, Lib.hid ⟨by simp [sg], by simp [sg]⟩, rfl⟩
      case round =>
        obtain ⟨kk, lf, hkk, hgg, rfl, rfl, HLF, rfl⟩ := hrel
        rcases gk with _ | gf
        · omega
        by_cases hlt : kk < gs.length
        · have hltz : (kk : Int) < (gs.length : Int) := by omega
          have hkz : (0 : Int) ≤ (kk : Int) := by omega
          obtain ⟨ad, rfl, q0, q1, q2⟩ := at_G (Kd.C_below HG.out HB.out) kk hlt
          have hsz := HGS.out _ (getD_mem gs z52 kk hlt)
          have hst := sg_step gs kk hlt
          have HY := Lib.hid (rfl : gs.getD kk z52 = gs.getD kk z52)
          generalize gs.getD kk z52 = y at q0 q1 q2 hsz hst HY
          obtain ⟨hl1, hl2⟩ := HLF.out
          have hnn := HNG.out
          have hmul : kk * 7036874417562 ≤ 60 * 7036874417562 := Nat.mul_le_mul_right _ (by omega)
          have hdb : y.f0.size / 20 ≤ 7036874417562 := by omega
          have hws : (y.f0.size : Int) / 20 = ((y.f0.size / 20 : Nat) : Int) := by omega
          have hwl : wrap64 (lf - ((y.f0.size / 20 : Nat) : Int)) = lf - ((y.f0.size / 20 : Nat) : Int) := wrap_id (by omega) (by omega)
          have HR := Lib.hid (show wrap64 (lf - (y.f0.size : Int) / 20) = 400 - (sg (gs.take (kk + 1)) : Int) ∧ sg (gs.take (kk + 1)) ≤ (kk + 1) * 7036874417562 from ⟨by rw [hws, hwl]; omega, by omega⟩)
          clear hst hl1 hl2 hmul HLF hnn hdb hws hwl HY
          go_wp2_with fail
          go_roundg gf
          case measure => omega
          case rel => exact ⟨kk + 1, _, by omega, by omega, by go_num, rfl, HR, rfl⟩
        · have hltz : ¬ (kk : Int) < (gs.length : Int) := by omega
          obtain rfl : kk = gs.length := by omega
          rw [List.take_length] at HLF
          generalize hsg : sg gs = SG at HLF
          have HSG := Lib.hid hsg
          clear hsg
          go_wp2_with fail
          go_loopg [3, 5] (xs.length + 1) (fun gg s3 s5 wr => ∃ (kx : Nat) (l2 : Int), kx ≤ xs.length ∧ xs.length - kx < gg ∧ s5 = .int .i64 kx ∧ s3 = .int .i64 l2 ∧ Hid (l2 = lf - (sx (xs.take kx) : Int) ∧ sx (xs.take kx) ≤ kx * 140737488351232) ∧ w1 = wr)
          case atStart => exact ⟨0, lf, Nat.zero_le _, by omega, rfl, rfl, Lib.hid ⟨by simp [sx], by simp [sx]⟩, rfl⟩
          case round =>
            obtain ⟨kx, l2, hkx, hgx, rfl, rfl, HL2, rfl⟩ := hrel
            rcases gk with _ | gf
            · omega
            by_cases hlx : kx < xs.length
            · have hltz : (kx : Int) < (xs.length : Int) := by omega
              have hkz : (0 : Int) ≤ (kx : Int) := by omega
              obtain ⟨ad, A3, c3, rfl, q0, q1, q2, q3, l3, g3⟩ := at_I (Kd.C_below HX.out HB.out) kx hlx
              have hsz := HXS.out _ (getD_mem xs zI kx hlx)
              have hst := sx_step xs kx hlx
              generalize xs.getD kx zI = y at q0 q1 q2 q3 l3 g3 hsz hst
              obtain ⟨hl1, hl2⟩ := HL2.out
              obtain ⟨hf1, hf2⟩ := HLF.out
              have hnn := HNG.out
              have hnx := HNX.out
              have hmul : kx * 140737488351232 ≤ 200 * 140737488351232 := Nat.mul_le_mul_right _ (by omega)
              have hmul2 : gs.length * 7036874417562 ≤ 60 * 7036874417562 := Nat.mul_le_mul_right _ (by omega)
              have hwl : wrap64 (l2 - (y.tb.length : Int)) = l2 - (y.tb.length : Int) := wrap_id (by omega) (by omega)
              have HR := Lib.hid (show wrap64 (l2 - (y.tb.length : Int)) = lf - (sx (xs.take (kx + 1)) : Int) ∧ sx (xs.take (kx + 1)) ≤ (kx + 1) * 140737488351232 from ⟨by rw [hwl]; omega, by omega⟩)
              have HG3 := Lib.hid g3
              clear g3 hst hl1 hl2 hf1 hf2 hmul hmul2 HL2 hnn hnx hwl
              go_wp2_with fail
              go_roundg gf
              case measure => omega
              case rel => exact ⟨kx + 1, _, by omega, by omega, by go_num, rfl, HR, rfl⟩
            · have hltz : ¬ (kx : Int) < (xs.length : Int) := by omega
              obtain rfl : kx = xs.length := by omega
              rw [List.take_length] at HL2
              have hl2 := HL2.out
              have hlf := HLF.out
              have hh1 := HNG.out
              have hh2 := HNX.out
              have hsgz := HSG.out
              by_cases hz : (0 : Int) ≤ l2
              · have HF := Lib.hid (show lightB gs xs = true from decide_eq_true (by omega))
                clear hl2 hlf hh1 hh2 hsgz HL2 HLF
                go_wp2_with fail
                go_ret
                exact ⟨by rw [HF.out]; first | rfl | (simp [hz]), HB.out⟩
              · have HF := Lib.hid (show lightB gs xs = false from decide_eq_false (by omega))
                clear hl2 hlf hh1 hh2 hsgz HL2 HLF
                go_wp2_with fail
                go_ret
                exact ⟨by rw [HF.out]; first | rfl | (simp [hz]), HB.out⟩
end Go.Proofs.YtcmhibcoccdmaaaGreatDoor.P
