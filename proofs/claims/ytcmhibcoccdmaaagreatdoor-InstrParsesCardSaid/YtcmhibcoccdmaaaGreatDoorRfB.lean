/- The reference's names and tables. -/
import Derived.Test.YtcmhibcoccdmaaaGreatDoorRfA
import Derived.Test.YtcmhibcoccdmaaaGreatDoorInC
import Derived.IntWalk
namespace Go.Proofs.YtcmhibcoccdmaaaGreatDoor.P
open Go.RowKit Go.Shelf Go.Proofs.YtcmhibcoccdmaaaGreatDoorW.PrintWords Go.Proofs.YtcmhibcoccdmaaaGreatDoorW.PrintLast Go.Proofs.YtcmhibcoccdmaaaGreatDoor.Rw
set_option linter.unusedVariables false
set_option linter.unusedSimpArgs false
theorem rin_calls (a n b : Int) (w : World) : Calls Tryz.prog 77 #[.int .i64 a, .int .i64 n, .int .i64 b] w fun e w' => e = .returned (.bool (decide (a ≤ n ∧ n ≤ b))) ∧ Below w.heap.size w w' := by
  refine (hammockref20_in.calls a n b (decide (a ≤ n ∧ n ≤ b)) w ?_).mono fun e w' h => ⟨h.1, h.2.below⟩
  unfold hammockref20_in.f
  by_cases h : n ≥ a
  · rw [if_pos h, decide_eq_decide.2 (show n ≤ b ↔ (a ≤ n ∧ n ≤ b) from ⟨fun h2 => ⟨h, h2⟩, fun h2 => h2.2⟩)]
  · rw [if_neg h, decide_eq_false (show ¬ (a ≤ n ∧ n ≤ b) from fun h2 => h h2.1)]
def nameB (s : ByteArray) : Bool := !(s.toList == []) && !decide (0 ≤ Lib.indexByte s.data.toList 10)
theorem nameB_hit {s : ByteArray} {i : Nat} (hi : i < s.size) (h : s[i] = 10) : nameB s = false := by
  unfold nameB
  have hl : i < s.data.toList.length := by rw [← sizeL]; exact hi
  have hm : s.data.toList[i]? = some 10 := by
    rw [List.getElem?_eq_getElem hl]
    simpa [ByteArray.getElem_eq_getElem_data] using h
  have h1 : 0 ≤ Lib.indexByte s.data.toList 10 := by
    have h2 := Lib.indexByte_ge s.data.toList 10
    by_cases h3 : Lib.indexByte s.data.toList 10 = -1
    · exact absurd hm (Lib.indexByte_none h3 i)
    · omega
  rw [decide_eq_true h1]
  simp
theorem nameB_end {s : ByteArray} (h : ∀ i (hi : i < s.size), ¬ s[i] = 10) : nameB s = !(s.toList == []) := by
  unfold nameB
  have h1 : ¬ 0 ≤ Lib.indexByte s.data.toList 10 := fun h0 => by
    obtain ⟨i, hi⟩ : ∃ i : Nat, Lib.indexByte s.data.toList 10 = (i : Int) := ⟨(Lib.indexByte s.data.toList 10).toNat, by omega⟩
    obtain ⟨h2, _⟩ := Lib.indexByte_some hi
    obtain ⟨h3, h4⟩ := List.getElem?_eq_some_iff.1 h2
    exact h i (by rw [sizeL]; exact h3) (by simpa [ByteArray.getElem_eq_getElem_data] using h4)
  rw [decide_eq_false h1]
  simp
set_option maxHeartbeats 2000000 in
set_option maxRecDepth 100000 in
theorem rname_calls (s : ByteArray) (hs : s.size ≤ 9223372036854775807) (w : World) : Calls Tryz.prog 78 #[.string s] w fun e w' => e = .returned (.bool (nameB s)) ∧ Below w.heap.size w w' := by
  go_enter Tryz.func78, Tryz.ntmps78
  go_wp2_with fail
  go_loopg [3] (s.size + 1) (fun gg s3 wr => ∃ (i : Nat), i ≤ s.size ∧ s.size - i < gg ∧ s3 = .int .i64 i ∧ Hid (∀ k (hk : k < s.size), k < i → ¬ s[k] = 10) ∧ w = wr)
  case atStart => exact ⟨0, Nat.zero_le _, by omega, rfl, Lib.hid (fun k hk h => by omega), rfl⟩
  case round =>
    obtain ⟨i, hi, hgg, rfl, HI, rfl⟩ := hrel
    rcases gk with _ | gf
    · omega
    by_cases hlt : i < s.size
    · have hltz : (i : Int) < (s.size : Int) := by omega
      have hiz : (0 : Int) ≤ (i : Int) := by omega
      cases hb : ((s[i].toNat : Int) == 10) with
      | true =>
        have hc : s[i] = 10 := UInt8.toNat_inj.1 (by
          have := beq_iff_eq.1 hb
          rw [show (10 : UInt8).toNat = 10 from rfl]; omega)
        have HN := Lib.hid (nameB_hit hlt hc)
        clear hc
        go_wp2_with fail
        go_ret
        exact ⟨by rw [HN.out]; rfl, Below.refl _ _⟩
      | false =>
        have hc : ¬ s[i] = 10 := fun e => by rw [e] at hb; exact absurd hb (by decide)
        have HN : Hid (∀ k (hk : k < s.size), k < i + 1 → ¬ s[k] = 10) := Lib.hid (fun k hk h => by
          rcases Nat.lt_succ_iff_lt_or_eq.1 h with h | rfl
          · exact HI.out k hk h
          · exact hc)
        clear hc
        go_wp2_with fail
        go_roundg gf
        case measure => omega
        case rel => exact ⟨i + 1, by omega, by omega, by go_num, HN, rfl⟩
    · have hltz : ¬ (i : Int) < (s.size : Int) := by omega
      obtain rfl : i = s.size := by omega
      have HN := Lib.hid (nameB_end (s := s) (fun k hk => HI.out k hk hk))
      go_wp2_with fail
      go_ret
      have he : s.toList.isEmpty = (s.toList == []) := by cases s.toList <;> rfl
      exact ⟨by rw [HN.out, ← he]; rfl, Below.refl _ _⟩
theorem add0 (a : Addr) : a.add 0 = a := by
  cases a
  unfold Addr.add
  split <;> simp_all
def rok6 (tags : Bool) (y1 y2 : Int) (i : Nat) : Bool := decide (0 ≤ y2 ∧ y2 ≤ 65536) && (!((y1 == -1) && decide (0 < i)) && !(tags && (!(y1 == -1) && !decide (0 ≤ y1 ∧ y1 ≤ 255))))
def rbad8 (p y z : Int) (i : Nat) : Bool := decide (0 < i) && (decide (y ≤ p) && !(decide (i = 1) && (z == -1)))
/-- A pair, at its place, as the reference looks at it. -/
def rokAt (tags : Bool) (l : List (Int × Int)) (i : Nat) : Bool := rok6 tags (l.getD i zP).1 (l.getD i zP).2 i && !rbad8 (l.getD (i - 1) zP).1 (l.getD i zP).1 (l.getD 0 zP).1 i
def rtab (tags : Bool) (l : List (Int × Int)) : Bool :=
  decide (1 ≤ l.length ∧ l.length ≤ 65536 ∧ (tags = true → l.length ≤ 257)) && ((List.range l.length).all (rokAt tags l) && (tags || ((l.getD 0 zP).1 == -1)))
theorem rtab_at {tags : Bool} {l : List (Int × Int)} {i : Nat} (hi : i < l.length) (h : rokAt tags l i = false) : rtab tags l = false := by
  unfold rtab
  have h1 : (List.range l.length).all (rokAt tags l) = false := List.all_eq_false.2 ⟨i, List.mem_range.2 hi, by rw [h]; decide⟩
  rw [h1]
  simp
theorem rtab_end {tags : Bool} {l : List (Int × Int)} (hl : 1 ≤ l.length ∧ l.length ≤ 65536 ∧ (tags = true → l.length ≤ 257)) (h : ∀ i, i < l.length → rokAt tags l i = true) : rtab tags l = (tags || ((l.getD 0 zP).1 == -1)) := by
  unfold rtab
  have h1 : (List.range l.length).all (rokAt tags l) = true := List.all_eq_true.2 (fun i hi => h i (List.mem_range.1 hi))
  rw [h1, decide_eq_true hl]
  rfl
theorem at_Pl {w : World} {A : Option Addr} {n : Nat} {xs : List (Int × Int)} (h : kP.C w A n xs) (ad : Addr) (hA : A = some ad) (k : Nat) (hk : k < n) : w.cell? (ad.add (k * 2)) = some (.int .i64 (xs.getD k zP).1) ∧ w.cell? ⟨(ad.add (k * 2)).block, (ad.add (k * 2)).off + 1, none⟩ = some (.int .i64 (xs.getD k zP).2) := by
  obtain ⟨ad2, e, h0, h1⟩ := at_P h k hk
  rw [hA] at e
  cases e
  exact ⟨h0, h1⟩
set_option maxHeartbeats 4000000 in
set_option maxRecDepth 100000 in
theorem rtable_false (l : List (Int × Int)) (A : Option Addr) (c : Nat) (w : World) (hC : kP.C w A l.length l) :
    Calls Tryz.prog 79 #[.slice A l.length c, .bool false] w fun e w' => e = .returned (.bool (rtab false l)) ∧ Below w.heap.size w w' := by
  have hmax : l.length ≤ 9223372036854775807 := hC.2.1
  have HC := Lib.hid hC
  clear hC
  go_enter Tryz.func79, Tryz.ntmps79
  by_cases h1 : (l.length : Int) < 1
  · have HF := Lib.hid (show rtab false l = false by unfold rtab; rw [decide_eq_false (by omega)]; rfl)
    go_wp2_with fail
    go_ret
    exact ⟨by rw [HF.out]; rfl, Below.refl _ _⟩
  by_cases h2 : (65536 : Int) < (l.length : Int)
  · have HF := Lib.hid (show rtab false l = false by unfold rtab; rw [decide_eq_false (by omega)]; rfl)
    go_wp2_with fail
    go_ret
    exact ⟨by rw [HF.out]; rfl, Below.refl _ _⟩
  have HLEN := Lib.hid (show 1 ≤ l.length ∧ l.length ≤ 65536 ∧ (false = true → l.length ≤ 257) from ⟨by omega, by omega, fun h => by first | omega | cases h⟩)
  obtain ⟨ad, hA, _, _⟩ := at_P HC.out 0 (by omega)
  subst hA
  have z0 := (at_Pl HC.out ad rfl 0 (by omega)).1
  rw [Nat.zero_mul, add0 ad] at z0
  have HZ := Lib.hid (fun W (hb : Below w.heap.size w W) => pw_cell_below hb z0)
  clear z0
  go_wp2_with fail
  go_loopg [5] (l.length + 1) (fun gg s5 wr => ∃ (i : Nat), i ≤ l.length ∧ l.length - i < gg ∧ s5 = .int .i64 i ∧ Hid (∀ k, k < i → rokAt false l k = true) ∧ Hid (Below w.heap.size w wr))
  case atStart => exact ⟨0, Nat.zero_le _, by omega, rfl, Lib.hid (fun k h => by omega), Lib.hid (Below.refl _ _)⟩
  case round =>
    obtain ⟨i, hi, hgg, rfl, HI, HB⟩ := hrel
    rcases gk with _ | gf
    · omega
    by_cases hlt : i < l.length
    · have hltz : (i : Int) < (l.length : Int) := by omega
      have hiz : (0 : Int) ≤ (i : Int) := by omega
      rcases i with _ | m
      · clear hiz
        obtain ⟨c0, c1⟩ := at_Pl HC.out ad rfl 0 hlt
        rw [Nat.zero_mul, add0 ad] at c0 c1
        generalize hy1 : (l.getD 0 zP).1 = y1 at c0
        generalize hy2 : (l.getD 0 zP).2 = y2 at c1
        have HC0 := Lib.hid (fun W (hb : Below w.heap.size w W) => pw_cell_below hb c0)
        have HC1 := Lib.hid (fun W (hb : Below w.heap.size w W) => pw_cell_below hb c1)
        have HE1 := Lib.hid hy1
        have HE2 := Lib.hid hy2
        clear c0 c1 hy1 hy2
        go_upto_region 6 with (fail)
        go_cut [5, 66] from 22 to 94 (fun s5 s66 wx => s5 = .int .i64 ((0 : Nat) : Int) ∧ s66 = .bool (!rok6 false y1 y2 0) ∧ Hid (Below w.heap.size w wx))
        case first =>
          have c0 := HC0.out _ HB.out
          have c1 := HC1.out _ HB.out
          go_wp2_with fail
          refine (rin_calls 0 y2 65536 wr).mono ?_
          rintro e w2 ⟨rfl, hb2⟩
          have HB2 := Lib.hid (bel2 HB.out hb2)
          clear hb2 c0 c1
          have c0 := HC0.out _ HB2.out
          have c1 := HC1.out _ HB2.out
          cases hi1 : decide (0 ≤ y2 ∧ y2 ≤ 65536) with
          | false =>
            have HR := Lib.hid (show rok6 false y1 y2 0 = false by unfold rok6; rw [hi1]; rfl)
            go_wp2_with fail
            go_meet
            exact ⟨by simp, by rw [HR.out]; first | rfl | simp [hm], HB2⟩
          | true =>
            by_cases hm : y1 = -1
            · have hmb : (y1 == -1) = true := beq_iff_eq.2 hm
              have HR := Lib.hid (show rok6 false y1 y2 0 = true by unfold rok6; rw [hi1, hmb]; rfl)
              go_wp2_with fail
              go_meet
              exact ⟨by simp, by rw [HR.out]; first | rfl | simp [hm], HB2⟩
            · have hmb : (y1 == -1) = false := beq_eq_false_iff_ne.2 hm
              have HR := Lib.hid (show rok6 false y1 y2 0 = true by unfold rok6; rw [hi1, hmb]; rfl)
              go_wp2_with fail
              go_meet
              exact ⟨by simp, by rw [HR.out]; first | rfl | simp [hm], HB2⟩
        case rest =>
          obtain ⟨rfl, rfl, HBc⟩ := hcut
          cases hr6 : rok6 false y1 y2 0 with
          | false =>
            have HF := Lib.hid (rtab_at (tags := false) hlt (by unfold rokAt; rw [HE1.out, HE2.out, hr6]; rfl))
            clear hr6
            go_wp2_with fail
            go_ret
            exact ⟨by rw [HF.out]; rfl, HBc.out⟩
          | true =>
            go_upto_region 8 with (fail)
            have HN := Lib.hid (show ∀ k, k < 0 + 1 → rokAt false l k = true from fun k hk => by
              rcases Nat.lt_succ_iff_lt_or_eq.1 hk with h | rfl
              · exact HI.out k h
              · unfold rokAt; rw [HE1.out, HE2.out, hr6]; rfl)
            clear hr6
            go_quiet (fail)
            go_wp2_with fail
            go_roundg gf
            case measure => omega
            case rel => exact ⟨0 + 1, by omega, by omega, by go_num, HN, Lib.hid (pw_below_drewN HBc.out _)⟩
      · clear hiz
        obtain ⟨c0, c1⟩ := at_Pl HC.out ad rfl (m + 1) hlt
        generalize hy1 : (l.getD (m + 1) zP).1 = y1 at c0
        generalize hy2 : (l.getD (m + 1) zP).2 = y2 at c1
        have HC0 := Lib.hid (fun W (hb : Below w.heap.size w W) => pw_cell_below hb c0)
        have HC1 := Lib.hid (fun W (hb : Below w.heap.size w W) => pw_cell_below hb c1)
        have HE1 := Lib.hid hy1
        have HE2 := Lib.hid hy2
        clear c0 c1 hy1 hy2
        go_upto_region 6 with (fail)
        go_cut [5, 66] from 22 to 94 (fun s5 s66 wx => s5 = .int .i64 (((m + 1) : Nat) : Int) ∧ s66 = .bool (!rok6 false y1 y2 (m + 1)) ∧ Hid (Below w.heap.size w wx))
        case first =>
          have c0 := HC0.out _ HB.out
          have c1 := HC1.out _ HB.out
          go_wp2_with fail
          refine (rin_calls 0 y2 65536 wr).mono ?_
          rintro e w2 ⟨rfl, hb2⟩
          have HB2 := Lib.hid (bel2 HB.out hb2)
          clear hb2 c0 c1
          have c0 := HC0.out _ HB2.out
          have c1 := HC1.out _ HB2.out
          cases hi1 : decide (0 ≤ y2 ∧ y2 ≤ 65536) with
          | false =>
            have HR := Lib.hid (show rok6 false y1 y2 (m + 1) = false by unfold rok6; rw [hi1]; rfl)
            go_wp2_with fail
            go_meet
            exact ⟨by simp, by rw [HR.out]; first | rfl | simp [hm], HB2⟩
          | true =>
            by_cases hm : y1 = -1
            · have hmb : (y1 == -1) = true := beq_iff_eq.2 hm
              have HR := Lib.hid (show rok6 false y1 y2 (m + 1) = false by unfold rok6; rw [hi1, hmb]; rfl)
              go_wp2_with fail
              go_meet
              exact ⟨by simp, by rw [HR.out]; first | rfl | simp [hm], HB2⟩
            · have hmb : (y1 == -1) = false := beq_eq_false_iff_ne.2 hm
              have HR := Lib.hid (show rok6 false y1 y2 (m + 1) = true by unfold rok6; rw [hi1, hmb]; rfl)
              go_wp2_with fail
              go_meet
              exact ⟨by simp, by rw [HR.out]; first | rfl | simp [hm], HB2⟩
        case rest =>
          obtain ⟨rfl, rfl, HBc⟩ := hcut
          cases hr6 : rok6 false y1 y2 (m + 1) with
          | false =>
            have HF := Lib.hid (rtab_at (tags := false) hlt (by unfold rokAt; rw [HE1.out, HE2.out, hr6]; rfl))
            clear hr6
            go_wp2_with fail
            go_ret
            exact ⟨by rw [HF.out]; rfl, HBc.out⟩
          | true =>
            go_upto_region 8 with (fail)
            have c0 := HC0.out _ HBc.out
            have z0 := HZ.out _ HBc.out
            generalize hz1 : (l.getD 0 zP).1 = z at z0
            have HZ1 := Lib.hid hz1
            clear hz1
            obtain ⟨p0, _⟩ := at_Pl HC.out ad rfl m (by omega)
            replace p0 := pw_cell_below HBc.out p0
            generalize hp : (l.getD m zP).1 = p at p0
            have HP := Lib.hid (show (l.getD (m + 1 - 1) zP).1 = p from hp)
            clear hp
            have q1 : IntKind.i64.wrap (m : Int) = (m : Int) := IntWalk.i64_in _ (by omega)
            have q2 : (0 : Int) ≤ (m : Int) := by omega
            have q3 : (m : Int) < (l.length : Int) := by omega
            have q4 : (m : Int) + 1 < (l.length : Int) := by omega
            have q5 : (0 : Int) ≤ (m : Int) + 1 := by omega
            have q7 : (0 : Int) < (m : Int) + 1 := by omega
            have q8 : (0 : Int) < (l.length : Int) := by omega
            have q9 : ((m : Int) + 1).toNat = m + 1 := by omega
            by_cases hg : y1 ≤ p
            · have hgb : decide (y1 ≤ p) = true := decide_eq_true hg
              cases hm1 : ((m : Int) + 1 == 1) with
              | true =>
                have hm0 : m = 0 := by have := beq_iff_eq.1 hm1; omega
                by_cases hz : z = -1
                · have hzb : (z == -1) = true := beq_iff_eq.2 hz
                  have hr8 : rbad8 p y1 z (m + 1) = false := by unfold rbad8; rw [hgb, hzb, hm0]; simp
                  have HN := Lib.hid (show ∀ k, k < (m + 1) + 1 → rokAt false l k = true from fun k hk => by
                    rcases Nat.lt_succ_iff_lt_or_eq.1 hk with h | rfl
                    · exact HI.out k h
                    · unfold rokAt; rw [HE1.out, HE2.out, hr6, HP.out, HZ1.out, hr8]; rfl)
                  clear hr6 hm0 hr8
                  go_quiet (fail)
                  go_wp2_with fail
                  go_roundg gf
                  case measure => omega
                  case rel => exact ⟨(m + 1) + 1, by omega, by omega, by go_num, HN, Lib.hid (pw_below_drewN HBc.out _)⟩
                · have hzb : (z == -1) = false := beq_eq_false_iff_ne.2 hz
                  have hr8 : rbad8 p y1 z (m + 1) = true := by unfold rbad8; rw [hgb, hzb]; simp
                  have HF := Lib.hid (rtab_at (tags := false) hlt (by unfold rokAt; rw [HE1.out, HE2.out, hr6, HP.out, HZ1.out, hr8]; rfl))
                  clear hr6 hr8 hm0
                  go_quiet (fail)
                  go_wp2_with fail
                  go_ret
                  exact ⟨by rw [HF.out]; rfl, pw_below_drewN HBc.out _⟩
              | false =>
                have hm0 : ¬ m + 1 = 1 := fun h => by rw [show (m : Int) + 1 = 1 by omega] at hm1; exact absurd hm1 (by decide)
                have hr8 : rbad8 p y1 z (m + 1) = true := by unfold rbad8; rw [hgb, decide_eq_false hm0]; simp
                have HF := Lib.hid (rtab_at (tags := false) hlt (by unfold rokAt; rw [HE1.out, HE2.out, hr6, HP.out, HZ1.out, hr8]; rfl))
                clear hr6 hr8 hm0
                go_quiet (fail)
                go_wp2_with fail
                go_ret
                exact ⟨by rw [HF.out]; rfl, pw_below_drewN HBc.out _⟩
            · have hgb : decide (y1 ≤ p) = false := decide_eq_false hg
              have hr8 : rbad8 p y1 z (m + 1) = false := by unfold rbad8; rw [hgb]; simp
              have HN := Lib.hid (show ∀ k, k < (m + 1) + 1 → rokAt false l k = true from fun k hk => by
                rcases Nat.lt_succ_iff_lt_or_eq.1 hk with h | rfl
                · exact HI.out k h
                · unfold rokAt; rw [HE1.out, HE2.out, hr6, HP.out, HZ1.out, hr8]; rfl)
              clear hr6 hr8
              go_quiet (fail)
              go_wp2_with fail
              go_roundg gf
              case measure => omega
              case rel => exact ⟨(m + 1) + 1, by omega, by omega, by go_num, HN, Lib.hid (pw_below_drewN HBc.out _)⟩
    · have hltz : ¬ (i : Int) < (l.length : Int) := by omega
      obtain rfl : i = l.length := by omega
      have HF := Lib.hid (rtab_end (tags := false) (by obtain ⟨a, b, c⟩ := HLEN.out; exact ⟨a, b, fun e => by first | exact c trivial | exact c rfl | cases e⟩) HI.out)
      have z0 := HZ.out _ HB.out
      generalize (l.getD 0 zP).1 = z at HF z0
      go_wp2_with fail
      go_ret
      exact ⟨by rw [HF.out]; rfl, HB.out⟩
set_option maxHeartbeats 4000000 in
set_option maxRecDepth 100000 in
theorem rtable_true (l : List (Int × Int)) (A : Option Addr) (c : Nat) (w : World) (hC : kP.C w A l.length l) :
    Calls Tryz.prog 79 #[.slice A l.length c, .bool true] w fun e w' => e = .returned (.bool (rtab true l)) ∧ Below w.heap.size w w' := by
  have hmax : l.length ≤ 9223372036854775807 := hC.2.1
  have HC := Lib.hid hC
  clear hC
  go_enter Tryz.func79, Tryz.ntmps79
  by_cases h1 : (l.length : Int) < 1
  · have HF := Lib.hid (show rtab true l = false by unfold rtab; rw [decide_eq_false (by omega)]; rfl)
    go_wp2_with fail
    go_ret
    exact ⟨by rw [HF.out]; rfl, Below.refl _ _⟩
  by_cases h2 : (65536 : Int) < (l.length : Int)
  · have HF := Lib.hid (show rtab true l = false by unfold rtab; rw [decide_eq_false (by omega)]; rfl)
    go_wp2_with fail
    go_ret
    exact ⟨by rw [HF.out]; rfl, Below.refl _ _⟩
  by_cases h3 : (257 : Int) < (l.length : Int)
  · have HF := Lib.hid (show rtab true l = false by unfold rtab; rw [decide_eq_false (fun h => by have := h.2.2 rfl; omega)]; rfl)
    go_wp2_with fail
    go_ret
    exact ⟨by rw [HF.out]; rfl, Below.refl _ _⟩
  have HLEN := Lib.hid (show 1 ≤ l.length ∧ l.length ≤ 65536 ∧ (true = true → l.length ≤ 257) from ⟨by omega, by omega, fun h => by first | omega | cases h⟩)
  obtain ⟨ad, hA, _, _⟩ := at_P HC.out 0 (by omega)
  subst hA
  have z0 := (at_Pl HC.out ad rfl 0 (by omega)).1
  rw [Nat.zero_mul, add0 ad] at z0
  have HZ := Lib.hid (fun W (hb : Below w.heap.size w W) => pw_cell_below hb z0)
  clear z0
  go_wp2_with fail
  go_loopg [5] (l.length + 1) (fun gg s5 wr => ∃ (i : Nat), i ≤ l.length ∧ l.length - i < gg ∧ s5 = .int .i64 i ∧ Hid (∀ k, k < i → rokAt true l k = true) ∧ Hid (Below w.heap.size w wr))
  case atStart => exact ⟨0, Nat.zero_le _, by omega, rfl, Lib.hid (fun k h => by omega), Lib.hid (Below.refl _ _)⟩
  case round =>
    obtain ⟨i, hi, hgg, rfl, HI, HB⟩ := hrel
    rcases gk with _ | gf
    · omega
    by_cases hlt : i < l.length
    · have hltz : (i : Int) < (l.length : Int) := by omega
      have hiz : (0 : Int) ≤ (i : Int) := by omega
      rcases i with _ | m
      · clear hiz
        obtain ⟨c0, c1⟩ := at_Pl HC.out ad rfl 0 hlt
        rw [Nat.zero_mul, add0 ad] at c0 c1
        generalize hy1 : (l.getD 0 zP).1 = y1 at c0
        generalize hy2 : (l.getD 0 zP).2 = y2 at c1
        have HC0 := Lib.hid (fun W (hb : Below w.heap.size w W) => pw_cell_below hb c0)
        have HC1 := Lib.hid (fun W (hb : Below w.heap.size w W) => pw_cell_below hb c1)
        have HE1 := Lib.hid hy1
        have HE2 := Lib.hid hy2
        clear c0 c1 hy1 hy2
        go_upto_region 6 with (fail)
        go_cut [5, 66] from 22 to 94 (fun s5 s66 wx => s5 = .int .i64 ((0 : Nat) : Int) ∧ s66 = .bool (!rok6 true y1 y2 0) ∧ Hid (Below w.heap.size w wx))
        case first =>
          have c0 := HC0.out _ HB.out
          have c1 := HC1.out _ HB.out
          go_wp2_with fail
          refine (rin_calls 0 y2 65536 wr).mono ?_
          rintro e w2 ⟨rfl, hb2⟩
          have HB2 := Lib.hid (bel2 HB.out hb2)
          clear hb2 c0 c1
          have c0 := HC0.out _ HB2.out
          have c1 := HC1.out _ HB2.out
          cases hi1 : decide (0 ≤ y2 ∧ y2 ≤ 65536) with
          | false =>
            have HR := Lib.hid (show rok6 true y1 y2 0 = false by unfold rok6; rw [hi1]; rfl)
            go_wp2_with fail
            go_meet
            exact ⟨by simp, by rw [HR.out]; first | rfl | simp [hm], HB2⟩
          | true =>
            by_cases hm : y1 = -1
            · have hmb : (y1 == -1) = true := beq_iff_eq.2 hm
              have HR := Lib.hid (show rok6 true y1 y2 0 = true by unfold rok6; rw [hi1, hmb]; rfl)
              go_wp2_with fail
              go_meet
              exact ⟨by simp, by rw [HR.out]; first | rfl | simp [hm], HB2⟩
            · have hmb : (y1 == -1) = false := beq_eq_false_iff_ne.2 hm
              go_wp2_with fail
              refine (rin_calls 0 y1 255 w2).mono ?_
              rintro e w3 ⟨rfl, hb3⟩
              have HB3 := Lib.hid (bel2 HB2.out hb3)
              clear hb3
              cases hi2 : decide (0 ≤ y1 ∧ y1 ≤ 255) with
              | false =>
                have HR := Lib.hid (show rok6 true y1 y2 0 = false by unfold rok6; rw [hi1, hmb, hi2]; rfl)
                go_wp2_with fail
                go_meet
                exact ⟨by simp, by rw [HR.out]; first | rfl | simp [hm], HB3⟩
              | true =>
                have HR := Lib.hid (show rok6 true y1 y2 0 = true by unfold rok6; rw [hi1, hmb, hi2]; rfl)
                go_wp2_with fail
                go_meet
                exact ⟨by simp, by rw [HR.out]; first | rfl | simp [hm], HB3⟩
        case rest =>
          obtain ⟨rfl, rfl, HBc⟩ := hcut
          cases hr6 : rok6 true y1 y2 0 with
          | false =>
            have HF := Lib.hid (rtab_at (tags := true) hlt (by unfold rokAt; rw [HE1.out, HE2.out, hr6]; rfl))
            clear hr6
            go_wp2_with fail
            go_ret
            exact ⟨by rw [HF.out]; rfl, HBc.out⟩
          | true =>
            go_upto_region 8 with (fail)
            have HN := Lib.hid (show ∀ k, k < 0 + 1 → rokAt true l k = true from fun k hk => by
              rcases Nat.lt_succ_iff_lt_or_eq.1 hk with h | rfl
              · exact HI.out k h
              · unfold rokAt; rw [HE1.out, HE2.out, hr6]; rfl)
            clear hr6
            go_quiet (fail)
            go_wp2_with fail
            go_roundg gf
            case measure => omega
            case rel => exact ⟨0 + 1, by omega, by omega, by go_num, HN, Lib.hid (pw_below_drewN HBc.out _)⟩
      · clear hiz
        obtain ⟨c0, c1⟩ := at_Pl HC.out ad rfl (m + 1) hlt
        generalize hy1 : (l.getD (m + 1) zP).1 = y1 at c0
        generalize hy2 : (l.getD (m + 1) zP).2 = y2 at c1
        have HC0 := Lib.hid (fun W (hb : Below w.heap.size w W) => pw_cell_below hb c0)
        have HC1 := Lib.hid (fun W (hb : Below w.heap.size w W) => pw_cell_below hb c1)
        have HE1 := Lib.hid hy1
        have HE2 := Lib.hid hy2
        clear c0 c1 hy1 hy2
        go_upto_region 6 with (fail)
        go_cut [5, 66] from 22 to 94 (fun s5 s66 wx => s5 = .int .i64 (((m + 1) : Nat) : Int) ∧ s66 = .bool (!rok6 true y1 y2 (m + 1)) ∧ Hid (Below w.heap.size w wx))
        case first =>
          have c0 := HC0.out _ HB.out
          have c1 := HC1.out _ HB.out
          go_wp2_with fail
          refine (rin_calls 0 y2 65536 wr).mono ?_
          rintro e w2 ⟨rfl, hb2⟩
          have HB2 := Lib.hid (bel2 HB.out hb2)
          clear hb2 c0 c1
          have c0 := HC0.out _ HB2.out
          have c1 := HC1.out _ HB2.out
          cases hi1 : decide (0 ≤ y2 ∧ y2 ≤ 65536) with
          | false =>
            have HR := Lib.hid (show rok6 true y1 y2 (m + 1) = false by unfold rok6; rw [hi1]; rfl)
            go_wp2_with fail
            go_meet
            exact ⟨by simp, by rw [HR.out]; first | rfl | simp [hm], HB2⟩
          | true =>
            by_cases hm : y1 = -1
            · have hmb : (y1 == -1) = true := beq_iff_eq.2 hm
              have HR := Lib.hid (show rok6 true y1 y2 (m + 1) = false by unfold rok6; rw [hi1, hmb]; rfl)
              go_wp2_with fail
              go_meet
              exact ⟨by simp, by rw [HR.out]; first | rfl | simp [hm], HB2⟩
            · have hmb : (y1 == -1) = false := beq_eq_false_iff_ne.2 hm
              go_wp2_with fail
              refine (rin_calls 0 y1 255 w2).mono ?_
              rintro e w3 ⟨rfl, hb3⟩
              have HB3 := Lib.hid (bel2 HB2.out hb3)
              clear hb3
              cases hi2 : decide (0 ≤ y1 ∧ y1 ≤ 255) with
              | false =>
                have HR := Lib.hid (show rok6 true y1 y2 (m + 1) = false by unfold rok6; rw [hi1, hmb, hi2]; rfl)
                go_wp2_with fail
                go_meet
                exact ⟨by simp, by rw [HR.out]; first | rfl | simp [hm], HB3⟩
              | true =>
                have HR := Lib.hid (show rok6 true y1 y2 (m + 1) = true by unfold rok6; rw [hi1, hmb, hi2]; rfl)
                go_wp2_with fail
                go_meet
                exact ⟨by simp, by rw [HR.out]; first | rfl | simp [hm], HB3⟩
        case rest =>
          obtain ⟨rfl, rfl, HBc⟩ := hcut
          cases hr6 : rok6 true y1 y2 (m + 1) with
          | false =>
            have HF := Lib.hid (rtab_at (tags := true) hlt (by unfold rokAt; rw [HE1.out, HE2.out, hr6]; rfl))
            clear hr6
            go_wp2_with fail
            go_ret
            exact ⟨by rw [HF.out]; rfl, HBc.out⟩
          | true =>
            go_upto_region 8 with (fail)
            have c0 := HC0.out _ HBc.out
            have z0 := HZ.out _ HBc.out
            generalize hz1 : (l.getD 0 zP).1 = z at z0
            have HZ1 := Lib.hid hz1
            clear hz1
            obtain ⟨p0, _⟩ := at_Pl HC.out ad rfl m (by omega)
            replace p0 := pw_cell_below HBc.out p0
            generalize hp : (l.getD m zP).1 = p at p0
            have HP := Lib.hid (show (l.getD (m + 1 - 1) zP).1 = p from hp)
            clear hp
            have q1 : IntKind.i64.wrap (m : Int) = (m : Int) := IntWalk.i64_in _ (by omega)
            have q2 : (0 : Int) ≤ (m : Int) := by omega
            have q3 : (m : Int) < (l.length : Int) := by omega
            have q4 : (m : Int) + 1 < (l.length : Int) := by omega
            have q5 : (0 : Int) ≤ (m : Int) + 1 := by omega
            have q7 : (0 : Int) < (m : Int) + 1 := by omega
            have q8 : (0 : Int) < (l.length : Int) := by omega
            have q9 : ((m : Int) + 1).toNat = m + 1 := by omega
            by_cases hg : y1 ≤ p
            · have hgb : decide (y1 ≤ p) = true := decide_eq_true hg
              cases hm1 : ((m : Int) + 1 == 1) with
              | true =>
                have hm0 : m = 0 := by have := beq_iff_eq.1 hm1; omega
                by_cases hz : z = -1
                · have hzb : (z == -1) = true := beq_iff_eq.2 hz
                  have hr8 : rbad8 p y1 z (m + 1) = false := by unfold rbad8; rw [hgb, hzb, hm0]; simp
                  have HN := Lib.hid (show ∀ k, k < (m + 1) + 1 → rokAt true l k = true from fun k hk => by
                    rcases Nat.lt_succ_iff_lt_or_eq.1 hk with h | rfl
                    · exact HI.out k h
                    · unfold rokAt; rw [HE1.out, HE2.out, hr6, HP.out, HZ1.out, hr8]; rfl)
                  clear hr6 hm0 hr8
                  go_quiet (fail)
                  go_wp2_with fail
                  go_roundg gf
                  case measure => omega
                  case rel => exact ⟨(m + 1) + 1, by omega, by omega, by go_num, HN, Lib.hid (pw_below_drewN HBc.out _)⟩
                · have hzb : (z == -1) = false := beq_eq_false_iff_ne.2 hz
                  have hr8 : rbad8 p y1 z (m + 1) = true := by unfold rbad8; rw [hgb, hzb]; simp
                  have HF := Lib.hid (rtab_at (tags := true) hlt (by unfold rokAt; rw [HE1.out, HE2.out, hr6, HP.out, HZ1.out, hr8]; rfl))
                  clear hr6 hr8 hm0
                  go_quiet (fail)
                  go_wp2_with fail
                  go_ret
                  exact ⟨by rw [HF.out]; rfl, pw_below_drewN HBc.out _⟩
              | false =>
                have hm0 : ¬ m + 1 = 1 := fun h => by rw [show (m : Int) + 1 = 1 by omega] at hm1; exact absurd hm1 (by decide)
                have hr8 : rbad8 p y1 z (m + 1) = true := by unfold rbad8; rw [hgb, decide_eq_false hm0]; simp
                have HF := Lib.hid (rtab_at (tags := true) hlt (by unfold rokAt; rw [HE1.out, HE2.out, hr6, HP.out, HZ1.out, hr8]; rfl))
                clear hr6 hr8 hm0
                go_quiet (fail)
                go_wp2_with fail
                go_ret
                exact ⟨by rw [HF.out]; rfl, pw_below_drewN HBc.out _⟩
            · have hgb : decide (y1 ≤ p) = false := decide_eq_false hg
              have hr8 : rbad8 p y1 z (m + 1) = false := by unfold rbad8; rw [hgb]; simp
              have HN := Lib.hid (show ∀ k, k < (m + 1) + 1 → rokAt true l k = true from fun k hk => by
                rcases Nat.lt_succ_iff_lt_or_eq.1 hk with h | rfl
                · exact HI.out k h
                · unfold rokAt; rw [HE1.out, HE2.out, hr6, HP.out, HZ1.out, hr8]; rfl)
              clear hr6 hr8
              go_quiet (fail)
              go_wp2_with fail
              go_roundg gf
              case measure => omega
              case rel => exact ⟨(m + 1) + 1, by omega, by omega, by go_num, HN, Lib.hid (pw_below_drewN HBc.out _)⟩
    · have hltz : ¬ (i : Int) < (l.length : Int) := by omega
      obtain rfl : i = l.length := by omega
      have HF := Lib.hid (rtab_end (tags := true) (by obtain ⟨a, b, c⟩ := HLEN.out; exact ⟨a, b, fun e => by first | exact c trivial | exact c rfl | cases e⟩) HI.out)
      have z0 := HZ.out _ HB.out
      generalize (l.getD 0 zP).1 = z at HF z0
      go_wp2_with fail
      go_ret
      exact ⟨by rw [HF.out]; rfl, HB.out⟩
end Go.Proofs.YtcmhibcoccdmaaaGreatDoor.P
