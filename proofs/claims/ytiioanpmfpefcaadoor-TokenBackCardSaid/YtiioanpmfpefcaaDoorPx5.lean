/- The reference's Unescape (function 51), by hand: it answers as 'unesc' of the text GlyB does. Takes the place of the printed text of that name, whose walk does not end. -/
import Derived.Test.YtiioanpmfpefcaaDoorPx4
import Derived.Test.YtiioanpmfpefcaaDoorGlyB
namespace Go.Proofs.YtiioanpmfpefcaaDoor.P
open Go.RowKit Go.Proofs.YtiioanpmfpefcaaDoorW.PrintWords Go.Proofs.YtiioanpmfpefcaaDoorW.PrintLast Go.Proofs.YtiioanpmfpefcaaDoorW.PrintMore
attribute [local go_sem] max2_int min2_int max_two min_two max_three min_three max_four min_four
set_option linter.unusedVariables false
set_option linter.unusedSimpArgs false

theorem dig_nat : ∀ n : Nat, n < 256 → hammockref01_digit.f 1 (n : Int) = some (hxb n) := by decide +kernel
theorem dig_f (c : Int) (h0 : 0 ≤ c) (h1 : c < 256) : hammockref01_digit.f 1 c = some (hxb c) := by
  have := dig_nat c.toNat (by omega)
  rwa [Int.toNat_of_nonneg h0] at this
theorem dig_calls (c : Int) (h0 : 0 ≤ c) (h1 : c < 256) (w : World) :
    Calls Tryd.prog 63 #[.int .u8 c] w fun e w' => e = .returned (.int .i64 (hxb c)) ∧ Drawn0 w w' :=
  hammockref01_digit.calls 1 c (hxb c) w (dig_f c h0 h1)

def hammockref01_Unescape.f (_k : Nat) (a0 : ByteArray) (a1 : Int) : Option (Int × Int × Bool) := if a0.size ≤ 140737488355328 then some (unesc a0 a1) else none
theorem hammockref01_Unescape.mono : ∀ a0 a1 k, LeO (hammockref01_Unescape.f k a0 a1) (hammockref01_Unescape.f (k + 1) a0 a1) := fun _ _ _ => LeO.refl _

def UnD (s : ByteArray) (i : Int) (w : World) (e : Ending) (w' : World) : Prop :=
  e = .returned (.tuple #[.int .u8 (unesc s i).1, .int .i64 (unesc s i).2.1, .bool (unesc s i).2.2]) ∧ Drawn0 w w'
theorem UnD.mk {s : ByteArray} {i : Int} {w w' : World} {a b : Int} {c : Bool} (h : unesc s i = (a, b, c)) (hb : Drawn0 w w') : UnD s i w (.returned (.tuple #[.int .u8 a, .int .i64 b, .bool c])) w' := by
  unfold UnD; rw [h]; exact ⟨rfl, hb⟩

set_option maxHeartbeats 1000000 in
set_option maxRecDepth 100000 in
theorem ud_out (s : ByteArray) (i : Int) (w : World) (h : i < 0 ∨ (s.size : Int) ≤ i) :
    Calls Tryd.prog 51 #[.string s, .int .i64 i] w (UnD s i w) := by
  have H : Hid (unesc s i = (0, i, false)) := Lib.hid (by unfold unesc; rw [if_pos h])
  by_cases h1 : i < 0
  · clear h
    go_enter Tryd.func51, Tryd.ntmps51
    go_wp2
    go_ret3
    exact UnD.mk H.out (by repeat (first | exact Drawn0.refl _ | apply Drawn0.step))
  · have h2 : (s.size : Int) ≤ i := by omega
    clear h
    go_enter Tryd.func51, Tryd.ntmps51
    go_wp2
    go_ret3
    exact UnD.mk H.out (by repeat (first | exact Drawn0.refl _ | apply Drawn0.step))

set_option maxHeartbeats 1000000 in
set_option maxRecDepth 100000 in
theorem ud_plain (s : ByteArray) (i : Int) (w : World) (hs : s.size ≤ 140737488355328) (h0 : 0 ≤ i) (h1 : i < s.size) (h : bt s i < 32 ∨ 126 < bt s i ∨ bt s i ≠ 92) :
    Calls Tryd.prog 51 #[.string s, .int .i64 i] w (UnD s i w) := by
  have e1 : ¬ (i < 0 ∨ (s.size : Int) ≤ i) := by omega
  have hx := bt_at s i
  by_cases h2 : bt s i < 32
  · have H : Hid (unesc s i = (0, i, false)) := Lib.hid (by unfold unesc; rw [if_neg e1, if_pos (.inl h2)])
    clear h e1
    go_enter Tryd.func51, Tryd.ntmps51
    go_wp2
    go_ret3
    exact UnD.mk H.out (by repeat (first | exact Drawn0.refl _ | apply Drawn0.step))
  by_cases h3 : 126 < bt s i
  · have H : Hid (unesc s i = (0, i, false)) := Lib.hid (by unfold unesc; rw [if_neg e1, if_pos (.inr h3)])
    clear h e1
    go_enter Tryd.func51, Tryd.ntmps51
    go_wp2
    go_ret3
    exact UnD.mk H.out (by repeat (first | exact Drawn0.refl _ | apply Drawn0.step))
  have h4 : bt s i ≠ 92 := by omega
  have h5 : (bt s i != 92) = true := bne_iff_ne.2 h4
  have H : Hid (unesc s i = (bt s i, i + 1, true)) := Lib.hid (by unfold unesc; rw [if_neg e1, if_neg (by omega), if_pos h4])
  have hw1 : IntKind.i64.wrap (i + 1) = i + 1 := by rw [IntKind.wrap_i64]; omega
  clear h e1 h4
  go_enter Tryd.func51, Tryd.ntmps51
  go_wp2
  repeat (go_quiet (fail); try go_wp2)
  go_ret3
  exact UnD.mk H.out (by repeat (first | exact Drawn0.refl _ | apply Drawn0.step))

theorem bt_rest (s : ByteArray) (i m : Nat) (h : i + m < s.size) : bt (s.extract i s.size) (m : Int) = bt s ((i + m : Nat) : Int) := by
  have e1 := bt_at (s.extract i s.size) m (by simp [ByteArray.size_extract]; omega)
  have e2 := bt_at s ((i + m : Nat) : Int) (by rw [Int.toNat_natCast]; exact h)
  rw [← e1, ← e2]
  simp only [Int.toNat_natCast, ByteArray.getElem_extract]

set_option maxHeartbeats 1000000 in
set_option maxRecDepth 100000 in
theorem ud_back (s : ByteArray) (i : Int) (w : World) (hs : s.size ≤ 140737488355328) (h0 : 0 ≤ i) (h1 : i < s.size) (h : bt s i = 92) :
    Calls Tryd.prog 51 #[.string s, .int .i64 i] w (UnD s i w) := by
  have e1 : ¬ (i < 0 ∨ (s.size : Int) ≤ i) := by omega
  have hx := bt_at s i
  have h5 : (bt s i != 92) = false := by rw [h]; rfl
  have h2 : ¬ bt s i < 32 := by omega
  have h3 : ¬ 126 < bt s i := by omega
  have E : Hid (unesc s i = if i + 1 = s.size then (0, i, false)
      else if findFst (bt s (i + 1)) < 5 then (psnd (findFst (bt s (i + 1))), i + 2, true)
      else if bt s (i + 1) ≠ 120 ∨ (s.size : Int) - i < 4 then (0, i, false)
      else if P.hx s (i + 2) < 0 ∨ P.hx s (i + 3) < 0 then (0, i, false)
      else (P.hx s (i + 2) * 16 + P.hx s (i + 3), i + 4, true)) := Lib.hid (by unfold unesc; rw [if_neg e1, if_neg (by omega), if_neg (by rw [h]; simp)])
  clear h e1
  have hw1 : IntKind.i64.wrap (i + 1) = i + 1 := by rw [IntKind.wrap_i64]; omega
  have hw2 : IntKind.i64.wrap (i + 2) = i + 2 := by rw [IntKind.wrap_i64]; omega
  have hw4 : IntKind.i64.wrap (i + 4) = i + 4 := by rw [IntKind.wrap_i64]; omega
  have p1 : 0 ≤ i + 1 := by omega
  have p2 : i + 1 ≤ (s.size : Int) := by omega
  have hsz : ((s.extract (i + 1).toNat s.size).size : Int) = s.size - (i + 1) := by simp [ByteArray.size_extract]; omega
  have hb : Hid (∀ m : Nat, i + 1 + m < s.size → bt (s.extract (i + 1).toNat s.size) m = bt s (i + 1 + m)) := Lib.hid (fun m hm => by
    have := bt_rest s (i + 1).toNat m (by omega)
    rw [this]; congr 1; omega)
  go_enter Tryd.func51, Tryd.ntmps51
  go_upto_region 6 with (fail)
  generalize hr : s.extract (i + 1).toNat s.size = r at *
  clear hw1 p1 p2
  by_cases h6 : i + 1 = s.size
  · have h7 : ((r.size : Int) == 0) = true := by rw [hsz]; simp; omega
    have H : Hid (unesc s i = (0, i, false)) := Lib.hid (by rw [E.out, if_pos h6])
    clear h6 hsz hr
    go_wp2
    repeat (go_quiet (fail); try go_wp2)
    go_ret3
    exact UnD.mk H.out (by repeat (first | exact Drawn0.refl _ | apply Drawn0.step))
  have h7 : ((r.size : Int) == 0) = false := by rw [hsz]; simp; omega
  have H1 : Hid (unesc s i = if findFst (bt s (i + 1)) < 5 then (psnd (findFst (bt s (i + 1))), i + 2, true)
      else if bt s (i + 1) ≠ 120 ∨ (s.size : Int) - i < 4 then (0, i, false)
      else if P.hx s (i + 2) < 0 ∨ P.hx s (i + 3) < 0 then (0, i, false)
      else (P.hx s (i + 2) * 16 + P.hx s (i + 3), i + 4, true)) := Lib.hid (by rw [E.out, if_neg h6])
  clear E
  have q0 : (0 < r.size) = True := eq_true (by omega)
  have qi0 : (0 < (r.size : Int)) = True := eq_true (by omega)
  have hx0 : ∀ h : 0 < r.size, ((r[0]'h).toNat : Int) = bt s (i + 1) := fun h => by
    have e := bt_at r 0 h
    have e' := hb.out 0 (by omega)
    rw [show i + 1 + ((0 : Nat) : Int) = i + 1 by omega] at e'
    exact e.trans e'
  have hc0 : 0 ≤ bt s (i + 1) := (bt_range _ _).1
  have hc1 : bt s (i + 1) < 256 := by have := (bt_range s (i + 1)).2; omega
  have HS := Lib.hid hsz
  clear h6 hsz hr
  obtain ⟨c, hc⟩ : ∃ c, bt s (i + 1) = c := ⟨_, rfl⟩
  rw [hc] at H1 hx0 hc0 hc1
  by_cases d1 : c = 110
  · subst d1
    have H : Hid (unesc s i = (10, i + 2, true)) := Lib.hid (by rw [H1.out]; rfl)
    clear H1 hb hc
    go_wp2
    repeat (go_quiet (fail); try go_wp2)
    go_ret3
    exact UnD.mk H.out (by repeat (first | exact Drawn0.refl _ | apply Drawn0.step))
  by_cases d2 : c = 116
  · subst d2
    have H : Hid (unesc s i = (9, i + 2, true)) := Lib.hid (by rw [H1.out]; rfl)
    clear H1 hb hc
    go_wp2
    repeat (go_quiet (fail); try go_wp2)
    go_ret3
    exact UnD.mk H.out (by repeat (first | exact Drawn0.refl _ | apply Drawn0.step))
  by_cases d3 : c = 92
  · subst d3
    have H : Hid (unesc s i = (92, i + 2, true)) := Lib.hid (by rw [H1.out]; rfl)
    clear H1 hb hc
    go_wp2
    repeat (go_quiet (fail); try go_wp2)
    go_ret3
    exact UnD.mk H.out (by repeat (first | exact Drawn0.refl _ | apply Drawn0.step))
  by_cases d4 : c = 39
  · subst d4
    have H : Hid (unesc s i = (39, i + 2, true)) := Lib.hid (by rw [H1.out]; rfl)
    clear H1 hb hc
    go_wp2
    repeat (go_quiet (fail); try go_wp2)
    go_ret3
    exact UnD.mk H.out (by repeat (first | exact Drawn0.refl _ | apply Drawn0.step))
  by_cases d5 : c = 34
  · subst d5
    have H : Hid (unesc s i = (34, i + 2, true)) := Lib.hid (by rw [H1.out]; rfl)
    clear H1 hb hc
    go_wp2
    repeat (go_quiet (fail); try go_wp2)
    go_ret3
    exact UnD.mk H.out (by repeat (first | exact Drawn0.refl _ | apply Drawn0.step))
  have b1 : (c == 110) = false := beq_eq_false_iff_ne.2 d1
  have b2 : (c == 116) = false := beq_eq_false_iff_ne.2 d2
  have b3 : (c == 92) = false := beq_eq_false_iff_ne.2 d3
  have b4 : (c == 39) = false := beq_eq_false_iff_ne.2 d4
  have b5 : (c == 34) = false := beq_eq_false_iff_ne.2 d5
  have H2 : Hid (unesc s i = if c ≠ 120 ∨ (s.size : Int) - i < 4 then (0, i, false)
      else if P.hx s (i + 2) < 0 ∨ P.hx s (i + 3) < 0 then (0, i, false)
      else (P.hx s (i + 2) * 16 + P.hx s (i + 3), i + 4, true)) := Lib.hid (by
    rw [H1.out, if_neg]
    refine findFst_none c fun m hm => ?_
    match m, hm with
    | 0, _ => exact b1
    | 1, _ => exact b2
    | 2, _ => exact b3
    | 3, _ => exact b4
    | 4, _ => exact b5)
  clear H1 d1 d2 d3 d4 d5
  by_cases d6 : c = 120
  · subst d6
    clear b1 b2 b3 b4 b5
    by_cases d7 : (s.size : Int) - i < 4
    · have H : Hid (unesc s i = (0, i, false)) := Lib.hid (by rw [H2.out]; exact if_pos (.inr d7))
      have g7 : decide (3 ≤ (r.size : Int)) = false := decide_eq_false (by have := HS.out; omega)
      clear H2 hb hc d7
      go_wp2
      repeat (go_quiet (fail); try go_wp2)
      go_ret3
      exact UnD.mk H.out (by repeat (first | exact Drawn0.refl _ | apply Drawn0.step))
    · have HE : Hid (unesc s i = if P.hx s (i + 2) < 0 ∨ P.hx s (i + 3) < 0 then (0, i, false)
          else (P.hx s (i + 2) * 16 + P.hx s (i + 3), i + 4, true)) := Lib.hid (by rw [H2.out]; exact if_neg (by omega))
      have g7 : decide (3 ≤ (r.size : Int)) = true := decide_eq_true (by have := HS.out; omega)
      have y1 : (1 < r.size) = True := eq_true (by have := HS.out; omega)
      have yi1 : (1 < (r.size : Int)) = True := eq_true (by have := HS.out; omega)
      have y2 : (2 < r.size) = True := eq_true (by have := HS.out; omega)
      have yi2 : (2 < (r.size : Int)) = True := eq_true (by have := HS.out; omega)
      have z1 : ∀ h : 1 < r.size, ((r[1]'h).toNat : Int) = bt s (i + 2) := fun h => by
        have e := bt_at r 1 h
        have e' := hb.out 1 (by omega)
        rw [show i + 1 + ((1 : Nat) : Int) = i + 2 by omega] at e'
        exact e.trans e'
      have z2 : ∀ h : 2 < r.size, ((r[2]'h).toNat : Int) = bt s (i + 3) := fun h => by
        have e := bt_at r 2 h
        have e' := hb.out 2 (by omega)
        rw [show i + 1 + ((2 : Nat) : Int) = i + 3 by omega] at e'
        exact e.trans e'
      have u1 : 0 ≤ bt s (i + 2) := (bt_range _ _).1
      have u2 : bt s (i + 2) < 256 := by have := (bt_range s (i + 2)).2; omega
      have u3 : 0 ≤ bt s (i + 3) := (bt_range _ _).1
      have u4 : bt s (i + 3) < 256 := by have := (bt_range s (i + 3)).2; omega
      unfold P.hx at HE
      obtain ⟨b1, hb1⟩ : ∃ b, bt s (i + 2) = b := ⟨_, rfl⟩
      obtain ⟨b2, hb2⟩ : ∃ b, bt s (i + 3) = b := ⟨_, rfl⟩
      rw [hb1] at HE z1 u1 u2
      rw [hb2] at HE z2 u3 u4
      have g1 := hxb_lt b1
      have g2 := hxb_ge b1
      have g3 := hxb_lt b2
      have g4 := hxb_ge b2
      have K1 := dig_calls b1 u1 u2
      have K2 := dig_calls b2 u3 u4
      obtain ⟨v1, hv1⟩ : ∃ b, hxb b1 = b := ⟨_, rfl⟩
      obtain ⟨v2, hv2⟩ : ∃ b, hxb b2 = b := ⟨_, rfl⟩
      rw [hv1] at HE g1 g2 K1
      rw [hv2] at HE g3 g4 K2
      have K1 := Lib.hid K1
      have K2 := Lib.hid K2
      clear H2 hb hb1 hb2 hc d7 HS
      by_cases w1 : v1 < 0
      · have x1 : decide (0 ≤ v1) = false := decide_eq_false (by omega)
        have H : Hid (unesc s i = (0, i, false)) := Lib.hid (by rw [HE.out]; exact if_pos (.inl w1))
        clear HE w1
        go_wp2_with ((go_at_call 63; (first | (with_reducible refine (K1.out _).mono ?_) | (with_reducible refine (K2.out _).mono ?_)); rintro e w' ⟨rfl, ⟨nd, rfl⟩⟩; (try first | exact ⟨rfl, _, World.drewN_drewN _ _ _⟩ | exact ⟨rfl, _, Eq.trans (World.drewN_drewN _ _ _) (congrArg (World.drewN _) (Nat.add_assoc _ _ _))⟩)))
        repeat (go_quiet ((go_at_call 63; (first | (with_reducible refine (K1.out _).mono ?_) | (with_reducible refine (K2.out _).mono ?_)); rintro e w' ⟨rfl, ⟨nd, rfl⟩⟩; (try first | exact ⟨rfl, _, World.drewN_drewN _ _ _⟩ | exact ⟨rfl, _, Eq.trans (World.drewN_drewN _ _ _) (congrArg (World.drewN _) (Nat.add_assoc _ _ _))⟩))); try go_wp2_with ((go_at_call 63; (first | (with_reducible refine (K1.out _).mono ?_) | (with_reducible refine (K2.out _).mono ?_)); rintro e w' ⟨rfl, ⟨nd, rfl⟩⟩; (try first | exact ⟨rfl, _, World.drewN_drewN _ _ _⟩ | exact ⟨rfl, _, Eq.trans (World.drewN_drewN _ _ _) (congrArg (World.drewN _) (Nat.add_assoc _ _ _))⟩))))
        go_ret3
        exact UnD.mk H.out (by repeat (first | exact Drawn0.refl _ | apply Drawn0.step))
      · have x1 : decide (0 ≤ v1) = true := decide_eq_true (by omega)
        by_cases w2 : v2 < 0
        · have x2 : decide (0 ≤ v2) = false := decide_eq_false (by omega)
          have H : Hid (unesc s i = (0, i, false)) := Lib.hid (by rw [HE.out]; exact if_pos (.inr w2))
          clear HE w1 w2
          go_wp2_with ((go_at_call 63; (first | (with_reducible refine (K1.out _).mono ?_) | (with_reducible refine (K2.out _).mono ?_)); rintro e w' ⟨rfl, ⟨nd, rfl⟩⟩; (try first | exact ⟨rfl, _, World.drewN_drewN _ _ _⟩ | exact ⟨rfl, _, Eq.trans (World.drewN_drewN _ _ _) (congrArg (World.drewN _) (Nat.add_assoc _ _ _))⟩)))
          repeat (go_quiet ((go_at_call 63; (first | (with_reducible refine (K1.out _).mono ?_) | (with_reducible refine (K2.out _).mono ?_)); rintro e w' ⟨rfl, ⟨nd, rfl⟩⟩; (try first | exact ⟨rfl, _, World.drewN_drewN _ _ _⟩ | exact ⟨rfl, _, Eq.trans (World.drewN_drewN _ _ _) (congrArg (World.drewN _) (Nat.add_assoc _ _ _))⟩))); try go_wp2_with ((go_at_call 63; (first | (with_reducible refine (K1.out _).mono ?_) | (with_reducible refine (K2.out _).mono ?_)); rintro e w' ⟨rfl, ⟨nd, rfl⟩⟩; (try first | exact ⟨rfl, _, World.drewN_drewN _ _ _⟩ | exact ⟨rfl, _, Eq.trans (World.drewN_drewN _ _ _) (congrArg (World.drewN _) (Nat.add_assoc _ _ _))⟩))))
          go_ret3
          exact UnD.mk H.out (by repeat (first | exact Drawn0.refl _ | apply Drawn0.step))
        · have x2 : decide (0 ≤ v2) = true := decide_eq_true (by omega)
          have H : Hid (unesc s i = (16 * v1 + v2, i + 4, true)) := Lib.hid (by rw [HE.out, if_neg (by omega), Int.mul_comm v1 16])
          have m1 : IntKind.i64.wrap (16 * v1) = 16 * v1 := by rw [IntKind.wrap_i64]; omega
          have m2 : IntKind.i64.wrap (16 * v1 + v2) = 16 * v1 + v2 := by rw [IntKind.wrap_i64]; omega
          have m3 : (16 * v1 + v2) % 256 = 16 * v1 + v2 := by omega
          clear HE w1 w2
          go_wp2_with ((go_at_call 63; (first | (with_reducible refine (K1.out _).mono ?_) | (with_reducible refine (K2.out _).mono ?_)); rintro e w' ⟨rfl, ⟨nd, rfl⟩⟩; (try first | exact ⟨rfl, _, World.drewN_drewN _ _ _⟩ | exact ⟨rfl, _, Eq.trans (World.drewN_drewN _ _ _) (congrArg (World.drewN _) (Nat.add_assoc _ _ _))⟩)))
          repeat (go_quiet ((go_at_call 63; (first | (with_reducible refine (K1.out _).mono ?_) | (with_reducible refine (K2.out _).mono ?_)); rintro e w' ⟨rfl, ⟨nd, rfl⟩⟩; (try first | exact ⟨rfl, _, World.drewN_drewN _ _ _⟩ | exact ⟨rfl, _, Eq.trans (World.drewN_drewN _ _ _) (congrArg (World.drewN _) (Nat.add_assoc _ _ _))⟩))); try go_wp2_with ((go_at_call 63; (first | (with_reducible refine (K1.out _).mono ?_) | (with_reducible refine (K2.out _).mono ?_)); rintro e w' ⟨rfl, ⟨nd, rfl⟩⟩; (try first | exact ⟨rfl, _, World.drewN_drewN _ _ _⟩ | exact ⟨rfl, _, Eq.trans (World.drewN_drewN _ _ _) (congrArg (World.drewN _) (Nat.add_assoc _ _ _))⟩))))
          go_ret3
          exact UnD.mk H.out (by repeat (first | exact Drawn0.refl _ | apply Drawn0.step))
  · have b6 : (c == 120) = false := beq_eq_false_iff_ne.2 d6
    have H : Hid (unesc s i = (0, i, false)) := Lib.hid (by rw [H2.out]; exact if_pos (.inl d6))
    clear H2 hb hc d6
    go_wp2
    repeat (go_quiet (fail); try go_wp2)
    go_ret3
    exact UnD.mk H.out (by repeat (first | exact Drawn0.refl _ | apply Drawn0.step))

theorem hammockref01_Unescape.calls (k : Nat) (a0 : ByteArray) (a1 : Int) (r1 : Int) (r2 : Int) (r3 : Bool) (w : World) (h : hammockref01_Unescape.f k a0 a1 = some (r1, r2, r3)) :
    Calls Tryd.prog 51 #[.string a0, .int .i64 a1] w fun e w' => e = .returned (.tuple #[.int .u8 r1, .int .i64 r2, .bool r3]) ∧ Drawn0 w w' := by
  unfold hammockref01_Unescape.f at h
  split at h
  next hs =>
    have h := Option.some.inj h
    have key : Calls Tryd.prog 51 #[.string a0, .int .i64 a1] w (UnD a0 a1 w) := by
      by_cases c1 : a1 < 0 ∨ (a0.size : Int) ≤ a1
      · exact ud_out a0 a1 w c1
      by_cases c2 : bt a0 a1 = 92
      · exact ud_back a0 a1 w hs (by omega) (by omega) c2
      · exact ud_plain a0 a1 w hs (by omega) (by omega) (.inr (.inr c2))
    refine key.mono ?_
    intro e w' he
    unfold UnD at he
    rw [h] at he
    exact he
  next => exact absurd h (by simp)
end Go.Proofs.YtiioanpmfpefcaaDoor.P
