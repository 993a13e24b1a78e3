/- The reference's fine (of one global), its pair. -/
import Derived.Test.YtcmhibcoccdmaaaGreatDoorRfC
import Derived.Test.YtcmhibcoccdmaaaGreatDoorInK
import Derived.Deep.DeepCutAuto
namespace Go.Proofs.YtcmhibcoccdmaaaGreatDoor.P
open Go.RowKit Go.Shelf Go.Proofs.YtcmhibcoccdmaaaGreatDoorW.PrintWords Go.Proofs.YtcmhibcoccdmaaaGreatDoorW.PrintLast Go.Proofs.YtcmhibcoccdmaaaGreatDoor.Rw
set_option linter.unusedVariables false
set_option linter.unusedSimpArgs false
set_option maxHeartbeats 4000000 in
set_option maxRecDepth 100000 in
theorem rfine_calls (nm : ByteArray) (a e : Int) (g c : Nat) (w : World) (hs : nm.size ≤ 9223372036854775807) (hg : w.heap[g]? = some (.cells #[.string nm, .int .i64 a, .int .i64 e] 64 (0, 0))) :
    Calls Tryz.prog 58 #[.agg #[.slice (some ⟨g, 0, none⟩) 1 c, .slice none 0 0]] w fun x w' => x = .returned (.bool (globB nm a e)) ∧ Below w.heap.size w w' := by
  have hgl := lt_heap hg
  have HG := Lib.hid hg
  have HGB := Lib.hid (show globB nm a e = (decide (0 ≤ a ∧ a ≤ 255) && (decide (0 ≤ e ∧ e ≤ 65536) && nameB nm)) from rfl)
  clear hg
  go_enter Tryz.func58, Tryz.ntmps58
  have ha := (Below.refl _ w).alloc (Nat.le_refl _) (.cells #[.slice (some ⟨g, 0, none⟩) 1 c, .slice none 0 0] 32)
  have hx := heap_new w (.cells #[.slice (some ⟨g, 0, none⟩) 1 c, .slice none 0 0] 32)
  go_upto_region 3 with (fail)
  generalize w.alloc (.cells #[.slice (some ⟨g, 0, none⟩) 1 c, .slice none 0 0] 32) = w1 at ha hx ⊢
  have HA := Lib.hid ha
  have HX := Lib.hid hx
  clear ha hx
  go_wp2_with fail
  go_loopg [3] 2 (fun gg s3 wr => ∃ i : Nat, i ≤ 1 ∧ 1 - i < gg ∧ s3 = .int .i64 i ∧ Hid (i = 1 → globB nm a e = true) ∧ Hid (Below w.heap.size w wr) ∧ Hid (wr.heap[w.heap.size]? = some (.cells #[.slice (some ⟨g, 0, none⟩) 1 c, .slice none 0 0] 32 (0, 0))))
  case atStart => exact ⟨0, by omega, by omega, rfl, Lib.hid (fun h => by omega), HA, HX⟩
  case round =>
    obtain ⟨i, hi, hgg, rfl, HI, HB, HX1⟩ := hrel
    clear HA HX
    rcases gk with _ | gf
    · omega
    have x0 := cell_in HX1.out 0
    have x1 := cell_in HX1.out 1
    rcases i with _ | i
    · have g1 := (HB.out.block g hgl).trans HG.out
      have c0 := cell_in g1 0
      have c1 := cell_in g1 1
      have c2 := cell_in g1 2
      go_wp2_with fail
      refine (rin_calls 0 a 255 _).mono ?_
      rintro x w2 ⟨rfl, hb2⟩
      have HX2 := Lib.hid ((hb2.block w.heap.size (lt_heap HX1.out)).trans HX1.out)
      have HB2 := Lib.hid (bel2 HB.out hb2)
      clear hb2 x0 x1 c0 c1 c2 g1
      have x0 := cell_in HX2.out 0
      have x1 := cell_in HX2.out 1
      have g1 := (HB2.out.block g hgl).trans HG.out
      have c0 := cell_in g1 0
      have c1 := cell_in g1 1
      have c2 := cell_in g1 2
      cases h1 : decide (0 ≤ a ∧ a ≤ 255) with
      | false =>
        have HR := Lib.hid (show globB nm a e = false by rw [HGB.out, h1]; rfl)
        go_wp2_with fail
        go_ret
        exact ⟨by rw [HR.out]; rfl, HB2.out⟩
      | true =>
        go_wp2_with fail
        refine (rin_calls 0 e 65536 _).mono ?_
        rintro x w3 ⟨rfl, hb3⟩
        have HX3 := Lib.hid ((hb3.block w.heap.size (lt_heap HX2.out)).trans HX2.out)
        have HB3 := Lib.hid (bel2 HB2.out hb3)
        clear hb3 x0 x1 c0 c1 c2 g1
        have x0 := cell_in HX3.out 0
        have x1 := cell_in HX3.out 1
        have g1 := (HB3.out.block g hgl).trans HG.out
        have c0 := cell_in g1 0
        have c1 := cell_in g1 1
        have c2 := cell_in g1 2
        cases h2 : decide (0 ≤ e ∧ e ≤ 65536) with
        | false =>
          have HR := Lib.hid (show globB nm a e = false by rw [HGB.out, h1, h2]; rfl)
          go_wp2_with fail
          go_ret
          exact ⟨by rw [HR.out]; rfl, HB3.out⟩
        | true =>
          go_wp2_with fail
          refine (rname_calls nm hs _).mono ?_
          rintro x w4 ⟨rfl, hb4⟩
          have HX4 := Lib.hid ((hb4.block w.heap.size (lt_heap HX3.out)).trans HX3.out)
          have HB4 := Lib.hid (bel2 HB3.out hb4)
          clear hb4 x0 x1 c0 c1 c2 g1
          cases h3 : nameB nm with
          | false =>
            have HR := Lib.hid (show globB nm a e = false by rw [HGB.out, h1, h2, h3]; rfl)
            go_wp2_with fail
            go_ret
            exact ⟨by rw [HR.out]; rfl, HB4.out⟩
          | true =>
            have HR := Lib.hid (fun (_ : (0 + 1 : Nat) = 1) => (show globB nm a e = true by rw [HGB.out, h1, h2, h3]; rfl))
            go_wp2_with fail
            go_roundg gf
            case measure => omega
            case rel => exact ⟨0 + 1, by omega, by omega, by go_num, Lib.hid (fun _ => HR.out trivial), HB4, HX4⟩
    · obtain rfl : i = 0 := by omega
      have HR := Lib.hid (HI.out rfl)
      go_wp2_with fail
      go_loopg [4] 1 (fun gg s4 wz => gg = 1 ∧ s4 = .int .i64 0 ∧ wz = wr)
      case atStart => exact ⟨rfl, rfl, rfl⟩
      case round =>
        obtain ⟨rfl, rfl, rfl⟩ := hrel
        go_wp2_with fail
        go_ret
        exact ⟨by rw [HR.out]; rfl, HB.out⟩
theorem sl_to (s : ByteArray) (i : Nat) (p q : List UInt8) (h : s.data.toList = p ++ 58 :: q) (hp : p.length = i) : s.extract 0 i = ⟨p.toArray⟩ ∧ s.extract (i + 1) s.size = ⟨q.toArray⟩ := by
  have hsz : s.size = p.length + 1 + q.length := by rw [sizeL, h]; simp; omega
  constructor
  · apply ByteArray.ext
    apply Array.ext'
    rw [ByteArray.data_extract]
    simp only [Array.toList_extract, List.extract_eq_take_drop, h, List.drop_zero, Nat.sub_zero, ← hp, List.take_left]
  · apply ByteArray.ext
    apply Array.ext'
    rw [ByteArray.data_extract]
    simp only [Array.toList_extract, List.extract_eq_take_drop, h]
    rw [show p ++ 58 :: q = (p ++ [58]) ++ q by simp, List.drop_left' (by simp [hp]), List.take_of_length_le (by omega)]
set_option maxHeartbeats 8000000 in
set_option maxRecDepth 100000 in
/-- The reference's pair tells what the program's does. -/
theorem rpair_calls (s : ByteArray) (hs : s.size ≤ 100000000) (w : World) : Calls Tryz.prog 60 #[.string s] w (PairR s.data.toList w) := by
  go_enter Tryz.func60, Tryz.ntmps60
  have ha := (Below.refl _ w).alloc (Nat.le_refl _) (.cells #[.int .i64 0, .int .i64 0] 90)
  have hx := heap_new w (.cells #[.int .i64 0, .int .i64 0] 90)
  go_upto_region 1 with (fail)
  generalize hw1 : w.alloc (.cells #[.int .i64 0, .int .i64 0] 90) = w1 at ha hx ⊢
  clear hw1
  have HA := Lib.hid ha
  have HX := Lib.hid hx
  clear ha hx
  go_wp2_with fail
  go_loopg [4] (s.size + 1) (fun gg s4 wr => ∃ i : Nat, i ≤ s.size ∧ s.size - i < gg ∧ s4 = .int .i64 i ∧ Hid ((58 : UInt8) ∉ s.data.toList.take i) ∧ wr = w1)
  case atStart => exact ⟨0, Nat.zero_le _, by omega, rfl, Lib.hid (by simp), rfl⟩
  case round =>
    obtain ⟨i, hi, hgg, rfl, HI, rfl⟩ := hrel
    rcases gk with _ | gf
    · omega
    by_cases hlt : i < s.size
    · have hltz : (i : Int) < (s.size : Int) := by omega
      have hiz : (0 : Int) ≤ (i : Int) := by omega
      have hil : i < s.data.toList.length := by rw [← sizeL]; exact hlt
      have hsc : s.data.toList[i] = s[i] := by simp [ByteArray.getElem_eq_getElem_data]
      cases hb : ((s[i].toNat : Int) == 58) with
      | false =>
        have hc : ¬ s[i] = 58 := fun e => by rw [e] at hb; exact absurd hb (by decide)
        have HN := Lib.hid (show (58 : UInt8) ∉ s.data.toList.take (i + 1) by
          rw [List.take_succ_eq_append_getElem hil, hsc]
          intro h
          rcases List.mem_append.1 h with h | h
          · exact HI.out h
          · exact hc (List.mem_singleton.1 h).symm)
        clear hc hsc
        go_wp2_with fail
        go_roundg gf
        case measure => omega
        case rel => exact ⟨i + 1, by omega, by omega, by go_num, HN, rfl⟩
      | true =>
        have hc : s[i] = 58 := UInt8.toNat_inj.1 (by
          have := beq_iff_eq.1 hb
          rw [show (58 : UInt8).toNat = 58 from rfl]; omega)
        obtain ⟨p, q, hpq, hpl, hpn⟩ : ∃ p q : List UInt8, s.data.toList = p ++ 58 :: q ∧ p.length = i ∧ (58 : UInt8) ∉ p := ⟨s.data.toList.take i, s.data.toList.drop (i + 1), by
          rw [← hc, ← hsc, ← List.drop_eq_getElem_cons hil, List.take_append_drop], by rw [List.length_take]; omega, HI.out⟩
        obtain ⟨he1, he2⟩ := sl_to s i p q hpq hpl
        have hcut : Lib.cut s.data.toList [58] = (p, q, true) := by rw [hpq]; exact cut_hit 58 p q hpn
        have hP : pairP s.data.toList = (match numP q with
          | none => none
          | some t => if p = [95] then some (-1, t) else (match numP p with
            | none => none
            | some n => if n = -1 then none else some (n, t))) := by
          unfold pairP
          rw [hcut]
          rfl
        have HP := Lib.hid hP
        clear hP hcut hpq hpl hpn hc hsc HI
        have i1 : (i : Int) + 1 ≤ (s.size : Int) := by omega
        have i2 : (0 : Int) ≤ (i : Int) + 1 := by omega
        have i3 : ((i : Int) + 1).toNat = i + 1 := by omega
        have i4 : (i : Int) ≤ (s.size : Int) := by omega
        go_wp2_with fail
        refine (rnumber_calls ⟨q.toArray⟩ _).mono ?_
        rintro x w2 ⟨tn, rfl, hto, hb2⟩
        have hdq : (⟨q.toArray⟩ : ByteArray).data.toList = q := rfl
        rw [hdq] at hto ⊢
        have HX2 := Lib.hid ((hb2.block w.heap.size (lt_heap HX.out)).trans HX.out)
        have HB2 := Lib.hid (bel2 HA.out hb2)
        clear hb2 he2
        have HTO := Lib.hid hto
        clear hto
        by_cases hp : p = [95]
        · have hp1 : (p == [95]) = true := beq_iff_eq.2 hp
          have HR := Lib.hid (show pairP s.data.toList = (numP q).map (fun t => ((-1 : Int), t)) by
            rw [HP.out]
            cases numP q with
            | none => rfl
            | some t => simp only [if_pos hp]; rfl)
          have HI := Lib.hid (show (pairP s.data.toList).isSome = (numP q).isSome by rw [HR.out]; simp)
          have HV := Lib.hid (show ∀ v, pairP s.data.toList = some v → v = (-1, tn) from fun v hv => by
            rw [HR.out] at hv
            obtain ⟨t, ht, rfl⟩ := Option.map_eq_some_iff.1 hv
            rw [HTO.out t ht])
          clear hp HR HTO HP
          have z0 := cell_in HX2.out 0
          have z1 := cell_in HX2.out 1
          have f0 := blk_frozen HX2.out 0
          have f1 := blk_frozen HX2.out 1
          generalize (numP q).isSome = nb at HI ⊢
          have hset := heap_set (heap_set HX2.out 0 (.int .i64 (-1))) 1 (.int .i64 tn)
          have hbel : Below w.heap.size w ((w2.setCell ⟨w.heap.size, 0, none⟩ (.int .i64 (-1))).setCell ⟨w.heap.size, 1, none⟩ (.int .i64 tn)) := (HB2.out.setCell (p := ⟨w.heap.size, 0, none⟩) (Nat.le_refl _) _).setCell (p := ⟨w.heap.size, 1, none⟩) (Nat.le_refl _) _
          have q0 := cell_in hset 0
          have q1 := cell_in hset 1
          have HBL := Lib.hid hbel
          clear hbel hset
          go_wp2_with fail
          exact bodyPost_ret (v := .tuple #[.agg #[.int .i64 (-1), .int .i64 tn], .bool (pairP s.data.toList).isSome]) (by rw [HI.out]; simp [results, Tryz.results60, go_sem, q0, q1]) rfl ⟨-1, tn, rfl, HV.out, HBL.out⟩
        · have hp1 : (p == [95]) = false := beq_eq_false_iff_ne.2 hp
          have HPN := Lib.hid hp
          clear hp
          go_wp2_with fail
          refine (rnumber_calls ⟨p.toArray⟩ _).mono ?_
          rintro x w3 ⟨na, rfl, hna, hb3⟩
          have hdp : (⟨p.toArray⟩ : ByteArray).data.toList = p := rfl
          rw [hdp] at hna ⊢
          have HX3 := Lib.hid ((hb3.block w.heap.size (lt_heap HX2.out)).trans HX2.out)
          have HB3 := Lib.hid (bel2 HB2.out hb3)
          clear hb3 he1
          have hto := HTO.out
          have hV : ∀ v, pairP s.data.toList = some v → v = (na, tn) := by
            rw [HP.out]
            intro v hv
            cases h1 : numP q with
            | none => rw [h1] at hv; cases hv
            | some t =>
              rw [h1] at hv
              simp only [if_neg HPN.out] at hv
              cases h2 : numP p with
              | none => rw [h2] at hv; cases hv
              | some n =>
                rw [h2] at hv
                simp only at hv
                split at hv
                · cases hv
                · cases hv
                  rw [hto t h1, hna n h2]
          have hI : (pairP s.data.toList).isSome = ((numP q).isSome && ((numP p).isSome && !(na == -1))) := by
            rw [HP.out]
            cases h1 : numP q with
            | none => rfl
            | some t =>
              simp only [if_neg HPN.out]
              cases h2 : numP p with
              | none => rfl
              | some n =>
                have := hna n h2
                subst this
                simp only
                split
                · rename_i h3
                  rw [beq_iff_eq.2 h3]; rfl
                · rename_i h3
                  rw [beq_eq_false_iff_ne.2 h3]; rfl
          have HV := Lib.hid hV
          have HI := Lib.hid hI
          clear hV hI hto hna HTO HP
          have z0 := cell_in HX3.out 0
          have z1 := cell_in HX3.out 1
          have f0 := blk_frozen HX3.out 0
          have f1 := blk_frozen HX3.out 1
          generalize (numP q).isSome = nb at HI ⊢
          generalize (numP p).isSome = ma at HI ⊢
          have hset := heap_set (heap_set HX3.out 0 (.int .i64 na)) 1 (.int .i64 tn)
          have hbel : Below w.heap.size w ((w3.setCell ⟨w.heap.size, 0, none⟩ (.int .i64 na)).setCell ⟨w.heap.size, 1, none⟩ (.int .i64 tn)) := (HB3.out.setCell (p := ⟨w.heap.size, 0, none⟩) (Nat.le_refl _) _).setCell (p := ⟨w.heap.size, 1, none⟩) (Nat.le_refl _) _
          have q0 := cell_in hset 0
          have q1 := cell_in hset 1
          have HBL := Lib.hid hbel
          clear hbel hset
          cases nb
          all_goals (cases ma)
          all_goals (
            go_wp2_with fail
            exact bodyPost_ret (v := .tuple #[.agg #[.int .i64 na, .int .i64 tn], .bool (pairP s.data.toList).isSome]) (by rw [HI.out]; simp [results, Tryz.results60, go_sem, q0, q1]; try rfl) rfl ⟨na, tn, rfl, HV.out, HBL.out⟩)
    · have hltz : ¬ (i : Int) < (s.size : Int) := by omega
      obtain rfl : i = s.size := by omega
      have HN := Lib.hid (show pairP s.data.toList = none by
        have h := HI.out
        rw [sizeL, List.take_length] at h
        unfold pairP
        rw [cut_miss 58 _ h]
        rfl)
      have z0 := cell_in HX.out 0
      have z1 := cell_in HX.out 1
      have f0 := blk_frozen HX.out 0
      have f1 := blk_frozen HX.out 1
      have hset := heap_set (heap_set HX.out 0 (.int .i64 0)) 1 (.int .i64 0)
      have hbel : Below w.heap.size w ((wr.setCell ⟨w.heap.size, 0, none⟩ (.int .i64 0)).setCell ⟨w.heap.size, 1, none⟩ (.int .i64 0)) := (HA.out.setCell (p := ⟨w.heap.size, 0, none⟩) (Nat.le_refl _) _).setCell (p := ⟨w.heap.size, 1, none⟩) (Nat.le_refl _) _
      have q0 := cell_in hset 0
      have q1 := cell_in hset 1
      have HBL := Lib.hid hbel
      clear hbel hset
      go_wp2_with fail
      exact bodyPost_ret (v := .tuple #[.agg #[.int .i64 0, .int .i64 0], .bool (pairP s.data.toList).isSome]) (by rw [HN.out]; simp [results, Tryz.results60, go_sem, q0, q1]) rfl ⟨0, 0, rfl, by rw [HN.out]; simp, HBL.out⟩
end Go.Proofs.YtcmhibcoccdmaaaGreatDoor.P
