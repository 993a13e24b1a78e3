/- strings.Lines' iterator: the lines of a text. -/
import Derived.Test.YtcmhibcoccdmaaaGreatDoorInK
import Derived.Test.YtcmhibcoccdmaaaGreatDoorPlJ
namespace Go.Proofs.YtcmhibcoccdmaaaGreatDoor.P
open Go.RowKit Go.Shelf Go.Proofs.YtcmhibcoccdmaaaGreatDoorW.PrintWords Go.Proofs.YtcmhibcoccdmaaaGreatDoorW.PrintLast Go.Proofs.YtcmhibcoccdmaaaGreatDoor.Rw
set_option linter.unusedVariables false
set_option linter.unusedSimpArgs false
attribute [local go_sem] Oper.semAt_some
def lnV (t : List UInt8) : Value := .string ⟨t.toArray⟩
/-- A text in a box. -/
def Bt (g : Nat) (s : ByteArray) (w : World) : Prop := w.heap[g]? = some (.cells #[.string s] 9 (0, 0))
theorem Bt.c {g : Nat} {s : ByteArray} {w : World} (h : Bt g s w) : w.cell? ⟨g, 0, none⟩ = some (.string s) := cell_in h 0
theorem Bt.fz {g : Nat} {s : ByteArray} {w : World} (h : Bt g s w) : w.frozen? ⟨g, 0, none⟩ = false := blk_frozen h 0
theorem Bt.put {g : Nat} {s : ByteArray} {w : World} (h : Bt g s w) (t : ByteArray) : Bt g t (w.setCell ⟨g, 0, none⟩ (.string t)) := heap_set h 0 (.string t)
theorem lns_ix (r : ByteArray) (i : Nat) (h : Lib.indexByte r.data.toList 10 = (i : Int)) : lns r.data.toList = (r.extract 0 (i + 1)).data.toList :: lns (r.extract (i + 1) r.size).data.toList ∧ i < r.size := by
  obtain ⟨h1, h2⟩ := Lib.indexByte_some h
  obtain ⟨hi, he⟩ := List.getElem?_eq_some_iff.1 h1
  have hl : r.data.toList = r.data.toList.take i ++ 10 :: r.data.toList.drop (i + 1) := by
    rw [← he, ← List.drop_eq_getElem_cons hi, List.take_append_drop]
  have hn : (10 : UInt8) ∉ r.data.toList.take i := by
    intro hm
    obtain ⟨k, hk, hk2⟩ := List.getElem_of_mem hm
    rw [List.length_take] at hk
    rw [List.getElem_take] at hk2
    exact h2 k (by omega) (by rw [List.getElem?_eq_getElem (by omega), hk2])
  have e1 : (r.extract 0 (i + 1)).data.toList = r.data.toList.take i ++ [10] := by
    rw [Lib.extract_from_zero, List.take_add_one, h1]
    rfl
  have e2 : (r.extract (i + 1) r.size).data.toList = r.data.toList.drop (i + 1) := by
    rw [ByteArray.data_extract, Array.toList_extract, List.extract_eq_drop_take']
    rw [sizeL, List.take_of_length_le (by simp)]
  rw [e1, e2]
  refine ⟨?_, by rw [sizeL]; exact hi⟩
  conv => lhs; rw [hl]
  exact lns_hit _ _ hn
set_option maxHeartbeats 4000000 in
set_option maxRecDepth 100000 in
theorem lines1_calls (g B m l : Nat) (S : Nat → Prop) (s : ByteArray) (W : World) (J Jx : List Value → World → Prop) (hb : Bt g s W) (hgB : g < B) (hgS : ¬ S g) (hs : s.size ≤ 100000000)
    (hJ : ∀ pre A A', J pre A → Kp g A A' → J pre A')
    (hY : ∀ pre x rest W1, J pre W1 → (lns s.data.toList).map lnV = pre ++ x :: rest → YieldAt Fence.wide m Tryz.prog l #[x] W1 fun e W' => (e = .returned (.bool true) ∧ J (pre ++ [x]) W' ∧ KG B S W1 W') ∨ (e = .returned (.bool false) ∧ Jx (pre ++ [x]) W'))
    (h0 : J [] W) :
    Calls Tryz.prog 46 #[.func (.yield l) #[] #[], .pointer (some ⟨g, 0, none⟩)] W (SeqEnd ((lns s.data.toList).map lnV) J Jx) := by
  have HB := Lib.hid hb; have HJ := Lib.hid hJ; have HY := Lib.hid hY; have H0 := Lib.hid h0
  clear hb hJ hY h0
  generalize hT : (lns s.data.toList).map lnV = T at HY ⊢
  have HT := Lib.hid hT
  clear hT
  go_enter Tryz.func46, Tryz.ntmps46
  go_wp2_with fail
  go_loopg [] (s.size + 1) (fun kq wr => ∃ (pre : List Value) (r : ByteArray), r.size < kq ∧ r.size ≤ 100000000 ∧ Hid (J pre wr) ∧ Hid (Bt g r wr) ∧ Hid (T = pre ++ (lns r.data.toList).map lnV))
  case atStart => exact ⟨[], s, by omega, hs, H0, HB, Lib.hid (by rw [← HT.out]; rfl)⟩
  case round =>
    obtain ⟨pre, r, hk, hr, HJ1, HB1, HE⟩ := hrel
    clear HB H0 HT
    rcases gk with _ | f
    · omega
    have cb := HB1.out.c
    have fb := HB1.out.fz
    by_cases hz : r.size = 0
    · have g1 : decide ((0 : Int) < (r.size : Int)) = false := decide_eq_false (by omega)
      go_wp2_with fail
      refine bodyPost_ret (v := .tuple #[]) (by simp [results, go_sem]) rfl ⟨⟨_, rfl⟩, .inl ?_⟩
      have hn : r.data.toList = [] := List.length_eq_zero_iff.1 (by rw [← sizeL]; exact hz)
      rw [HE.out, hn]
      simp only [lns, List.map_nil, List.append_nil]
      exact HJ1.out
    · have g1 : decide ((0 : Int) < (r.size : Int)) = true := decide_eq_true (by omega)
      have hge := Lib.indexByte_ge r.data.toList 10
      by_cases hi : 0 ≤ Lib.indexByte r.data.toList 10
      · obtain ⟨i, hi⟩ : ∃ i : Nat, Lib.indexByte r.data.toList 10 = (i : Int) := ⟨(Lib.indexByte r.data.toList 10).toNat, by omega⟩
        obtain ⟨hl, hir⟩ := lns_ix r i hi
        have g2 : decide ((0 : Int) ≤ (i : Int)) = true := decide_eq_true (by omega)
        have hE : T = pre ++ (lnV (r.extract 0 (i + 1)).data.toList :: (lns (r.extract (i + 1) r.size).data.toList).map lnV) := by rw [HE.out, hl, List.map_cons]
        have hnx : (r.extract (i + 1) r.size).size < f := by rw [ByteArray.size_extract]; omega
        have hmk : lnV (r.extract 0 (i + 1)).data.toList = .string (r.extract 0 (i + 1)) := by unfold lnV; rw [mk_toArray]
        rw [hmk] at hE
        have HE2 := Lib.hid hE
        clear hE hmk HE hl
        have e2 : (0 : Int) ≤ (i : Int) + 1 := by omega
        have e3 : (i : Int) + 1 ≤ (r.size : Int) := by omega
        have e4 : ((i : Int) + 1).toNat = i + 1 := by omega
        go_wp2_with fail
        refine (Tryz.strings_IndexByte r 10 _).mono ?_
        rintro e w2 ⟨rfl, rfl⟩
        rw [show (Int.toNat 10).toUInt8 = 10 from rfl, hi]
        go_wp2_with fail
        go_region
        have HB2 := Lib.hid (show Bt g (r.extract (i + 1) r.size) ((w2.setCell ⟨g, 0, none⟩ (.string (r.extract (i + 1) r.size))).drew) from HB1.out.put _)
        have HJ2 := Lib.hid (HJ.out _ _ _ HJ1.out (show Kp g w2 ((w2.setCell ⟨g, 0, none⟩ (.string (r.extract (i + 1) r.size))).drew) from ((Kp.refl g w2).setCell 0 _).below ((Below.refl _ _).drew)))
        have hle : (r.extract (i + 1) r.size).size ≤ 100000000 := by rw [ByteArray.size_extract]; omega
        clear HB1 HJ1 cb fb e2 e3 e4 g2 hir hi
        generalize (w2.setCell ⟨g, 0, none⟩ (.string (r.extract (i + 1) r.size))).drew = w3 at HB2 HJ2 ⊢
        generalize r.extract (i + 1) r.size = r' at HB2 HE2 hnx hle ⊢
        generalize r.extract 0 (i + 1) = t at HE2 ⊢
        go_upto_region 6 with (fail)
        obtain ⟨fn, tmps, assign, body, hy, hR⟩ := HY.out pre _ _ _ HJ2.out HE2.out
        have HR := Lib.hid hR
        clear hR
        refine (wpIn_wide (n := m + 1)).1 ?_
        gi_wp2
        refine HR.out.mono ?_
        rintro e w6 (⟨rfl, hJ6, hk6⟩ | ⟨rfl, hJx6⟩)
        · have HB6 : Hid (Bt g r' w6) := Lib.hid ((hk6.2 g hgB hgS).trans HB2.out)
          have HJ6 := Lib.hid hJ6
          clear hJ6 hk6 HR HB2 HJ2 hy
          gi_wp2
          go_wp2_with fail
          go_roundg f
          case measure => omega
          case rel => exact ⟨pre ++ [_], r', by omega, hle, HJ6, HB6, Lib.hid (by rw [HE2.out]; simp)⟩
        · have HJ6 := Lib.hid hJx6
          clear hJx6 HR HB2 HJ2 hy
          gi_wp2
          go_wp2_with fail
          refine bodyPost_ret (v := .tuple #[]) (by simp [results, go_sem]) rfl ⟨⟨_, rfl⟩, .inr ?_⟩
          exact ⟨pre, _, _, HE2.out, HJ6.out⟩
      · have hi1 : Lib.indexByte r.data.toList 10 = -1 := by omega
        have g2 : decide ((0 : Int) ≤ (-1 : Int)) = false := by decide
        have hl : lns r.data.toList = [r.data.toList] := lns_miss _ (byte_none (by omega)) (fun e => hz (by rw [sizeL, e]; rfl))
        have hE : T = pre ++ (.string r :: (lns (⟨#[]⟩ : ByteArray).data.toList).map lnV) := by
          rw [HE.out, hl, List.map_cons]
          unfold lnV
          rw [mk_toArray]
          rfl
        have HE2 := Lib.hid hE
        clear hE HE hl
        go_wp2_with fail
        refine (Tryz.strings_IndexByte r 10 _).mono ?_
        rintro e w2 ⟨rfl, rfl⟩
        have hi2 : Lib.indexByte r.data.toList 10 = -1 := by omega
        rw [show (Int.toNat 10).toUInt8 = 10 from rfl, hi2]
        clear hi2
        go_upto_region 6 with (fail)
        have HB2 := Lib.hid (show Bt g ⟨#[]⟩ (w2.setCell ⟨g, 0, none⟩ (.string ⟨#[]⟩)) from HB1.out.put _)
        have HJ2 := Lib.hid (HJ.out _ _ _ HJ1.out (show Kp g w2 (w2.setCell ⟨g, 0, none⟩ (.string ⟨#[]⟩)) from (Kp.refl g w2).setCell 0 _))
        have hle : (⟨#[]⟩ : ByteArray).size ≤ 100000000 := by decide
        have hnx : (⟨#[]⟩ : ByteArray).size < f := by show 0 < f; omega
        clear HB1 HJ1 cb fb g2 hi1
        generalize w2.setCell ⟨g, 0, none⟩ (.string ⟨#[]⟩) = w3 at HB2 HJ2 ⊢
        obtain ⟨r', hr'⟩ : ∃ r', r' = (⟨#[]⟩ : ByteArray) := ⟨_, rfl⟩
        rw [← hr'] at HB2 hle hnx
        have HE3 : Hid (T = pre ++ (.string r :: (lns r'.data.toList).map lnV)) := by rw [hr']; exact HE2
        clear hr' HE2
        have HE2 := HE3
        clear HE3
        obtain ⟨fn, tmps, assign, body, hy, hR⟩ := HY.out pre _ _ _ HJ2.out HE2.out
        have HR := Lib.hid hR
        clear hR
        refine (wpIn_wide (n := m + 1)).1 ?_
        gi_wp2
        refine HR.out.mono ?_
        rintro e w6 (⟨rfl, hJ6, hk6⟩ | ⟨rfl, hJx6⟩)
        · have HB6 : Hid (Bt g r' w6) := Lib.hid ((hk6.2 g hgB hgS).trans HB2.out)
          have HJ6 := Lib.hid hJ6
          clear hJ6 hk6 HR HB2 HJ2 hy
          gi_wp2
          go_wp2_with fail
          go_roundg f
          case measure => omega
          case rel => exact ⟨pre ++ [_], r', by omega, hle, HJ6, HB6, Lib.hid (by rw [HE2.out]; simp)⟩
        · have HJ6 := Lib.hid hJx6
          clear hJx6 HR HB2 HJ2 hy
          gi_wp2
          go_wp2_with fail
          refine bodyPost_ret (v := .tuple #[]) (by simp [results, go_sem]) rfl ⟨⟨_, rfl⟩, .inr ?_⟩
          exact ⟨pre, _, _, HE2.out, HJ6.out⟩
end Go.Proofs.YtcmhibcoccdmaaaGreatDoor.P
