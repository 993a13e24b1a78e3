/- The reference's words, names. -/
import Derived.Test.YtcmhibcoccdmaaaGreatDoorPlM
import Derived.Test.YtcmhibcoccdmaaaGreatDoorPlJ
import Derived.Deep.AppendLies
import Derived.IntWalk
namespace Go.Proofs.YtcmhibcoccdmaaaGreatDoor.P
open Go.RowKit Go.Shelf Go.Proofs.YtcmhibcoccdmaaaGreatDoorW.PrintWords Go.Proofs.YtcmhibcoccdmaaaGreatDoorW.PrintLast Go.Proofs.YtcmhibcoccdmaaaGreatDoor.Rw
set_option linter.unusedVariables false
set_option linter.unusedSimpArgs false
def joinW (cur : List UInt8) : List (List UInt8) → List (List UInt8)
  | [] => [cur]
  | h :: r => (cur ++ h) :: r
theorem spl_some : ∀ l : List UInt8, ∃ h r, spl l = h :: r
  | [] => ⟨[], [], rfl⟩
  | c :: t => by
    rw [spl]
    split
    · exact ⟨_, _, rfl⟩
    · obtain ⟨h, r, e⟩ := spl_some t
      rw [e]
      exact ⟨_, _, rfl⟩
theorem joinW_blank (cur t : List UInt8) : joinW cur (spl (32 :: t)) = cur :: joinW [] (spl t) := by
  obtain ⟨h, r, e⟩ := spl_some t
  rw [spl, if_pos rfl, e]
  simp [joinW]
theorem joinW_byte (cur t : List UInt8) (c : UInt8) (hc : ¬ c = 32) : joinW cur (spl (c :: t)) = joinW (cur ++ [c]) (spl t) := by
  obtain ⟨h, r, e⟩ := spl_some t
  rw [spl, if_neg hc, e]
  simp [joinW]
/-- The words so far: those that are done, and the last one. -/
structure WI (w : World) (s : List UInt8) (i : Nat) (done : List (List UInt8)) (cur : List UInt8) (g cap : Nat) (W : World) : Prop where
  bel : Below w.heap.size w W
  own : W.ownsRow w.heap.size 9 1 (.slice (some ⟨g, 0, none⟩) (done.length + 1) cap) (done.length + 1) (encs Value.string ((done ++ [cur]).map fun l => (⟨l.toArray⟩ : ByteArray)))
  law : done ++ joinW cur (spl (s.drop i)) = spl s
  len : done.length ≤ i
  cl : cur.length ≤ i
def WordsR (l : List UInt8) (w : World) (e : Ending) (w' : World) : Prop :=
  ∃ (g cap : Nat) (cur : Array Value), e = .returned (.slice (some ⟨g, 0, none⟩) (spl l).length cap) ∧ (spl l).length ≤ l.length + 1 ∧ w'.heap[g]? = some (.cells cur 9 (0, 0)) ∧ (∀ (j : Nat) (b : List UInt8), (spl l)[j]? = some b → cur[j]? = some (Value.string ⟨b.toArray⟩)) ∧ Below w.heap.size w w'
theorem ba_snoc (cur : List UInt8) (s : ByteArray) (i : Nat) (h : i < s.size) : (⟨cur.toArray⟩ : ByteArray) ++ s.extract i (i + 1) = ⟨(cur ++ [s[i]]).toArray⟩ := by
  have he : s.extract i (i + 1) = ⟨[s[i]].toArray⟩ := by
    apply ByteArray.ext
    apply Array.ext'
    have hl : i < s.data.toList.length := by rw [← sizeL]; exact h
    rw [ByteArray.data_extract]
    simp only [Array.toList_extract, List.extract_eq_take_drop, Nat.add_sub_cancel_left, List.drop_eq_getElem_cons hl, List.take_succ_cons, List.take_zero]
    simp [ByteArray.getElem_eq_getElem_data]
  rw [he, ba_app]
set_option maxHeartbeats 2000000 in
set_option maxRecDepth 100000 in
theorem words_calls (s : ByteArray) (hs : s.size ≤ 100000000) (w : World) : Calls Tryz.prog 56 #[.string s] w (WordsR s.data.toList w) := by
  go_enter Tryz.func56, Tryz.ntmps56
  go_upto_region 2 with (fail)
  have hI0 : WI w s.data.toList 0 [] [] w.heap.size 1 (w.alloc (.cells #[.string ⟨#[]⟩] 9)) := ⟨(Below.refl _ w).alloc (Nat.le_refl _) _, World.ownsRow_lit w #[.string ⟨#[]⟩] 1 (Nat.le_refl _) (by decide) rfl, by
    obtain ⟨h, r, e⟩ := spl_some s.data.toList
    rw [List.drop_zero, e]
    rfl, Nat.zero_le _, Nat.zero_le _⟩
  generalize w.alloc (.cells #[.string ⟨#[]⟩] 9) = w1 at hI0 ⊢
  have HI0 := Lib.hid hI0
  clear hI0
  go_wp2_with fail
  go_loopg [3, 4] (s.size + 1) (fun gg s3 s4 wr => ∃ (i : Nat) (done : List (List UInt8)) (cur : List UInt8) (g cap : Nat), i ≤ s.size ∧ s.size - i < gg ∧ s4 = .int .i64 i ∧ s3 = .slice (some ⟨g, 0, none⟩) (done.length + 1) cap ∧ Hid (WI w s.data.toList i done cur g cap wr))
  case atStart => exact ⟨0, [], [], _, _, Nat.zero_le _, by omega, rfl, rfl, HI0⟩
  case round =>
    obtain ⟨i, done, cur, g, cap, hi, hgg, rfl, rfl, HI⟩ := hrel
    rcases gk with _ | gf
    · omega
    by_cases hlt : i < s.size
    · have hltz : (i : Int) < (s.size : Int) := by omega
      have hiz : (0 : Int) ≤ (i : Int) := by omega
      have hil : i < s.data.toList.length := by rw [← sizeL]; exact hlt
      have hdr : s.data.toList.drop i = s.data.toList[i] :: s.data.toList.drop (i + 1) := List.drop_eq_getElem_cons hil
      have hsc : s.data.toList[i] = s[i] := by simp [ByteArray.getElem_eq_getElem_data]
      rw [hsc] at hdr
      have HDR := Lib.hid hdr
      clear hdr hsc
      have hcs : cur.length + 1 ≤ 100000001 := by have := HI.out.cl; omega
      have hds : done.length + 1 ≤ 100000001 := by have := HI.out.len; omega
      have hci : (encs Value.string ((done ++ [cur]).map fun l => (⟨l.toArray⟩ : ByteArray)))[done.length]? = some (.string ⟨cur.toArray⟩) := by simp [encs]
      have hcell : wr.cell? ⟨g, done.length, none⟩ = some (.string ⟨cur.toArray⟩) := (HI.out.own.cellAt done.length (by omega)).trans hci
      have hfr := HI.out.own.frozenAt done.length
      cases hb : ((s[i].toNat : Int) == 32) with
      | true =>
        have hc : s[i] = 32 := UInt8.toNat_inj.1 (by
          have := beq_iff_eq.1 hb
          rw [show (32 : UInt8).toNat = 32 from rfl]; omega)
        have hlaw : (done ++ [cur]) ++ joinW [] (spl (s.data.toList.drop (i + 1))) = spl s.data.toList := by
          rw [← HI.out.law, HDR.out, hc, joinW_blank, List.append_assoc]; rfl
        have HLAW := Lib.hid hlaw
        clear hc hlaw hci
        obtain ⟨i0, hi0, hz0, hz1, hz2⟩ := info_parts info9
        have HOWN := Lib.hid (HI.out.own.alloc (.cells #[.string ⟨#[]⟩] 9))
        have HM1 := Lib.hid (show done.length + 1 + 1 ≤ maxLen by unfold maxLen; omega)
        have HM2 := Lib.hid (show (done.length + 1 + 1) * 16 ≤ 140737488355328 by omega)
        have HM3 := Lib.hid (show w.heap.size ≤ (wr.alloc (.cells #[.string ⟨#[]⟩] 9)).heap.size by rw [World.size_alloc]; have := HI.out.bel.size; omega)
        go_wp2_with (at_builtin; go_loud (refine wpList_append_lies _ rfl _ _ 83 rfl w.heap.size 9 i0 _ 1 16 Tryz.underlying83 hi0 hz0 hz1 hz2 rfl (by decide) (.slice (some ⟨g, 0, none⟩) (done.length + 1) cap) (done.length + 1) _ rfl HOWN.out ⟨wr.heap.size, 0, none⟩ 1 1 [.string ⟨#[]⟩] rfl rfl (World.news_of_block (heap_new wr (.cells #[.string ⟨#[]⟩] 9))) (by intro u' hu; simp at hu; subst hu; rfl) (by decide) HM1.out HM2.out HM3.out _ rfl ?_))
        intro g2 cap2 w8 hown' hgrow hat hgl
        have hfin : WI w s.data.toList (i + 1) (done ++ [cur]) [] g2 cap2 w8 := ⟨(HI.out.bel.alloc HI.out.bel.size _).grown hgrow HM3.out (fun k hk => (HI.out.own.lt k hk).1), by
          rw [List.length_append, List.length_singleton]
          have he : encs Value.string (((done ++ [cur]) ++ [[]]).map fun (l : List UInt8) => (⟨l.toArray⟩ : ByteArray)) = encs Value.string ((done ++ [cur]).map fun l => (⟨l.toArray⟩ : ByteArray)) ++ [Value.string ⟨#[]⟩] := by simp [encs]
          rw [he]
          rw [List.map_append (l₁ := done) (l₂ := [cur])]
          exact hown', HLAW.out, by rw [List.length_append, List.length_singleton]; have := HI.out.len; omega, Nat.zero_le _⟩
        have HFIN := Lib.hid hfin
        clear hfin hown' hgrow hat hgl hcell hfr
        go_wp2_with fail
        go_roundg gf
        case measure => omega
        case rel => exact ⟨i + 1, done ++ [cur], [], g2, cap2, by omega, by omega, by go_num, by simp, HFIN⟩
      | false =>
        have hc : ¬ s[i] = 32 := fun e => by rw [e] at hb; exact absurd hb (by decide)
        have hlaw : done ++ joinW (cur ++ [s[i]]) (spl (s.data.toList.drop (i + 1))) = spl s.data.toList := by
          rw [← HI.out.law, HDR.out, joinW_byte _ _ _ hc]
        have HLAW := Lib.hid hlaw
        clear hc hlaw hci
        go_upto_region 7 with (fail)
        have q1 : IntKind.i64.wrap (done.length : Int) = (done.length : Int) := by exact IntWalk.i64_in _ (by omega)
        have q2 : (0 : Int) ≤ (done.length : Int) := by omega
        have q3 : (done.length : Int) < (done.length : Int) + 1 := by omega
        have q4 : (i : Int) ≤ (i : Int) + 1 := by omega
        have q5 : (i : Int) + 1 ≤ (s.size : Int) := by omega
        have q6 : (0 : Int) ≤ (i : Int) + 1 := by omega
        have q7 : ((i : Int) + 1).toNat = i + 1 := by omega
        have q8 : ((done.length : Int)).toNat = done.length := by omega
        go_region
        rw [ba_snoc cur s i hlt]
        have hbg := (HI.out.own.lt g rfl).1
        obtain ⟨hst, hgr⟩ := HI.out.own.stored done.length (.string ⟨(cur ++ [s[i]]).toArray⟩)
        have hfin : WI w s.data.toList (i + 1) done (cur ++ [s[i]]) g cap (wr.setCell ⟨g, done.length, none⟩ (.string ⟨(cur ++ [s[i]]).toArray⟩)).drew := ⟨(HI.out.bel.setCell (p := ⟨g, done.length, none⟩) hbg _).drew, by
          rw [show (encs Value.string ((done ++ [cur]).map fun l => (⟨l.toArray⟩ : ByteArray))).set done.length (.string ⟨(cur ++ [s[i]]).toArray⟩) = encs Value.string ((done ++ [cur ++ [s[i]]]).map fun l => (⟨l.toArray⟩ : ByteArray)) by simp [encs]] at hst
          exact hst.drew, HLAW.out, by have := HI.out.len; omega, by rw [List.length_append, List.length_singleton]; have := HI.out.cl; omega⟩
        have HFIN := Lib.hid hfin
        clear hfin hst hgr hbg q1 q2 q3 q4 q5 q6 q7 q8 hcell hfr hb
        go_wp2_with fail
        go_roundg gf
        case measure => omega
        case rel => exact ⟨i + 1, done, cur ++ [s[i]], g, cap, by omega, by omega, by go_num, rfl, HFIN⟩
    · have hltz : ¬ (i : Int) < (s.size : Int) := by omega
      obtain rfl : i = s.size := by omega
      have hlaw := HI.out.law
      rw [sizeL, List.drop_length] at hlaw
      have hl2 : done ++ [cur] = spl s.data.toList := by
        rw [← hlaw]; simp [spl, joinW]
      have hln : done.length + 1 = (spl s.data.toList).length := by rw [← hl2]; simp
      have HL2 := Lib.hid hl2; have HLN := Lib.hid hln
      clear hlaw hl2 hln
      go_wp2_with fail
      go_ret
      obtain ⟨c0, hc0, hc1⟩ : ∃ c0, wr.heap[g]? = some (.cells c0 9 (0, 0)) ∧ c0.toList.take (done.length + 1) = encs Value.string ((done ++ [cur]).map fun l => (⟨l.toArray⟩ : ByteArray)) := by
        rcases HI.out.own.2 with ⟨h', _⟩ | ⟨g', cap', c0, h', _, hg, _, _, _, htake⟩
        · simp at h'
        · simp only [Value.slice.injEq, Option.some.injEq, Addr.mk.injEq, and_true, true_and] at h'
          obtain ⟨rfl, rfl⟩ := h'
          exact ⟨c0, hg, by simpa using htake⟩
      refine ⟨g, cap, c0, by rw [HLN.out]; rfl, by rw [← HLN.out]; have := HI.out.len; rw [← sizeL]; omega, hc0, fun j b hj => ?_, HI.out.bel⟩
      rw [← HL2.out] at hj
      have hjl : j < done.length + 1 := by
        have := (List.getElem?_eq_some_iff.1 hj).1
        simpa using this
      have h1 := congrArg (·[j]?) hc1
      simp only [List.getElem?_take, if_pos hjl] at h1
      rw [← Array.getElem?_toList, h1]
      simp only [encs, List.getElem?_map, hj, Option.map_some]
end Go.Proofs.YtcmhibcoccdmaaaGreatDoor.P
