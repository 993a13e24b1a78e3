/- The reference's line tells what the program's parse does. -/
import Derived.Test.YtcmhibcoccdmaaaGreatDoorRfE
import Derived.Deep.DeepCutAuto
namespace Go.Proofs.YtcmhibcoccdmaaaGreatDoor.P
open Go.RowKit Go.Shelf Go.Proofs.YtcmhibcoccdmaaaGreatDoorW.PrintWords Go.Proofs.YtcmhibcoccdmaaaGreatDoorW.PrintLast Go.Proofs.YtcmhibcoccdmaaaGreatDoor.Rw
set_option linter.unusedVariables false
set_option linter.unusedSimpArgs false
theorem wordR_fin : ∀ i : Fin 17, hammockref20_Word.f (i.val : Int) = some ⟨(fmAt i.val).word.data.toList.toArray⟩ := by decide +kernel
theorem oneR_fin : ∀ i : Fin 17, hammockref20_one.f (i.val : Int) = some (decide ((fmAt i.val).nums = 1)) := by decide +kernel
theorem tabR_fin : ∀ i : Fin 17, ((i.val : Int) == 11 || (i.val : Int) == 13) = decide ((fmAt i.val).nums = -1) := by decide +kernel
theorem twoR_fin : ∀ i : Fin 17, ((i.val : Int) == 10) = decide ((fmAt i.val).nums = 2) := by decide +kernel
theorem word_calls (i : Nat) (h : i < 17) (w : World) : Calls Tryz.prog 59 #[.int .i64 i] w fun e w' => e = .returned (.string ⟨(fmAt i).word.data.toList.toArray⟩) ∧ Below w.heap.size w w' :=
  hammockref20_Word.calls (i : Int) _ w (wordR_fin ⟨i, h⟩)
theorem one_calls (i : Nat) (h : i < 17) (w : World) : Calls Tryz.prog 61 #[.int .i64 i] w fun e w' => e = .returned (.bool (decide ((fmAt i).nums = 1))) ∧ Below w.heap.size w w' :=
  (hammockref20_one.calls (i : Int) _ w (oneR_fin ⟨i, h⟩)).mono (fun e w' h => ⟨h.1, h.2.below⟩)
theorem opOf_at {w0 : List UInt8} {i : Nat} (h : i < 17) (hw : (fmAt i).word.data.toList = w0) : opOf w0 = some i := by
  have h1 := opOf_fin ⟨i, h⟩
  simp only at h1
  rw [hw] at h1
  exact h1
theorem opOf_no {w0 : List UInt8} (h : ∀ k, k < 17 → ¬ (fmAt k).word.data.toList = w0) : opOf w0 = none := by
  cases ho : opOf w0 with
  | none => rfl
  | some i => exact absurd (opOf_some ho).2 (h i (opOf_some ho).1)
/-- What stands behind the words: old blocks lie as they lay; the instruction. -/
structure XS (W : World) (bx : Nat) (X : Array Value) (W' : World) : Prop where
  bel : Below W.heap.size W W'
  bx : W'.heap[bx]? = some (.cells X 45 (0, 0))
theorem XS.below {W : World} {bx : Nat} {X : Array Value} {W' W2 : World} (h : XS W bx X W') (hb : Below W'.heap.size W' W2) : XS W bx X W2 :=
  ⟨bel2 h.bel hb, (hb.block bx (lt_heap h.bx)).trans h.bx⟩
theorem res4 {w W W' : World} (hb : Below w.heap.size w W) (hr : W.heap[w.heap.size]? = some (.cells #[.int .i64 0, .int .i64 0, .int .i64 0, .slice none 0 0] 45 (0, 0))) (hB : Below W.heap.size W W') (v0 v1 v2 v3 : Value) :
    ((((W'.setCell ⟨w.heap.size, 0, none⟩ v0).setCell ⟨w.heap.size, 1, none⟩ v1).setCell ⟨w.heap.size, 2, none⟩ v2).setCell ⟨w.heap.size, 3, none⟩ v3).heap[w.heap.size]? = some (.cells #[v0, v1, v2, v3] 45 (0, 0)) ∧
    Below w.heap.size w ((((W'.setCell ⟨w.heap.size, 0, none⟩ v0).setCell ⟨w.heap.size, 1, none⟩ v1).setCell ⟨w.heap.size, 2, none⟩ v2).setCell ⟨w.heap.size, 3, none⟩ v3) ∧
    ∀ k, W.heap.size ≤ k → ((((W'.setCell ⟨w.heap.size, 0, none⟩ v0).setCell ⟨w.heap.size, 1, none⟩ v1).setCell ⟨w.heap.size, 2, none⟩ v2).setCell ⟨w.heap.size, 3, none⟩ v3).heap[k]? = W'.heap[k]? := by
  have hh := lt_heap hr
  have hB2 : Below w.heap.size w W' := hb.trans (hB.mono hb.size)
  refine ⟨heap_set (heap_set (heap_set (heap_set ((hB.block _ hh).trans hr) 0 v0) 1 v1) 2 v2) 3 v3, (((hB2.setCell (p := ⟨w.heap.size, 0, none⟩) (Nat.le_refl _) _).setCell (p := ⟨w.heap.size, 1, none⟩) (Nat.le_refl _) _).setCell (p := ⟨w.heap.size, 2, none⟩) (Nat.le_refl _) _).setCell (p := ⟨w.heap.size, 3, none⟩) (Nat.le_refl _) _, fun k hk => ?_⟩
  have hne : ∀ j, (⟨w.heap.size, j, none⟩ : Addr).block ≠ k := fun j e => by
    have : w.heap.size = k := e
    omega
  rw [Below.heap_setCell _ _ _ _ (hne 3).symm, Below.heap_setCell _ _ _ _ (hne 2).symm, Below.heap_setCell _ _ _ _ (hne 1).symm, Below.heap_setCell _ _ _ _ (hne 0).symm]
theorem ParseR.bad {l : List UInt8} {w wr W WF : World} {op a b : Int} {tb : List (Int × Int)} {A : Option Addr} {c : Nat} (h : parseI l = none) (hc : tb.length ≤ c) (hFC : FC kP wr (fun k => (False ∨ W.heap.size ≤ k) ∧ k < wr.heap.size) A tb.length tb)
    (hk : ∀ k, W.heap.size ≤ k → k < wr.heap.size → WF.heap[k]? = wr.heap[k]?) (hs : w.heap.size ≤ W.heap.size) (hb : Below w.heap.size w WF) :
    ParseR l w (.returned (.tuple #[.agg #[.int .i64 op, .int .i64 a, .int .i64 b, .slice A tb.length c], .bool false])) WF := by
  refine ⟨op, a, b, tb, A, c, by rw [h]; rfl, (fun y hy => by rw [h] at hy; cases hy), hc, ?_, hb⟩
  refine (hFC.to (W' := WF) (fun k hh => hk k (hh.1.resolve_left (fun f => f)) hh.2)).mono (fun k hh => ⟨Nat.le_trans hs (hh.1.resolve_left (fun f => f)), ?_⟩)
  have h1 := hk k (hh.1.resolve_left (fun f => f)) hh.2
  rw [Array.getElem?_eq_getElem hh.2] at h1
  exact lt_heap h1
theorem allO_nil {α β : Type} (f : α → Option β) : allO f [] = some [] := rfl
theorem allO_one {α β : Type} (f : α → Option β) (a : α) : allO f [a] = (f a).map (fun b => [b]) := by
  unfold allO
  cases f a <;> rfl
theorem allO_two {α β : Type} (f : α → Option β) (a b : α) : allO f [a, b] = match f a with | none => none | some x => (f b).map (fun y => [x, y]) := by
  unfold allO
  rw [allO_one]
  cases f a with
  | none => rfl
  | some x => cases f b <;> rfl
set_option maxHeartbeats 16000000 in
set_option maxRecDepth 100000 in
theorem rline_calls (s : ByteArray) (hs : s.size ≤ 1000000) (w : World) : Calls Tryz.prog 25 #[.string s] w (ParseR s.data.toList w) := by
  go_enter Tryz.func25, Tryz.ntmps25
  have ha := (Below.refl _ w).alloc (Nat.le_refl _) (.cells #[.int .i64 0, .int .i64 0, .int .i64 0, .slice none 0 0] 45)
  have hx := heap_new w (.cells #[.int .i64 0, .int .i64 0, .int .i64 0, .slice none 0 0] 45)
  go_upto_region 1 with (fail)
  generalize hw1 : w.alloc (.cells #[.int .i64 0, .int .i64 0, .int .i64 0, .slice none 0 0] 45) = w1 at ha hx ⊢
  clear hw1
  go_wp2_with fail
  refine (words_calls s (by omega) w1).mono ?_
  rintro x w2 ⟨g, cap, cur, rfl, hlen, hg, hcur, hb2⟩
  have HX2 := Lib.hid ((hb2.block w.heap.size (lt_heap hx)).trans hx)
  have HB2 := Lib.hid (bel2 ha hb2)
  have HG2 := Lib.hid hg
  have hmem := spl_size s
  obtain ⟨w0, r, hwr⟩ := List.exists_cons_of_ne_nil (spl_ne s.data.toList)
  have hpar : ∀ i, opOf w0 = some i → parseI s.data.toList = match bodyI i r with
        | none => none
        | some x => if RightI x = true then some x else none := fun i hi => by
    unfold parseI
    rw [hwr]
    simp only
    unfold lineI
    rw [hi]
    rfl
  have hparn : opOf w0 = none → parseI s.data.toList = none := fun hi => by
    unfold parseI
    rw [hwr]
    simp only
    unfold lineI
    rw [hi]
  rw [hwr] at hlen hcur hmem ⊢
  have HPAR := Lib.hid hpar
  have HPARN := Lib.hid hparn
  have HCUR := Lib.hid hcur
  have HMEM := Lib.hid hmem
  have hr6 : r.length ≤ 1000000 := by rw [List.length_cons, ← sizeL] at hlen; omega
  have hwl : w.heap.size < w2.heap.size := lt_heap HX2.out
  have hk0 := hcur 0 w0 rfl
  clear ha hx hb2 hg hpar hparn hcur hmem hwr hlen
  have hsw := HB2.out.size
  go_wp2_with fail
  go_loopg [5] 18 (fun gg s5 wr => ∃ i : Nat, i ≤ 17 ∧ 17 - i < gg ∧ s5 = .int .i64 i ∧ Hid (∀ k, k < i → ¬ (fmAt k).word.data.toList = w0) ∧ Hid (Below w2.heap.size w2 wr))
  case atStart => exact ⟨0, by omega, by omega, rfl, Lib.hid (fun k h => by omega), Lib.hid (Below.refl _ _)⟩
  case round =>
    obtain ⟨i, hi, hgg, rfl, HI, HBR⟩ := hrel
    rcases gk with _ | gf
    · omega
    by_cases hlt : i < 17
    · have hltz : (i : Int) ≤ 16 := by omega
      have HC0 := Lib.hid (fun W (hb : Below wr.heap.size wr W) => (show W.cell? ⟨g, 0, none⟩ = some (.string ⟨w0.toArray⟩) from (cell_in (((bel2 HBR.out hb).block g (lt_heap HG2.out)).trans HG2.out) 0).trans hk0))
      have c0 := HC0.out wr (Below.refl _ _)
      by_cases hw : (fmAt i).word.data.toList = w0
      · have HOP := Lib.hid (opOf_at hlt hw)
        have hwb : (w0 == w0) = true := beq_iff_eq.2 rfl
        go_upto_region 5 with (fail)
        go_cut [5, 23] from 14 to 116 (fun s5 s23 wx => s5 = .int .i64 (i : Int) ∧ s23 = .bool false ∧ Hid (Below w2.heap.size w2 wx))
        case first =>
          have HWC := Lib.hid (word_calls i hlt)
          rw [hw] at HWC
          go_region_with (go_at_call 59; refine (HWC.out _).mono ?_; rintro e w9 ⟨rfl, hb9⟩; have c9 := HC0.out w9 (((Below.refl _ wr).drew).trans hb9))
          all_goals (
            go_wp2_with fail
            go_meet
            exact ⟨rfl, by simp, Lib.hid (bel2 HBR.out (((Below.refl _ wr).drew).trans hb9))⟩)
        case rest =>
        obtain ⟨rfl, rfl, HB4⟩ := hcut
        clear HI HC0 c0 hwb HBR hgg
        go_upto_region 7 with (fail)
        have HBW := Lib.hid (bel2 HB2.out HB4.out)
        have HRES := Lib.hid ((HB4.out.block _ hwl).trans HX2.out)
        have hrl := lt_heap HRES.out
        have HGW := Lib.hid ((HB4.out.block g (lt_heap HG2.out)).trans HG2.out)
        have hgl := lt_heap HGW.out
        have hlW := HBW.out.size
        have HP := Lib.hid (show XS wc wc.heap.size #[.int .i64 i, .int .i64 0, .int .i64 0, .slice none 0 0] (wc.alloc (.cells #[.int .i64 i, .int .i64 0, .int .i64 0, .slice none 0 0] 45)) from ⟨(Below.refl _ wc).alloc (Nat.le_refl _) _, heap_new _ _⟩)
        generalize wc.alloc (.cells #[.int .i64 i, .int .i64 0, .int .i64 0, .slice none 0 0] 45) = w5 at HP ⊢
        generalize hbx : wc.heap.size = bx at HP ⊢
        have HBX := Lib.hid hbx
        clear hbx
        have HPARI := Lib.hid (HPAR.out i HOP.out)
        have hn := nums_fin ⟨i, hlt⟩
        have htab := tabR_fin ⟨i, hlt⟩
        have htwo := twoR_fin ⟨i, hlt⟩
        have HONE := Lib.hid (one_calls i hlt)
        have HCELL := Lib.hid (fun (j : Nat) t (hj : (w0 :: r)[j]? = some t) W (hb : Below wc.heap.size wc W) => (show W.cell? ⟨g, j, none⟩ = some (.string ⟨t.toArray⟩) from (cell_in ((hb.block g hgl).trans HGW.out) j).trans (HCUR.out j t hj)))
        simp only at hn htab htwo
        generalize hN : (fmAt i).nums = N at hn htab htwo HONE
        have HN := Lib.hid hN
        clear hN HPAR HPARN HB4
        go_upto_region 8 with (fail)
        go_cut [5, 26] from 14 to 116 (fun s5 s26 wx => s5 = .int .i64 (i : Int) ∧ s26 = .bool (decide (N = -1)) ∧ w5 = wx)
        case first =>
          cases h11 : ((i : Int) == 11) with
          | true =>
            rw [h11, Bool.true_or] at htab
            go_wp2_with fail
            go_meet
            exact ⟨rfl, by rw [← htab], rfl⟩
          | false =>
            rw [h11, Bool.false_or] at htab
            go_wp2_with fail
            go_meet
            exact ⟨rfl, by rw [← htab], rfl⟩
        case rest =>
        obtain ⟨rfl, rfl, rfl⟩ := hcut
        clear htab
        by_cases hN1 : N = -1
        · subst hN1
          clear hn htwo
          go_wp2_with fail
          go_loopg [8] (r.length + 1) (fun gg s8 wr => ∃ (kk : Nat) (tb : List (Int × Int)) (v : Value), kk ≤ r.length ∧ r.length - kk < gg ∧ s8 = .int .i64 ((kk : Int) + 1) ∧ tb.length ≤ 1000000 ∧ Hid (XS wc bx #[.int .i64 i, .int .i64 0, .int .i64 0, v] wr) ∧ Hid (Row kP 90 wc.heap.size (fun _ => False) wr v tb) ∧ Hid (allO pairP (r.take kk) = some tb))
          case atStart => exact ⟨0, [], .slice none 0 0, Nat.zero_le _, by omega, rfl, by simp, HP, Lib.hid (Row.nil _), Lib.hid rfl⟩
          case round =>
            obtain ⟨kk, tb, v, hkk, hgg, rfl, htb, HP1, HROW, HALL⟩ := hrel
            clear HP
            obtain ⟨A, c, rfl, htc, hFC⟩ := HROW.out.reads
            have hFC' := Lib.hid hFC
            clear hFC
            rcases gk with _ | gf
            · omega
            by_cases hlt2 : kk < r.length
            · have hltz2 : (kk : Int) < (r.length : Int) := by omega
              have hkz : (0 : Int) ≤ (kk : Int) + 1 := by omega
              have hkn : ((kk : Int) + 1).toNat = kk + 1 := by omega
              have hg1 := HCELL.out (kk + 1) r[kk] (by rw [List.getElem?_cons_succ]; exact List.getElem?_eq_getElem hlt2) wr HP1.out.bel
              have htk : (r.take kk) ++ r[kk] :: r.drop (kk + 1) = r := by rw [← List.drop_eq_getElem_cons hlt2, List.take_append_drop]
              have htk2 : r.take (kk + 1) = r.take kk ++ [r[kk]] := List.take_succ_eq_append_getElem hlt2
              have htl : (r[kk]).length ≤ s.size := HMEM.out _ (List.mem_cons_of_mem _ (List.getElem_mem hlt2))
              generalize r[kk] = t at hg1 htk htk2 htl
              have HTK := Lib.hid htk
              have HTK2 := Lib.hid htk2
              clear htk htk2
              go_wp2_with fail
              refine (rpair_calls ⟨t.toArray⟩ (by rw [bsize]; omega) _).mono ?_
              rintro e w6 ⟨p, q, rfl, hpq, hb6⟩
              have hdt : (⟨t.toArray⟩ : ByteArray).data.toList = t := rfl
              rw [hdt] at hpq ⊢
              have HP6 := Lib.hid (HP1.out.below hb6)
              have HROW6 := Lib.hid (HROW.out.below hb6)
              clear HP1 HROW hFC' hb6 hg1
              cases hpp : pairP t with
              | none =>
                have HPP := Lib.hid hpp
                clear hpq hpp
                go_upto_region 14 with (fail)
                have HNO := Lib.hid (show parseI s.data.toList = none by
                  rw [HPARI.out]
                  have hb : bodyI i r = none := by
                    unfold bodyI
                    rw [HN.out, if_pos (by decide), ← HTK.out, allO_bad pairP _ t _ HPP.out]
                    rfl
                  rw [hb])
                have HP7 := Lib.hid (HP6.out.below ((Below.refl _ w6).alloc (Nat.le_refl _) (.cells #[.int .i64 p, .int .i64 q] 90)))
                have HROW7 := Lib.hid (HROW6.out.alloc (.cells #[.int .i64 p, .int .i64 q] 90))
                clear HP6 HROW6
                generalize w6.alloc (.cells #[.int .i64 p, .int .i64 q] 90) = w7 at HP7 HROW7 ⊢
                obtain ⟨A7, c7, he7, htc7, hFC7⟩ := HROW7.out.reads
                simp only [Value.slice.injEq] at he7
                obtain ⟨rfl, _, rfl⟩ := he7
                have hFC7' := Lib.hid hFC7
                clear hFC7
                have r0 := (HP7.out.bel.block _ hrl).trans HRES.out
                have y0 := cell_in r0 0
                have y1 := cell_in r0 1
                have y2 := cell_in r0 2
                have y3 := cell_in r0 3
                have f0 := blk_frozen r0 0
                have f1 := blk_frozen r0 1
                have f2 := blk_frozen r0 2
                have f3 := blk_frozen r0 3
                have x0 := cell_in HP7.out.bx 0
                have x1 := cell_in HP7.out.bx 1
                have x2 := cell_in HP7.out.bx 2
                have x3 := cell_in HP7.out.bx 3
                obtain ⟨k1, k2, k3⟩ := res4 (W' := w7) HBW.out HRES.out HP7.out.bel (.int .i64 i) (.int .i64 0) (.int .i64 0) (.slice A tb.length c)
                have q0 := cell_in k1 0
                have q1 := cell_in k1 1
                have q2 := cell_in k1 2
                have q3 := cell_in k1 3
                have HK2 := Lib.hid k2
                have HK3 := Lib.hid k3
                clear r0 k1 k2 k3
                go_wp2_with fail
                exact bodyPost_ret (v := .tuple #[.agg #[.int .i64 i, .int .i64 0, .int .i64 0, .slice A tb.length c], .bool false]) (by simp [results, Tryz.results25, go_sem, q0, q1, q2, q3]) rfl (ParseR.bad (W := wc) (wr := w7) (tb := tb) HNO.out htc hFC7'.out (fun k h1 h2 => HK3.out k h1) hlW HK2.out)
              | some pq =>
                obtain rfl := hpq _ hpp
                have HPP := Lib.hid hpp
                clear hpq hpp
                go_upto_region 15 with (fail)
                have HP7 := Lib.hid (HP6.out.below ((Below.refl _ w6).alloc (Nat.le_refl _) (.cells #[.int .i64 p, .int .i64 q] 90)))
                have HROW7 := Lib.hid (HROW6.out.alloc (.cells #[.int .i64 p, .int .i64 q] 90))
                have hy := heap_new w6 (.cells #[.int .i64 p, .int .i64 q] 90)
                clear HP6 HROW6
                generalize w6.alloc (.cells #[.int .i64 p, .int .i64 q] 90) = w7 at HP7 HROW7 hy ⊢
                generalize w6.heap.size = y at hy ⊢
                have y0 := cell_in hy 0
                have y1 := cell_in hy 1
                have x3 := cell_in HP7.out.bx 3
                clear hy
                have HROW8 := HROW7.out.alloc (.cells #[.int .i64 p, .int .i64 q] 90)
                obtain ⟨cells, hown, hreps⟩ := HROW8
                have HOWN := Lib.hid hown
                have HREPS := Lib.hid hreps
                clear hown hreps
                obtain ⟨i0, hi0, hz0, hz1, hz2⟩ := info_parts info90
                have hlb := HP7.out.bel.size
                go_wp2_with (at_builtin; refine wpList_append_own_at _ rfl _ _ 43 rfl wc.heap.size 90 i0 _ 2 16 Tryz.underlying43 hi0 hz0 hz1 hz2 rfl (by decide) (.slice A tb.length c) tb.length cells rfl HOWN.out ⟨w7.heap.size, 0, none⟩ 1 1 [.int .i64 p, .int .i64 q] rfl rfl (cells_two w7 _ _ _) (one_two p q) (by unfold maxLen; omega) (by omega) (by rw [World.size_alloc]; omega) ?_)
                intro v' w8 hown' hgrow _ hloc
                obtain ⟨g', cap', rfl⟩ := ownsRow_succ hown'
                have HPa := HP7.out.below ((Below.refl _ w7).alloc (Nat.le_refl _) (.cells #[.int .i64 p, .int .i64 q] 90))
                have hrow : Row kP 90 wc.heap.size (fun _ => False) w8 (.slice (some ⟨g', 0, none⟩) (tb.length + 1) cap') (tb ++ [(p, q)]) :=
                  Row.append (HROW7.out.alloc _) HOWN.out HREPS.out (fun W' _ => ⟨[.int .i64 p], [.int .i64 q], rfl, rfl, rfl⟩) rfl hown' hgrow (by
                    rcases hloc with h | h
                    · exact .inl (h.symm.trans rfl)
                    · exact .inr (by rw [World.size_alloc]; exact Nat.le_of_eq (Option.some.inj h).symm))
                have HP8 : XS wc bx #[.int .i64 i, .int .i64 0, .int .i64 0, .slice A tb.length c] w8 :=
                  ⟨HPa.bel.grown hgrow HPa.bel.size (fun k hk => (HOWN.out.lt k hk).1), (hgrow.block bx (lt_heap HPa.bx) (own_ne HOWN.out HPa.bx (by decide))).trans HPa.bx⟩
                have HP9 := Lib.hid (show XS wc bx #[.int .i64 i, .int .i64 0, .int .i64 0, .slice (some ⟨g', 0, none⟩) (tb.length + 1) cap'] (w8.setCell ⟨bx, 3, none⟩ (.slice (some ⟨g', 0, none⟩) (tb.length + 1) cap')) from
                  ⟨HP8.bel.setCell (p := ⟨bx, 3, none⟩) (by have := HBX.out; dsimp only; omega) _, heap_set HP8.bx 3 _⟩)
                have HR9 := hrow.set ⟨bx, 3, none⟩ (.slice (some ⟨g', 0, none⟩) (tb.length + 1) cap') (fun e => own_ne hown' HP8.bx (by decide) e.symm) (fun h => h)
                have HLEN : (tb ++ [(p, q)]).length = tb.length + 1 := by simp
                rw [← HLEN] at HR9
                have HR9' := Lib.hid HR9
                have hall := allO_snoc pairP _ _ _ _ HALL.out HPP.out
                rw [← HTK2.out] at hall
                have HA9 := Lib.hid hall
                have htb9 : (tb ++ [(p, q)]).length ≤ 1000000 := by
                  have h1 := allO_len pairP _ _ hall
                  rw [h1, List.length_take]
                  omega
                have z3 := cell_in HP8.bx 3
                have f3 := blk_frozen HP8.bx 3
                clear HPa hrow HP8 HR9 hall hown' hgrow hloc HP7 HROW7 HOWN HREPS y0 y1 x3
                go_wp2_with fail
                go_roundg gf
                case measure => omega
                case rel => exact ⟨kk + 1, tb ++ [(p, q)], _, by omega, by omega, by go_num, htb9, HP9, by rw [HLEN] at HR9'; exact HR9', HA9⟩
            · obtain rfl : kk = r.length := by omega
              have hltz2 : ¬ (r.length : Int) < (r.length : Int) := by omega
              have HBODY := Lib.hid (show bodyI i r = some ⟨i, 0, 0, tb⟩ by
                have ha := HALL.out
                rw [List.take_length] at ha
                unfold bodyI
                rw [HN.out, if_pos (by decide), ha]
                rfl)
              have hbd : ∀ W', Below wr.heap.size wr W' → W'.cell? ⟨bx, 0, none⟩ = some (.int .i64 i) ∧ W'.cell? ⟨bx, 1, none⟩ = some (.int .i64 0) ∧ W'.cell? ⟨bx, 2, none⟩ = some (.int .i64 0) ∧ W'.cell? ⟨bx, 3, none⟩ = some (.slice A tb.length c) := fun W' hb =>
                have h := (HP1.out.below hb).bx
                ⟨cell_in h 0, cell_in h 1, cell_in h 2, cell_in h 3⟩
              obtain ⟨x0, x1, x2, x3⟩ := hbd wr (Below.refl _ _)
              have HBD := Lib.hid hbd
              clear hbd
              have hres9 : ∀ W', Below wr.heap.size wr W' → W'.heap[w.heap.size]? = some (.cells #[.int .i64 0, .int .i64 0, .int .i64 0, .slice none 0 0] 45 (0, 0)) := fun W' hb => ((HP1.out.below hb).bel.block _ hrl).trans HRES.out
              have HRES9 := Lib.hid hres9
              clear hres9
              go_upto_region 30 with (fail)
              refine wp_calm ?_
              go_region_with (go_at_call 62; refine (rright_calls ⟨i, 0, 0, tb⟩ A c _ (Kd.C_drew hFC'.out.now)).mono ?_; rintro e w9 ⟨rfl, hb9⟩; obtain ⟨v0, v1, v2, v3⟩ := HBD.out w9 (((Below.refl _ wr).drew).trans hb9); have r9 := HRES9.out w9 (((Below.refl _ wr).drew).trans hb9); have y0 := cell_in r9 0; have y1 := cell_in r9 1; have y2 := cell_in r9 2; have y3 := cell_in r9 3; have f0 := blk_frozen r9 0; have f1 := blk_frozen r9 1; have f2 := blk_frozen r9 2; have f3 := blk_frozen r9 3)
              all_goals (
                go_wp2_with fail
                have hbw9 : Below wr.heap.size wr w9 := ((Below.refl _ wr).drew).trans hb9
                obtain ⟨k1, k2, k3⟩ := res4 HBW.out HRES.out (bel2 HP1.out.bel hbw9) (.int .i64 i) (.int .i64 0) (.int .i64 0) (.slice A tb.length c)
                have q0 := cell_in k1 0
                have q1 := cell_in k1 1
                have q2 := cell_in k1 2
                have q3 := cell_in k1 3
                exact bodyPost_ret (v := .tuple #[.agg #[.int .i64 i, .int .i64 0, .int .i64 0, .slice A tb.length c], .bool (RightI ⟨i, 0, 0, tb⟩)]) (by simp [results, Tryz.results25, go_sem, q0, q1, q2, q3]) rfl (ParseR.good (W := wc) (wr := wr) (x := ⟨i, 0, 0, tb⟩) (by rw [HPARI.out, HBODY.out]) htc hFC'.out (fun k h1 h2 => (k3 k h1).trans (hbw9.block k h2)) hlW k2))
        · have hd0 : decide (N = -1) = false := decide_eq_false hN1
          go_wp2_with fail
          refine (HONE.out _).mono ?_
          rintro e w6 ⟨rfl, hb6⟩
          have HP6 := Lib.hid (HP.out.below hb6)
          clear hb6 HP HONE
          by_cases hN2 : N = 1
          · subst hN2
            clear hn htwo hN1
            by_cases hlen : r.length = 1
            · obtain ⟨t, rfl⟩ := List.length_eq_one_iff.1 hlen
              clear hlen
              have c1 := HCELL.out 1 t rfl w6 HP6.out.bel
              go_wp2_with fail
              refine (rnumber_calls ⟨t.toArray⟩ _).mono ?_
              rintro e w7 ⟨a, rfl, ha, hbw7⟩
              have hdt : (⟨t.toArray⟩ : ByteArray).data.toList = t := rfl
              rw [hdt] at ha ⊢
              clear hdt
              have HP7 := Lib.hid (HP6.out.below hbw7)
              clear hbw7 c1 HP6
              have z1 := cell_in HP7.out.bx 1
              have g1 := blk_frozen HP7.out.bx 1
              have HP8 := Lib.hid (show XS wc bx #[.int .i64 i, .int .i64 a, .int .i64 0, .slice none 0 0] (w7.setCell ⟨bx, 1, none⟩ (.int .i64 a)) from ⟨HP7.out.bel.setCell (p := ⟨bx, 1, none⟩) (by have := HBX.out; dsimp only; omega) _, heap_set HP7.out.bx 1 _⟩)
              go_upto_region 20 with (fail)
              generalize w7.setCell ⟨bx, 1, none⟩ (.int .i64 a) = w8 at HP8 ⊢
              clear z1 g1 HP7
              cases hp1 : (numP t).isSome with
              | false =>
                have hpn : numP t = none := by cases h : numP t with | none => rfl | some v => rw [h] at hp1; cases hp1
                have HNO := Lib.hid (show parseI s.data.toList = none by
                  rw [HPARI.out]
                  have hb : bodyI i [t] = none := by
                    unfold bodyI
                    rw [HN.out, if_neg (by omega), if_pos (by simp), allO_one, hpn]
                    rfl
                  rw [hb])
                clear hpn hp1 ha
                have r0 := (HP8.out.bel.block _ hrl).trans HRES.out
                have y0 := cell_in r0 0
                have y1 := cell_in r0 1
                have y2 := cell_in r0 2
                have y3 := cell_in r0 3
                have f0 := blk_frozen r0 0
                have f1 := blk_frozen r0 1
                have f2 := blk_frozen r0 2
                have f3 := blk_frozen r0 3
                have x0 := cell_in HP8.out.bx 0
                have x1 := cell_in HP8.out.bx 1
                have x2 := cell_in HP8.out.bx 2
                have x3 := cell_in HP8.out.bx 3
                obtain ⟨k1, k2, k3⟩ := res4 (W' := w8) HBW.out HRES.out HP8.out.bel (.int .i64 i) (.int .i64 a) (.int .i64 0) (.slice none 0 0)
                have q0 := cell_in k1 0
                have q1 := cell_in k1 1
                have q2 := cell_in k1 2
                have q3 := cell_in k1 3
                have HK2 := Lib.hid k2
                have HK3 := Lib.hid k3
                clear r0 k1 k2 k3
                go_region
                go_wp2_with fail
                exact bodyPost_ret (v := .tuple #[.agg #[.int .i64 i, .int .i64 a, .int .i64 0, .slice none 0 0], .bool false]) (by simp [results, Tryz.results25, go_sem, q0, q1, q2, q3]) rfl (ParseR.bad (W := wc) (wr := w8) (tb := []) HNO.out (Nat.le_refl _) (FC.nil w8 _ none) (fun k h1 h2 => HK3.out k h1) hlW HK2.out.drew)
              | true =>
                obtain ⟨a', hpn⟩ := Option.isSome_iff_exists.1 hp1
                obtain rfl := ha _ hpn
                have HBODY := Lib.hid (show bodyI i [t] = some ⟨i, a, 0, []⟩ by
                  unfold bodyI
                  rw [HN.out, if_neg (by omega), if_pos (by simp), allO_one, hpn]
                  rfl)
                clear hpn hp1 ha
                have hbd : ∀ W', Below w8.heap.size w8 W' → W'.cell? ⟨bx, 0, none⟩ = some (.int .i64 i) ∧ W'.cell? ⟨bx, 1, none⟩ = some (.int .i64 a) ∧ W'.cell? ⟨bx, 2, none⟩ = some (.int .i64 0) ∧ W'.cell? ⟨bx, 3, none⟩ = some (.slice none 0 0) := fun W' hb =>
                  have h := (HP8.out.below hb).bx
                  ⟨cell_in h 0, cell_in h 1, cell_in h 2, cell_in h 3⟩
                obtain ⟨x0, x1, x2, x3⟩ := hbd w8 (Below.refl _ _)
                have HBD := Lib.hid hbd
                clear hbd
                have hres9 : ∀ W', Below w8.heap.size w8 W' → W'.heap[w.heap.size]? = some (.cells #[.int .i64 0, .int .i64 0, .int .i64 0, .slice none 0 0] 45 (0, 0)) := fun W' hb => ((HP8.out.below hb).bel.block _ hrl).trans HRES.out
                have HRES9 := Lib.hid hres9
                clear hres9
                go_upto_region 20 with (fail)
                refine wp_calm ?_
                go_region_with (go_at_call 62; refine (rright_calls ⟨i, a, 0, []⟩ none 0 _ (Kd.C_drew (Kd.C_nil kP _))).mono ?_; rintro e w9 ⟨rfl, hb9⟩; obtain ⟨v0, v1, v2, v3⟩ := HBD.out w9 (((Below.refl _ w8).drew).trans hb9); have r9 := HRES9.out w9 (((Below.refl _ w8).drew).trans hb9); have y0 := cell_in r9 0; have y1 := cell_in r9 1; have y2 := cell_in r9 2; have y3 := cell_in r9 3; have f0 := blk_frozen r9 0; have f1 := blk_frozen r9 1; have f2 := blk_frozen r9 2; have f3 := blk_frozen r9 3)
                all_goals (
                  go_wp2_with fail
                  have hbw9 : Below w8.heap.size w8 w9 := ((Below.refl _ w8).drew).trans hb9
                  obtain ⟨k1, k2, k3⟩ := res4 HBW.out HRES.out (bel2 HP8.out.bel hbw9) (.int .i64 i) (.int .i64 a) (.int .i64 0) (.slice none 0 0)
                  have q0 := cell_in k1 0
                  have q1 := cell_in k1 1
                  have q2 := cell_in k1 2
                  have q3 := cell_in k1 3
                  exact bodyPost_ret (v := .tuple #[.agg #[.int .i64 i, .int .i64 a, .int .i64 0, .slice none 0 0], .bool (RightI ⟨i, a, 0, []⟩)]) (by simp [results, Tryz.results25, go_sem, q0, q1, q2, q3]) rfl (ParseR.good (W := wc) (wr := w8) (x := ⟨i, a, 0, []⟩) (by rw [HPARI.out, HBODY.out]) (Nat.le_refl _) (FC.nil w8 _ none) (fun k h1 h2 => (k3 k h1).trans (hbw9.block k h2)) hlW k2))
            · have hlz : ((r.length : Int) + 1 == 2) = false := beq_eq_false_iff_ne.2 (by omega)
              have hlz2 : ¬ (r.length : Int) + 1 = 2 := by omega
              have hlz3 : ¬ (r.length : Int) = 1 := by omega
              have HNO := Lib.hid (show parseI s.data.toList = none by
                rw [HPARI.out]
                have hb : bodyI i r = none := by
                  unfold bodyI
                  rw [HN.out, if_neg (by omega), if_neg (by omega)]
                rw [hb])
              have r0 := (HP6.out.bel.block _ hrl).trans HRES.out
              have y0 := cell_in r0 0
              have y1 := cell_in r0 1
              have y2 := cell_in r0 2
              have y3 := cell_in r0 3
              have f0 := blk_frozen r0 0
              have f1 := blk_frozen r0 1
              have f2 := blk_frozen r0 2
              have f3 := blk_frozen r0 3
              have x0 := cell_in HP6.out.bx 0
              have x1 := cell_in HP6.out.bx 1
              have x2 := cell_in HP6.out.bx 2
              have x3 := cell_in HP6.out.bx 3
              obtain ⟨k1, k2, k3⟩ := res4 (W' := w6) HBW.out HRES.out HP6.out.bel (.int .i64 i) (.int .i64 0) (.int .i64 0) (.slice none 0 0)
              have q0 := cell_in k1 0
              have q1 := cell_in k1 1
              have q2 := cell_in k1 2
              have q3 := cell_in k1 3
              have HK2 := Lib.hid k2
              have HK3 := Lib.hid k3
              clear r0 k1 k2 k3
              go_wp2_with fail
              exact bodyPost_ret (v := .tuple #[.agg #[.int .i64 i, .int .i64 0, .int .i64 0, .slice none 0 0], .bool false]) (by simp [results, Tryz.results25, go_sem, q0, q1, q2, q3]) rfl (ParseR.bad (W := wc) (wr := w6) (tb := []) HNO.out (Nat.le_refl _) (FC.nil w6 _ none) (fun k h1 h2 => HK3.out k h1) hlW HK2.out)
          · have hd1 : decide (N = 1) = false := decide_eq_false hN2
            by_cases hN3 : N = 2
            · subst hN3
              clear hn hN1 hN2
              by_cases hlen : r.length = 2
              · obtain ⟨t, u, rfl⟩ : ∃ t u, r = [t, u] := by
                  match r, hlen with
                  | [t, u], _ => exact ⟨t, u, rfl⟩
                  | [], h => simp at h
                  | [_], h => simp at h
                  | _ :: _ :: _ :: _, h => simp at h
                clear hlen
                have c1 := HCELL.out 1 t rfl w6 HP6.out.bel
                go_wp2_with fail
                refine (rnumber_calls ⟨t.toArray⟩ _).mono ?_
                rintro e w7 ⟨a, rfl, ha, hbw7⟩
                have hdt : (⟨t.toArray⟩ : ByteArray).data.toList = t := rfl
                rw [hdt] at ha ⊢
                clear hdt
                have HP7 := Lib.hid (HP6.out.below hbw7)
                clear hbw7 c1 HP6
                have z1 := cell_in HP7.out.bx 1
                have g1 := blk_frozen HP7.out.bx 1
                have HP8 := Lib.hid (show XS wc bx #[.int .i64 i, .int .i64 a, .int .i64 0, .slice none 0 0] (w7.setCell ⟨bx, 1, none⟩ (.int .i64 a)) from ⟨HP7.out.bel.setCell (p := ⟨bx, 1, none⟩) (by have := HBX.out; dsimp only; omega) _, heap_set HP7.out.bx 1 _⟩)
                go_upto_region 26 with (fail)
                generalize w7.setCell ⟨bx, 1, none⟩ (.int .i64 a) = w8 at HP8 ⊢
                clear z1 g1 HP7
                have c2 := HCELL.out 2 u rfl w8 HP8.out.bel
                go_wp2_with fail
                refine (rnumber_calls ⟨u.toArray⟩ _).mono ?_
                rintro e w9 ⟨b, rfl, hb, hbw9⟩
                have hdu : (⟨u.toArray⟩ : ByteArray).data.toList = u := rfl
                rw [hdu] at hb ⊢
                clear hdu
                have HP9 := Lib.hid (HP8.out.below hbw9)
                clear hbw9 c2 HP8
                have z1 := cell_in HP9.out.bx 2
                have g1 := blk_frozen HP9.out.bx 2
                have HP10 := Lib.hid (show XS wc bx #[.int .i64 i, .int .i64 a, .int .i64 b, .slice none 0 0] (w9.setCell ⟨bx, 2, none⟩ (.int .i64 b)) from ⟨HP9.out.bel.setCell (p := ⟨bx, 2, none⟩) (by have := HBX.out; dsimp only; omega) _, heap_set HP9.out.bx 2 _⟩)
                go_upto_region 27 with (fail)
                generalize w9.setCell ⟨bx, 2, none⟩ (.int .i64 b) = w10 at HP10 ⊢
                clear z1 g1 HP9
                cases hp1 : (numP t).isSome with
                | false =>
                  have hpn : numP t = none := by cases h : numP t with | none => rfl | some v => rw [h] at hp1; cases hp1
                  have HNO := Lib.hid (show parseI s.data.toList = none by
                    rw [HPARI.out]
                    have hb : bodyI i [t, u] = none := by
                      unfold bodyI
                      rw [HN.out, if_neg (by omega), if_pos (by simp), allO_two, hpn]
                      rfl
                    rw [hb])
                  clear hpn hp1 ha hb
                  generalize (numP u).isSome = v2
                  have r0 := (HP10.out.bel.block _ hrl).trans HRES.out
                  have y0 := cell_in r0 0
                  have y1 := cell_in r0 1
                  have y2 := cell_in r0 2
                  have y3 := cell_in r0 3
                  have f0 := blk_frozen r0 0
                  have f1 := blk_frozen r0 1
                  have f2 := blk_frozen r0 2
                  have f3 := blk_frozen r0 3
                  have x0 := cell_in HP10.out.bx 0
                  have x1 := cell_in HP10.out.bx 1
                  have x2 := cell_in HP10.out.bx 2
                  have x3 := cell_in HP10.out.bx 3
                  obtain ⟨k1, k2, k3⟩ := res4 (W' := w10) HBW.out HRES.out HP10.out.bel (.int .i64 i) (.int .i64 a) (.int .i64 b) (.slice none 0 0)
                  have q0 := cell_in k1 0
                  have q1 := cell_in k1 1
                  have q2 := cell_in k1 2
                  have q3 := cell_in k1 3
                  have HK2 := Lib.hid k2
                  have HK3 := Lib.hid k3
                  clear r0 k1 k2 k3
                  go_region
                  go_wp2_with fail
                  exact bodyPost_ret (v := .tuple #[.agg #[.int .i64 i, .int .i64 a, .int .i64 b, .slice none 0 0], .bool false]) (by simp [results, Tryz.results25, go_sem, q0, q1, q2, q3]) rfl (ParseR.bad (W := wc) (wr := w10) (tb := []) HNO.out (Nat.le_refl _) (FC.nil w10 _ none) (fun k h1 h2 => HK3.out k h1) hlW HK2.out.drew)
                | true =>
                  obtain ⟨a', hpn⟩ := Option.isSome_iff_exists.1 hp1
                  obtain rfl := ha _ hpn
                  cases hp2 : (numP u).isSome with
                  | false =>
                    have hpn2 : numP u = none := by cases h : numP u with | none => rfl | some v => rw [h] at hp2; cases hp2
                    have HNO := Lib.hid (show parseI s.data.toList = none by
                      rw [HPARI.out]
                      have hb : bodyI i [t, u] = none := by
                        unfold bodyI
                        rw [HN.out, if_neg (by omega), if_pos (by simp), allO_two, hpn, hpn2]
                        rfl
                      rw [hb])
                    clear hpn hpn2 hp1 hp2 ha hb
                    have r0 := (HP10.out.bel.block _ hrl).trans HRES.out
                    have y0 := cell_in r0 0
                    have y1 := cell_in r0 1
                    have y2 := cell_in r0 2
                    have y3 := cell_in r0 3
                    have f0 := blk_frozen r0 0
                    have f1 := blk_frozen r0 1
                    have f2 := blk_frozen r0 2
                    have f3 := blk_frozen r0 3
                    have x0 := cell_in HP10.out.bx 0
                    have x1 := cell_in HP10.out.bx 1
                    have x2 := cell_in HP10.out.bx 2
                    have x3 := cell_in HP10.out.bx 3
                    obtain ⟨k1, k2, k3⟩ := res4 (W' := w10) HBW.out HRES.out HP10.out.bel (.int .i64 i) (.int .i64 a) (.int .i64 b) (.slice none 0 0)
                    have q0 := cell_in k1 0
                    have q1 := cell_in k1 1
                    have q2 := cell_in k1 2
                    have q3 := cell_in k1 3
                    have HK2 := Lib.hid k2
                    have HK3 := Lib.hid k3
                    clear r0 k1 k2 k3
                    go_region
                    go_wp2_with fail
                    exact bodyPost_ret (v := .tuple #[.agg #[.int .i64 i, .int .i64 a, .int .i64 b, .slice none 0 0], .bool false]) (by simp [results, Tryz.results25, go_sem, q0, q1, q2, q3]) rfl (ParseR.bad (W := wc) (wr := w10) (tb := []) HNO.out (Nat.le_refl _) (FC.nil w10 _ none) (fun k h1 h2 => HK3.out k h1) hlW HK2.out.drew)
                  | true =>
                    obtain ⟨b', hpn2⟩ := Option.isSome_iff_exists.1 hp2
                    obtain rfl := hb _ hpn2
                    have HBODY := Lib.hid (show bodyI i [t, u] = some ⟨i, a, b, []⟩ by
                      unfold bodyI
                      rw [HN.out, if_neg (by omega), if_pos (by simp), allO_two, hpn, hpn2]
                      rfl)
                    clear hpn hpn2 hp1 hp2 ha hb
                    have hbd : ∀ W', Below w10.heap.size w10 W' → W'.cell? ⟨bx, 0, none⟩ = some (.int .i64 i) ∧ W'.cell? ⟨bx, 1, none⟩ = some (.int .i64 a) ∧ W'.cell? ⟨bx, 2, none⟩ = some (.int .i64 b) ∧ W'.cell? ⟨bx, 3, none⟩ = some (.slice none 0 0) := fun W' hb =>
                      have h := (HP10.out.below hb).bx
                      ⟨cell_in h 0, cell_in h 1, cell_in h 2, cell_in h 3⟩
                    obtain ⟨x0, x1, x2, x3⟩ := hbd w10 (Below.refl _ _)
                    have HBD := Lib.hid hbd
                    clear hbd
                    have hres9 : ∀ W', Below w10.heap.size w10 W' → W'.heap[w.heap.size]? = some (.cells #[.int .i64 0, .int .i64 0, .int .i64 0, .slice none 0 0] 45 (0, 0)) := fun W' hb => ((HP10.out.below hb).bel.block _ hrl).trans HRES.out
                    have HRES9 := Lib.hid hres9
                    clear hres9
                    go_upto_region 27 with (fail)
                    refine wp_calm ?_
                    go_region_with (go_at_call 62; refine (rright_calls ⟨i, a, b, []⟩ none 0 _ (Kd.C_drew (Kd.C_nil kP _))).mono ?_; rintro e w9 ⟨rfl, hb9⟩; obtain ⟨v0, v1, v2, v3⟩ := HBD.out w9 (((Below.refl _ w10).drew).trans hb9); have r9 := HRES9.out w9 (((Below.refl _ w10).drew).trans hb9); have y0 := cell_in r9 0; have y1 := cell_in r9 1; have y2 := cell_in r9 2; have y3 := cell_in r9 3; have f0 := blk_frozen r9 0; have f1 := blk_frozen r9 1; have f2 := blk_frozen r9 2; have f3 := blk_frozen r9 3)
                    all_goals (
                      go_wp2_with fail
                      have hbw9 : Below w10.heap.size w10 w9 := ((Below.refl _ w10).drew).trans hb9
                      obtain ⟨k1, k2, k3⟩ := res4 HBW.out HRES.out (bel2 HP10.out.bel hbw9) (.int .i64 i) (.int .i64 a) (.int .i64 b) (.slice none 0 0)
                      have q0 := cell_in k1 0
                      have q1 := cell_in k1 1
                      have q2 := cell_in k1 2
                      have q3 := cell_in k1 3
                      exact bodyPost_ret (v := .tuple #[.agg #[.int .i64 i, .int .i64 a, .int .i64 b, .slice none 0 0], .bool (RightI ⟨i, a, b, []⟩)]) (by simp [results, Tryz.results25, go_sem, q0, q1, q2, q3]) rfl (ParseR.good (W := wc) (wr := w10) (x := ⟨i, a, b, []⟩) (by rw [HPARI.out, HBODY.out]) (Nat.le_refl _) (FC.nil w10 _ none) (fun k h1 h2 => (k3 k h1).trans (hbw9.block k h2)) hlW k2))
              · have hlz : ((r.length : Int) + 1 == 3) = false := beq_eq_false_iff_ne.2 (by omega)
                have hlz2 : ¬ (r.length : Int) + 1 = 3 := by omega
                have hlz3 : ¬ (r.length : Int) = 2 := by omega
                have HNO := Lib.hid (show parseI s.data.toList = none by
                  rw [HPARI.out]
                  have hb : bodyI i r = none := by
                    unfold bodyI
                    rw [HN.out, if_neg (by omega), if_neg (by omega)]
                  rw [hb])
                have r0 := (HP6.out.bel.block _ hrl).trans HRES.out
                have y0 := cell_in r0 0
                have y1 := cell_in r0 1
                have y2 := cell_in r0 2
                have y3 := cell_in r0 3
                have f0 := blk_frozen r0 0
                have f1 := blk_frozen r0 1
                have f2 := blk_frozen r0 2
                have f3 := blk_frozen r0 3
                have x0 := cell_in HP6.out.bx 0
                have x1 := cell_in HP6.out.bx 1
                have x2 := cell_in HP6.out.bx 2
                have x3 := cell_in HP6.out.bx 3
                obtain ⟨k1, k2, k3⟩ := res4 (W' := w6) HBW.out HRES.out HP6.out.bel (.int .i64 i) (.int .i64 0) (.int .i64 0) (.slice none 0 0)
                have q0 := cell_in k1 0
                have q1 := cell_in k1 1
                have q2 := cell_in k1 2
                have q3 := cell_in k1 3
                have HK2 := Lib.hid k2
                have HK3 := Lib.hid k3
                clear r0 k1 k2 k3
                go_wp2_with fail
                exact bodyPost_ret (v := .tuple #[.agg #[.int .i64 i, .int .i64 0, .int .i64 0, .slice none 0 0], .bool false]) (by simp [results, Tryz.results25, go_sem, q0, q1, q2, q3]) rfl (ParseR.bad (W := wc) (wr := w6) (tb := []) HNO.out (Nat.le_refl _) (FC.nil w6 _ none) (fun k h1 h2 => HK3.out k h1) hlW HK2.out)
            · obtain rfl : N = 0 := by omega
              have hd2 : ((i : Int) == 10) = false := by rw [htwo]; rfl
              clear hn hN1 hN2 hN3 htwo
              by_cases hlen : r.length = 0
              · obtain rfl := List.length_eq_zero_iff.1 hlen
                clear hlen
                have HBODY := Lib.hid (show bodyI i [] = some ⟨i, 0, 0, []⟩ by
                  unfold bodyI
                  rw [HN.out, if_neg (by omega), if_pos (by simp), allO_nil]
                  rfl)
                have hbd : ∀ W', Below w6.heap.size w6 W' → W'.cell? ⟨bx, 0, none⟩ = some (.int .i64 i) ∧ W'.cell? ⟨bx, 1, none⟩ = some (.int .i64 0) ∧ W'.cell? ⟨bx, 2, none⟩ = some (.int .i64 0) ∧ W'.cell? ⟨bx, 3, none⟩ = some (.slice none 0 0) := fun W' hb =>
                  have h := (HP6.out.below hb).bx
                  ⟨cell_in h 0, cell_in h 1, cell_in h 2, cell_in h 3⟩
                obtain ⟨x0, x1, x2, x3⟩ := hbd w6 (Below.refl _ _)
                have HBD := Lib.hid hbd
                clear hbd
                have hres9 : ∀ W', Below w6.heap.size w6 W' → W'.heap[w.heap.size]? = some (.cells #[.int .i64 0, .int .i64 0, .int .i64 0, .slice none 0 0] 45 (0, 0)) := fun W' hb => ((HP6.out.below hb).bel.block _ hrl).trans HRES.out
                have HRES9 := Lib.hid hres9
                clear hres9
                go_upto_region 30 with (fail)
                refine wp_calm ?_
                go_region_with (go_at_call 62; refine (rright_calls ⟨i, 0, 0, []⟩ none 0 _ (Kd.C_drew (Kd.C_nil kP _))).mono ?_; rintro e w9 ⟨rfl, hb9⟩; obtain ⟨v0, v1, v2, v3⟩ := HBD.out w9 (((Below.refl _ w6).drew).trans hb9); have r9 := HRES9.out w9 (((Below.refl _ w6).drew).trans hb9); have y0 := cell_in r9 0; have y1 := cell_in r9 1; have y2 := cell_in r9 2; have y3 := cell_in r9 3; have f0 := blk_frozen r9 0; have f1 := blk_frozen r9 1; have f2 := blk_frozen r9 2; have f3 := blk_frozen r9 3)
                all_goals (
                  go_wp2_with fail
                  have hbw9 : Below w6.heap.size w6 w9 := ((Below.refl _ w6).drew).trans hb9
                  obtain ⟨k1, k2, k3⟩ := res4 HBW.out HRES.out (bel2 HP6.out.bel hbw9) (.int .i64 i) (.int .i64 0) (.int .i64 0) (.slice none 0 0)
                  have q0 := cell_in k1 0
                  have q1 := cell_in k1 1
                  have q2 := cell_in k1 2
                  have q3 := cell_in k1 3
                  exact bodyPost_ret (v := .tuple #[.agg #[.int .i64 i, .int .i64 0, .int .i64 0, .slice none 0 0], .bool (RightI ⟨i, 0, 0, []⟩)]) (by simp [results, Tryz.results25, go_sem, q0, q1, q2, q3]) rfl (ParseR.good (W := wc) (wr := w6) (x := ⟨i, 0, 0, []⟩) (by rw [HPARI.out, HBODY.out]) (Nat.le_refl _) (FC.nil w6 _ none) (fun k h1 h2 => (k3 k h1).trans (hbw9.block k h2)) hlW k2))
              · have hlz : ((r.length : Int) + 1 == 1) = false := beq_eq_false_iff_ne.2 (by omega)
                have hlz2 : ¬ (r.length : Int) + 1 = 1 := by omega
                have hlz3 : ¬ (r.length : Int) = 0 := by omega
                have HNO := Lib.hid (show parseI s.data.toList = none by
                  rw [HPARI.out]
                  have hb : bodyI i r = none := by
                    unfold bodyI
                    rw [HN.out, if_neg (by omega), if_neg (by omega)]
                  rw [hb])
                have r0 := (HP6.out.bel.block _ hrl).trans HRES.out
                have y0 := cell_in r0 0
                have y1 := cell_in r0 1
                have y2 := cell_in r0 2
                have y3 := cell_in r0 3
                have f0 := blk_frozen r0 0
                have f1 := blk_frozen r0 1
                have f2 := blk_frozen r0 2
                have f3 := blk_frozen r0 3
                have x0 := cell_in HP6.out.bx 0
                have x1 := cell_in HP6.out.bx 1
                have x2 := cell_in HP6.out.bx 2
                have x3 := cell_in HP6.out.bx 3
                obtain ⟨k1, k2, k3⟩ := res4 (W' := w6) HBW.out HRES.out HP6.out.bel (.int .i64 i) (.int .i64 0) (.int .i64 0) (.slice none 0 0)
                have q0 := cell_in k1 0
                have q1 := cell_in k1 1
                have q2 := cell_in k1 2
                have q3 := cell_in k1 3
                have HK2 := Lib.hid k2
                have HK3 := Lib.hid k3
                clear r0 k1 k2 k3
                go_wp2_with fail
                exact bodyPost_ret (v := .tuple #[.agg #[.int .i64 i, .int .i64 0, .int .i64 0, .slice none 0 0], .bool false]) (by simp [results, Tryz.results25, go_sem, q0, q1, q2, q3]) rfl (ParseR.bad (W := wc) (wr := w6) (tb := []) HNO.out (Nat.le_refl _) (FC.nil w6 _ none) (fun k h1 h2 => HK3.out k h1) hlW HK2.out)
      · have HI' := Lib.hid (show ∀ k, k < i + 1 → ¬ (fmAt k).word.data.toList = w0 from fun k hk => by
          rcases Nat.lt_succ_iff_lt_or_eq.1 hk with h | rfl
          · exact HI.out k h
          · exact hw)
        have hwb : ((fmAt i).word.data.toList == w0) = false := beq_eq_false_iff_ne.2 hw
        go_upto_region 5 with (fail)
        go_cut [5, 23] from 14 to 116 (fun s5 s23 wx => s5 = .int .i64 (i : Int) ∧ s23 = .bool true ∧ Hid (Below w2.heap.size w2 wx))
        case first =>
          have HWC := Lib.hid (word_calls i hlt)
          generalize (fmAt i).word.data.toList = wd at HWC hwb
          go_region_with (go_at_call 59; refine (HWC.out _).mono ?_; rintro e w9 ⟨rfl, hb9⟩; have c9 := HC0.out w9 (((Below.refl _ wr).drew).trans hb9))
          all_goals (
            go_wp2_with fail
            go_meet
            exact ⟨rfl, by simp, Lib.hid (bel2 HBR.out (((Below.refl _ wr).drew).trans hb9))⟩)
        case rest =>
        obtain ⟨rfl, rfl, HB4⟩ := hcut
        clear HI HC0 c0 hwb hw
        go_wp2_with fail
        go_roundg gf
        case measure => omega
        case rel => exact ⟨i + 1, by omega, by omega, by go_num, HI', HB4⟩
    · have hltz : ¬ (i : Int) ≤ 16 := by omega
      obtain rfl : i = 17 := by omega
      have HN := Lib.hid (HPARN.out (opOf_no HI.out))
      have hres := (HBR.out.block _ hwl).trans HX2.out
      have y0 := cell_in hres 0
      have y1 := cell_in hres 1
      have y2 := cell_in hres 2
      have y3 := cell_in hres 3
      have f0 := blk_frozen hres 0
      have f1 := blk_frozen hres 1
      have f2 := blk_frozen hres 2
      have f3 := blk_frozen hres 3
      obtain ⟨k1, k2, k3⟩ := res4 (W' := wr) HB2.out HX2.out HBR.out (.int .i64 0) (.int .i64 0) (.int .i64 0) (.slice none 0 0)
      have q0 := cell_in k1 0
      have q1 := cell_in k1 1
      have q2 := cell_in k1 2
      have q3 := cell_in k1 3
      have HK2 := Lib.hid k2
      clear hres k1 k2 k3
      go_wp2_with fail
      exact bodyPost_ret (v := .tuple #[.agg #[.int .i64 0, .int .i64 0, .int .i64 0, .slice none 0 0], .bool false]) (by simp [results, Tryz.results25, go_sem, q0, q1, q2, q3]) rfl (ParseR.zero HN.out HK2.out)
end Go.Proofs.YtcmhibcoccdmaaaGreatDoor.P
