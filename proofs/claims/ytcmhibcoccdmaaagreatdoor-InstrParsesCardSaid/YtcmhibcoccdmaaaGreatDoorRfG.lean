/- The reference's Parse tells what the program's does. -/
import Derived.Test.YtcmhibcoccdmaaaGreatDoorRfF
import Derived.Test.YtcmhibcoccdmaaaGreatDoorInQ
namespace Go.Proofs.YtcmhibcoccdmaaaGreatDoor.P
open Go.RowKit Go.Shelf Go.Proofs.YtcmhibcoccdmaaaGreatDoorW.PrintWords Go.Proofs.YtcmhibcoccdmaaaGreatDoorW.PrintLast Go.Proofs.YtcmhibcoccdmaaaGreatDoor.Rw
set_option linter.unusedVariables false
set_option linter.unusedSimpArgs false
theorem info64 : (Tryz.prog.info? 64).map (fun i => (i.zero, i.size, i.bytes)) = some (some (.agg #[.string ⟨#[]⟩, .int .i64 0, .int .i64 0]), 3, 32) := by kernel_rfl
theorem info45 : (Tryz.prog.info? 45).map (fun i => (i.zero, i.size, i.bytes)) = some (some (.agg #[.int .i64 0, .int .i64 0, .int .i64 0, .slice none 0 0]), 4, 48) := by kernel_rfl
/-- What stands while the lines are gone through: the result; the code so far. -/
structure LJ (w : World) (gs : List S52) (xs : List Ins) (W : World) : Prop where
  bel : Below w.heap.size w W
  res : W.heap[w.heap.size]? = some (.cells #[.slice none 0 0, .slice none 0 0] 32 (0, 0))
  row : ∃ vG vI, W.heap[w.heap.size + 1]? = some (.cells #[vG, vI] 32 (0, 0)) ∧ Row k52 64 (w.heap.size + 2) (fun _ => False) W vG gs ∧ Row kI 45 (w.heap.size + 2) (fun k => w.heap.size + 2 ≤ k) W vI xs ∧ (xs = [] → vI = .slice none 0 0)
theorem LJ.below {w : World} {gs : List S52} {xs : List Ins} {W W' : World} (h : LJ w gs xs W) (hb : Below W.heap.size W W') : LJ w gs xs W' := by
  obtain ⟨hbl, hres, vG, vI, hc, hG, hI, h0⟩ := h
  have h2 := lt_heap hc
  exact ⟨bel2 hbl hb, (hb.block _ (by omega)).trans hres, vG, vI, (hb.block _ h2).trans hc, hG.below hb, hI.below hb, h0⟩
theorem LJ.made {w : World} {gs0 gs : List S52} {xs0 xs : List Ins} {W W8 : World} (h : LJ w gs0 xs0 W) (hB8 : Below w.heap.size w W8) (hfr : ∀ k, k < W.heap.size → k < w.heap.size + 2 → W8.heap[k]? = W.heap[k]?) (j : Nat) (v vG vI : Value)
    (hc : (W8.setCell ⟨w.heap.size + 1, j, none⟩ v).heap[w.heap.size + 1]? = some (.cells #[vG, vI] 32 (0, 0))) (hG : Row k52 64 (w.heap.size + 2) (fun _ => False) W8 vG gs) (hI : Row kI 45 (w.heap.size + 2) (fun k => w.heap.size + 2 ≤ k) W8 vI xs) (h0 : xs = [] → vI = .slice none 0 0) : LJ w gs xs (W8.setCell ⟨w.heap.size + 1, j, none⟩ v) := by
  have h3 := lt_heap h.res
  have hk : ∀ k, k ≠ w.heap.size + 1 → (W8.setCell ⟨w.heap.size + 1, j, none⟩ v).heap[k]? = W8.heap[k]? := fun k hk => Below.heap_setCell _ _ _ _ hk
  have hs : W8.heap.size ≤ (W8.setCell ⟨w.heap.size + 1, j, none⟩ v).heap.size := by simp [World.setCell]
  exact ⟨hB8.setCell (p := ⟨w.heap.size + 1, j, none⟩) (by dsimp only; omega) _, (hk _ (by omega)).trans ((hfr _ (by omega) (by omega)).trans h.res), vG, vI, hc,
    row_agr hG hs (fun k h1 _ => hk k (by omega)) (fun k f => f.elim), row_agr hI hs (fun k h1 _ => hk k (by omega)) (fun k f => f), h0⟩
theorem twoW {w wl : World} {a b : Obj} (h : (w.alloc a).alloc b = wl) : wl.heap.size = w.heap.size + 2 ∧ wl.heap[w.heap.size]? = some a ∧ wl.heap[w.heap.size + 1]? = some b ∧ Below w.heap.size w wl := by
  subst h
  have nw : ∀ (w : World) (o : Obj), (w.alloc o).heap[w.heap.size]? = some o := fun w o => by unfold World.alloc; exact Array.getElem?_push_size
  have h1 := nw w a
  have h2 := nw (w.alloc a) b
  simp only [World.size_alloc] at h2
  exact ⟨by simp only [World.size_alloc], (heap_old _ _ _ (lt_heap h1)).trans h1, h2, ((Below.refl _ w).alloc (Nat.le_refl _) _).alloc (by simp) _⟩
theorem res2 {w W : World} (hb : Below w.heap.size w W) (hr : W.heap[w.heap.size]? = some (.cells #[.slice none 0 0, .slice none 0 0] 32 (0, 0))) (v0 v1 : Value) :
    ((W.setCell ⟨w.heap.size, 0, none⟩ v0).setCell ⟨w.heap.size, 1, none⟩ v1).heap[w.heap.size]? = some (.cells #[v0, v1] 32 (0, 0)) ∧
    Below w.heap.size w ((W.setCell ⟨w.heap.size, 0, none⟩ v0).setCell ⟨w.heap.size, 1, none⟩ v1) ∧
    ∀ k, w.heap.size + 1 ≤ k → ((W.setCell ⟨w.heap.size, 0, none⟩ v0).setCell ⟨w.heap.size, 1, none⟩ v1).heap[k]? = W.heap[k]? := by
  refine ⟨heap_set (heap_set hr 0 v0) 1 v1, (hb.setCell (p := ⟨w.heap.size, 0, none⟩) (Nat.le_refl _) _).setCell (p := ⟨w.heap.size, 1, none⟩) (Nat.le_refl _) _, fun k hk => ?_⟩
  have hne : ∀ j, k ≠ (⟨w.heap.size, j, none⟩ : Addr).block := fun j e => by
    have : k = w.heap.size := e
    omega
  rw [Below.heap_setCell _ _ _ _ (hne 1), Below.heap_setCell _ _ _ _ (hne 0)]
theorem cut_line (s : ByteArray) (fr i : Nat) (hfi : fr ≤ i) (hi : i < s.size) (hc : s[i] = 10) (hn : (10 : UInt8) ∉ (s.data.toList.take i).drop fr) :
    ∃ u : List UInt8, s.data.toList.drop fr = u ++ 10 :: s.data.toList.drop (i + 1) ∧ (10 : UInt8) ∉ u ∧ u.length ≤ s.size ∧ s.extract fr i = ⟨u.toArray⟩ := by
  have hil : i < s.data.toList.length := by rw [← sizeL]; exact hi
  have hsc : s.data.toList[i] = s[i] := by simp [ByteArray.getElem_eq_getElem_data]
  refine ⟨(s.data.toList.take i).drop fr, ?_, hn, ?_, ?_⟩
  · rw [← hc, ← hsc, ← List.drop_eq_getElem_cons hil]
    have h1 : s.data.toList = s.data.toList.take i ++ s.data.toList.drop i := (List.take_append_drop i _).symm
    have h2 : fr ≤ (s.data.toList.take i).length := by rw [List.length_take]; omega
    calc s.data.toList.drop fr = (s.data.toList.take i ++ s.data.toList.drop i).drop fr := by rw [← h1]
      _ = _ := by rw [List.drop_append_of_le_length h2]
  · rw [List.length_drop, List.length_take, sizeL]
    omega
  · apply ByteArray.ext
    apply Array.ext'
    rw [ByteArray.data_extract]
    simp only [Array.toList_extract, List.extract_eq_take_drop]
    rw [List.drop_take]
theorem go_line {u rest : List UInt8} (h : (10 : UInt8) ∉ u) (n : Nat) (gs : List S52) (xs : List Ins) : parseGo (lns (u ++ 10 :: rest)) n gs xs = match (if xs.length = 0 ∧ gs.length < 65536 then globP ⟨u.toArray⟩ else none) with
      | some g => parseGo (lns rest) (n + 1) (gs ++ [g]) xs
      | none => (match parseI u with
        | none => (none, n + 1)
        | some x => if 65536 ≤ xs.length then (none, n + 1) else parseGo (lns rest) (n + 1) gs (xs ++ [x])) := by
  rw [lns_hit _ _ h, parseGo, if_pos (end_snoc u), drop_snoc]
  rfl
theorem go_last {u : List UInt8} (h : (10 : UInt8) ∉ u) (h0 : u ≠ []) (n : Nat) (gs : List S52) (xs : List Ins) : parseGo (lns u) n gs xs = (none, n + 1) := by
  have he : ¬ endB u = true := fun e => by
    unfold endB at e
    exact h (List.mem_of_getLast? (beq_iff_eq.1 e))
  rw [lns_miss _ h h0, parseGo, if_neg he]
set_option maxHeartbeats 8000000 in
set_option maxRecDepth 100000 in
theorem rcode_calls (s : ByteArray) (hs : s.size ≤ 65535) (w : World) : Calls Tryz.prog 8 #[.string s] w (CodeR s.data.toList w) := by
  go_enter Tryz.func8, Tryz.ntmps8
  go_upto_region 2 with (fail)
  generalize hwl : World.alloc (World.alloc _ _) _ = wl
  obtain ⟨hsz, b0, b1, hbel⟩ := twoW hwl
  clear hwl
  have HL0 := Lib.hid (show LJ w [] [] wl from ⟨hbel, b0, _, _, b1, Row.nil _, Row.nil _, fun _ => rfl⟩)
  clear b0 b1 hbel hsz
  go_wp2_with fail
  go_loopg [5, 6, 7] (s.size + 1) (fun gg s5 s6 s7 wr => ∃ (i fr n : Nat) (gs : List S52) (xs : List Ins), i ≤ s.size ∧ s.size - i < gg ∧ fr ≤ i ∧ n ≤ i ∧ gs.length ≤ n ∧ xs.length ≤ n ∧ s5 = .int .i64 fr ∧ s6 = .int .i64 n ∧ s7 = .int .i64 i ∧ Hid ((10 : UInt8) ∉ (s.data.toList.take i).drop fr) ∧ Hid (parseC s.data.toList = parseGo (lns (s.data.toList.drop fr)) n gs xs) ∧ Hid (LJ w gs xs wr))
  case atStart => exact ⟨0, 0, 0, [], [], Nat.zero_le _, by omega, Nat.le_refl _, Nat.le_refl _, Nat.le_refl _, Nat.le_refl _, rfl, rfl, rfl, Lib.hid (by simp), Lib.hid (by rw [List.drop_zero]; rfl), HL0⟩
  case round =>
    obtain ⟨i, fr, n, gs, xs, hi, hgg, hfi, hni, hgl, hxl, rfl, rfl, rfl, HN, HGO, HL⟩ := hrel
    clear HL0
    rcases gk with _ | gf
    · omega
    by_cases hlt : i < s.size
    · have hltz : (i : Int) < (s.size : Int) := by omega
      have hiz : (0 : Int) ≤ (i : Int) := by omega
      have hil : i < s.data.toList.length := by rw [← sizeL]; exact hlt
      cases hb : ((s[i].toNat : Int) == 10) with
      | false =>
        have hc : ¬ s[i] = 10 := fun e => by rw [e] at hb; exact absurd hb (by decide)
        have HN2 := Lib.hid (show (10 : UInt8) ∉ (s.data.toList.take (i + 1)).drop fr by
          have hsc : s.data.toList[i] = s[i] := by simp [ByteArray.getElem_eq_getElem_data]
          rw [List.take_succ_eq_append_getElem hil, hsc, List.drop_append_of_le_length (by rw [List.length_take]; omega)]
          intro h
          rcases List.mem_append.1 h with h | h
          · exact HN.out h
          · exact hc (List.mem_singleton.1 h).symm)
        clear hc
        go_wp2_with fail
        go_roundg gf
        case measure => omega
        case rel => exact ⟨i + 1, fr, n, gs, xs, by omega, by omega, by omega, by omega, hgl, hxl, rfl, rfl, by go_num, HN2, HGO, HL⟩
      | true =>
        have hc : s[i] = 10 := UInt8.toNat_inj.1 (by
          have := beq_iff_eq.1 hb
          rw [show (10 : UInt8).toNat = 10 from rfl]; omega)
        obtain ⟨u, hdr, hun, hul, hex⟩ := cut_line s fr i hfi hlt hc HN.out
        have hgo := HGO.out
        rw [hdr, go_line hun] at hgo
        have HGO2 := Lib.hid hgo
        have hfz : (fr : Int) ≤ (i : Int) := by omega
        have hfz0 : (0 : Int) ≤ (fr : Int) := by omega
        have hiz2 : (i : Int) ≤ (s.size : Int) := by omega
        clear hgo hdr hun hc HN HGO
        go_wp2_with fail
        have hus : (⟨u.toArray⟩ : ByteArray).size ≤ 1000000 := by rw [bsize]; omega
        refine (rglobal_calls ⟨u.toArray⟩ hus _).mono ?_
        rintro e w5 ⟨nm, va, ve, rfl, hgl2, hb5⟩
        have HL5 := Lib.hid (HL.out.below hb5)
        have HG2 := Lib.hid hgl2
        clear HL hb5 hgl2 hex hus
        go_upto_region 12 with (fail)
        have HL6 := Lib.hid (HL5.out.below ((Below.refl _ w5).alloc (Nat.le_refl _) (.cells #[.string nm, .int .i64 va, .int .i64 ve] 64)))
        have hq := heap_new w5 (.cells #[.string nm, .int .i64 va, .int .i64 ve] 64)
        clear HL5
        generalize w5.alloc (.cells #[.string nm, .int .i64 va, .int .i64 ve] 64) = W6 at HL6 hq ⊢
        generalize w5.heap.size = q at hq ⊢
        have HQ := Lib.hid hq
        clear hq
        obtain ⟨vG, vI, hc, hG, hI, hnil⟩ := HL6.out.row
        obtain ⟨Ag, cg, rfl, hcg, hFG⟩ := hG.reads
        obtain ⟨Ai, ci, rfl, hci, hFI⟩ := hI.reads
        have HC := Lib.hid hc; have HRG := Lib.hid hG; have HRI := Lib.hid hI; have HNIL := Lib.hid hnil
        clear hc hG hI hFG hFI hnil
        have d0 := cell_in HC.out 0
        have d1 := cell_in HC.out 1
        have hsz6 : w.heap.size + 2 ≤ W6.heap.size := lt_heap HC.out
        go_cut [10, 49] from 14 to 76 (fun s10 s49 wx => s10 = .bool (globP ⟨u.toArray⟩).isSome ∧ s49 = .bool ((globP ⟨u.toArray⟩).isSome && (((xs.length : Int) == 0) && decide ((gs.length : Int) < 65536))) ∧ W6 = wx)
        case first =>
          cases hg1 : (globP ⟨u.toArray⟩).isSome
          · go_wp2_with fail
            go_meet
            exact ⟨by rw [hg1], by rw [hg1]; rfl, rfl⟩
          · cases hk1 : ((xs.length : Int) == 0)
            · go_wp2_with fail
              go_meet
              exact ⟨by rw [hg1], by rw [hg1, hk1]; rfl, rfl⟩
            · go_wp2_with fail
              go_meet
              exact ⟨by rw [hg1], by rw [hg1, hk1]; simp, rfl⟩
        case rest =>
        obtain ⟨rfl, rfl, rfl⟩ := hcut
        cases hbb : ((globP ⟨u.toArray⟩).isSome && (((xs.length : Int) == 0) && decide ((gs.length : Int) < 65536)))
        · have hnone : (if xs.length = 0 ∧ gs.length < 65536 then globP ⟨u.toArray⟩ else none) = none := by
            split
            · next hc =>
              rw [beq_iff_eq.2 (show ((xs.length : Int)) = 0 by omega), decide_eq_true (show (gs.length : Int) < 65536 by omega)] at hbb
              simp only [Bool.and_true] at hbb
              cases hg : globP ⟨u.toArray⟩ with
              | none => rfl
              | some g => rw [hg] at hbb; cases hbb
            · rfl
          have hgo : parseC s.data.toList = (match parseI u with
              | none => (none, n + 1)
              | some x => if 65536 ≤ xs.length then (none, n + 1) else parseGo (lns (s.data.toList.drop (i + 1))) (n + 1) gs (xs ++ [x])) := by rw [HGO2.out, hnone]
          have HGO3 := Lib.hid hgo
          clear hgo hnone hbb HGO2 HG2 HQ
          generalize (globP ⟨u.toArray⟩).isSome = gb
          go_wp2_with fail
          have hus : (⟨u.toArray⟩ : ByteArray).size ≤ 1000000 := by rw [bsize]; omega
          refine (rline_calls ⟨u.toArray⟩ hus _).mono ?_
          rintro e w7 ⟨op, a, b, tb, A, c, rfl, hpx, htc, hFC, hb7⟩
          have hdu : (⟨u.toArray⟩ : ByteArray).data.toList = u := rfl
          rw [hdu] at hpx ⊢
          have HPX := Lib.hid hpx
          have HTC := Lib.hid htc
          have HFC := Lib.hid hFC
          have HB7 := Lib.hid hb7
          have HB9 := Lib.hid (hb7.alloc hb7.size (.cells #[.int .i64 op, .int .i64 a, .int .i64 b, .slice A tb.length c] 45))
          clear hpx htc hFC hb7 d0 d1 hdu hus
          have hxl2 : ¬ (65536 : Int) ≤ (xs.length : Int) := by omega
          cases hpi : parseI u with
          | none =>
            have HB := Lib.hid (show parseC s.data.toList = (none, n + 1) by rw [HGO3.out, hpi])
            clear hpi HGO3 HPX HFC HTC
            go_upto_region 16 with (fail)
            have HL9 := Lib.hid (HL6.out.below HB9.out)
            clear HL6 HC HRG HRI HNIL HB7 HB9
            generalize w7.alloc (.cells #[.int .i64 op, .int .i64 a, .int .i64 b, .slice A tb.length c] 45) = w9 at HL9 ⊢
            have y0 := cell_in HL9.out.res 0
            have y1 := cell_in HL9.out.res 1
            have f0 := blk_frozen HL9.out.res 0
            have f1 := blk_frozen HL9.out.res 1
            obtain ⟨k1, k2, k3⟩ := res2 HL9.out.bel HL9.out.res (.slice none 0 0) (.slice none 0 0)
            have q0 := cell_in k1 0
            have q1 := cell_in k1 1
            have HK2 := Lib.hid k2
            clear k1 k2 k3
            go_wp2_with fail
            exact bodyPost_ret (v := .tuple #[.agg #[.slice none 0 0, .slice none 0 0], .int .i64 ((n + 1 : Nat) : Int)]) (by simp [results, Tryz.results8, go_sem, q0, q1]) rfl (.inl ⟨n + 1, HB.out, rfl, HK2.out⟩)
          | some x =>
            have hxv := HPX.out x hpi
            subst hxv
            have hgo : parseC s.data.toList = parseGo (lns (s.data.toList.drop (i + 1))) (n + 1) gs (xs ++ [⟨op, a, b, tb⟩]) := by
              rw [HGO3.out, hpi]
              simp only
              rw [if_neg (by omega)]
            have HGO4 := Lib.hid hgo
            clear hgo hpi HGO3 HPX
            have hc9 := (HB9.out.block _ (lt_heap HC.out)).trans HC.out
            have hx9 := heap_new w7 (.cells #[.int .i64 op, .int .i64 a, .int .i64 b, .slice A tb.length c] 45)
            have hs7 := HB7.out.size
            have HC9 := Lib.hid hc9
            have HX9 := Lib.hid hx9
            clear hc9 hx9
            go_upto_region 15 with (fail)
            have hfc9 : ∀ k, W6.heap.size ≤ k → k < w7.heap.size → (w7.alloc (.cells #[.int .i64 op, .int .i64 a, .int .i64 b, .slice A tb.length c] 45)).heap[k]? = w7.heap[k]? := fun k _ hk => heap_old _ _ _ hk
            have hs9 : w7.heap.size + 1 = (w7.alloc (.cells #[.int .i64 op, .int .i64 a, .int .i64 b, .slice A tb.length c] 45)).heap.size := (World.size_alloc _ _).symm
            have HFC9 := Lib.hid hfc9
            clear hfc9
            generalize w7.alloc (.cells #[.int .i64 op, .int .i64 a, .int .i64 b, .slice A tb.length c] 45) = w9 at HB9 HFC9 HC9 HX9 hs9 ⊢
            generalize hxq : w7.heap.size = xq at hs7 hs9 HX9 ⊢
            have k1 := cell_in HC9.out 1
            have HS9 := Lib.hid hs9
            have HS7 := Lib.hid hs7
            have hd : decide ((65536 : Int) ≤ (xs.length : Int)) = false := decide_eq_false (by omega)
            clear hs9 hxq hs7
            go_upto_region 17 with (fail)
            have x0 := cell_in HX9.out 0
            have x1 := cell_in HX9.out 1
            have x2 := cell_in HX9.out 2
            have x3 := cell_in HX9.out 3
            have hrI := HRI.out.below (HB9.out.alloc HB9.out.size (.cells #[.int .i64 op, .int .i64 a, .int .i64 b, .slice A tb.length c] 45))
            obtain ⟨cells, hown, hreps⟩ := hrI
            have HOWN := Lib.hid hown
            have HREPS := Lib.hid hreps
            clear hown hreps
            obtain ⟨i0, hi0, hz0, hz1, hz2⟩ := info_parts info45
            have HM1 := Lib.hid (show xs.length + 1 ≤ maxLen by unfold maxLen; omega)
            have HM2 := Lib.hid (show (xs.length + 1) * 48 ≤ 140737488355328 by omega)
            have HM3 := Lib.hid (show w.heap.size + 2 ≤ (w9.alloc (.cells #[.int .i64 op, .int .i64 a, .int .i64 b, .slice A tb.length c] 45)).heap.size by rw [World.size_alloc]; have := HS9.out; have := HS7.out; omega)
            go_wp2_with (at_builtin; refine wpList_append_own_at _ rfl _ _ 30 rfl (w.heap.size + 2) 45 i0 _ 4 48 Tryz.underlying30 hi0 hz0 hz1 hz2 rfl (by decide) (.slice Ai xs.length ci) xs.length cells rfl HOWN.out ⟨w9.heap.size, 0, none⟩ 1 1 [.int .i64 op, .int .i64 a, .int .i64 b, .slice A tb.length c] rfl rfl (cells_of w9 _ _) (by intro u' hu; simp at hu; rcases hu with rfl | rfl | rfl | rfl <;> rfl) HM1.out HM2.out HM3.out ?_)
            intro v' w8 hown' hgrow _ hloc
            obtain ⟨g', cap', rfl⟩ := ownsRow_succ hown'
            have hA0 := (HRI.out.below (HB9.out.alloc HB9.out.size (.cells #[.int .i64 op, .int .i64 a, .int .i64 b, .slice A tb.length c] 45)))
            have hblt := HRI.out.block
            have hs9w := HB9.out.size
            have hrow : Row kI 45 (w.heap.size + 2) (fun k => w.heap.size + 2 ≤ k) w8 (.slice (some ⟨g', 0, none⟩) (xs.length + 1) cap') (xs ++ [⟨op, a, b, tb⟩]) :=
              Row.append hA0 HOWN.out HREPS.out (fun W' ha => kI_mk W' ⟨op, a, b, tb⟩ HTC.out (HFC.out W' (fun k hk => by
                have e1 := HFC9.out k hk.1 hk.2
                have hk9 : k < w9.heap.size := by
                  rw [Array.getElem?_eq_getElem hk.2] at e1
                  exact lt_heap e1
                refine (ha k ⟨by have := hk.1; omega, fun e => ?_, by rw [World.size_alloc]; omega⟩).trans ((heap_old w9 _ k hk9).trans e1)
                have := (hblt k e.symm).2
                have := hk.1
                omega))) rfl hown' hgrow (by
                rcases hloc with h | h
                · exact .inl (h.symm.trans rfl)
                · exact .inr (by rw [World.size_alloc]; exact Nat.le_of_eq (Option.some.inj h).symm))
            obtain ⟨hfr, hko, hs8⟩ := grow_frame HOWN.out (.inr (fun k hk => Nat.lt_of_lt_of_le (hblt k hk).2 hs9w)) hgrow
            have hfr2 : ∀ k, k < W6.heap.size → k < w.heap.size + 2 → w8.heap[k]? = W6.heap[k]? := fun k h1 h2 => (hfr k (by omega) h2).trans (HB9.out.block k h1)
            have hgA := HRG.out.below (HB9.out.alloc HB9.out.size (.cells #[.int .i64 op, .int .i64 a, .int .i64 b, .slice A tb.length c] 45))
            have hrg : Row k52 64 (w.heap.size + 2) (fun _ => False) w8 (.slice Ag gs.length cg) gs := by
              refine hgA.kept hgrow ?_ (fun _ _ f => f)
              cases hv : (Value.slice Ag gs.length cg).ownBlock with
              | none => exact .inl rfl
              | some k =>
                refine .inr (fun e => ?_)
                obtain ⟨cs1, ho1, _⟩ := hgA
                obtain ⟨c1, h1⟩ := own_typed ho1 k hv
                obtain ⟨c2, h2⟩ := own_typed HOWN.out k e.symm
                rw [h1] at h2
                cases h2
            have hB8 : Below w.heap.size w w8 := ((HL6.out.bel.trans (HB9.out.mono HL6.out.bel.size)).alloc (Nat.le_trans HL6.out.bel.size hs9w) _).grown hgrow (by rw [World.size_alloc]; omega) (fun k hk => Nat.le_trans (by omega) (HOWN.out.lt k hk).1)
            have HROW := Lib.hid hrow; have HFR := Lib.hid hfr2; have HB8 := Lib.hid hB8; have HRG8 := Lib.hid hrg
            have hc8 := (hfr2 (w.heap.size + 1) (by omega) (by omega)).trans HC.out
            have HC8 := Lib.hid hc8
            have HL8 := Lib.hid (HL6.out.made HB8.out HFR.out 1 _ _ _ (heap_set HC8.out 1 _) HRG8.out HROW.out (fun e => by simp at e))
            clear hrow hfr hfr2 hko hB8 hown' hgrow hloc x0 x1 x2 x3 k1 hA0 hblt hgA hrg hs8 hs9w
            have d1 := cell_in hc8 1
            have fz := blk_frozen hc8 1
            clear hc8
            go_wp2_with fail
            go_roundg gf
            case measure => omega
            case rel => exact ⟨i + 1, i + 1, n + 1, gs, xs ++ [⟨op, a, b, tb⟩], by omega, by omega, by omega, by omega, by omega, by rw [List.length_append, List.length_singleton]; omega, by go_num, by go_num, by go_num, Lib.hid (by simp), HGO4, HL8⟩
        · have hbb1 : (globP ⟨u.toArray⟩).isSome = true ∧ xs.length = 0 ∧ gs.length < 65536 := by
            rw [Bool.and_eq_true, Bool.and_eq_true] at hbb
            exact ⟨hbb.1, by have := beq_iff_eq.1 hbb.2.1; omega, by have := of_decide_eq_true hbb.2.2; omega⟩
          obtain ⟨hs1, hx0, hg0⟩ := hbb1
          obtain ⟨g1, hg1⟩ := Option.isSome_iff_exists.1 hs1
          have hgv := HG2.out g1 hg1
          subst hgv
          have hgo : parseC s.data.toList = parseGo (lns (s.data.toList.drop (i + 1))) (n + 1) (gs ++ [⟨nm, va, ve⟩]) xs := by
            rw [HGO2.out, if_pos ⟨hx0, hg0⟩, hg1]
          have HGO3 := Lib.hid hgo
          obtain rfl : xs = [] := List.length_eq_zero_iff.1 hx0
          have hnv := HNIL.out rfl
          simp only [List.length_nil, Value.slice.injEq, true_and] at hnv
          obtain ⟨rfl, rfl⟩ := hnv
          clear hgo hg1 hs1 hbb hg0 hx0 HGO2
          generalize (globP ⟨u.toArray⟩).isSome = gb
          have q0 := cell_in HQ.out 0
          have q1 := cell_in HQ.out 1
          have q2 := cell_in HQ.out 2
          obtain ⟨cells, hown, hreps⟩ := HRG.out.alloc (.cells #[.string nm, .int .i64 va, .int .i64 ve] 64)
          have HOWN := Lib.hid hown
          have HREPS := Lib.hid hreps
          clear hown hreps
          obtain ⟨i0, hi0, hz0, hz1, hz2⟩ := info_parts info64
          go_wp2_with (at_builtin; refine wpList_append_own_at _ rfl _ _ 29 rfl (w.heap.size + 2) 64 i0 _ 3 32 Tryz.underlying29 hi0 hz0 hz1 hz2 rfl (by decide) (.slice Ag gs.length cg) gs.length cells rfl HOWN.out ⟨W6.heap.size, 0, none⟩ 1 1 [.string nm, .int .i64 va, .int .i64 ve] rfl rfl (cells_of W6 _ _) (by intro u' hu; simp at hu; rcases hu with rfl | rfl | rfl <;> rfl) (by unfold maxLen; omega) (by omega) (by rw [World.size_alloc]; omega) ?_)
          intro v' w8 hown' hgrow _ hloc
          obtain ⟨g', cap', rfl⟩ := ownsRow_succ hown'
          have hrow : Row k52 64 (w.heap.size + 2) (fun _ => False) w8 (.slice (some ⟨g', 0, none⟩) (gs.length + 1) cap') (gs ++ [⟨nm, va, ve⟩]) :=
            Row.append (HRG.out.alloc _) HOWN.out HREPS.out (fun W' _ => ⟨[.string nm], [.int .i64 va, .int .i64 ve], rfl, rfl, ⟨[.int .i64 va], [.int .i64 ve], rfl, rfl, rfl⟩⟩) rfl hown' hgrow (by
              rcases hloc with h | h
              · exact .inl (h.symm.trans rfl)
              · exact .inr (by rw [World.size_alloc]; exact Nat.le_of_eq (Option.some.inj h).symm))
          obtain ⟨hfr, hko, hs8⟩ := grow_frame HOWN.out (.inr (fun k hk => (HRG.out.block k hk).2)) hgrow
          have hB8 : Below w.heap.size w w8 := (HL6.out.bel.alloc HL6.out.bel.size _).grown hgrow (by rw [World.size_alloc]; omega) (fun k hk => Nat.le_trans (by omega) (HOWN.out.lt k hk).1)
          have HROW := Lib.hid hrow; have HFR := Lib.hid hfr; have HB8 := Lib.hid hB8
          have hc8 := (hfr (w.heap.size + 1) (by omega) (by omega)).trans HC.out
          have HC8 := Lib.hid hc8
          have HL8 := Lib.hid (HL6.out.made (xs := []) HB8.out HFR.out 0 _ _ (.slice none 0 0) (heap_set HC8.out 0 (.slice (some ⟨g', 0, none⟩) (gs.length + 1) cap')) HROW.out (Row.nil _) (fun _ => rfl))
          clear hrow hfr hko hB8 hown' hgrow hloc q0 q1 q2 d0 d1
          have d0 := cell_in hc8 0
          have fz := blk_frozen hc8 0
          clear hc8
          go_wp2_with fail
          go_roundg gf
          case measure => omega
          case rel => exact ⟨i + 1, i + 1, n + 1, gs ++ [⟨nm, va, ve⟩], [], by omega, by omega, by omega, by omega, by rw [List.length_append, List.length_singleton]; omega, by simp, by go_num, by go_num, by go_num, Lib.hid (by simp), HGO3, HL8⟩
    · have hltz : ¬ (i : Int) < (s.size : Int) := by omega
      obtain rfl : i = s.size := by omega
      have hn := HN.out
      rw [sizeL, List.take_length] at hn
      have y0 := cell_in HL.out.res 0
      have y1 := cell_in HL.out.res 1
      have f0 := blk_frozen HL.out.res 0
      have f1 := blk_frozen HL.out.res 1
      by_cases hfs : fr < s.size
      · have hfz : (fr : Int) < (s.size : Int) := by omega
        have HNO := Lib.hid (show parseC s.data.toList = (none, n + 1) by
          rw [HGO.out]
          exact go_last hn (fun e => by
            have h1 := congrArg List.length e
            rw [List.length_drop, ← sizeL, List.length_nil] at h1
            omega) _ _ _)
        obtain ⟨k1, k2, k3⟩ := res2 HL.out.bel HL.out.res (.slice none 0 0) (.slice none 0 0)
        have q0 := cell_in k1 0
        have q1 := cell_in k1 1
        have HK2 := Lib.hid k2
        have hn1 : (n : Int) + 1 ≤ 65536 := by omega
        clear k1 k2 k3 hn HGO HN
        go_wp2_with fail
        exact bodyPost_ret (v := .tuple #[.agg #[.slice none 0 0, .slice none 0 0], .int .i64 ((n + 1 : Nat) : Int)]) (by simp [results, Tryz.results8, go_sem, q0, q1]) rfl (.inl ⟨n + 1, HNO.out, rfl, HK2.out⟩)
      · have hfz : ¬ (fr : Int) < (s.size : Int) := by omega
        have HYES := Lib.hid (show parseC s.data.toList = (some (gs, xs), 0) by
          rw [HGO.out, show fr = s.data.toList.length by rw [← sizeL]; omega, List.drop_length]
          rfl)
        obtain ⟨vG, vI, hc, hG, hI, hnil⟩ := HL.out.row
        obtain ⟨Ag, cg, rfl, hcg, hFG⟩ := hG.reads
        obtain ⟨Ai, ci, rfl, hci, hFI⟩ := hI.reads
        have d0 := cell_in hc 0
        have d1 := cell_in hc 1
        obtain ⟨k1, k2, k3⟩ := res2 HL.out.bel HL.out.res (.slice Ag gs.length cg) (.slice Ai xs.length ci)
        have q0 := cell_in k1 0
        have q1 := cell_in k1 1
        have HK2 := Lib.hid k2
        have HK3 := Lib.hid k3
        have HFG := Lib.hid hFG
        have HFI := Lib.hid hFI
        clear k1 k2 k3 hn HGO HN hFG hFI hG hI hnil hc
        go_wp2_with fail
        exact bodyPost_ret (v := .tuple #[.agg #[.slice Ag gs.length cg, .slice Ai xs.length ci], .int .i64 0]) (by simp [results, Tryz.results8, go_sem, q0, q1]) rfl (.inr ⟨gs, xs, Ag, cg, Ai, ci, HYES.out, rfl, hcg, hci, HFG.out _ (fun k hk => HK3.out k (by have := hk.1.resolve_left (fun f => f); omega)), HFI.out _ (fun k hk => HK3.out k (by have := hk.1.elim (fun f => f) (fun f => f); omega)), HK2.out⟩)
end Go.Proofs.YtcmhibcoccdmaaaGreatDoor.P
