/- The reference's global. -/
import Derived.Test.YtcmhibcoccdmaaaGreatDoorRfD
import Derived.Deep.RegionWith
import Derived.Test.YtcmhibcoccdmaaaGreatDoorInO
namespace Go.Proofs.YtcmhibcoccdmaaaGreatDoor.P
open Go.RowKit Go.Shelf Go.Proofs.YtcmhibcoccdmaaaGreatDoorW.PrintWords Go.Proofs.YtcmhibcoccdmaaaGreatDoorW.PrintLast Go.Proofs.YtcmhibcoccdmaaaGreatDoor.Rw
set_option linter.unusedVariables false
set_option linter.unusedSimpArgs false
theorem spl_free : ∀ (l : List UInt8) (x : List UInt8), x ∈ spl l → (32 : UInt8) ∉ x
  | [], x, h => by rw [spl, List.mem_singleton] at h; rw [h]; simp
  | c :: t, x, h => by
    have ih := spl_free t
    rw [spl] at h
    split at h
    · rcases List.mem_cons.1 h with rfl | h
      · simp
      · exact ih x h
    · next hc =>
      obtain ⟨a, r, e⟩ := spl_some t
      rw [e] at h ih
      simp only at h
      rcases List.mem_cons.1 h with rfl | h
      · intro hm
        rcases List.mem_cons.1 hm with hm | hm
        · exact hc hm.symm
        · exact ih a (by simp) hm
      · exact ih x (List.mem_cons_of_mem _ h)
theorem glob_few (s : ByteArray) (h : (spl s.data.toList).length < 4) : globP s = none := by
  have hj := join_spl s.data.toList
  have hf := spl_free s.data.toList
  have hsz := sizeL s
  rw [globP_eq]
  match hsp : spl s.data.toList, h with
  | [], _ => exact absurd hsp (spl_ne _)
  | [a], _ =>
    rw [hsp] at hj hf
    rw [Lib.join_one] at hj
    rw [← hj, splitK_head _ _ (hf a (by simp))]
    rfl
  | [a, b], _ =>
    rw [hsp] at hj hf
    rw [join_two, Lib.join_one] at hj
    rw [← hj, List.length_append, List.length_cons] at hsz
    obtain ⟨k, hk⟩ : ∃ k, min 4 (s.size + 1) - 1 = k + 1 := ⟨min 4 (s.size + 1) - 2, by omega⟩
    rw [hk, ← hj, splitK_hit _ _ _ (hf a (by simp)), splitK_head _ _ (hf b (by simp))]
    rfl
  | [a, b, c], _ =>
    rw [hsp] at hj hf
    rw [join_two, join_two, Lib.join_one] at hj
    rw [← hj, List.length_append, List.length_cons, List.length_append, List.length_cons] at hsz
    obtain ⟨k, hk⟩ : ∃ k, min 4 (s.size + 1) - 1 = k + 1 + 1 := ⟨min 4 (s.size + 1) - 3, by omega⟩
    rw [hk, ← hj, splitK_hit _ _ _ (hf a (by simp)), splitK_hit _ _ _ (hf b (by simp)), splitK_head _ _ (hf c (by simp))]
    rfl
  | _ :: _ :: _ :: _ :: _, h => simp at h; omega
theorem glob_words (s : ByteArray) (w0 w1 w2 w3 : List UInt8) (r : List (List UInt8)) (h : spl s.data.toList = w0 :: w1 :: w2 :: w3 :: r) :
    ∃ d : List UInt8, globP s = globM [w0, w1, w2, d] ∧ w0.length + w1.length + w2.length + 3 ≤ s.size ∧ s.extract (w0.length + w1.length + w2.length + 3) s.size = ⟨d.toArray⟩ ∧ d.length ≤ s.size := by
  have hj := join_spl s.data.toList
  have hf := spl_free s.data.toList
  have hsz := sizeL s
  rw [h] at hj hf
  rw [join_two, join_two, join_two] at hj
  refine ⟨Lib.join (w3 :: r) [32], ?_, ?_, ?_, ?_⟩
  · rw [← hj] at hsz
    simp only [List.length_append, List.length_cons] at hsz
    rw [globP_eq, show min 4 (s.size + 1) - 1 = 3 by omega, ← hj, splitK_hit _ _ _ (hf w0 (by simp)), splitK_hit _ _ _ (hf w1 (by simp)), splitK_hit _ _ _ (hf w2 (by simp)), Lib.splitK]
  · rw [hsz, ← hj]
    simp only [List.length_append, List.length_cons]
    omega
  · apply ByteArray.ext
    apply Array.ext'
    rw [ByteArray.data_extract]
    simp only [Array.toList_extract, List.extract_eq_take_drop]
    rw [← hj]
    have e : w0 ++ 32 :: (w1 ++ 32 :: (w2 ++ 32 :: Lib.join (w3 :: r) [32])) = (w0 ++ 32 :: (w1 ++ 32 :: (w2 ++ [32]))) ++ Lib.join (w3 :: r) [32] := by simp
    rw [e, List.drop_left' (by simp only [List.length_append, List.length_cons, List.length_nil]; omega), List.take_of_length_le]
    rw [hsz, ← hj, e]
    simp only [List.length_append, List.length_cons, List.length_nil]
    omega
  · rw [hsz, ← hj]
    simp only [List.length_append, List.length_cons]
    omega
set_option maxHeartbeats 8000000 in
set_option maxRecDepth 100000 in
theorem rglobal_calls (s : ByteArray) (hs : s.size ≤ 1000000) (w : World) : Calls Tryz.prog 24 #[.string s] w (GlobR s w) := by
  go_enter Tryz.func24, Tryz.ntmps24
  have ha := (Below.refl _ w).alloc (Nat.le_refl _) (.cells #[.string ⟨#[]⟩, .int .i64 0, .int .i64 0] 64)
  have hx := heap_new w (.cells #[.string ⟨#[]⟩, .int .i64 0, .int .i64 0] 64)
  go_upto_region 1 with (fail)
  generalize hw1 : w.alloc (.cells #[.string ⟨#[]⟩, .int .i64 0, .int .i64 0] 64) = w1 at ha hx ⊢
  clear hw1
  go_wp2_with fail
  refine (words_calls s (by omega) w1).mono ?_
  rintro x w2 ⟨g, cap, cur, rfl, hlen, hg, hcur, hb2⟩
  have HX2 := Lib.hid ((hb2.block w.heap.size (lt_heap hx)).trans hx)
  have HB2 := Lib.hid (bel2 ha hb2)
  have HG2 := Lib.hid hg
  clear ha hx hb2 hg
  by_cases hn : (spl s.data.toList).length < 4
  · have hnz : ((spl s.data.toList).length : Int) < 4 := by omega
    have HN := Lib.hid (glob_few s hn)
    have z0 := cell_in HX2.out 0
    have z1 := cell_in HX2.out 1
    have z2 := cell_in HX2.out 2
    have f0 := blk_frozen HX2.out 0
    have f1 := blk_frozen HX2.out 1
    have f2 := blk_frozen HX2.out 2
    have hset := heap_set (heap_set (heap_set HX2.out 0 (.string ⟨#[]⟩)) 1 (.int .i64 0)) 2 (.int .i64 0)
    have hbel : Below w.heap.size w (((w2.setCell ⟨w.heap.size, 0, none⟩ (.string ⟨#[]⟩)).setCell ⟨w.heap.size, 1, none⟩ (.int .i64 0)).setCell ⟨w.heap.size, 2, none⟩ (.int .i64 0)) := ((HB2.out.setCell (p := ⟨w.heap.size, 0, none⟩) (Nat.le_refl _) _).setCell (p := ⟨w.heap.size, 1, none⟩) (Nat.le_refl _) _).setCell (p := ⟨w.heap.size, 2, none⟩) (Nat.le_refl _) _
    have q0 := cell_in hset 0
    have q1 := cell_in hset 1
    have q2 := cell_in hset 2
    have HBL := Lib.hid hbel
    clear hbel hset hn hcur
    go_wp2_with fail
    exact bodyPost_ret (v := .tuple #[.agg #[.string ⟨#[]⟩, .int .i64 0, .int .i64 0], .bool (globP s).isSome]) (by rw [HN.out]; simp [results, Tryz.results24, go_sem, q0, q1, q2]) rfl ⟨⟨#[]⟩, 0, 0, rfl, by rw [HN.out]; simp, HBL.out⟩
  · obtain ⟨w0, w1, w2', w3, r, hsp⟩ : ∃ w0 w1 w2 w3 r, spl s.data.toList = w0 :: w1 :: w2 :: w3 :: r := by
      match spl s.data.toList, hn with
      | a :: b :: c :: d :: r, _ => exact ⟨a, b, c, d, r, rfl⟩
      | [], h => simp at h
      | [_], h => simp at h
      | [_, _], h => simp at h
      | [_, _, _], h => simp at h
    obtain ⟨d, hgl, hsum, hext, hdl⟩ := glob_words s w0 w1 w2' w3 r hsp
    have hnz : ¬ ((spl s.data.toList).length : Int) < 4 := by omega
    have hk0 := hcur 0 w0 (by rw [hsp]; rfl)
    have hk1 := hcur 1 w1 (by rw [hsp]; rfl)
    have hk2 := hcur 2 w2' (by rw [hsp]; rfl)
    have n0 : (0 : Int) < ((spl s.data.toList).length : Int) := by omega
    have n1 : (1 : Int) < ((spl s.data.toList).length : Int) := by omega
    have n2 : (2 : Int) < ((spl s.data.toList).length : Int) := by omega
    generalize (spl s.data.toList).length = n at hnz n0 n1 n2 hlen ⊢
    have HGL := Lib.hid hgl
    clear hn hcur hsp hgl
    have c0 := (cell_in HG2.out 0).trans hk0
    by_cases he : w0 = [103, 108, 111, 98, 97, 108]
    · subst he
      have c1 := (cell_in HG2.out 1).trans hk1
      have c2 := (cell_in HG2.out 2).trans hk2
      go_wp2_with fail
      refine (rnumber_calls ⟨w1.toArray⟩ _).mono ?_
      rintro x w3 ⟨va, rfl, hva, hb3⟩
      have hd1 : (⟨w1.toArray⟩ : ByteArray).data.toList = w1 := rfl
      rw [hd1] at hva ⊢
      have HX3 := Lib.hid ((hb3.block w.heap.size (lt_heap HX2.out)).trans HX2.out)
      have HG3 := Lib.hid ((hb3.block g (lt_heap HG2.out)).trans HG2.out)
      have HB3 := Lib.hid (bel2 HB2.out hb3)
      clear hb3 c0 c1 c2
      have c0 := (cell_in HG3.out 0).trans hk0
      have c1 := (cell_in HG3.out 1).trans hk1
      have c2 := (cell_in HG3.out 2).trans hk2
      go_wp2_with fail
      refine (rnumber_calls ⟨w2'.toArray⟩ _).mono ?_
      rintro x w4 ⟨ve, rfl, hve, hb4⟩
      have hd2 : (⟨w2'.toArray⟩ : ByteArray).data.toList = w2' := rfl
      rw [hd2] at hve ⊢
      have HX4 := Lib.hid ((hb4.block w.heap.size (lt_heap HX3.out)).trans HX3.out)
      have HG4 := Lib.hid ((hb4.block g (lt_heap HG3.out)).trans HG3.out)
      have HB4 := Lib.hid (bel2 HB3.out hb4)
      clear hb4 c0 c1 c2
      have hV : ∀ z, globP s = some z → z = ⟨⟨d.toArray⟩, va, ve⟩ := by
        rw [HGL.out]
        intro z hz
        unfold globM at hz
        simp only [if_true] at hz
        cases h1 : numP w1 with
        | none => rw [h1] at hz; cases hz
        | some t1 =>
          rw [h1] at hz
          cases h2 : numP w2' with
          | none => rw [h2] at hz; cases hz
          | some t2 =>
            rw [h2] at hz
            simp only at hz
            split at hz
            · cases hz
              rw [hva t1 h1, hve t2 h2]
            · cases hz
      have hI : (globP s).isSome = ((numP w1).isSome && ((numP w2').isSome && globB ⟨d.toArray⟩ va ve)) := by
        rw [HGL.out]
        unfold globM
        simp only [if_true]
        cases h1 : numP w1 with
        | none => rfl
        | some t1 =>
          cases h2 : numP w2' with
          | none => rfl
          | some t2 =>
            rw [hva t1 h1, hve t2 h2]
            cases hgb : globB ⟨d.toArray⟩ t1 t2 <;> simp [hgb]
      have HV := Lib.hid hV
      have HI := Lib.hid hI
      clear hV hI hva hve HGL
      go_upto_region 6 with (fail)
      have c0 := (cell_in HG4.out 0).trans hk0
      have c1 := (cell_in HG4.out 1).trans hk1
      have c2 := (cell_in HG4.out 2).trans hk2
      have b0 := cell_allocN (.cells #[.string ⟨#[]⟩, .int .i64 0, .int .i64 0] 64) c0
      have b1 := cell_allocN (.cells #[.string ⟨#[]⟩, .int .i64 0, .int .i64 0] 64) c1
      have b2 := cell_allocN (.cells #[.string ⟨#[]⟩, .int .i64 0, .int .i64 0] 64) c2
      simp only [List.length_cons, List.length_nil, Nat.zero_add, Nat.reduceAdd] at hsum hext
      have hext2 : s.extract (6 + w1.length + w2'.length + 3) s.size = ⟨d.toArray⟩ := hext
      have hsum2 : 6 + w1.length + w2'.length + 3 ≤ s.size := hsum
      have s1 : IntKind.i64.wrap (6 + (w1.length : Int)) = 6 + (w1.length : Int) := IntWalk.i64_in _ (by omega)
      have s2 : IntKind.i64.wrap (6 + (w1.length : Int) + (w2'.length : Int)) = 6 + (w1.length : Int) + (w2'.length : Int) := IntWalk.i64_in _ (by omega)
      have s3 : IntKind.i64.wrap (6 + (w1.length : Int) + (w2'.length : Int) + 3) = 6 + (w1.length : Int) + (w2'.length : Int) + 3 := IntWalk.i64_in _ (by omega)
      have s4 : (0 : Int) ≤ 6 + (w1.length : Int) + (w2'.length : Int) + 3 := by omega
      have s5 : 6 + (w1.length : Int) + (w2'.length : Int) + 3 ≤ (s.size : Int) := by omega
      have s6 : (6 + (w1.length : Int) + (w2'.length : Int) + 3).toNat = 6 + w1.length + w2'.length + 3 := by omega
      clear hsum hext
      go_region
      clear c0 c1 c2 b0 b1 b2 s1 s2 s3 s4 s5 s6 hk0 hk1 hk2 hext2 hsum2
      have hy : (w4.alloc (.cells #[.string ⟨d.toArray⟩, .int .i64 va, .int .i64 ve] 64)).drew.heap[w4.heap.size]? = some (.cells #[.string ⟨d.toArray⟩, .int .i64 va, .int .i64 ve] 64 (0, 0)) := heap_new w4 (.cells #[.string ⟨d.toArray⟩, .int .i64 va, .int .i64 ve] 64)
      have hB5 := (HB4.out.alloc HB4.out.size (.cells #[.string ⟨d.toArray⟩, .int .i64 va, .int .i64 ve] 64)).drew
      have hx5 : (w4.alloc (.cells #[.string ⟨d.toArray⟩, .int .i64 va, .int .i64 ve] 64)).drew.heap[w.heap.size]? = some (.cells #[.string ⟨#[]⟩, .int .i64 0, .int .i64 0] 64 (0, 0)) := (heap_old w4 (.cells #[.string ⟨d.toArray⟩, .int .i64 va, .int .i64 ve] 64) w.heap.size (lt_heap HX4.out)).trans HX4.out
      go_upto_region 7 with (fail)
      generalize (w4.alloc (.cells #[.string ⟨d.toArray⟩, .int .i64 va, .int .i64 ve] 64)).drew = W5 at hy hB5 hx5 ⊢
      have hsz : (⟨d.toArray⟩ : ByteArray).size ≤ 9223372036854775807 := by rw [bsize]; omega
      generalize w4.heap.size = y at hy ⊢
      have HAF := Lib.hid (fun W' (hb : Below W5.heap.size W5 W') => (show W'.heap[y]? = some (.cells #[.string ⟨d.toArray⟩, .int .i64 va, .int .i64 ve] 64 (0, 0)) ∧ W'.heap[w.heap.size]? = some (.cells #[.string ⟨#[]⟩, .int .i64 0, .int .i64 0] 64 (0, 0)) ∧ Below w.heap.size w W' from ⟨(hb.block y (lt_heap hy)).trans hy, (hb.block _ (lt_heap hx5)).trans hx5, bel2 hB5 hb⟩))
      have HFIN := Lib.hid (fun W' (hb : Below W5.heap.size W5 W') => (show ((((W'.setCell ⟨w.heap.size, 0, none⟩ (.string ⟨d.toArray⟩)).setCell ⟨w.heap.size, 1, none⟩ (.int .i64 va)).setCell ⟨w.heap.size, 2, none⟩ (.int .i64 ve)).heap[w.heap.size]? = some (.cells #[.string ⟨d.toArray⟩, .int .i64 va, .int .i64 ve] 64 (0, 0))) ∧ Below w.heap.size w (((W'.setCell ⟨w.heap.size, 0, none⟩ (.string ⟨d.toArray⟩)).setCell ⟨w.heap.size, 1, none⟩ (.int .i64 va)).setCell ⟨w.heap.size, 2, none⟩ (.int .i64 ve)) from
        ⟨heap_set (heap_set (heap_set (HAF.out W' hb).2.1 0 _) 1 _) 2 _, (((HAF.out W' hb).2.2.setCell (p := ⟨w.heap.size, 0, none⟩) (Nat.le_refl _) _).setCell (p := ⟨w.heap.size, 1, none⟩) (Nat.le_refl _) _).setCell (p := ⟨w.heap.size, 2, none⟩) (Nat.le_refl _) _⟩))
      have y0 := cell_in hy 0
      have y1 := cell_in hy 1
      have y2 := cell_in hy 2
      clear hy hB5 hx5 HX4 HB4 HG4
      generalize (numP w1).isSome = nb at HI ⊢
      generalize (numP w2').isSome = mb at HI ⊢
      have hq : (nb && mb) = false ∨ (nb = true ∧ mb = true) := by cases nb <;> cases mb <;> simp
      rcases hq with hq | ⟨rfl, rfl⟩
      · have HF := Lib.hid (show (globP s).isSome = false by rw [HI.out, ← Bool.and_assoc, hq, Bool.false_and])
        have x5 := (HAF.out W5 (Below.refl _ W5)).2.1
        have z0 := cell_in x5 0
        have z1 := cell_in x5 1
        have z2 := cell_in x5 2
        have f0 := blk_frozen x5 0
        have f1 := blk_frozen x5 1
        have f2 := blk_frozen x5 2
        have hfin := HFIN.out W5 (Below.refl _ W5)
        have q0 := cell_in hfin.1 0
        have q1 := cell_in hfin.1 1
        have q2 := cell_in hfin.1 2
        have HBL := Lib.hid hfin.2
        clear x5 hfin
        cases nb with
        | false =>
          clear hq
          go_region
          go_wp2_with fail
          exact bodyPost_ret (v := .tuple #[.agg #[.string ⟨d.toArray⟩, .int .i64 va, .int .i64 ve], .bool (globP s).isSome]) (by rw [HF.out]; simp [results, Tryz.results24, go_sem, q0, q1, q2]) rfl ⟨⟨d.toArray⟩, va, ve, rfl, HV.out, HBL.out.drew⟩
        | true =>
          obtain rfl : mb = false := by simpa using hq
          clear hq
          go_region
          go_wp2_with fail
          exact bodyPost_ret (v := .tuple #[.agg #[.string ⟨d.toArray⟩, .int .i64 va, .int .i64 ve], .bool (globP s).isSome]) (by rw [HF.out]; simp [results, Tryz.results24, go_sem, q0, q1, q2]) rfl ⟨⟨d.toArray⟩, va, ve, rfl, HV.out, HBL.out.drew⟩
      · have HF := Lib.hid (show (globP s).isSome = globB ⟨d.toArray⟩ va ve from HI.out)
        clear HI
        have HALW := Lib.hid (fun w9 (hb9 : Below (W5.alloc (.cells #[.string ⟨d.toArray⟩, .int .i64 va, .int .i64 ve] 64)).drew.heap.size (W5.alloc (.cells #[.string ⟨d.toArray⟩, .int .i64 va, .int .i64 ve] 64)).drew w9) => (show Below W5.heap.size W5 w9 from bel2 (((Below.refl _ W5).alloc (Nat.le_refl _) (.cells #[.string ⟨d.toArray⟩, .int .i64 va, .int .i64 ve] 64)).drew) hb9))
        have HYS := Lib.hid (fun W' (hb : Below W5.heap.size W5 W') => (show W'.cell? ⟨y, 0, none⟩ = some (.string ⟨d.toArray⟩) ∧ W'.cell? ⟨y, 1, none⟩ = some (.int .i64 va) ∧ W'.cell? ⟨y, 2, none⟩ = some (.int .i64 ve) from ⟨cell_in (HAF.out W' hb).1 0, cell_in (HAF.out W' hb).1 1, cell_in (HAF.out W' hb).1 2⟩))
        clear y0 y1 y2
        obtain ⟨y0, y1, y2⟩ := HYS.out W5 (Below.refl _ W5)
        obtain ⟨u0, u1, u2⟩ := HYS.out (W5.alloc (.cells #[.string ⟨d.toArray⟩, .int .i64 va, .int .i64 ve] 64)) ((Below.refl _ W5).alloc (Nat.le_refl _) _)
        refine wp_calm ?_
        go_region_with (go_at_call 58; refine (rfine_calls ⟨d.toArray⟩ va ve W5.heap.size 1 ((W5.alloc (.cells #[.string ⟨d.toArray⟩, .int .i64 va, .int .i64 ve] 64)).drew) hsz (heap_new W5 (.cells #[.string ⟨d.toArray⟩, .int .i64 va, .int .i64 ve] 64))).mono ?_; rintro x w9 ⟨rfl, hb9⟩; have hb9' := HALW.out w9 hb9; obtain ⟨hy9, hx9, hB9⟩ := HAF.out w9 hb9'; obtain ⟨v0, v1, v2⟩ := HYS.out w9 hb9'; have z0 := cell_in hx9 0; have z1 := cell_in hx9 1; have z2 := cell_in hx9 2; have f0 := blk_frozen hx9 0; have f1 := blk_frozen hx9 1; have f2 := blk_frozen hx9 2)
        all_goals (
          have hfin := HFIN.out w9 hb9'
          have q0 := cell_in hfin.1 0
          have q1 := cell_in hfin.1 1
          have q2 := cell_in hfin.1 2
          have HBL := Lib.hid hfin.2
          clear hfin
          go_wp2_with fail
          exact bodyPost_ret (v := .tuple #[.agg #[.string ⟨d.toArray⟩, .int .i64 va, .int .i64 ve], .bool (globP s).isSome]) (by rw [HF.out]; simp [results, Tryz.results24, go_sem, q0, q1, q2]) rfl ⟨⟨d.toArray⟩, va, ve, rfl, HV.out, HBL.out⟩)
    · have heb : (w0 == [103, 108, 111, 98, 97, 108]) = false := beq_eq_false_iff_ne.2 he
      have HN := Lib.hid (show globP s = none by rw [HGL.out]; unfold globM; simp only [if_neg he])
      have z0 := cell_in HX2.out 0
      have z1 := cell_in HX2.out 1
      have z2 := cell_in HX2.out 2
      have f0 := blk_frozen HX2.out 0
      have f1 := blk_frozen HX2.out 1
      have f2 := blk_frozen HX2.out 2
      have hset := heap_set (heap_set (heap_set HX2.out 0 (.string ⟨#[]⟩)) 1 (.int .i64 0)) 2 (.int .i64 0)
      have hbel : Below w.heap.size w (((w2.setCell ⟨w.heap.size, 0, none⟩ (.string ⟨#[]⟩)).setCell ⟨w.heap.size, 1, none⟩ (.int .i64 0)).setCell ⟨w.heap.size, 2, none⟩ (.int .i64 0)) := ((HB2.out.setCell (p := ⟨w.heap.size, 0, none⟩) (Nat.le_refl _) _).setCell (p := ⟨w.heap.size, 1, none⟩) (Nat.le_refl _) _).setCell (p := ⟨w.heap.size, 2, none⟩) (Nat.le_refl _) _
      have q0 := cell_in hset 0
      have q1 := cell_in hset 1
      have q2 := cell_in hset 2
      have HBL := Lib.hid hbel
      clear hbel hset he
      go_wp2_with fail
      exact bodyPost_ret (v := .tuple #[.agg #[.string ⟨#[]⟩, .int .i64 0, .int .i64 0], .bool (globP s).isSome]) (by rw [HN.out]; simp [results, Tryz.results24, go_sem, q0, q1, q2]) rfl ⟨⟨#[]⟩, 0, 0, rfl, by rw [HN.out]; simp, HBL.out⟩
end Go.Proofs.YtcmhibcoccdmaaaGreatDoor.P
