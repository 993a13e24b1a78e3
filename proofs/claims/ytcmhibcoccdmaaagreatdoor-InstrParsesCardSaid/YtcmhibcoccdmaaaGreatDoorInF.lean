/- An instruction as a line. -/
import Derived.Test.YtcmhibcoccdmaaaGreatDoorInE
namespace Go.Proofs.YtcmhibcoccdmaaaGreatDoor.P
open Go.RowKit Go.Shelf Go.Proofs.YtcmhibcoccdmaaaGreatDoorW.PrintWords Go.Proofs.YtcmhibcoccdmaaaGreatDoorW.PrintLast Go.Proofs.YtcmhibcoccdmaaaGreatDoor.Rw
set_option linter.unusedVariables false
set_option linter.unusedSimpArgs false
def i64 (n : Int) : Prop := -9223372036854775808 ≤ n ∧ n ≤ 9223372036854775807
/-- Its numbers are such as an int holds. -/
structure InsOK (x : Ins) : Prop where
  a : i64 x.a
  b : i64 x.b
  tb : ∀ p ∈ x.tb, i64 p.1 ∧ i64 p.2
def itoaB (n : Int) : ByteArray := ⟨(Lib.itoa n).toArray⟩
def pairT (p : Int × Int) : ByteArray := (⟨(tagL p.1).toArray⟩ ++ ⟨#[58]⟩) ++ itoaB p.2
def numsI (x : Ins) : List Int := [x.a, x.b].take (max (fmAt x.op.toNat).nums 0).toNat
def wordsI (x : Ins) : List ByteArray := (fmAt x.op.toNat).word :: ((numsI x).map itoaB ++ x.tb.map pairT)
def showI (x : Ins) : List UInt8 := if RightI x = true then Lib.join ((wordsI x).map (·.data.toList)) [32] else []
theorem itoaB_len (n : Int) (h : i64 n) : (itoaB n).size ≤ 21 := Lib.itoa_length_le n h.1 h.2
theorem tagL_len (n : Int) (h : i64 n) : (tagL n).length ≤ 21 := by
  unfold tagL
  split
  · simp
  · exact Lib.itoa_length_le n h.1 h.2
theorem right_len {x : Ins} (h : RightI x = true) : x.tb.length ≤ 65536 := by
  unfold RightI at h
  split at h
  case isTrue hop =>
    simp only [Bool.and_eq_true, Bool.not_eq_true', Bool.or_eq_false_iff] at h
    obtain ⟨⟨_, h1⟩, h2⟩ := h
    by_cases hn : (fmAt x.op.toNat).nums < 0
    · rw [if_pos hn] at h2
      unfold pairsB at h2
      rw [Bool.and_eq_true] at h2
      have h3 := of_decide_eq_true h2.1
      have : mostP x.op ≤ 65536 := by unfold mostP; split <;> omega
      omega
    · have e1 : decide ((fmAt x.op.toNat).nums ≥ 0) = true := decide_eq_true (by omega)
      rw [e1, Bool.true_and] at h1
      have := of_decide_eq_false h1
      omega
  case isFalse => cases h
theorem word_len : ∀ i : Fin 17, (fmAt i.val).word.size ≤ 7 := by decide +kernel
theorem joinTail_le (r : List (List UInt8)) (k : Nat) (h : ∀ s ∈ r, s.length ≤ k) : (Lib.joinTail [32] r).length ≤ r.length * (k + 1) := by
  induction r with
  | nil => simp [Lib.joinTail]
  | cons y r ih =>
    have h1 := h y (by simp)
    have h2 := ih (fun u hu => h u (List.mem_cons_of_mem _ hu))
    simp only [Lib.joinTail, List.map_cons, List.flatten_cons, List.length_append, List.length_cons, List.length_nil] at h2 ⊢
    rw [Nat.add_mul r.length 1, Nat.one_mul]
    omega
theorem join_le (l : List (List UInt8)) (k : Nat) (h : ∀ s ∈ l, s.length ≤ k) : (Lib.join l [32]).length ≤ l.length * (k + 1) := by
  cases l with
  | nil => simp [Lib.join_nil]
  | cons x r =>
    have h1 := h x (by simp)
    have h2 := joinTail_le r k (fun u hu => h u (List.mem_cons_of_mem _ hu))
    rw [Lib.join_cons, List.length_append, List.length_cons, Nat.add_mul, Nat.one_mul]
    omega
/-- What stands while the words are gathered. -/
structure ShS (w0 : World) (bx : Nat) (X : Array Value) (W : World) (v : Value) (xs : List ByteArray) : Prop where
  own : W.ownsRow w0.heap.size 9 1 v xs.length (encs Value.string xs)
  box : W.heap[bx]? = some (.cells X 46 (0, 0))
  bel : Below w0.heap.size w0 W
theorem ShS.below {w0 : World} {bx : Nat} {X : Array Value} {W W' : World} {v : Value} {xs : List ByteArray} (h : ShS w0 bx X W v xs) (hb : Below W.heap.size W W') : ShS w0 bx X W' v xs :=
  ⟨h.own.kept (grown_below hb) (by cases hv : v.ownBlock with
    | none => exact .inl rfl
    | some k => exact .inr (by simp)), (hb.block _ (Array.getElem?_eq_some_iff.1 h.box).1).trans h.box, bel2 h.bel hb⟩
theorem ShS.grow {w0 : World} {bx : Nat} {X : Array Value} {W W1 : World} {v v1 : Value} {xs ys : List ByteArray} (h : ShS w0 bx X W v xs) (hown : W1.ownsRow w0.heap.size 9 1 v1 ys.length (encs Value.string ys)) (hb : Below w0.heap.size w0 W1) (hg : W.grownBy W1 v.ownBlock) : ShS w0 bx X W1 v1 ys :=
  ⟨hown, (hg.block _ (Array.getElem?_eq_some_iff.1 h.box).1 (own_ne h.own h.box (by decide))).trans h.box, hb⟩
theorem kept_num {w0 : World} {bx q : Nat} {X Y : Array Value} {W W1 : World} {v : Value} {xs : List ByteArray} (h : ShS w0 bx X W v xs) (hq : W.heap[q]? = some (.cells Y 3 (0, 0))) (hg : W.grownBy W1 v.ownBlock) : W1.heap[q]? = some (.cells Y 3 (0, 0)) :=
  (hg.block _ (Array.getElem?_eq_some_iff.1 hq).1 (own_ne h.own hq (by decide))).trans hq
theorem own_some {W : World} {base : Nat} {e : TypeId} {n : Nat} {v : Value} {cells : List Value} (h : W.ownsRow base e 1 v n cells) (h0 : 0 < n) : ∃ g cap, v = .slice (some ⟨g, 0, none⟩) n cap ∧ g < W.heap.size ∧ n ≤ cap ∧ ∀ j u, cells[j]? = some u → W.cell? ⟨g, j, none⟩ = some u := by
  have h' := h
  rcases h.2 with ⟨_, h1⟩ | ⟨g, cap, cur, rfl, _, hh, hle, _⟩
  · omega
  · refine ⟨g, cap, rfl, (Array.getElem?_eq_some_iff.1 hh).1, hle, fun j u hu => ?_⟩
    have hc := h'.cells (g := g) rfl j u hu
    have ha : (⟨g, 0, none⟩ : Addr).add j = ⟨g, 0 + j, none⟩ := by unfold Addr.add; split <;> simp_all
    rw [ha, Nat.zero_add] at hc
    exact hc
theorem words_len (x : Ins) (hx : InsOK x) (hR : RightI x = true) : (Lib.join ((wordsI x).map (·.data.toList)) [32]).length ≤ 2883716 := by
  have hop := right_op hR
  have hl := right_len hR
  have hw : (fmAt x.op.toNat).word.size ≤ 7 := word_len ⟨x.op.toNat, by omega⟩
  have h := join_le ((wordsI x).map (·.data.toList)) 43 (fun s hs => by
    obtain ⟨b, hb, rfl⟩ := List.mem_map.1 hs
    unfold wordsI at hb
    rcases List.mem_cons.1 hb with rfl | hb
    · show (fmAt x.op.toNat).word.data.toList.length ≤ 43
      rw [Array.length_toList]
      exact Nat.le_trans hw (by omega)
    · rcases List.mem_append.1 hb with hb | hb
      · obtain ⟨n, hn, rfl⟩ := List.mem_map.1 hb
        have hm : n ∈ [x.a, x.b] := List.mem_of_mem_take hn
        have hi : i64 n := by
          rcases List.mem_cons.1 hm with rfl | hm
          · exact hx.a
          · rw [List.mem_singleton.1 hm]; exact hx.b
        have := itoaB_len n hi
        show (itoaB n).data.toList.length ≤ 43
        rw [Array.length_toList]
        exact Nat.le_trans this (by omega)
      · obtain ⟨p, hp, rfl⟩ := List.mem_map.1 hb
        have h1 := tagL_len p.1 (hx.tb p hp).1
        have h2 := Lib.itoa_length_le p.2 (hx.tb p hp).2.1 (hx.tb p hp).2.2
        have h3 : (pairT p).data.toList = tagL p.1 ++ [58] ++ Lib.itoa p.2 := by unfold pairT itoaB; simp [ByteArray.data_append]
        rw [h3]
        simp
        omega)
  have h5 : (wordsI x).length ≤ 65539 := by
    unfold wordsI numsI
    simp
    omega
  rw [List.length_map] at h
  have := Nat.mul_le_mul_right 44 h5
  omega
theorem take_map_succ {α β : Type} (f : α → β) (l : List α) (k : Nat) (d : α) (h : k < l.length) : (l.take (k + 1)).map f = (l.take k).map f ++ [f (l.getD k d)] := by
  rw [List.take_succ_eq_append_getElem h, List.map_append, List.getD_eq_getElem?_getD, List.getElem?_eq_getElem h, Option.getD_some]
  rfl
theorem ShS.drew {w0 : World} {bx : Nat} {X : Array Value} {W : World} {v : Value} {xs : List ByteArray} (h : ShS w0 bx X W v xs) : ShS w0 bx X W.drew v xs := h.below ((Below.refl _ _).drew)
theorem step_app {ops : Array Oper} {o : Oper} {a : Act} {Q : Exit → Act → World → Prop} {Kc : Act → World → Prop} {w0 W : World} (base : Nat) (hw : Region.wanted o (yielded ops a.tmps) = true) (s x : Operand) (t : TypeId)
    (ht : Tryz.prog.underlying t = some (.slice 9)) (ho : o.op = .call { callee := .builtin .append, args := #[s, x], argTypes := #[t, t] }) (v : Value) (xs : List ByteArray) (y : ByteArray) (hs : a.eval s = v) (hx : a.eval x = .slice (some ⟨W.heap.size, 0, none⟩) 1 1)
    (HO : W.ownsRow base 9 1 v xs.length (encs Value.string xs)) (HB : Below base w0 W) (hbase : base ≤ W.heap.size) (hl : (xs.length + 1) * 16 ≤ 140737488355328)
    (h : ∀ v1 w1, w1.ownsRow base 9 1 v1 (xs ++ [y]).length (encs Value.string (xs ++ [y])) → Below base w0 w1 → W.grownBy w1 v.ownBlock → (v1.ownBlock = v.ownBlock ∨ ∃ b, v1.ownBlock = some b ∧ W.heap.size ≤ b) → Kc (a.put o.dst v1) w1) :
    if Region.wanted o (yielded ops a.tmps) = true then Oper.wp Tryz.prog o a (W.alloc (.cells #[.string y] 9)) Kc Q else Kc (a.put o.dst undef) (W.alloc (.cells #[.string y] 9)) :=
  step_append_cells base hw s x t 9 (.string ⟨#[]⟩) 1 16 ho ht info9 rfl (by decide) (by decide) v xs.length (encs Value.string xs) [.string y] hs hx rfl (by simp [Value.oneCell']) HO HB hbase hl
    fun v1 w1 hown hB hg hat => h v1 w1 (by simpa [encs] using hown) hB hg hat
set_option maxHeartbeats 8000000 in
set_option maxRecDepth 100000 in
theorem show_calls (x : Ins) (A : Option Addr) (c : Nat) (w : World) (hc : x.tb.length ≤ c) (hC : kP.C w A x.tb.length x.tb) (hx : InsOK x) (hT : GT w) :
    Calls Tryz.prog 36 #[.agg #[.int .i64 x.op, .int .i64 x.a, .int .i64 x.b, .slice A x.tb.length c]] w fun e w' => e = .returned (.string ⟨(showI x).toArray⟩) ∧ Below w.heap.size w w' := by
  have HC := Lib.hid hC
  have HT := Lib.hid hT
  have HOK := Lib.hid hx
  clear hC hT hx
  go_enter Tryz.func36, Tryz.ntmps36
  go_wp2_with fail
  have ha := (Below.refl _ w).alloc (Nat.le_refl _) (.cells #[.int .i64 x.op, .int .i64 x.a, .int .i64 x.b, .slice A x.tb.length c] 46)
  refine (rightI_calls x A c _ hc (Kd.C_below HC.out ha)).mono ?_
  rintro e w2 ⟨rfl, hb2⟩
  have HX2 := Lib.hid ((hb2.block w.heap.size (by simp)).trans (heap_new w (.cells #[.int .i64 x.op, .int .i64 x.a, .int .i64 x.b, .slice A x.tb.length c] 46)))
  have HB2 := Lib.hid (ha.trans (hb2.mono ha.size))
  clear hb2 ha
  have x0 := cell_in HX2.out 0
  have x1 := cell_in HX2.out 1
  have x2 := cell_in HX2.out 2
  have x3 := cell_in HX2.out 3
  cases hR : RightI x with
  | false =>
    have hv : showI x = [] := by unfold showI; rw [hR]; rfl
    go_wp2_with fail
    go_ret
    exact ⟨by rw [hv]; rfl, HB2.out⟩
  | true =>
    have hv : showI x = Lib.join ((wordsI x).map (·.data.toList)) [32] := by unfold showI; rw [if_pos hR]
    have hop := right_op hR
    have hlen := right_len hR
    have hwl : (fmAt x.op.toNat).word.size ≤ 7 := word_len ⟨x.op.toNat, by omega⟩
    have HV := Lib.hid hv
    have HOP := Lib.hid hop
    have HLEN := Lib.hid hlen
    have hW : wordsI x = (fmAt x.op.toNat).word :: (([x.a, x.b].take (max (fmAt x.op.toNat).nums 0).toNat).map itoaB ++ x.tb.map pairT) := rfl
    have hn : (fmAt x.op.toNat).nums = -1 ∨ (fmAt x.op.toNat).nums = 0 ∨ (fmAt x.op.toNat).nums = 1 ∨ (fmAt x.op.toNat).nums = 2 := nums_fin ⟨x.op.toNat, by omega⟩
    have HWL := Lib.hid hwl
    have hR0 := hR
    clear hv hop hR hlen hwl
    go_wp2_with fail
    refine (form_calls x.op x.a x.b A x.tb.length c w2 HOP.out.1 HOP.out.2).mono ?_
    rintro e w3 ⟨rfl, hb3⟩
    generalize fmAt x.op.toNat = fm at hW hn HWL ⊢
    have HX3 := Lib.hid ((hb3.block w.heap.size (Array.getElem?_eq_some_iff.1 HX2.out).1).trans HX2.out)
    have HB3 := Lib.hid (bel2 HB2.out hb3)
    clear hb3 x0 x1 x2 x3
    go_upto_region 5 with (fail)
    have hf3 := heap_old (w3.alloc (.cells #[.string fm.word, .int .i64 fm.nums, .int .i64 fm.least, .int .i64 fm.most, .int .i64 fm.reads, .int .i64 fm.readsA, .int .i64 fm.leaves, .int .i64 fm.leavesA] 93)) (.cells #[.string fm.word] 9) w3.heap.size (by simp)
    rw [heap_new] at hf3
    have hsA : ShS w w.heap.size #[.int .i64 x.op, .int .i64 x.a, .int .i64 x.b, .slice A x.tb.length c] ((w3.alloc (.cells #[.string fm.word, .int .i64 fm.nums, .int .i64 fm.least, .int .i64 fm.most, .int .i64 fm.reads, .int .i64 fm.readsA, .int .i64 fm.leaves, .int .i64 fm.leavesA] 93)).alloc (.cells #[.string fm.word] 9)) (.slice (some ⟨w3.heap.size + 1, 0, none⟩) 1 1) [fm.word] := by
      have hb1 := HB3.out.alloc HB3.out.size (.cells #[.string fm.word, .int .i64 fm.nums, .int .i64 fm.least, .int .i64 fm.most, .int .i64 fm.reads, .int .i64 fm.readsA, .int .i64 fm.leaves, .int .i64 fm.leavesA] 93)
      have ho := own_lit_of (enc := Value.string) (w3.alloc (.cells #[.string fm.word, .int .i64 fm.nums, .int .i64 fm.least, .int .i64 fm.most, .int .i64 fm.reads, .int .i64 fm.readsA, .int .i64 fm.leaves, .int .i64 fm.leavesA] 93)) w.heap.size 9 [fm.word] (hb1.size) (by simp)
      rw [World.size_alloc] at ho
      refine ⟨ho, ?_, hb1.alloc hb1.size _⟩
      have hk := (Array.getElem?_eq_some_iff.1 HX3.out).1
      rw [heap_old _ _ _ (by simp; omega), heap_old _ _ _ hk]
      exact HX3.out
    generalize (w3.alloc (.cells #[.string fm.word, .int .i64 fm.nums, .int .i64 fm.least, .int .i64 fm.most, .int .i64 fm.reads, .int .i64 fm.readsA, .int .i64 fm.leaves, .int .i64 fm.leavesA] 93)).alloc (.cells #[.string fm.word] 9) = w4 at hf3 hsA ⊢
    have HSA := Lib.hid hsA
    have HF := Lib.hid hf3
    clear hsA hf3
    generalize hN : ([x.a, x.b].take (max fm.nums 0).toNat) = N at hW ⊢
    have hNg : ∀ kk, kk < N.length → N.getD kk 0 = [x.a, x.b].getD kk 0 := fun kk hk => by
      rw [← hN, List.length_take] at hk
      rw [← hN, List.getD_eq_getElem?_getD, List.getD_eq_getElem?_getD, List.getElem?_take, if_pos (by omega)]
    have HNG := Lib.hid hNg
    have hN2 : N.length ≤ 2 := by rw [← hN, List.length_take]; simp; omega
    clear hNg
    go_cut [29, 30, 31] (fun s29 s30 s31 wx => ∃ q, s29 = .slice (some ⟨q, 0, none⟩) N.length 2 ∧ s30 = .int .i64 (N.length : Int) ∧ s31 = .int .i64 0 ∧ Hid (wx.heap[q]? = some (.cells #[.int .i64 x.a, .int .i64 x.b] 3 (0, 0))) ∧ Hid (ShS w w.heap.size #[.int .i64 x.op, .int .i64 x.a, .int .i64 x.b, .slice A x.tb.length c] wx (.slice (some ⟨w3.heap.size + 1, 0, none⟩) 1 1) [fm.word]))
    case first =>
      have x1 := cell_in HSA.out.box 1
      have x2 := cell_in HSA.out.box 2
      have f1 := fun o => cell_allocN o (cell_in HF.out 1)
      have hq := heap_new w4 (.cells #[.int .i64 x.a, .int .i64 x.b] 3)
      have hsQ := HSA.out.below ((Below.refl _ w4).alloc (Nat.le_refl _) (.cells #[.int .i64 x.a, .int .i64 x.b] 3))
      have HQ := Lib.hid hq
      have HSQ := Lib.hid hsQ
      clear hq hsQ
      obtain ⟨fw, fn, fl, fm_, fr, fra, fle, flea⟩ := fm
      simp only at f1 hn hN HSA HSQ HF hW HWL ⊢
      rcases hn with rfl | rfl | rfl | rfl
      all_goals (have hN' : N = _ := hN.symm; subst hN')
      all_goals go_wp2_with fail
      all_goals (
        go_meet
        exact ⟨_, rfl, rfl, rfl, HQ, HSQ⟩)
    case rest =>
      obtain ⟨q, rfl, rfl, rfl, HQ, HSQ⟩ := hcut
      go_wp2_with fail
      go_loopw [5, 31] (fun s5 s31 wr => ∃ kk : Nat, kk ≤ N.length ∧ s31 = .int .i64 kk ∧ Hid (wr.heap[q]? = some (.cells #[.int .i64 x.a, .int .i64 x.b] 3 (0, 0))) ∧ Hid (ShS w w.heap.size #[.int .i64 x.op, .int .i64 x.a, .int .i64 x.b, .slice A x.tb.length c] wr s5 (fm.word :: (N.take kk).map itoaB))) (fun _ s31 _ => N.length - (intOf s31).toNat)
      case atStart => exact ⟨0, by omega, rfl, HQ, HSQ⟩
      case round =>
        obtain ⟨kk, hkk, rfl, HQR, HSR⟩ := hrel
        by_cases hlt : kk < N.length
        · have hltz : (kk : Int) < (N.length : Int) := by omega
          have hg : N.getD kk 0 = [x.a, x.b].getD kk 0 := HNG.out kk hlt
          have hr : i64 (N.getD kk 0) := by
            rw [hg]
            have hk2 : kk = 0 ∨ kk = 1 := by omega
            rcases hk2 with rfl | rfl
            · exact HOK.out.a
            · exact HOK.out.b
          have hq : wr.cell? ⟨q, kk, none⟩ = some (.int .i64 (N.getD kk 0)) := by
            rw [hg]
            have hk2 : kk = 0 ∨ kk = 1 := by omega
            rcases hk2 with rfl | rfl
            · exact cell_in HQR.out 0
            · exact cell_in HQR.out 1
          have htk := take_map_succ itoaB N kk 0 hlt
          generalize N.getD kk 0 = y at hr hq htk
          have HTK := Lib.hid htk
          have hll : (fm.word :: (N.take kk).map itoaB).length ≤ 65539 := by simp; omega
          generalize hL : fm.word :: (N.take kk).map itoaB = L at HSR hll
          have HL := Lib.hid hL
          have HLL := Lib.hid hll
          clear hg htk hL hll
          go_wp2_with fail
          refine (itoa_calls y hr.1 hr.2 wr (HT.out.below HSR.out.bel)).mono ?_
          rintro e wi ⟨rfl, hbi⟩
          have HSI := Lib.hid (HSR.out.below hbi)
          have HQI := Lib.hid ((hbi.block q (Array.getElem?_eq_some_iff.1 HQR.out).1).trans HQR.out)
          clear hbi hq
          obtain ⟨Ao, co, rfl⟩ := own_slice HSI.out.own
          go_wp2_with (at_builtin; refine print_append_of (w0 := w) Value.string w.heap.size rfl (.tmp 35) (.tmp 38) 83 9 (.string ⟨#[]⟩) 16 rfl Tryz.underlying83 info9 rfl (by decide) (.slice Ao L.length co) L (itoaB y) rfl rfl rfl HSI.out.own HSI.out.bel HSI.out.bel.size (by have := HLL.out; omega) ?_)
          intro v1 w1 hown hb hgr hat
          have hown : w1.ownsRow w.heap.size 9 1 v1 (L ++ [itoaB y]).length (encs Value.string (L ++ [itoaB y])) := by rw [List.length_append, List.length_singleton]; exact hown
          have HSN := Lib.hid (HSI.out.grow hown hb hgr)
          have HQN := Lib.hid (kept_num HSI.out HQI.out hgr)
          clear hb hgr hat hown
          go_wp2_with fail
          go_roundw
          case rel => exact ⟨kk + 1, hlt, by go_num, HQN, Lib.hid (by rw [HTK.out, ← List.cons_append, HL.out]; exact HSN.out)⟩
          case measure => simp [intOf]; omega
        · have hltz : ¬ (kk : Int) < (N.length : Int) := by omega
          obtain rfl : kk = N.length := by omega
          have hsn := HSR.out
          rw [List.take_length] at hsn
          have HSN := Lib.hid hsn
          clear hsn
          have x3 := cell_in HSN.out.box 3
          clear HSR HQR HQ HSQ
          have hmx : x.tb.length ≤ 9223372036854775807 := by have := HLEN.out; omega
          go_wp2_with fail
          go_loopw [5, 44] (fun s5 s44 wr => ∃ kk : Nat, kk ≤ x.tb.length ∧ s44 = .int .i64 kk ∧ Hid (ShS w w.heap.size #[.int .i64 x.op, .int .i64 x.a, .int .i64 x.b, .slice A x.tb.length c] wr s5 (fm.word :: (N.map itoaB ++ (x.tb.take kk).map pairT)))) (fun _ s44 _ => x.tb.length - (intOf s44).toNat)
          case atStart => exact ⟨0, by omega, rfl, Lib.hid (by simpa using HSN.out)⟩
          case round =>
            obtain ⟨kk, hkk, rfl, HSR⟩ := hrel
            by_cases hlt : kk < x.tb.length
            · have hltz : (kk : Int) < (x.tb.length : Int) := by omega
              obtain ⟨ad, hAd, h0, h1⟩ := at_P (Kd.C_below HC.out HSR.out.bel) kk hlt
              subst hAd
              have hp : i64 (x.tb.getD kk zP).1 ∧ i64 (x.tb.getD kk zP).2 := by
                rw [List.getD_eq_getElem?_getD, List.getElem?_eq_getElem hlt, Option.getD_some]
                exact HOK.out.tb _ (List.getElem_mem hlt)
              have htk := take_map_succ pairT x.tb kk zP hlt
              generalize x.tb.getD kk zP = p at h0 h1 hp htk
              have HTK := Lib.hid htk
              have hll : (fm.word :: (N.map itoaB ++ (x.tb.take kk).map pairT)).length ≤ 65539 := by
                have := HLEN.out
                simp
                omega
              generalize hL : fm.word :: (N.map itoaB ++ (x.tb.take kk).map pairT) = L at HSR hll
              have HL := Lib.hid hL
              have HLL := Lib.hid hll
              clear htk hll hL
              go_upto_region 13 with (fail)
              have HSB := Lib.hid (HSR.out.below ((Below.refl _ wr).alloc (Nat.le_refl _) (.cells #[.int .i64 p.1, .int .i64 p.2] 90)))
              have HY := Lib.hid (heap_new wr (.cells #[.int .i64 p.1, .int .i64 p.2] 90))
              clear h0 h1 HSR
              generalize wr.alloc (.cells #[.int .i64 p.1, .int .i64 p.2] 90) = wb at HSB HY ⊢
              generalize wr.heap.size = g at HY ⊢
              obtain ⟨Ao, co, rfl⟩ := own_slice HSB.out.own
              have y0 := cell_in HY.out 0
              have y1 := cell_in HY.out 1
              have hn1 : ¬ 9223372036854775807 < (tagL p.1).length + 1 := by have := tagL_len p.1 hp.1; omega
              have hn2 : ¬ 9223372036854775807 < (tagL p.1).length + 1 + (Lib.itoa p.2).length := by have := tagL_len p.1 hp.1; have := itoaB_len p.2 hp.2; unfold itoaB at this; simp [ByteArray.size] at this; omega
              refine start_ (n := 12) (S := fun w' => w'.cell? ⟨g, 0, none⟩ = some (.int .i64 p.1) ∧ w'.cell? ⟨g, 1, none⟩ = some (.int .i64 p.2)) (ds := []) #[false, false, false, false, false, false, false, false, false, false, false, false] (by kernel_rfl) rfl rfl ⟨y0, y1⟩ (fun hHeld => ?_)
              refine pure_ (i := 0) (N := some 48) (v := ?_) (a' := ?_) #[true, false, false, false, false, false, false, false, false, false, false, false] rfl rfl (by kernel_rfl) (fun _ _ _ h => h) (Or.inl ⟨by rfl, ?_⟩) ?_ ?_
              rotate_left
              · intro w'
                go_simp
                with_reducible rfl
              rotate_left
              · simp only [Act.put, List.setIfInBounds_toArray, List.set_cons_zero, List.set_cons_succ, i64_w, i32_w]
                rfl
              refine pure_ (i := 1) (N := some 49) (v := ?_) (a' := ?_) #[true, true, false, false, false, false, false, false, false, false, false, false] rfl rfl (by kernel_rfl) (fun _ _ _ h => h) (Or.inl ⟨by rfl, ?_⟩) ?_ ?_
              rotate_left
              · intro w'
                go_simp
                with_reducible rfl
              rotate_left
              · simp only [Act.put, List.setIfInBounds_toArray, List.set_cons_zero, List.set_cons_succ, i64_w, i32_w]
                rfl
              refine take_ (i := 2) (N := some 50) (v := ?_) (a' := ?_) #[true, true, true, false, false, false, false, false, false, false, false, false] rfl rfl (by kernel_rfl) (fun _ _ _ h => h) (Or.inl ⟨by rfl, ?_⟩) hHeld ?_ ?_
              rotate_left
              · rintro w' ⟨s0, s1⟩
                go_simp
                with_reducible rfl
              rotate_left
              · simp only [Act.put, List.setIfInBounds_toArray, List.set_cons_zero, List.set_cons_succ, i64_w, i32_w]
                rfl
              refine pure_ (i := 5) (N := some 53) (v := ?_) (a' := ?_) #[true, true, true, false, false, true, false, false, false, false, false, false] rfl rfl (by kernel_rfl) (fun _ _ _ h => h) (Or.inl ⟨by rfl, ?_⟩) ?_ ?_
              rotate_left
              · intro w'
                go_simp
                with_reducible rfl
              rotate_left
              · simp only [Act.put, List.setIfInBounds_toArray, List.set_cons_zero, List.set_cons_succ, i64_w, i32_w]
                rfl
              refine take_ (i := 6) (N := some 54) (v := ?_) (a' := ?_) #[true, true, true, false, false, true, true, false, false, false, false, false] rfl rfl (by kernel_rfl) (fun _ _ _ h => h) (Or.inl ⟨by rfl, ?_⟩) hHeld ?_ ?_
              rotate_left
              · rintro w' ⟨s0, s1⟩
                go_simp
                with_reducible rfl
              rotate_left
              · simp only [Act.put, List.setIfInBounds_toArray, List.set_cons_zero, List.set_cons_succ, i64_w, i32_w]
                rfl
              refine one_ (i := 3) (N := some 51) #[true, true, true, true, false, true, true, false, false, false, false, false] rfl rfl (by kernel_rfl) (by decide) (fun K hK => ?_)
              refine goes_ Tryz.func69 (by kernel_rfl) rfl #[.int .i64 p.1] (by rfl) rfl rfl (by (try simp only [List.map_toArray, List.map_cons, List.map_nil]); first | done | rfl) ?_
              refine (tag_calls p.1 hp.1.1 hp.1.2 _ (HT.out.below HSB.out.drew.bel)).mono ?_
              rintro e wt ⟨rfl, hbt⟩
              have HST := Lib.hid (HSB.out.drew.below hbt)
              have HYT := Lib.hid ((hbt.block g (Array.getElem?_eq_some_iff.1 HY.out).1).trans HY.out)
              clear hbt
              refine ⟨_, rfl, ?_⟩
              refine hK.out _ _ ⟨cell_in HYT.out 0, cell_in HYT.out 1⟩ (fun hHeld => ?_)
              clear hK K
              refine norm_ (a' := ?_) ?_ ?_
              rotate_left
              · show Act.put _ (some 51) _ = _
                simp only [Act.put, List.setIfInBounds_toArray, List.set_cons_zero, List.set_cons_succ, i64_w, i32_w]
                rfl
              refine pure_ (i := 4) (N := some 52) (v := ?_) (a' := ?_) #[true, true, true, true, true, true, true, false, false, false, false, false] rfl rfl (by kernel_rfl) (fun _ _ _ h => h) (Or.inl ⟨by rfl, ?_⟩) ?_ ?_
              rotate_left
              · intro w'
                go_simp
                with_reducible rfl
              rotate_left
              · simp only [Act.put, List.setIfInBounds_toArray, List.set_cons_zero, List.set_cons_succ, i64_w, i32_w]
                rfl
              refine one_ (i := 7) (N := some 55) #[true, true, true, true, true, true, true, true, false, false, false, false] rfl rfl (by kernel_rfl) (by decide) (fun K hK => ?_)
              refine goes_ Tryz.func34 (by kernel_rfl) rfl #[.int .i64 p.2] (by rfl) rfl rfl (by (try simp only [List.map_toArray, List.map_cons, List.map_nil]); first | done | rfl) ?_
              refine (itoa_calls p.2 hp.2.1 hp.2.2 _ (HT.out.below HST.out.bel)).mono ?_
              rintro e wi ⟨rfl, hbi⟩
              have HSI := Lib.hid (HST.out.below hbi)
              have HYI := Lib.hid ((hbi.block g (Array.getElem?_eq_some_iff.1 HYT.out).1).trans HYT.out)
              clear hbi
              refine ⟨_, rfl, ?_⟩
              refine hK.out _ _ ⟨cell_in HYI.out 0, cell_in HYI.out 1⟩ (fun hHeld => ?_)
              clear hK K
              refine norm_ (a' := ?_) ?_ ?_
              rotate_left
              · show Act.put _ (some 55) _ = _
                simp only [Act.put, List.setIfInBounds_toArray, List.set_cons_zero, List.set_cons_succ, i64_w, i32_w]
                rfl
              refine pure_ (i := 8) (N := some 56) (v := ?_) (a' := ?_) #[true, true, true, true, true, true, true, true, true, false, false, false] rfl rfl (by kernel_rfl) (fun _ _ _ h => h) (Or.inl ⟨by rfl, ?_⟩) ?_ ?_
              rotate_left
              · intro w'
                go_simp
                with_reducible rfl
              rotate_left
              · simp only [Act.put, List.setIfInBounds_toArray, List.set_cons_zero, List.set_cons_succ, i64_w, i32_w]
                rfl
              refine one_ (i := 9) (N := some 57) #[true, true, true, true, true, true, true, true, true, true, false, false] rfl rfl (by kernel_rfl) (by decide) (fun K hK => ?_)
              refine value_ (w1 := ?_) (v := ?_) (by rfl) rfl ?_ ?_
              rotate_left 2
              · go_simp
                constructor
                · rfl
                · rfl
              refine hK.out _ _ ⟨cell_allocN _ (cell_in HYI.out 0), cell_allocN _ (cell_in HYI.out 1)⟩ (fun hHeld => ?_)
              clear hK K
              refine norm_ (a' := ?_) ?_ ?_
              rotate_left
              · show Act.put _ (some 57) _ = _
                simp only [Act.put, List.setIfInBounds_toArray, List.set_cons_zero, List.set_cons_succ, i64_w, i32_w]
                rfl
              refine one_ (i := 10) (N := some 58) #[true, true, true, true, true, true, true, true, true, true, true, false] rfl rfl (by kernel_rfl) (by decide) (fun K hK => ?_)
              refine step_app (w0 := w) w.heap.size (by rfl) (.tmp 48) (.tmp 57) 83 Tryz.underlying83 rfl _ L (pairT p) rfl rfl HSI.out.own HSI.out.bel HSI.out.bel.size (by have := HLL.out; omega) ?_
              intro v1 w1 hown hb hgr hat
              have HSN := Lib.hid (HSI.out.grow hown hb hgr)
              have HYN := Lib.hid ((hgr.block g (Array.getElem?_eq_some_iff.1 HYI.out).1 (own_ne HSI.out.own HYI.out (by decide))).trans HYI.out)
              clear hown hb hgr hat
              refine hK.out _ _ ⟨cell_in HYN.out 0, cell_in HYN.out 1⟩ (fun hHeld => ?_)
              clear hK K
              refine norm_ (a' := ?_) ?_ ?_
              rotate_left
              · show Act.put _ (some 58) _ = _
                simp only [Act.put, List.setIfInBounds_toArray, List.set_cons_zero, List.set_cons_succ, i64_w, i32_w]
                rfl
              refine pure_ (i := 11) (N := some 5) (v := ?_) (a' := ?_) #[true, true, true, true, true, true, true, true, true, true, true, true] rfl rfl (by kernel_rfl) (fun _ _ _ h => h) (Or.inl ⟨by rfl, ?_⟩) ?_ ?_
              rotate_left
              · intro w'
                go_simp
                with_reducible rfl
              rotate_left
              · simp only [Act.put, List.setIfInBounds_toArray, List.set_cons_zero, List.set_cons_succ, i64_w, i32_w]
                rfl
              refine done_ (by kernel_rfl) ?_
              clear hHeld
              go_wp2_with fail
              go_roundw
              case rel => exact ⟨kk + 1, hlt, by go_num, Lib.hid (by rw [HTK.out, ← List.append_assoc, ← List.cons_append, HL.out]; exact HSN.out)⟩
              case measure => simp [intOf]; omega
            · have hltz : ¬ (kk : Int) < (x.tb.length : Int) := by omega
              obtain rfl : kk = x.tb.length := by omega
              have hsn := HSR.out
              rw [List.take_length, ← hW] at hsn
              have HSN := Lib.hid hsn
              clear hsn
              obtain ⟨g, cap, rfl, hg, hcap, hcl⟩ := own_some HSN.out.own (by rw [hW]; simp)
              have hcells : ∀ (j : Nat) y, (wordsI x)[j]? = some y → wr.cell? ⟨g, 0 + j, none⟩ = some (.string y) := fun j y hj => by
                rw [Nat.zero_add]
                exact hcl j _ (by simp [encs, hj])
              have HCL := Lib.hid hcells
              have HR := Lib.hid hR0
              have hwn : (wordsI x).length ≤ 65540 := by rw [hW]; have := HLEN.out; simp; omega
              clear hcl hcells hW
              go_wp2_with fail
              refine (Tryz.strings_Join g 0 cap (wordsI x) ⟨#[32]⟩ wr HCL.out hg (by omega) hcap (Nat.le_trans (words_len x HOK.out HR.out) (by omega))).mono ?_
              rintro e wj ⟨rfl, hbj⟩
              have HBJ := Lib.hid (bel2 HSN.out.bel hbj)
              clear hbj
              go_wp2_with fail
              go_ret
              exact ⟨by rw [HV.out]; rfl, HBJ.out⟩
end Go.Proofs.YtcmhibcoccdmaaaGreatDoor.P
