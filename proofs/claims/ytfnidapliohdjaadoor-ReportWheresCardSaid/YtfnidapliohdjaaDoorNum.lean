/- (*report.rest).number: takes one. -/
import Derived.Test.YtfnidapliohdjaaDoorWord
import Derived.Test.YtfnidapliohdjaaDoorPx4
namespace Go.Proofs.YtfnidapliohdjaaDoor.P
open Go.RowKit Go.Proofs.YtfnidapliohdjaaDoorW.PrintWords
/-- A byte's class. -/
def cls (c : UInt8) : Nat :=
  if c = 32 ∨ c = 9 ∨ c = 10 ∨ c = 13 then 1
  else if c = 95 then 3
  else if c ∈ ([43, 45, 42, 47, 37, 61, 60, 62, 124, 38, 58, 46, 92, 33] : List UInt8) then 5
  else if c ∈ ([40, 41, 91, 93, 123, 125, 44, 59] : List UInt8) then 6
  else if c = 39 ∨ c = 34 then 7
  else if 48 ≤ c ∧ c ≤ 57 then 2
  else if 97 ≤ c ∧ c ≤ 122 then 3
  else if 65 ≤ c ∧ c ≤ 90 then 4
  else 0
def isDig (c : UInt8) : Bool := cls c == 2
/-- How many bytes from the begin on are so. -/
def runL (p : UInt8 → Bool) (l : List UInt8) : Nat := (l.takeWhile p).length
theorem size_eq (s : ByteArray) : s.size = s.data.toList.length := by rw [Array.length_toList]; rfl
theorem bt_q (x : ByteArray) (n : Nat) (b : UInt8) (h : x.data.toList[n]? = some b) : bt x (n : Int) = (b.toNat : Int) := by
  obtain ⟨hn, he⟩ := List.getElem?_eq_some_iff.1 h
  have hs : n < x.size := by rw [size_eq]; exact hn
  rw [← bt_at x (n : Int) hs, ← he]
  rfl
theorem dr {w w' : World} (h : Drawn0 w w') : ∃ n, w' = w.drewN n := h.1
theorem cls_fin : ∀ c : Fin 256, glyph_Class.f 40 (c.val : Int) = some ((cls (UInt8.ofNat c.val) : Nat) : Int) := by decide +kernel
theorem cls_f (c : UInt8) : glyph_Class.f 40 (c.toNat : Int) = some ((cls c : Nat) : Int) := by
  have := cls_fin ⟨c.toNat, c.toNat_lt⟩
  simpa using this
theorem cls_calls (c : UInt8) (w : World) : Calls Tryd.prog 24 #[.int .u8 c.toNat] w fun e w' => e = .returned (.int .i64 (cls c : Nat)) ∧ Drawn0 w w' :=
  glyph_Class.calls 40 _ _ w (cls_f c)
theorem runL_step (p : UInt8 → Bool) (l : List UInt8) (n : Nat) (c : UInt8) (hl : l[n]? = some c) (hp : p c = true) (h : (l.take n).all p = true) : (l.take (n + 1)).all p = true := by
  obtain ⟨hn, rfl⟩ := List.getElem?_eq_some_iff.1 hl
  rw [List.take_succ_eq_append_getElem hn, List.all_append, h]; simp [hp]
theorem runL_end (p : UInt8 → Bool) : ∀ (l : List UInt8) (n : Nat), (l.take n).all p = true → n ≤ l.length → (∀ c, l[n]? = some c → p c = false) → runL p l = n
  | [], n, _, hn, _ => by simp at hn; subst hn; rfl
  | c :: t, 0, _, _, h => by have := h c rfl; simp [runL, this]
  | c :: t, n + 1, h, hn, h2 => by
    simp only [List.take_succ_cons, List.all_cons, Bool.and_eq_true] at h
    have := runL_end p t n h.2 (by simpa using hn) (fun c hc => h2 c (by simpa using hc))
    unfold runL at *
    rw [List.takeWhile_cons, if_pos h.1, List.length_cons, this]

theorem runL_le (p : UInt8 → Bool) (l : List UInt8) : runL p l ≤ l.length := (List.takeWhile_sublist p).length_le
def isErrV (ev : Value) : Prop := ev = .nilIface ∨ ∃ te pe, ev = .iface te pe
/-- What the numbers' reader asks of the variables. -/
def GOK (w : World) : Prop := (∃ ev, w.cell? ⟨1, 0, none⟩ = some ev ∧ isErrV ev) ∧ ∃ ev, w.cell? ⟨2, 0, none⟩ = some ev ∧ isErrV ev
theorem drew_below (w : World) : Below w.heap.size w w.drew := (Below.refl _ _).drew
theorem cell_same {w w' : World} {b : Nat} (h : w'.heap[b]? = w.heap[b]?) : w'.cell? ⟨b, 0, none⟩ = w.cell? ⟨b, 0, none⟩ := by
  unfold World.cell?; simp only [h]
theorem cell_lt {w : World} {b : Nat} {v : Value} (h : w.cell? ⟨b, 0, none⟩ = some v) : b < w.heap.size := by
  unfold World.cell? at h
  rcases Nat.lt_or_ge b w.heap.size with h' | h'
  · exact h'
  · simp [Array.getElem?_eq_none h'] at h
theorem GOK.lt {w : World} (h : GOK w) : 1 < w.heap.size ∧ 2 < w.heap.size := by obtain ⟨⟨_, h2, _⟩, ev, h3, _⟩ := h; exact ⟨cell_lt h2, cell_lt h3⟩
theorem GOK.below {w w' : World} (h : GOK w) (hk : Below w.heap.size w w') : GOK w' := by
  have hl := h.lt
  obtain ⟨⟨e2, h2, k2⟩, e3, h3, k3⟩ := h
  exact ⟨⟨e2, (cell_same (hk.block _ (by omega))).trans h2, k2⟩, e3, (cell_same (hk.block _ (by omega))).trans h3, k3⟩
/-- A numeral's number. -/
def numV (l : List UInt8) : Option Int := match Lib.atoiAll l with | .ok v => some v | _ => none
def AtoiP (o : Option Int) (w : World) (e : Ending) (w' : World) : Prop :=
  (∃ v, o = some v ∧ e = .returned (.tuple #[.int .i64 v, .nilIface]) ∧ Below w.heap.size w w') ∨ (∃ x N, o = none ∧ e = .returned (.tuple #[.int .i64 x, .iface 77 (.pointer (some ⟨N, 0, none⟩))]) ∧ Below w.heap.size w w')
theorem atoi_calls (s : ByteArray) (hs : s.size ≤ 140737488351232) (w : World) (hG : GOK w) : Calls Tryd.prog 25 #[.string s] w (AtoiP (numV s.data.toList) w) := by
  unfold numV
  cases h : Lib.atoiAll s.data.toList with
  | ok v =>
    refine (Tryd.strconv_Atoi_ok s (by omega) v h w).mono ?_
    rintro e w' ⟨rfl, (rfl | ⟨t, rfl⟩)⟩
    · exact .inl ⟨v, rfl, rfl, Below.refl _ _⟩
    · exact .inl ⟨v, rfl, rfl, Lib.bytesWorld_below _ _ _⟩
  | range =>
    obtain ⟨_, ev, hv, hev⟩ := hG
    refine (Tryd.strconv_Atoi_range s (by omega) h ev w hv hev).mono ?_
    rintro e w' ⟨N, rfl, _, _, hb⟩
    exact .inr ⟨_, N, rfl, rfl, hb⟩
  | _ =>
    obtain ⟨⟨ev, hv, hev⟩, _⟩ := hG
    refine (Tryd.strconv_Atoi_syntax s (by omega) h ev w hv hev).mono ?_
    rintro e w' ⟨N, rfl, _, _, hb⟩
    exact .inr ⟨_, N, rfl, rfl, hb⟩
theorem atoi_good (s : ByteArray) (hs : s.size ≤ 140737488351232) (v : Int) (h : numV s.data.toList = some v) (w : World) (hG : GOK w) : Calls Tryd.prog 25 #[.string s] w fun e w' => e = .returned (.tuple #[.int .i64 v, .nilIface]) ∧ Below w.heap.size w w' :=
  (atoi_calls s hs w hG).mono fun e w' hp => by
    rcases hp with ⟨v', h1, h2, h3⟩ | ⟨x, N, h1, h2, h3⟩
    · rw [h] at h1; cases h1; exact ⟨h2, h3⟩
    · rw [h] at h1; cases h1
theorem atoi_bad (s : ByteArray) (hs : s.size ≤ 140737488351232) (h : numV s.data.toList = none) (w : World) (hG : GOK w) : Calls Tryd.prog 25 #[.string s] w fun e w' => (∃ x N, e = .returned (.tuple #[.int .i64 x, .iface 77 (.pointer (some ⟨N, 0, none⟩))])) ∧ Below w.heap.size w w' :=
  (atoi_calls s hs w hG).mono fun e w' hp => by
    rcases hp with ⟨v', h1, h2, h3⟩ | ⟨x, N, h1, h2, h3⟩
    · rw [h] at h1; cases h1
    · exact ⟨⟨x, N, h2⟩, h3⟩

def numD (s : ByteArray) : Nat := runL isDig s.data.toList
def numO (s : ByteArray) : Option Int := numV (s.data.toList.take (numD s))
def numOk (s : ByteArray) : Bool := match numO s with | none => false | some v => (bt s 0 != 48) && decide (v ≤ 2147483648)
def numRest (s : ByteArray) : ByteArray := s.extract (numD s) s.size
/-- What lies in other blocks that were there is as it was. -/
structure OnlyB (g : Nat) (w w' : World) : Prop where
  os : w'.os = w.os
  tape : w'.tape = w.tape
  output : w'.output = w.output
  size : w.heap.size ≤ w'.heap.size
  block : ∀ j, j < w.heap.size → j ≠ g → w'.heap[j]? = w.heap[j]?
theorem OnlyB.of_below {g : Nat} {w w' : World} (h : Below w.heap.size w w') : OnlyB g w w' := ⟨h.os, h.tape, h.output, h.size, fun j hj _ => h.block j hj⟩
theorem OnlyB.trans {g : Nat} {a b c : World} (h : OnlyB g a b) (k : OnlyB g b c) : OnlyB g a c :=
  ⟨k.os.trans h.os, k.tape.trans h.tape, k.output.trans h.output, Nat.le_trans h.size k.size, fun j hj hg => (k.block j (Nat.lt_of_lt_of_le hj h.size) hg).trans (h.block j hj hg)⟩
theorem OnlyB.set {g : Nat} (w : World) (v v' : Value) : OnlyB g w ((w.setCell ⟨g, 1, none⟩ v).setCell ⟨g, 0, none⟩ v') := by
  refine ⟨rfl, rfl, rfl, by simp [World.setCell], fun j _ hj => ?_⟩
  have hj' : ¬ g = j := fun e => hj e.symm
  simp [World.setCell, Array.getElem?_modify, hj']
theorem Rest.set2 {g : Nat} {s : ByteArray} {b : Bool} {w : World} (h : Rest g s b w) (s' : ByteArray) (b' : Bool) : Rest g s' b' ((w.setCell ⟨g, 1, none⟩ (.bool b')).setCell ⟨g, 0, none⟩ (.string s')) := by
  unfold Rest at h ⊢
  have hl : g < w.heap.size := by
    rcases Nat.lt_or_ge g w.heap.size with h' | h'
    · exact h'
    · rw [Array.getElem?_eq_none h'] at h; cases h
  obtain ⟨hl', h'⟩ := Array.getElem?_eq_some_iff.1 h
  simp [World.setCell, hl, Array.getElem_modify, h']
theorem Rest.lt {g : Nat} {s : ByteArray} {b : Bool} {w : World} (h : Rest g s b w) : g < w.heap.size := by
  unfold Rest at h
  rcases Nat.lt_or_ge g w.heap.size with h' | h'
  · exact h'
  · rw [Array.getElem?_eq_none h'] at h; cases h
def NumP (g : Nat) (s : ByteArray) (b : Bool) (w : World) (e : Ending) (w' : World) : Prop :=
  ∃ v : Int, e = .returned (.int .i64 v) ∧ (numOk s = true → numO s = some v) ∧ Rest g (numRest s) (b && numOk s) w' ∧ OnlyB g w w'
theorem extract_eq0 (s : ByteArray) (n : Nat) : (s.extract 0 n).data.toList = s.data.toList.take n := by
  rw [ByteArray.data_extract, Array.toList_extract, List.extract_eq_drop_take', List.drop_zero]
set_option maxHeartbeats 4000000 in
set_option maxRecDepth 100000 in
theorem number_calls (g : Nat) (s : ByteArray) (b : Bool) (w : World) (h : Rest g s b w) (hs : s.size ≤ 1099511627776) (hG : Hid (GOK w)) :
    Calls Tryd.prog 12 #[.pointer (some ⟨g, 0, none⟩)] w fun e w' => NumP g s b w e w' := by
  have c0 := h.c0
  have c1 := h.c1
  have f0 := h.f0
  have f1 := h.f1
  have H := Lib.hid h
  clear h
  go_enter Tryd.func12, Tryd.ntmps12
  go_wp2_with fail
  go_loopw [3] (fun v wr => ∃ n : Nat, v = .int .i64 n ∧ n ≤ s.size ∧ Hid ((s.data.toList.take n).all isDig = true) ∧ Drawn0 w wr) (fun v _ => s.size - (intOf v).toNat)
  case atStart => exact ⟨0, rfl, by omega, Lib.hid (by simp), Drawn0.refl _⟩
  case round =>
    obtain ⟨n, rfl, hn, HA, ⟨nd, rfl⟩⟩ := hrel
    have c0' : (w.drewN nd).cell? ⟨g, 0, none⟩ = some (.string s) := c0
    by_cases hlt : n < s.size
    · obtain ⟨c, hc⟩ : ∃ c, s.data.toList[n]? = some c := ⟨_, List.getElem?_eq_getElem (by rw [← size_eq]; exact hlt)⟩
      have hb : ∀ hj : n < s.size, (s[n]'hj).toNat = c.toNat := fun hj => by
        have h2 := List.getElem?_eq_some_iff.1 hc
        rw [← h2.2]; rfl
      have HC := Lib.hid hc
      clear hc
      have e2 : (n : Int) < (s.size : Int) := by omega
      cases hpc : isDig c with
      | true =>
        have HP := Lib.hid hpc
        have g2 : (((cls c : Nat) : Int) == 2) = true := by unfold isDig at hpc; rw [beq_iff_eq] at hpc ⊢; omega
        clear hpc
        go_wp2_with (go_at_call 24; refine (cls_calls c _).mono ?_; rintro e w' ⟨rfl, ⟨nd2, rfl⟩⟩)
        exact ⟨⟨n + 1, by go_num, by omega, Lib.hid (runL_step isDig _ n c HC.out HP.out HA.out), by repeat (first | exact Drawn0.refl _ | apply Drawn0.step)⟩, by simp [intOf]; omega⟩
      | false =>
        have HP := Lib.hid hpc
        have g2 : (((cls c : Nat) : Int) == 2) = false := by unfold isDig at hpc; rw [beq_eq_false_iff_ne] at hpc ⊢; omega
        have HE : Hid (runL isDig s.data.toList = n) := Lib.hid (runL_end isDig _ n HA.out (by rw [← size_eq]; omega) (fun c' hc' => by rw [HC.out] at hc'; cases hc'; exact HP.out))
        clear hpc
        go_wp2_with (first | (go_at_call 24; refine (cls_calls c _).mono ?_; rintro e w' ⟨rfl, ⟨nd2, rfl⟩⟩) | fail)
        refine (atoi_calls (s.extract 0 n) (by simp; omega) _ (hG.out.below (Drawn0.below ⟨_, rfl⟩))).mono ?_
        intro e w2 hA
        have hds : (s.extract 0 n).data.toList = s.data.toList.take n := by
          exact extract_eq0 s n
        rw [hds] at hA
        have hn2 : numO s = numV (s.data.toList.take n) := by unfold numO numD; rw [HE.out]
        have hR : Hid (numRest s = s.extract n s.size) := Lib.hid (by unfold numRest numD; rw [HE.out])
        rcases hA with ⟨v, hv, rfl, hB⟩ | ⟨x, N, hv, rfl, hB⟩
        · have HN : Hid (numO s = some v) := Lib.hid (hn2.trans hv)
          have hn1 : 0 < n := by
            rcases Nat.eq_zero_or_pos n with h0 | h0
            · subst h0; simp [numV, Lib.atoiAll] at hv
            · exact h0
          have hx0 : ∀ h : 0 < s.size, ((s[0]'h).toNat : Int) = bt s 0 := bt_at s 0
          have q0 : (0 < s.size) = True := eq_true (by omega)
          have qi0 : (0 < (s.size : Int)) = True := eq_true (by omega)
          have HR2 := Lib.hid ((hB.block g H.out.lt).trans H.out)
          have HO2 := Lib.hid ((OnlyB.of_below (g := g) (Drawn0.below ⟨_, rfl⟩ : Below w.heap.size w (w.drewN _))).trans (OnlyB.of_below hB))
          have k0 := Rest.c0 HR2.out
          have k1 := Rest.c1 HR2.out
          have l0 := Rest.f0 HR2.out
          have l1 := Rest.f1 HR2.out
          have HK : Hid (numOk s = ((bt s 0 != 48) && decide (v ≤ 2147483648))) := Lib.hid (by unfold numOk; rw [HN.out])
          clear c0 c1 f0 f1 c0' hv hn2 hds hB
          have nle : (n : Int) ≤ (s.size : Int) := by omega
          cases b with
          | false =>
            go_wp2_with fail
            exact bodyPost_ret (v := .int .i64 v) (by simp [results, Tryd.results12, go_sem]) rfl ⟨v, rfl, fun _ => HN.out, by rw [hR.out]; exact Rest.set2 HR2.out _ _, HO2.out.trans (OnlyB.set _ _ _)⟩
          | true =>
            by_cases h48 : bt s 0 = 48
            · have d1 : (bt s 0 != 48) = false := bne_eq_false_iff_eq.2 h48
              have HK2 : Hid (numOk s = false) := Lib.hid (by rw [HK.out, d1]; rfl)
              clear h48
              go_wp2_with fail
              exact bodyPost_ret (v := .int .i64 v) (by simp [results, Tryd.results12, go_sem]) rfl ⟨v, rfl, fun _ => HN.out, by rw [hR.out, HK2.out]; exact Rest.set2 HR2.out _ _, HO2.out.trans (OnlyB.set _ _ _)⟩
            · have d1 : (bt s 0 != 48) = true := bne_iff_ne.2 h48
              have HK2 : Hid (numOk s = decide (v ≤ 2147483648)) := Lib.hid (by rw [HK.out, d1]; rfl)
              clear h48
              go_wp2_with fail
              exact bodyPost_ret (v := .int .i64 v) (by simp [results, Tryd.results12, go_sem]) rfl ⟨v, rfl, fun _ => HN.out, by rw [hR.out, HK2.out]; exact Rest.set2 HR2.out _ _, HO2.out.trans (OnlyB.set _ _ _)⟩
        · have HN : Hid (numO s = none) := Lib.hid (hn2.trans hv)
          have HR2 := Lib.hid ((hB.block g H.out.lt).trans H.out)
          have HO2 := Lib.hid ((OnlyB.of_below (g := g) (Drawn0.below ⟨_, rfl⟩ : Below w.heap.size w (w.drewN _))).trans (OnlyB.of_below hB))
          have k0 := Rest.c0 HR2.out
          have k1 := Rest.c1 HR2.out
          have l0 := Rest.f0 HR2.out
          have l1 := Rest.f1 HR2.out
          have HK : Hid (numOk s = false) := Lib.hid (by unfold numOk; rw [HN.out])
          clear c0 c1 f0 f1 c0' hv hn2 hds hB
          have nle : (n : Int) ≤ (s.size : Int) := by omega
          cases b with
          | false =>
            go_wp2_with fail
            exact bodyPost_ret (v := .int .i64 x) (by simp [results, Tryd.results12, go_sem]) rfl ⟨x, rfl, fun h => (by rw [HK.out] at h; cases h), by rw [hR.out]; exact Rest.set2 HR2.out _ _, HO2.out.trans (OnlyB.set _ _ _)⟩
          | true =>
            go_wp2_with fail
            exact bodyPost_ret (v := .int .i64 x) (by simp [results, Tryd.results12, go_sem]) rfl ⟨x, rfl, fun h => (by rw [HK.out] at h; cases h), by rw [hR.out, HK.out]; exact Rest.set2 HR2.out _ _, HO2.out.trans (OnlyB.set _ _ _)⟩
    · obtain rfl : n = s.size := by omega
      have HE : Hid (runL isDig s.data.toList = s.size) := Lib.hid (runL_end isDig _ s.size HA.out (by rw [← size_eq]; omega) (fun c' hc' => by rw [List.getElem?_eq_none (by rw [← size_eq]; exact Nat.le_refl _)] at hc'; cases hc'))
      have e3 : ¬ (s.size : Int) < (s.size : Int) := by omega
      obtain ⟨n, hnn⟩ : ∃ n, s.size = n := ⟨_, rfl⟩
      go_wp2_with fail
      have HE2 : Hid (runL isDig s.data.toList = n) := Lib.hid (HE.out.trans hnn)
      clear HE
      have HE := HE2
      refine (atoi_calls (s.extract 0 n) (by simp; omega) _ (hG.out.below (Drawn0.below ⟨_, rfl⟩))).mono ?_
      intro e w2 hA
      have hds : (s.extract 0 n).data.toList = s.data.toList.take n := by
        exact extract_eq0 s n
      rw [hds] at hA
      have hn2 : numO s = numV (s.data.toList.take n) := by unfold numO numD; rw [HE.out]
      have hR : Hid (numRest s = ByteArray.empty) := Lib.hid (by unfold numRest numD; rw [HE.out, hnn]; simp)
      rcases hA with ⟨v, hv, rfl, hB⟩ | ⟨x, N, hv, rfl, hB⟩
      · have HN : Hid (numO s = some v) := Lib.hid (hn2.trans hv)
        have hn1 : 0 < n := by
          rcases Nat.eq_zero_or_pos n with h0 | h0
          · subst h0; simp [numV, Lib.atoiAll] at hv
          · exact h0
        have hx0 : ∀ h : 0 < s.size, ((s[0]'h).toNat : Int) = bt s 0 := bt_at s 0
        have q0 : (0 < s.size) = True := eq_true (by omega)
        have qi0 : (0 < (s.size : Int)) = True := eq_true (by omega)
        have q0n : (0 < n) = True := eq_true hn1
        have qi0n : (0 < (n : Int)) = True := eq_true (by omega)
        have HR2 := Lib.hid ((hB.block g H.out.lt).trans H.out)
        have HO2 := Lib.hid ((OnlyB.of_below (g := g) (Drawn0.below ⟨_, rfl⟩ : Below w.heap.size w (w.drewN _))).trans (OnlyB.of_below hB))
        have k0 := Rest.c0 HR2.out
        have k1 := Rest.c1 HR2.out
        have l0 := Rest.f0 HR2.out
        have l1 := Rest.f1 HR2.out
        have HK : Hid (numOk s = ((bt s 0 != 48) && decide (v ≤ 2147483648))) := Lib.hid (by unfold numOk; rw [HN.out])
        clear c0 c1 f0 f1 c0' hv hn2 hds hB
        have nle : (n : Int) ≤ (s.size : Int) := by omega
        cases b with
        | false =>
          go_wp2_with fail
          exact bodyPost_ret (v := .int .i64 v) (by simp [results, Tryd.results12, go_sem]) rfl ⟨v, rfl, fun _ => HN.out, by rw [hR.out]; exact Rest.set2 HR2.out _ _, HO2.out.trans (OnlyB.set _ _ _)⟩
        | true =>
          by_cases h48 : bt s 0 = 48
          · have d1 : (bt s 0 != 48) = false := bne_eq_false_iff_eq.2 h48
            have HK2 : Hid (numOk s = false) := Lib.hid (by rw [HK.out, d1]; rfl)
            clear h48
            go_wp2_with fail
            exact bodyPost_ret (v := .int .i64 v) (by simp [results, Tryd.results12, go_sem]) rfl ⟨v, rfl, fun _ => HN.out, by rw [hR.out, HK2.out]; exact Rest.set2 HR2.out _ _, HO2.out.trans (OnlyB.set _ _ _)⟩
          · have d1 : (bt s 0 != 48) = true := bne_iff_ne.2 h48
            have HK2 : Hid (numOk s = decide (v ≤ 2147483648)) := Lib.hid (by rw [HK.out, d1]; rfl)
            clear h48
            go_wp2_with fail
            exact bodyPost_ret (v := .int .i64 v) (by simp [results, Tryd.results12, go_sem]) rfl ⟨v, rfl, fun _ => HN.out, by rw [hR.out, HK2.out]; exact Rest.set2 HR2.out _ _, HO2.out.trans (OnlyB.set _ _ _)⟩
      · have HN : Hid (numO s = none) := Lib.hid (hn2.trans hv)
        have HR2 := Lib.hid ((hB.block g H.out.lt).trans H.out)
        have HO2 := Lib.hid ((OnlyB.of_below (g := g) (Drawn0.below ⟨_, rfl⟩ : Below w.heap.size w (w.drewN _))).trans (OnlyB.of_below hB))
        have k0 := Rest.c0 HR2.out
        have k1 := Rest.c1 HR2.out
        have l0 := Rest.f0 HR2.out
        have l1 := Rest.f1 HR2.out
        have HK : Hid (numOk s = false) := Lib.hid (by unfold numOk; rw [HN.out])
        clear c0 c1 f0 f1 c0' hv hn2 hds hB
        have nle : (n : Int) ≤ (s.size : Int) := by omega
        cases b with
        | false =>
          go_wp2_with fail
          exact bodyPost_ret (v := .int .i64 x) (by simp [results, Tryd.results12, go_sem]) rfl ⟨x, rfl, fun h => (by rw [HK.out] at h; cases h), by rw [hR.out]; exact Rest.set2 HR2.out _ _, HO2.out.trans (OnlyB.set _ _ _)⟩
        | true =>
          go_wp2_with fail
          exact bodyPost_ret (v := .int .i64 x) (by simp [results, Tryd.results12, go_sem]) rfl ⟨x, rfl, fun h => (by rw [HK.out] at h; cases h), by rw [hR.out, HK.out]; exact Rest.set2 HR2.out _ _, HO2.out.trans (OnlyB.set _ _ _)⟩
end Go.Proofs.YtfnidapliohdjaaDoor.P
