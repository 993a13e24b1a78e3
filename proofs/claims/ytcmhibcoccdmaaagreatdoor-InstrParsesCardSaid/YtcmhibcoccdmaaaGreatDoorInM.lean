/- strings.SplitSeq's iterator at a blank: the words of a text. -/
import Derived.Test.YtcmhibcoccdmaaaGreatDoorInL
namespace Go.Proofs.YtcmhibcoccdmaaaGreatDoor.P
open Go.RowKit Go.Shelf Go.Proofs.YtcmhibcoccdmaaaGreatDoorW.PrintWords Go.Proofs.YtcmhibcoccdmaaaGreatDoorW.PrintLast Go.Proofs.YtcmhibcoccdmaaaGreatDoor.Rw
set_option linter.unusedVariables false
set_option linter.unusedSimpArgs false
attribute [local go_sem] Oper.semAt_some
theorem Bt.kp {b g : Nat} {s : ByteArray} {w w' : World} (h : Bt b s w) (hk : Kp g w w') (hne : ¬ b = g) : Bt b s w' := (hk.blk (lt_heap h) hne).trans h
theorem Bt.below {b : Nat} {s : ByteArray} {w w' : World} (h : Bt b s w) (hk : Below w.heap.size w w') : Bt b s w' := (hk.block b (lt_heap h)).trans h
theorem Bt.kg {b B : Nat} {S : Nat → Prop} {s : ByteArray} {w w' : World} (h : Bt b s w) (hk : KG B S w w') (hb : b < B) (hS : ¬ S b) : Bt b s w' := (hk.2 b hb hS).trans h
theorem lines_calls (s : ByteArray) (w : World) : Calls Tryz.prog 20 #[.string s] w fun e w' => e = .returned (.func (.func 46) #[] #[.pointer (some ⟨w.heap.size, 0, none⟩)]) ∧ w' = w.alloc (.cells #[.string s] 9) := by
  go_enter Tryz.func20, Tryz.ntmps20
  go_wp2
  go_ret
  exact ⟨rfl, rfl⟩
theorem lines_iter (m g : Nat) (S : Nat → Prop) (s : ByteArray) (w : World) (hb : Bt g s w) (hgS : ¬ S g) (hs : s.size ≤ 100000000) : IterC m 46 #[.pointer (some ⟨g, 0, none⟩)] g ((lns s.data.toList).map lnV) w.heap.size S w :=
  fun l J Jx W hB hJ hY h0 => lines1_calls g w.heap.size m l S s W J Jx (hb.below hB) (lt_heap hb) hgS hs hJ hY h0
/-- The box of sepSave. -/
def Bz (g : Nat) (w : World) : Prop := w.heap[g]? = some (.cells #[.int .i64 0] 3 (0, 0))
theorem split_calls (s : ByteArray) (w : World) : Calls Tryz.prog 51 #[.string s, .string ⟨#[32]⟩] w fun e w' => e = .returned (.func (.func 89) #[] #[.pointer (some ⟨w.heap.size + 1, 0, none⟩), .pointer (some ⟨w.heap.size, 0, none⟩), .pointer (some ⟨w.heap.size + 2, 0, none⟩)]) ∧
    Bt w.heap.size s w' ∧ Bt (w.heap.size + 1) ⟨#[32]⟩ w' ∧ Bz (w.heap.size + 2) w' ∧ Below w.heap.size w w' ∧ w'.heap.size = w.heap.size + 3 := by
  have h74 : Calls Tryz.prog 74 #[.string s, .string ⟨#[32]⟩, .int .i64 0] w fun e w' => e = .returned (.func (.func 89) #[] #[.pointer (some ⟨w.heap.size + 1, 0, none⟩), .pointer (some ⟨w.heap.size, 0, none⟩), .pointer (some ⟨w.heap.size + 2, 0, none⟩)]) ∧
      w' = ((w.alloc (.cells #[.string s] 9)).alloc (.cells #[.string ⟨#[32]⟩] 9)).alloc (.cells #[.int .i64 0] 3) := by
    go_enter Tryz.func74, Tryz.ntmps74
    go_wp2
    go_ret
    exact ⟨rfl, rfl⟩
  have h74' := Lib.hid h74
  clear h74
  go_enter Tryz.func51, Tryz.ntmps51
  go_wp2_with fail
  refine h74'.out.mono ?_
  rintro e w2 ⟨rfl, rfl⟩
  go_wp2_with fail
  have hA := (((Below.refl _ w).alloc (Nat.le_refl _) (.cells #[.string s] 9)).alloc (by simp) (.cells #[.string ⟨#[32]⟩] 9)).alloc (by simp; omega) (.cells #[.int .i64 0] 3)
  have h1 : Bt w.heap.size s (((w.alloc (.cells #[.string s] 9)).alloc (.cells #[.string ⟨#[32]⟩] 9)).alloc (.cells #[.int .i64 0] 3)) :=
    (heap_old _ _ _ (by simp; omega)).trans ((heap_old _ _ _ (by simp)).trans (heap_new w _))
  have h2 : Bt (w.heap.size + 1) ⟨#[32]⟩ (((w.alloc (.cells #[.string s] 9)).alloc (.cells #[.string ⟨#[32]⟩] 9)).alloc (.cells #[.int .i64 0] 3)) := by
    have := heap_new (w.alloc (.cells #[.string s] 9)) (.cells #[.string ⟨#[32]⟩] 9)
    rw [World.size_alloc] at this
    exact (heap_old _ _ _ (by simp)).trans this
  have h3 : Bz (w.heap.size + 2) (((w.alloc (.cells #[.string s] 9)).alloc (.cells #[.string ⟨#[32]⟩] 9)).alloc (.cells #[.int .i64 0] 3)) := by
    have := heap_new ((w.alloc (.cells #[.string s] 9)).alloc (.cells #[.string ⟨#[32]⟩] 9)) (.cells #[.int .i64 0] 3)
    rw [World.size_alloc, World.size_alloc] at this
    exact this
  exact bodyPost_ret (v := .func (.func 89) #[] #[.pointer (some ⟨w.heap.size + 1, 0, none⟩), .pointer (some ⟨w.heap.size, 0, none⟩), .pointer (some ⟨w.heap.size + 2, 0, none⟩)]) (by simp [results, Tryz.results51, go_sem]) rfl ⟨rfl, h1, h2, h3, hA, by simp⟩
/-- bytealg.MaxLen. -/
def Mc (mx : Int) (w : World) : Prop := w.cell? ⟨0, 0, none⟩ = some (.int .i64 mx)
theorem Mc.kp {mx : Int} {g : Nat} {w w' : World} (h : Mc mx w) (hk : Kp g w w') (hg : 0 < g) : Mc mx w' := (cell_same (hk.blk (cell_lt h) (by omega))).trans h
theorem Mc.kg {mx : Int} {B : Nat} {S : Nat → Prop} {w w' : World} (h : Mc mx w) (hk : KG B S w w') (hb : 0 < B) (hS : ¬ S 0) : Mc mx w' := (cell_same (hk.2 0 hb hS)).trans h
theorem Mc.below {mx : Int} {w w' : World} (h : Mc mx w) (hk : Below w.heap.size w w') : Mc mx w' := (cell_same (hk.block 0 (cell_lt h))).trans h
theorem Bz.c {g : Nat} {w : World} (h : Bz g w) : w.cell? ⟨g, 0, none⟩ = some (.int .i64 0) := cell_in h 0
theorem Bz.kp {b g : Nat} {w w' : World} (h : Bz b w) (hk : Kp g w w') (hne : ¬ b = g) : Bz b w' := (hk.blk (lt_heap h) hne).trans h
theorem Bz.below {b : Nat} {w w' : World} (h : Bz b w) (hk : Below w.heap.size w w') : Bz b w' := (hk.block b (lt_heap h)).trans h
theorem Bz.kg {b B : Nat} {S : Nat → Prop} {w w' : World} (h : Bz b w) (hk : KG B S w w') (hb : b < B) (hS : ¬ S b) : Bz b w' := (hk.2 b hb hS).trans h
theorem spl_ix (r : ByteArray) (p q : List UInt8) (h : r.data.toList = p ++ 32 :: q) (hp : (32 : UInt8) ∉ p) : spl r.data.toList = (r.extract 0 p.length).data.toList :: spl (r.extract (p.length + 1) r.size).data.toList ∧ p.length < r.size := by
  have e1 : (r.extract 0 p.length).data.toList = p := by
    rw [Lib.extract_from_zero, h, List.take_left]
  have e2 : (r.extract (p.length + 1) r.size).data.toList = q := by
    rw [ByteArray.data_extract, Array.toList_extract, List.extract_eq_drop_take', sizeL, List.take_of_length_le (by simp), h]
    simp
  rw [e1, e2, h, spl_hit p q hp]
  refine ⟨rfl, ?_⟩
  rw [sizeL, h]
  simp only [List.length_append, List.length_cons]
  omega
set_option maxHeartbeats 4000000 in
set_option maxRecDepth 100000 in
theorem split1_calls (g bp bv B m l : Nat) (S : Nat → Prop) (s : ByteArray) (W : World) (J Jx : List Value → World → Prop) (hb : Bt g s W) (hp : Bt bp ⟨#[32]⟩ W) (hv : Bz bv W) (mx : Int) (hm : Mc mx W)
    (hgB : g < B) (hpB : bp < B) (hvB : bv < B) (hgS : ¬ S g) (hpS : ¬ S bp) (hvS : ¬ S bv) (h0S : ¬ S 0) (hpg : ¬ bp = g) (hvg : ¬ bv = g) (h0g : 0 < g) (hs : s.size ≤ 100000000)
    (hJ : ∀ pre A A', J pre A → Kp g A A' → J pre A')
    (hY : ∀ pre x rest W1, J pre W1 → (spl s.data.toList).map lnV = pre ++ x :: rest → YieldAt Fence.wide m Tryz.prog l #[x] W1 fun e W' => (e = .returned (.bool true) ∧ J (pre ++ [x]) W' ∧ KG B S W1 W') ∨ (e = .returned (.bool false) ∧ Jx (pre ++ [x]) W'))
    (h0 : J [] W) :
    Calls Tryz.prog 89 #[.func (.yield l) #[] #[], .pointer (some ⟨bp, 0, none⟩), .pointer (some ⟨g, 0, none⟩), .pointer (some ⟨bv, 0, none⟩)] W (SeqEnd ((spl s.data.toList).map lnV) J Jx) := by
  have HB := Lib.hid hb; have HP := Lib.hid hp; have HV := Lib.hid hv; have HJ := Lib.hid hJ; have HY := Lib.hid hY; have H0 := Lib.hid h0; have HM := Lib.hid hm
  clear hb hp hv hJ hY h0 hm
  generalize hT : (spl s.data.toList).map lnV = T at HY ⊢
  have HT := Lib.hid hT
  clear hT
  have cp := HP.out.c
  go_enter Tryz.func89, Tryz.ntmps89
  go_wp2_with fail
  clear cp
  go_loopg [] (s.size + 1) (fun kq wr => ∃ (pre : List Value) (r : ByteArray), r.size < kq ∧ r.size ≤ 100000000 ∧ Hid (J pre wr) ∧ Hid (Bt g r wr) ∧ Hid (Bt bp ⟨#[32]⟩ wr) ∧ Hid (Bz bv wr) ∧ Hid (Mc mx wr) ∧ Hid (T = pre ++ (spl r.data.toList).map lnV))
  case atStart => exact ⟨[], s, by omega, hs, H0, HB, HP, HV, HM, Lib.hid (by rw [← HT.out]; rfl)⟩
  case round =>
    obtain ⟨pre, r, hk, hr, HJ1, HB1, HP1, HV1, HM1, HE⟩ := hrel
    clear HB H0 HT HP HV HM
    rcases gk with _ | f
    · omega
    have cb := HB1.out.c
    have fb := HB1.out.fz
    have cp := HP1.out.c
    have cv := HV1.out.c
    rcases ix_cases 32 r.data.toList with ⟨hi, hno⟩ | ⟨p, q, hr0, hp0, hi⟩
    · have hE : T = pre ++ [.string r] := by
        rw [HE.out, spl_miss _ hno, List.map_cons]
        unfold lnV
        rw [mk_toArray]
        rfl
      have HE2 := Lib.hid hE
      have HIX := Lib.hid hi
      clear hE HE hi hno
      have g2 : decide ((-1 : Int) < 0) = true := by decide
      go_wp2_with fail
      refine (Tryz.strings_Index r ⟨#[32]⟩ mx _ (by omega) HM1.out).mono ?_
      rintro e w2 ⟨rfl, rfl⟩
      have hix : Lib.index r.data.toList (⟨#[32]⟩ : ByteArray).data.toList = -1 := HIX.out
      rw [hix]
      clear hix HIX
      go_upto_region 10 with (fail)
      obtain ⟨fn, tmps, assign, body, hy, hR⟩ := HY.out pre _ _ _ HJ1.out HE2.out
      have HR := Lib.hid hR
      clear hR
      refine (wpIn_wide (n := m + 1)).1 ?_
      gi_wp2
      refine HR.out.mono ?_
      rintro e w6 (⟨rfl, hJ6, hk6⟩ | ⟨rfl, hJx6⟩)
      · have HJ6 := Lib.hid hJ6
        clear hJ6 hk6 HR HB1 HP1 HV1 HM1 HJ1 hy cb fb cp cv
        gi_wp2
        go_wp2_with fail
        refine bodyPost_ret (v := .tuple #[]) (by simp [results, go_sem]) rfl ⟨⟨_, rfl⟩, .inl ?_⟩
        rw [HE2.out]
        exact HJ6.out
      · have HJ6 := Lib.hid hJx6
        clear hJx6 HR HB1 HP1 HV1 HM1 HJ1 hy cb fb cp cv
        gi_wp2
        go_wp2_with fail
        refine bodyPost_ret (v := .tuple #[]) (by simp [results, go_sem]) rfl ⟨⟨_, rfl⟩, .inr ?_⟩
        exact ⟨pre, _, _, HE2.out, HJ6.out⟩
    · obtain ⟨hl, hir⟩ := spl_ix r p q hr0 hp0
      obtain ⟨i, hpi⟩ : ∃ i, p.length = i := ⟨_, rfl⟩
      rw [hpi] at hl hir hi
      clear hr0 hp0 hpi q p
      have hE : T = pre ++ (lnV (r.extract 0 i).data.toList :: (spl (r.extract (i + 1) r.size).data.toList).map lnV) := by rw [HE.out, hl, List.map_cons]
      have hnx : (r.extract (i + 1) r.size).size < f := by rw [ByteArray.size_extract]; omega
      have hle : (r.extract (i + 1) r.size).size ≤ 100000000 := by rw [ByteArray.size_extract]; omega
      have hmk : lnV (r.extract 0 i).data.toList = .string (r.extract 0 i) := by unfold lnV; rw [mk_toArray]
      rw [hmk] at hE
      have HE2 := Lib.hid hE
      have HIX := Lib.hid hi
      clear hE hmk HE hl hi
      have e1 : (0 : Int) ≤ (i : Int) := by omega
      have e0 : (i : Int) ≤ (r.size : Int) := by omega
      have e2 : (0 : Int) ≤ (i : Int) + 1 := by omega
      have e3 : (i : Int) + 1 ≤ (r.size : Int) := by omega
      have e4 : ((i : Int) + 1).toNat = i + 1 := by omega
      have g2 : decide ((i : Int) < 0) = false := decide_eq_false (by omega)
      go_wp2_with fail
      refine (Tryz.strings_Index r ⟨#[32]⟩ mx _ (by omega) HM1.out).mono ?_
      rintro e w2 ⟨rfl, rfl⟩
      have hix : Lib.index r.data.toList (⟨#[32]⟩ : ByteArray).data.toList = (i : Int) := HIX.out
      rw [hix]
      clear hix HIX
      go_upto_region 8 with (fail)
      obtain ⟨fn, tmps, assign, body, hy, hR⟩ := HY.out pre _ _ _ HJ1.out HE2.out
      have HR := Lib.hid hR
      clear hR
      refine (wpIn_wide (n := m + 1)).1 ?_
      gi_wp2
      refine HR.out.mono ?_
      rintro e w6 (⟨rfl, hJ6, hk6⟩ | ⟨rfl, hJx6⟩)
      · have HB6 : Hid (Bt g r w6) := Lib.hid (HB1.out.kg hk6 hgB hgS)
        have HP6 := Lib.hid (HP1.out.kg hk6 hpB hpS)
        have HV6 := Lib.hid (HV1.out.kg hk6 hvB hvS)
        have HM6 := Lib.hid (HM1.out.kg hk6 (by omega) h0S)
        have HJ6 := Lib.hid hJ6
        clear hJ6 hk6 HR HB1 HJ1 HP1 HV1 HM1 hy cb fb cp cv
        have cb := HB6.out.c
        have fb := HB6.out.fz
        have cp := HP6.out.c
        gi_wp2
        go_wp2_with fail
        have HB2 := Lib.hid (show Bt g (r.extract (i + 1) r.size) (w6.setCell ⟨g, 0, none⟩ (.string (r.extract (i + 1) r.size))) from HB6.out.put _)
        have hkp : Kp g w6 (w6.setCell ⟨g, 0, none⟩ (.string (r.extract (i + 1) r.size))) := (Kp.refl g w6).setCell 0 _
        have HJ2 := Lib.hid (HJ.out _ _ _ HJ6.out hkp)
        have HP2 := Lib.hid (HP6.out.kp hkp hpg)
        have HV2 := Lib.hid (HV6.out.kp hkp hvg)
        have HM2 := Lib.hid (HM6.out.kp hkp h0g)
        clear hkp HB6 HJ6 HP6 HV6 HM6 cb fb cp
        go_roundg f
        case measure => omega
        case rel => exact ⟨pre ++ [_], r.extract (i + 1) r.size, by omega, hle, HJ2, HB2, HP2, HV2, HM2, Lib.hid (by rw [HE2.out]; simp)⟩
      · have HJ6 := Lib.hid hJx6
        clear hJx6 HR HB1 HP1 HV1 HM1 HJ1 hy cb fb cp cv
        gi_wp2
        go_wp2_with fail
        refine bodyPost_ret (v := .tuple #[]) (by simp [results, go_sem]) rfl ⟨⟨_, rfl⟩, .inr ?_⟩
        exact ⟨pre, _, _, HE2.out, HJ6.out⟩
theorem split_iter (m g bp bv : Nat) (S : Nat → Prop) (s : ByteArray) (w : World) (hb : Bt g s w) (hp : Bt bp ⟨#[32]⟩ w) (hv : Bz bv w) (mx : Int) (hm : Mc mx w) (hgS : ¬ S g) (hpS : ¬ S bp) (hvS : ¬ S bv) (h0S : ¬ S 0) (hpg : ¬ bp = g) (hvg : ¬ bv = g) (h0g : 0 < g) (hs : s.size ≤ 100000000) :
    IterC m 89 #[.pointer (some ⟨bp, 0, none⟩), .pointer (some ⟨g, 0, none⟩), .pointer (some ⟨bv, 0, none⟩)] g ((spl s.data.toList).map lnV) w.heap.size S w :=
  fun l J Jx W hB hJ hY h0 => split1_calls g bp bv w.heap.size m l S s W J Jx (hb.below hB) (hp.below hB) (hv.below hB) mx (hm.below hB) (lt_heap hb) (lt_heap hp) (lt_heap hv) hgS hpS hvS h0S hpg hvg h0g hs hJ hY h0
end Go.Proofs.YtcmhibcoccdmaaaGreatDoor.P
