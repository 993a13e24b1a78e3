/- knows: what must come, comes. -/
import Derived.Test.YtcmhibcoccdmaaaGreatDoorInR
namespace Go.Proofs.YtcmhibcoccdmaaaGreatDoor.P
open Go.RowKit Go.Shelf Go.Proofs.YtcmhibcoccdmaaaGreatDoorW.PrintWords Go.Proofs.YtcmhibcoccdmaaaGreatDoorW.PrintLast Go.Proofs.YtcmhibcoccdmaaaGreatDoor.Rw
set_option linter.unusedVariables false
set_option linter.unusedSimpArgs false
def gs0 : List S52 := [⟨⟨#[102]⟩, 1, 0⟩]
def xs0 : List Ins := [⟨0, 7, 0, []⟩, ⟨4, 1, 0, []⟩]
def text0 : List UInt8 := [103, 108, 111, 98, 97, 108, 32, 49, 32, 48, 32, 102, 10, 105, 110, 116, 32, 55, 10, 117, 112, 100, 97, 116, 101, 32, 49, 10]
theorem print0 : printI gs0 xs0 = text0 := by decide +kernel
theorem ok0 : ∀ x, x ∈ xs0 → InsOK x := by
  intro x hx
  unfold xs0 at hx
  rcases List.mem_cons.1 hx with rfl | hx
  · exact ⟨by unfold i64; decide, by unfold i64; decide, fun p hp => by cases hp⟩
  · rw [List.mem_singleton] at hx
    subst hx
    exact ⟨by unfold i64; decide, by unfold i64; decide, fun p hp => by cases hp⟩
theorem parse0 : parseC text0 = (some (gs0, xs0), 0) := by
  have h := parse_print (gs := gs0) (xs := xs0) ok0 (by rw [print0]; unfold text0; simp)
  rw [print0] at h
  exact h
theorem same0 : sameC gs0 gs0 xs0 xs0 = true := by decide +kernel
theorem prim0 : instr_Prim.f 20 ⟨#[62, 61]⟩ = some (10, true) := by decide +kernel
theorem reads0 : readsI ⟨4, 1, 0, []⟩ = 3 := by decide +kernel
theorem gs0_C {W : World} {k : Nat} (h : W.heap[k]? = some (.cells #[.string ⟨#[102]⟩, .int .i64 1, .int .i64 0] 52 (0, 0))) : k52.C W (some ⟨k, 0, none⟩) 1 gs0 := by
  refine ⟨rfl, by decide, fun _ => ⟨_, rfl, fun j p hp => ?_⟩⟩
  match j, hp with
  | 0, hp =>
    cases hp
    refine ⟨[.string ⟨#[102]⟩, .int .i64 1, .int .i64 0], rfl, ⟨[_], [_, _], rfl, rfl, ⟨[_], [_], rfl, rfl, rfl⟩⟩, fun i u hu => ?_⟩
    have ha : (⟨k, 0, none⟩ : Addr).add (0 * k52.sz + i) = ⟨k, i, none⟩ := by unfold Addr.add; split <;> simp_all
    rw [ha]
    match i, hu with
    | 0, hu => cases hu; exact cell_in h 0
    | 1, hu => cases hu; exact cell_in h 1
    | 2, hu => cases hu; exact cell_in h 2
theorem xs0_C {W : World} {k : Nat} (h : W.heap[k]? = some (.cells #[.int .i64 0, .int .i64 7, .int .i64 0, .slice none 0 0, .int .i64 4, .int .i64 1, .int .i64 0, .slice none 0 0] 46 (0, 0))) : kI.C W (some ⟨k, 0, none⟩) 2 xs0 := by
  refine ⟨rfl, by decide, fun _ => ⟨_, rfl, fun j p hp => ?_⟩⟩
  have hadd : ∀ i, (⟨k, 0, none⟩ : Addr).add i = ⟨k, i, none⟩ := fun i => by unfold Addr.add; split <;> simp_all
  match j, hp with
  | 0, hp =>
    cases hp
    refine ⟨[.int .i64 0, .int .i64 7, .int .i64 0, .slice none 0 0], rfl, kI_mk W ⟨0, 7, 0, []⟩ (Nat.le_refl _) (Kd.C_nil kP W), fun i u hu => ?_⟩
    rw [hadd]
    match i, hu with
    | 0, hu => cases hu; exact cell_in h 0
    | 1, hu => cases hu; exact cell_in h 1
    | 2, hu => cases hu; exact cell_in h 2
    | 3, hu => cases hu; exact cell_in h 3
  | 1, hp =>
    cases hp
    refine ⟨[.int .i64 4, .int .i64 1, .int .i64 0, .slice none 0 0], rfl, kI_mk W ⟨4, 1, 0, []⟩ (Nat.le_refl _) (Kd.C_nil kP W), fun i u hu => ?_⟩
    rw [hadd]
    match i, hu with
    | 0, hu => cases hu; exact cell_in h 4
    | 1, hu => cases hu; exact cell_in h 5
    | 2, hu => cases hu; exact cell_in h 6
    | 3, hu => cases hu; exact cell_in h 7
theorem three {w wl : World} {a b c : Obj} (h : ((w.alloc a).alloc b).alloc c = wl) : wl.heap.size = w.heap.size + 3 ∧ wl.heap[w.heap.size]? = some a ∧ wl.heap[w.heap.size + 1]? = some b ∧ wl.heap[w.heap.size + 2]? = some c ∧ Below w.heap.size w wl := by
  subst h
  have od : ∀ {w : World} {o : Obj} {k : Nat} {x : Obj}, w.heap[k]? = some x → (w.alloc o).heap[k]? = some x := fun h => (heap_old _ _ _ (lt_heap h)).trans h
  have h1 := heap_new w a
  have h2 := heap_new (w.alloc a) b
  have h3 := heap_new ((w.alloc a).alloc b) c
  simp only [World.size_alloc] at h2 h3
  refine ⟨by simp only [World.size_alloc], od (od h1), od h2, h3, ?_⟩
  exact (((Below.refl _ w).alloc (Nat.le_refl _) _).alloc (by simp) _).alloc (by simp; omega) _
set_option maxHeartbeats 2000000 in
set_option maxRecDepth 100000 in
theorem knows_calls (w : World) (hT : GT w) : Calls Tryz.prog 6 #[] w fun e w' => e = .returned (.bool true) ∧ Below w.heap.size w w' := by
  have HT := Lib.hid hT
  clear hT
  go_enter Tryz.func6, Tryz.ntmps6
  go_upto_region 2 with (fail)
  generalize hwl : World.alloc (World.alloc _ _) _ = w1
  obtain ⟨hsz, b0, b1, b2, hbel⟩ := three hwl
  clear hwl hsz
  have HB0 := Lib.hid b0; have HB1 := Lib.hid b1; have HB2 := Lib.hid b2; have HBL := Lib.hid hbel
  clear b0 b1 b2 hbel
  have c0 := cell_in HB2.out 0
  have c1 := cell_in HB2.out 1
  go_wp2_with fail
  refine (print_calls gs0 xs0 (some ⟨w.heap.size, 0, none⟩) (some ⟨w.heap.size + 1, 0, none⟩) 1 2 w1 (Nat.le_refl _) (Nat.le_refl _) (gs0_C HB0.out) (xs0_C HB1.out) ok0 (HT.out.below HBL.out) (by decide +kernel)).mono ?_
  rintro e w2 ⟨rfl, hb2⟩
  rw [print0]
  obtain ⟨st, hst⟩ : ∃ st, st = (⟨text0.toArray⟩ : ByteArray) := ⟨_, rfl⟩
  rw [← hst]
  have g1 : (st.toList == [103, 108, 111, 98, 97, 108, 32, 49, 32, 48, 32, 102, 10, 105, 110, 116, 32, 55, 10, 117, 112, 100, 97, 116, 101, 32, 49, 10]) = true := by rw [ByteArray.toList_eq, hst]; rfl
  have hsd : st.data.toList = text0 := by rw [hst]
  have hss : st.size ≤ 65536 := by rw [hst]; decide
  have HSD := Lib.hid hsd
  clear hst hsd c0 c1
  have HB2' := Lib.hid ((hb2.block _ (lt_heap HB2.out)).trans HB2.out)
  have HB0' := Lib.hid ((hb2.block _ (lt_heap HB0.out)).trans HB0.out)
  have HB1' := Lib.hid ((hb2.block _ (lt_heap HB1.out)).trans HB1.out)
  have HBL' := Lib.hid (bel2 HBL.out hb2)
  clear HB0 HB1 HB2 HBL hb2
  go_wp2_with fail
  refine (code_calls st hss w2 (HT.out.below HBL'.out)).mono ?_
  rintro e w3 (⟨m, hp, _⟩ | ⟨gs, xs, Ag, cg, Ai, ci, hp, rfl, hcg, hci, hCg, hCi, hb3⟩)
  · rw [HSD.out, parse0] at hp
    simp at hp
  rw [HSD.out, parse0] at hp
  simp only [Prod.mk.injEq, Option.some.injEq, and_true] at hp
  obtain ⟨rfl, rfl⟩ := hp
  have HB2 := Lib.hid ((hb3.block _ (lt_heap HB2'.out)).trans HB2'.out)
  have HB0 := Lib.hid ((hb3.block _ (lt_heap HB0'.out)).trans HB0'.out)
  have HB1 := Lib.hid ((hb3.block _ (lt_heap HB1'.out)).trans HB1'.out)
  have HBL := Lib.hid (bel2 HBL'.out hb3)
  have HCG := Lib.hid hCg; have HCI := Lib.hid hCi
  clear HB0' HB1' HB2' HBL' hb3 hCg hCi hss HSD
  go_upto_region 4 with (fail)
  have hd := heap_new w3 (.cells #[.slice Ag gs0.length cg, .slice Ai xs0.length ci] 26)
  have HBA := (Below.refl _ w3).alloc (Nat.le_refl _) (.cells #[.slice Ag gs0.length cg, .slice Ai xs0.length ci] 26)
  have HB2' := Lib.hid ((HBA.block _ (lt_heap HB2.out)).trans HB2.out)
  have HB0' := Lib.hid ((HBA.block _ (lt_heap HB0.out)).trans HB0.out)
  have HB1' := Lib.hid ((HBA.block _ (lt_heap HB1.out)).trans HB1.out)
  have HBL' := Lib.hid (bel2 HBL.out HBA)
  have HCG' := Lib.hid (Kd.C_below HCG.out HBA)
  have HCI' := Lib.hid (Kd.C_below HCI.out HBA)
  clear HB0 HB1 HB2 HBL HCG HCI HBA
  generalize w3.alloc (.cells #[.slice Ag gs0.length cg, .slice Ai xs0.length ci] 26) = w4 at hd HB2' HB0' HB1' HBL' HCG' HCI' ⊢
  generalize w3.heap.size = d at hd ⊢
  have HD := Lib.hid hd
  clear hd
  go_wp2_with fail
  refine (instr_Prim.calls 20 ⟨#[62, 61]⟩ 10 true w4 prim0).mono ?_
  rintro e w5 ⟨rfl, hb5⟩
  have HB2 := Lib.hid ((hb5.block _ (lt_heap HB2'.out)).trans HB2'.out)
  have HB0 := Lib.hid ((hb5.block _ (lt_heap HB0'.out)).trans HB0'.out)
  have HB1 := Lib.hid ((hb5.block _ (lt_heap HB1'.out)).trans HB1'.out)
  have HDD := Lib.hid ((hb5.block _ (lt_heap HD.out)).trans HD.out)
  have HBL := Lib.hid (bel2 HBL'.out hb5)
  have HCG := Lib.hid (Kd.C_below HCG'.out hb5)
  have HCI := Lib.hid (Kd.C_below HCI'.out hb5)
  clear HB0' HB1' HB2' HBL' HCG' HCI' HD hb5
  have c0 := cell_in HB2.out 0
  have c1 := cell_in HB2.out 1
  have d0 := cell_in HDD.out 0
  have d1 := cell_in HDD.out 1
  go_wp2_with fail
  refine (same_calls gs0 gs0 xs0 xs0 (some ⟨w.heap.size, 0, none⟩) Ag (some ⟨w.heap.size + 1, 0, none⟩) Ai 1 cg 2 ci w5 (gs0_C HB0.out) HCG.out (xs0_C HB1.out) HCI.out).mono ?_
  rintro e w6 ⟨rfl, hb6⟩
  rw [same0]
  have HB2' := Lib.hid ((hb6.block _ (lt_heap HB2.out)).trans HB2.out)
  have HB1' := Lib.hid ((hb6.block _ (lt_heap HB1.out)).trans HB1.out)
  have HBL' := Lib.hid (bel2 HBL.out hb6)
  clear HB0 HB1 HB2 HBL HCG HCI HDD hb6 c0 c1 d0 d1
  have c1 := cell_in HB2'.out 1
  have e4 := cell_in HB1'.out 4
  have e5 := cell_in HB1'.out 5
  have e6 := cell_in HB1'.out 6
  have e7 := cell_in HB1'.out 7
  go_wp2_with fail
  refine (reads_calls ⟨4, 1, 0, []⟩ none 0 w6 (Nat.le_refl _) (Kd.C_nil kP w6)).mono ?_
  rintro e w7 ⟨rfl, hb7⟩
  rw [reads0]
  have HBL := Lib.hid (bel2 HBL'.out hb7)
  clear hb7 c1 e4 e5 e6 e7
  go_wp2_with fail
  go_ret
  exact ⟨rfl, HBL.out⟩
theorem wrap_id {n : Int} (h0 : -9223372036854775808 ≤ n) (h1 : n ≤ 9223372036854775807) : wrap64 n = n := by
  unfold wrap64
  omega
end Go.Proofs.YtcmhibcoccdmaaaGreatDoor.P
