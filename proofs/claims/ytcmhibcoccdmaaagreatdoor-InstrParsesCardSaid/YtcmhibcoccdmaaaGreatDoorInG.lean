/- slices.IndexFunc and ContainsFunc over globals, instructions and forms, by whatever predicate that lays memory alone; a builder's state. -/
import Derived.Test.YtcmhibcoccdmaaaGreatDoorInF
import Derived.Shelf.Abstract
namespace Go.Proofs.YtcmhibcoccdmaaaGreatDoor.P
open Go.RowKit Go.Shelf Go.Proofs.YtcmhibcoccdmaaaGreatDoorW.PrintWords Go.Proofs.YtcmhibcoccdmaaaGreatDoorW.PrintLast Go.Proofs.YtcmhibcoccdmaaaGreatDoor.Rw
set_option linter.unusedVariables false
set_option linter.unusedSimpArgs false
/-! Kinds. -/
abbrev zI : Ins := ⟨0, 0, 0, []⟩
def kI : Kd Ins := Kd.iso (Kd.pair (Kd.int .i64) (Kd.pair (Kd.int .i64) (Kd.pair (Kd.int .i64) (Kd.slice 90 kP)))) (fun x : Ins => (x.op, x.a, x.b, x.tb))
theorem kI_open {w : World} {x : Ins} {cs : List Value} (h : kI.K w x cs) : ∃ A c, cs = [.int .i64 x.op, .int .i64 x.a, .int .i64 x.b, .slice A x.tb.length c] ∧ x.tb.length ≤ c ∧ kP.C w A x.tb.length x.tb := by
  obtain ⟨_, _, rfl, rfl, ⟨_, _, rfl, rfl, ⟨_, _, rfl, rfl, ⟨A3, c3, rfl, l3, g3⟩⟩⟩⟩ := h
  exact ⟨A3, c3, rfl, l3, g3⟩
theorem kI_mk (w : World) (x : Ins) {A : Option Addr} {c : Nat} (l : x.tb.length ≤ c) (g : kP.C w A x.tb.length x.tb) : kI.K w x [.int .i64 x.op, .int .i64 x.a, .int .i64 x.b, .slice A x.tb.length c] :=
  ⟨[.int .i64 x.op], [.int .i64 x.a, .int .i64 x.b, .slice A x.tb.length c], rfl, rfl, ⟨[.int .i64 x.a], [.int .i64 x.b, .slice A x.tb.length c], rfl, rfl, ⟨[.int .i64 x.b], [.slice A x.tb.length c], rfl, rfl, ⟨A, c, rfl, l, g⟩⟩⟩⟩
theorem heap_P : Kd.Heap kP := Kd.heap_pair (Kd.heap_int .i64) (Kd.heap_int .i64)
theorem heap_I : Kd.Heap kI := Kd.heap_iso _ (Kd.heap_pair (Kd.heap_int .i64) (Kd.heap_pair (Kd.heap_int .i64) (Kd.heap_pair (Kd.heap_int .i64) (Kd.heap_slice 90 heap_P))))
theorem heap_G : Kd.Heap k52 := Kd.heap_iso _ (Kd.heap_pair Kd.heap_string (Kd.heap_pair (Kd.heap_int .i64) (Kd.heap_int .i64)))
abbrev zFm : Fm := ⟨⟨#[]⟩, 0, 0, 0, 0, 0, 0, 0⟩
def kFm : Kd Fm := Kd.iso (Kd.pair Kd.string (Kd.pair (Kd.int .i64) (Kd.pair (Kd.int .i64) (Kd.pair (Kd.int .i64) (Kd.pair (Kd.int .i64) (Kd.pair (Kd.int .i64) (Kd.pair (Kd.int .i64) (Kd.int .i64)))))))) (fun x : Fm => (x.word, x.nums, x.least, x.most, x.reads, x.readsA, x.leaves, x.leavesA))
theorem kFm_open {w : World} {x : Fm} {cs : List Value} (h : kFm.K w x cs) : cs = x.cells := by
  obtain ⟨_, _, rfl, rfl, ⟨_, _, rfl, rfl, ⟨_, _, rfl, rfl, ⟨_, _, rfl, rfl, ⟨_, _, rfl, rfl, ⟨_, _, rfl, rfl, ⟨_, _, rfl, rfl, rfl⟩⟩⟩⟩⟩⟩⟩ := h
  rfl
theorem kFm_mk (w : World) (x : Fm) : kFm.K w x x.cells :=
  ⟨[_], [_, _, _, _, _, _, _], rfl, rfl, ⟨[_], [_, _, _, _, _, _], rfl, rfl, ⟨[_], [_, _, _, _, _], rfl, rfl, ⟨[_], [_, _, _, _], rfl, rfl, ⟨[_], [_, _, _], rfl, rfl, ⟨[_], [_, _], rfl, rfl, ⟨[_], [_], rfl, rfl, rfl⟩⟩⟩⟩⟩⟩⟩
theorem at_I {w : World} {A : Option Addr} {n : Nat} {xs : List Ins} (h : kI.C w A n xs) (k : Nat) (hk : k < n) : ∃ ad A3 c3, A = some ad ∧ w.cell? (ad.add (k * 4)) = some (.int .i64 (xs.getD k zI).op) ∧ w.cell? ⟨(ad.add (k * 4)).block, (ad.add (k * 4)).off + 1, none⟩ = some (.int .i64 (xs.getD k zI).a) ∧ w.cell? ⟨(ad.add (k * 4)).block, (ad.add (k * 4)).off + 2, none⟩ = some (.int .i64 (xs.getD k zI).b) ∧
    w.cell? ⟨(ad.add (k * 4)).block, (ad.add (k * 4)).off + 3, none⟩ = some (.slice A3 (xs.getD k zI).tb.length c3) ∧ (xs.getD k zI).tb.length ≤ c3 ∧ kP.C w A3 (xs.getD k zI).tb.length (xs.getD k zI).tb := by
  obtain ⟨ad, c, e, _, hK, hc0⟩ := Kd.C_get h zI (k : Int) (by omega) (by omega)
  rw [Int.toNat_natCast] at hK hc0
  have hc : ∀ j u, c[j]? = some u → w.cell? (ad.add (k * 4 + j)) = some u := hc0
  obtain ⟨A3, c3, rfl, l3, g3⟩ := kI_open hK
  exact ⟨ad, A3, c3, e, hc 0 _ rfl, by rw [← add_field _ _ 1 (by omega)]; exact hc 1 _ rfl, by rw [← add_field _ _ 2 (by omega)]; exact hc 2 _ rfl, by rw [← add_field _ _ 3 (by omega)]; exact hc 3 _ rfl, l3, g3⟩
theorem at_G {w : World} {A : Option Addr} {n : Nat} {xs : List S52} (h : k52.C w A n xs) (k : Nat) (hk : k < n) : ∃ ad, A = some ad ∧ w.cell? (ad.add (k * 3)) = some (.string (xs.getD k z52).f0) ∧ w.cell? ⟨(ad.add (k * 3)).block, (ad.add (k * 3)).off + 1, none⟩ = some (.int .i64 (xs.getD k z52).f1) ∧ w.cell? ⟨(ad.add (k * 3)).block, (ad.add (k * 3)).off + 2, none⟩ = some (.int .i64 (xs.getD k z52).f2) := by
  obtain ⟨ad, e, h0, h1, h2⟩ := at_T52 h (k : Int) (by omega) (by omega)
  have hr : rd_T52 xs (k : Int) = xs.getD k z52 := rfl
  rw [Int.toNat_natCast] at h0 h1 h2
  rw [hr] at h0 h1 h2
  exact ⟨ad, e, h0, h1, h2⟩
theorem at_Fm {w : World} {A : Option Addr} {n : Nat} {xs : List Fm} (h : kFm.C w A n xs) (k : Nat) (hk : k < n) : ∃ ad, A = some ad ∧ w.cell? (ad.add (k * 8)) = some (.string (xs.getD k zFm).word) ∧ w.cell? ⟨(ad.add (k * 8)).block, (ad.add (k * 8)).off + 1, none⟩ = some (.int .i64 (xs.getD k zFm).nums) ∧ w.cell? ⟨(ad.add (k * 8)).block, (ad.add (k * 8)).off + 2, none⟩ = some (.int .i64 (xs.getD k zFm).least) ∧ w.cell? ⟨(ad.add (k * 8)).block, (ad.add (k * 8)).off + 3, none⟩ = some (.int .i64 (xs.getD k zFm).most) ∧
    w.cell? ⟨(ad.add (k * 8)).block, (ad.add (k * 8)).off + 4, none⟩ = some (.int .i64 (xs.getD k zFm).reads) ∧ w.cell? ⟨(ad.add (k * 8)).block, (ad.add (k * 8)).off + 5, none⟩ = some (.int .i64 (xs.getD k zFm).readsA) ∧ w.cell? ⟨(ad.add (k * 8)).block, (ad.add (k * 8)).off + 6, none⟩ = some (.int .i64 (xs.getD k zFm).leaves) ∧ w.cell? ⟨(ad.add (k * 8)).block, (ad.add (k * 8)).off + 7, none⟩ = some (.int .i64 (xs.getD k zFm).leavesA) := by
  obtain ⟨ad, c, e, _, hK, hc0⟩ := Kd.C_get h zFm (k : Int) (by omega) (by omega)
  rw [Int.toNat_natCast] at hK hc0
  have hc : ∀ j u, c[j]? = some u → w.cell? (ad.add (k * 8 + j)) = some u := hc0
  obtain rfl := kFm_open hK
  exact ⟨ad, e, hc 0 _ rfl, by rw [← add_field _ _ 1 (by omega)]; exact hc 1 _ rfl, by rw [← add_field _ _ 2 (by omega)]; exact hc 2 _ rfl, by rw [← add_field _ _ 3 (by omega)]; exact hc 3 _ rfl, by rw [← add_field _ _ 4 (by omega)]; exact hc 4 _ rfl, by rw [← add_field _ _ 5 (by omega)]; exact hc 5 _ rfl, by rw [← add_field _ _ 6 (by omega)]; exact hc 6 _ rfl, by rw [← add_field _ _ 7 (by omega)]; exact hc 7 _ rfl⟩
/-! Where the first element stands that a predicate holds of. -/
section
variable {α : Type}
def idxL (p : α → Bool) (xs : List α) : Int := match xs.findIdx? p with | some i => (i : Int) | none => -1
theorem getD_at (xs : List α) (z : α) (k : Nat) (hk : k < xs.length) : xs.getD k z = xs[k] := by rw [List.getD_eq_getElem?_getD, List.getElem?_eq_getElem hk, Option.getD_some]
theorem getD_mem (xs : List α) (z : α) (k : Nat) (hk : k < xs.length) : xs.getD k z ∈ xs := by rw [getD_at xs z k hk]; exact List.getElem_mem hk
theorem idxL_at (p : α → Bool) (xs : List α) (z : α) (k : Nat) (hk : k < xs.length) (h : p (xs.getD k z) = true) (hl : ∀ j, j < k → p (xs.getD j z) = false) : idxL p xs = k := by
  have : xs.findIdx? p = some k := by
    rw [List.findIdx?_eq_some_iff_getElem]
    refine ⟨hk, by rw [← getD_at xs z k hk]; exact h, fun j hj => ?_⟩
    have := hl j hj
    rw [getD_at xs z j (by omega)] at this
    rw [this]; decide
  unfold idxL
  rw [this]
theorem idxL_none (p : α → Bool) (xs : List α) (z : α) (hl : ∀ j, j < xs.length → p (xs.getD j z) = false) : idxL p xs = -1 := by
  have : xs.findIdx? p = none := by
    rw [List.findIdx?_eq_none_iff]
    intro x hx
    obtain ⟨j, hj, rfl⟩ := List.mem_iff_getElem.1 hx
    have := hl j hj
    rwa [getD_at xs z j hj] at this
  unfold idxL
  rw [this]
theorem idxL_any (p : α → Bool) (xs : List α) : decide (0 ≤ idxL p xs) = xs.any p := by
  unfold idxL
  cases h : xs.findIdx? p with
  | none =>
    rw [List.findIdx?_eq_none_iff] at h
    have : xs.any p = false := by rw [List.any_eq_false]; intro x hx; rw [h x hx]; decide
    rw [this]; rfl
  | some i =>
    have hs : xs.any p = true := by
      rw [List.findIdx?_eq_some_iff_getElem] at h
      obtain ⟨hi, hp, _⟩ := h
      exact List.any_eq_true.2 ⟨_, List.getElem_mem hi, hp⟩
    rw [hs]; exact decide_eq_true (by simp)
end
def PredG (G : Nat) (lb : Array Value) (p : S52 → Bool) (xs : List S52) (w : World) : Prop :=
  ∀ (W : World) (x : S52) (cs : List Value), x ∈ xs → Below w.heap.size w W → k52.K W x cs → Calls Tryz.prog G (#[.agg cs.toArray] ++ lb) W fun e w' => e = .returned (.bool (p x)) ∧ Below W.heap.size W w'
set_option maxHeartbeats 4000000 in
set_option maxRecDepth 100000 in
theorem indexG (G : Nat) (lb : Array Value) (p : S52 → Bool) (eg : ∀ args w, (callFunc G args).run Tryz.prog w = .ok (.enter G args) w) (A : Option Addr) (c : Nat) (xs : List S52) (w : World)
    (hp : PredG G lb p xs w) (hC : k52.C w A xs.length xs) :
    Calls Tryz.prog 63 #[.slice A xs.length c, .func (.func G) #[] lb] w fun e w' => e = .returned (.int .i64 (idxL p xs)) ∧ Below w.heap.size w w' := by
  have hbig := hC.2.1
  have HP := Lib.hid hp
  have HC := Lib.hid hC
  clear hp hC
  go_enter Tryz.func63, Tryz.ntmps63
  go_wp2
  go_loopg [5, 8] xs.length (fun gg _ s8 wr => ∃ kk : Nat, kk ≤ xs.length ∧ xs.length - kk ≤ gg ∧ s8 = .int .i64 kk ∧ Hid (Below w.heap.size w wr) ∧ Hid (∀ j, j < kk → p (xs.getD j z52) = false))
  case atStart => exact ⟨0, Nat.zero_le _, by omega, rfl, Lib.hid (Below.refl _ w), Lib.hid (fun j hj => absurd hj (Nat.not_lt_zero _))⟩
  case round =>
    obtain ⟨kk, hkk, hg, rfl, BW, AL⟩ := hrel
    by_cases hlt : kk < xs.length
    · have hltz : (kk : Int) < (xs.length : Int) := by omega
      obtain ⟨ad, rfl, h0, h1, h2⟩ := at_G (Kd.C_below HC.out BW.out) kk hlt
      have hK := k52_mk wr (xs.getD kk z52)
      have hcall := HP.out wr (xs.getD kk z52) _ (getD_mem xs z52 kk hlt) BW.out hK
      clear hK
      generalize hy : xs.getD kk z52 = y at h0 h1 h2 hcall
      have HY := Lib.hid hy
      clear hy
      cases hq : p y with
      | true =>
        rw [hq] at hcall
        have HCL := Lib.hid hcall
        have HQ := Lib.hid hq
        clear hcall hq
        go_wp2_with (go_at_fn G; refine HCL.out.mono ?_; rintro e w' ⟨rfl, hb'⟩)
        go_ret
        exact ⟨by rw [idxL_at p xs z52 kk hlt (by rw [HY.out]; exact HQ.out) AL.out]; rfl, bel2 BW.out hb'⟩
      | false =>
        rw [hq] at hcall
        have HCL := Lib.hid hcall
        have HQ := Lib.hid hq
        clear hcall hq
        go_wp2_with (go_at_fn G; refine HCL.out.mono ?_; rintro e w' ⟨rfl, hb'⟩)
        go_roundg (xs.length - (kk + 1))
        case measure => omega
        case rel =>
          refine ⟨kk + 1, by omega, by omega, by go_num, Lib.hid (bel2 BW.out hb'), Lib.hid (fun j hj => ?_)⟩
          rcases Nat.lt_succ_iff_lt_or_eq.1 hj with h | rfl
          · exact AL.out j h
          · rw [HY.out]; exact HQ.out
    · have hltz : ¬ (kk : Int) < (xs.length : Int) := by omega
      obtain rfl : kk = xs.length := by omega
      go_wp2
      go_ret
      exact ⟨by rw [idxL_none p xs z52 AL.out]; rfl, BW.out⟩
set_option maxHeartbeats 4000000 in
set_option maxRecDepth 100000 in
theorem containsG (G : Nat) (lb : Array Value) (p : S52 → Bool) (eg : ∀ args w, (callFunc G args).run Tryz.prog w = .ok (.enter G args) w) (A : Option Addr) (c : Nat) (xs : List S52) (w : World)
    (hp : PredG G lb p xs w) (hC : k52.C w A xs.length xs) :
    Calls Tryz.prog 27 #[.slice A xs.length c, .func (.func G) #[] lb] w fun e w' => e = .returned (.bool (xs.any p)) ∧ Below w.heap.size w w' := by
  have H := Lib.hid (indexG G lb p eg A c xs w hp hC)
  clear hp hC
  go_enter Tryz.func27, Tryz.ntmps27
  go_wp2_with fail
  refine H.out.mono ?_
  rintro e w1 ⟨rfl, hb⟩
  go_wp2
  go_ret
  exact ⟨by rw [← idxL_any]; simp, hb⟩
def PredI (G : Nat) (lb : Array Value) (p : Ins → Bool) (xs : List Ins) (w : World) : Prop :=
  ∀ (W : World) (x : Ins) (cs : List Value), x ∈ xs → Below w.heap.size w W → kI.K W x cs → Calls Tryz.prog G (#[.agg cs.toArray] ++ lb) W fun e w' => e = .returned (.bool (p x)) ∧ Below W.heap.size W w'
set_option maxHeartbeats 4000000 in
set_option maxRecDepth 100000 in
theorem indexI (G : Nat) (lb : Array Value) (p : Ins → Bool) (eg : ∀ args w, (callFunc G args).run Tryz.prog w = .ok (.enter G args) w) (A : Option Addr) (c : Nat) (xs : List Ins) (w : World)
    (hp : PredI G lb p xs w) (hC : kI.C w A xs.length xs) :
    Calls Tryz.prog 65 #[.slice A xs.length c, .func (.func G) #[] lb] w fun e w' => e = .returned (.int .i64 (idxL p xs)) ∧ Below w.heap.size w w' := by
  have hbig := hC.2.1
  have HP := Lib.hid hp
  have HC := Lib.hid hC
  clear hp hC
  go_enter Tryz.func65, Tryz.ntmps65
  go_wp2
  go_loopg [5, 8] xs.length (fun gg _ s8 wr => ∃ kk : Nat, kk ≤ xs.length ∧ xs.length - kk ≤ gg ∧ s8 = .int .i64 kk ∧ Hid (Below w.heap.size w wr) ∧ Hid (∀ j, j < kk → p (xs.getD j zI) = false))
  case atStart => exact ⟨0, Nat.zero_le _, by omega, rfl, Lib.hid (Below.refl _ w), Lib.hid (fun j hj => absurd hj (Nat.not_lt_zero _))⟩
  case round =>
    obtain ⟨kk, hkk, hg, rfl, BW, AL⟩ := hrel
    by_cases hlt : kk < xs.length
    · have hltz : (kk : Int) < (xs.length : Int) := by omega
      obtain ⟨ad, A3, c3, rfl, h0, h1, h2, h3, hl3, hC3⟩ := at_I (Kd.C_below HC.out BW.out) kk hlt
      have hK := kI_mk wr (xs.getD kk zI) hl3 hC3
      have hcall := HP.out wr (xs.getD kk zI) _ (getD_mem xs zI kk hlt) BW.out hK
      clear hK hl3 hC3
      generalize hy : xs.getD kk zI = y at h0 h1 h2 h3 hcall
      have HY := Lib.hid hy
      clear hy
      cases hq : p y with
      | true =>
        rw [hq] at hcall
        have HCL := Lib.hid hcall
        have HQ := Lib.hid hq
        clear hcall hq
        go_wp2_with (go_at_fn G; refine HCL.out.mono ?_; rintro e w' ⟨rfl, hb'⟩)
        go_ret
        exact ⟨by rw [idxL_at p xs zI kk hlt (by rw [HY.out]; exact HQ.out) AL.out]; rfl, bel2 BW.out hb'⟩
      | false =>
        rw [hq] at hcall
        have HCL := Lib.hid hcall
        have HQ := Lib.hid hq
        clear hcall hq
        go_wp2_with (go_at_fn G; refine HCL.out.mono ?_; rintro e w' ⟨rfl, hb'⟩)
        go_roundg (xs.length - (kk + 1))
        case measure => omega
        case rel =>
          refine ⟨kk + 1, by omega, by omega, by go_num, Lib.hid (bel2 BW.out hb'), Lib.hid (fun j hj => ?_)⟩
          rcases Nat.lt_succ_iff_lt_or_eq.1 hj with h | rfl
          · exact AL.out j h
          · rw [HY.out]; exact HQ.out
    · have hltz : ¬ (kk : Int) < (xs.length : Int) := by omega
      obtain rfl : kk = xs.length := by omega
      go_wp2
      go_ret
      exact ⟨by rw [idxL_none p xs zI AL.out]; rfl, BW.out⟩
set_option maxHeartbeats 4000000 in
set_option maxRecDepth 100000 in
theorem containsI (G : Nat) (lb : Array Value) (p : Ins → Bool) (eg : ∀ args w, (callFunc G args).run Tryz.prog w = .ok (.enter G args) w) (A : Option Addr) (c : Nat) (xs : List Ins) (w : World)
    (hp : PredI G lb p xs w) (hC : kI.C w A xs.length xs) :
    Calls Tryz.prog 30 #[.slice A xs.length c, .func (.func G) #[] lb] w fun e w' => e = .returned (.bool (xs.any p)) ∧ Below w.heap.size w w' := by
  have H := Lib.hid (indexI G lb p eg A c xs w hp hC)
  clear hp hC
  go_enter Tryz.func30, Tryz.ntmps30
  go_wp2_with fail
  refine H.out.mono ?_
  rintro e w1 ⟨rfl, hb⟩
  go_wp2
  go_ret
  exact ⟨by rw [← idxL_any]; simp, hb⟩
def PredFm (G : Nat) (lb : Array Value) (p : Fm → Bool) (xs : List Fm) (w : World) : Prop :=
  ∀ (W : World) (x : Fm) (cs : List Value), x ∈ xs → Below w.heap.size w W → kFm.K W x cs → Calls Tryz.prog G (#[.agg cs.toArray] ++ lb) W fun e w' => e = .returned (.bool (p x)) ∧ Below W.heap.size W w'
set_option maxHeartbeats 4000000 in
set_option maxRecDepth 100000 in
theorem indexFm (G : Nat) (lb : Array Value) (p : Fm → Bool) (eg : ∀ args w, (callFunc G args).run Tryz.prog w = .ok (.enter G args) w) (A : Option Addr) (c : Nat) (xs : List Fm) (w : World)
    (hp : PredFm G lb p xs w) (hC : kFm.C w A xs.length xs) :
    Calls Tryz.prog 53 #[.slice A xs.length c, .func (.func G) #[] lb] w fun e w' => e = .returned (.int .i64 (idxL p xs)) ∧ Below w.heap.size w w' := by
  have hbig := hC.2.1
  have HP := Lib.hid hp
  have HC := Lib.hid hC
  clear hp hC
  go_enter Tryz.func53, Tryz.ntmps53
  go_wp2
  go_loopg [5, 8] xs.length (fun gg _ s8 wr => ∃ kk : Nat, kk ≤ xs.length ∧ xs.length - kk ≤ gg ∧ s8 = .int .i64 kk ∧ Hid (Below w.heap.size w wr) ∧ Hid (∀ j, j < kk → p (xs.getD j zFm) = false))
  case atStart => exact ⟨0, Nat.zero_le _, by omega, rfl, Lib.hid (Below.refl _ w), Lib.hid (fun j hj => absurd hj (Nat.not_lt_zero _))⟩
  case round =>
    obtain ⟨kk, hkk, hg, rfl, BW, AL⟩ := hrel
    by_cases hlt : kk < xs.length
    · have hltz : (kk : Int) < (xs.length : Int) := by omega
      obtain ⟨ad, rfl, h0, h1, h2, h3, h4, h5, h6, h7⟩ := at_Fm (Kd.C_below HC.out BW.out) kk hlt
      have hK := kFm_mk wr (xs.getD kk zFm)
      have hcall := HP.out wr (xs.getD kk zFm) _ (getD_mem xs zFm kk hlt) BW.out hK
      clear hK
      generalize hy : xs.getD kk zFm = y at h0 h1 h2 h3 h4 h5 h6 h7 hcall
      have HY := Lib.hid hy
      clear hy
      cases hq : p y with
      | true =>
        rw [hq] at hcall
        have HCL := Lib.hid hcall
        have HQ := Lib.hid hq
        clear hcall hq
        go_wp2_with (go_at_fn G; refine HCL.out.mono ?_; rintro e w' ⟨rfl, hb'⟩)
        go_ret
        exact ⟨by rw [idxL_at p xs zFm kk hlt (by rw [HY.out]; exact HQ.out) AL.out]; rfl, bel2 BW.out hb'⟩
      | false =>
        rw [hq] at hcall
        have HCL := Lib.hid hcall
        have HQ := Lib.hid hq
        clear hcall hq
        go_wp2_with (go_at_fn G; refine HCL.out.mono ?_; rintro e w' ⟨rfl, hb'⟩)
        go_roundg (xs.length - (kk + 1))
        case measure => omega
        case rel =>
          refine ⟨kk + 1, by omega, by omega, by go_num, Lib.hid (bel2 BW.out hb'), Lib.hid (fun j hj => ?_)⟩
          rcases Nat.lt_succ_iff_lt_or_eq.1 hj with h | rfl
          · exact AL.out j h
          · rw [HY.out]; exact HQ.out
    · have hltz : ¬ (kk : Int) < (xs.length : Int) := by omega
      obtain rfl : kk = xs.length := by omega
      go_wp2
      go_ret
      exact ⟨by rw [idxL_none p xs zFm AL.out]; rfl, BW.out⟩
/-! The builder's bytes. -/
def Bs (b : Nat) (l : List UInt8) (W : World) : Prop := Lib.IsBuilder 76 5 b b (Lib.byteCells l) W
theorem Bs.lt {b : Nat} {l : List UInt8} {W : World} (h : Bs b l W) : b < W.heap.size := h.elim (fun k => k.lt) (fun k => k.lt)
theorem Bs.below {b : Nat} {l : List UInt8} {W W' : World} (h : Bs b l W) (hB : Below W.heap.size W W') : Bs b l W' :=
  h.elim (fun k => .inl (Bld.at_kept k (fun j hj => hB.block j hj))) (fun k => .inr (Bld.at_kept k (fun j hj => hB.block j hj)))
structure Sw (b : Nat) (l : List UInt8) (W W' : World) : Prop where
  bs : Bs b l W'
  be : Below b W W'
  ot : Bld.Others b W W'
theorem writeL (b : Nat) (l : List UInt8) (s : ByteArray) (W : World) (h : Bs b l W) (hlen : l.length + s.data.toList.length ≤ 1000000000) :
    Calls Tryz.prog 32 #[.pointer (some ⟨b, 0, none⟩), .string s] W fun e W' => e = .returned (.tuple #[.int .i64 s.size, .nilIface]) ∧ Sw b (l ++ s.data.toList) W W' := by
  have hsz : s.size = s.data.toList.length := by rw [Array.length_toList]; rfl
  refine (Bld.writeString b b _ s W h (by simp [Lib.byteCells]; omega) (Nat.le_of_lt h.lt)).mono ?_
  rintro e W' ⟨he, h1, h2, h3⟩
  refine ⟨he, .inr ?_, h2, h3⟩
  have : Lib.byteCells (l ++ s.data.toList) = Lib.byteCells l ++ Lib.strCells s := by simp [Lib.byteCells, Lib.strCells]
  rw [this]
  exact h1
theorem writeC (b : Nat) (l : List UInt8) (c : UInt8) (W : World) (h : Bs b l W) (hlen : l.length + 1 ≤ 1000000000) :
    Calls Tryz.prog 35 #[.pointer (some ⟨b, 0, none⟩), .int .u8 c.toNat] W fun e W' => e = .returned .nilIface ∧ Sw b (l ++ [c]) W W' := by
  refine (Bld.writeByte b b _ c.toNat W h (by simp [Lib.byteCells]; omega) (Nat.le_of_lt h.lt)).mono ?_
  rintro e W' ⟨he, h1, h2, h3⟩
  refine ⟨he, .inr ?_, h2, h3⟩
  have : Lib.byteCells (l ++ [c]) = Lib.byteCells l ++ [.int .u8 c.toNat] := by simp [Lib.byteCells]
  rw [this]
  exact h1
end Go.Proofs.YtcmhibcoccdmaaaGreatDoor.P
