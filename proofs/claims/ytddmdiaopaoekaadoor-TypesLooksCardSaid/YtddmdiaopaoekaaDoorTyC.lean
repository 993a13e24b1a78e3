import Derived.RangeFuncNested
import Derived.RangeFuncBound
import Derived.RangeFuncCalls
import Derived.RangeFuncLeaves
import Derived.Shelf.Abstract
import Derived.Shelf.RegionOpen
import Derived.WalkKit
import Derived.OwnWalkIn
import Derived.TacticsInMore
import Derived.LoopNIn
import Derived.LoopIn
import Derived.Test.YtddmdiaopaoekaaDoorTyB
import Derived.RangeFuncWrites
import Derived.RangeFuncBox
import Derived.Maps.AppendAt
import Derived.Maps.OwnIn
import Derived.RangeFuncFrom
import Derived.Test.YtddmdiaopaoekaaDoorSq
namespace Go.Proofs.YtddmdiaopaoekaaDoor.P
open Go.RowKit Go.Shelf Go.Proofs.YtddmdiaopaoekaaDoorW.PrintWords
set_option linter.unusedVariables false
attribute [local go_sem] Oper.semAt_some
/-- The variables' numbers, from left to right. -/
def varsN : Nat → S31 → List Int
 | 0, _ => []
 | n + 1, x => (if x.f0 = 1 then [x.f1] else []) ++ x.f3.flatMap (varsN n)
/-- What a round keeps: what lay in w0; each row of types. -/
def KpT (w0 A B : World) : Prop := Below w0.heap.size A B ∧ ∀ (k : Nat) (cs : Array Value), A.heap[k]? = some (.cells cs 31 (0, 0)) → B.heap[k]? = some (.cells cs 31 (0, 0))
theorem KpT.refl (w0 A : World) : KpT w0 A A := ⟨Below.refl _ _, fun _ _ h => h⟩
theorem KpT.trans {w0 A B C : World} (h : KpT w0 A B) (k : KpT w0 B C) : KpT w0 A C := ⟨h.1.trans k.1, fun i cs hi => k.2 i cs (h.2 i cs hi)⟩
theorem KpT.alloc {w0 A B : World} (h : KpT w0 A B) (hb : w0.heap.size ≤ B.heap.size) (o : Obj) : KpT w0 A (B.alloc o) :=
 ⟨h.1.alloc hb _, fun k cs hk => (heap_old B o k (Array.getElem?_eq_some_iff.1 (h.2 k cs hk)).1).trans (h.2 k cs hk)⟩
theorem flat_take (f : S31 → List Int) (xs : List S31) (kk : Nat) (h : kk < xs.length) : (xs.take (kk + 1)).flatMap f = (xs.take kk).flatMap f ++ f (xs.getD kk z31) := by
 rw [List.take_succ_eq_append_getElem h, List.flatMap_append, List.getD_eq_getElem?_getD, List.getElem?_eq_getElem h, Option.getD_some]
 simp
theorem flat_all (f : S31 → List Int) (xs : List S31) (kk : Nat) : xs.flatMap f = (xs.take kk).flatMap f ++ (xs.drop kk).flatMap f := by
 rw [← List.flatMap_append, List.take_append_drop]
theorem flat_len (f : S31 → List Int) (xs : List S31) (kk : Nat) (h : kk < xs.length) : ((xs.take kk).flatMap f).length + (f (xs.getD kk z31)).length ≤ (xs.flatMap f).length := by
 rw [← List.length_append, ← flat_take f xs kk h, flat_all f xs (kk + 1), List.length_append]; omega
theorem flat_pre (f : S31 → List Int) (xs : List S31) (kk : Nat) (q r : List Int) (h : (xs.take (kk + 1)).flatMap f = (xs.take kk).flatMap f ++ q ++ r) : (xs.take kk).flatMap f ++ q <+: xs.flatMap f := by
 refine ⟨r ++ (xs.drop (kk + 1)).flatMap f, ?_⟩
 rw [← List.append_assoc, ← h, ← flat_all]
structure YieldT (l : Nat) (w0 : World) (N : Nat) (J Jx : List Int → World → Prop) : Prop where
 al : ∀ pre W o, J pre W → J pre (W.alloc o)
 be : ∀ pre W, J pre W → Below w0.heap.size w0 W
 yi : ∀ m pre x W, (Lit.int .i64 x).wf = true → J pre W → pre.length < N → YieldAt Fence.wide m Tryd.prog l #[.int .i64 x] W fun e W' => (e = .returned (.bool true) ∧ J (pre ++ [x]) W' ∧ KpT w0 W W') ∨ (e = .returned (.bool false) ∧ Jx (pre ++ [x]) W')
def WalkR (w0 : World) (J Jx : List Int → World → Prop) (pre xs : List Int) (W : World) (e : Ending) (W' : World) : Prop :=
 (e = .returned (.bool true) ∧ J (pre ++ xs) W' ∧ KpT w0 W W') ∨ (e = .returned (.bool false) ∧ ∃ q, q <+: xs ∧ Jx (pre ++ q) W')
def WalkC (l : Nat) (w0 : World) (N : Nat) (J Jx : List Int → World → Prop) (n : Nat) : Prop :=
 ∀ (m : Nat) (x : S31) (A : Option Addr) (c : Nat) (pre : List Int) (W : World), dep n x → x.f3.length ≤ c → k31.C w0 A x.f3.length x.f3 → J pre W → pre.length + (varsN n x).length ≤ N → (∀ v, v ∈ varsN n x → (Lit.int .i64 v).wf = true) →
  CallsIn Fence.wide m Tryd.prog 70 #[.agg #[.int .i64 x.f0, .int .i64 x.f1, .string x.f2, .slice A x.f3.length c], .func (.yield l) #[] #[]] W (WalkR w0 J Jx pre (varsN n x) W)
set_option maxHeartbeats 4000000 in
set_option maxRecDepth 100000 in
theorem walk_succ (l : Nat) (w0 : World) (N : Nat) (J Jx : List Int → World → Prop) (hY : YieldT l w0 N J Jx) (n : Nat) (ih : WalkC l w0 N J Jx n) : WalkC l w0 N J Jx (n + 1) := by
 intro m x A c pre W hd hc hC hJ hN hwf
 have hv : varsN (n + 1) x = (if x.f0 = 1 then [x.f1] else []) ++ x.f3.flatMap (varsN n) := rfl
 rw [hv] at hN hwf ⊢
 clear hv
 have hbig := hC.2.1
 have HC := Lib.hid hC
 have HY := Lib.hid hY
 have IH := Lib.hid ih
 have HD := Lib.hid hd
 have HJ := Lib.hid hJ
 have HWF := Lib.hid hwf
 clear hC hY ih hd hJ hwf
 by_cases h0 : x.f0 = 1
 ·have b0 : (x.f0 == 1) = true := beq_iff_eq.2 h0
  rw [if_pos h0, List.length_append] at hN
  rw [if_pos h0]
  have HN := Lib.hid hN
  have hlN : pre.length < N := by simp only [List.length_cons, List.length_nil] at hN; omega
  have hw1 := HWF.out x.f1 (by rw [if_pos h0]; simp)
  clear h0 hN
  have hbox : (W.alloc (.cells #[.int .i64 x.f0, .int .i64 x.f1, .string x.f2, .slice A x.f3.length c] 31)).heap[W.heap.size]? = some (.cells #[.int .i64 x.f0, .int .i64 x.f1, .string x.f2, .slice A x.f3.length c] 31 (0, 0)) := heap_new W _
  have hJ1 := HY.out.al _ _ (.cells #[.int .i64 x.f0, .int .i64 x.f1, .string x.f2, .slice A x.f3.length c] 31) HJ.out
  have hk1 : KpT w0 W (W.alloc (.cells #[.int .i64 x.f0, .int .i64 x.f1, .string x.f2, .slice A x.f3.length c] 31)) := (KpT.refl w0 W).alloc (HY.out.be _ _ HJ.out).size _
  obtain ⟨fn, tmps, assign, body, hy, hR⟩ := HY.out.yi (m - 1) pre x.f1 _ hw1 hJ1 hlN
  have HBX := Lib.hid hbox
  have HK1 := Lib.hid hk1
  have HR := Lib.hid hR
  clear hJ1 hk1 hbox hR hlN hw1
  refine callsIn_of_wp Tryd.func70 rfl trivial ?_ rfl
  simp only [Tryd.ntmps70, List.size_toArray, List.length_cons, List.length_nil, Nat.reduceAdd, Nat.reduceSub, Array.replicate_succ, Array.replicate_zero, List.push_toArray, List.append_toArray, List.nil_append, List.cons_append]
  gi_wp2_with fail
  refine ⟨fun h => by simp [Fence.wide] at h, HR.out.mono ?_⟩
  rintro e W2 (⟨rfl, hJ2, hk2⟩ | ⟨rfl, hx⟩)
  ·have hc3 : W2.cell? ⟨W.heap.size, 3, none⟩ = some (.slice A x.f3.length c) := cell_in (hk2.2 _ _ HBX.out) 3
   have HJ3 := Lib.hid hJ2
   have HK4 := Lib.hid (HK1.out.trans hk2)
   clear hJ2 hk2
   gi_wp2_with fail
   gi_loopw [6, 20] (fun s6 s20 wr => ∃ kk : Nat, kk ≤ x.f3.length ∧ s20 = .int .i64 kk ∧ Hid (J (pre ++ [x.f1] ++ (x.f3.take kk).flatMap (varsN n)) wr) ∧ Hid (KpT w0 W wr)) (fun _ s20 _ => x.f3.length - (intOf s20).toNat)
   case atStart => exact ⟨0, by omega, rfl, Lib.hid (by simpa using HJ3.out), HK4⟩
   case round =>
    obtain ⟨kk, hkk, rfl, HJ2, HK2⟩ := hrel
    by_cases hlt : kk < x.f3.length
    ·have hltz : (kk : Int) < (x.f3.length : Int) := by omega
     have hbe := HY.out.be _ _ HJ2.out
     obtain ⟨ad, A3, c3, rfl, h0, h1, h2, h3, hl3, hC3⟩ := at_T31 HC.out (kk : Int) (by omega) hltz
     have hrd : rd_T31 x.f3 (kk : Int) = x.f3.getD kk z31 := rfl
     have hmem := getD_mem x.f3 kk hlt
     have htk := flat_take (varsN n) x.f3 kk hlt
     have hln := flat_len (varsN n) x.f3 kk hlt
     rw [Int.toNat_natCast] at h0 h1 h2 h3
     rw [hrd] at h0 h1 h2 h3 hl3 hC3
     replace h0 := pw_cell_below hbe h0
     replace h1 := pw_cell_below hbe h1
     replace h2 := pw_cell_below hbe h2
     replace h3 := pw_cell_below hbe h3
     generalize x.f3.getD kk z31 = y at h0 h1 h2 h3 hl3 hC3 hmem htk hln
     have HTK := Lib.hid htk
     have hcall := IH.out (m - 1) y A3 c3 (pre ++ [x.f1] ++ (x.f3.take kk).flatMap (varsN n)) (wr.alloc (.cells #[.int .i64 y.f0, .int .i64 y.f1, .string y.f2, .slice A3 y.f3.length c3] 31)) (dep_succ HD.out y hmem) hl3 hC3 (HY.out.al _ _ _ HJ2.out) (by rw [List.length_append, List.length_append]; have := HN.out; simp only [List.length_cons, List.length_nil] at this ⊢; omega) (fun v hv => HWF.out v (List.mem_append_right _ (List.mem_flatMap.2 ⟨y, hmem, hv⟩)))
     have HK3 := Lib.hid (HK2.out.alloc hbe.size (.cells #[.int .i64 y.f0, .int .i64 y.f1, .string y.f2, .slice A3 y.f3.length c3] 31))
     have HCL := Lib.hid hcall
     clear hcall hbe hC3 hmem htk hln hrd
     gi_wp2_with fail
     refine ⟨trivial, fun h => by simp [Fence.wide] at h, HCL.out.mono ?_⟩
     rintro e W3 (⟨rfl, hJ3, hk3⟩ | ⟨rfl, q, hq, hx⟩)
     ·have HJ3 := Lib.hid hJ3
      have HK4 := Lib.hid (HK3.out.trans hk3)
      clear hJ3 hk3
      gi_wp2_with fail
      go_roundw
      case rel => exact ⟨kk + 1, by omega, by go_num, Lib.hid (by rw [HTK.out, ← List.append_assoc]; exact HJ3.out), HK4⟩
      case measure => simp [intOf]; omega
     ·have HX := Lib.hid hx
      have HQ := Lib.hid hq
      clear hx hq
      gi_wp2_with fail
      go_ret
      refine .inr ⟨rfl, x.f1 :: ((x.f3.take kk).flatMap (varsN n) ++ q), ?_, by have := HX.out; simpa [List.append_assoc] using this⟩
      obtain ⟨r, hr⟩ := HQ.out
      exact List.cons_prefix_cons.2 ⟨rfl, flat_pre (varsN n) x.f3 kk q r (by rw [HTK.out, ← hr, List.append_assoc])⟩
    ·have hltz : ¬ (kk : Int) < (x.f3.length : Int) := by omega
     obtain rfl : kk = x.f3.length := by omega
     gi_wp2_with fail
     go_ret
     exact .inl ⟨rfl, by have := HJ2.out; rw [List.take_length] at this; simpa [List.append_assoc] using this, HK2.out⟩
  ·have HX := Lib.hid hx
   clear hx
   gi_wp2_with fail
   go_ret
   exact .inr ⟨rfl, [x.f1], ⟨_, rfl⟩, HX.out⟩
 ·have b0 : (x.f0 == 1) = false := beq_eq_false_iff_ne.2 h0
  rw [if_neg h0, List.nil_append] at hN ⊢
  have HN := Lib.hid hN
  clear h0 hN
  refine callsIn_of_wp Tryd.func70 rfl trivial ?_ rfl
  simp only [Tryd.ntmps70, List.size_toArray, List.length_cons, List.length_nil, Nat.reduceAdd, Nat.reduceSub, Array.replicate_succ, Array.replicate_zero, List.push_toArray, List.append_toArray, List.nil_append, List.cons_append]
  gi_wp2_with fail
  refine ⟨fun _ h => (by cases h), ?_⟩
  have hbox : (W.alloc (.cells #[.int .i64 x.f0, .int .i64 x.f1, .string x.f2, .slice A x.f3.length c] 31)).heap[W.heap.size]? = some (.cells #[.int .i64 x.f0, .int .i64 x.f1, .string x.f2, .slice A x.f3.length c] 31 (0, 0)) := heap_new W _
  have hJ1 := HY.out.al _ _ (.cells #[.int .i64 x.f0, .int .i64 x.f1, .string x.f2, .slice A x.f3.length c] 31) HJ.out
  have hk1 : KpT w0 W (W.alloc (.cells #[.int .i64 x.f0, .int .i64 x.f1, .string x.f2, .slice A x.f3.length c] 31)) := (KpT.refl w0 W).alloc (HY.out.be _ _ HJ.out).size _
  have hc3 : (W.alloc (.cells #[.int .i64 x.f0, .int .i64 x.f1, .string x.f2, .slice A x.f3.length c] 31)).cell? ⟨W.heap.size, 3, none⟩ = some (.slice A x.f3.length c) := cell_in hbox 3
  have HJ1 := Lib.hid hJ1
  have HK1 := Lib.hid hk1
  clear hJ1 hk1 hbox
  gi_wp2_with fail
  gi_loopw [6, 20] (fun s6 s20 wr => ∃ kk : Nat, kk ≤ x.f3.length ∧ s20 = .int .i64 kk ∧ Hid (J (pre ++ (x.f3.take kk).flatMap (varsN n)) wr) ∧ Hid (KpT w0 W wr)) (fun _ s20 _ => x.f3.length - (intOf s20).toNat)
  case atStart => exact ⟨0, by omega, rfl, Lib.hid (by simpa using HJ1.out), HK1⟩
  case round =>
   obtain ⟨kk, hkk, rfl, HJ2, HK2⟩ := hrel
   by_cases hlt : kk < x.f3.length
   ·have hltz : (kk : Int) < (x.f3.length : Int) := by omega
    have hbe := HY.out.be _ _ HJ2.out
    obtain ⟨ad, A3, c3, rfl, h0, h1, h2, h3, hl3, hC3⟩ := at_T31 HC.out (kk : Int) (by omega) hltz
    have hrd : rd_T31 x.f3 (kk : Int) = x.f3.getD kk z31 := rfl
    have hmem := getD_mem x.f3 kk hlt
    have htk := flat_take (varsN n) x.f3 kk hlt
    have hln := flat_len (varsN n) x.f3 kk hlt
    rw [Int.toNat_natCast] at h0 h1 h2 h3
    rw [hrd] at h0 h1 h2 h3 hl3 hC3
    replace h0 := pw_cell_below hbe h0
    replace h1 := pw_cell_below hbe h1
    replace h2 := pw_cell_below hbe h2
    replace h3 := pw_cell_below hbe h3
    generalize x.f3.getD kk z31 = y at h0 h1 h2 h3 hl3 hC3 hmem htk hln
    have HTK := Lib.hid htk
    have hcall := IH.out (m - 1) y A3 c3 (pre ++ (x.f3.take kk).flatMap (varsN n)) (wr.alloc (.cells #[.int .i64 y.f0, .int .i64 y.f1, .string y.f2, .slice A3 y.f3.length c3] 31)) (dep_succ HD.out y hmem) hl3 hC3 (HY.out.al _ _ _ HJ2.out) (by rw [List.length_append]; have := HN.out; omega) (fun v hv => HWF.out v (List.mem_append_right _ (List.mem_flatMap.2 ⟨y, hmem, hv⟩)))
    have HK3 := Lib.hid (HK2.out.alloc hbe.size (.cells #[.int .i64 y.f0, .int .i64 y.f1, .string y.f2, .slice A3 y.f3.length c3] 31))
    have HCL := Lib.hid hcall
    clear hcall hbe hC3 hmem htk hln hrd
    gi_wp2_with fail
    refine ⟨trivial, fun h => by simp [Fence.wide] at h, HCL.out.mono ?_⟩
    rintro e W3 (⟨rfl, hJ3, hk3⟩ | ⟨rfl, q, hq, hx⟩)
    ·have HJ3 := Lib.hid hJ3
     have HK4 := Lib.hid (HK3.out.trans hk3)
     clear hJ3 hk3
     gi_wp2_with fail
     go_roundw
     case rel => exact ⟨kk + 1, by omega, by go_num, Lib.hid (by rw [HTK.out, ← List.append_assoc]; exact HJ3.out), HK4⟩
     case measure => simp [intOf]; omega
    ·have HX := Lib.hid hx
     have HQ := Lib.hid hq
     clear hx hq
     gi_wp2_with fail
     go_ret
     refine .inr ⟨rfl, (x.f3.take kk).flatMap (varsN n) ++ q, ?_, by rw [← List.append_assoc]; exact HX.out⟩
     obtain ⟨r, hr⟩ := HQ.out
     exact flat_pre (varsN n) x.f3 kk q r (by rw [HTK.out, ← hr, List.append_assoc])
   ·have hltz : ¬ (kk : Int) < (x.f3.length : Int) := by omega
    obtain rfl : kk = x.f3.length := by omega
    gi_wp2_with fail
    go_ret
    exact .inl ⟨rfl, by have := HJ2.out; rwa [List.take_length] at this, HK2.out⟩
end Go.Proofs.YtddmdiaopaoekaaDoor.P
namespace Go.Proofs.YtddmdiaopaoekaaDoor.P
open Go.RowKit Go.Shelf Go.Proofs.YtddmdiaopaoekaaDoorW.PrintWords
set_option linter.unusedVariables false
attribute [local go_sem] Oper.semAt_some
theorem walk_all (l : Nat) (w0 : World) (N : Nat) (J Jx : List Int → World → Prop) (hY : YieldT l w0 N J Jx) : ∀ n, WalkC l w0 N J Jx n
 | 0 => fun m x A c pre W h => h.elim
 | n + 1 => walk_succ l w0 N J Jx hY n (walk_all l w0 N J Jx hY n)
theorem wide_room (k : Nat) : Fence.wide.room k := fun d h => by simp [Fence.wide] at h
theorem round_any {m m' : Nat} {P : Program} {l : Nat} {f : FuncId} {tmps : Array Value} {assign body : Code} {w : World} {R : Ending → World → Prop} (h : RoundIn Fence.wide m P l f tmps assign body w R) : RoundIn Fence.wide m' P l f tmps assign body w R :=
 ⟨h.1, fun c cs _ => h.2 c cs (wide_room _)⟩
theorem yield_any {m : Nat} (m' : Nat) {P : Program} {l : Nat} {args : Array Value} {W : World} {R : Ending → World → Prop} (h : YieldAt Fence.wide m P l args W R) : YieldAt Fence.wide m' P l args W R := by
 obtain ⟨fn, tmps, assign, body, hy, hR⟩ := h
 exact ⟨fn, tmps, assign, body, hy, round_any hR⟩
/-- An int. -/
abbrev I64 := { x : Int // (Lit.int .i64 x).wf = true }
def toI (v : Int) : I64 := if h : (Lit.int .i64 v).wf = true then ⟨v, h⟩ else ⟨0, by decide⟩
theorem toI_val {v : Int} (h : (Lit.int .i64 v).wf = true) : (toI v).1 = v := by unfold toI; rw [dif_pos h]
/-- All the variables' numbers. -/
noncomputable def varsL (x : S31) : List Int := varsN (SizeOf.sizeOf x + 1) x
set_option maxHeartbeats 4000000 in
set_option maxRecDepth 100000 in
/-- The closure that types.vars hands back: the numbers come in order. -/
theorem vars_stops (n : Nat) (w0 w : World) (x : S31) (A : Option Addr) (c Bt : Nat) (hb0 : Below w0.heap.size w0 w) (hc : x.f3.length ≤ c) (hC : k31.C w0 A x.f3.length x.f3) (hwf : ∀ v, v ∈ varsL x → (Lit.int .i64 v).wf = true)
  (hbt : w.heap[Bt]? = some (.cells #[.int .i64 x.f0, .int .i64 x.f1, .string x.f2, .slice A x.f3.length c] 31 (0, 0))) :
  SeqStopsK Fence.wide n Tryd.prog 69 #[.pointer (some ⟨Bt, 0, none⟩)] (fun x : I64 => #[Value.int .i64 x.1]) (KpT w0) (fun ys => ys = (varsL x).map toI) (fun pre => pre <+: (varsL x).map toI) (varsL x).length w := by
 intro l J Jx W hW hJ hJx hY h0
 have hlt := (Array.getElem?_eq_some_iff.1 hbt).1
 have hbt' := (hW.block Bt hlt).trans hbt
 have hy : YieldT l w0 (varsL x).length (fun pre W' => J (pre.map toI) W' ∧ Below w0.heap.size w0 W') (fun pre W' => Jx (pre.map toI) W') :=
  ⟨fun pre W' o h => ⟨hJ _ _ _ none h.1 (World.grownBy_alloc W' o none) (fun r e => by cases e), h.2.alloc h.2.size _⟩, fun pre W' h => h.2,
   fun m pre y W' hw h hl => by
    refine yield_any m ?_ (m := n - 1)
    obtain ⟨fn, tmps, assign, body, hy, hR⟩ := hY (pre.map toI) (toI y) W' h.1 (by rw [List.length_map]; exact hl)
    dsimp only at hy
    rw [toI_val hw] at hy
    exact ⟨fn, tmps, assign, body, hy, hR.mono fun e W2 hp => hp.elim (fun ⟨he, hj, hk⟩ => .inl ⟨he, ⟨by rw [List.map_append]; exact hj, h.2.trans hk.1⟩, hk⟩) (fun ⟨he, hj⟩ => .inr ⟨he, by rw [List.map_append]; exact hj⟩)⟩⟩
 have hp := walk_all l w0 (varsL x).length _ _ hy (SizeOf.sizeOf x + 1) (n - 1) x A c [] W (dep_ex _ x (Nat.le_refl _)) hc hC ⟨h0, hb0.trans (hW.mono hb0.size)⟩ (by simp [varsL]) hwf
 have c0 : W.cell? ⟨Bt, 0, none⟩ = some (.int .i64 x.f0) := cell_in hbt' 0
 have c1 : W.cell? ⟨Bt, 1, none⟩ = some (.int .i64 x.f1) := cell_in hbt' 1
 have c2 : W.cell? ⟨Bt, 2, none⟩ = some (.string x.f2) := cell_in hbt' 2
 have c3 : W.cell? ⟨Bt, 3, none⟩ = some (.slice A x.f3.length c) := cell_in hbt' 3
 have HP := Lib.hid hp
 clear hp hy hY h0 hbt hbt' hC hJ hJx
 refine callsIn_of_wp Tryd.func69 rfl trivial ?_ rfl
 simp only [Tryd.ntmps69, List.size_toArray, List.length_cons, List.length_nil, Nat.reduceAdd, Nat.reduceSub, Array.replicate_succ, Array.replicate_zero, List.push_toArray, List.append_toArray, List.nil_append, List.cons_append]
 gi_wp2_with fail
 refine ⟨trivial, fun h => by simp [Fence.wide] at h, HP.out.mono ?_⟩
 rintro e W1 (⟨rfl, hJ1, hk1⟩ | ⟨rfl, q, hq, hx⟩)
 ·have HJ1 := Lib.hid hJ1
  clear hJ1 hk1
  gi_wp2_with fail
  go_end0
  exact ⟨⟨_, rfl⟩, .inl ⟨_, rfl, by simpa [varsL] using HJ1.out.1⟩⟩
 ·have HX := Lib.hid hx
  have HQ := Lib.hid hq
  clear hx hq
  gi_wp2_with fail
  go_end0
  exact ⟨⟨_, rfl⟩, .inr ⟨q.map toI, HQ.out.map toI, by simpa using HX.out⟩⟩
/-- types.vars: the type is boxed; the function value captures the box. -/
theorem vars_calls (x : S31) (A : Option Addr) (c : Nat) (w : World) :
  Calls Tryd.prog 42 #[.agg #[.int .i64 x.f0, .int .i64 x.f1, .string x.f2, .slice A x.f3.length c]] w fun e w' => e = .returned (.func (.func 69) #[] #[.pointer (some ⟨w.heap.size, 0, none⟩)]) ∧ w' = w.alloc (.cells #[.int .i64 x.f0, .int .i64 x.f1, .string x.f2, .slice A x.f3.length c] 31) := by
 go_enter Tryd.func42, Tryd.ntmps42
 go_wp2
 go_ret
 exact ⟨rfl, rfl⟩
theorem kpT_b {w0 w : World} (hw : w0.heap.size ≤ w.heap.size) : ∀ (W : World) (l : Nat) (o o' : Obj), w.heap.size ≤ l → W.heap[l]? = some o → o.isCells = false → o.isWalk = false → KpT w0 W (W.putObj l o') := by
 intro W l o o' hl ho hc hk
 refine ⟨belowK_b hw W l o o' hl ho hc hk, fun k cs hk => ?_⟩
 have hne : k ≠ l := by
  rintro rfl
  rw [ho] at hk
  obtain rfl := Option.some.inj hk
  simp [Obj.isCells] at hc
 exact (World.putObj_heap_other (fun e => hne e)).trans hk
end Go.Proofs.YtddmdiaopaoekaaDoor.P
namespace Go.Proofs.YtddmdiaopaoekaaDoor.P
open Go.RowKit Go.Shelf Go.Proofs.YtddmdiaopaoekaaDoorW.PrintWords
set_option linter.unusedVariables false
attribute [local go_sem] Oper.semAt_some
theorem cell_box1 {W : World} {B : Nat} {v : Value} {t : TypeId} (h : W.heap[B]? = some (.cells #[v] t (0, 0))) : W.cell? ⟨B, 0, none⟩ = some v ∧ W.frozen? ⟨B, 0, none⟩ = false := by
 constructor <;> simp [World.cell?, World.frozen?, h]
theorem cell_allocN {W : World} {a : Addr} {v : Value} (o : Obj) (h : W.cell? a = some v) : (W.alloc o).cell? a = some v := cell_kept h (World.grownBy_alloc W o none) (fun r e => by cases e)
theorem frozen_allocN {W : World} {a : Addr} {v : Value} (o : Obj) (h : W.cell? a = some v) (hf : W.frozen? a = false) : (W.alloc o).frozen? a = false := (frozen_kept h (World.grownBy_alloc W o none) (fun r e => by cases e)).trans hf
/-- Are a scheme's variables its own? -/
noncomputable def closedB (V : Int) (x : S31) : Bool := (varsL x).all fun v => decide (v < V)
def AllLt (V : Int) (pre : List I64) : Prop := ∀ y ∈ pre, y.1 < V
def SomeGe (V : Int) (pre : List I64) : Prop := ∃ y ∈ pre, ¬ y.1 < V
theorem allLt_snoc {V : Int} {pre : List I64} {y : I64} (h : AllLt V pre) (k : y.1 < V) : AllLt V (pre ++ [y]) := fun z hz => (List.mem_append.1 hz).elim (h z) (fun e => by rw [List.mem_singleton] at e; rw [e]; exact k)
theorem someGe_snoc {V : Int} {pre : List I64} {y : I64} (k : ¬ y.1 < V) : SomeGe V (pre ++ [y]) := ⟨y, List.mem_append.2 (.inr List.mem_cons_self), k⟩
theorem toI_all (x : S31) (hwf : ∀ v, v ∈ varsL x → (Lit.int .i64 v).wf = true) (q : Int → Prop) (h : ∀ y ∈ (varsL x).map toI, q y.1) : ∀ v ∈ varsL x, q v := fun v hv => by
 have := h (toI v) (List.mem_map_of_mem hv)
 rwa [toI_val (hwf v hv)] at this
theorem closed_true (V : Int) (x : S31) (hwf : ∀ v, v ∈ varsL x → (Lit.int .i64 v).wf = true) (h : AllLt V ((varsL x).map toI)) : closedB V x = true := by
 unfold closedB
 rw [List.all_eq_true]
 exact fun v hv => zU (toI_all x hwf (· < V) h v hv)
theorem closed_false (V : Int) (x : S31) (hwf : ∀ v, v ∈ varsL x → (Lit.int .i64 v).wf = true) (pre : List I64) (hp : pre <+: (varsL x).map toI) (h : SomeGe V pre) : closedB V x = false := by
 obtain ⟨y, hy, hn⟩ := h
 obtain ⟨v, hv, rfl⟩ := List.mem_map.1 (hp.subset hy)
 rw [toI_val (hwf v hv)] at hn
 unfold closedB
 rw [List.all_eq_false]
 exact ⟨v, hv, by simpa using hn⟩
set_option maxHeartbeats 4000000 in
set_option maxRecDepth 100000 in
theorem closed_calls (V : Int) (x : S31) (A : Option Addr) (c : Nat) (w : World) (hc : x.f3.length ≤ c) (hC : k31.C w A x.f3.length x.f3) (hwf : ∀ v, v ∈ varsL x → (Lit.int .i64 v).wf = true) :
  Calls Tryd.prog 48 #[.agg #[.int .i64 V, .int .i64 x.f0, .int .i64 x.f1, .string x.f2, .slice A x.f3.length c]] w fun e w' => e = .returned (.bool (closedB V x)) ∧ Below w.heap.size w w' := by
 refine (callsIn_wide (n := 9)).1 ?_
 refine callsIn_of_wp_marks Tryd.func48 rfl trivial ?_ rfl
 simp only [Tryd.ntmps48, List.size_toArray, List.length_cons, List.length_nil, Nat.reduceAdd, Nat.reduceSub, Array.replicate_succ, Array.replicate_zero, List.push_toArray, List.append_toArray, List.nil_append, List.cons_append]
 have HC := Lib.hid hC
 have HWF := Lib.hid hwf
 clear hC hwf
 gi_wp2_with fail
 refine ⟨trivial, (callsIn_wide.2 (vars_calls x A c _)).mono ?_⟩
 rintro e w' ⟨rfl, rfl⟩
 have hb0 := heap_new w (.cells #[.int .i64 V, .int .i64 x.f0, .int .i64 x.f1, .string x.f2, .slice A x.f3.length c] 39)
 have hb1 := heap_new (w.alloc (.cells #[.int .i64 V, .int .i64 x.f0, .int .i64 x.f1, .string x.f2, .slice A x.f3.length c] 39)) (.cells #[.bool false] 4)
 have hb2 := heap_new ((w.alloc (.cells #[.int .i64 V, .int .i64 x.f0, .int .i64 x.f1, .string x.f2, .slice A x.f3.length c] 39)).alloc (.cells #[.bool false] 4)) (.cells #[.int .i64 x.f0, .int .i64 x.f1, .string x.f2, .slice A x.f3.length c] 31)
 have hB0 : Below w.heap.size w (((w.alloc (.cells #[.int .i64 V, .int .i64 x.f0, .int .i64 x.f1, .string x.f2, .slice A x.f3.length c] 39)).alloc (.cells #[.bool false] 4)).alloc (.cells #[.int .i64 x.f0, .int .i64 x.f1, .string x.f2, .slice A x.f3.length c] 31)) := (((Below.refl _ w).alloc (Nat.le_refl _) _).alloc (by simp) _).alloc (by simp; omega) _
 simp only [World.size_alloc] at hb1 hb2
 have c0 : (w.alloc (.cells #[.int .i64 V, .int .i64 x.f0, .int .i64 x.f1, .string x.f2, .slice A x.f3.length c] 39)).cell? ⟨w.heap.size, 0, none⟩ = some (.int .i64 V) := cell_in hb0 0
 have c1 := cell_box1 hb1
 have HB2 := Lib.hid hb2
 clear hb0 hb1 hb2
 gi_wp2_with fail
 refine wpIn_rangeFunc_ownF rfl (by omega) (gf := 69) (lb := #[.pointer (some ⟨w.heap.size + 1 + 1, 0, none⟩)]) rfl trivial (enters_of Tryd.func69 (by kernel_rfl) rfl)
  (vars_stops _ w _ x A c (w.heap.size + 1 + 1) hB0 hc HC.out HWF.out HB2.out) KpT.trans (kpT_b (by simp; omega)) (Below.refl _ _) (fun _ => rfl)
  (fun pre W => (AllLt V pre ∧ W.cell? ⟨w.heap.size, 0, none⟩ = some (.int .i64 V) ∧ W.cell? ⟨w.heap.size + 1, 0, none⟩ = some (.bool false) ∧ W.frozen? ⟨w.heap.size + 1, 0, none⟩ = false) ∧ Below w.heap.size w W)
  (fun c pre W => (c = .ret ∧ SomeGe V pre ∧ W.cell? ⟨w.heap.size + 1, 0, none⟩ = some (.bool false)) ∧ Below w.heap.size w W)
  (OwnFrom.and (Own.from (fun s A B row hs hg hr => ⟨hs.1, cell_kept hs.2.1 hg hr, cell_kept hs.2.2.1 hg hr, (frozen_kept hs.2.2.1 hg hr).trans hs.2.2.2⟩) _) (ownFrom_below (Nat.le_refl _) (by simp; omega)))
  (fun c => OwnFrom.and (Own.from (fun s A B row hs hg hr => ⟨hs.1, hs.2.1, cell_kept hs.2.2 hg hr⟩) _) (ownFrom_below (Nat.le_refl _) (by simp; omega)))
  ⟨⟨(fun y hy => by cases hy), cell_allocN _ (cell_allocN _ c0), cell_allocN _ c1.1, frozen_allocN _ c1.1 c1.2⟩, hB0⟩
  (fun y => { tmps := #[.agg #[.int .i64 V, .int .i64 x.f0, .int .i64 x.f1, .string x.f2, .slice A x.f3.length c], .pointer (some ⟨w.heap.size, 0, none⟩), .pointer (some ⟨w.heap.size + 1, 0, none⟩), .int .i64 y.1, .pointer (some ⟨w.heap.size, 1, none⟩), .agg #[.int .i64 x.f0, .int .i64 x.f1, .string x.f2, .slice A x.f3.length c], .func (.func 69) #[] #[.pointer (some ⟨w.heap.size + 1 + 1, 0, none⟩)], .int .i64 y.1, undef, undef, undef, undef], defers := [] }) ?assign ?body ?done ?stop
 case assign =>
  intro l y W K hK
  gi_wp2
  exact hK
 case body =>
  rintro l pre y W ⟨⟨hp, hcw, hcr, hfr⟩, hB⟩ _
  by_cases hlt : y.1 < V
  ·gi_wp2
   exact ⟨KeepsOthers.refl _, KpT.refl _ _, ⟨allLt_snoc hp hlt, hcw, hcr, hfr⟩, hB⟩
  ·gi_wp2
   exact ⟨KeepsOthers.setCell _ _ _, ⟨rfl, someGe_snoc (by omega), World.cell?_setCell_same' _ _ _ (by rw [hcr]; rfl)⟩, hB.setCell (p := ⟨w.heap.size + 1, 0, none⟩) (by simp) _⟩
 case done =>
  rintro D ys W hD rfl ⟨⟨hall, _, hcr, hfr⟩, hB⟩ hK
  gi_wp2
  have hK' := (KeepsOthers.setCell W ⟨w.heap.size + 1, 0, none⟩ (.bool true)).same D _ hK rfl
  refine ⟨by simp, .inl ⟨_, _, rfl, run_takeDeferred hK', ?_⟩⟩
  have hc5 := cell_kept (World.cell?_setCell_same' W ⟨w.heap.size + 1, 0, none⟩ (.bool true) (by rw [hcr]; rfl)) (grownBy_putObj' _ D (.deferred none)) (fun r e => by cases e; exact ⟨_, hK', rfl⟩)
  refine ⟨.bool true, ?_, by rw [closed_true V x HWF.out hall], (hB.setCell (p := ⟨w.heap.size + 1, 0, none⟩) (by simp) _).trans (belowK_b (w := w) (Nat.le_refl _) _ D _ _ (by simp at hD; omega) hK' rfl rfl)⟩
  simp [results, Tryd.f48, go_sem, hc5]
 case stop =>
  rintro D c pre W hD hpre ⟨⟨rfl, hin, hcr⟩, hB⟩ hK
  gi_wp2
  refine ⟨by simp, .inl ⟨_, _, rfl, run_takeDeferred hK, ?_⟩⟩
  have hc5 := cell_kept hcr (grownBy_putObj' _ D (.deferred none)) (fun r e => by cases e; exact ⟨_, hK, rfl⟩)
  refine ⟨.bool false, ?_, by rw [closed_false V x HWF.out pre hpre hin], hB.trans (belowK_b (w := w) (Nat.le_refl _) W D _ _ (by simp at hD; omega) hK rfl rfl)⟩
  simp [results, Tryd.f48, go_sem, hc5]
end Go.Proofs.YtddmdiaopaoekaaDoor.P
