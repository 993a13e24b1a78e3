import Derived.Test.YtddmdiaopaoekaaDoorTyU
import Derived.Deep.DeepCutAuto
import Derived.Deep.RegionWith
import Derived.Test.YtddmdiaopaoekaaDoorSq
namespace Go.Proofs.YtddmdiaopaoekaaDoor.P
open Go.RowKit Go.Shelf Go.Proofs.YtddmdiaopaoekaaDoorW.PrintWords Go.Proofs.YtddmdiaopaoekaaDoorW.PrintLast Go.Proofs.YtddmdiaopaoekaaDoor.Rw
set_option linter.unusedVariables false
set_option linter.unusedSimpArgs false
theorem TabOK.below {w w' : World} (h : TabOK w) (hk : Below w.heap.size w w') : TabOK w' := by
 unfold TabOK Lib.TabIs World.var? at *
 have hg : Tryd.prog.globalNamed "internal/strconv.uint64pow10" = some 0 := by kernel_rfl
 rw [hg] at h ⊢
 simp only [Option.bind_some] at h ⊢
 have hl : 0 < w.heap.size := by
  rcases Nat.lt_or_ge 0 w.heap.size with h' | h'
  ·exact h'
  ·rw [Array.getElem?_eq_none h'] at h; cases h
 rw [hk.block 0 hl]
 exact h
def listB (x : S31) : Bool := (x.f2.toList == [91, 93]) && (x.f3.length == 1)
/-- Without brackets? -/
def bare (x : S31) (at_ : Bool) : Bool := !at_ || ((x.f0 == 1) || ((x.f0 == 2) && ((x.f3.length == 0) || listB x)))
def opS (c : Bool) : ByteArray := if c then ⟨#[]⟩ else ⟨#[40]⟩
def shS (c : Bool) : ByteArray := if c then ⟨#[]⟩ else ⟨#[41]⟩
def showL : Nat → S31 → Bool → List UInt8
 | 0, _, _ => []
 | n + 1, x, at_ => (opS (bare x at_)).data.toList ++
  (if x.f0 = 1 then letterL x.f1
   else if x.f0 = 3 then showL n (x.f3.getD 0 z31) ((x.f3.getD 0 z31).f0 == 3) ++ [32, 45, 62, 32] ++ showL n (x.f3.getD 1 z31) false
   else if listB x = true then [91] ++ showL n (x.f3.getD 0 z31) false ++ [93]
   else x.f2.data.toList ++ x.f3.flatMap (fun a => 32 :: showL n a true)) ++ (shS (bare x at_)).data.toList
/-- The builder's bytes. -/
def Bs (b : Nat) (l : List UInt8) (W : World) : Prop := Lib.IsBuilder 98 5 b b (Lib.byteCells l) W
theorem Bs.lt {b : Nat} {l : List UInt8} {W : World} (h : Bs b l W) : b < W.heap.size := h.elim (fun k => k.lt) (fun k => k.lt)
theorem Bs.below {b : Nat} {l : List UInt8} {W W' : World} (h : Bs b l W) (hB : Below W.heap.size W W') : Bs b l W' :=
 h.elim (fun k => .inl (Bld.at_kept k (fun j hj => hB.block j hj))) (fun k => .inr (Bld.at_kept k (fun j hj => hB.block j hj)))
theorem fits_fun {x : S31} (h : fitsB x = true) (h0 : x.f0 = 3) : x.f3.length = 2 := by
 have h' : types_Type_fits.f x.f0 x.f1 x.f2 x.f3 = some true := by rw [fits_some, h]
 unfold types_Type_fits.f at h'
 rw [if_neg (by omega), if_neg (by omega), if_pos h0] at h'
 split at h'
 ·split at h'
  ·have := Option.some.inj h'
   have h2 : (x.f3.length : Int) = 2 := by simpa using this
   omega
  ·cases h'
 ·cases h'
theorem fl_take (f : S31 → List UInt8) (xs : List S31) (kk : Nat) (h : kk < xs.length) : (xs.take (kk + 1)).flatMap f = (xs.take kk).flatMap f ++ f (xs.getD kk z31) := by
 rw [List.take_succ_eq_append_getElem h, List.flatMap_append, List.getD_eq_getElem?_getD, List.getElem?_eq_getElem h, Option.getD_some]
 simp
theorem fl_len (f : S31 → List UInt8) (xs : List S31) (kk : Nat) : ((xs.take kk).flatMap f).length ≤ (xs.flatMap f).length := by
 have : xs.flatMap f = (xs.take kk).flatMap f ++ (xs.drop kk).flatMap f := by rw [← List.flatMap_append, List.take_append_drop]
 rw [this, List.length_append]
 omega
structure Sw (b : Nat) (l : List UInt8) (W W' : World) : Prop where
 bs : Bs b l W'
 be : Below b W W'
 ot : Bld.Others b W W'
/-- The call's state: the bytes; its box; what lay there ahead. -/
structure St (w0 : World) (b : Nat) (x : S31) (A : Option Addr) (c : Nat) (W : World) (l : List UInt8) (Wk : World) : Prop where
 sw : Sw b l W Wk
 bx : Wk.heap[W.heap.size]? = some (.cells #[.int .i64 x.f0, .int .i64 x.f1, .string x.f2, .slice A x.f3.length c] 31 (0, 0))
 b0 : Below w0.heap.size w0 Wk
theorem St.step {w0 : World} {b : Nat} {x : S31} {A : Option Addr} {c : Nat} {W : World} {l l' : List UInt8} {Wk Wn : World} (h : St w0 b x A c W l Wk) (hb : b < W.heap.size) (h0 : w0.heap.size ≤ b) (hs : Sw b l' Wk Wn) : St w0 b x A c W l' Wn :=
 ⟨⟨hs.bs, h.sw.be.trans hs.be, h.sw.ot.trans hs.ot⟩, hs.ot _ _ h.bx (by omega) (fun cs e => by cases e), h.b0.trans (hs.be.mono h0)⟩
theorem St.eq {w0 : World} {b : Nat} {x : S31} {A : Option Addr} {c : Nat} {W : World} {l l' : List UInt8} {Wk : World} (h : St w0 b x A c W l Wk) (e : l = l') : St w0 b x A c W l' Wk := e ▸ h
theorem St.below {w0 : World} {b : Nat} {x : S31} {A : Option Addr} {c : Nat} {W : World} {l : List UInt8} {Wk Wn : World} (h : St w0 b x A c W l Wk) (hB : Below Wk.heap.size Wk Wn) : St w0 b x A c W l Wn :=
 ⟨⟨h.sw.bs.below hB, h.sw.be.trans (hB.mono (Nat.le_of_lt h.sw.bs.lt)), h.sw.ot.trans (fun k o hk _ _ => (hB.block k (Array.getElem?_eq_some_iff.1 hk).1).trans hk)⟩, (hB.block _ (Array.getElem?_eq_some_iff.1 h.bx).1).trans h.bx, bel2 h.b0 hB⟩
theorem list_calls (x : S31) (A : Option Addr) (c : Nat) (w : World) (hc : x.f3.length ≤ c) (hC : k31.C w A x.f3.length x.f3) : Calls Tryd.prog 77 #[.agg #[.int .i64 x.f0, .int .i64 x.f1, .string x.f2, .slice A x.f3.length c]] w fun e w' => e = .returned (.bool (listB x)) ∧ Below w.heap.size w w' := by
 refine types_Type_list.calls x.f0 x.f1 x.f2 A c x.f3 (listB x) w hC hc ?_
 unfold types_Type_list.f listB
 by_cases h : x.f2.toList = [91, 93]
 ·rw [if_pos h, h]
  by_cases h2 : x.f3.length = 1
  ·simp [h2]
  ·have h3 : ((x.f3.length : Int) == 1) = false := beq_eq_false_iff_ne.2 (by omega)
   have h4 : (x.f3.length == 1) = false := beq_eq_false_iff_ne.2 h2
   rw [h3, h4]; rfl
 ·rw [if_neg h]
  simp [h]
theorem writeL (b : Nat) (l : List UInt8) (s : ByteArray) (W : World) (h : Bs b l W) (hlen : l.length + s.data.toList.length ≤ 1000000000) :
  Calls Tryd.prog 78 #[.pointer (some ⟨b, 0, none⟩), .string s] W fun e W' => e = .returned (.tuple #[.int .i64 s.size, .nilIface]) ∧ Sw b (l ++ s.data.toList) W W' := by
 have hsz : s.size = s.data.toList.length := by rw [Array.length_toList]; rfl
 refine (Bld.writeString b b _ s W h (by simp [Lib.byteCells]; omega) (Nat.le_of_lt h.lt)).mono ?_
 rintro e W' ⟨he, h1, h2, h3⟩
 refine ⟨he, .inr ?_, h2, h3⟩
 have : Lib.byteCells (l ++ s.data.toList) = Lib.byteCells l ++ Lib.strCells s := by simp [Lib.byteCells, Lib.strCells]
 rw [this]
 exact h1
theorem writeK (b : Nat) (l : List UInt8) (s : ByteArray) (n : Nat) (W : World) (h : Bs b l W) (hs : s.data.toList.length = n) (hlen : l.length + n ≤ 1000000000) :
  Calls Tryd.prog 78 #[.pointer (some ⟨b, 0, none⟩), .string s] W fun e W' => e = .returned (.tuple #[.int .i64 s.size, .nilIface]) ∧ Sw b (l ++ s.data.toList) W W' := writeL b l s W h (by omega)
def ShowC (w0 : World) (b : Nat) (n : Nat) : Prop :=
 ∀ (x : S31) (A : Option Addr) (c : Nat) (at_ : Bool) (l : List UInt8) (W : World), rightB n x = true → eachV (fun v => v.f1 ≤ 9223372036854775807) n x → x.f3.length ≤ c → k31.C w0 A x.f3.length x.f3 → Below w0.heap.size w0 W → w0.heap.size ≤ b → TabOK w0 →
  Bs b l W → l.length + (showL n x at_).length ≤ 1000000000 →
  Calls Tryd.prog 60 #[.agg #[.int .i64 x.f0, .int .i64 x.f1, .string x.f2, .slice A x.f3.length c], .pointer (some ⟨b, 0, none⟩), .bool at_] W fun e W' => e = .returned (.tuple #[]) ∧ Sw b (l ++ showL n x at_) W W'
set_option maxHeartbeats 8000000 in
set_option maxRecDepth 100000 in
theorem show_succ (w0 : World) (b n : Nat) (ih : ShowC w0 b n) : ShowC w0 b (n + 1) := by
 intro x A c at_ l W hR hV hc hC hB hb0 hT hS hlen
 have hbW : b < W.heap.size := hS.lt
 have hsh : showL (n + 1) x at_ = (opS (bare x at_)).data.toList ++
  (if x.f0 = 1 then letterL x.f1
   else if x.f0 = 3 then showL n (x.f3.getD 0 z31) ((x.f3.getD 0 z31).f0 == 3) ++ [32, 45, 62, 32] ++ showL n (x.f3.getD 1 z31) false
   else if listB x = true then [91] ++ showL n (x.f3.getD 0 z31) false ++ [93]
   else x.f2.data.toList ++ x.f3.flatMap (fun a => 32 :: showL n a true)) ++ (shS (bare x at_)).data.toList := rfl
 generalize showL (n + 1) x at_ = SH at hsh hlen ⊢
 have HSH := Lib.hid hsh
 have HC := Lib.hid hC
 have IH := Lib.hid ih
 have HR := Lib.hid hR
 have HV := Lib.hid hV
 have HB := Lib.hid hB
 have HT := Lib.hid hT
 have HS := Lib.hid hS
 have HLEN := Lib.hid hlen
 clear hC ih hR hV hB hT hS hlen hsh
 go_enter Tryd.func60, Tryd.ntmps60
 go_upto_region 2 with (fail)
 have hbx := heap_new W (.cells #[.int .i64 x.f0, .int .i64 x.f1, .string x.f2, .slice A x.f3.length c] 31)
 have hal : Below W.heap.size W (W.alloc (.cells #[.int .i64 x.f0, .int .i64 x.f1, .string x.f2, .slice A x.f3.length c] 31)) := (Below.refl _ _).alloc (Nat.le_refl _) _
 have hS1 : St w0 b x A c W l (W.alloc (.cells #[.int .i64 x.f0, .int .i64 x.f1, .string x.f2, .slice A x.f3.length c] 31)) :=
  ⟨⟨HS.out.below hal, hal.mono (Nat.le_of_lt hbW), fun k o hk _ _ => (hal.block k (Array.getElem?_eq_some_iff.1 hk).1).trans hk⟩, hbx, HB.out.trans (hal.mono HB.out.size)⟩
 generalize W.alloc (.cells #[.int .i64 x.f0, .int .i64 x.f1, .string x.f2, .slice A x.f3.length c] 31) = Wb at hS1 ⊢
 have HS1 := Lib.hid hS1
 clear hbx hal hS1 HS HB
 go_cut [31] (fun s31 wx => s31 = .bool (bare x at_) ∧ Hid (Below Wb.heap.size Wb wx))
 case first =>
  have x0 := cell_in HS1.out.bx 0
  have x1 := cell_in HS1.out.bx 1
  have x2 := cell_in HS1.out.bx 2
  have x3 := cell_in HS1.out.bx 3
  cases at_ with
  | false =>
   have hb : bare x false = true := rfl
   have HBA := Lib.hid hb
   clear hb
   go_wp2_with fail
   go_meet
   exact ⟨by rw [HBA.out], Lib.hid (Below.refl _ _)⟩
  | true =>
   by_cases e1 : x.f0 = 1
   ·have b1 : (x.f0 == 1) = true := beq_iff_eq.2 e1
    have HBA : Hid (bare x true = true) := Lib.hid (by unfold bare; rw [b1]; rfl)
    clear e1
    go_wp2_with fail
    go_meet
    exact ⟨by rw [HBA.out], Lib.hid (Below.refl _ _)⟩
   ·have b1 : (x.f0 == 1) = false := beq_eq_false_iff_ne.2 e1
    by_cases e2 : x.f0 = 2
    ·have b2 : (x.f0 == 2) = true := beq_iff_eq.2 e2
     by_cases e3 : x.f3.length = 0
     ·have b3 : ((x.f3.length : Int) == 0) = true := beq_iff_eq.2 (by omega)
      have HBA : Hid (bare x true = true) := Lib.hid (by unfold bare; rw [b1, b2, e3]; rfl)
      clear e1 e2 e3
      go_wp2_with fail
      go_meet
      exact ⟨by rw [HBA.out], Lib.hid (Below.refl _ _)⟩
     ·have b3 : ((x.f3.length : Int) == 0) = false := beq_eq_false_iff_ne.2 (by omega)
      have HBA : Hid (bare x true = listB x) := Lib.hid (by unfold bare; rw [b1, b2, beq_eq_false_iff_ne.2 e3]; simp)
      clear e1 e2 e3
      go_wp2_with fail
      refine (list_calls x A c Wb hc (c_below HC.out HS1.out.b0)).mono ?_
      rintro e w2 ⟨rfl, hb2⟩
      have HB2 := Lib.hid hb2
      clear hb2
      go_wp2_with fail
      go_meet
      exact ⟨by rw [HBA.out], HB2⟩
    ·have b2 : (x.f0 == 2) = false := beq_eq_false_iff_ne.2 e2
     have HBA : Hid (bare x true = false) := Lib.hid (by unfold bare; rw [b1, b2]; rfl)
     clear e1 e2
     go_wp2_with fail
     go_meet
     exact ⟨by rw [HBA.out], Lib.hid (Below.refl _ _)⟩
 case rest =>
  obtain ⟨rfl, HW⟩ := hcut
  have HS2 := Lib.hid (HS1.out.below HW.out)
  clear HW HS1
  generalize hcd : bare x at_ = cd
  have HCD := Lib.hid hcd
  clear hcd
  go_upto_if 31 with (fail)
  go_cut [6, 7] (fun s6 s7 wx => s6 = .string (opS cd) ∧ s7 = .string (shS cd) ∧ wx = wc)
  case first =>
   cases cd with
   | true =>
    go_wp2_with fail
    go_meet
    exact ⟨rfl, rfl, rfl⟩
   | false =>
    go_wp2_with fail
    go_meet
    exact ⟨rfl, rfl, rfl⟩
  case rest =>
   obtain ⟨rfl, rfl, rfl⟩ := hcut
   have hop : (opS cd).data.toList.length ≤ 1 := by unfold opS; split <;> simp
   have hlen : (opS cd).data.toList.length + ((if x.f0 = 1 then letterL x.f1
   else if x.f0 = 3 then showL n (x.f3.getD 0 z31) ((x.f3.getD 0 z31).f0 == 3) ++ [32, 45, 62, 32] ++ showL n (x.f3.getD 1 z31) false
   else if listB x = true then [91] ++ showL n (x.f3.getD 0 z31) false ++ [93]
   else x.f2.data.toList ++ x.f3.flatMap (fun a => 32 :: showL n a true)).length + (shS cd).data.toList.length) + l.length ≤ 1000000000 := by
    have := HLEN.out
    rw [HSH.out, HCD.out] at this
    simp only [List.length_append] at this ⊢
    omega
   have HL := Lib.hid hlen
   have HSE := Lib.hid (HSH.out)
   rw [HCD.out] at HSE
   clear hlen HSH HCD HLEN
   go_wp2_with fail
   refine (writeL b l (opS cd) _ HS2.out.sw.bs (by have := HL.out; omega)).mono ?_
   rintro e w3 ⟨rfl, hs3⟩
   have HS3 := Lib.hid (HS2.out.step hbW hb0 hs3)
   clear hs3 HS2 hop
   have x0 := cell_in HS3.out.bx 0
   have x1 := cell_in HS3.out.bx 1
   have x2 := cell_in HS3.out.bx 2
   have x3 := cell_in HS3.out.bx 3
   by_cases e1 : x.f0 = 1
   ·have b1 : (x.f0 == 1) = true := beq_iff_eq.2 e1
    have hw := HV.out.1 e1
    have hnn := (fits_var (rightB_part HR.out).1 e1).1
    rw [if_pos e1] at HL HSE
    clear e1
    go_wp2_with fail
    refine (letter_calls x.f1 _ hnn hw (HT.out.below HS3.out.b0)).mono ?_
    rintro e w4 ⟨rfl, hb4⟩
    have HS4 := Lib.hid (HS3.out.below hb4)
    clear hb4 x0 x1 x2 x3
    go_wp2_with fail
    refine (writeL b _ ⟨(letterL x.f1).toArray⟩ _ HS4.out.sw.bs (by have := HL.out; simp only [List.length_append]; omega)).mono ?_
    rintro e w5 ⟨rfl, hs5⟩
    have HS5 := Lib.hid (HS4.out.step hbW hb0 hs5)
    clear hs5
    go_wp2_with fail
    refine (writeL b _ (shS cd) _ HS5.out.sw.bs (by have := HL.out; simp only [List.length_append]; omega)).mono ?_
    rintro e w6 ⟨rfl, hs6⟩
    have HS6 := Lib.hid (HS5.out.step hbW hb0 hs6)
    clear hs6
    go_wp2_with fail
    go_end0
    exact ⟨rfl, by rw [HSE.out]; simpa [List.append_assoc] using HS6.out.sw⟩
   ·have b1 : (x.f0 == 1) = false := beq_eq_false_iff_ne.2 e1
    rw [if_neg e1] at HL HSE
    by_cases e2 : x.f0 = 3
    ·have b2 : (x.f0 == 3) = true := beq_iff_eq.2 e2
     have hlen2 : x.f3.length = 2 := fits_fun (rightB_part HR.out).1 e2
     have hn0 : 0 < x.f3.length := by omega
     have hn1 : 1 < x.f3.length := by omega
     have hz0 : (0 : Int) < (x.f3.length : Int) := by omega
     have hz1 : (1 : Int) < (x.f3.length : Int) := by omega
     clear hlen2
     rw [if_pos e2] at HL HSE
     clear e1 e2
     obtain ⟨ad, A3, c3, rfl, i0, i1, i2, i3, hl3, hC3⟩ := at_T31 HC.out (0 : Int) (by omega) (by omega)
     obtain ⟨ad', A4, c4, had, j0, j1, j2, j3, hl4, hC4⟩ := at_T31 HC.out (1 : Int) (by omega) (by omega)
     obtain rfl : ad = ad' := Option.some.inj had
     have hrd0 : rd_T31 x.f3 (0 : Int) = x.f3.getD 0 z31 := rfl
     have hrd1 : rd_T31 x.f3 (1 : Int) = x.f3.getD 1 z31 := rfl
     rw [hrd0] at i0 i1 i2 i3 hl3 hC3
     rw [hrd1] at j0 j1 j2 j3 hl4 hC4
     have hm0 := getD_mem x.f3 0 (by omega)
     have hm1 := getD_mem x.f3 1 (by omega)
     generalize x.f3.getD 0 z31 = y at i0 i1 i2 i3 hl3 hC3 HL HSE hm0
     generalize x.f3.getD 1 z31 = z at j0 j1 j2 j3 hl4 hC4 HL HSE hm1
     have hvy := HV.out.2 y hm0
     have hvz := HV.out.2 z hm1
     have hry := (rightB_part HR.out).2 y hm0
     have hrz := (rightB_part HR.out).2 z hm1
     have hcall : ∀ W', St w0 b x (some ad) c W (l ++ (opS cd).data.toList) W' → Calls Tryd.prog 60 #[.agg #[.int .i64 y.f0, .int .i64 y.f1, .string y.f2, .slice A3 y.f3.length c3], .pointer (some ⟨b, 0, none⟩), .bool (y.f0 == 3)] W' fun e W2 => e = .returned (.tuple #[]) ∧ St w0 b x (some ad) c W (l ++ (opS cd).data.toList ++ showL n y (y.f0 == 3)) W2 := fun W' h' =>
      (IH.out y A3 c3 (y.f0 == 3) _ W' hry hvy hl3 hC3 h'.b0 hb0 HT.out h'.sw.bs (by have := HL.out; simp only [List.length_append] at this ⊢; omega)).mono (fun e W2 ⟨he, hs⟩ => ⟨he, h'.step hbW hb0 hs⟩)
     have hcall2 : ∀ l1 W', l1.length + (showL n z false).length ≤ 1000000000 → St w0 b x (some ad) c W l1 W' → Calls Tryd.prog 60 #[.agg #[.int .i64 z.f0, .int .i64 z.f1, .string z.f2, .slice A4 z.f3.length c4], .pointer (some ⟨b, 0, none⟩), .bool false] W' fun e W2 => e = .returned (.tuple #[]) ∧ St w0 b x (some ad) c W (l1 ++ showL n z false) W2 := fun l1 W' hl1 h' =>
      (IH.out z A4 c4 false _ W' hrz hvz hl4 hC4 h'.b0 hb0 HT.out h'.sw.bs hl1).mono (fun e W2 ⟨he, hs⟩ => ⟨he, h'.step hbW hb0 hs⟩)
     have HCL := Lib.hid hcall
     have HCL2 := Lib.hid hcall2
     have HS3d := Lib.hid (HS3.out.below ((Below.refl w3.heap.size w3).drew))
     have a0 : w3.drew.cell? ad = some (.int .i64 y.f0) := pw_cell_below HS3d.out.b0 i0
     have a1 : w3.drew.cell? ⟨ad.block, ad.off + 1, none⟩ = some (.int .i64 y.f1) := pw_cell_below HS3d.out.b0 i1
     have a2 : w3.drew.cell? ⟨ad.block, ad.off + 2, none⟩ = some (.string y.f2) := pw_cell_below HS3d.out.b0 i2
     have a3 : w3.drew.cell? ⟨ad.block, ad.off + 3, none⟩ = some (.slice A3 y.f3.length c3) := pw_cell_below HS3d.out.b0 i3
     replace x3 : w3.drew.cell? ⟨W.heap.size, 3, none⟩ = some (.slice (some ad) x.f3.length c) := cell_in HS3d.out.bx 3
     go_upto_region 15 with (fail)
     clear hcall hcall2 hC3 hC4 hm0 hm1 hvy hvz hry hrz hrd0 hrd1 had
     refine start_ (n := 12) (S := fun w' => w'.cell? ⟨W.heap.size, 3, none⟩ = some (.slice (some ad) x.f3.length c) ∧ w'.cell? ad = some (.int .i64 y.f0) ∧ w'.cell? ⟨ad.block, ad.off + 1, none⟩ = some (.int .i64 y.f1) ∧ w'.cell? ⟨ad.block, ad.off + 2, none⟩ = some (.string y.f2) ∧ w'.cell? ⟨ad.block, ad.off + 3, none⟩ = some (.slice A3 y.f3.length c3)) (ds := []) #[false, false, false, false, false, false, false, false, false, false, false, false] (by kernel_rfl) rfl rfl ⟨x3, a0, a1, a2, a3⟩ (fun hHeld => ?_)
     refine pure_ (i := 0) (N := some 65) (v := ?_) (a' := ?_) (zBM 12 1) rfl rfl (by kernel_rfl) (fun _ _ _ h => h) (Or.inl ⟨by rfl, ?_⟩) ?_ ?_
     rotate_left
     ·intro w'
      go_simp
      with_reducible rfl
     rotate_left
     ·simp only [Act.put, zO, zP, zR, i64_w, i32_w]
      rfl
     refine take_ (i := 1) (N := some 66) (v := ?_) (a' := ?_) (zBM 12 3) rfl rfl (by kernel_rfl) (fun _ _ _ h => h) (Or.inl ⟨by rfl, ?_⟩) hHeld ?_ ?_
     rotate_left
     ·rintro w' ⟨s0, s1, s2, s3, s4⟩
      go_simp
      with_reducible rfl
     rotate_left
     ·simp only [Act.put, zO, zP, zR, i64_w, i32_w]
      rfl
     refine pure_ (i := 2) (N := some 67) (v := ?_) (a' := ?_) (zBM 12 7) rfl rfl (by kernel_rfl) (fun _ _ _ h => h) (Or.inl ⟨by rfl, ?_⟩) ?_ ?_
     rotate_left
     ·intro w'
      go_simp
      with_reducible rfl
     rotate_left
     ·simp only [Act.put, zO, zP, zR, i64_w, i32_w]
      rfl
     refine take_ (i := 3) (N := some 68) (v := ?_) (a' := ?_) (zBM 12 15) rfl rfl (by kernel_rfl) (fun _ _ _ h => h) (Or.inl ⟨by rfl, ?_⟩) hHeld ?_ ?_
     rotate_left
     ·rintro w' ⟨s0, s1, s2, s3, s4⟩
      go_simp
      with_reducible rfl
     rotate_left
     ·simp only [Act.put, zO, zP, zR, i64_w, i32_w]
      rfl
     refine pure_ (i := 4) (N := some 69) (v := ?_) (a' := ?_) (zBM 12 31) rfl rfl (by kernel_rfl) (fun _ _ _ h => h) (Or.inl ⟨by rfl, ?_⟩) ?_ ?_
     rotate_left
     ·intro w'
      go_simp
      with_reducible rfl
     rotate_left
     ·simp only [Act.put, zO, zP, zR, i64_w, i32_w]
      rfl
     refine pure_ (i := 5) (N := some 70) (v := ?_) (a' := ?_) (zBM 12 63) rfl rfl (by kernel_rfl) (fun _ _ _ h => h) (Or.inl ⟨by rfl, ?_⟩) ?_ ?_
     rotate_left
     ·intro w'
      go_simp
      with_reducible rfl
     rotate_left
     ·simp only [Act.put, zO, zP, zR, i64_w, i32_w]
      rfl
     refine take_ (i := 6) (N := some 71) (v := ?_) (a' := ?_) (zBM 12 127) rfl rfl (by kernel_rfl) (fun _ _ _ h => h) (Or.inl ⟨by rfl, ?_⟩) hHeld ?_ ?_
     rotate_left
     ·rintro w' ⟨s0, s1, s2, s3, s4⟩
      go_simp
      with_reducible rfl
     rotate_left
     ·simp only [Act.put, zO, zP, zR, i64_w, i32_w]
      rfl
     refine pure_ (i := 7) (N := some 72) (v := ?_) (a' := ?_) (zBM 12 255) rfl rfl (by kernel_rfl) (fun _ _ _ h => h) (Or.inl ⟨by rfl, ?_⟩) ?_ ?_
     rotate_left
     ·intro w'
      go_simp
      with_reducible rfl
     rotate_left
     ·simp only [Act.put, zO, zP, zR, i64_w, i32_w]
      rfl
     refine pure_ (i := 8) (N := some 73) (v := ?_) (a' := ?_) (zBM 12 511) rfl rfl (by kernel_rfl) (fun _ _ _ h => h) (Or.inl ⟨by rfl, ?_⟩) ?_ ?_
     rotate_left
     ·intro w'
      go_simp
      with_reducible rfl
     rotate_left
     ·simp only [Act.put, zO, zP, zR, i64_w, i32_w]
      rfl
     refine take_ (i := 9) (N := some 74) (v := ?_) (a' := ?_) (zBM 12 1023) rfl rfl (by kernel_rfl) (fun _ _ _ h => h) (Or.inl ⟨by rfl, ?_⟩) hHeld ?_ ?_
     rotate_left
     ·rintro w' ⟨s0, s1, s2, s3, s4⟩
      go_simp
      with_reducible rfl
     rotate_left
     ·simp only [Act.put, zO, zP, zR, i64_w, i32_w]
      rfl
     refine pure_ (i := 10) (N := some 75) (v := ?_) (a' := ?_) (zBM 12 2047) rfl rfl (by kernel_rfl) (fun _ _ _ h => h) (Or.inl ⟨by rfl, ?_⟩) ?_ ?_
     rotate_left
     ·intro w'
      go_simp
      with_reducible rfl
     rotate_left
     ·simp only [Act.put, zO, zP, zR, i64_w, i32_w]
      rfl
     refine one_ (i := 11) (N := some 76) (zBM 12 4095) rfl rfl (by kernel_rfl) (by decide) (fun K hK => ?_)
     refine goes_ Tryd.func60 (by kernel_rfl) rfl #[.agg #[.int .i64 y.f0, .int .i64 y.f1, .string y.f2, .slice A3 y.f3.length c3], .pointer (some ⟨b, 0, none⟩), .bool (y.f0 == 3)] (by rfl) rfl rfl (by (try simp only [List.map_toArray, List.map_cons, List.map_nil]); first | done | rfl) ?_
     refine (HCL.out _ HS3d.out).mono ?_
     rintro e w4 ⟨rfl, hs4⟩
     refine ⟨_, rfl, ?_⟩
     have HS4 := Lib.hid hs4
     clear hs4
     have g0 := pw_cell_below HS4.out.b0 i0
     have g1 := pw_cell_below HS4.out.b0 i1
     have g2 := pw_cell_below HS4.out.b0 i2
     have g3 := pw_cell_below HS4.out.b0 i3
     refine hK.out _ _ ⟨cell_in HS4.out.bx 3, g0, g1, g2, g3⟩ (fun hHeld => ?_)
     clear hK K
     refine norm_ (a' := ?_) ?_ ?_
     rotate_left
     ·show Act.put _ (some 76) _ = _
      simp only [Act.put, zO, zP, zR, i64_w, i32_w]
      rfl
     refine done_ (by kernel_rfl) ?_
     clear hHeld x0 x1 x2 x3 a0 a1 a2 a3 g0 g1 g2 g3 HS3 HS3d
     go_wp2_with fail
     refine (writeK b _ ⟨#[32, 45, 62, 32]⟩ 4 _ HS4.out.sw.bs rfl (by have := HL.out; simp only [List.length_append, List.length_cons, List.length_nil] at this ⊢; omega)).mono ?_
     rintro e w5 ⟨rfl, hs5⟩
     have HS5 := Lib.hid (HS4.out.step hbW hb0 hs5)
     clear hs5
     have x3 := cell_in HS5.out.bx 3
     have k0 : w5.cell? ⟨ad.block, ad.off + 4, none⟩ = some (.int .i64 z.f0) := pw_cell_below HS5.out.b0 j0
     have k1 : w5.cell? ⟨ad.block, ad.off + 4 + 1, none⟩ = some (.int .i64 z.f1) := pw_cell_below HS5.out.b0 j1
     have k2 : w5.cell? ⟨ad.block, ad.off + 4 + 2, none⟩ = some (.string z.f2) := pw_cell_below HS5.out.b0 j2
     have k3 : w5.cell? ⟨ad.block, ad.off + 4 + 3, none⟩ = some (.slice A4 z.f3.length c4) := pw_cell_below HS5.out.b0 j3
     go_wp2_with fail
     refine (HCL2.out _ _ (by have := HL.out; have h4 : (⟨#[32, 45, 62, 32]⟩ : ByteArray).data.toList.length = 4 := rfl; rw [List.length_append, h4]; simp only [List.length_append, List.length_cons, List.length_nil] at this ⊢; omega) HS5.out).mono ?_
     rintro e w6 ⟨rfl, hs6⟩
     have HS6 := Lib.hid hs6
     clear hs6 x3 j0 j1 j2 j3 k0 k1 k2 k3
     go_wp2_with fail
     refine (writeL b _ (shS cd) _ HS6.out.sw.bs (by have := HL.out; have h4 : (⟨#[32, 45, 62, 32]⟩ : ByteArray).data.toList.length = 4 := rfl; rw [List.length_append, List.length_append, h4]; simp only [List.length_append, List.length_cons, List.length_nil] at this ⊢; omega)).mono ?_
     rintro e w7 ⟨rfl, hs7⟩
     have HS7 := Lib.hid (HS6.out.step hbW hb0 hs7)
     clear hs7
     go_wp2_with fail
     go_end0
     exact ⟨rfl, by rw [HSE.out]; simpa [List.append_assoc] using HS7.out.sw⟩
    ·have b2 : (x.f0 == 3) = false := beq_eq_false_iff_ne.2 e2
     rw [if_neg e2] at HL HSE
     clear e1 e2
     go_wp2_with fail
     refine (list_calls x A c w3 hc (c_below HC.out HS3.out.b0)).mono ?_
     rintro e w4 ⟨rfl, hb4⟩
     have HS4 := Lib.hid (HS3.out.below hb4)
     clear hb4 x0 x1 x2 x3 HS3
     have x2 := cell_in HS4.out.bx 2
     have x3 := cell_in HS4.out.bx 3
     cases hlb : listB x with
     | true =>
      have hl1 : x.f3.length = 1 := by
       unfold listB at hlb
       rw [Bool.and_eq_true] at hlb
       exact eq_of_beq hlb.2
      rw [if_pos hlb] at HL HSE
      have hn0 : 0 < x.f3.length := by omega
      have hz0 : (0 : Int) < (x.f3.length : Int) := by omega
      obtain ⟨ad, A3, c3, rfl, i0, i1, i2, i3, hl3, hC3⟩ := at_T31 HC.out (0 : Int) (by omega) (by omega)
      have hrd0 : rd_T31 x.f3 (0 : Int) = x.f3.getD 0 z31 := rfl
      rw [hrd0] at i0 i1 i2 i3 hl3 hC3
      have hm0 := getD_mem x.f3 0 (by omega)
      generalize x.f3.getD 0 z31 = y at i0 i1 i2 i3 hl3 hC3 HL HSE hm0
      have HC3 := Lib.hid hC3
      have HM0 := Lib.hid hm0
      clear hlb hl1 hC3 hm0 hrd0
      go_wp2_with fail
      refine (writeK b _ ⟨#[91]⟩ 1 _ HS4.out.sw.bs rfl (by have := HL.out; simp only [List.length_append, List.length_cons, List.length_nil] at this ⊢; omega)).mono ?_
      rintro e w5 ⟨rfl, hs5⟩
      have HS5 := Lib.hid (HS4.out.step hbW hb0 hs5)
      clear hs5 x2 x3
      have x3 := cell_in HS5.out.bx 3
      have a0 : w5.cell? ad = some (.int .i64 y.f0) := pw_cell_below HS5.out.b0 i0
      have a1 : w5.cell? ⟨ad.block, ad.off + 1, none⟩ = some (.int .i64 y.f1) := pw_cell_below HS5.out.b0 i1
      have a2 : w5.cell? ⟨ad.block, ad.off + 2, none⟩ = some (.string y.f2) := pw_cell_below HS5.out.b0 i2
      have a3 : w5.cell? ⟨ad.block, ad.off + 3, none⟩ = some (.slice A3 y.f3.length c3) := pw_cell_below HS5.out.b0 i3
      clear i0 i1 i2 i3
      go_wp2_with fail
      refine (IH.out y A3 c3 false _ w5 ((rightB_part HR.out).2 y HM0.out) (HV.out.2 y HM0.out) hl3 HC3.out HS5.out.b0 hb0 HT.out HS5.out.sw.bs (by have := HL.out; have h4 : (⟨#[91]⟩ : ByteArray).data.toList.length = 1 := rfl; rw [List.length_append, h4]; simp only [List.length_append, List.length_cons, List.length_nil] at this ⊢; omega)).mono ?_
      rintro e w6 ⟨rfl, hs6⟩
      have HS6 := Lib.hid (HS5.out.step hbW hb0 hs6)
      clear hs6 x3 a0 a1 a2 a3
      go_wp2_with fail
      refine (writeK b _ ⟨#[93]⟩ 1 _ HS6.out.sw.bs rfl (by have := HL.out; have h4 : (⟨#[91]⟩ : ByteArray).data.toList.length = 1 := rfl; rw [List.length_append, List.length_append, h4]; simp only [List.length_append, List.length_cons, List.length_nil] at this ⊢; omega)).mono ?_
      rintro e w7 ⟨rfl, hs7⟩
      have HS7 := Lib.hid (HS6.out.step hbW hb0 hs7)
      clear hs7
      go_wp2_with fail
      refine (writeL b _ (shS cd) _ HS7.out.sw.bs (by have := HL.out; have h4 : (⟨#[91]⟩ : ByteArray).data.toList.length = 1 := rfl; have h5 : (⟨#[93]⟩ : ByteArray).data.toList.length = 1 := rfl; rw [List.length_append, h5, List.length_append, List.length_append, h4]; simp only [List.length_append, List.length_cons, List.length_nil] at this ⊢; omega)).mono ?_
      rintro e w8 ⟨rfl, hs8⟩
      have HS8 := Lib.hid (HS7.out.step hbW hb0 hs8)
      clear hs8
      go_wp2_with fail
      go_end0
      exact ⟨rfl, by rw [HSE.out]; simpa [List.append_assoc] using HS8.out.sw⟩
     | false =>
      rw [if_neg (by rw [hlb]; simp)] at HL HSE
      have hbig := HC.out.2.1
      clear hlb
      go_wp2_with fail
      refine (writeL b _ x.f2 _ HS4.out.sw.bs (by have := HL.out; simp only [List.length_append] at this ⊢; omega)).mono ?_
      rintro e w5 ⟨rfl, hs5⟩
      have HS5 := Lib.hid (HS4.out.step hbW hb0 hs5)
      clear hs5 x2 x3 HS4
      have x3 := cell_in HS5.out.bx 3
      go_wp2_with fail
      have HSH := HSE
      generalize hf : (fun a => 32 :: showL n a true) = f at HL HSE
      have hfa : ∀ a, f a = 32 :: showL n a true := fun a => by rw [← hf]
      have HFA := Lib.hid hfa
      clear hf hfa HSH
      go_loopw [9, 42] (fun s9 s42 wr => ∃ kk : Nat, kk ≤ x.f3.length ∧ s42 = .int .i64 kk ∧ Hid (St w0 b x A c W (l ++ (opS cd).data.toList ++ x.f2.data.toList ++ (x.f3.take kk).flatMap f) wr)) (fun _ s42 _ => x.f3.length - (intOf s42).toNat)
      case atStart => exact ⟨0, by omega, rfl, Lib.hid (by simpa using HS5.out)⟩
      case round =>
       clear HS5 x3
       obtain ⟨kk, hkk, rfl, HSk⟩ := hrel
       by_cases hlt : kk < x.f3.length
       ·have hltz : (kk : Int) < (x.f3.length : Int) := by omega
        obtain ⟨ad, A3, c3, rfl, h0, h1, h2, h3, hl3, hC3⟩ := at_T31 HC.out (kk : Int) (by omega) hltz
        have hrd : rd_T31 x.f3 (kk : Int) = x.f3.getD kk z31 := rfl
        have hmem := getD_mem x.f3 kk hlt
        have htk := fl_take f x.f3 kk hlt
        have hln := fl_len f x.f3 (kk + 1)
        rw [Int.toNat_natCast] at h0 h1 h2 h3
        rw [hrd] at h0 h1 h2 h3 hl3 hC3
        replace h0 := pw_cell_below HSk.out.b0 h0
        replace h1 := pw_cell_below HSk.out.b0 h1
        replace h2 := pw_cell_below HSk.out.b0 h2
        replace h3 := pw_cell_below HSk.out.b0 h3
        generalize x.f3.getD kk z31 = y at h0 h1 h2 h3 hl3 hC3 hmem htk
        rw [htk, HFA.out y, List.length_append, List.length_cons] at hln
        rw [HFA.out y] at htk
        have HTK := Lib.hid htk
        have HLN := Lib.hid hln
        have HC3 := Lib.hid hC3
        have HM := Lib.hid hmem
        clear htk hln hC3 hmem hrd
        go_wp2_with fail
        have hal : Below wr.heap.size wr (wr.alloc (.cells #[.int .i64 y.f0, .int .i64 y.f1, .string y.f2, .slice A3 y.f3.length c3] 31)) := (Below.refl _ _).alloc (Nat.le_refl _) _
        have hbl := heap_new wr (.cells #[.int .i64 y.f0, .int .i64 y.f1, .string y.f2, .slice A3 y.f3.length c3] 31)
        have HSa := Lib.hid (HSk.out.below hal)
        have hblt := HSk.out.sw.bs.lt
        refine (writeK b _ ⟨#[32]⟩ 1 _ HSa.out.sw.bs rfl (by have hq := HL.out; have hp := HLN.out; simp only [List.length_append] at hq hp ⊢; omega)).mono ?_
        rintro e w6 ⟨rfl, hs6⟩
        have hbl6 := hs6.ot _ _ hbl (by omega) (fun cs e => by cases e)
        have HS6 := Lib.hid (HSa.out.step hbW hb0 hs6)
        clear hs6 hal hbl hblt HSa h0 h1 h2 h3
        have a0 := cell_in hbl6 0
        have a1 := cell_in hbl6 1
        have a2 := cell_in hbl6 2
        have a3 := cell_in hbl6 3
        clear hbl6
        go_wp2_with fail
        refine (IH.out y A3 c3 true _ w6 ((rightB_part HR.out).2 y HM.out) (HV.out.2 y HM.out) hl3 HC3.out HS6.out.b0 hb0 HT.out HS6.out.sw.bs (by have hq := HL.out; have hp := HLN.out; have h4 : (⟨#[32]⟩ : ByteArray).data.toList.length = 1 := rfl; rw [List.length_append, h4]; simp only [List.length_append] at hq hp ⊢; omega)).mono ?_
        rintro e w7 ⟨rfl, hs7⟩
        have HS7 := Lib.hid ((HS6.out.step hbW hb0 hs7).eq (l' := l ++ (opS cd).data.toList ++ x.f2.data.toList ++ (x.f3.take (kk + 1)).flatMap f) (by rw [HTK.out]; simp [List.append_assoc]))
        clear hs7 a0 a1 a2 a3
        go_wp2_with fail
        go_roundw
        case rel => exact ⟨kk + 1, by omega, by go_num, HS7⟩
        case measure => simp [intOf]; omega
       ·have hltz : ¬ (kk : Int) < (x.f3.length : Int) := by omega
        obtain rfl : kk = x.f3.length := by omega
        have hfin := HSk.out
        rw [List.take_length] at hfin
        have HSF := Lib.hid hfin
        clear hfin HSk
        go_wp2_with fail
        refine (writeL b _ (shS cd) _ HSF.out.sw.bs (by have := HL.out; simp only [List.length_append] at this ⊢; omega)).mono ?_
        rintro e w8 ⟨rfl, hs8⟩
        have HS8 := Lib.hid (HSF.out.step hbW hb0 hs8)
        clear hs8
        go_wp2_with fail
        go_end0
        exact ⟨rfl, by rw [HSE.out]; simpa [List.append_assoc] using HS8.out.sw⟩
theorem show_all (w0 : World) (b : Nat) : ∀ n, ShowC w0 b n
 | 0 => fun x A c at_ l W h => by cases h
 | n + 1 => show_succ w0 b n (show_all w0 b n)
end Go.Proofs.YtddmdiaopaoekaaDoor.P
