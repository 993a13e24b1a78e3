import Derived.Test.YtddmdiaopaoekaaDoorTyA
import Derived.Outline
namespace Go.Proofs.YtddmdiaopaoekaaDoor.P
open Go.RowKit Go.Proofs.YtddmdiaopaoekaaDoorW.PrintWords
set_option linter.unusedVariables false
/-- A relation of types, as a function value. -/
def PredT2 (G : Nat) (lb : Array Value) (p : S31 → S31 → Bool) (xs ys : List S31) (w : World) : Prop :=
  ∀ (W : World) (x y : S31) (cs ds : List Value), x ∈ xs → y ∈ ys → Below w.heap.size w W → k31.K W x cs → k31.K W y ds → Calls Tryd.prog G (#[.agg cs.toArray, .agg ds.toArray] ++ lb) W fun e w' => e = .returned (.bool (p x y)) ∧ Below W.heap.size W w'
/-- Are lists alike, one by one? -/
def alikeT (p : S31 → S31 → Bool) : List S31 → List S31 → Bool
  | [], [] => true
  | x :: xs, y :: ys => p x y && alikeT p xs ys
  | _, _ => false
theorem alike_len (p : S31 → S31 → Bool) : ∀ (xs ys : List S31), xs.length ≠ ys.length → alikeT p xs ys = false
  | [], [], h => absurd rfl h
  | [], _ :: _, _ => rfl
  | _ :: _, [], _ => rfl
  | x :: xs, y :: ys, h => by
    rw [alikeT, alike_len p xs ys (fun e => h (by simp [e]))]; simp
theorem alike_all (p : S31 → S31 → Bool) : ∀ (xs ys : List S31), xs.length = ys.length → (∀ j, j < xs.length → p (xs.getD j z31) (ys.getD j z31) = true) → alikeT p xs ys = true
  | [], [], _, _ => rfl
  | [], _ :: _, h, _ => by simp at h
  | _ :: _, [], h, _ => by simp at h
  | x :: xs, y :: ys, h, k => by
    rw [alikeT, alike_all p xs ys (by simpa using h) (fun j hj => by have := k (j + 1) (by simpa using hj); simpa using this)]
    have := k 0 (by simp); simpa using this
theorem alike_not (p : S31 → S31 → Bool) : ∀ (xs ys : List S31) (j : Nat), j < xs.length → p (xs.getD j z31) (ys.getD j z31) = false → xs.length = ys.length → alikeT p xs ys = false
  | [], _, j, h, _, _ => by simp at h
  | _ :: _, [], j, _, _, h => by simp at h
  | x :: xs, y :: ys, 0, _, k, _ => by have : p x y = false := by simpa using k
                                       rw [alikeT, this]; rfl
  | x :: xs, y :: ys, j + 1, h, k, l => by
    rw [alikeT, alike_not p xs ys j (by simpa using h) (by simpa using k) (by simpa using l)]; simp
set_option maxHeartbeats 4000000 in
set_option maxRecDepth 100000 in
theorem equalT (G : Nat) (lb : Array Value) (p : S31 → S31 → Bool) (eg : ∀ args w, (callFunc G args).run Tryd.prog w = .ok (.enter G args) w) (A B : Option Addr) (c d : Nat) (xs ys : List S31) (w : World)
    (hp : PredT2 G lb p xs ys w) (hA : k31.C w A xs.length xs) (hB : k31.C w B ys.length ys) :
    Calls Tryd.prog 55 #[.slice A xs.length c, .slice B ys.length d, .func (.func G) #[] lb] w fun e w' => e = .returned (.bool (alikeT p xs ys)) ∧ Below w.heap.size w w' := by
  have hbig := hA.2.1
  have hbig2 := hB.2.1
  have HP := Lib.hid hp
  have HA := Lib.hid hA
  have HB := Lib.hid hB
  clear hp hA hB
  by_cases hl : xs.length = ys.length
  · have HL := Lib.hid hl
    have e1 : ((xs.length : Int) != (ys.length : Int)) = false := by rw [hl]; simp
    clear hl
    go_enter Tryd.func55, Tryd.ntmps55
    go_wp2
    go_loopg [7, 8, 9, 17] xs.length (fun gg _ _ _ s17 wr => ∃ kk : Nat, kk ≤ xs.length ∧ xs.length - kk ≤ gg ∧ s17 = .int .i64 kk ∧ Hid (Below w.heap.size w wr) ∧ Hid (∀ j, j < kk → p (xs.getD j z31) (ys.getD j z31) = true))
    case atStart => exact ⟨0, Nat.zero_le _, by omega, rfl, Lib.hid (Below.refl _ w), Lib.hid (fun j hj => absurd hj (Nat.not_lt_zero _))⟩
    case round =>
      obtain ⟨kk, hkk, hg, rfl, BW, AL⟩ := hrel
      by_cases hlt : kk < xs.length
      · have hltz : (kk : Int) < (xs.length : Int) := by omega
        have hltz2 : (kk : Int) < (ys.length : Int) := by have := HL.out; omega
        obtain ⟨ad, A3, c3, rfl, h0, h1, h2, h3, hl3, hC3⟩ := at_T31 (Kd.C_below HA.out BW.out) (kk : Int) (by omega) hltz
        obtain ⟨bd, B3, d3, rfl, g0, g1, g2, g3, gl3, gC3⟩ := at_T31 (Kd.C_below HB.out BW.out) (kk : Int) (by omega) hltz2
        have hrd : rd_T31 xs (kk : Int) = xs.getD kk z31 := rfl
        have grd : rd_T31 ys (kk : Int) = ys.getD kk z31 := rfl
        rw [Int.toNat_natCast] at h0 h1 h2 h3 g0 g1 g2 g3
        rw [hrd] at h0 h1 h2 h3 hl3 hC3
        rw [grd] at g0 g1 g2 g3 gl3 gC3
        have hmx := getD_mem xs kk hlt
        have hmy := getD_mem ys kk (by omega)
        have HK := Lib.hid (k31_mk wr (xs.getD kk z31) hl3 hC3)
        have GK := Lib.hid (k31_mk wr (ys.getD kk z31) gl3 gC3)
        clear hl3 hC3 gl3 gC3 hrd grd
        have HMX := Lib.hid hmx
        have HMY := Lib.hid hmy
        clear hmx hmy
        have AK : Hid (∀ q, p (xs.getD kk z31) (ys.getD kk z31) = q → p (xs.getD kk z31) (ys.getD kk z31) = q) := Lib.hid (fun q h => h)
        generalize hx : xs.getD kk z31 = x at h0 h1 h2 h3 HK HMX
        generalize hy : ys.getD kk z31 = y at g0 g1 g2 g3 GK HMY
        have HX := Lib.hid hx
        have HY := Lib.hid hy
        clear hx hy AK
        have m0 : ∀ o, (wr.alloc o).cell? (bd.add (kk * 4)) = some (.int .i64 y.f0) := fun o => (World.cell?_alloc_lt wr o _ (World.block_lt_of_cell? wr _ g0)).trans g0
        have m1 : ∀ o, (wr.alloc o).cell? ⟨(bd.add (kk * 4)).block, (bd.add (kk * 4)).off + 1, none⟩ = some (.int .i64 y.f1) := fun o => (World.cell?_alloc_lt wr o _ (World.block_lt_of_cell? wr _ g1)).trans g1
        have m2 : ∀ o, (wr.alloc o).cell? ⟨(bd.add (kk * 4)).block, (bd.add (kk * 4)).off + 2, none⟩ = some (.string y.f2) := fun o => (World.cell?_alloc_lt wr o _ (World.block_lt_of_cell? wr _ g2)).trans g2
        have m3 : ∀ o, (wr.alloc o).cell? ⟨(bd.add (kk * 4)).block, (bd.add (kk * 4)).off + 3, none⟩ = some (.slice B3 y.f3.length d3) := fun o => (World.cell?_alloc_lt wr o _ (World.block_lt_of_cell? wr _ g3)).trans g3
        have hcall : ∀ W, Below wr.heap.size wr W → Calls Tryd.prog G (#[.agg #[.int .i64 x.f0, .int .i64 x.f1, .string x.f2, .slice A3 x.f3.length c3], .agg #[.int .i64 y.f0, .int .i64 y.f1, .string y.f2, .slice B3 y.f3.length d3]] ++ lb) W fun e w' => e = .returned (.bool (p x y)) ∧ Below W.heap.size W w' :=
          fun W hb => HP.out W x y _ _ HMX.out HMY.out (bel2 BW.out hb) (k31.K_below hb HK.out) (k31.K_below hb GK.out)
        cases hq : p x y with
        | true =>
          rw [hq] at hcall
          have HCL := Lib.hid hcall
          have HQ := Lib.hid hq
          clear hcall hq
          go_wp2_with fail
          refine (HCL.out _ (((Below.refl _ _).alloc (Nat.le_refl _) _).alloc (by simp) _)).mono ?_
          rintro e w1 ⟨rfl, hb1⟩
          have HB1 := Lib.hid ((((Below.refl wr.heap.size wr).alloc (Nat.le_refl _) _).alloc (by simp) _).trans (hb1.mono (by simp; omega)))
          clear hb1
          go_wp2_with fail
          go_roundg (xs.length - (kk + 1))
          case measure => omega
          case rel =>
            refine ⟨kk + 1, by omega, by omega, by go_num, Lib.hid (bel2 BW.out HB1.out), Lib.hid (fun j hj => ?_)⟩
            rcases Nat.lt_succ_iff_lt_or_eq.1 hj with h | rfl
            · exact AL.out j h
            · rw [HX.out, HY.out]; exact HQ.out
        | false =>
          rw [hq] at hcall
          have HCL := Lib.hid hcall
          have HQ := Lib.hid hq
          clear hcall hq
          go_wp2_with fail
          refine (HCL.out _ (((Below.refl _ _).alloc (Nat.le_refl _) _).alloc (by simp) _)).mono ?_
          rintro e w1 ⟨rfl, hb1⟩
          have HB1 := Lib.hid ((((Below.refl wr.heap.size wr).alloc (Nat.le_refl _) _).alloc (by simp) _).trans (hb1.mono (by simp; omega)))
          clear hb1
          go_wp2_with fail
          go_ret
          rw [alike_not p xs ys kk hlt (by rw [HX.out, HY.out]; exact HQ.out) HL.out]
          exact ⟨rfl, bel2 BW.out HB1.out⟩
      · have hltz : ¬ (kk : Int) < (xs.length : Int) := by omega
        obtain rfl : kk = xs.length := by omega
        go_wp2_with fail
        go_ret
        rw [alike_all p xs ys HL.out AL.out]
        exact ⟨rfl, BW.out⟩
  · have e1 : ((xs.length : Int) != (ys.length : Int)) = true := bne_iff_ne.2 (by omega)
    have HF : Hid (alikeT p xs ys = false) := Lib.hid (alike_len p xs ys hl)
    clear hl
    go_enter Tryd.func55, Tryd.ntmps55
    go_wp2
    go_ret
    rw [HF.out]; exact ⟨rfl, Below.refl _ _⟩
/-- Is a type no deeper than so? -/
def dep : Nat → S31 → Prop
  | 0, _ => False
  | n + 1, x => ∀ y, y ∈ x.f3 → dep n y
theorem dep_succ {n : Nat} {x : S31} (h : dep (n + 1) x) : ∀ y, y ∈ x.f3 → dep n y := h
theorem dep_mono : ∀ (n m : Nat) (x : S31), n ≤ m → dep n x → dep m x
  | 0, _, _, _, h => h.elim
  | n + 1, 0, _, h, _ => by omega
  | n + 1, m + 1, x, h, k => fun y hy => dep_mono n m y (by omega) (k y hy)
theorem dep_ex : ∀ (k : Nat) (x : S31), SizeOf.sizeOf x ≤ k → dep (k + 1) x := by
  intro k
  induction k with
  | zero => intro x h; cases x; simp at h
  | succ k ih =>
    intro x h y hy
    refine ih y ?_
    have h1 := List.sizeOf_lt_of_mem hy
    have h2 : SizeOf.sizeOf x.f3 < SizeOf.sizeOf x := by cases x; simp; omega
    omega
/-- The same, so deep. -/
def sameN : Nat → S31 → S31 → Bool
  | 0, _, _ => false
  | n + 1, x, y => (x.f0 == y.f0) && ((x.f1 == y.f1) && ((x.f2.toList == y.f2.toList) && alikeT (sameN n) x.f3 y.f3))
def SameC (n : Nat) : Prop := ∀ (x y : S31) (A B : Option Addr) (c d : Nat) (w : World), dep n x → x.f3.length ≤ c → k31.C w A x.f3.length x.f3 → y.f3.length ≤ d → k31.C w B y.f3.length y.f3 →
    Calls Tryd.prog 23 #[.agg #[.int .i64 x.f0, .int .i64 x.f1, .string x.f2, .slice A x.f3.length c], .agg #[.int .i64 y.f0, .int .i64 y.f1, .string y.f2, .slice B y.f3.length d]] w fun e w' => e = .returned (.bool (sameN n x y)) ∧ Below w.heap.size w w'
theorem same_pred (n : Nat) (ih : SameC n) (x y : S31) (hd : dep (n + 1) x) (w : World) : PredT2 23 #[] (sameN n) x.f3 y.f3 w := by
  intro W a b cs ds ha hb hB hK hK2
  obtain ⟨A3, c3, rfl, l3, g3⟩ := k31_open hK
  obtain ⟨B3, d3, rfl, m3, f3⟩ := k31_open hK2
  exact ih a b A3 B3 c3 d3 W (hd a ha) l3 g3 m3 f3
set_option maxHeartbeats 4000000 in
set_option maxRecDepth 100000 in
theorem same_succ (n : Nat) (ih : SameC n) : SameC (n + 1) := by
  intro x y A B c d w hdep hc hA hd hB
  have HA := Lib.hid hA
  have HB := Lib.hid hB
  have IH := Lib.hid ih
  have HD := Lib.hid hdep
  clear hA hB ih hdep
  have hs : sameN (n + 1) x y = ((x.f0 == y.f0) && ((x.f1 == y.f1) && ((x.f2.toList == y.f2.toList) && alikeT (sameN n) x.f3 y.f3))) := rfl
  rw [hs]
  clear hs
  by_cases e0 : x.f0 = y.f0
  · have b0 : (x.f0 == y.f0) = true := beq_iff_eq.2 e0
    by_cases e1 : x.f1 = y.f1
    · have b1 : (x.f1 == y.f1) = true := beq_iff_eq.2 e1
      by_cases e2 : x.f2.toList = y.f2.toList
      · have b2 : (x.f2.toList == y.f2.toList) = true := beq_iff_eq.2 e2
        rw [b0, b1, b2, Bool.true_and, Bool.true_and, Bool.true_and]
        clear e0 e1 e2
        go_enter Tryd.func23, Tryd.ntmps23
        go_wp2_with fail
        generalize hW : (w.alloc (.cells #[.int .i64 x.f0, .int .i64 x.f1, .string x.f2, .slice A x.f3.length c] 31)).alloc (.cells #[.int .i64 y.f0, .int .i64 y.f1, .string y.f2, .slice B y.f3.length d] 31) = W
        have hb0 : Below w.heap.size w W := by rw [← hW]; exact ((Below.refl _ _).alloc (Nat.le_refl _) _).alloc (by simp) _
        clear hW
        refine (equalT 23 #[] (sameN n) (enters_of Tryd.func23 (by kernel_rfl) rfl) A B c d x.f3 y.f3 _ (same_pred n IH.out x y HD.out W) (Kd.C_below HA.out hb0) (Kd.C_below HB.out hb0)).mono ?_
        rintro e w2 ⟨rfl, hb2⟩
        have HB2 := Lib.hid (bel2 hb0 hb2)
        clear hb2 hb0
        go_wp2
        go_ret
        exact ⟨rfl, HB2.out⟩
      · have b2 : (x.f2.toList == y.f2.toList) = false := beq_eq_false_iff_ne.2 e2
        rw [b0, b1, b2, Bool.true_and, Bool.true_and, Bool.false_and]
        clear e0 e1 e2
        go_enter Tryd.func23, Tryd.ntmps23
        go_wp2_with fail
        go_ret
        exact ⟨rfl, ((Below.refl _ _).alloc (Nat.le_refl _) _).alloc (by simp) _⟩
    · have b1 : (x.f1 == y.f1) = false := beq_eq_false_iff_ne.2 e1
      rw [b0, b1, Bool.true_and, Bool.false_and]
      clear e0 e1
      go_enter Tryd.func23, Tryd.ntmps23
      go_wp2_with fail
      go_ret
      exact ⟨rfl, ((Below.refl _ _).alloc (Nat.le_refl _) _).alloc (by simp) _⟩
  · have b0 : (x.f0 == y.f0) = false := beq_eq_false_iff_ne.2 e0
    rw [b0, Bool.false_and]
    clear e0
    go_enter Tryd.func23, Tryd.ntmps23
    go_wp2_with fail
    go_ret
    exact ⟨rfl, ((Below.refl _ _).alloc (Nat.le_refl _) _).alloc (by simp) _⟩
theorem same_all : ∀ n, SameC n
  | 0 => fun x y A B c d w h => h.elim
  | n + 1 => same_succ n (same_all n)
/-- The same? -/
noncomputable def sameB (x y : S31) : Bool := sameN (SizeOf.sizeOf x + 1) x y
/-- types.Same. -/
theorem Same_calls (x y : S31) (A B : Option Addr) (c d : Nat) (w : World) (hc : x.f3.length ≤ c) (hA : k31.C w A x.f3.length x.f3) (hd : y.f3.length ≤ d) (hB : k31.C w B y.f3.length y.f3) :
    Calls Tryd.prog 23 #[.agg #[.int .i64 x.f0, .int .i64 x.f1, .string x.f2, .slice A x.f3.length c], .agg #[.int .i64 y.f0, .int .i64 y.f1, .string y.f2, .slice B y.f3.length d]] w fun e w' => e = .returned (.bool (sameB x y)) ∧ Below w.heap.size w w' :=
  same_all _ x y A B c d w (dep_ex _ x (Nat.le_refl _)) hc hA hd hB
end Go.Proofs.YtddmdiaopaoekaaDoor.P
