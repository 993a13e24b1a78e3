import Derived.Test.YtddmdiaopaoekaaDoorPlN
import Derived.Test.YtddmdiaopaoekaaDoorLaB
namespace Go.Proofs.YtddmdiaopaoekaaDoor.P
open Go.RowKit Go.Shelf Go.Proofs.YtddmdiaopaoekaaDoorW.PrintWords Go.Proofs.YtddmdiaopaoekaaDoorW.PrintLast Go.Proofs.YtddmdiaopaoekaaDoorW.PrintMore Go.Proofs.YtddmdiaopaoekaaDoor.Rw
set_option linter.unusedVariables false
def Out24 (W : World) (t : T24) (e : Ending) (w' : World) : Prop := ∃ A c, e = .returned (.agg #[.int .i64 t.f0, .int .i64 t.f1, .string t.f2, .slice A t.f3.length c]) ∧ t.f3.length ≤ c ∧ k24.C w' A t.f3.length t.f3 ∧ Below W.heap.size W w'
def Out72 (W : World) (t : S72_) (e : Ending) (w' : World) : Prop := ∃ A c, e = .returned (.agg #[.int .i64 t.f0, .int .i64 t.f1, .string t.f2, .slice A t.f3.length c]) ∧ t.f3.length ≤ c ∧ k72.C w' A t.f3.length t.f3 ∧ Below W.heap.size W w'
def Out68 (W : World) (t : S68_) (e : Ending) (w' : World) : Prop := ∃ A c, e = .returned (.agg #[.int .i64 t.f0, .int .i64 t.f1, .string t.f2, .slice A t.f3.length c]) ∧ t.f3.length ≤ c ∧ k68.C w' A t.f3.length t.f3 ∧ Below W.heap.size W w'
def Out42 (W : World) (V : Int) (t : T24) (e : Ending) (w' : World) : Prop := ∃ A c, e = .returned (.agg #[.int .i64 V, .int .i64 t.f0, .int .i64 t.f1, .string t.f2, .slice A t.f3.length c]) ∧ t.f3.length ≤ c ∧ k24.C w' A t.f3.length t.f3 ∧ Below W.heap.size W w'
def OutL (W : World) (ts : List S31) (e : Ending) (w' : World) : Prop := ∃ A c, e = .returned (.slice A ts.length c) ∧ ts.length ≤ c ∧ k31.C w' A ts.length ts ∧ Below W.heap.size W w'
def OutIs (W : World) (l : List Int) (e : Ending) (w' : World) : Prop := ∃ A c, e = .returned (.slice A l.length c) ∧ l.length ≤ c ∧ (Kd.int .i64).C w' A l.length l ∧ Below W.heap.size W w'
def OutB (W : World) (b : Bool) (e : Ending) (w' : World) : Prop := e = .returned (.bool b) ∧ Below W.heap.size W w'
def OutS (W : World) (s : ByteArray) (e : Ending) (w' : World) : Prop := e = .returned (.string s) ∧ Below W.heap.size W w'
theorem few_own : ∀ (n : Nat) (x : T24), few24 n x → fewN n (ownN n x)
 | 0, _, h => h
 | n + 1, x, h => ⟨by show (x.f3.map (ownN n)).length ≤ 1000; rw [List.length_map]; exact h.1, fun y hy => by
  obtain ⟨z, hz, rfl⟩ := List.mem_map.1 (show y ∈ x.f3.map (ownN n) from hy)
  exact few_own n z (h.2 z hz)⟩
theorem c_own (x : T24) (hx : few24 400 x) (A : Option Addr) (c : Nat) (W : World) (hc : x.f3.length ≤ c) (hC : k24.C W A x.f3.length x.f3) : Calls Tryd.prog 11 #[.agg #[.int .i64 x.f0, .int .i64 x.f1, .string x.f2, .slice A x.f3.length c]] W (TreeP W (ownN 400 x)) := by
 obtain ⟨k, hk⟩ := own_ex 400 x hx
 refine (hammocklaw09_Own.calls k x.f0 x.f1 x.f2 A c x.f3 _ _ _ _ W hC hc hk).mono ?_
 rintro e w' ⟨v, rfl, hR, hb⟩
 obtain ⟨A', c', rfl, hl', hC'⟩ := Kd.R_reads hR
 exact ⟨A', c', rfl, hl', hC', hb⟩
theorem c_owns (l : List T24) (hn : l.length ≤ 1000) (hl : ∀ y, y ∈ l → few24 400 y) (A : Option Addr) (c : Nat) (W : World) (hc : l.length ≤ c) (hC : k24.C W A l.length l) : Calls Tryd.prog 20 #[.slice A l.length c] W (OutL W (l.map (ownN 400))) := by
 obtain ⟨k, hk⟩ := owns_ex l hn hl
 refine (hammocklaw09_owns.calls k A c l _ W hC hc hk).mono ?_
 rintro e w' ⟨v, rfl, hR, hb⟩
 obtain ⟨A', c', rfl, hl', hC'⟩ := Kd.R_reads hR
 exact ⟨A', c', rfl, hl', hC', hb⟩
theorem c_ref (n : Nat) (y : T24) (hy : few24 n y) (t : S31) (ht : t = ownN n y) (A : Option Addr) (c : Nat) (W : World) (hc : t.f3.length ≤ c) (hC : k31.C W A t.f3.length t.f3) : Calls Tryd.prog 14 #[.agg #[.int .i64 t.f0, .int .i64 t.f1, .string t.f2, .slice A t.f3.length c]] W (Out24 W y) := by
 obtain ⟨k, hk⟩ := ref_ex n y hy
 rw [← ht] at hk
 refine (hammocklaw09_Ref.calls k t.f0 t.f1 t.f2 A c t.f3 _ _ _ _ W hC hc hk).mono ?_
 rintro e w' ⟨v, rfl, hR, hb⟩
 obtain ⟨A', c', rfl, hl', hC'⟩ := Kd.R_reads hR
 exact ⟨A', c', rfl, hl', hC', hb⟩
theorem c_V {W : World} {A : Option Addr} {c : Nat} {l : List T24} (hc : l.length ≤ c) (hC : k24.C W A l.length l) : Kd.V k24 24 W W.heap.size (fun k_ => (fun _ => True) k_) (.slice A l.length c) l :=
 Kd.V_mk hc (Kd.F_mono (Kd.C_F k24_heap hC) (fun _ _ => trivial))
theorem c_rfun (l : List T24) (hn : l.length ≤ 1000) (A : Option Addr) (c : Nat) (W : World) (hc : l.length ≤ c) (hC : k24.C W A l.length l) : Calls Tryd.prog 27 #[.slice A l.length c] W (Out24 W (rFun l)) := by
 obtain ⟨k, hk⟩ := Fun24_ex l (by omega)
 refine (hammockref09_Fun.calls k (fun _ => True) A c l _ _ _ _ W (c_V hc hC) hk).mono ?_
 rintro e w' ⟨v, rfl, hR, hb⟩
 obtain ⟨A', c', rfl⟩ := Kd.V_slice hR
 obtain ⟨_, hl', hC'⟩ := Kd.V_reads' hR
 exact ⟨A', c', rfl, hl', hC', hb⟩
theorem c_rcon (nm : ByteArray) (l : List T24) (hn : l.length ≤ 1000) (A : Option Addr) (c : Nat) (W : World) (hc : l.length ≤ c) (hC : k24.C W A l.length l) : Calls Tryd.prog 29 #[.string nm, .slice A l.length c] W (Out24 W ⟨2, 0, nm, l⟩) := by
 refine (hammockref09_Con.calls nm (fun _ => True) A c l _ _ _ _ W (c_V hc hC) (Con24_ex nm l hn)).mono ?_
 rintro e w' ⟨v, rfl, hR, hb⟩
 obtain ⟨A', c', rfl, hl', hC'⟩ := Kd.N_reads hR
 exact ⟨A', c', rfl, hl', hC', hb⟩
theorem c_same (n : Nat) (y : T24) (hy : few24 n y) (A B : Option Addr) (c d : Nat) (W : World) (hc : y.f3.length ≤ c) (hC : k24.C W A y.f3.length y.f3) (hd : y.f3.length ≤ d) (hD : k24.C W B y.f3.length y.f3) :
  Calls Tryd.prog 13 #[.agg #[.int .i64 y.f0, .int .i64 y.f1, .string y.f2, .slice A y.f3.length c], .agg #[.int .i64 y.f0, .int .i64 y.f1, .string y.f2, .slice B y.f3.length d]] W (OutB W true) := by
 obtain ⟨k, hk⟩ := same_ex n y y hy
 rw [sameN_self n _ (dep_own n y hy)] at hk
 exact hammockref09_Same.calls k y.f0 y.f1 y.f2 A c y.f3 y.f0 y.f1 y.f2 B d y.f3 _ W hC hc hD hd hk
theorem c_rsame (x y : T24) (hx : few24 400 x) (A B : Option Addr) (c d : Nat) (W : World) (hc : x.f3.length ≤ c) (hC : k24.C W A x.f3.length x.f3) (hd : y.f3.length ≤ d) (hD : k24.C W B y.f3.length y.f3) :
  Calls Tryd.prog 13 #[.agg #[.int .i64 x.f0, .int .i64 x.f1, .string x.f2, .slice A x.f3.length c], .agg #[.int .i64 y.f0, .int .i64 y.f1, .string y.f2, .slice B y.f3.length d]] W (OutB W (rsame x y)) := rsame_calls x y A B c d W hx hc hC hd hD
theorem c_tsame (x y : T24) (hx : few24 400 x) (A B : Option Addr) (c d : Nat) (W : World) (hc : (ownN 400 x).f3.length ≤ c) (hC : k31.C W A (ownN 400 x).f3.length (ownN 400 x).f3) (hd : (ownN 400 y).f3.length ≤ d) (hD : k31.C W B (ownN 400 y).f3.length (ownN 400 y).f3) :
  Calls Tryd.prog 23 #[.agg #[.int .i64 (ownN 400 x).f0, .int .i64 (ownN 400 x).f1, .string (ownN 400 x).f2, .slice A (ownN 400 x).f3.length c], .agg #[.int .i64 (ownN 400 y).f0, .int .i64 (ownN 400 y).f1, .string (ownN 400 y).f2, .slice B (ownN 400 y).f3.length d]] W (OutB W (rsame x y)) := by
 have h := Same_calls (ownN 400 x) (ownN 400 y) A B c d W hc hC hd hD
 rw [sameB_dep 400 _ _ (dep_own 400 x hx)] at h
 exact h
theorem c_rright (x : T24) (A : Option Addr) (c : Nat) (W : World) (hc : x.f3.length ≤ c) (hC : k24.C W A x.f3.length x.f3) : Calls Tryd.prog 17 #[.agg #[.int .i64 x.f0, .int .i64 x.f1, .string x.f2, .slice A x.f3.length c]] W (OutB W (rightB 400 (ownN 400 x))) := by
 obtain ⟨k, hk⟩ := Right24_ex x
 exact hammockref09_Right.calls k x.f0 x.f1 x.f2 A c x.f3 _ W hC hc hk
theorem int_row {W : World} {base e : Nat} {v : Value} {l : List Int} (h : W.ownsRow base e 1 v l.length (l.map (Value.int .i64))) (hl : l.length ≤ 10000000) : ∃ A c, v = .slice A l.length c ∧ l.length ≤ c ∧ (Kd.int .i64).C W A l.length l := by
 obtain ⟨A, c, h1, h2, h3⟩ := row_slice h
 refine ⟨A, c, h1, h2, rfl, by omega, fun h0 => ?_⟩
 obtain ⟨g, hg, _, _⟩ := h3 0 (Value.int .i64 (l.getD 0 0)) (by
  rw [List.getElem?_map, List.getElem?_eq_getElem h0, List.getD_eq_getElem?_getD, List.getElem?_eq_getElem h0]
  rfl)
 refine ⟨_, hg, fun j p hj => ⟨[.int .i64 p], rfl, rfl, fun i u hu => ?_⟩⟩
 obtain ⟨g', hg', _, hcell⟩ := h3 j (Value.int .i64 p) (by rw [List.getElem?_map, hj]; rfl)
 rw [hg] at hg'
 injection hg' with hg'
 injection hg' with hg'
 subst hg'
 match i, hu with
 | 0, hu =>
  obtain rfl : Value.int .i64 p = u := by simpa using hu
  have e1 : j * (Kd.int .i64).sz + 0 = j := by show j * 1 + 0 = j; omega
  rw [e1]
  exact hcell
 | i + 1, hu => simp at hu
theorem c_vars (t : S31) (hwf : ∀ v, v ∈ varsL t → (Lit.int .i64 v).wf = true) (hN : (varsL t).length ≤ 400) (A : Option Addr) (c : Nat) (W : World) (hc : t.f3.length ≤ c) (hC : k31.C W A t.f3.length t.f3) : Calls Tryd.prog 22 #[.agg #[.int .i64 t.f0, .int .i64 t.f1, .string t.f2, .slice A t.f3.length c]] W (OutIs W (VarsB t)) := by
 refine (Vars_calls t A c W hc hC hwf (by omega)).mono ?_
 rintro e w' ⟨v, rfl, ho, hb⟩
 obtain ⟨A', c', rfl, h1, h2⟩ := int_row ho (by have := len_vars t; omega)
 exact ⟨A', c', rfl, h1, h2, hb⟩
theorem c_rvars (x : T24) (hN : (varsN 400 (ownN 400 x)).length ≤ 400) (A : Option Addr) (c : Nat) (W : World) (hc : x.f3.length ≤ c) (hC : k24.C W A x.f3.length x.f3) : Calls Tryd.prog 31 #[.agg #[.int .i64 x.f0, .int .i64 x.f1, .string x.f2, .slice A x.f3.length c]] W (OutIs W (VarsB (ownN 400 x))) := by
 obtain ⟨k, hk⟩ := Vars24_all x (by omega)
 refine (hammockref09_Vars.calls k x.f0 x.f1 x.f2 A c x.f3 _ W hC hc hk).mono ?_
 rintro e w' ⟨v, rfl, hR, hb⟩
 obtain ⟨A', c', rfl, h1, h2⟩ := Kd.R_reads hR
 exact ⟨A', c', rfl, h1, h2, hb⟩
theorem c_lsame (l : List Int) (hl : l.length ≤ 1000000) (A B : Option Addr) (c d : Nat) (W : World) (hc : l.length ≤ c) (hC : (Kd.int .i64).C W A l.length l) (hd : l.length ≤ d) (hD : (Kd.int .i64).C W B l.length l) : Calls Tryd.prog 30 #[.slice A l.length c, .slice B l.length d] W (OutB W true) := by
 obtain ⟨k, hk⟩ := same_refl l hl
 exact (hammocklaw09_same.calls k A c l B d l _ W hC hc hD hd hk).mono (fun e w' ⟨h1, h2⟩ => ⟨h1, h2.below⟩)
theorem c_rsubst (x : T24) (l : List T24) (A B : Option Addr) (c d : Nat) (W : World) (hc : x.f3.length ≤ c) (hC : k24.C W A x.f3.length x.f3) (hd : l.length ≤ d) (hD : k24.C W B l.length l) : Calls Tryd.prog 32 #[.agg #[.int .i64 x.f0, .int .i64 x.f1, .string x.f2, .slice A x.f3.length c], .slice B l.length d] W (Out24 W (rSub l x)) := by
 obtain ⟨k, hk⟩ := Subst24_ex l x
 refine (hammockref09_Subst.calls k x.f0 x.f1 x.f2 A c x.f3 (fun _ => True) B d l _ _ _ _ W hC hc (c_V hd hD) hk).mono ?_
 rintro e w' ⟨v, rfl, hR, hb⟩
 obtain ⟨A', c', rfl⟩ := Kd.V_slice hR
 obtain ⟨_, hl', hC'⟩ := Kd.V_reads' hR
 exact ⟨A', c', rfl, hl', hC', hb⟩
theorem c_rsch (x : T24) (hN : (varsN 400 (ownN 400 x)).length ≤ 400) (A : Option Addr) (c : Nat) (W : World) (hc : x.f3.length ≤ c) (hC : k24.C W A x.f3.length x.f3) : Calls Tryd.prog 25 #[.agg #[.int .i64 x.f0, .int .i64 x.f1, .string x.f2, .slice A x.f3.length c]] W (Out42 W (schV (ownN 400 x)) (rSchT x)) := by
 obtain ⟨k, hk⟩ := Scheme24_ex x (by omega)
 refine (hammockref09_Scheme1.calls k x.f0 x.f1 x.f2 A c x.f3 _ _ _ _ _ W hC hc hk).mono ?_
 rintro e w' ⟨v, rfl, hR, hb⟩
 obtain ⟨A', c', rfl, hl', hC'⟩ := Kd.R_reads hR
 exact ⟨A', c', rfl, hl', hC', hb⟩
theorem c_print (t : S31) (hv : ∀ v, v ∈ varsN 400 t → v ≤ 9223372036854775807) (hN : (showL 400 t false).length ≤ 1000000000) (A : Option Addr) (c : Nat) (W : World) (hc : t.f3.length ≤ c) (hC : k31.C W A t.f3.length t.f3) (hT : TabOK W) : Calls Tryd.prog 34 #[.agg #[.int .i64 t.f0, .int .i64 t.f1, .string t.f2, .slice A t.f3.length c]] W (OutS W ⟨(printL t).toArray⟩) :=
 Print_calls t A c W hc hC (eachV_vars (fun v => v ≤ 9223372036854775807) 400 t hv) hT hN
theorem c_rprint (x : T24) (hv : ∀ v, v ∈ varsN 400 (ownN 400 x) → v ≤ 9223372036854775807) (hN : (showL 400 (ownN 400 x) false).length ≤ 1000000000) (A : Option Addr) (c : Nat) (W : World) (hc : x.f3.length ≤ c) (hC : k24.C W A x.f3.length x.f3) : Calls Tryd.prog 35 #[.agg #[.int .i64 x.f0, .int .i64 x.f1, .string x.f2, .slice A x.f3.length c]] W (OutS W ⟨(printL (ownN 400 x)).toArray⟩) := by
 obtain ⟨k, hk⟩ := Print24_ex x hv hN
 exact hammockref09_Print.calls k x.f0 x.f1 x.f2 A c x.f3 _ W hC hc hk
theorem c_tree (x : T24) (hv : ∀ v, v ∈ varsN 400 (ownN 400 x) → v ≤ 9223372036854775807) (A : Option Addr) (c : Nat) (W : World) (hc : (ownN 400 x).f3.length ≤ c) (hC : k31.C W A (ownN 400 x).f3.length (ownN 400 x).f3) (hT : TabOK W) : Calls Tryd.prog 38 #[.agg #[.int .i64 (ownN 400 x).f0, .int .i64 (ownN 400 x).f1, .string (ownN 400 x).f2, .slice A (ownN 400 x).f3.length c]] W (Out72 W (pTree x)) := by
 obtain ⟨k, hk⟩ := pTree_ex x hv
 refine (types_Tree.calls k _ _ _ A c _ _ _ _ _ W hC hc hk (Lib.hid hT)).mono ?_
 rintro e w' ⟨v, rfl, hR, hb⟩
 obtain ⟨A', c', rfl, hl', hC'⟩ := Kd.R_reads hR
 exact ⟨A', c', rfl, hl', hC', hb⟩
theorem c_reft (x : T24) (hx : few24 400 x) (A : Option Addr) (c : Nat) (W : World) (hc : (pTree x).f3.length ≤ c) (hC : k72.C W A (pTree x).f3.length (pTree x).f3) : Calls Tryd.prog 37 #[.agg #[.int .i64 (pTree x).f0, .int .i64 (pTree x).f1, .string (pTree x).f2, .slice A (pTree x).f3.length c]] W (Out68 W (rTree x)) := by
 obtain ⟨k, hk⟩ := pRef_ex x hx
 refine (refT_all k _ _ _ A c _ _ _ _ _ W hC hc hk).mono ?_
 rintro e w' ⟨v, rfl, hR, hb⟩
 obtain ⟨A', c', rfl, hl', hC'⟩ := Kd.R_reads hR
 exact ⟨A', c', rfl, hl', hC', hb⟩
theorem c_rtree (x : T24) (hx : few24 400 x) (hv : ∀ v, v ∈ varsN 400 (ownN 400 x) → v ≤ 9223372036854775807) (A : Option Addr) (c : Nat) (W : World) (hc : x.f3.length ≤ c) (hC : k24.C W A x.f3.length x.f3) : Calls Tryd.prog 39 #[.agg #[.int .i64 x.f0, .int .i64 x.f1, .string x.f2, .slice A x.f3.length c]] W (Out68 W (rTree x)) := by
 obtain ⟨k, hk⟩ := Tree24_ex x hx hv
 refine (hammockref09_Tree.calls k x.f0 x.f1 x.f2 A c x.f3 _ _ _ _ W hC hc hk).mono ?_
 rintro e w' ⟨v, rfl, hR, hb⟩
 obtain ⟨A', c', rfl, hl', hC'⟩ := Kd.R_reads hR
 exact ⟨A', c', rfl, hl', hC', hb⟩
theorem c_sameT (n : Nat) (t : S68_) (ht : few68 n t) (A B : Option Addr) (c d : Nat) (W : World) (hc : t.f3.length ≤ c) (hC : k68.C W A t.f3.length t.f3) (hd : t.f3.length ≤ d) (hD : k68.C W B t.f3.length t.f3) :
  Calls Tryd.prog 36 #[.agg #[.int .i64 t.f0, .int .i64 t.f1, .string t.f2, .slice A t.f3.length c], .agg #[.int .i64 t.f0, .int .i64 t.f1, .string t.f2, .slice B t.f3.length d]] W (OutB W true) := by
 obtain ⟨k, hk⟩ := sameT_refl n t ht
 exact hammockref03_SameType.calls k t.f0 t.f1 t.f2 A c t.f3 t.f0 t.f1 t.f2 B d t.f3 _ W hC hc hD hd hk
end Go.Proofs.YtddmdiaopaoekaaDoor.P
