/- The walk of TypesLooks. -/
import Derived.Test.YtddmdiaopaoekaaDoorLaE0
import Derived.Test.YtddmdiaopaoekaaDoorOpn
import Derived.Deep.DeepCutAuto
import Derived.Test.YtddmdiaopaoekaaDoorSq
namespace Go.Proofs.YtddmdiaopaoekaaDoor.P
open Go.RowKit Go.Shelf Go.Proofs.YtddmdiaopaoekaaDoorW.PrintWords Go.Proofs.YtddmdiaopaoekaaDoorW.PrintLast Go.Proofs.YtddmdiaopaoekaaDoor.Rw
set_option linter.unusedVariables false
set_option linter.unusedSimpArgs false
theorem row_weight {H : Type} {D : DataW H} {n : Nat} (hw : ∀ q, q ∈ D.weights Tryd.prog 22 → q ≤ reachBytes) (h : (D = .nil ∧ n = 0) ∨ ∃ es rs, D = DataW.slice es rs ∧ es.length = n) : n * 56 ≤ 140737488351232 := by
 rcases h with ⟨_, rfl⟩ | ⟨es, rs, rfl, rfl⟩
 ·omega
 ·have hb : Tryd.prog.bytesOf 24 = 56 := by kernel_rfl
  have h := hw ((es.length + rs.length) * Tryd.prog.bytesOf 24) (by
   rw [DataW.weights, Tryd.underlying22]
   exact List.mem_cons_self ..)
  rw [hb] at h
  unfold reachBytes at h
  omega
set_option maxHeartbeats 16000000 in
set_option maxRecDepth 100000 in
theorem LooksLaw_calls (M : Nat) (x y : T24) (A B : Option Addr) (c d : Nat) (l : List T24) (Al : Option Addr) (cl : Nat) (w : World)
  (hc : x.f3.length ≤ c) (hC : k24.C w A x.f3.length x.f3) (hd : y.f3.length ≤ d) (hD : k24.C w B y.f3.length y.f3) (hlc : l.length ≤ cl) (hlC : k24.C w Al l.length l) (hlA : Al = none → cl = 0)
  (hx : lay24 M x) (hy : lay24 M y) (hl : ∀ z, z ∈ l → lay24 M z) (hsz : l.length * 56 ≤ 140737488351232) (hT : TabOK w) :
  Calls Tryd.prog 6 #[.agg #[.int .i64 x.f0, .int .i64 x.f1, .string x.f2, .slice A x.f3.length c], .agg #[.int .i64 y.f0, .int .i64 y.f1, .string y.f2, .slice B y.f3.length d], .slice Al l.length cl] w fun e w' => e = .returned (.bool true) ∧ Below w.heap.size w w' := by
 have HC := Lib.hid hC
 have HD := Lib.hid hD
 have HLC := Lib.hid hlC
 have HLA := Lib.hid hlA
 have HX := Lib.hid hx
 have HY := Lib.hid hy
 have HLL := Lib.hid hl
 have HSZ := Lib.hid hsz
 have HT := Lib.hid hT
 clear hC hD hlC hlA hx hy hl hsz hT
 go_enter Tryd.func6, Tryd.ntmps6
 have hba : Below w.heap.size w ((w.alloc (.cells #[.int .i64 x.f0, .int .i64 x.f1, .string x.f2, .slice A x.f3.length c] 24)).alloc (.cells #[.int .i64 y.f0, .int .i64 y.f1, .string y.f2, .slice B y.f3.length d] 24)) := ((Below.refl _ _).alloc (Nat.le_refl _) _).alloc (by simp) _
 have hXa := new2_a w (.cells #[.int .i64 x.f0, .int .i64 x.f1, .string x.f2, .slice A x.f3.length c] 24) (.cells #[.int .i64 y.f0, .int .i64 y.f1, .string y.f2, .slice B y.f3.length d] 24)
 have hYa := new2_b w (.cells #[.int .i64 x.f0, .int .i64 x.f1, .string x.f2, .slice A x.f3.length c] 24) (.cells #[.int .i64 y.f0, .int .i64 y.f1, .string y.f2, .slice B y.f3.length d] 24)
 have hsa : ((w.alloc (.cells #[.int .i64 x.f0, .int .i64 x.f1, .string x.f2, .slice A x.f3.length c] 24)).alloc (.cells #[.int .i64 y.f0, .int .i64 y.f1, .string y.f2, .slice B y.f3.length d] 24)).heap.size = w.heap.size + 2 := by simp
 have HBA := Lib.hid hba
 have HXA := Lib.hid hXa
 have HYA := Lib.hid hYa
 have HSA := Lib.hid hsa
 clear hba hXa hYa hsa
 have hre : Reps (k24.K ((w.alloc (.cells #[.int .i64 x.f0, .int .i64 x.f1, .string x.f2, .slice A x.f3.length c] 24)).alloc (.cells #[.int .i64 y.f0, .int .i64 y.f1, .string y.f2, .slice B y.f3.length d] 24))) 4 [x, y] (#[.int .i64 x.f0, .int .i64 x.f1, .string x.f2, .slice A x.f3.length c, .int .i64 y.f0, .int .i64 y.f1, .string y.f2, .slice B y.f3.length d] : Array Value).toList := ((Reps.none _ 4).snoc (k24_mk _ x hc (c24_below HC.out HBA.out)) rfl).snoc (k24_mk _ y hd (c24_below HD.out HBA.out)) rfl
 have how : (((w.alloc (.cells #[.int .i64 x.f0, .int .i64 x.f1, .string x.f2, .slice A x.f3.length c] 24)).alloc (.cells #[.int .i64 y.f0, .int .i64 y.f1, .string y.f2, .slice B y.f3.length d] 24)).alloc (.cells #[.int .i64 x.f0, .int .i64 x.f1, .string x.f2, .slice A x.f3.length c, .int .i64 y.f0, .int .i64 y.f1, .string y.f2, .slice B y.f3.length d] 24)).ownsRow ((w.alloc (.cells #[.int .i64 x.f0, .int .i64 x.f1, .string x.f2, .slice A x.f3.length c] 24)).alloc (.cells #[.int .i64 y.f0, .int .i64 y.f1, .string y.f2, .slice B y.f3.length d] 24)).heap.size 24 4 (.slice (some ⟨w.heap.size + 1 + 1, 0, none⟩) 2 2) 2 (#[.int .i64 x.f0, .int .i64 x.f1, .string x.f2, .slice A x.f3.length c, .int .i64 y.f0, .int .i64 y.f1, .string y.f2, .slice B y.f3.length d] : Array Value).toList := by
  have h := World.ownsRow_lit (base := ((w.alloc (.cells #[.int .i64 x.f0, .int .i64 x.f1, .string x.f2, .slice A x.f3.length c] 24)).alloc (.cells #[.int .i64 y.f0, .int .i64 y.f1, .string y.f2, .slice B y.f3.length d] 24)).heap.size) (e := 24) (size := 4) ((w.alloc (.cells #[.int .i64 x.f0, .int .i64 x.f1, .string x.f2, .slice A x.f3.length c] 24)).alloc (.cells #[.int .i64 y.f0, .int .i64 y.f1, .string y.f2, .slice B y.f3.length d] 24)) #[.int .i64 x.f0, .int .i64 x.f1, .string x.f2, .slice A x.f3.length c, .int .i64 y.f0, .int .i64 y.f1, .string y.f2, .slice B y.f3.length d] 2 (Nat.le_refl _) (by decide) rfl
  simpa using h
 have hbb : Below ((w.alloc (.cells #[.int .i64 x.f0, .int .i64 x.f1, .string x.f2, .slice A x.f3.length c] 24)).alloc (.cells #[.int .i64 y.f0, .int .i64 y.f1, .string y.f2, .slice B y.f3.length d] 24)).heap.size ((w.alloc (.cells #[.int .i64 x.f0, .int .i64 x.f1, .string x.f2, .slice A x.f3.length c] 24)).alloc (.cells #[.int .i64 y.f0, .int .i64 y.f1, .string y.f2, .slice B y.f3.length d] 24)) (((w.alloc (.cells #[.int .i64 x.f0, .int .i64 x.f1, .string x.f2, .slice A x.f3.length c] 24)).alloc (.cells #[.int .i64 y.f0, .int .i64 y.f1, .string y.f2, .slice B y.f3.length d] 24)).alloc (.cells #[.int .i64 x.f0, .int .i64 x.f1, .string x.f2, .slice A x.f3.length c, .int .i64 y.f0, .int .i64 y.f1, .string y.f2, .slice B y.f3.length d] 24)) := (Below.refl _ _).alloc (Nat.le_refl _) _
 have hz1 : (([x, y] : List T24).length + l.length) * 56 ≤ 140737488355328 := by have := HSZ.out; simp only [List.length_cons, List.length_nil]; omega
 have HRE := Lib.hid hre
 have HOW := Lib.hid how
 have HBX := Lib.hid hbb
 have HZ1 := Lib.hid hz1
 have HLC0 := Lib.hid (c24_below HLC.out HBA.out)
 clear hre how hbb hz1
 go_wp2_with (first
  | (at_builtin; refine wpList_append24 (w0 := ((w.alloc (.cells #[.int .i64 x.f0, .int .i64 x.f1, .string x.f2, .slice A x.f3.length c] 24)).alloc (.cells #[.int .i64 y.f0, .int .i64 y.f1, .string y.f2, .slice B y.f3.length d] 24))) rfl _ _ rfl _ [x, y] l _ rfl HOW.out HRE.out Al cl rfl HLA.out HLC0.out HBX.out HZ1.out ?_; intro v1 w1 cells1 hown1 hreps1 hb1 hg1; obtain ⟨A2, c2, rfl, hR2⟩ := own_reads_row hown1 hreps1 rfl))
 obtain ⟨kL, rL, hLi⟩ := light_ex M ([x, y] ++ l) (by have := HSZ.out; simp only [List.length_append, List.length_cons, List.length_nil]; omega) (fun z hz => by
  rcases List.mem_append.1 hz with hz | hz
  ·rcases List.mem_cons.1 hz with rfl | hz
   ·exact lay24_ok M _ HX.out
   ·obtain rfl : z = y := by simpa using hz
    exact lay24_ok M _ HY.out
  ·exact lay24_ok M z (HLL.out z hz))
 have hC2 : k24.C w1 A2 ([x, y] ++ l).length ([x, y] ++ l) := hR2.imp_ (Below.refl _ _) (fun p cs hp => k24.K_below hb1 hp)
 have hcap2 : ([x, y] ++ l).length ≤ c2 := by
  rcases hown1.2 with ⟨h1, h2⟩ | ⟨g, cap, cur, h1, _, _, h2, _⟩
  ·cases h1
  ·cases h1; exact h2
 have hcl := hammocklaw09_Light.calls kL A2 c2 ([x, y] ++ l) rL w1 hC2 hcap2 hLi
 rw [show ([x, y] ++ l).length = l.length + 1 + 1 by simp only [List.length_append, List.length_cons, List.length_nil]; omega] at hcl
 have HLI := Lib.hid hLi
 have HB2 := Lib.hid (hb1 : Below ((w.alloc (.cells #[.int .i64 x.f0, .int .i64 x.f1, .string x.f2, .slice A x.f3.length c] 24)).alloc (.cells #[.int .i64 y.f0, .int .i64 y.f1, .string y.f2, .slice B y.f3.length d] 24)).heap.size ((w.alloc (.cells #[.int .i64 x.f0, .int .i64 x.f1, .string x.f2, .slice A x.f3.length c] 24)).alloc (.cells #[.int .i64 y.f0, .int .i64 y.f1, .string y.f2, .slice B y.f3.length d] 24)) w1)
 refine hcl.mono ?_
 clear hcl hC2 hcap2 hown1 hreps1 hb1 hg1 hR2 hLi
 rintro e w3 ⟨rfl, hb3⟩
 have hB3 := bel2 HB2.out hb3
 have HB3 := Lib.hid (HBA.out.trans (hB3.mono HBA.out.size))
 have HX3 := Lib.hid ((hB3.block w.heap.size (by rw [HSA.out]; omega)).trans HXA.out)
 have HY3 := Lib.hid ((hB3.block (w.heap.size + 1) (by rw [HSA.out]; omega)).trans HYA.out)
 clear hb3 hB3
 cases rL with
 | false =>
  go_wp2_with fail
  refine (knows_calls w3 (HT.out.below HB3.out)).mono ?_
  rintro e w4 ⟨rfl, hb4⟩
  have HB4 := Lib.hid (bel2 HB3.out hb4)
  clear hb4
  go_wp2_with fail
  go_ret
  exact ⟨rfl, HB4.out⟩
 | true =>
 by_cases h40 : (l.length : Int) > 40
 ·have h40' := h40
  go_wp2_with fail
  refine (knows_calls w3 (HT.out.below HB3.out)).mono ?_
  rintro e w4 ⟨rfl, hb4⟩
  have HB4 := Lib.hid (bel2 HB3.out hb4)
  clear hb4
  go_wp2_with fail
  go_ret
  exact ⟨rfl, HB4.out⟩
 have hall : ∀ z, z ∈ [x, y] ++ l → ok24 M z ∧ nm24 M z := fun z hz => by
  rcases List.mem_append.1 hz with hz | hz
  ·rcases List.mem_cons.1 hz with rfl | hz
   ·exact ⟨lay24_ok M _ HX.out, lay24_nm M _ HX.out⟩
   ·obtain rfl : z = y := by simpa using hz
    exact ⟨lay24_ok M _ HY.out, lay24_nm M _ HY.out⟩
  ·exact ⟨lay24_ok M z (HLL.out z hz), lay24_nm M z (HLL.out z hz)⟩
 have hlen2 : ([x, y] ++ l).length ≤ 9223372036854775807 := by have := HSZ.out; simp only [List.length_append, List.length_cons, List.length_nil]; omega
 have hlf := light_few kL M ([x, y] ++ l) hlen2 HLI.out hall
 have hwc := light_wc kL M ([x, y] ++ l) hlen2 HLI.out hall 400 x (by simp)
 obtain ⟨hfx, hnx⟩ := hlf x (by simp)
 obtain ⟨hfy, hny⟩ := hlf y (by simp)
 have hfl : ∀ z, z ∈ l → few24 400 z := fun z hz => (hlf z (List.mem_append_right _ hz)).1
 have hn : l.length ≤ 1000 := by omega
 have hwx := lay24_varsL M x HX.out
 have hwN : ∀ v, v ∈ varsN 400 (ownN 400 x) → (Lit.int .i64 v).wf = true := lay24_vars 400 400 M x HX.out
 have hvN : ∀ v, v ∈ varsN 400 (ownN 400 x) → v ≤ 9223372036854775807 := fun v hv => by
  have h9 := hwN v hv
  unfold Lit.wf at h9
  simp at h9
  exact h9.2
 have hsh : (showL 400 (ownN 400 x) false).length ≤ 1000000000 := by
  have := show_len 400 x false hfx hvN
  omega
 have hvx : (varsL (ownN 400 x)).length ≤ 400 := by rw [varsL_dep 400 _ (dep_own 400 x hfx)]; exact hnx
 have hev := eachV_vars (fun v => (Lit.int .i64 v).wf = true) 400 (ownN 400 x) hwN
 have x0 := cell_in HX3.out 0
 have x1 := cell_in HX3.out 1
 have x2 := cell_in HX3.out 2
 have x3 := cell_in HX3.out 3
 have HFX := Lib.hid hfx
 have HNX := Lib.hid hnx
 have HFY := Lib.hid hfy
 have HFL := Lib.hid hfl
 have HWX := Lib.hid hwx
 have HVN := Lib.hid hvN
 have HSH := Lib.hid hsh
 have HVX := Lib.hid hvx
 have HEV := Lib.hid hev
 clear hall hlen2 hlf hwc hfx hnx hfy hny hfl hwx hwN hvN hsh hvx hev HLI HB2 HBX HRE HOW HZ1 HLC0
 go_wp2_with fail
 refine (c_own x HFX.out A c w3 hc (c24_below HC.out HB3.out)).mono ?_
 rintro e w4 ⟨A4, c4, rfl, hl4, hC4, hb4⟩
 have HB4 := Lib.hid (bel2 HB3.out hb4)
 have HX4 := Lib.hid ((hb4.block w.heap.size (Array.getElem?_eq_some_iff.1 HX3.out).1).trans HX3.out)
 have HY4 := Lib.hid ((hb4.block (w.heap.size + 1) (Array.getElem?_eq_some_iff.1 HY3.out).1).trans HY3.out)
 have HC4 := Lib.hid hC4
 clear hb4 hC4 x0 x1 x2 x3
 go_wp2_with fail
 have hal : Below w4.heap.size w4 (w4.alloc (.cells #[.int .i64 (ownN 400 x).f0, .int .i64 (ownN 400 x).f1, .string (ownN 400 x).f2, .slice A4 (ownN 400 x).f3.length c4] 31)) := (Below.refl _ _).alloc (Nat.le_refl _) _
 refine (Scheme1_calls (ownN 400 x) A4 c4 _ hl4 (c_below HC4.out hal) HWX.out (by have := HVX.out; omega) HEV.out).mono ?_
 rintro e w5 ⟨As, cs, rfl, hls, hCs, hbs⟩
 have hT5 := (hbs.block w4.heap.size (by simp)).trans (heap_new w4 (.cells #[.int .i64 (ownN 400 x).f0, .int .i64 (ownN 400 x).f1, .string (ownN 400 x).f2, .slice A4 (ownN 400 x).f3.length c4] 31))
 have h45 : Below w4.heap.size w4 w5 := hal.trans (hbs.mono hal.size)
 have HX5 := Lib.hid ((h45.block w.heap.size (Array.getElem?_eq_some_iff.1 HX4.out).1).trans HX4.out)
 have HY5 := Lib.hid ((h45.block (w.heap.size + 1) (Array.getElem?_eq_some_iff.1 HY4.out).1).trans HY4.out)
 have HT5 := Lib.hid hT5
 have HB5 := Lib.hid (bel2 HB4.out h45)
 have HC5 := Lib.hid (c_below HC4.out h45)
 have HCs := Lib.hid hCs
 clear hal hT5 h45 hbs hCs HX4 HY4 HC4
 have x0 := fun o => cell_allocN o (cell_in HX5.out 0)
 have x1 := fun o => cell_allocN o (cell_in HX5.out 1)
 have x2 := fun o => cell_allocN o (cell_in HX5.out 2)
 have x3 := fun o => cell_allocN o (cell_in HX5.out 3)
 go_wp2_with fail
 have hal : Below w5.heap.size w5 (w5.alloc (.cells #[.int .i64 (schV (ownN 400 x)), .int .i64 (schT (ownN 400 x)).f0, .int .i64 (schT (ownN 400 x)).f1, .string (schT (ownN 400 x)).f2, .slice As (schT (ownN 400 x)).f3.length cs] 39)) := (Below.refl _ _).alloc (Nat.le_refl _) _
 refine (c_rsch x HNX.out A c _ hc (c24_below HC.out (bel2 HB5.out hal))).mono ?_
 rintro e w6 ⟨Ar, cr, rfl, hlr, hCr, hbr⟩
 have hS6 := (hbr.block w5.heap.size (by simp)).trans (heap_new w5 (.cells #[.int .i64 (schV (ownN 400 x)), .int .i64 (schT (ownN 400 x)).f0, .int .i64 (schT (ownN 400 x)).f1, .string (schT (ownN 400 x)).f2, .slice As (schT (ownN 400 x)).f3.length cs] 39))
 have h56 : Below w5.heap.size w5 w6 := hal.trans (hbr.mono hal.size)
 have HX6 := Lib.hid ((h56.block w.heap.size (Array.getElem?_eq_some_iff.1 HX5.out).1).trans HX5.out)
 have HY6 := Lib.hid ((h56.block (w.heap.size + 1) (Array.getElem?_eq_some_iff.1 HY5.out).1).trans HY5.out)
 have HT6 := Lib.hid ((h56.block w4.heap.size (Array.getElem?_eq_some_iff.1 HT5.out).1).trans HT5.out)
 have HS6 := Lib.hid hS6
 have HB6 := Lib.hid (bel2 HB5.out h56)
 have HC6 := Lib.hid (c_below HC5.out h56)
 have HCs6 := Lib.hid (c_below HCs.out h56)
 have HCr := Lib.hid hCr
 clear hal hS6 h56 hbr hCr HX5 HY5 HT5 HC5 HCs x0 x1 x2 x3
 go_wp2_with fail
 have hal : Below w6.heap.size w6 (w6.alloc (.cells #[.int .i64 (schV (ownN 400 x)), .int .i64 (rSchT x).f0, .int .i64 (rSchT x).f1, .string (rSchT x).f2, .slice Ar (rSchT x).f3.length cr] 42)) := (Below.refl _ _).alloc (Nat.le_refl _) _
 have hR7 := heap_new w6 (.cells #[.int .i64 (schV (ownN 400 x)), .int .i64 (rSchT x).f0, .int .i64 (rSchT x).f1, .string (rSchT x).f2, .slice Ar (rSchT x).f3.length cr] 42)
 generalize w6.alloc (.cells #[.int .i64 (schV (ownN 400 x)), .int .i64 (rSchT x).f0, .int .i64 (rSchT x).f1, .string (rSchT x).f2, .slice Ar (rSchT x).f3.length cr] 42) = w7 at hal hR7 ⊢
 have HB7 := Lib.hid (bel2 HB6.out hal)
 have hX7 := (hal.block w.heap.size (Array.getElem?_eq_some_iff.1 HX6.out).1).trans HX6.out
 have hY7 := (hal.block (w.heap.size + 1) (Array.getElem?_eq_some_iff.1 HY6.out).1).trans HY6.out
 have hT7 := (hal.block w4.heap.size (Array.getElem?_eq_some_iff.1 HT6.out).1).trans HT6.out
 have hS7 := (hal.block w5.heap.size (Array.getElem?_eq_some_iff.1 HS6.out).1).trans HS6.out
 have HCX := Lib.hid (zAC HC.out HB7.out)
 have HCY := Lib.hid (zAC HD.out HB7.out)
 have HCL := Lib.hid (zAC HLC.out HB7.out)
 have HCT := Lib.hid (zAC HC6.out hal)
 have HCS := Lib.hid (zAC HCs6.out hal)
 have HCR := Lib.hid (zAC HCr.out hal)
 have HTAB := Lib.hid (HT.out.below HB7.out)
 generalize w4.heap.size = q4 at hT7 ⊢
 generalize w5.heap.size = q5 at hS7 ⊢
 generalize w6.heap.size = q6 at hR7 ⊢
 generalize w.heap.size + 1 = q1 at hY7 ⊢
 have blk : ∀ {W : World} {k : Nat} {o : Obj}, w7.heap[k]? = some o → Below w7.heap.size w7 W → W.heap[k]? = some o := fun h hb => (hb.block _ (Array.getElem?_eq_some_iff.1 h).1).trans h
 have XB : Hid (∀ W, Below w7.heap.size w7 W → W.heap[w.heap.size]? = _) := Lib.hid (fun W h => blk hX7 h)
 have YB : Hid (∀ W, Below w7.heap.size w7 W → W.heap[q1]? = _) := Lib.hid (fun W h => blk hY7 h)
 have TB : Hid (∀ W, Below w7.heap.size w7 W → W.heap[q4]? = _) := Lib.hid (fun W h => blk hT7 h)
 have SB : Hid (∀ W, Below w7.heap.size w7 W → W.heap[q5]? = _) := Lib.hid (fun W h => blk hS7 h)
 have RB : Hid (∀ W, Below w7.heap.size w7 W → W.heap[q6]? = _) := Lib.hid (fun W h => blk hR7 h)
 have L6 : Hid (∀ W, Below w7.heap.size w7 W → W.cell? ⟨w.heap.size, 0, none⟩ = some (.int .i64 (x).f0) ∧ W.cell? ⟨w.heap.size, 1, none⟩ = some (.int .i64 (x).f1) ∧ W.cell? ⟨w.heap.size, 2, none⟩ = some (.string (x).f2) ∧ W.cell? ⟨w.heap.size, 3, none⟩ = some (.slice A (x).f3.length c) ∧ W.cell? ⟨q1, 0, none⟩ = some (.int .i64 (y).f0) ∧ W.cell? ⟨q1, 1, none⟩ = some (.int .i64 (y).f1) ∧ W.cell? ⟨q1, 2, none⟩ = some (.string (y).f2) ∧ W.cell? ⟨q1, 3, none⟩ = some (.slice B (y).f3.length d) ∧ W.cell? ⟨q4, 0, none⟩ = some (.int .i64 (ownN 400 x).f0) ∧ W.cell? ⟨q4, 1, none⟩ = some (.int .i64 (ownN 400 x).f1) ∧ W.cell? ⟨q4, 2, none⟩ = some (.string (ownN 400 x).f2) ∧ W.cell? ⟨q4, 3, none⟩ = some (.slice A4 (ownN 400 x).f3.length c4)) := Lib.hid (fun W h => ⟨cell_in (XB.out W h) 0, cell_in (XB.out W h) 1, cell_in (XB.out W h) 2, cell_in (XB.out W h) 3, cell_in (YB.out W h) 0, cell_in (YB.out W h) 1, cell_in (YB.out W h) 2, cell_in (YB.out W h) 3, cell_in (TB.out W h) 0, cell_in (TB.out W h) 1, cell_in (TB.out W h) 2, cell_in (TB.out W h) 3⟩)
 have L8 : Hid (∀ W, Below w7.heap.size w7 W → W.cell? ⟨w.heap.size, 0, none⟩ = some (.int .i64 (x).f0) ∧ W.cell? ⟨w.heap.size, 1, none⟩ = some (.int .i64 (x).f1) ∧ W.cell? ⟨w.heap.size, 2, none⟩ = some (.string (x).f2) ∧ W.cell? ⟨w.heap.size, 3, none⟩ = some (.slice A (x).f3.length c) ∧ W.cell? ⟨q4, 0, none⟩ = some (.int .i64 (ownN 400 x).f0) ∧ W.cell? ⟨q4, 1, none⟩ = some (.int .i64 (ownN 400 x).f1) ∧ W.cell? ⟨q4, 2, none⟩ = some (.string (ownN 400 x).f2) ∧ W.cell? ⟨q4, 3, none⟩ = some (.slice A4 (ownN 400 x).f3.length c4) ∧ W.cell? ⟨q5, 0, none⟩ = some (.int .i64 (schV (ownN 400 x))) ∧ W.cell? ⟨q5, 1, none⟩ = some (.int .i64 (schT (ownN 400 x)).f0) ∧ W.cell? ⟨q5, 2, none⟩ = some (.int .i64 (schT (ownN 400 x)).f1) ∧ W.cell? ⟨q5, 3, none⟩ = some (.string (schT (ownN 400 x)).f2) ∧ W.cell? ⟨q5, 4, none⟩ = some (.slice As (schT (ownN 400 x)).f3.length cs) ∧ W.cell? ⟨q6, 0, none⟩ = some (.int .i64 (schV (ownN 400 x))) ∧ W.cell? ⟨q6, 1, none⟩ = some (.int .i64 (rSchT x).f0) ∧ W.cell? ⟨q6, 2, none⟩ = some (.int .i64 (rSchT x).f1) ∧ W.cell? ⟨q6, 3, none⟩ = some (.string (rSchT x).f2) ∧ W.cell? ⟨q6, 4, none⟩ = some (.slice Ar (rSchT x).f3.length cr)) := Lib.hid (fun W h => ⟨cell_in (XB.out W h) 0, cell_in (XB.out W h) 1, cell_in (XB.out W h) 2, cell_in (XB.out W h) 3, cell_in (TB.out W h) 0, cell_in (TB.out W h) 1, cell_in (TB.out W h) 2, cell_in (TB.out W h) 3, cell_in (SB.out W h) 0, cell_in (SB.out W h) 1, cell_in (SB.out W h) 2, cell_in (SB.out W h) 3, cell_in (SB.out W h) 4, cell_in (RB.out W h) 0, cell_in (RB.out W h) 1, cell_in (RB.out W h) 2, cell_in (RB.out W h) 3, cell_in (RB.out W h) 4⟩)
 have HFun := Lib.hid (fun_own l HFL.out)
 have HSub := Lib.hid (rsub_own l HFL.out x)
 have HSch := Lib.hid (sch_own x HFX.out)
 have hfls : ∀ z, z ∈ l.map (ownN 400) → fewN 400 z := fun z hz => by obtain ⟨u, hu, rfl⟩ := List.mem_map.1 hz; exact few_own 400 u (HFL.out u hu)
 have hlsn : (l.map (ownN 400)).length ≤ 1000 := by rw [List.length_map]; exact hn
 have howns : ∀ W, Below w7.heap.size w7 W → Calls Tryd.prog 20 #[.slice Al l.length cl] W (OutL W (l.map (ownN 400))) := fun W h => c_owns l hn HFL.out Al cl W hlc (zAC HCL.out h)
 have hcon : ∃ (tc : S31) (rc : T24), (tc = ownN 401 rc ∧ few24 401 rc) ∧ (∀ W Ao co, (l.map (ownN 400)).length ≤ co → k31.C W Ao (l.map (ownN 400)).length (l.map (ownN 400)) → Calls Tryd.prog 28 #[.string ⟨#[84]⟩, .slice Ao (l.map (ownN 400)).length co] W (TreeP W tc)) ∧ (∀ W, Below w7.heap.size w7 W → Calls Tryd.prog 29 #[.string ⟨#[84]⟩, .slice Al l.length cl] W (Out24 W rc)) :=
  ⟨⟨2, 0, ⟨#[84]⟩, l.map (ownN 400)⟩, ⟨2, 0, ⟨#[84]⟩, l⟩, con_own ⟨#[84]⟩ l hn HFL.out, fun W Ao co h1 h2 => Con_calls 400 ⟨#[84]⟩ (l.map (ownN 400)) Ao co W hlsn hfls h1 h2, fun W h => c_rcon ⟨#[84]⟩ l hn Al cl W hlc (zAC HCL.out h)⟩
 have hright : ∀ W, Below w7.heap.size w7 W → Calls Tryd.prog 21 #[.agg #[.int .i64 (ownN 400 x).f0, .int .i64 (ownN 400 x).f1, .string (ownN 400 x).f2, .slice A4 (ownN 400 x).f3.length c4]] W (OutB W (rightB 400 (ownN 400 x))) := fun W h => Right_calls (ownN 400 x) A4 c4 W hl4 (zAC HCT.out h)
 have hvl : (VarsB (ownN 400 x)).length ≤ 1000000 := by have := len_vars (ownN 400 x); have := HVX.out; omega
 obtain ⟨klis, blis, hlis⟩ := lists_ex 400 x HFX.out
 obtain ⟨tc, rc, hrc, hcon, hrcon⟩ := hcon
 generalize l.map (ownN 400) = ls at HFun HSub hfls hlsn howns hcon
 have HFLS := Lib.hid hfls
 have HOWNS := Lib.hid howns
 have HCON := Lib.hid hcon
 have HRCON := Lib.hid hrcon
 have HRC := Lib.hid hrc
 have HRIGHT := Lib.hid hright
 have HLIS := Lib.hid hlis
 have HVL := Lib.hid hvl
 have HLSN := Lib.hid hlsn
 clear hal hX7 hY7 hT7 hS7 hR7 blk hfls howns hcon hrcon hrc hright hlis hvl hlsn HC HD HLC HC6 HCs6 HCr HX6 HY6 HT6 HS6 HB6 HB5 HB4 HB3 HX3 HY3 HX HY HLL HSZ HBA HXA HYA HSA
 have HB_0 : Hid (Below w7.heap.size w7 w7.drew) := Lib.hid ((Below.refl _ _).drew)
 refine start_ (n := 35) (S := fun w' => w'.cell? ⟨w.heap.size, 0, none⟩ = some (.int .i64 (x).f0) ∧ w'.cell? ⟨w.heap.size, 1, none⟩ = some (.int .i64 (x).f1) ∧ w'.cell? ⟨w.heap.size, 2, none⟩ = some (.string (x).f2) ∧ w'.cell? ⟨w.heap.size, 3, none⟩ = some (.slice A (x).f3.length c) ∧ w'.cell? ⟨q1, 0, none⟩ = some (.int .i64 (y).f0) ∧ w'.cell? ⟨q1, 1, none⟩ = some (.int .i64 (y).f1) ∧ w'.cell? ⟨q1, 2, none⟩ = some (.string (y).f2) ∧ w'.cell? ⟨q1, 3, none⟩ = some (.slice B (y).f3.length d) ∧ w'.cell? ⟨q4, 0, none⟩ = some (.int .i64 (ownN 400 x).f0) ∧ w'.cell? ⟨q4, 1, none⟩ = some (.int .i64 (ownN 400 x).f1) ∧ w'.cell? ⟨q4, 2, none⟩ = some (.string (ownN 400 x).f2) ∧ w'.cell? ⟨q4, 3, none⟩ = some (.slice A4 (ownN 400 x).f3.length c4)) (ds := []) #[false, false, false, false, false, false, false, false, false, false, false, false, false, false, false, false, false, false, false, false, false, false, false, false, false, false, false, false, false, false, false, false, false, false, false] (by kernel_rfl) rfl rfl (L6.out _ HB_0.out) (fun hHeld => ?_)
 refine pure_ (i := 0) (N := some 29) (v := ?_) (a' := ?_) (zBM 35 1) rfl rfl (by kernel_rfl) (fun _ _ _ h => h) (Or.inl ⟨by rfl, ?_⟩) ?_ ?_
 rotate_left
 ·intro w'
  go_simp
  with_reducible rfl
 rotate_left
 ·simp only [Act.put, zO, zP, zR, i64_w, i32_w]
  rfl
 refine pure_ (i := 4) (N := some 33) (v := ?_) (a' := ?_) (zBM 35 17) rfl rfl (by kernel_rfl) (fun _ _ _ h => h) (Or.inl ⟨by rfl, ?_⟩) ?_ ?_
 rotate_left
 ·intro w'
  go_simp
  with_reducible rfl
 rotate_left
 ·simp only [Act.put, zO, zP, zR, i64_w, i32_w]
  rfl
 refine one_ (i := 1) (N := some 30) (zBM 35 19) rfl rfl (by kernel_rfl) (by decide) (fun K hK => ?_)
 refine goes_ Tryd.func20 (by kernel_rfl) rfl #[.slice Al l.length cl] (by rfl) rfl rfl (by (try simp only [List.map_toArray, List.map_cons, List.map_nil]); first | done | rfl) ?_
 refine (HOWNS.out _ HB_0.out).mono ?_
 rintro e u_1 ⟨A_1, c_1, rfl, hl_1, hC_1, hb⟩
 have HC_1 := Lib.hid hC_1
 clear hC_1
 have HS_1 := Lib.hid hb
 have HB_1 := Lib.hid (bel2 HB_0.out hb)
 clear hb
 refine ⟨_, rfl, ?_⟩
 refine hK.out _ _ (L6.out _ HB_1.out) (fun hHeld => ?_)
 clear hK K
 refine norm_ (a' := ?_) ?_ ?_
 rotate_left
 ·show Act.put _ (some 30) _ = _
  simp only [Act.put, zO, zP, zR, i64_w, i32_w]
  rfl
 refine one_ (i := 2) (N := some 31) (zBM 35 23) rfl rfl (by kernel_rfl) (by decide) (fun K hK => ?_)
 refine goes_ Tryd.func26 (by kernel_rfl) rfl #[.slice A_1 ls.length c_1] (by rfl) rfl rfl (by (try simp only [List.map_toArray, List.map_cons, List.map_nil]); first | done | rfl) ?_
 refine (Fun_calls 400 ls A_1 c_1 _ HLSN.out HFLS.out hl_1 HC_1.out).mono ?_
 rintro e u_2 ⟨A_2, c_2, rfl, hl_2, hC_2, hb⟩
 have HC_2 := Lib.hid hC_2
 clear hC_2
 have HS_2 := Lib.hid hb
 have HB_2 := Lib.hid (bel2 HB_1.out hb)
 clear hb
 refine ⟨_, rfl, ?_⟩
 refine hK.out _ _ (L6.out _ HB_2.out) (fun hHeld => ?_)
 clear hK K
 refine norm_ (a' := ?_) ?_ ?_
 rotate_left
 ·show Act.put _ (some 31) _ = _
  simp only [Act.put, zO, zP, zR, i64_w, i32_w]
  rfl
 refine one_ (i := 3) (N := some 32) (zBM 35 31) rfl rfl (by kernel_rfl) (by decide) (fun K hK => ?_)
 refine goes_ Tryd.func14 (by kernel_rfl) rfl #[.agg #[.int .i64 (funL ls).f0, .int .i64 (funL ls).f1, .string (funL ls).f2, .slice A_2 (funL ls).f3.length c_2]] (by rfl) rfl rfl (by (try simp only [List.map_toArray, List.map_cons, List.map_nil]); first | done | rfl) ?_
 refine (c_ref (l.length + 400) (rFun l) HFun.out.2 (funL ls) HFun.out.1 A_2 c_2 _ hl_2 HC_2.out).mono ?_
 rintro e u_3 ⟨A_3, c_3, rfl, hl_3, hC_3, hb⟩
 have HC_3 := Lib.hid hC_3
 clear hC_3
 have HS_3 := Lib.hid hb
 have HB_3 := Lib.hid (bel2 HB_2.out hb)
 clear hb
 refine ⟨_, rfl, ?_⟩
 refine hK.out _ _ (L6.out _ HB_3.out) (fun hHeld => ?_)
 clear hK K
 refine norm_ (a' := ?_) ?_ ?_
 rotate_left
 ·show Act.put _ (some 32) _ = _
  simp only [Act.put, zO, zP, zR, i64_w, i32_w]
  rfl
 refine one_ (i := 5) (N := some 34) (zBM 35 63) rfl rfl (by kernel_rfl) (by decide) (fun K hK => ?_)
 refine goes_ Tryd.func27 (by kernel_rfl) rfl #[.slice Al l.length cl] (by rfl) rfl rfl (by (try simp only [List.map_toArray, List.map_cons, List.map_nil]); first | done | rfl) ?_
 refine (c_rfun l hn Al cl _ hlc (zAC HCL.out HB_3.out)).mono ?_
 rintro e u_4 ⟨A_4, c_4, rfl, hl_4, hC_4, hb⟩
 have HC_4 := Lib.hid hC_4
 clear hC_4
 have HS_4 := Lib.hid hb
 have HB_4 := Lib.hid (bel2 HB_3.out hb)
 clear hb
 refine ⟨_, rfl, ?_⟩
 refine hK.out _ _ (L6.out _ HB_4.out) (fun hHeld => ?_)
 clear hK K
 refine norm_ (a' := ?_) ?_ ?_
 rotate_left
 ·show Act.put _ (some 34) _ = _
  simp only [Act.put, zO, zP, zR, i64_w, i32_w]
  rfl
 refine one_ (i := 6) (N := some 35) (zBM 35 127) rfl rfl (by kernel_rfl) (by decide) (fun K hK => ?_)
 refine goes_ Tryd.func13 (by kernel_rfl) rfl #[.agg #[.int .i64 (rFun l).f0, .int .i64 (rFun l).f1, .string (rFun l).f2, .slice A_3 (rFun l).f3.length c_3], .agg #[.int .i64 (rFun l).f0, .int .i64 (rFun l).f1, .string (rFun l).f2, .slice A_4 (rFun l).f3.length c_4]] (by rfl) rfl rfl (by (try simp only [List.map_toArray, List.map_cons, List.map_nil]); first | done | rfl) ?_
 refine (c_same (l.length + 400) (rFun l) HFun.out.2 A_3 A_4 c_3 c_4 _ hl_3 (zAC HC_3.out HS_4.out) hl_4 HC_4.out).mono ?_
 rintro e u_5 ⟨rfl, hb⟩
 have HS_5 := Lib.hid hb
 have HB_5 := Lib.hid (bel2 HB_4.out hb)
 clear hb
 refine ⟨_, rfl, ?_⟩
 refine hK.out _ _ (L6.out _ HB_5.out) (fun hHeld => ?_)
 clear hK K
 refine norm_ (a' := ?_) ?_ ?_
 rotate_left
 ·show Act.put _ (some 35) _ = _
  simp only [Act.put, zO, zP, zR, i64_w, i32_w]
  rfl
 refine pure_ (i := 7) (N := some 36) (v := ?_) (a' := ?_) (zBM 35 255) rfl rfl (by kernel_rfl) (fun _ _ _ h => h) (Or.inl ⟨by rfl, ?_⟩) ?_ ?_
 rotate_left
 ·intro w'
  go_simp
  with_reducible rfl
 rotate_left
 ·simp only [Act.put, zO, zP, zR, i64_w, i32_w]
  rfl
 refine pure_ (i := 8) (N := some 37) (v := ?_) (a' := ?_) (zBM 35 511) rfl rfl (by kernel_rfl) (fun _ _ _ h => h) (Or.inl ⟨by rfl, ?_⟩) ?_ ?_
 rotate_left
 ·intro w'
  go_simp
  with_reducible rfl
 rotate_left
 ·simp only [Act.put, zO, zP, zR, i64_w, i32_w]
  rfl
 refine pure_ (i := 9) (N := some 38) (v := ?_) (a' := ?_) (zBM 35 1023) rfl rfl (by kernel_rfl) (fun _ _ _ h => h) (Or.inl ⟨by rfl, ?_⟩) ?_ ?_
 rotate_left
 ·intro w'
  go_simp
  with_reducible rfl
 rotate_left
 ·simp only [Act.put, zO, zP, zR, i64_w, i32_w]
  rfl
 refine pure_ (i := 13) (N := some 42) (v := ?_) (a' := ?_) (zBM 35 9215) rfl rfl (by kernel_rfl) (fun _ _ _ h => h) (Or.inl ⟨by rfl, ?_⟩) ?_ ?_
 rotate_left
 ·intro w'
  go_simp
  with_reducible rfl
 rotate_left
 ·simp only [Act.put, zO, zP, zR, i64_w, i32_w]
  rfl
 refine one_ (i := 10) (N := some 39) (zBM 35 10239) rfl rfl (by kernel_rfl) (by decide) (fun K hK => ?_)
 refine goes_ Tryd.func20 (by kernel_rfl) rfl #[.slice Al l.length cl] (by rfl) rfl rfl (by (try simp only [List.map_toArray, List.map_cons, List.map_nil]); first | done | rfl) ?_
 refine (HOWNS.out _ HB_5.out).mono ?_
 rintro e u_6 ⟨A_6, c_6, rfl, hl_6, hC_6, hb⟩
 have HC_6 := Lib.hid hC_6
 clear hC_6
 have HS_6 := Lib.hid hb
 have HB_6 := Lib.hid (bel2 HB_5.out hb)
 clear hb
 refine ⟨_, rfl, ?_⟩
 refine hK.out _ _ (L6.out _ HB_6.out) (fun hHeld => ?_)
 clear hK K
 refine norm_ (a' := ?_) ?_ ?_
 rotate_left
 ·show Act.put _ (some 39) _ = _
  simp only [Act.put, zO, zP, zR, i64_w, i32_w]
  rfl
 refine one_ (i := 11) (N := some 40) (zBM 35 12287) rfl rfl (by kernel_rfl) (by decide) (fun K hK => ?_)
 refine goes_ Tryd.func28 (by kernel_rfl) rfl #[.string ⟨#[84]⟩, .slice A_6 ls.length c_6] (by rfl) rfl rfl (by (try simp only [List.map_toArray, List.map_cons, List.map_nil]); first | done | rfl) ?_
 refine (HCON.out _ A_6 c_6 hl_6 HC_6.out).mono ?_
 rintro e u_7 ⟨A_7, c_7, rfl, hl_7, hC_7, hb⟩
 have HC_7 := Lib.hid hC_7
 clear hC_7
 have HS_7 := Lib.hid hb
 have HB_7 := Lib.hid (bel2 HB_6.out hb)
 clear hb
 refine ⟨_, rfl, ?_⟩
 refine hK.out _ _ (L6.out _ HB_7.out) (fun hHeld => ?_)
 clear hK K
 refine norm_ (a' := ?_) ?_ ?_
 rotate_left
 ·show Act.put _ (some 40) _ = _
  simp only [Act.put, zO, zP, zR, i64_w, i32_w]
  rfl
 refine one_ (i := 12) (N := some 41) (zBM 35 16383) rfl rfl (by kernel_rfl) (by decide) (fun K hK => ?_)
 refine goes_ Tryd.func14 (by kernel_rfl) rfl #[.agg #[.int .i64 (tc).f0, .int .i64 (tc).f1, .string (tc).f2, .slice A_7 (tc).f3.length c_7]] (by rfl) rfl rfl (by (try simp only [List.map_toArray, List.map_cons, List.map_nil]); first | done | rfl) ?_
 refine (c_ref 401 rc HRC.out.2 tc HRC.out.1 A_7 c_7 _ hl_7 HC_7.out).mono ?_
 rintro e u_8 ⟨A_8, c_8, rfl, hl_8, hC_8, hb⟩
 have HC_8 := Lib.hid hC_8
 clear hC_8
 have HS_8 := Lib.hid hb
 have HB_8 := Lib.hid (bel2 HB_7.out hb)
 clear hb
 refine ⟨_, rfl, ?_⟩
 refine hK.out _ _ (L6.out _ HB_8.out) (fun hHeld => ?_)
 clear hK K
 refine norm_ (a' := ?_) ?_ ?_
 rotate_left
 ·show Act.put _ (some 41) _ = _
  simp only [Act.put, zO, zP, zR, i64_w, i32_w]
  rfl
 refine one_ (i := 14) (N := some 43) (zBM 35 32767) rfl rfl (by kernel_rfl) (by decide) (fun K hK => ?_)
 refine goes_ Tryd.func29 (by kernel_rfl) rfl #[.string ⟨#[84]⟩, .slice Al l.length cl] (by rfl) rfl rfl (by (try simp only [List.map_toArray, List.map_cons, List.map_nil]); first | done | rfl) ?_
 refine (HRCON.out _ HB_8.out).mono ?_
 rintro e u_9 ⟨A_9, c_9, rfl, hl_9, hC_9, hb⟩
 have HC_9 := Lib.hid hC_9
 clear hC_9
 have HS_9 := Lib.hid hb
 have HB_9 := Lib.hid (bel2 HB_8.out hb)
 clear hb
 refine ⟨_, rfl, ?_⟩
 refine hK.out _ _ (L6.out _ HB_9.out) (fun hHeld => ?_)
 clear hK K
 refine norm_ (a' := ?_) ?_ ?_
 rotate_left
 ·show Act.put _ (some 43) _ = _
  simp only [Act.put, zO, zP, zR, i64_w, i32_w]
  rfl
 refine one_ (i := 15) (N := some 44) (zBM 35 65535) rfl rfl (by kernel_rfl) (by decide) (fun K hK => ?_)
 refine goes_ Tryd.func13 (by kernel_rfl) rfl #[.agg #[.int .i64 (rc).f0, .int .i64 (rc).f1, .string (rc).f2, .slice A_8 (rc).f3.length c_8], .agg #[.int .i64 (rc).f0, .int .i64 (rc).f1, .string (rc).f2, .slice A_9 (rc).f3.length c_9]] (by rfl) rfl rfl (by (try simp only [List.map_toArray, List.map_cons, List.map_nil]); first | done | rfl) ?_
 refine (c_same 401 rc HRC.out.2 A_8 A_9 c_8 c_9 _ hl_8 (zAC HC_8.out HS_9.out) hl_9 HC_9.out).mono ?_
 rintro e u_10 ⟨rfl, hb⟩
 have HS_10 := Lib.hid hb
 have HB_10 := Lib.hid (bel2 HB_9.out hb)
 clear hb
 refine ⟨_, rfl, ?_⟩
 refine hK.out _ _ (L6.out _ HB_10.out) (fun hHeld => ?_)
 clear hK K
 refine norm_ (a' := ?_) ?_ ?_
 rotate_left
 ·show Act.put _ (some 44) _ = _
  simp only [Act.put, zO, zP, zR, i64_w, i32_w]
  rfl
 refine pure_ (i := 16) (N := some 45) (v := ?_) (a' := ?_) (zBM 35 131071) rfl rfl (by kernel_rfl) (fun _ _ _ h => h) (Or.inl ⟨by rfl, ?_⟩) ?_ ?_
 rotate_left
 ·intro w'
  go_simp
  with_reducible rfl
 rotate_left
 ·simp only [Act.put, zO, zP, zR, i64_w, i32_w]
  rfl
 refine pure_ (i := 17) (N := some 46) (v := ?_) (a' := ?_) (zBM 35 262143) rfl rfl (by kernel_rfl) (fun _ _ _ h => h) (Or.inl ⟨by rfl, ?_⟩) ?_ ?_
 rotate_left
 ·intro w'
  go_simp
  with_reducible rfl
 rotate_left
 ·simp only [Act.put, zO, zP, zR, i64_w, i32_w]
  rfl
 refine pure_ (i := 18) (N := some 47) (v := ?_) (a' := ?_) (zBM 35 524287) rfl rfl (by kernel_rfl) (fun _ _ _ h => h) (Or.inl ⟨by rfl, ?_⟩) ?_ ?_
 rotate_left
 ·intro w'
  go_simp
  with_reducible rfl
 rotate_left
 ·simp only [Act.put, zO, zP, zR, i64_w, i32_w]
  rfl
 refine take_ (i := 19) (N := some 48) (v := ?_) (a' := ?_) (zBM 35 1048575) rfl rfl (by kernel_rfl) (fun _ _ _ h => h) (Or.inl ⟨by rfl, ?_⟩) hHeld ?_ ?_
 rotate_left
 ·rintro w' ⟨s0, s1, s2, s3, s4, s5, s6, s7, s8, s9, s10, s11⟩
  go_simp
  with_reducible rfl
 rotate_left
 ·simp only [Act.put, zO, zP, zR, i64_w, i32_w]
  rfl
 refine take_ (i := 21) (N := some 50) (v := ?_) (a' := ?_) (zBM 35 3145727) rfl rfl (by kernel_rfl) (fun _ _ _ h => h) (Or.inl ⟨by rfl, ?_⟩) hHeld ?_ ?_
 rotate_left
 ·rintro w' ⟨s0, s1, s2, s3, s4, s5, s6, s7, s8, s9, s10, s11⟩
  go_simp
  with_reducible rfl
 rotate_left
 ·simp only [Act.put, zO, zP, zR, i64_w, i32_w]
  rfl
 refine one_ (i := 20) (N := some 49) (zBM 35 4194303) rfl rfl (by kernel_rfl) (by decide) (fun K hK => ?_)
 refine goes_ Tryd.func21 (by kernel_rfl) rfl #[.agg #[.int .i64 (ownN 400 x).f0, .int .i64 (ownN 400 x).f1, .string (ownN 400 x).f2, .slice A4 (ownN 400 x).f3.length c4]] (by rfl) rfl rfl (by (try simp only [List.map_toArray, List.map_cons, List.map_nil]); first | done | rfl) ?_
 refine (HRIGHT.out _ HB_10.out).mono ?_
 rintro e u_11 ⟨rfl, hb⟩
 have HS_11 := Lib.hid hb
 have HB_11 := Lib.hid (bel2 HB_10.out hb)
 clear hb
 refine ⟨_, rfl, ?_⟩
 refine hK.out _ _ (L6.out _ HB_11.out) (fun hHeld => ?_)
 clear hK K
 refine norm_ (a' := ?_) ?_ ?_
 rotate_left
 ·show Act.put _ (some 49) _ = _
  simp only [Act.put, zO, zP, zR, i64_w, i32_w]
  rfl
 refine one_ (i := 22) (N := some 51) (zBM 35 8388607) rfl rfl (by kernel_rfl) (by decide) (fun K hK => ?_)
 refine goes_ Tryd.func17 (by kernel_rfl) rfl #[.agg #[.int .i64 (x).f0, .int .i64 (x).f1, .string (x).f2, .slice A (x).f3.length c]] (by rfl) rfl rfl (by (try simp only [List.map_toArray, List.map_cons, List.map_nil]); first | done | rfl) ?_
 refine (c_rright x A c _ hc (zAC HCX.out HB_11.out)).mono ?_
 rintro e u_12 ⟨rfl, hb⟩
 have HS_12 := Lib.hid hb
 have HB_12 := Lib.hid (bel2 HB_11.out hb)
 clear hb
 refine ⟨_, rfl, ?_⟩
 refine hK.out _ _ (L6.out _ HB_12.out) (fun hHeld => ?_)
 clear hK K
 refine norm_ (a' := ?_) ?_ ?_
 rotate_left
 ·show Act.put _ (some 51) _ = _
  simp only [Act.put, zO, zP, zR, i64_w, i32_w]
  rfl
 refine pure_ (i := 23) (N := some 52) (v := ?_) (a' := ?_) (zBM 35 16777215) rfl rfl (by kernel_rfl) (fun _ _ _ h => h) (Or.inl ⟨by rfl, ?_⟩) ?_ ?_
 rotate_left
 ·intro w'
  go_simp
  with_reducible rfl
 rotate_left
 ·simp only [Act.put, zO, zP, zR, i64_w, i32_w]
  rfl
 refine pure_ (i := 24) (N := some 53) (v := ?_) (a' := ?_) (zBM 35 33554431) rfl rfl (by kernel_rfl) (fun _ _ _ h => h) (Or.inl ⟨by rfl, ?_⟩) ?_ ?_
 rotate_left
 ·intro w'
  go_simp
  with_reducible rfl
 rotate_left
 ·simp only [Act.put, zO, zP, zR, i64_w, i32_w]
  rfl
 refine pure_ (i := 25) (N := some 54) (v := ?_) (a' := ?_) (zBM 35 67108863) rfl rfl (by kernel_rfl) (fun _ _ _ h => h) (Or.inl ⟨by rfl, ?_⟩) ?_ ?_
 rotate_left
 ·intro w'
  go_simp
  with_reducible rfl
 rotate_left
 ·simp only [Act.put, zO, zP, zR, i64_w, i32_w]
  rfl
 refine take_ (i := 26) (N := some 55) (v := ?_) (a' := ?_) (zBM 35 134217727) rfl rfl (by kernel_rfl) (fun _ _ _ h => h) (Or.inl ⟨by rfl, ?_⟩) hHeld ?_ ?_
 rotate_left
 ·rintro w' ⟨s0, s1, s2, s3, s4, s5, s6, s7, s8, s9, s10, s11⟩
  go_simp
  with_reducible rfl
 rotate_left
 ·simp only [Act.put, zO, zP, zR, i64_w, i32_w]
  rfl
 refine take_ (i := 27) (N := some 56) (v := ?_) (a' := ?_) (zBM 35 268435455) rfl rfl (by kernel_rfl) (fun _ _ _ h => h) (Or.inl ⟨by rfl, ?_⟩) hHeld ?_ ?_
 rotate_left
 ·rintro w' ⟨s0, s1, s2, s3, s4, s5, s6, s7, s8, s9, s10, s11⟩
  go_simp
  with_reducible rfl
 rotate_left
 ·simp only [Act.put, zO, zP, zR, i64_w, i32_w]
  rfl
 refine take_ (i := 30) (N := some 59) (v := ?_) (a' := ?_) (zBM 35 1342177279) rfl rfl (by kernel_rfl) (fun _ _ _ h => h) (Or.inl ⟨by rfl, ?_⟩) hHeld ?_ ?_
 rotate_left
 ·rintro w' ⟨s0, s1, s2, s3, s4, s5, s6, s7, s8, s9, s10, s11⟩
  go_simp
  with_reducible rfl
 rotate_left
 ·simp only [Act.put, zO, zP, zR, i64_w, i32_w]
  rfl
 refine take_ (i := 31) (N := some 60) (v := ?_) (a' := ?_) (zBM 35 3489660927) rfl rfl (by kernel_rfl) (fun _ _ _ h => h) (Or.inl ⟨by rfl, ?_⟩) hHeld ?_ ?_
 rotate_left
 ·rintro w' ⟨s0, s1, s2, s3, s4, s5, s6, s7, s8, s9, s10, s11⟩
  go_simp
  with_reducible rfl
 rotate_left
 ·simp only [Act.put, zO, zP, zR, i64_w, i32_w]
  rfl
 refine one_ (i := 28) (N := some 57) (zBM 35 3758096383) rfl rfl (by kernel_rfl) (by decide) (fun K hK => ?_)
 refine goes_ Tryd.func11 (by kernel_rfl) rfl #[.agg #[.int .i64 (y).f0, .int .i64 (y).f1, .string (y).f2, .slice B (y).f3.length d]] (by rfl) rfl rfl (by (try simp only [List.map_toArray, List.map_cons, List.map_nil]); first | done | rfl) ?_
 refine (c_own y HFY.out B d _ hd (zAC HCY.out HB_12.out)).mono ?_
 rintro e u_13 ⟨A_13, c_13, rfl, hl_13, hC_13, hb⟩
 have HC_13 := Lib.hid hC_13
 clear hC_13
 have HS_13 := Lib.hid hb
 have HB_13 := Lib.hid (bel2 HB_12.out hb)
 clear hb
 refine ⟨_, rfl, ?_⟩
 refine hK.out _ _ (L6.out _ HB_13.out) (fun hHeld => ?_)
 clear hK K
 refine norm_ (a' := ?_) ?_ ?_
 rotate_left
 ·show Act.put _ (some 57) _ = _
  simp only [Act.put, zO, zP, zR, i64_w, i32_w]
  rfl
 refine one_ (i := 29) (N := some 58) (zBM 35 4294967295) rfl rfl (by kernel_rfl) (by decide) (fun K hK => ?_)
 refine goes_ Tryd.func23 (by kernel_rfl) rfl #[.agg #[.int .i64 (ownN 400 x).f0, .int .i64 (ownN 400 x).f1, .string (ownN 400 x).f2, .slice A4 (ownN 400 x).f3.length c4], .agg #[.int .i64 (ownN 400 y).f0, .int .i64 (ownN 400 y).f1, .string (ownN 400 y).f2, .slice A_13 (ownN 400 y).f3.length c_13]] (by rfl) rfl rfl (by (try simp only [List.map_toArray, List.map_cons, List.map_nil]); first | done | rfl) ?_
 refine (c_tsame x y HFX.out A4 A_13 c4 c_13 _ hl4 (zAC HCT.out HB_13.out) hl_13 HC_13.out).mono ?_
 rintro e u_14 ⟨rfl, hb⟩
 have HS_14 := Lib.hid hb
 have HB_14 := Lib.hid (bel2 HB_13.out hb)
 clear hb
 refine ⟨_, rfl, ?_⟩
 refine hK.out _ _ (L6.out _ HB_14.out) (fun hHeld => ?_)
 clear hK K
 refine norm_ (a' := ?_) ?_ ?_
 rotate_left
 ·show Act.put _ (some 58) _ = _
  simp only [Act.put, zO, zP, zR, i64_w, i32_w]
  rfl
 refine one_ (i := 32) (N := some 61) (zBM 35 8589934591) rfl rfl (by kernel_rfl) (by decide) (fun K hK => ?_)
 refine goes_ Tryd.func13 (by kernel_rfl) rfl #[.agg #[.int .i64 (x).f0, .int .i64 (x).f1, .string (x).f2, .slice A (x).f3.length c], .agg #[.int .i64 (y).f0, .int .i64 (y).f1, .string (y).f2, .slice B (y).f3.length d]] (by rfl) rfl rfl (by (try simp only [List.map_toArray, List.map_cons, List.map_nil]); first | done | rfl) ?_
 refine (c_rsame x y HFX.out A B c d _ hc (zAC HCX.out HB_14.out) hd (zAC HCY.out HB_14.out)).mono ?_
 rintro e u_15 ⟨rfl, hb⟩
 have HS_15 := Lib.hid hb
 have HB_15 := Lib.hid (bel2 HB_14.out hb)
 clear hb
 refine ⟨_, rfl, ?_⟩
 refine hK.out _ _ (L6.out _ HB_15.out) (fun hHeld => ?_)
 clear hK K
 refine norm_ (a' := ?_) ?_ ?_
 rotate_left
 ·show Act.put _ (some 61) _ = _
  simp only [Act.put, zO, zP, zR, i64_w, i32_w]
  rfl
 refine pure_ (i := 33) (N := some 62) (v := ?_) (a' := ?_) (zBM 35 17179869183) rfl rfl (by kernel_rfl) (fun _ _ _ h => h) (Or.inl ⟨by rfl, ?_⟩) ?_ ?_
 rotate_left
 ·intro w'
  go_simp
  with_reducible rfl
 rotate_left
 ·simp only [Act.put, zO, zP, zR, i64_w, i32_w]
  rfl
 refine pure_ (i := 34) (N := some 63) (v := ?_) (a' := ?_) (zBM 35 34359738367) rfl rfl (by kernel_rfl) (fun _ _ _ h => h) (Or.inl ⟨by rfl, ?_⟩) ?_ ?_
 rotate_left
 ·intro w'
  go_simp
  with_reducible rfl
 rotate_left
 ·simp only [Act.put, zO, zP, zR, i64_w, i32_w]
  rfl
 refine done_ (by kernel_rfl) ?_
 clear hHeld
 go_wp2_with fail
 have HS_16 : Hid (Below u_15.heap.size u_15 u_15.drew) := Lib.hid ((Below.refl _ _).drew)
 have HB_16 : Hid (Below w7.heap.size w7 u_15.drew) := Lib.hid (bel2 HB_15.out HS_16.out)
 refine start_ (n := 55) (S := fun w' => w'.cell? ⟨w.heap.size, 0, none⟩ = some (.int .i64 (x).f0) ∧ w'.cell? ⟨w.heap.size, 1, none⟩ = some (.int .i64 (x).f1) ∧ w'.cell? ⟨w.heap.size, 2, none⟩ = some (.string (x).f2) ∧ w'.cell? ⟨w.heap.size, 3, none⟩ = some (.slice A (x).f3.length c) ∧ w'.cell? ⟨q4, 0, none⟩ = some (.int .i64 (ownN 400 x).f0) ∧ w'.cell? ⟨q4, 1, none⟩ = some (.int .i64 (ownN 400 x).f1) ∧ w'.cell? ⟨q4, 2, none⟩ = some (.string (ownN 400 x).f2) ∧ w'.cell? ⟨q4, 3, none⟩ = some (.slice A4 (ownN 400 x).f3.length c4) ∧ w'.cell? ⟨q5, 0, none⟩ = some (.int .i64 (schV (ownN 400 x))) ∧ w'.cell? ⟨q5, 1, none⟩ = some (.int .i64 (schT (ownN 400 x)).f0) ∧ w'.cell? ⟨q5, 2, none⟩ = some (.int .i64 (schT (ownN 400 x)).f1) ∧ w'.cell? ⟨q5, 3, none⟩ = some (.string (schT (ownN 400 x)).f2) ∧ w'.cell? ⟨q5, 4, none⟩ = some (.slice As (schT (ownN 400 x)).f3.length cs) ∧ w'.cell? ⟨q6, 0, none⟩ = some (.int .i64 (schV (ownN 400 x))) ∧ w'.cell? ⟨q6, 1, none⟩ = some (.int .i64 (rSchT x).f0) ∧ w'.cell? ⟨q6, 2, none⟩ = some (.int .i64 (rSchT x).f1) ∧ w'.cell? ⟨q6, 3, none⟩ = some (.string (rSchT x).f2) ∧ w'.cell? ⟨q6, 4, none⟩ = some (.slice Ar (rSchT x).f3.length cr)) (ds := []) #[false, false, false, false, false, false, false, false, false, false, false, false, false, false, false, false, false, false, false, false, false, false, false, false, false, false, false, false, false, false, false, false, false, false, false, false, false, false, false, false, false, false, false, false, false, false, false, false, false, false, false, false, false, false, false] (by kernel_rfl) rfl rfl (L8.out _ HB_16.out) (fun hHeld => ?_)
 refine take_ (i := 0) (N := some 64) (v := ?_) (a' := ?_) (zBM 55 1) rfl rfl (by kernel_rfl) (fun _ _ _ h => h) (Or.inl ⟨by rfl, ?_⟩) hHeld ?_ ?_
 rotate_left
 ·rintro w' ⟨s0, s1, s2, s3, s4, s5, s6, s7, s8, s9, s10, s11, s12, s13, s14, s15, s16, s17⟩
  go_simp
  with_reducible rfl
 rotate_left
 ·simp only [Act.put, zO, zP, zR, i64_w, i32_w]
  rfl
 refine take_ (i := 2) (N := some 66) (v := ?_) (a' := ?_) (zBM 55 5) rfl rfl (by kernel_rfl) (fun _ _ _ h => h) (Or.inl ⟨by rfl, ?_⟩) hHeld ?_ ?_
 rotate_left
 ·rintro w' ⟨s0, s1, s2, s3, s4, s5, s6, s7, s8, s9, s10, s11, s12, s13, s14, s15, s16, s17⟩
  go_simp
  with_reducible rfl
 rotate_left
 ·simp only [Act.put, zO, zP, zR, i64_w, i32_w]
  rfl
 refine one_ (i := 1) (N := some 65) (zBM 55 7) rfl rfl (by kernel_rfl) (by decide) (fun K hK => ?_)
 refine goes_ Tryd.func22 (by kernel_rfl) rfl #[.agg #[.int .i64 (ownN 400 x).f0, .int .i64 (ownN 400 x).f1, .string (ownN 400 x).f2, .slice A4 (ownN 400 x).f3.length c4]] (by rfl) rfl rfl (by (try simp only [List.map_toArray, List.map_cons, List.map_nil]); first | done | rfl) ?_
 refine (c_vars (ownN 400 x) HWX.out HVX.out A4 c4 _ hl4 (zAC HCT.out HB_16.out)).mono ?_
 rintro e u_17 ⟨A_17, c_17, rfl, hl_17, hC_17, hb⟩
 have HC_17 := Lib.hid hC_17
 clear hC_17
 have HS_17 := Lib.hid hb
 have HB_17 := Lib.hid (bel2 HB_16.out hb)
 clear hb
 refine ⟨_, rfl, ?_⟩
 refine hK.out _ _ (L8.out _ HB_17.out) (fun hHeld => ?_)
 clear hK K
 refine norm_ (a' := ?_) ?_ ?_
 rotate_left
 ·show Act.put _ (some 65) _ = _
  simp only [Act.put, zO, zP, zR, i64_w, i32_w]
  rfl
 refine one_ (i := 3) (N := some 67) (zBM 55 15) rfl rfl (by kernel_rfl) (by decide) (fun K hK => ?_)
 refine goes_ Tryd.func31 (by kernel_rfl) rfl #[.agg #[.int .i64 (x).f0, .int .i64 (x).f1, .string (x).f2, .slice A (x).f3.length c]] (by rfl) rfl rfl (by (try simp only [List.map_toArray, List.map_cons, List.map_nil]); first | done | rfl) ?_
 refine (c_rvars x HNX.out A c _ hc (zAC HCX.out HB_17.out)).mono ?_
 rintro e u_18 ⟨A_18, c_18, rfl, hl_18, hC_18, hb⟩
 have HC_18 := Lib.hid hC_18
 clear hC_18
 have HS_18 := Lib.hid hb
 have HB_18 := Lib.hid (bel2 HB_17.out hb)
 clear hb
 refine ⟨_, rfl, ?_⟩
 refine hK.out _ _ (L8.out _ HB_18.out) (fun hHeld => ?_)
 clear hK K
 refine norm_ (a' := ?_) ?_ ?_
 rotate_left
 ·show Act.put _ (some 67) _ = _
  simp only [Act.put, zO, zP, zR, i64_w, i32_w]
  rfl
 refine one_ (i := 4) (N := some 68) (zBM 55 31) rfl rfl (by kernel_rfl) (by decide) (fun K hK => ?_)
 refine goes_ Tryd.func30 (by kernel_rfl) rfl #[.slice A_17 (VarsB (ownN 400 x)).length c_17, .slice A_18 (VarsB (ownN 400 x)).length c_18] (by rfl) rfl rfl (by (try simp only [List.map_toArray, List.map_cons, List.map_nil]); first | done | rfl) ?_
 refine (c_lsame (VarsB (ownN 400 x)) HVL.out A_17 A_18 c_17 c_18 _ hl_17 (zAC HC_17.out HS_18.out) hl_18 HC_18.out).mono ?_
 rintro e u_19 ⟨rfl, hb⟩
 have HS_19 := Lib.hid hb
 have HB_19 := Lib.hid (bel2 HB_18.out hb)
 clear hb
 refine ⟨_, rfl, ?_⟩
 refine hK.out _ _ (L8.out _ HB_19.out) (fun hHeld => ?_)
 clear hK K
 refine norm_ (a' := ?_) ?_ ?_
 rotate_left
 ·show Act.put _ (some 68) _ = _
  simp only [Act.put, zO, zP, zR, i64_w, i32_w]
  rfl
 refine pure_ (i := 5) (N := some 69) (v := ?_) (a' := ?_) (zBM 55 63) rfl rfl (by kernel_rfl) (fun _ _ _ h => h) (Or.inl ⟨by rfl, ?_⟩) ?_ ?_
 rotate_left
 ·intro w'
  go_simp
  with_reducible rfl
 rotate_left
 ·simp only [Act.put, zO, zP, zR, i64_w, i32_w]
  rfl
 refine take_ (i := 6) (N := some 70) (v := ?_) (a' := ?_) (zBM 55 127) rfl rfl (by kernel_rfl) (fun _ _ _ h => h) (Or.inl ⟨by rfl, ?_⟩) hHeld ?_ ?_
 rotate_left
 ·rintro w' ⟨s0, s1, s2, s3, s4, s5, s6, s7, s8, s9, s10, s11, s12, s13, s14, s15, s16, s17⟩
  go_simp
  with_reducible rfl
 rotate_left
 ·simp only [Act.put, zO, zP, zR, i64_w, i32_w]
  rfl
 refine pure_ (i := 7) (N := some 71) (v := ?_) (a' := ?_) (zBM 55 255) rfl rfl (by kernel_rfl) (fun _ _ _ h => h) (Or.inl ⟨by rfl, ?_⟩) ?_ ?_
 rotate_left
 ·intro w'
  go_simp
  with_reducible rfl
 rotate_left
 ·simp only [Act.put, zO, zP, zR, i64_w, i32_w]
  rfl
 refine take_ (i := 11) (N := some 75) (v := ?_) (a' := ?_) (zBM 55 2303) rfl rfl (by kernel_rfl) (fun _ _ _ h => h) (Or.inl ⟨by rfl, ?_⟩) hHeld ?_ ?_
 rotate_left
 ·rintro w' ⟨s0, s1, s2, s3, s4, s5, s6, s7, s8, s9, s10, s11, s12, s13, s14, s15, s16, s17⟩
  go_simp
  with_reducible rfl
 rotate_left
 ·simp only [Act.put, zO, zP, zR, i64_w, i32_w]
  rfl
 refine pure_ (i := 12) (N := some 76) (v := ?_) (a' := ?_) (zBM 55 6399) rfl rfl (by kernel_rfl) (fun _ _ _ h => h) (Or.inl ⟨by rfl, ?_⟩) ?_ ?_
 rotate_left
 ·intro w'
  go_simp
  with_reducible rfl
 rotate_left
 ·simp only [Act.put, zO, zP, zR, i64_w, i32_w]
  rfl
 refine one_ (i := 8) (N := some 72) (zBM 55 6655) rfl rfl (by kernel_rfl) (by decide) (fun K hK => ?_)
 refine goes_ Tryd.func20 (by kernel_rfl) rfl #[.slice Al l.length cl] (by rfl) rfl rfl (by (try simp only [List.map_toArray, List.map_cons, List.map_nil]); first | done | rfl) ?_
 refine (HOWNS.out _ HB_19.out).mono ?_
 rintro e u_20 ⟨A_20, c_20, rfl, hl_20, hC_20, hb⟩
 have HC_20 := Lib.hid hC_20
 clear hC_20
 have HS_20 := Lib.hid hb
 have HB_20 := Lib.hid (bel2 HB_19.out hb)
 clear hb
 refine ⟨_, rfl, ?_⟩
 refine hK.out _ _ (L8.out _ HB_20.out) (fun hHeld => ?_)
 clear hK K
 refine norm_ (a' := ?_) ?_ ?_
 rotate_left
 ·show Act.put _ (some 72) _ = _
  simp only [Act.put, zO, zP, zR, i64_w, i32_w]
  rfl
 refine one_ (i := 9) (N := some 73) (zBM 55 7167) rfl rfl (by kernel_rfl) (by decide) (fun K hK => ?_)
 refine goes_ Tryd.func19 (by kernel_rfl) rfl #[.agg #[.int .i64 (ownN 400 x).f0, .int .i64 (ownN 400 x).f1, .string (ownN 400 x).f2, .slice A4 (ownN 400 x).f3.length c4], .slice A_20 ls.length c_20] (by rfl) rfl rfl (by (try simp only [List.map_toArray, List.map_cons, List.map_nil]); first | done | rfl) ?_
 refine (Subst_calls 400 (ownN 400 x) A4 c4 ls A_20 c_20 _ hl4 (zAC HCT.out HB_20.out) hl_20 HC_20.out HFLS.out).mono ?_
 rintro e u_21 ⟨A_21, c_21, rfl, hl_21, hC_21, hb⟩
 have HC_21 := Lib.hid hC_21
 clear hC_21
 have HS_21 := Lib.hid hb
 have HB_21 := Lib.hid (bel2 HB_20.out hb)
 clear hb
 refine ⟨_, rfl, ?_⟩
 refine hK.out _ _ (L8.out _ HB_21.out) (fun hHeld => ?_)
 clear hK K
 refine norm_ (a' := ?_) ?_ ?_
 rotate_left
 ·show Act.put _ (some 73) _ = _
  simp only [Act.put, zO, zP, zR, i64_w, i32_w]
  rfl
 refine one_ (i := 10) (N := some 74) (zBM 55 8191) rfl rfl (by kernel_rfl) (by decide) (fun K hK => ?_)
 refine goes_ Tryd.func14 (by kernel_rfl) rfl #[.agg #[.int .i64 (substB (ownN 400 x) ls).f0, .int .i64 (substB (ownN 400 x) ls).f1, .string (substB (ownN 400 x) ls).f2, .slice A_21 (substB (ownN 400 x) ls).f3.length c_21]] (by rfl) rfl rfl (by (try simp only [List.map_toArray, List.map_cons, List.map_nil]); first | done | rfl) ?_
 refine (c_ref 800 (rSub l x) HSub.out.2 (substB (ownN 400 x) ls) HSub.out.1 A_21 c_21 _ hl_21 HC_21.out).mono ?_
 rintro e u_22 ⟨A_22, c_22, rfl, hl_22, hC_22, hb⟩
 have HC_22 := Lib.hid hC_22
 clear hC_22
 have HS_22 := Lib.hid hb
 have HB_22 := Lib.hid (bel2 HB_21.out hb)
 clear hb
 refine ⟨_, rfl, ?_⟩
 refine hK.out _ _ (L8.out _ HB_22.out) (fun hHeld => ?_)
 clear hK K
 refine norm_ (a' := ?_) ?_ ?_
 rotate_left
 ·show Act.put _ (some 74) _ = _
  simp only [Act.put, zO, zP, zR, i64_w, i32_w]
  rfl
 refine one_ (i := 13) (N := some 77) (zBM 55 16383) rfl rfl (by kernel_rfl) (by decide) (fun K hK => ?_)
 refine goes_ Tryd.func32 (by kernel_rfl) rfl #[.agg #[.int .i64 (x).f0, .int .i64 (x).f1, .string (x).f2, .slice A (x).f3.length c], .slice Al l.length cl] (by rfl) rfl rfl (by (try simp only [List.map_toArray, List.map_cons, List.map_nil]); first | done | rfl) ?_
 refine (c_rsubst x l A Al c cl _ hc (zAC HCX.out HB_22.out) hlc (zAC HCL.out HB_22.out)).mono ?_
 rintro e u_23 ⟨A_23, c_23, rfl, hl_23, hC_23, hb⟩
 have HC_23 := Lib.hid hC_23
 clear hC_23
 have HS_23 := Lib.hid hb
 have HB_23 := Lib.hid (bel2 HB_22.out hb)
 clear hb
 refine ⟨_, rfl, ?_⟩
 refine hK.out _ _ (L8.out _ HB_23.out) (fun hHeld => ?_)
 clear hK K
 refine norm_ (a' := ?_) ?_ ?_
 rotate_left
 ·show Act.put _ (some 77) _ = _
  simp only [Act.put, zO, zP, zR, i64_w, i32_w]
  rfl
 refine one_ (i := 14) (N := some 78) (zBM 55 32767) rfl rfl (by kernel_rfl) (by decide) (fun K hK => ?_)
 refine goes_ Tryd.func13 (by kernel_rfl) rfl #[.agg #[.int .i64 (rSub l x).f0, .int .i64 (rSub l x).f1, .string (rSub l x).f2, .slice A_22 (rSub l x).f3.length c_22], .agg #[.int .i64 (rSub l x).f0, .int .i64 (rSub l x).f1, .string (rSub l x).f2, .slice A_23 (rSub l x).f3.length c_23]] (by rfl) rfl rfl (by (try simp only [List.map_toArray, List.map_cons, List.map_nil]); first | done | rfl) ?_
 refine (c_same 800 (rSub l x) HSub.out.2 A_22 A_23 c_22 c_23 _ hl_22 (zAC HC_22.out HS_23.out) hl_23 HC_23.out).mono ?_
 rintro e u_24 ⟨rfl, hb⟩
 have HS_24 := Lib.hid hb
 have HB_24 := Lib.hid (bel2 HB_23.out hb)
 clear hb
 refine ⟨_, rfl, ?_⟩
 refine hK.out _ _ (L8.out _ HB_24.out) (fun hHeld => ?_)
 clear hK K
 refine norm_ (a' := ?_) ?_ ?_
 rotate_left
 ·show Act.put _ (some 78) _ = _
  simp only [Act.put, zO, zP, zR, i64_w, i32_w]
  rfl
 refine pure_ (i := 15) (N := some 79) (v := ?_) (a' := ?_) (zBM 55 65535) rfl rfl (by kernel_rfl) (fun _ _ _ h => h) (Or.inl ⟨by rfl, ?_⟩) ?_ ?_
 rotate_left
 ·intro w'
  go_simp
  with_reducible rfl
 rotate_left
 ·simp only [Act.put, zO, zP, zR, i64_w, i32_w]
  rfl
 refine pure_ (i := 16) (N := some 80) (v := ?_) (a' := ?_) (zBM 55 131071) rfl rfl (by kernel_rfl) (fun _ _ _ h => h) (Or.inl ⟨by rfl, ?_⟩) ?_ ?_
 rotate_left
 ·intro w'
  go_simp
  with_reducible rfl
 rotate_left
 ·simp only [Act.put, zO, zP, zR, i64_w, i32_w]
  rfl
 refine pure_ (i := 17) (N := some 81) (v := ?_) (a' := ?_) (zBM 55 262143) rfl rfl (by kernel_rfl) (fun _ _ _ h => h) (Or.inl ⟨by rfl, ?_⟩) ?_ ?_
 rotate_left
 ·intro w'
  go_simp
  with_reducible rfl
 rotate_left
 ·simp only [Act.put, zO, zP, zR, i64_w, i32_w]
  rfl
 refine take_ (i := 18) (N := some 82) (v := ?_) (a' := ?_) (zBM 55 524287) rfl rfl (by kernel_rfl) (fun _ _ _ h => h) (Or.inl ⟨by rfl, ?_⟩) hHeld ?_ ?_
 rotate_left
 ·rintro w' ⟨s0, s1, s2, s3, s4, s5, s6, s7, s8, s9, s10, s11, s12, s13, s14, s15, s16, s17⟩
  go_simp
  with_reducible rfl
 rotate_left
 ·simp only [Act.put, zO, zP, zR, i64_w, i32_w]
  rfl
 refine pure_ (i := 19) (N := some 83) (v := ?_) (a' := ?_) (zBM 55 1048575) rfl rfl (by kernel_rfl) (fun _ _ _ h => h) (Or.inl ⟨by rfl, ?_⟩) ?_ ?_
 rotate_left
 ·intro w'
  go_simp
  with_reducible rfl
 rotate_left
 ·simp only [Act.put, zO, zP, zR, i64_w, i32_w]
  rfl
 refine take_ (i := 20) (N := some 84) (v := ?_) (a' := ?_) (zBM 55 2097151) rfl rfl (by kernel_rfl) (fun _ _ _ h => h) (Or.inl ⟨by rfl, ?_⟩) hHeld ?_ ?_
 rotate_left
 ·rintro w' ⟨s0, s1, s2, s3, s4, s5, s6, s7, s8, s9, s10, s11, s12, s13, s14, s15, s16, s17⟩
  go_simp
  with_reducible rfl
 rotate_left
 ·simp only [Act.put, zO, zP, zR, i64_w, i32_w]
  rfl
 refine pure_ (i := 21) (N := some 85) (v := ?_) (a' := ?_) (zBM 55 4194303) rfl rfl (by kernel_rfl) (fun _ _ _ h => h) (Or.inl ⟨by rfl, ?_⟩) ?_ ?_
 rotate_left
 ·intro w'
  go_simp
  with_reducible rfl
 rotate_left
 ·simp only [Act.put, zO, zP, zR, i64_w, i32_w]
  rfl
 refine pure_ (i := 22) (N := some 86) (v := ?_) (a' := ?_) (zBM 55 8388607) rfl rfl (by kernel_rfl) (fun _ _ _ h => h) (Or.inl ⟨by rfl, ?_⟩) ?_ ?_
 rotate_left
 ·intro w'
  go_simp
  with_reducible rfl
 rotate_left
 ·simp only [Act.put, zO, zP, zR, i64_w, i32_w]
  rfl
 refine pure_ (i := 23) (N := some 87) (v := ?_) (a' := ?_) (zBM 55 16777215) rfl rfl (by kernel_rfl) (fun _ _ _ h => h) (Or.inl ⟨by rfl, ?_⟩) ?_ ?_
 rotate_left
 ·intro w'
  go_simp
  with_reducible rfl
 rotate_left
 ·simp only [Act.put, zO, zP, zR, i64_w, i32_w]
  rfl
 refine pure_ (i := 24) (N := some 88) (v := ?_) (a' := ?_) (zBM 55 33554431) rfl rfl (by kernel_rfl) (fun _ _ _ h => h) (Or.inl ⟨by rfl, ?_⟩) ?_ ?_
 rotate_left
 ·intro w'
  go_simp
  with_reducible rfl
 rotate_left
 ·simp only [Act.put, zO, zP, zR, i64_w, i32_w]
  rfl
 refine take_ (i := 25) (N := some 89) (v := ?_) (a' := ?_) (zBM 55 67108863) rfl rfl (by kernel_rfl) (fun _ _ _ h => h) (Or.inl ⟨by rfl, ?_⟩) hHeld ?_ ?_
 rotate_left
 ·rintro w' ⟨s0, s1, s2, s3, s4, s5, s6, s7, s8, s9, s10, s11, s12, s13, s14, s15, s16, s17⟩
  go_simp
  with_reducible rfl
 rotate_left
 ·simp only [Act.put, zO, zP, zR, i64_w, i32_w]
  rfl
 refine pure_ (i := 27) (N := some 91) (v := ?_) (a' := ?_) (zBM 55 201326591) rfl rfl (by kernel_rfl) (fun _ _ _ h => h) (Or.inl ⟨by rfl, ?_⟩) ?_ ?_
 rotate_left
 ·intro w'
  go_simp
  with_reducible rfl
 rotate_left
 ·simp only [Act.put, zO, zP, zR, i64_w, i32_w]
  rfl
 refine take_ (i := 28) (N := some 92) (v := ?_) (a' := ?_) (zBM 55 469762047) rfl rfl (by kernel_rfl) (fun _ _ _ h => h) (Or.inl ⟨by rfl, ?_⟩) hHeld ?_ ?_
 rotate_left
 ·rintro w' ⟨s0, s1, s2, s3, s4, s5, s6, s7, s8, s9, s10, s11, s12, s13, s14, s15, s16, s17⟩
  go_simp
  with_reducible rfl
 rotate_left
 ·simp only [Act.put, zO, zP, zR, i64_w, i32_w]
  rfl
 refine one_ (i := 26) (N := some 90) (zBM 55 536870911) rfl rfl (by kernel_rfl) (by decide) (fun K hK => ?_)
 refine goes_ Tryd.func14 (by kernel_rfl) rfl #[.agg #[.int .i64 (schT (ownN 400 x)).f0, .int .i64 (schT (ownN 400 x)).f1, .string (schT (ownN 400 x)).f2, .slice As (schT (ownN 400 x)).f3.length cs]] (by rfl) rfl rfl (by (try simp only [List.map_toArray, List.map_cons, List.map_nil]); first | done | rfl) ?_
 refine (c_ref 400 (rSchT x) HSch.out.2 (schT (ownN 400 x)) HSch.out.1 As cs _ hls (zAC HCS.out HB_24.out)).mono ?_
 rintro e u_25 ⟨A_25, c_25, rfl, hl_25, hC_25, hb⟩
 have HC_25 := Lib.hid hC_25
 clear hC_25
 have HS_25 := Lib.hid hb
 have HB_25 := Lib.hid (bel2 HB_24.out hb)
 clear hb
 refine ⟨_, rfl, ?_⟩
 refine hK.out _ _ (L8.out _ HB_25.out) (fun hHeld => ?_)
 clear hK K
 refine norm_ (a' := ?_) ?_ ?_
 rotate_left
 ·show Act.put _ (some 90) _ = _
  simp only [Act.put, zO, zP, zR, i64_w, i32_w]
  rfl
 refine one_ (i := 29) (N := some 93) (zBM 55 1073741823) rfl rfl (by kernel_rfl) (by decide) (fun K hK => ?_)
 refine goes_ Tryd.func13 (by kernel_rfl) rfl #[.agg #[.int .i64 (rSchT x).f0, .int .i64 (rSchT x).f1, .string (rSchT x).f2, .slice A_25 (rSchT x).f3.length c_25], .agg #[.int .i64 (rSchT x).f0, .int .i64 (rSchT x).f1, .string (rSchT x).f2, .slice Ar (rSchT x).f3.length cr]] (by rfl) rfl rfl (by (try simp only [List.map_toArray, List.map_cons, List.map_nil]); first | done | rfl) ?_
 refine (c_same 400 (rSchT x) HSch.out.2 A_25 Ar c_25 cr _ hl_25 HC_25.out hlr (zAC HCR.out HB_25.out)).mono ?_
 rintro e u_26 ⟨rfl, hb⟩
 have HS_26 := Lib.hid hb
 have HB_26 := Lib.hid (bel2 HB_25.out hb)
 clear hb
 refine ⟨_, rfl, ?_⟩
 refine hK.out _ _ (L8.out _ HB_26.out) (fun hHeld => ?_)
 clear hK K
 refine norm_ (a' := ?_) ?_ ?_
 rotate_left
 ·show Act.put _ (some 93) _ = _
  simp only [Act.put, zO, zP, zR, i64_w, i32_w]
  rfl
 refine pure_ (i := 30) (N := some 94) (v := ?_) (a' := ?_) (zBM 55 2147483647) rfl rfl (by kernel_rfl) (fun _ _ _ h => h) (Or.inl ⟨by rfl, ?_⟩) ?_ ?_
 rotate_left
 ·intro w'
  go_simp
  with_reducible rfl
 rotate_left
 ·simp only [Act.put, zO, zP, zR, i64_w, i32_w]
  rfl
 refine pure_ (i := 31) (N := some 95) (v := ?_) (a' := ?_) (zBM 55 4294967295) rfl rfl (by kernel_rfl) (fun _ _ _ h => h) (Or.inl ⟨by rfl, ?_⟩) ?_ ?_
 rotate_left
 ·intro w'
  go_simp
  with_reducible rfl
 rotate_left
 ·simp only [Act.put, zO, zP, zR, i64_w, i32_w]
  rfl
 refine take_ (i := 32) (N := some 96) (v := ?_) (a' := ?_) (zBM 55 8589934591) rfl rfl (by kernel_rfl) (fun _ _ _ h => h) (Or.inl ⟨by rfl, ?_⟩) hHeld ?_ ?_
 rotate_left
 ·rintro w' ⟨s0, s1, s2, s3, s4, s5, s6, s7, s8, s9, s10, s11, s12, s13, s14, s15, s16, s17⟩
  go_simp
  with_reducible rfl
 rotate_left
 ·simp only [Act.put, zO, zP, zR, i64_w, i32_w]
  rfl
 refine one_ (i := 33) (N := some 97) (zBM 55 17179869183) rfl rfl (by kernel_rfl) (by decide) (fun K hK => ?_)
 refine goes_ Tryd.func33 (by kernel_rfl) rfl #[.agg #[.int .i64 (x).f0, .int .i64 (x).f1, .string (x).f2, .slice A (x).f3.length c]] (by rfl) rfl rfl (by (try simp only [List.map_toArray, List.map_cons, List.map_nil]); first | done | rfl) ?_
 refine (hammocklaw09_lists.calls klis x.f0 x.f1 x.f2 A c x.f3 blis _ (zAC HCX.out HB_26.out) hc HLIS.out).mono ?_
 rintro e u_27 ⟨rfl, hb⟩
 have HS_27 := Lib.hid hb
 have HB_27 := Lib.hid (bel2 HB_26.out hb)
 clear hb
 refine ⟨_, rfl, ?_⟩
 refine hK.out _ _ (L8.out _ HB_27.out) (fun hHeld => ?_)
 clear hK K
 refine norm_ (a' := ?_) ?_ ?_
 rotate_left
 ·show Act.put _ (some 97) _ = _
  simp only [Act.put, zO, zP, zR, i64_w, i32_w]
  rfl
 cases blis
 case' true =>
  refine pure_ (i := 34) (N := some 98) (v := ?_) (a' := ?_) (zBM 55 34359738367) rfl rfl (by kernel_rfl) (fun _ _ _ h => h) (Or.inl ⟨by rfl, ?_⟩) ?_ ?_
  rotate_left
  ·intro w'
   go_simp
   with_reducible rfl
  rotate_left
  ·simp only [Act.put, zO, zP, zR, i64_w, i32_w]
   rfl
  refine pure_ (i := 35) (N := some 99) (v := ?_) (a' := ?_) (zBM 55 68719476735) rfl rfl (by kernel_rfl) (fun _ _ _ h => h) (Or.inl ⟨by rfl, ?_⟩) ?_ ?_
  rotate_left
  ·intro w'
   go_simp
   with_reducible rfl
  rotate_left
  ·simp only [Act.put, zO, zP, zR, i64_w, i32_w]
   rfl
  refine take_ (i := 36) (N := some 100) (v := ?_) (a' := ?_) (zBM 55 137438953471) rfl rfl (by kernel_rfl) (fun _ _ _ h => h) (Or.inl ⟨by rfl, ?_⟩) hHeld ?_ ?_
  rotate_left
  ·rintro w' ⟨s0, s1, s2, s3, s4, s5, s6, s7, s8, s9, s10, s11, s12, s13, s14, s15, s16, s17⟩
   go_simp
   with_reducible rfl
  rotate_left
  ·simp only [Act.put, zO, zP, zR, i64_w, i32_w]
   rfl
  refine take_ (i := 38) (N := some 102) (v := ?_) (a' := ?_) (zBM 55 412316860415) rfl rfl (by kernel_rfl) (fun _ _ _ h => h) (Or.inl ⟨by rfl, ?_⟩) hHeld ?_ ?_
  rotate_left
  ·rintro w' ⟨s0, s1, s2, s3, s4, s5, s6, s7, s8, s9, s10, s11, s12, s13, s14, s15, s16, s17⟩
   go_simp
   with_reducible rfl
  rotate_left
  ·simp only [Act.put, zO, zP, zR, i64_w, i32_w]
   rfl
  refine one_ (i := 37) (N := some 101) (zBM 55 549755813887) rfl rfl (by kernel_rfl) (by decide) (fun K hK => ?_)
  refine goes_ Tryd.func34 (by kernel_rfl) rfl #[.agg #[.int .i64 (ownN 400 x).f0, .int .i64 (ownN 400 x).f1, .string (ownN 400 x).f2, .slice A4 (ownN 400 x).f3.length c4]] (by rfl) rfl rfl (by (try simp only [List.map_toArray, List.map_cons, List.map_nil]); first | done | rfl) ?_
  refine (c_print (ownN 400 x) HVN.out HSH.out A4 c4 _ hl4 (zAC HCT.out HB_27.out) (HTAB.out.below HB_27.out)).mono ?_
  rintro e u_28 ⟨rfl, hb⟩
  have HS_28 := Lib.hid hb
  have HB_28 := Lib.hid (bel2 HB_27.out hb)
  clear hb
  refine ⟨_, rfl, ?_⟩
  refine hK.out _ _ (L8.out _ HB_28.out) (fun hHeld => ?_)
  clear hK K
  refine norm_ (a' := ?_) ?_ ?_
  rotate_left
  ·show Act.put _ (some 101) _ = _
   simp only [Act.put, zO, zP, zR, i64_w, i32_w]
   rfl
  refine one_ (i := 39) (N := some 103) (zBM 55 1099511627775) rfl rfl (by kernel_rfl) (by decide) (fun K hK => ?_)
  refine goes_ Tryd.func35 (by kernel_rfl) rfl #[.agg #[.int .i64 (x).f0, .int .i64 (x).f1, .string (x).f2, .slice A (x).f3.length c]] (by rfl) rfl rfl (by (try simp only [List.map_toArray, List.map_cons, List.map_nil]); first | done | rfl) ?_
  refine (c_rprint x HVN.out HSH.out A c _ hc (zAC HCX.out HB_28.out)).mono ?_
  rintro e u_29 ⟨rfl, hb⟩
  have HS_29 := Lib.hid hb
  have HB_29 := Lib.hid (bel2 HB_28.out hb)
  clear hb
  refine ⟨_, rfl, ?_⟩
  refine hK.out _ _ (L8.out _ HB_29.out) (fun hHeld => ?_)
  clear hK K
  refine norm_ (a' := ?_) ?_ ?_
  rotate_left
  ·show Act.put _ (some 103) _ = _
   simp only [Act.put, zO, zP, zR, i64_w, i32_w]
   rfl
  refine pure_ (i := 40) (N := some 104) (v := ?_) (a' := ?_) (zBM 55 2199023255551) rfl rfl (by kernel_rfl) (fun _ _ _ h => h) (Or.inl ⟨by rfl, ?_⟩) ?_ ?_
  rotate_left
  ·intro w'
   go_simp
   with_reducible rfl
  rotate_left
  ·simp only [Act.put, zO, zP, zR, i64_w, i32_w]
   rfl
  have HB_50 := HB_29
 case' false =>
  refine pure_ (i := 34) (N := some 98) (v := ?_) (a' := ?_) (zBM 55 34359738367) rfl rfl (by kernel_rfl) (fun _ _ _ h => h) (Or.inl ⟨by rfl, ?_⟩) ?_ ?_
  rotate_left
  ·intro w'
   go_simp
   with_reducible rfl
  rotate_left
  ·simp only [Act.put, zO, zP, zR, i64_w, i32_w]
   rfl
  refine pure_ (i := 35) (N := some 99) (v := ?_) (a' := ?_) (zBM 55 68719476735) rfl rfl (by kernel_rfl) (fun _ _ _ h => h) (Or.inl ⟨by rfl, ?_⟩) ?_ ?_
  rotate_left
  ·intro w'
   go_simp
   with_reducible rfl
  rotate_left
  ·simp only [Act.put, zO, zP, zR, i64_w, i32_w]
   rfl
  refine pure_ (i := 36) (N := some 100) (v := _) (a' := ?_) (zBM 55 137438953471) rfl rfl (by kernel_rfl) (fun _ _ _ h => h) (Or.inr ⟨by rfl, rfl⟩) ?_ ?_
  rotate_left
  ·simp only [Act.put, zO, zP, zR, i64_w, i32_w]
   rfl
  refine pure_ (i := 38) (N := some 102) (v := _) (a' := ?_) (zBM 55 412316860415) rfl rfl (by kernel_rfl) (fun _ _ _ h => h) (Or.inr ⟨by rfl, rfl⟩) ?_ ?_
  rotate_left
  ·simp only [Act.put, zO, zP, zR, i64_w, i32_w]
   rfl
  refine one_ (i := 37) (N := some 101) (zBM 55 549755813887) rfl rfl (by kernel_rfl) (by decide) (fun K hK => ?_)
  refine off_ (by rfl) ?_
  refine hK.out _ _ (L8.out _ HB_27.out) (fun hHeld => ?_)
  clear hK K
  refine norm_ (a' := ?_) ?_ ?_
  rotate_left
  ·show Act.put _ (some 101) _ = _
   simp only [Act.put, zO, zP, zR, i64_w, i32_w]
   rfl
  refine one_ (i := 39) (N := some 103) (zBM 55 1099511627775) rfl rfl (by kernel_rfl) (by decide) (fun K hK => ?_)
  refine off_ (by rfl) ?_
  refine hK.out _ _ (L8.out _ HB_27.out) (fun hHeld => ?_)
  clear hK K
  refine norm_ (a' := ?_) ?_ ?_
  rotate_left
  ·show Act.put _ (some 103) _ = _
   simp only [Act.put, zO, zP, zR, i64_w, i32_w]
   rfl
  refine pure_ (i := 40) (N := some 104) (v := _) (a' := ?_) (zBM 55 2199023255551) rfl rfl (by kernel_rfl) (fun _ _ _ h => h) (Or.inr ⟨by rfl, rfl⟩) ?_ ?_
  rotate_left
  ·simp only [Act.put, zO, zP, zR, i64_w, i32_w]
   rfl
  have HB_50 := HB_27
 all_goals (
  refine pure_ (i := 41) (N := some 105) (v := ?_) (a' := ?_) (zBM 55 4398046511103) rfl rfl (by kernel_rfl) (fun _ _ _ h => h) (Or.inl ⟨by rfl, ?_⟩) ?_ ?_
  rotate_left
  ·intro w'
   go_simp
   with_reducible rfl
  rotate_left
  ·simp only [Act.put, zO, zP, zR, i64_w, i32_w]
   rfl
  refine pure_ (i := 42) (N := some 106) (v := ?_) (a' := ?_) (zBM 55 8796093022207) rfl rfl (by kernel_rfl) (fun _ _ _ h => h) (Or.inl ⟨by rfl, ?_⟩) ?_ ?_
  rotate_left
  ·intro w'
   go_simp
   with_reducible rfl
  rotate_left
  ·simp only [Act.put, zO, zP, zR, i64_w, i32_w]
   rfl
  refine pure_ (i := 43) (N := some 107) (v := ?_) (a' := ?_) (zBM 55 17592186044415) rfl rfl (by kernel_rfl) (fun _ _ _ h => h) (Or.inl ⟨by rfl, ?_⟩) ?_ ?_
  rotate_left
  ·intro w'
   go_simp
   with_reducible rfl
  rotate_left
  ·simp only [Act.put, zO, zP, zR, i64_w, i32_w]
   rfl
  refine take_ (i := 44) (N := some 108) (v := ?_) (a' := ?_) (zBM 55 35184372088831) rfl rfl (by kernel_rfl) (fun _ _ _ h => h) (Or.inl ⟨by rfl, ?_⟩) hHeld ?_ ?_
  rotate_left
  ·rintro w' ⟨s0, s1, s2, s3, s4, s5, s6, s7, s8, s9, s10, s11, s12, s13, s14, s15, s16, s17⟩
   go_simp
   with_reducible rfl
  rotate_left
  ·simp only [Act.put, zO, zP, zR, i64_w, i32_w]
   rfl
  refine take_ (i := 47) (N := some 111) (v := ?_) (a' := ?_) (zBM 55 175921860444159) rfl rfl (by kernel_rfl) (fun _ _ _ h => h) (Or.inl ⟨by rfl, ?_⟩) hHeld ?_ ?_
  rotate_left
  ·rintro w' ⟨s0, s1, s2, s3, s4, s5, s6, s7, s8, s9, s10, s11, s12, s13, s14, s15, s16, s17⟩
   go_simp
   with_reducible rfl
  rotate_left
  ·simp only [Act.put, zO, zP, zR, i64_w, i32_w]
   rfl
  refine one_ (i := 45) (N := some 109) (zBM 55 211106232532991) rfl rfl (by kernel_rfl) (by decide) (fun K hK => ?_)
  refine goes_ Tryd.func38 (by kernel_rfl) rfl #[.agg #[.int .i64 (ownN 400 x).f0, .int .i64 (ownN 400 x).f1, .string (ownN 400 x).f2, .slice A4 (ownN 400 x).f3.length c4]] (by rfl) rfl rfl (by (try simp only [List.map_toArray, List.map_cons, List.map_nil]); first | done | rfl) ?_
  refine (c_tree x HVN.out A4 c4 _ hl4 (zAC HCT.out HB_50.out) (HTAB.out.below HB_50.out)).mono ?_
  rintro e u_51 ⟨A_51, c_51, rfl, hl_51, hC_51, hb⟩
  have HC_51 := Lib.hid hC_51
  clear hC_51
  have HS_51 := Lib.hid hb
  have HB_51 := Lib.hid (bel2 HB_50.out hb)
  clear hb
  refine ⟨_, rfl, ?_⟩
  refine hK.out _ _ (L8.out _ HB_51.out) (fun hHeld => ?_)
  clear hK K
  refine norm_ (a' := ?_) ?_ ?_
  rotate_left
  ·show Act.put _ (some 109) _ = _
   simp only [Act.put, zO, zP, zR, i64_w, i32_w]
   rfl
  refine one_ (i := 46) (N := some 110) (zBM 55 281474976710655) rfl rfl (by kernel_rfl) (by decide) (fun K hK => ?_)
  refine goes_ Tryd.func37 (by kernel_rfl) rfl #[.agg #[.int .i64 (pTree x).f0, .int .i64 (pTree x).f1, .string (pTree x).f2, .slice A_51 (pTree x).f3.length c_51]] (by rfl) rfl rfl (by (try simp only [List.map_toArray, List.map_cons, List.map_nil]); first | done | rfl) ?_
  refine (c_reft x HFX.out A_51 c_51 _ hl_51 HC_51.out).mono ?_
  rintro e u_52 ⟨A_52, c_52, rfl, hl_52, hC_52, hb⟩
  have HC_52 := Lib.hid hC_52
  clear hC_52
  have HS_52 := Lib.hid hb
  have HB_52 := Lib.hid (bel2 HB_51.out hb)
  clear hb
  refine ⟨_, rfl, ?_⟩
  refine hK.out _ _ (L8.out _ HB_52.out) (fun hHeld => ?_)
  clear hK K
  refine norm_ (a' := ?_) ?_ ?_
  rotate_left
  ·show Act.put _ (some 110) _ = _
   simp only [Act.put, zO, zP, zR, i64_w, i32_w]
   rfl
  refine one_ (i := 48) (N := some 112) (zBM 55 562949953421311) rfl rfl (by kernel_rfl) (by decide) (fun K hK => ?_)
  refine goes_ Tryd.func39 (by kernel_rfl) rfl #[.agg #[.int .i64 (x).f0, .int .i64 (x).f1, .string (x).f2, .slice A (x).f3.length c]] (by rfl) rfl rfl (by (try simp only [List.map_toArray, List.map_cons, List.map_nil]); first | done | rfl) ?_
  refine (c_rtree x HFX.out HVN.out A c _ hc (zAC HCX.out HB_52.out)).mono ?_
  rintro e u_53 ⟨A_53, c_53, rfl, hl_53, hC_53, hb⟩
  have HC_53 := Lib.hid hC_53
  clear hC_53
  have HS_53 := Lib.hid hb
  have HB_53 := Lib.hid (bel2 HB_52.out hb)
  clear hb
  refine ⟨_, rfl, ?_⟩
  refine hK.out _ _ (L8.out _ HB_53.out) (fun hHeld => ?_)
  clear hK K
  refine norm_ (a' := ?_) ?_ ?_
  rotate_left
  ·show Act.put _ (some 112) _ = _
   simp only [Act.put, zO, zP, zR, i64_w, i32_w]
   rfl
  refine one_ (i := 49) (N := some 113) (zBM 55 1125899906842623) rfl rfl (by kernel_rfl) (by decide) (fun K hK => ?_)
  refine goes_ Tryd.func36 (by kernel_rfl) rfl #[.agg #[.int .i64 (rTree x).f0, .int .i64 (rTree x).f1, .string (rTree x).f2, .slice A_52 (rTree x).f3.length c_52], .agg #[.int .i64 (rTree x).f0, .int .i64 (rTree x).f1, .string (rTree x).f2, .slice A_53 (rTree x).f3.length c_53]] (by rfl) rfl rfl (by (try simp only [List.map_toArray, List.map_cons, List.map_nil]); first | done | rfl) ?_
  refine (c_sameT 400 (rTree x) (rTree_few x HFX.out) A_52 A_53 c_52 c_53 _ hl_52 (zAC HC_52.out HS_53.out) hl_53 HC_53.out).mono ?_
  rintro e u_54 ⟨rfl, hb⟩
  have HS_54 := Lib.hid hb
  have HB_54 := Lib.hid (bel2 HB_53.out hb)
  clear hb
  refine ⟨_, rfl, ?_⟩
  refine hK.out _ _ (L8.out _ HB_54.out) (fun hHeld => ?_)
  clear hK K
  refine norm_ (a' := ?_) ?_ ?_
  rotate_left
  ·show Act.put _ (some 113) _ = _
   simp only [Act.put, zO, zP, zR, i64_w, i32_w]
   rfl
  refine pure_ (i := 50) (N := some 114) (v := ?_) (a' := ?_) (zBM 55 2251799813685247) rfl rfl (by kernel_rfl) (fun _ _ _ h => h) (Or.inl ⟨by rfl, ?_⟩) ?_ ?_
  rotate_left
  ·intro w'
   go_simp
   with_reducible rfl
  rotate_left
  ·simp only [Act.put, zO, zP, zR, i64_w, i32_w]
   rfl
  refine pure_ (i := 51) (N := some 115) (v := ?_) (a' := ?_) (zBM 55 4503599627370495) rfl rfl (by kernel_rfl) (fun _ _ _ h => h) (Or.inl ⟨by rfl, ?_⟩) ?_ ?_
  rotate_left
  ·intro w'
   go_simp
   with_reducible rfl
  rotate_left
  ·simp only [Act.put, zO, zP, zR, i64_w, i32_w]
   rfl
  refine one_ (i := 52) (N := some 116) (zBM 55 9007199254740991) rfl rfl (by kernel_rfl) (by decide) (fun K hK => ?_)
  refine goes_ Tryd.func9 (by kernel_rfl) rfl #[] (by rfl) rfl rfl (by (try simp only [List.map_toArray, List.map_cons, List.map_nil]); first | done | rfl) ?_
  refine (knows_calls _ (HTAB.out.below HB_54.out)).mono ?_
  rintro e u_55 ⟨rfl, hb⟩
  have HS_55 := Lib.hid hb
  have HB_55 := Lib.hid (bel2 HB_54.out hb)
  clear hb
  refine ⟨_, rfl, ?_⟩
  refine hK.out _ _ (L8.out _ HB_55.out) (fun hHeld => ?_)
  clear hK K
  refine norm_ (a' := ?_) ?_ ?_
  rotate_left
  ·show Act.put _ (some 116) _ = _
   simp only [Act.put, zO, zP, zR, i64_w, i32_w]
   rfl
  refine pure_ (i := 53) (N := some 117) (v := ?_) (a' := ?_) (zBM 55 18014398509481983) rfl rfl (by kernel_rfl) (fun _ _ _ h => h) (Or.inl ⟨by rfl, ?_⟩) ?_ ?_
  rotate_left
  ·intro w'
   go_simp
   with_reducible rfl
  rotate_left
  ·simp only [Act.put, zO, zP, zR, i64_w, i32_w]
   rfl
  refine pure_ (i := 54) (N := some 6) (v := ?_) (a' := ?_) (zBM 55 36028797018963967) rfl rfl (by kernel_rfl) (fun _ _ _ h => h) (Or.inl ⟨by rfl, ?_⟩) ?_ ?_
  rotate_left
  ·intro w'
   go_simp
   with_reducible rfl
  rotate_left
  ·simp only [Act.put, zO, zP, zR, i64_w, i32_w]
   rfl
  refine done_ (by kernel_rfl) ?_
  clear hHeld
  go_wp2_with fail
  go_ret
  exact ⟨rfl, bel2 HB7.out HB_55.out⟩)
end Go.Proofs.YtddmdiaopaoekaaDoor.P
