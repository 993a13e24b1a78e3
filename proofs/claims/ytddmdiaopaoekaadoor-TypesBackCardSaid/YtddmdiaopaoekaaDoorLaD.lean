/- A type's tree, and back: in plain words. -/
import Derived.Test.YtddmdiaopaoekaaDoorPlG
import Derived.Test.YtddmdiaopaoekaaDoorPx20
import Derived.Lib.SlicesS
import Derived.Test.YtddmdiaopaoekaaDoorTyO
import Derived.Laws.EntriesVeiled
import Derived.Deep.Onto
import Derived.Test.YtddmdiaopaoekaaDoorLaA
import Derived.Lib.ItoaLen
namespace Go.Proofs.YtddmdiaopaoekaaDoor.P
open Go.RowKit Go.Proofs.YtddmdiaopaoekaaDoorW.PrintWords
set_option linter.unusedVariables false
abbrev S72_ := S72
def treeN : Nat → S31 → S72_
  | 0, x => ⟨x.f0, 0, x.f2, []⟩
  | n + 1, x => ⟨x.f0, 0, if x.f0 = 1 then ⟨(letterL x.f1).toArray⟩ else x.f2, x.f3.map (treeN n)⟩
theorem tree_ex : ∀ (n : Nat) (x : S31), fewN n x → (∀ v, v ∈ varsN n x → 0 ≤ v ∧ v ≤ 9223372036854775807) → ∃ k, types_Type_tree.f k x.f0 x.f1 x.f2 x.f3 = some ((treeN n x).f0, (treeN n x).f1, (treeN n x).f2, (treeN n x).f3)
  | 0, _, h, _ => h.elim
  | n + 1, x, h, hv => by
    have hl : x.f3.length ≤ 1000 := h.1
    have ev : varsN (n + 1) x = (if x.f0 = 1 then [x.f1] else []) ++ x.f3.flatMap (varsN n) := rfl
    have loop : ∀ (nm : ByteArray) (d : Nat) (acc : List S72_), d ≤ x.f3.length → acc = (x.f3.take (x.f3.length - d)).map (treeN n) → ∃ k, types_Type_tree.l0 k x.f3 (x.f3.length : Int) ((x.f3.length - d : Nat) : Int) x.f0 0 nm acc = some (x.f0, 0, nm, x.f3.map (treeN n)) := by
      intro nm d
      induction d with
      | zero =>
        intro acc _ ha
        refine ⟨1, ?_⟩
        rw [types_Type_tree.l0, if_neg (by omega), ha]
        simp
      | succ d ih =>
        intro acc hd ha
        have hj : x.f3.length - (d + 1) < x.f3.length := by omega
        have e2 : x.f3.length - (d + 1) + 1 = x.f3.length - d := by omega
        obtain ⟨k1, hk1⟩ := tree_ex n x.f3[x.f3.length - (d + 1)] (h.2 _ (List.getElem_mem hj)) (fun v hm => hv v (by rw [ev]; exact List.mem_append_right _ (List.mem_flatMap.2 ⟨_, List.getElem_mem hj, hm⟩)))
        obtain ⟨k2, hk2⟩ := ih (acc ++ [treeN n x.f3[x.f3.length - (d + 1)]]) (by omega) (by rw [ha, ← e2, List.take_succ_eq_append_getElem hj, List.map_append]; rfl)
        refine ⟨max k1 k2 + 1, ?_⟩
        have r1 : rd_T31 x.f3 ((x.f3.length - (d + 1) : Nat) : Int) = x.f3[x.f3.length - (d + 1)] := by
          show x.f3.getD (((x.f3.length - (d + 1) : Nat) : Int)).toNat z31 = _
          rw [Int.toNat_natCast, List.getD_eq_getElem?_getD, List.getElem?_eq_getElem hj]
          rfl
        generalize x.f3[x.f3.length - (d + 1)] = y at hk1 hk2 r1
        generalize treeN n y = z at hk1 hk2
        obtain ⟨z0, z1, z2, z3⟩ := z
        have hk3 := leO_up (f := fun k => types_Type_tree.f k y.f0 y.f1 y.f2 y.f3) (fun k => (types_Type_tree.mono_l k).1 _ _ _ _) (Nat.le_max_left k1 k2) hk1
        have hk4 := leO_up (f := fun k => types_Type_tree.l0 k x.f3 (x.f3.length : Int) ((x.f3.length - d : Nat) : Int) x.f0 0 nm (acc ++ [(⟨z0, z1, z2, z3⟩ : S72_)])) (fun k => (types_Type_tree.mono_l k).2.2 _ _ _ _ _ _ _) (Nat.le_max_right k1 k2) hk2
        have hal : acc.length < 2513169434916 := by rw [ha, List.length_map, List.length_take]; omega
        rw [types_Type_tree.l0, if_pos (by omega), if_pos (by omega), if_pos (by omega), r1, hk3, Option.bind_some, if_pos hal, wrap_succ _ (by omega), e2]
        exact hk4
    have j0 : ∀ nm : ByteArray, ∃ k, types_Type_tree.j0 k x.f0 x.f1 x.f2 x.f3 x.f0 0 nm = some (x.f0, 0, nm, x.f3.map (treeN n)) := fun nm => by
      obtain ⟨k, hk⟩ := loop nm x.f3.length [] (Nat.le_refl _) (by simp)
      refine ⟨k + 1, ?_⟩
      rw [types_Type_tree.j0]
      simpa using hk
    by_cases e : x.f0 = 1
    · have hb := hv x.f1 (by rw [ev, if_pos e]; simp)
      obtain ⟨k, hk⟩ := j0 ⟨(letterL x.f1).toArray⟩
      refine ⟨k + 1, ?_⟩
      have el : types_letter.f x.f1 = some ⟨(letterL x.f1).toArray⟩ := by unfold types_letter.f; rw [if_pos hb]
      rw [types_Type_tree.f, if_pos e, el, Option.bind_some, hk]
      show _ = some (x.f0, (0 : Int), (if x.f0 = 1 then (⟨(letterL x.f1).toArray⟩ : ByteArray) else x.f2), x.f3.map (treeN n))
      rw [if_pos e]
    · obtain ⟨k, hk⟩ := j0 x.f2
      refine ⟨k + 1, ?_⟩
      rw [types_Type_tree.f, if_neg e, hk]
      show _ = some (x.f0, (0 : Int), (if x.f0 = 1 then (⟨(letterL x.f1).toArray⟩ : ByteArray) else x.f2), x.f3.map (treeN n))
      rw [if_neg e]
theorem Tree_ex (x : S31) (hx : rightB 400 x = true) (hv : ∀ v, v ∈ varsN 400 x → v ≤ 9223372036854775807) : ∃ k, types_Tree.f k x.f0 x.f1 x.f2 x.f3 = some ((treeN 400 x).f0, (treeN 400 x).f1, (treeN 400 x).f2, (treeN 400 x).f3) := by
  obtain ⟨k, hk⟩ := tree_ex 400 x (few_of_right 400 x hx) (fun v hm => ⟨vars_nonneg 400 x hx v hm, hv v hm⟩)
  refine ⟨k, ?_⟩
  unfold types_Tree.f
  have hr : types_Right.f x.f0 x.f1 x.f2 x.f3 = some true := by unfold types_Right.f; exact congrArg some hx
  rw [hr, Option.bind_some, if_pos rfl, hk]
  rfl
def letB (i : Int) : ByteArray := ⟨(letterL i).toArray⟩
/-- Back: with names that stand for the numbers. -/
def ofN (names : List ByteArray) : Nat → S72_ → S31
  | 0, x => ⟨x.f0, 0, x.f2, []⟩
  | n + 1, x => if x.f0 = 1 then ⟨1, Lib.idxOfS names x.f2, ⟨#[]⟩, []⟩ else ⟨x.f0, 0, x.f2, x.f3.map (ofN names n)⟩
def valD (l : List UInt8) : Nat := l.foldl (fun a b => a * 10 + (b.toNat - 48)) 0
theorem val_dec : ∀ u : Nat, valD (Lib.decDigits u) = u := by
  intro u
  induction u using Nat.strongRecOn with
  | _ u ih =>
    rw [Lib.decDigits]
    split
    · show 0 * 10 + ((UInt8.ofNat (48 + u)).toNat - 48) = u
      rw [UInt8.toNat_ofNat']
      omega
    · unfold valD at ih ⊢
      rw [List.foldl_append, ih (u / 10) (by omega)]
      show u / 10 * 10 + ((UInt8.ofNat (48 + u % 10)).toNat - 48) = u
      rw [UInt8.toNat_ofNat']
      omega
theorem dec_ne (u : Nat) : Lib.decDigits u ≠ [] := by
  rw [Lib.decDigits]
  split <;> simp
theorem letter_inj (i j : Nat) (h : letterL (i : Int) = letterL (j : Int)) : i = j := by
  unfold letterL at h
  by_cases h1 : (i : Int) < 26
  · rw [if_pos h1] at h
    by_cases h2 : (j : Int) < 26
    · rw [if_pos h2] at h
      unfold letC at h
      have h3 : UInt8.ofNat (97 + (i : Int).toNat) = UInt8.ofNat (97 + (j : Int).toNat) := by simpa using h
      have h4 := congrArg UInt8.toNat h3
      rw [UInt8.toNat_ofNat', UInt8.toNat_ofNat'] at h4
      omega
    · rw [if_neg h2] at h
      unfold Lib.itoa at h
      rw [if_neg (by omega)] at h
      have := dec_ne ((j : Int) - 25).toNat
      simp at h
      exact absurd h.2 this
  · rw [if_neg h1] at h
    by_cases h2 : (j : Int) < 26
    · rw [if_pos h2] at h
      unfold Lib.itoa at h
      rw [if_neg (by omega)] at h
      have := dec_ne ((i : Int) - 25).toNat
      simp at h
      exact absurd h.2 this
    · rw [if_neg h2] at h
      unfold Lib.itoa at h
      rw [if_neg (by omega), if_neg (by omega)] at h
      have h3 : Lib.decDigits ((i : Int) - 25).toNat = Lib.decDigits ((j : Int) - 25).toNat := by simpa using h
      have h4 := congrArg valD h3
      rw [val_dec, val_dec] at h4
      omega
theorem letB_inj (i j : Nat) (h : letB (i : Int) = letB (j : Int)) : i = j := by
  unfold letB at h
  injection h with h
  exact letter_inj i j (by simpa using congrArg Array.toList h)
def namesN (N : Nat) : List ByteArray := (List.range N).map (fun (i : Nat) => letB (i : Int))
theorem namesN_get (N i : Nat) (hi : i < N) : (namesN N).getD i ByteArray.empty = letB (i : Int) := by
  unfold namesN
  rw [List.getD_eq_getElem?_getD, List.getElem?_map, List.getElem?_range hi]
  rfl
theorem idx_letter (N i : Nat) (hi : i < N) : Lib.idxOfS (namesN N) (letB (i : Int)) = (i : Int) := by
  have hl : (namesN N).length = N := by simp [namesN]
  have := Lib.idxOfS_hit (namesN N) N i (letB (i : Int)) hi (by omega) (namesN_get N i hi) (fun j hj e => by
    rw [namesN_get N j (by omega)] at e
    have := letB_inj j i e
    omega)
  rwa [List.take_of_length_le (by omega)] at this
theorem fits_rest {x : S31} (h : fitsB x = true) (h0 : x.f0 ≠ 1) : x.f1 = 0 := by
  have h' : types_Type_fits.f x.f0 x.f1 x.f2 x.f3 = some true := by rw [fits_some, h]
  unfold types_Type_fits.f at h'
  rw [if_neg h0] at h'
  by_cases h2 : x.f0 = 2
  · rw [if_pos h2] at h'
    by_cases h3 : x.f1 = 0
    · exact h3
    · rw [if_neg h3] at h'; cases h'
  · rw [if_neg h2] at h'
    by_cases h3 : x.f0 = 3
    · rw [if_pos h3] at h'
      by_cases h4 : x.f1 = 0
      · exact h4
      · rw [if_neg h4] at h'; cases h'
    · rw [if_neg h3] at h'; cases h'
theorem loop_len (bs : ByteArray) : ∀ (d i : Nat) (r : List UInt8), bs.size - i = d → (ByteArray.toList.loop bs i r).length = r.length + d := by
  intro d
  induction d with
  | zero =>
    intro i r h
    unfold ByteArray.toList.loop
    rw [if_neg (by omega)]
    simp
  | succ d ih =>
    intro i r h
    unfold ByteArray.toList.loop
    rw [if_pos (by omega), ih (i + 1) _ (by omega)]
    simp
    omega
theorem empty_of {b : ByteArray} (h : b.toList = []) : b = ⟨#[]⟩ := by
  have h1 := loop_len b b.size 0 [] (by omega)
  have h2 : (ByteArray.toList.loop b 0 []).length = 0 := by
    have : b.toList = ByteArray.toList.loop b 0 [] := rfl
    rw [← this, h]; rfl
  have h3 : b.size = 0 := by simp at h1; omega
  cases b with
  | mk d =>
    have : d.size = 0 := h3
    rw [Array.eq_empty_of_size_eq_zero this]
/-- P905. -/
theorem of_tree (N : Nat) : ∀ (n : Nat) (x : S31), rightB n x = true → (∀ v, v ∈ varsN n x → v < (N : Int)) → ofN (namesN N) n (treeN n x) = x
  | 0, _, h, _ => by cases h
  | n + 1, x, h, hv => by
    obtain ⟨h1, h2⟩ := rightB_part h
    have ev : varsN (n + 1) x = (if x.f0 = 1 then [x.f1] else []) ++ x.f3.flatMap (varsN n) := rfl
    have e : ofN (namesN N) (n + 1) (treeN (n + 1) x) = if x.f0 = 1 then ⟨1, Lib.idxOfS (namesN N) (if x.f0 = 1 then (⟨(letterL x.f1).toArray⟩ : ByteArray) else x.f2), ⟨#[]⟩, []⟩ else ⟨x.f0, 0, if x.f0 = 1 then (⟨(letterL x.f1).toArray⟩ : ByteArray) else x.f2, (x.f3.map (treeN n)).map (ofN (namesN N) n)⟩ := rfl
    rw [e]
    by_cases h0 : x.f0 = 1
    · rw [if_pos h0, if_pos h0]
      obtain ⟨q1, q2, q3⟩ := fits_var h1 h0
      have hb := hv x.f1 (by rw [ev, if_pos h0]; simp)
      obtain ⟨i, hi⟩ : ∃ i : Nat, x.f1 = (i : Int) := ⟨x.f1.toNat, by omega⟩
      have hx := idx_letter N i (by omega)
      unfold letB at hx
      rw [hi, hx]
      obtain ⟨x0, x1, x2, x3⟩ := x
      simp only at h0 hi q2 q3
      subst h0
      subst hi
      subst q3
      have : x2 = ⟨#[]⟩ := empty_of q2
      rw [this]
    · rw [if_neg h0, if_neg h0, List.map_map]
      have e3 := List.map_congr_left (f := ofN (namesN N) n ∘ treeN n) (g := id) (fun y hy => of_tree N n y (h2 y hy) (fun v hm => hv v (by rw [ev]; exact List.mem_append_right _ (List.mem_flatMap.2 ⟨y, hy, hm⟩))))
      rw [e3, List.map_id]
      have := fits_rest h1 h0
      obtain ⟨x0, x1, x2, x3⟩ := x
      simp only at this
      rw [this]
end Go.Proofs.YtddmdiaopaoekaaDoor.P
/- (types).Of: a tree's type, with names that are all known. -/
namespace Go.Proofs.YtddmdiaopaoekaaDoor.P
open Go.RowKit Go.Proofs.YtddmdiaopaoekaaDoorW.PrintWords Go.Proofs.YtddmdiaopaoekaaDoorW.PrintLast Go.Proofs.YtddmdiaopaoekaaDoor.Rw
set_option linter.unusedVariables false
set_option linter.unusedSimpArgs false
/-- Each variable's name is known; no part has too many parts. -/
def nv (names : List ByteArray) : Nat → S72 → Prop
  | 0, _ => False
  | n + 1, x => x.f3.length ≤ 1000 ∧ (x.f0 = 1 → x.f2 ∈ names) ∧ ∀ y, y ∈ x.f3 → nv names n y
/-- What the names' slice tells of a name. -/
def IdxQ (names : List ByteArray) (sv : Value) (we : World) : Prop :=
  ∀ (W : World) (x : ByteArray), x ∈ names → Below we.heap.size we W → Calls Tryd.prog 68 #[sv, .string x] W fun e w' => e = .returned (.int .i64 (Lib.idxOfS names x)) ∧ w' = W
def OfC (names : List ByteArray) (pn po : Nat) (w0 w1 : World) (n : Nat) : Prop :=
  ∀ (x : S72) (A : Option Addr) (c : Nat) (W : World), nv names n x → x.f3.length ≤ c → k72.C w0 A x.f3.length x.f3 → Below w1.heap.size w1 W →
    Calls Tryd.prog 67 #[.agg #[.int .i64 x.f0, .int .i64 x.f1, .string x.f2, .slice A x.f3.length c], .pointer (some ⟨pn, 0, none⟩), .pointer (some ⟨po, 0, none⟩)] W (TreeR w0.heap.size W (ofN names n x))
set_option maxHeartbeats 4000000 in
set_option maxRecDepth 100000 in
theorem of_succ (names : List ByteArray) (pn po : Nat) (sv : Value) (w0 w1 : World) (h01 : Below w0.heap.size w0 w1) (hN : w1.cell? ⟨pn, 0, none⟩ = some sv) (hO : w1.cell? ⟨po, 0, none⟩ = some (.func (.func 67) #[] #[.pointer (some ⟨pn, 0, none⟩), .pointer (some ⟨po, 0, none⟩)]))
    (hI : IdxQ names sv w1) (n : Nat) (ih : OfC names pn po w0 w1 n) : OfC names pn po w0 w1 (n + 1) := by
  intro x A c w hR hc hC hB1
  have hs : ofN names (n + 1) x = if x.f0 = 1 then ⟨1, Lib.idxOfS names x.f2, ⟨#[]⟩, []⟩ else ⟨x.f0, 0, x.f2, x.f3.map (ofN names n)⟩ := rfl
  rw [hs]
  clear hs
  have hbig := hC.2.1
  have HC := Lib.hid hC
  have IH := Lib.hid ih
  have HR := Lib.hid hR
  have HB1 := Lib.hid hB1
  have NC : Hid (∀ W, Below w1.heap.size w1 W → W.cell? ⟨pn, 0, none⟩ = some sv) := Lib.hid (fun W h => pw_cell_below h hN)
  have OC : Hid (∀ W, Below w1.heap.size w1 W → W.cell? ⟨po, 0, none⟩ = some (.func (.func 67) #[] #[.pointer (some ⟨pn, 0, none⟩), .pointer (some ⟨po, 0, none⟩)])) := Lib.hid (fun W h => pw_cell_below h hO)
  clear hC ih hR hB1 hN hO
  by_cases h0 : x.f0 = 1
  · have b0 : (x.f0 == 1) = true := beq_iff_eq.2 h0
    rw [if_pos h0]
    have hm := HR.out.2.1 h0
    have hpos := (Lib.idxOfS_nonneg_iff names x.f2).2 hm
    generalize hix : Lib.idxOfS names x.f2 = ix at hpos ⊢
    have HM := Lib.hid hm
    have HX := Lib.hid hix
    clear h0 hm hix
    have hn0 : ∀ o o', (((w.alloc o).alloc o').cell? ⟨pn, 0, none⟩ = some sv) := fun o o' => NC.out _ (HB1.out.trans ((((Below.refl _ _).alloc (Nat.le_refl _) _).alloc (by simp) _).mono HB1.out.size))
    go_enter Tryd.func67, Tryd.ntmps67
    go_wp2_with fail
    refine (hI _ x.f2 HM.out (HB1.out.trans ((((Below.refl _ _).alloc (Nat.le_refl _) _).alloc (by simp) _).mono HB1.out.size))).mono ?_
    rintro e w2 ⟨rfl, rfl⟩
    rw [HX.out]
    have hneg : ¬ ix < 0 := by omega
    go_wp2_with fail
    refine (Var_calls _ _).mono ?_
    rintro e w2 ⟨rfl, hb2⟩
    have hbr := (hb2.block (w.heap.size + 1) (by simp)).trans (new2_b w _ _)
    have k0 := cell_in hbr 0
    have k1 := cell_in hbr 1
    have k2 := cell_in hbr 2
    have k3 := cell_in hbr 3
    have f0 := frz_in hbr 0
    have f1 := frz_in hbr 1
    have f2 := frz_in hbr 2
    have f3 := frz_in hbr 3
    have HB2 := Lib.hid hb2
    have HBR := Lib.hid hbr
    clear hb2 hbr
    go_wp2_with fail
    have hbr2 := heap_set4 HBR.out (.int .i64 1) (.int .i64 ix) (.string ⟨#[]⟩) (.slice none 0 0)
    have hgr := grown_set4 w2 (w.heap.size + 1) (.int .i64 1) (.int .i64 ix) (.string ⟨#[]⟩) (.slice none 0 0)
    generalize ((((w2.setCell ⟨w.heap.size + 1, 0, none⟩ (.int .i64 1)).setCell ⟨w.heap.size + 1, 1, none⟩ (.int .i64 ix)).setCell ⟨w.heap.size + 1, 2, none⟩ (.string ⟨#[]⟩)).setCell ⟨w.heap.size + 1, 3, none⟩ (.slice none 0 0)) = W3 at hbr2 hgr ⊢
    have q0 := cell_in hbr2 0
    have q1 := cell_in hbr2 1
    have q2 := cell_in hbr2 2
    have q3 := cell_in hbr2 3
    have hB3 : Below w.heap.size w W3 := below_grown ((((Below.refl _ _).alloc (Nat.le_refl _) _).alloc (by simp) _).trans (HB2.out.mono (by simp; omega))) hgr (by omega)
    exact bodyPost_ret (v := .agg #[.int .i64 1, .int .i64 ix, .string ⟨#[]⟩, .slice none 0 0]) (by simp [results, Tryd.results67, go_sem, q0, q1, q2, q3]) rfl ⟨none, 0, rfl, Nat.le_refl _, FC.nil _ _ _, hB3⟩
  · have b0 : (x.f0 == 1) = false := beq_eq_false_iff_ne.2 h0
    rw [if_neg h0]
    clear h0
    obtain ⟨ys, hys⟩ : ∃ ys, ys = x.f3.map (ofN names n) := ⟨_, rfl⟩
    have hyl : ys.length = x.f3.length := by rw [hys, List.length_map]
    have hyg : ∀ kk, kk < x.f3.length → ys.getD kk z31 = ofN names n (x.f3.getD kk z72) := fun kk h => by
      rw [hys, List.getD_eq_getElem?_getD, List.getD_eq_getElem?_getD, List.getElem?_map, List.getElem?_eq_getElem h]; rfl
    rw [← hys]
    clear hys
    go_enter Tryd.func67, Tryd.ntmps67
    go_wp2_with fail
    have hbr := (heap_old ((w.alloc (.cells #[.int .i64 x.f0, .int .i64 x.f1, .string x.f2, .slice A x.f3.length c] 72)).alloc (.cells #[.int .i64 0, .int .i64 0, .string ⟨#[]⟩, .slice none 0 0] 31)) (.cells #[.int .i64 x.f0, .int .i64 0, .string x.f2, .slice none 0 0] 31) (w.heap.size + 1) (by simp)).trans (new2_b w _ _)
    have hbx := heap_new ((w.alloc (.cells #[.int .i64 x.f0, .int .i64 x.f1, .string x.f2, .slice A x.f3.length c] 72)).alloc (.cells #[.int .i64 0, .int .i64 0, .string ⟨#[]⟩, .slice none 0 0] 31)) (.cells #[.int .i64 x.f0, .int .i64 0, .string x.f2, .slice none 0 0] 31)
    have hB0 : Below w.heap.size w (((w.alloc (.cells #[.int .i64 x.f0, .int .i64 x.f1, .string x.f2, .slice A x.f3.length c] 72)).alloc (.cells #[.int .i64 0, .int .i64 0, .string ⟨#[]⟩, .slice none 0 0] 31)).alloc (.cells #[.int .i64 x.f0, .int .i64 0, .string x.f2, .slice none 0 0] 31)) := (((Below.refl _ w).alloc (Nat.le_refl _) _).alloc (by simp) _).alloc (by simp; omega) _
    simp only [World.size_alloc] at hbx
    generalize ((w.alloc (.cells #[.int .i64 x.f0, .int .i64 x.f1, .string x.f2, .slice A x.f3.length c] 72)).alloc (.cells #[.int .i64 0, .int .i64 0, .string ⟨#[]⟩, .slice none 0 0] 31)).alloc (.cells #[.int .i64 x.f0, .int .i64 0, .string x.f2, .slice none 0 0] 31) = Wb at hbr hbx hB0 ⊢
    have HL : Hid (Lp ⟨x.f0, 0, x.f2, ys⟩ id w0 w 0 (.slice none 0 0) Wb) := Lib.hid ⟨hbx, hbr, Row.nil _, hB0⟩
    clear hbr hbx hB0
    go_loopw [8, 35] (fun s7 s24 wr => ∃ kk : Nat, kk ≤ x.f3.length ∧ s24 = .int .i64 kk ∧ ∃ u, Hid (Lp ⟨x.f0, 0, x.f2, ys⟩ id w0 w kk u wr)) (fun _ s24 _ => x.f3.length - (intOf s24).toNat)
    case atStart => exact ⟨0, by omega, rfl, _, HL⟩
    case round =>
      clear HL
      obtain ⟨kk, hkk, rfl, u, HL⟩ := hrel
      by_cases hlt : kk < x.f3.length
      · have hltz : (kk : Int) < (x.f3.length : Int) := by omega
        obtain ⟨ad, A3, c3, rfl, h0, h1, h2, h3, hl3, hC3⟩ := at_T72 HC.out (kk : Int) (by omega) hltz
        have hrd : rd_T72 x.f3 (kk : Int) = x.f3.getD kk z72 := rfl
        have hmem : x.f3.getD kk z72 ∈ x.f3 := by rw [List.getD_eq_getElem?_getD, List.getElem?_eq_getElem hlt]; exact List.getElem_mem hlt
        have hsn := map_take id ys kk (by rw [hyl]; exact hlt)
        rw [hyg kk hlt] at hsn
        have hbe : Below w0.heap.size w0 wr := (h01.trans (HB1.out.mono h01.size)).trans (HL.out.be.mono (Nat.le_trans h01.size HB1.out.size))
        rw [Int.toNat_natCast] at h0 h1 h2 h3
        rw [hrd] at h0 h1 h2 h3 hl3 hC3
        replace h0 := pw_cell_below hbe h0
        replace h1 := pw_cell_below hbe h1
        replace h2 := pw_cell_below hbe h2
        replace h3 := pw_cell_below hbe h3
        generalize x.f3.getD kk z72 = y at h0 h1 h2 h3 hl3 hC3 hmem hsn
        have HSN := Lib.hid hsn
        have HC3 := Lib.hid hC3
        have HRy := Lib.hid (HR.out.2.2 y hmem)
        clear hrd hmem hsn hC3 hbe
        go_upto_region 11 with (fail)
        have hba := heap_new wr (.cells #[.int .i64 y.f0, .int .i64 y.f1, .string y.f2, .slice A3 y.f3.length c3] 72)
        have hbw : Below wr.heap.size wr (wr.alloc (.cells #[.int .i64 y.f0, .int .i64 y.f1, .string y.f2, .slice A3 y.f3.length c3] 72)) := (Below.refl _ _).alloc (Nat.le_refl _) _
        have hba2 : wr.heap.size < (wr.alloc (.cells #[.int .i64 y.f0, .int .i64 y.f1, .string y.f2, .slice A3 y.f3.length c3] 72)).heap.size := by simp
        clear h0 h1 h2 h3
        generalize wr.alloc (.cells #[.int .i64 y.f0, .int .i64 y.f1, .string y.f2, .slice A3 y.f3.length c3] 72) = W1 at hba hbw hba2 ⊢
        have HL1 := Lib.hid ((HL.out.below hbw).below ((Below.refl W1.heap.size W1).drew))
        have HNE : Hid (some wr.heap.size ≠ u.ownBlock) := Lib.hid (fun e => by have := (HL.out.row.block _ e.symm).2; omega)
        have s3 : W1.drew.cell? ⟨w.heap.size + 1 + 1, 3, none⟩ = some u := cell_in HL1.out.bx 3
        have a0 : W1.drew.cell? ⟨wr.heap.size, 0, none⟩ = some (.int .i64 y.f0) := cell_in hba 0
        have a1 : W1.drew.cell? ⟨wr.heap.size, 1, none⟩ = some (.int .i64 y.f1) := cell_in hba 1
        have a2 : W1.drew.cell? ⟨wr.heap.size, 2, none⟩ = some (.string y.f2) := cell_in hba 2
        have a3 : W1.drew.cell? ⟨wr.heap.size, 3, none⟩ = some (.slice A3 y.f3.length c3) := cell_in hba 3
        have a4 : W1.drew.cell? ⟨po, 0, none⟩ = some (.func (.func 67) #[] #[.pointer (some ⟨pn, 0, none⟩), .pointer (some ⟨po, 0, none⟩)]) := OC.out _ (HL1.out.up HB1.out)
        have HBA := Lib.hid hba
        have HBA2 := Lib.hid hba2
        clear hba hbw hba2 HL
        obtain ⟨i0, hi, hz0, hz1, hz2⟩ := info_parts info31
        have hl16 : ((ys.take kk).map id).length ≤ 1000 := by rw [List.length_map, List.length_take, hyl]; have := HR.out.1; omega
        generalize hz : ofN names n y = z at HSN
        have HZ := Lib.hid hz
        have hcall : ∀ W, Below w1.heap.size w1 W → Calls Tryd.prog 67 #[.agg #[.int .i64 y.f0, .int .i64 y.f1, .string y.f2, .slice A3 y.f3.length c3], .pointer (some ⟨pn, 0, none⟩), .pointer (some ⟨po, 0, none⟩)] W (TreeR w0.heap.size W z) := fun W hW => by
          rw [← hz]; exact IH.out y A3 c3 W HRy.out hl3 HC3.out hW
        have HCL := Lib.hid hcall
        clear hcall hz
        refine start_ (n := 9) (S := fun w' => w'.cell? ⟨w.heap.size + 1 + 1, 3, none⟩ = some u ∧ w'.cell? ⟨wr.heap.size, 0, none⟩ = some (.int .i64 y.f0) ∧ w'.cell? ⟨wr.heap.size, 1, none⟩ = some (.int .i64 y.f1) ∧ w'.cell? ⟨wr.heap.size, 2, none⟩ = some (.string y.f2) ∧ w'.cell? ⟨wr.heap.size, 3, none⟩ = some (.slice A3 y.f3.length c3) ∧ w'.cell? ⟨po, 0, none⟩ = some (.func (.func 67) #[] #[.pointer (some ⟨pn, 0, none⟩), .pointer (some ⟨po, 0, none⟩)])) (ds := [8]) #[false, false, false, false, false, false, false, false, false] (by kernel_rfl) rfl rfl ⟨s3, a0, a1, a2, a3, a4⟩ (fun hHeld => ?_)
        refine pure_ (i := 0) (N := some 39) (v := ?_) (a' := ?_) #[true, false, false, false, false, false, false, false, false] rfl rfl (by kernel_rfl) (fun _ _ _ h => h) (Or.inl ⟨by rfl, ?_⟩) ?_ ?_
        rotate_left
        · intro w'
          go_simp
          with_reducible rfl
        rotate_left
        · simp only [Act.put, List.setIfInBounds_toArray, List.set_cons_zero, List.set_cons_succ, i64_w, i32_w]
          rfl
        refine take_ (i := 1) (N := some 40) (v := ?_) (a' := ?_) #[true, true, false, false, false, false, false, false, false] rfl rfl (by kernel_rfl) (fun _ _ _ h => h) (Or.inl ⟨by rfl, ?_⟩) hHeld ?_ ?_
        rotate_left
        · rintro w' ⟨s0, s1, s2, s3, s4, s5⟩
          go_simp
          with_reducible rfl
        rotate_left
        · simp only [Act.put, List.setIfInBounds_toArray, List.set_cons_zero, List.set_cons_succ, i64_w, i32_w]
          rfl
        refine take_ (i := 2) (N := some 41) (v := ?_) (a' := ?_) #[true, true, true, false, false, false, false, false, false] rfl rfl (by kernel_rfl) (fun _ _ _ h => h) (Or.inl ⟨by rfl, ?_⟩) hHeld ?_ ?_
        rotate_left
        · rintro w' ⟨s0, s1, s2, s3, s4, s5⟩
          go_simp
          with_reducible rfl
        rotate_left
        · simp only [Act.put, List.setIfInBounds_toArray, List.set_cons_zero, List.set_cons_succ, i64_w, i32_w]
          rfl
        refine take_ (i := 3) (N := some 42) (v := ?_) (a' := ?_) #[true, true, true, true, false, false, false, false, false] rfl rfl (by kernel_rfl) (fun _ _ _ h => h) (Or.inl ⟨by rfl, ?_⟩) hHeld ?_ ?_
        rotate_left
        · rintro w' ⟨s0, s1, s2, s3, s4, s5⟩
          go_simp
          with_reducible rfl
        rotate_left
        · simp only [Act.put, List.setIfInBounds_toArray, List.set_cons_zero, List.set_cons_succ, i64_w, i32_w]
          rfl
        refine one_ (i := 4) (N := some 43) #[true, true, true, true, true, false, false, false, false] rfl rfl (by kernel_rfl) (by decide) (fun K hK => ?_)
        refine call_ 67 #[.agg #[.int .i64 y.f0, .int .i64 y.f1, .string y.f2, .slice A3 y.f3.length c3], .pointer (some ⟨pn, 0, none⟩), .pointer (some ⟨po, 0, none⟩)] (by rfl) rfl ?_ ?_
        · have he := enters_ (P := Tryd.prog) Tryd.func67 (by kernel_rfl) rfl #[.agg #[.int .i64 y.f0, .int .i64 y.f1, .string y.f2, .slice A3 y.f3.length c3], .pointer (some ⟨pn, 0, none⟩), .pointer (some ⟨po, 0, none⟩)] W1.drew
          unfold execOp
          simp [resolve, Deferred.ofValue, invoke, Act.eval, he]
        refine (HCL.out _ (HL1.out.up HB1.out)).mono ?_
        rintro e w3 ⟨A4, c4, rfl, hl4, hF4, hb4⟩
        refine ⟨_, rfl, ?_⟩
        have HL3 := Lib.hid (HL1.out.below hb4)
        have HBA3 := Lib.hid ((hb4.block wr.heap.size HBA2.out).trans HBA.out)
        have HB3 := Lib.hid (HL3.out.up HB1.out)
        have HF4 := Lib.hid hF4
        have HB4 := Lib.hid hb4
        clear hF4 hb4
        refine hK.out _ _ ⟨cell_in HL3.out.bx 3, cell_in HBA3.out 0, cell_in HBA3.out 1, cell_in HBA3.out 2, cell_in HBA3.out 3, OC.out _ HB3.out⟩ (fun hHeld => ?_)
        clear hK K
        refine norm_ (a' := ?_) ?_ ?_
        rotate_left
        · show Act.put _ (some 43) _ = _
          simp only [Act.put, List.setIfInBounds_toArray, List.set_cons_zero, List.set_cons_succ, i64_w, i32_w]
          rfl
        refine one_ (i := 5) (N := some 44) #[true, true, true, true, true, true, false, false, false] rfl rfl (by kernel_rfl) (by decide) (fun K hK => ?_)
        refine value_ (w1 := ?_) (v := ?_) (by rfl) rfl ?_ ?_
        rotate_left 2
        · go_simp
          constructor
          · rfl
          · rfl
        refine hK.out _ _ ⟨cell_in (blk_up HL3.out.bx) 3, cell_in (blk_up HBA3.out) 0, cell_in (blk_up HBA3.out) 1, cell_in (blk_up HBA3.out) 2, cell_in (blk_up HBA3.out) 3, OC.out _ (HB3.out.alloc (by have := HB3.out.size; omega) _)⟩ (fun hHeld => ?_)
        clear hK K
        refine norm_ (a' := ?_) ?_ ?_
        rotate_left
        · show Act.put _ (some 44) _ = _
          simp only [Act.put, List.setIfInBounds_toArray, List.set_cons_zero, List.set_cons_succ, i64_w, i32_w]
          rfl
        refine one_ (i := 6) (N := some 45) #[true, true, true, true, true, true, true, false, false] rfl rfl (by kernel_rfl) (by decide) (fun K hK => ?_)
        obtain ⟨cells, ho3, hRp3⟩ := HL3.out.row
        refine step_append_lies _ (by rfl) (.tmp 40) (.tmp 44) 27 (by rfl) (w.heap.size + 3) 31 i0 (.agg #[.int .i64 0, .int .i64 0, .string ⟨#[]⟩, .slice none 0 0]) 4 56 Tryd.underlying27 hi hz0 hz1 hz2 (by rfl) (by omega) u ((ys.take kk).map id).length cells (by rfl) (ho3.alloc _) ⟨w3.heap.size, 0, none⟩ 1 1 [.int .i64 z.f0, .int .i64 z.f1, .string z.f2, .slice A4 z.f3.length c4] (by rfl) (by rfl) (World.news_of_block (heap_new w3 _)) (by simp [Value.oneCell']) (by omega) (by unfold maxLen; omega) (by omega) (by have := HL3.out.le; simp; omega) (w3.heap.size + 1) (by simp) ?_
        intro g cap w5 hown5 hgrow5 hat5 hlt5
        have HBX5 := Lib.hid (HL3.out.grow hgrow5)
        have HB5 := Lib.hid ((HB3.out.alloc (by have := HB3.out.size; omega) _).grown hgrow5 (by have := HB3.out.size; simp; omega) (fun k e => by have h1 := (HL3.out.row.block k e).1; have := HB1.out.size; omega))
        have HBA5 := Lib.hid (grow_blk hgrow5 HBA3.out HNE.out)
        refine hK.out _ _ ⟨cell_in HBX5.out 3, cell_in HBA5.out 0, cell_in HBA5.out 1, cell_in HBA5.out 2, cell_in HBA5.out 3, OC.out _ HB5.out⟩ (fun hHeld => ?_)
        clear hK K
        refine norm_ (a' := ?_) ?_ ?_
        rotate_left
        · show Act.put _ (some 45) _ = _
          simp only [Act.put, List.setIfInBounds_toArray, List.set_cons_zero, List.set_cons_succ, i64_w, i32_w]
          rfl
        refine pure_ (i := 7) (N := some 46) (v := ?_) (a' := ?_) #[true, true, true, true, true, true, true, true, false] rfl rfl (by kernel_rfl) (fun _ _ _ h => h) (Or.inl ⟨by rfl, ?_⟩) ?_ ?_
        rotate_left
        · intro w'
          go_simp
          with_reducible rfl
        rotate_left
        · simp only [Act.put, List.setIfInBounds_toArray, List.set_cons_zero, List.set_cons_succ, i64_w, i32_w]
          rfl
        refine last_ (i := 8) (N := none) #[true, true, true, true, true, true, true, true, true] rfl rfl (by kernel_rfl) (by decide) (fun K hK => ?_)
        have y3 : w5.cell? ⟨w.heap.size + 1 + 1, 3, none⟩ = some u := cell_in HBX5.out 3
        have z3 : w5.frozen? ⟨w.heap.size + 1 + 1, 3, none⟩ = false := frz_in HBX5.out 3
        refine skip_ (w1 := ?_) (by rfl) rfl ?_ ?_
        rotate_left
        · go_simp
          rfl
        refine hK.out _ _ ?_
        clear hK K
        refine done_ (by kernel_rfl) ?_
        have hlen : ((ys.take kk).map id).length = kk := by rw [List.length_map, List.length_take, hyl]; omega
        have HLN := Lib.hid (HL3.out.step HSN.out hlen ho3 hRp3 hl4 HF4.out HB4.out (HL1.out.le) h01 (HB1.out.size) (fun k e => (HL1.out.row.block k e).2) hown5 hgrow5 hat5)
        clear hown5 hgrow5 hat5 ho3 hRp3 hHeld
        go_wp2_with fail
        go_roundw
        case rel => exact ⟨kk + 1, by omega, by go_num, _, HLN⟩
        case measure => simp [intOf]; omega
      · have hltz : ¬ (kk : Int) < (x.f3.length : Int) := by omega
        obtain rfl : kk = x.f3.length := by omega
        obtain ⟨Au, cu, hu, hlu, hFu⟩ := HL.out.row.reads
        have e9 : ((⟨x.f0, 0, x.f2, ys⟩ : S31).f3.take x.f3.length).map id = ys := by
          show (ys.take x.f3.length).map id = ys
          rw [← hyl, List.take_length, List.map_id]
        rw [e9] at hu hlu hFu
        rw [hyl] at hu
        subst hu
        have hbx := HL.out.bx
        have hbr := HL.out.br
        have k0 := cell_in hbr 0
        have k1 := cell_in hbr 1
        have k2 := cell_in hbr 2
        have k3 := cell_in hbr 3
        have f0 := frz_in hbr 0
        have f1 := frz_in hbr 1
        have f2 := frz_in hbr 2
        have f3 := frz_in hbr 3
        have x0 := cell_in hbx 0
        have x1 := cell_in hbx 1
        have x2 := cell_in hbx 2
        have x3 := cell_in hbx 3
        have HFU := Lib.hid hFu
        have HLU := Lib.hid hlu
        have HBR := Lib.hid hbr
        clear hbx hbr hFu hlu
        go_wp2_with fail
        have hbr2 := heap_set4 HBR.out (.int .i64 x.f0) (.int .i64 0) (.string x.f2) (.slice Au x.f3.length cu)
        have hgr := grown_set4 wr (w.heap.size + 1) (.int .i64 x.f0) (.int .i64 0) (.string x.f2) (.slice Au x.f3.length cu)
        generalize ((((wr.setCell ⟨w.heap.size + 1, 0, none⟩ (.int .i64 x.f0)).setCell ⟨w.heap.size + 1, 1, none⟩ (.int .i64 0)).setCell ⟨w.heap.size + 1, 2, none⟩ (.string x.f2)).setCell ⟨w.heap.size + 1, 3, none⟩ (.slice Au x.f3.length cu)) = W3 at hbr2 hgr ⊢
        have q0 := cell_in hbr2 0
        have q1 := cell_in hbr2 1
        have q2 := cell_in hbr2 2
        have q3 := cell_in hbr2 3
        have hB3 : Below w.heap.size w W3 := below_grown HL.out.be hgr (by omega)
        have hF3 : FC k31 W3 (fun k => (k < w0.heap.size ∨ w.heap.size ≤ k) ∧ k < W3.heap.size) Au (ys).length (ys) :=
          (HFU.out.to (Agr.of_grown hgr (fun k hk => ⟨hk.2, fun e => by
            obtain rfl : k = w.heap.size + 1 := Option.some.inj e
            have h1 := h01.size
            have h2 := HB1.out.size
            rcases hk.1 with (h | h) | h <;> omega⟩))).mono (fun k hk => ⟨hk.1.elim (fun h => h.elim .inl (fun h => .inr (by omega))) (fun h => .inr (by omega)), Nat.lt_of_lt_of_le hk.2 hgr.size⟩)
        refine bodyPost_ret (v := .agg #[.int .i64 x.f0, .int .i64 0, .string x.f2, .slice Au x.f3.length cu]) (by simp [results, Tryd.results67, go_sem, q0, q1, q2, q3]) rfl ⟨Au, cu, ?_, HLU.out, hF3, hB3⟩
        show _ = Ending.returned (.agg #[.int .i64 x.f0, .int .i64 0, .string x.f2, .slice Au ys.length cu])
        rw [hyl]
theorem of_all (names : List ByteArray) (pn po : Nat) (sv : Value) (w0 w1 : World) (h01 : Below w0.heap.size w0 w1) (hN : w1.cell? ⟨pn, 0, none⟩ = some sv) (hO : w1.cell? ⟨po, 0, none⟩ = some (.func (.func 67) #[] #[.pointer (some ⟨pn, 0, none⟩), .pointer (some ⟨po, 0, none⟩)]))
    (hI : IdxQ names sv w1) : ∀ n, OfC names pn po w0 w1 n
  | 0 => fun x A c W h => h.elim
  | n + 1 => of_succ names pn po sv w0 w1 h01 hN hO hI n (of_all names pn po sv w0 w1 h01 hN hO hI n)
theorem idx_of_row {w : World} {B : Nat} {v : Value} {names : List ByteArray} (h : w.ownsRow B 9 1 v names.length (names.map Value.string)) (hl : names.length ≤ 1000000) : IdxQ names v w := by
  intro W x hx hb
  rcases h.2 with ⟨_, h0⟩ | ⟨g, cap, cur, rfl, _⟩
  · rw [List.eq_nil_of_length_eq_zero h0] at hx
    cases hx
  · have := Tryd.slices_Index_string g 0 names.length cap names x W (Nat.le_refl _) (by omega) (fun j hj => by
      refine pw_cell_below hb ?_
      rw [Nat.zero_add, h.cellAt j (by omega), List.getElem?_map, List.getElem?_eq_getElem hj, List.getD_eq_getElem?_getD, List.getElem?_eq_getElem hj]
      rfl)
    rwa [List.take_length] at this
theorem clone_of_row {w W : World} {B : Nat} {v : Value} {names : List ByteArray} (h : w.ownsRow B 9 1 v names.length (names.map Value.string)) (hl : names.length ≤ 1000000) (hb : Below w.heap.size w W) :
    Calls Tryd.prog 66 #[v] W fun e w' => ∃ v', e = .returned v' ∧ w'.ownsRow W.heap.size 9 1 v' names.length (names.map Value.string) ∧ Below W.heap.size W w' := by
  rcases h.2 with ⟨rfl, h0⟩ | ⟨g, cap, cur, rfl, _⟩
  · refine (Tryd.slices_Clone_string_nil 0 0 W).mono ?_
    rintro e w' ⟨rfl, rfl⟩
    rw [List.eq_nil_of_length_eq_zero h0]
    exact ⟨_, rfl, World.ownsRow_nil _ _ _ _, Below.refl _ _⟩
  · refine (Tryd.slices_Clone_string g 0 names.length cap names W (Nat.le_refl _) (by omega) (fun j hj => ?_)).mono ?_
    · refine pw_cell_below hb ?_
      rw [Nat.zero_add, h.cellAt j (by omega), List.getElem?_map, List.getElem?_eq_getElem hj, List.getD_eq_getElem?_getD, List.getElem?_eq_getElem hj]
      rfl
    · rintro e w' ⟨v', rfl, ho, _, hb'⟩
      rw [List.take_length] at ho
      exact ⟨v', rfl, ho, hb'⟩
theorem own_shape {w : World} {B e size n : Nat} {v : Value} {xs : List Value} (h : w.ownsRow B e size v n xs) : ∃ A c, v = .slice A n c := by
  rcases h.2 with ⟨rfl, h0⟩ | ⟨g, cap, cur, rfl, _⟩
  · exact ⟨none, 0, by rw [h0]⟩
  · exact ⟨_, _, rfl⟩
set_option maxHeartbeats 4000000 in
set_option maxRecDepth 100000 in
theorem Of_calls (names : List ByteArray) (n B : Nat) (sv : Value) (x : S72) (A : Option Addr) (c : Nat) (w : World) (hv : nv names n x) (hc : x.f3.length ≤ c) (hC : k72.C w A x.f3.length x.f3) (hl : names.length ≤ 1000000)
    (hz : w.ownsRow B 9 1 sv names.length (names.map Value.string)) :
    Calls Tryd.prog 40 #[.agg #[.int .i64 x.f0, .int .i64 x.f1, .string x.f2, .slice A x.f3.length c], sv] w fun e w' => ∃ A2 c3 v4, e = .returned (.tuple #[.agg #[.int .i64 (ofN names n x).f0, .int .i64 (ofN names n x).f1, .string (ofN names n x).f2, .slice A2 (ofN names n x).f3.length c3], v4]) ∧ (ofN names n x).f3.length ≤ c3 ∧ k31.C w' A2 (ofN names n x).f3.length (ofN names n x).f3 ∧ w'.ownsRow w.heap.size 9 1 v4 names.length (names.map Value.string) ∧ Below w.heap.size w w' := by
  have HV := Lib.hid hv
  have HC := Lib.hid hC
  have HZ := Lib.hid hz
  clear hv hC hz
  go_enter Tryd.func40, Tryd.ntmps40
  go_wp2_with fail
  have hb1 : Below w.heap.size w ((w.alloc (.cells #[.int .i64 x.f0, .int .i64 x.f1, .string x.f2, .slice A x.f3.length c] 72)).alloc (.cells #[.int .i64 0, .int .i64 0, .string ⟨#[]⟩, .slice none 0 0] 31)) := ((Below.refl _ _).alloc (Nat.le_refl _) _).alloc (by simp) _
  refine (clone_of_row HZ.out hl hb1).mono ?_
  rintro e w2 ⟨v', rfl, ho, hb2⟩
  obtain ⟨A4, c4, rfl⟩ := own_shape ho
  have hbx := (hb2.block w.heap.size (by simp; omega)).trans ((heap_old (w.alloc _) _ w.heap.size (by simp)).trans (heap_new w _))
  have hbr := (hb2.block (w.heap.size + 1) (by simp)).trans (new2_b w _ _)
  have hB2 := hb1.trans (hb2.mono hb1.size)
  have hsz := hb2.size
  simp only [World.size_alloc] at hsz
  clear hb1 hb2
  have HBX := Lib.hid hbx
  have HBR := Lib.hid hbr
  have HB2 := Lib.hid hB2
  have HO := Lib.hid ho
  clear hbx hbr hB2 ho
  have kf : ∀ o, ((w2.alloc o).alloc (.cells #[.nilFunc] 105)).cell? ⟨w2.heap.size + 1, 0, none⟩ = some .nilFunc := fun o => cell_in (new2_b w2 _ _) 0
  have ff : ∀ o, ((w2.alloc o).alloc (.cells #[.nilFunc] 105)).frozen? ⟨w2.heap.size + 1, 0, none⟩ = false := fun o => frz_in (new2_b w2 _ _) 0
  go_upto_region 4 with (fail)
  have hsN := cell_in (heap_new w2 (.cells #[.slice A4 names.length c4] 76)) 0
  have hB4 : Below w2.heap.size w2 ((w2.alloc (.cells #[.slice A4 names.length c4] 76)).alloc (.cells #[.func (.func 67) #[] #[.pointer (some ⟨w2.heap.size, 0, none⟩), .pointer (some ⟨w2.heap.size + 1, 0, none⟩)]] 105)) := ((Below.refl _ _).alloc (Nat.le_refl _) _).alloc (by simp) _
  have hn4 := cell_in (blk_up (o := .cells #[.func (.func 67) #[] #[.pointer (some ⟨w2.heap.size, 0, none⟩), .pointer (some ⟨w2.heap.size + 1, 0, none⟩)]] 105) (heap_new w2 (.cells #[.slice A4 names.length c4] 76))) 0
  have ho4 := cell_in (new2_b w2 (.cells #[.slice A4 names.length c4] 76) (.cells #[.func (.func 67) #[] #[.pointer (some ⟨w2.heap.size, 0, none⟩), .pointer (some ⟨w2.heap.size + 1, 0, none⟩)]] 105)) 0
  have hrow := Lib.hid ((HO.out.alloc (.cells #[.slice A4 names.length c4] 76)).alloc (.cells #[.func (.func 67) #[] #[.pointer (some ⟨w2.heap.size, 0, none⟩), .pointer (some ⟨w2.heap.size + 1, 0, none⟩)]] 105))
  have hsz4 : w2.heap.size + 1 + 1 = ((w2.alloc (.cells #[.slice A4 names.length c4] 76)).alloc (.cells #[.func (.func 67) #[] #[.pointer (some ⟨w2.heap.size, 0, none⟩), .pointer (some ⟨w2.heap.size + 1, 0, none⟩)]] 105)).heap.size := by simp
  clear kf ff hsN
  generalize (w2.alloc (.cells #[.slice A4 names.length c4] 76)).alloc (.cells #[.func (.func 67) #[] #[.pointer (some ⟨w2.heap.size, 0, none⟩), .pointer (some ⟨w2.heap.size + 1, 0, none⟩)]] 105) = W4 at hB4 hn4 ho4 hrow hsz4 ⊢
  have hbx4 := (hB4.block w.heap.size (by omega)).trans HBX.out
  have hbr4 := (hB4.block (w.heap.size + 1) (by omega)).trans HBR.out
  have hBw : Below w.heap.size w W4 := HB2.out.trans (hB4.mono (by omega))
  have x0 := cell_in hbx4 0
  have x1 := cell_in hbx4 1
  have x2 := cell_in hbx4 2
  have x3 := cell_in hbx4 3
  have hI := idx_of_row hrow.out hl
  have hcall := of_all names w2.heap.size (w2.heap.size + 1) _ w W4 hBw hn4 ho4 hI n x A c W4 HV.out hc HC.out (Below.refl _ _)
  have HN4 := Lib.hid hn4
  have HBR4 := Lib.hid hbr4
  have HCALL := Lib.hid hcall
  have HBW := Lib.hid hBw
  have HB4 := Lib.hid hB4
  clear hbx4 hbr4 hBw hI hcall hn4 HO HBX HBR hB4
  go_wp2_with fail
  refine HCALL.out.mono ?_
  rintro e w5 ⟨A5, c5, rfl, hl5, hF5, hb5⟩
  generalize hy : ofN names n x = y at hl5 hF5 ⊢
  have HY := Lib.hid hy
  clear hy
  have hn5 := pw_cell_below hb5 HN4.out
  have hbr5 := (hb5.block (w.heap.size + 1) (by omega)).trans HBR4.out
  have hB5 := HBW.out.trans (hb5.mono HBW.out.size)
  have hrow5 := hrow.out
  have k0 := cell_in hbr5 0
  have k1 := cell_in hbr5 1
  have k2 := cell_in hbr5 2
  have k3 := cell_in hbr5 3
  have HBR5 := Lib.hid hbr5
  have HB5 := Lib.hid hB5
  have HBS := Lib.hid hb5
  have HF5 := Lib.hid hF5
  clear hbr5 hB5 hF5 hb5 hrow5
  go_upto_region 5 with (fail)
  have ho6 := heap_new w5 (.cells #[.int .i64 y.f0, .int .i64 y.f1, .string y.f2, .slice A5 y.f3.length c5] 31)
  have hr6 := blk_up (o := .cells #[.int .i64 y.f0, .int .i64 y.f1, .string y.f2, .slice A5 y.f3.length c5] 31) HBR5.out
  have hn6 := cell_allocN (.cells #[.int .i64 y.f0, .int .i64 y.f1, .string y.f2, .slice A5 y.f3.length c5] 31) hn5
  have hB6 : Below w5.heap.size w5 (w5.alloc (.cells #[.int .i64 y.f0, .int .i64 y.f1, .string y.f2, .slice A5 y.f3.length c5] 31)) := (Below.refl _ _).alloc (Nat.le_refl _) _
  clear k0 k1 k2 k3
  generalize w5.alloc (.cells #[.int .i64 y.f0, .int .i64 y.f1, .string y.f2, .slice A5 y.f3.length c5] 31) = W6 at ho6 hr6 hn6 hB6 ⊢
  have HR6 := Lib.hid hr6
  have HB6 := Lib.hid hB6
  clear hr6 hB6 hn5
  refine start_ (n := 4) (S := fun w' => w'.cell? ⟨w5.heap.size, 0, none⟩ = some (.int .i64 y.f0) ∧ w'.cell? ⟨w5.heap.size, 1, none⟩ = some (.int .i64 y.f1) ∧ w'.cell? ⟨w5.heap.size, 2, none⟩ = some (.string y.f2) ∧ w'.cell? ⟨w5.heap.size, 3, none⟩ = some (.slice A5 y.f3.length c5) ∧ w'.cell? ⟨w2.heap.size, 0, none⟩ = some (.slice A4 names.length c4)) (ds := []) #[false, false, false, false] (by kernel_rfl) rfl rfl ⟨cell_in ho6 0, cell_in ho6 1, cell_in ho6 2, cell_in ho6 3, hn6⟩ (fun hHeld => ?_)
  refine take_ (i := 0) (N := some 15) (v := ?_) (a' := ?_) #[true, false, false, false] rfl rfl (by kernel_rfl) (fun _ _ _ h => h) (Or.inl ⟨by rfl, ?_⟩) hHeld ?_ ?_
  rotate_left
  · rintro w' ⟨s0, s1, s2, s3, s4⟩
    go_simp
    with_reducible rfl
  rotate_left
  · simp only [Act.put, List.setIfInBounds_toArray, List.set_cons_zero, List.set_cons_succ, i64_w, i32_w]
    rfl
  refine take_ (i := 1) (N := some 16) (v := ?_) (a' := ?_) #[true, true, false, false] rfl rfl (by kernel_rfl) (fun _ _ _ h => h) (Or.inl ⟨by rfl, ?_⟩) hHeld ?_ ?_
  rotate_left
  · rintro w' ⟨s0, s1, s2, s3, s4⟩
    go_simp
    with_reducible rfl
  rotate_left
  · simp only [Act.put, List.setIfInBounds_toArray, List.set_cons_zero, List.set_cons_succ, i64_w, i32_w]
    rfl
  have k0 : W6.cell? ⟨w.heap.size + 1, 0, none⟩ = _ := cell_in HR6.out 0
  have k1 : W6.cell? ⟨w.heap.size + 1, 1, none⟩ = _ := cell_in HR6.out 1
  have k2 : W6.cell? ⟨w.heap.size + 1, 2, none⟩ = _ := cell_in HR6.out 2
  have k3 : W6.cell? ⟨w.heap.size + 1, 3, none⟩ = _ := cell_in HR6.out 3
  have f0 : W6.frozen? ⟨w.heap.size + 1, 0, none⟩ = false := frz_in HR6.out 0
  have f1 : W6.frozen? ⟨w.heap.size + 1, 1, none⟩ = false := frz_in HR6.out 1
  have f2 : W6.frozen? ⟨w.heap.size + 1, 2, none⟩ = false := frz_in HR6.out 2
  have f3 : W6.frozen? ⟨w.heap.size + 1, 3, none⟩ = false := frz_in HR6.out 3
  have hbr6 := heap_set4 HR6.out (.int .i64 y.f0) (.int .i64 y.f1) (.string y.f2) (.slice A5 y.f3.length c5)
  have hgr6 := grown_set4 W6 (w.heap.size + 1) (.int .i64 y.f0) (.int .i64 y.f1) (.string y.f2) (.slice A5 y.f3.length c5)
  have HBR6 := Lib.hid hbr6
  have HGR6 := Lib.hid hgr6
  have hkeep : ∀ b i v, W6.cell? ⟨b, i, none⟩ = some v → b ≠ w.heap.size + 1 → ((((W6.setCell ⟨w.heap.size + 1, 0, none⟩ (.int .i64 y.f0)).setCell ⟨w.heap.size + 1, 1, none⟩ (.int .i64 y.f1)).setCell ⟨w.heap.size + 1, 2, none⟩ (.string y.f2)).setCell ⟨w.heap.size + 1, 3, none⟩ (.slice A5 y.f3.length c5)).cell? ⟨b, i, none⟩ = some v := fun b i v h hne => hgr6.cell h (fun e => hne (Option.some.inj e))
  have HKEEP := Lib.hid hkeep
  clear hbr6 hgr6 hkeep
  have h25 := HBS.out.size
  refine one_ (i := 2) (N := none) #[true, true, true, false] rfl rfl (by kernel_rfl) (by simp) (fun K hK => ?_)
  refine skip_ (w1 := ?_) (by rfl) rfl ?_ ?_
  rotate_left
  · go_simp
    rfl
  refine hK.out _ _ ⟨HKEEP.out _ _ _ hHeld.1 (by omega), HKEEP.out _ _ _ hHeld.2.1 (by omega), HKEEP.out _ _ _ hHeld.2.2.1 (by omega), HKEEP.out _ _ _ hHeld.2.2.2.1 (by omega), HKEEP.out _ _ _ hHeld.2.2.2.2 (by omega)⟩ (fun hHeld => ?_)
  clear hK K
  refine pure_ (i := 3) (N := some 5) (v := ?_) (a' := ?_) #[true, true, true, true] rfl rfl (by kernel_rfl) (fun _ _ _ h => h) (Or.inl ⟨by rfl, ?_⟩) ?_ ?_
  rotate_left
  · intro w'
    go_simp
    with_reducible rfl
  rotate_left
  · simp only [Act.put, List.setIfInBounds_toArray, List.set_cons_zero, List.set_cons_succ, i64_w, i32_w]
    rfl
  refine done_ (by kernel_rfl) ?_
  clear hHeld k0 k1 k2 k3 f0 f1 f2 f3
  generalize (((W6.setCell ⟨w.heap.size + 1, 0, none⟩ (.int .i64 y.f0)).setCell ⟨w.heap.size + 1, 1, none⟩ (.int .i64 y.f1)).setCell ⟨w.heap.size + 1, 2, none⟩ (.string y.f2)).setCell ⟨w.heap.size + 1, 3, none⟩ (.slice A5 y.f3.length c5) = W7 at HBR6 HGR6 ⊢
  have k0 : W7.cell? ⟨w.heap.size + 1, 0, none⟩ = _ := cell_in HBR6.out 0
  have k1 : W7.cell? ⟨w.heap.size + 1, 1, none⟩ = _ := cell_in HBR6.out 1
  have k2 : W7.cell? ⟨w.heap.size + 1, 2, none⟩ = _ := cell_in HBR6.out 2
  have k3 : W7.cell? ⟨w.heap.size + 1, 3, none⟩ = _ := cell_in HBR6.out 3
  go_wp2_with fail
  have hsw := HB2.out.size
  refine bodyPost_ret (v := .tuple #[.agg #[.int .i64 y.f0, .int .i64 y.f1, .string y.f2, .slice A5 y.f3.length c5], .slice A4 names.length c4]) (by simp [results, Tryd.results40, go_sem, k0, k1, k2, k3]) rfl ?_
  rw [HY.out]
  refine ⟨A5, c5, _, rfl, hl5, ?_, ?_, ?_⟩
  · exact (((HF5.out.to (Agr.of_below HB6.out (fun k hk => hk.2))).to (Agr.of_grown HGR6.out (fun k hk => ⟨Nat.lt_of_lt_of_le hk.2 HB6.out.size, fun e => by
      obtain rfl : k = w.heap.size + 1 := Option.some.inj e
      have := hk.1
      omega⟩))).to (Agr.of_below (S := fun k => (k < w.heap.size ∨ W4.heap.size ≤ k) ∧ k < w5.heap.size) ((Below.refl W7.heap.size W7).drew) (fun k hk => Nat.lt_of_lt_of_le (Nat.lt_of_lt_of_le hk.2 HB6.out.size) HGR6.out.size))).now
  · have h1 := ((hrow.out.kept (grown_below HBS.out) (Classical.em _)).kept (grown_below HB6.out) (Classical.em _)).kept HGR6.out (by
      rcases h : (Value.slice A4 names.length c4).ownBlock with _ | g
      · exact .inl rfl
      · refine .inr (fun e => ?_)
        have h2 := (hrow.out.lt g h).1
        simp only [World.size_alloc] at h2
        have h3 : g = w.heap.size + 1 := Option.some.inj e
        omega)
    exact (World.ownsRow.mono h1 (by simp; omega)).drew
  · exact (below_grown (HB5.out.trans (HB6.out.mono HB5.out.size)) HGR6.out (by omega)).drew
end Go.Proofs.YtddmdiaopaoekaaDoor.P
/- The walk of TypesBack. -/
namespace Go.Proofs.YtddmdiaopaoekaaDoor.P
open Go.RowKit Go.Shelf Go.Proofs.YtddmdiaopaoekaaDoorW.PrintWords Go.Proofs.YtddmdiaopaoekaaDoorW.PrintLast Go.Proofs.YtddmdiaopaoekaaDoor.Rw
set_option linter.unusedVariables false
set_option linter.unusedSimpArgs false
/-- The names of a type's variables are known: nv of the tree. -/
theorem nv_tree (N : Nat) : ∀ (n : Nat) (x : S31), rightB n x = true → (∀ v, v ∈ varsN n x → v < (N : Int)) → nv (namesN N) n (treeN n x)
  | 0, _, h, _ => by cases h
  | n + 1, x, h, hv => by
    obtain ⟨h1, h2⟩ := rightB_part h
    have ev : varsN (n + 1) x = (if x.f0 = 1 then [x.f1] else []) ++ x.f3.flatMap (varsN n) := rfl
    refine ⟨?_, ?_, ?_⟩
    · show (x.f3.map (treeN n)).length ≤ 1000
      rw [List.length_map]
      have := fits_len h1
      omega
    · intro h0
      have h0' : x.f0 = 1 := h0
      show (if x.f0 = 1 then (⟨(letterL x.f1).toArray⟩ : ByteArray) else x.f2) ∈ namesN N
      rw [if_pos h0']
      obtain ⟨q1, q2, q3⟩ := fits_var h1 h0'
      have hb := hv x.f1 (by rw [ev, if_pos h0']; simp)
      refine List.mem_map.2 ⟨x.f1.toNat, List.mem_range.2 (by omega), ?_⟩
      have : ((x.f1.toNat : Nat) : Int) = x.f1 := by omega
      show letB _ = _
      rw [this]
      rfl
    · intro y hy
      obtain ⟨z, hz, rfl⟩ := List.mem_map.1 (show y ∈ x.f3.map (treeN n) from hy)
      exact nv_tree N n z (h2 z hz) (fun v hm => hv v (by rw [ev]; exact List.mem_append_right _ (List.mem_flatMap.2 ⟨z, hz, hm⟩)))
/-- A variable's printed name. -/
theorem show_var (i : Int) (h0 : 0 ≤ i) : showL 400 ⟨1, i, ⟨#[]⟩, []⟩ false = letterL i := by
  show (opS (bare ⟨1, i, ⟨#[]⟩, []⟩ false)).data.toList ++ letterL i ++ (shS (bare ⟨1, i, ⟨#[]⟩, []⟩ false)).data.toList = letterL i
  have : bare (⟨1, i, ⟨#[]⟩, []⟩ : S31) false = true := by simp [bare]
  rw [this]
  simp [opS, shS]
theorem letter_len (i : Int) (h0 : 0 ≤ i) (h1 : i ≤ 9223372036854775807) : (letterL i).length ≤ 1000000000 := by
  unfold letterL
  split
  · simp
  · have := Lib.itoa_length_le (i - 25) (by omega) (by omega)
    simp only [List.length_cons]
    omega
theorem info9s : (Tryd.prog.info? 9).map (fun i => (i.zero, i.size, i.bytes)) = some (some (.string ⟨#[]⟩), 1, 16) := by kernel_rfl
theorem print_var (i : Int) (h0 : 0 ≤ i) : printL ⟨1, i, ⟨#[]⟩, []⟩ = letterL i := by
  have hr : rightB 400 (⟨1, i, ⟨#[]⟩, []⟩ : S31) = true := by
    rw [rightB_succ]
    have : fitsB (⟨1, i, ⟨#[]⟩, []⟩ : S31) = true := by
      have h := fits_some (⟨1, i, ⟨#[]⟩, []⟩ : S31)
      unfold types_Type_fits.f at h
      simp [h0] at h
      exact h
    rw [this]
    rfl
  unfold printL
  rw [if_pos hr]
  exact show_var i h0
set_option maxHeartbeats 8000000 in
set_option maxRecDepth 100000 in
theorem Back_calls (m : Nat) (x : S24) (A : Option Addr) (c : Nat) (w : World) (hc : x.f3.length ≤ c) (hC : k24.C w A x.f3.length x.f3) (ho : ok24 m x) (hn : nm24 m x) (hwf : ∀ v, v ∈ varsL (ownN 400 x) → (Lit.int .i64 v).wf = true) (hT : TabOK w) :
    Calls Tryd.prog 7 #[.agg #[.int .i64 x.f0, .int .i64 x.f1, .string x.f2, .slice A x.f3.length c]] w fun e w' => e = .returned (.bool true) ∧ Below w.heap.size w w' := by
  obtain ⟨kL, rL, hL⟩ := light_ex m [x] (by simp) (fun y hy => by
    obtain rfl : y = x := by simpa using hy
    exact ho)
  obtain ⟨kR, hR⟩ := Right24_ex x
  have HC := Lib.hid hC
  have HT := Lib.hid hT
  have HL := Lib.hid hL
  have HRf := Lib.hid hR
  have HWF := Lib.hid hwf
  have HO := Lib.hid ho
  have HN := Lib.hid hn
  clear hC hT hL hR hwf ho hn
  go_enter Tryd.func7, Tryd.ntmps7
  go_wp2_with fail
  have hb2 : Below w.heap.size w ((w.alloc (.cells #[.int .i64 x.f0, .int .i64 x.f1, .string x.f2, .slice A x.f3.length c] 24)).alloc (.cells #[.int .i64 x.f0, .int .i64 x.f1, .string x.f2, .slice A x.f3.length c] 24)) := ((Below.refl _ _).alloc (Nat.le_refl _) _).alloc (by simp) _
  refine (hammocklaw09_Light.calls kL _ 1 [x] rL _ (row1_24 (new2_b w _ _) hc (c24_below HC.out hb2)) (Nat.le_refl _) HL.out).mono ?_
  rintro e w2 ⟨rfl, hb3⟩
  have hbx := (hb3.block w.heap.size (by simp; omega)).trans (new2_a w _ _)
  have hB2 : Below w.heap.size w w2 := hb2.trans (hb3.mono (by simp; omega))
  have x0 := cell_in hbx 0
  have x1 := cell_in hbx 1
  have x2 := cell_in hbx 2
  have x3 := cell_in hbx 3
  have HB2 := Lib.hid hB2
  have HBX := Lib.hid hbx
  clear hb2 hb3 hbx hB2
  cases rL with
  | false =>
    go_wp2_with fail
    refine (knows_calls w2 (HT.out.below HB2.out)).mono ?_
    rintro e w3 ⟨rfl, hb3⟩
    have HB3 := Lib.hid (bel2 HB2.out hb3)
    clear hb3
    go_wp2_with fail
    go_ret
    exact ⟨rfl, HB3.out⟩
  | true =>
    go_wp2_with fail
    refine (hammockref09_Right.calls kR x.f0 x.f1 x.f2 A c x.f3 _ w2 (c24_below HC.out HB2.out) hc HRf.out).mono ?_
    rintro e w3 ⟨rfl, hb3⟩
    have HB3 := Lib.hid (bel2 HB2.out hb3)
    have HBX3 := Lib.hid ((hb3.block w.heap.size (Array.getElem?_eq_some_iff.1 HBX.out).1).trans HBX.out)
    clear hb3 x0 x1 x2 x3
    have x0 := cell_in HBX3.out 0
    have x1 := cell_in HBX3.out 1
    have x2 := cell_in HBX3.out 2
    have x3 := cell_in HBX3.out 3
    cases hr : rightB 400 (ownN 400 x) with
    | false =>
      clear hr
      go_wp2_with fail
      refine (knows_calls w3 (HT.out.below HB3.out)).mono ?_
      rintro e w4 ⟨rfl, hb4⟩
      have HB4 := Lib.hid (bel2 HB3.out hb4)
      clear hb4
      go_wp2_with fail
      go_ret
      exact ⟨rfl, HB4.out⟩
    | true =>
      have HR := Lib.hid hr
      clear hr
      have HVL := Lib.hid (light_vars kL m x HL.out HR.out HO.out HN.out)
      obtain ⟨kO, hO⟩ := own_ex 400 x (few24_of_right 400 x HR.out)
      have HOW := Lib.hid hO
      clear hO
      go_wp2_with fail
      generalize ht : ownN 400 x = t at HR HWF HVL HOW
      refine (hammocklaw09_Own.calls kO x.f0 x.f1 x.f2 A c x.f3 t.f0 t.f1 t.f2 t.f3 w3 (c24_below HC.out HB3.out) hc HOW.out).mono ?_
      rintro e w4 ⟨v4, rfl, hR4, hb4⟩
      obtain ⟨A4, c4, rfl, hl4, hC4⟩ := Kd.R_reads hR4
      have HB4 := Lib.hid (bel2 HB3.out hb4)
      have HB34 := Lib.hid hb4
      have HC4 := Lib.hid hC4
      clear hR4 hb4 hC4 x0 x1 x2 x3
      go_wp2_with fail
      refine (Vars_calls t A4 c4 _ hl4 HC4.out HWF.out (by have := HVL.out; omega)).mono ?_
      rintro e w5 ⟨v, rfl, hrow, hb5⟩
      have HB45 := Lib.hid hb5
      obtain ⟨Av, cv, rfl, hlv, hAv⟩ := row_slice hrow
      have HAV := Lib.hid hAv
      clear hb5 hrow hAv
      have hvl : (VarsB t).length ≤ 400 := by unfold VarsB; rw [if_pos HR.out]; exact Nat.le_trans (length_distinct _) HVL.out
      have HWV : Hid (∀ v, v ∈ VarsB t → (Lit.int .i64 v).wf = true) := Lib.hid (fun v hv => by unfold VarsB at hv; rw [if_pos HR.out] at hv; exact HWF.out v ((mem_distinct _ _).1 hv))
      have HLL : Hid (VarsB t = VarsB t) := Lib.hid rfl
      generalize hlq : VarsB t = l at HAV HWV hvl hlv HLL ⊢
      have HLQ := Lib.hid hlq
      clear hlq HLL
      go_wp2_with fail
      go_loopw [4, 5] (fun s7 s8 wr => ∃ kk : Nat, kk ≤ l.length ∧ s8 = .int .i64 kk ∧ s7 = .int .i64 (greatL (l.take kk)) ∧ w5 = wr) (fun _ s8 _ => l.length - (intOf s8).toNat)
      case atStart => exact ⟨0, by omega, rfl, rfl, rfl⟩
      case round =>
        obtain ⟨kk, hkk, rfl, rfl, rfl⟩ := hrel
        by_cases hlt : kk < l.length
        · have hltz : (kk : Int) < (l.length : Int) := by omega
          obtain ⟨g, rfl, hg, hcg⟩ := HAV.out kk (.int .i64 l[kk]) (by rw [List.getElem?_map, List.getElem?_eq_getElem hlt]; rfl)
          rw [add_g] at hcg
          have hgs : greatL (l.take (kk + 1)) = max (greatL (l.take kk)) l[kk] := by rw [List.take_succ_eq_append_getElem hlt, great_snoc]
          have HGS := Lib.hid hgs
          clear hgs
          generalize l[kk] = lv at hcg HGS
          go_wp2_with fail
          go_roundw
          case rel => exact ⟨kk + 1, by omega, by go_num, by rw [HGS.out], trivial⟩
          case measure => simp [intOf]; omega
        · have hltz : ¬ (kk : Int) < (l.length : Int) := by omega
          obtain rfl : kk = l.length := by omega
          rw [List.take_length]
          have HB5 := Lib.hid (bel2 HB4.out HB45.out)
          by_cases hgr : greatL l > 200
          · go_wp2_with fail
            refine (knows_calls w5 (HT.out.below HB5.out)).mono ?_
            rintro e w6 ⟨rfl, hb6⟩
            have HB6 := Lib.hid (bel2 HB5.out hb6)
            clear hb6
            go_wp2_with fail
            go_ret
            exact ⟨rfl, HB6.out⟩
          · have hgn : ¬ greatL l > 200 := hgr
            have hge := great_ge l
            obtain ⟨i0, hi, hz0, hz1, hz2⟩ := info_parts info9s
            have HGR : Hid (-1 ≤ greatL l ∧ greatL l ≤ 200) := Lib.hid ⟨hge, by omega⟩
            clear hge hgr
            go_wp2_with fail
            go_loopw [6, 7] (fun s6 s7 wq => ∃ kk : Nat, (kk : Int) ≤ greatL l + 1 ∧ s7 = .int .i64 kk ∧ Hid (Below w5.heap.size w5 wq) ∧ Hid (wq.ownsRow w5.heap.size 9 1 s6 (namesN kk).length ((namesN kk).map Value.string))) (fun _ s7 _ => (greatL l + 1 - intOf s7).toNat)
            case atStart => exact ⟨0, by have := HGR.out; omega, rfl, Lib.hid (Below.refl _ _), Lib.hid (World.ownsRow_nil _ _ _ _)⟩
            case round =>
              obtain ⟨kk, hkk, rfl, HBq, HRq⟩ := hrel
              by_cases hle : (kk : Int) ≤ greatL l
              · have hkb : kk ≤ 201 := by have := HGR.out; omega
                have hpl := print_var (kk : Int) (by omega)
                have hll : (showL 400 (⟨1, (kk : Int), ⟨#[]⟩, []⟩ : S31) false).length ≤ 1000000000 := by rw [show_var _ (by omega)]; exact letter_len _ (by omega) (by omega)
                have HLL := Lib.hid hll
                clear hll
                go_wp2_with fail
                refine (Var_calls _ wr).mono ?_
                rintro e w6 ⟨rfl, hb6⟩
                have HB6 := Lib.hid (HBq.out.trans (hb6.mono HBq.out.size))
                have hr6 := HRq.out.kept (grown_below hb6) (Classical.em _)
                have HR6 := Lib.hid hr6
                clear hb6 hr6
                go_wp2_with fail
                refine (Print_calls ⟨1, (kk : Int), ⟨#[]⟩, []⟩ none 0 w6 (Nat.le_refl _) (FC.nil (d := k31) w6 (fun _ => True) none).now ⟨fun _ => (by show (kk : Int) ≤ _; omega), fun y hy => by cases hy⟩ (HT.out.below (bel2 (bel2 HB4.out HB45.out) HB6.out)) HLL.out).mono ?_
                rintro e w6' ⟨rfl, hb6⟩
                rw [hpl]
                have HB6' := Lib.hid (HB6.out.trans (hb6.mono HB6.out.size))
                have hr6 := HR6.out.kept (grown_below hb6) (Classical.em _)
                have hlr : (namesN kk).length = kk := by simp [namesN]
                clear hb6
                go_wp2_with (at_builtin; refine wpList_append_own_at _ rfl _ _ 76 rfl w5.heap.size 9 i0 (.string ⟨#[]⟩) 1 16 Tryd.underlying76 hi hz0 hz1 hz2 (by rfl) (by omega) _ _ _ rfl (hr6.alloc _) ⟨w6'.heap.size, 0, none⟩ 1 1 [.string ⟨(letterL (kk : Int)).toArray⟩] rfl rfl (World.news_of_block (heap_new w6' _)) (by simp [Value.oneCell']) (by rw [hlr]; unfold maxLen; omega) (by rw [hlr]; omega) (by have := HB6'.out.size; simp; omega) ?_; intro v' w7 hown' hgrow _ _)
                have hgr7 : (w6'.alloc (.cells #[.string ⟨(letterL (kk : Int)).toArray⟩] 9)).grownBy w7 _ := hgrow
                have hB7 : Below w5.heap.size w5 w7 := (HB6'.out.alloc HB6'.out.size _).grown hgr7 (by have := HB6'.out.size; simp; omega) (fun k e => (hr6.lt k e).1)
                have hls : namesN (kk + 1) = namesN kk ++ [letB (kk : Int)] := by simp [namesN, List.range_succ]
                have hR7 : w7.ownsRow w5.heap.size 9 1 v' (namesN (kk + 1)).length ((namesN (kk + 1)).map Value.string) := by
                  rw [hls, List.map_append, List.length_append]
                  exact hown'
                obtain ⟨A7, c7, rfl⟩ := own_shape hR7
                have HR7 := Lib.hid hR7
                have HB7 := Lib.hid hB7
                clear hls hgr7 hown' hgrow hr6 hR7 hB7 hpl
                go_roundw
                case rel => exact ⟨kk + 1, by omega, by go_num, HB7, HR7⟩
                case measure => simp [intOf]; omega
              · have hN : (kk : Int) = greatL l + 1 := by omega
                have hkb : kk ≤ 201 := by have := HGR.out; omega
                have HV : Hid (∀ v, v ∈ varsN 400 t → v < (kk : Int)) := Lib.hid (fun v hv => by
                  have h1 := le_great l v (by
                    rw [← HLQ.out]
                    unfold VarsB
                    rw [if_pos HR.out, mem_distinct, varsL_400 t HR.out]
                    exact hv)
                  omega)
                have hlr : (namesN kk).length = kk := by simp [namesN]
                have hnv := nv_tree kk 400 t HR.out HV.out
                have hot := of_tree kk 400 t HR.out HV.out
                have hrow := HRq.out
                rw [hlr] at hrow
                obtain ⟨An, cn, rfl⟩ := own_shape hrow
                obtain ⟨kT, hkT⟩ := Tree_ex t HR.out (fun v hv => by have := HV.out v hv; omega)
                have HKT := Lib.hid hkT
                have HNV := Lib.hid hnv
                have HOT := Lib.hid hot
                have HW := Lib.hid (bel2 (bel2 HB4.out HB45.out) HBq.out)
                have hbx := (HBX3.out)
                have HBXw := Lib.hid (((bel2 (bel2 (Below.refl w3.heap.size w3) HB34.out) (bel2 HB45.out HBq.out)).block w.heap.size (Array.getElem?_eq_some_iff.1 HBX3.out).1).trans HBX3.out)
                have hrow' := hrow
                clear hkT hnv hot hrow hbx HRq
                have x0 := cell_in HBXw.out 0
                have x1 := cell_in HBXw.out 1
                have x2 := cell_in HBXw.out 2
                have x3 := cell_in HBXw.out 3
                have HRq := Lib.hid hrow'
                clear hrow' hN
                go_wp2_with fail
                refine (hammocklaw09_Own.calls kO x.f0 x.f1 x.f2 A c x.f3 t.f0 t.f1 t.f2 t.f3 wr (c24_below HC.out HW.out) hc HOW.out).mono ?_
                rintro e u1 ⟨v4, rfl, hR4, hb4⟩
                obtain ⟨A6, c6, rfl, hl6, hC6⟩ := Kd.R_reads hR4
                have HC6 := Lib.hid hC6
                have HU1 := Lib.hid hb4
                clear hR4 hC6 hb4 x0 x1 x2 x3
                go_wp2_with fail
                refine (types_Tree.calls kT t.f0 t.f1 t.f2 A6 c6 t.f3 (treeN 400 t).f0 (treeN 400 t).f1 (treeN 400 t).f2 (treeN 400 t).f3 u1 HC6.out hl6 HKT.out (Lib.hid (HT.out.below (bel2 HW.out HU1.out)))).mono ?_
                rintro e u2 ⟨v7, rfl, hR7, hb7⟩
                obtain ⟨A7, c7, rfl, hl7, hC7⟩ := Kd.R_reads hR7
                have HC7 := Lib.hid hC7
                have HU2 := Lib.hid (bel2 HU1.out hb7)
                clear hR7 hC7 hb7
                go_wp2_with fail
                have hof := Of_calls (namesN kk) 400 w5.heap.size (.slice An kk cn) (treeN 400 t) A7 c7 u2 HNV.out hl7 HC7.out (by rw [hlr]; omega) (by rw [hlr]; exact HRq.out.kept (grown_below HU2.out) (Classical.em _))
                rw [HOT.out, hlr] at hof
                refine hof.mono ?_
                clear hof
                rintro e u3 ⟨A8, c8, v8, rfl, hl8, hC8, ho8, hb8⟩
                obtain ⟨A9, c9, rfl⟩ := own_shape ho8
                have HC8 := Lib.hid hC8
                have HU3 := Lib.hid (bel2 HU2.out hb8)
                clear hC8 ho8 hb8
                go_wp2_with fail
                have hx4 := heap_new u3 (.cells #[.int .i64 t.f0, .int .i64 t.f1, .string t.f2, .slice A8 t.f3.length c8] 31)
                have hb4 : Below u3.heap.size u3 (u3.alloc (.cells #[.int .i64 t.f0, .int .i64 t.f1, .string t.f2, .slice A8 t.f3.length c8] 31)) := (Below.refl _ _).alloc (Nat.le_refl _) _
                generalize u3.alloc (.cells #[.int .i64 t.f0, .int .i64 t.f1, .string t.f2, .slice A8 t.f3.length c8] 31) = u4 at hx4 hb4 ⊢
                have HWU := Lib.hid (bel2 HW.out (bel2 HU3.out hb4))
                have hub := bel2 HU3.out hb4
                have XB : Hid (∀ W, Below u4.heap.size u4 W → W.heap[u3.heap.size]? = some (.cells #[.int .i64 t.f0, .int .i64 t.f1, .string t.f2, .slice A8 t.f3.length c8] 31 (0, 0))) := Lib.hid (fun W h => (h.block _ (Array.getElem?_eq_some_iff.1 hx4).1).trans hx4)
                have ha4 := (hub.block w.heap.size (Array.getElem?_eq_some_iff.1 HBXw.out).1).trans HBXw.out
                have AB : Hid (∀ W, Below u4.heap.size u4 W → W.heap[w.heap.size]? = some (.cells #[.int .i64 x.f0, .int .i64 x.f1, .string x.f2, .slice A x.f3.length c] 24 (0, 0))) := Lib.hid (fun W h => (h.block _ (Array.getElem?_eq_some_iff.1 ha4).1).trans ha4)
                have HC84 := Lib.hid (c_below HC8.out hb4)
                clear hx4 hb4 hub ha4
                refine start_ (n := 15) (S := fun w' => w'.cell? ⟨u3.heap.size, 0, none⟩ = some (.int .i64 t.f0) ∧ w'.cell? ⟨u3.heap.size, 1, none⟩ = some (.int .i64 t.f1) ∧ w'.cell? ⟨u3.heap.size, 2, none⟩ = some (.string t.f2) ∧ w'.cell? ⟨u3.heap.size, 3, none⟩ = some (.slice A8 t.f3.length c8) ∧ w'.cell? ⟨w.heap.size, 0, none⟩ = some (.int .i64 x.f0) ∧ w'.cell? ⟨w.heap.size, 1, none⟩ = some (.int .i64 x.f1) ∧ w'.cell? ⟨w.heap.size, 2, none⟩ = some (.string x.f2) ∧ w'.cell? ⟨w.heap.size, 3, none⟩ = some (.slice A x.f3.length c)) (ds := []) #[false, false, false, false, false, false, false, false, false, false, false, false, false, false, false] (by kernel_rfl) rfl rfl ⟨cell_in (XB.out _ ((Below.refl _ _).drew)) 0, cell_in (XB.out _ ((Below.refl _ _).drew)) 1, cell_in (XB.out _ ((Below.refl _ _).drew)) 2, cell_in (XB.out _ ((Below.refl _ _).drew)) 3, cell_in (AB.out _ ((Below.refl _ _).drew)) 0, cell_in (AB.out _ ((Below.refl _ _).drew)) 1, cell_in (AB.out _ ((Below.refl _ _).drew)) 2, cell_in (AB.out _ ((Below.refl _ _).drew)) 3⟩ (fun hHeld => ?_)
                refine take_ (i := 0) (N := some 57) (v := ?_) (a' := ?_) #[true, false, false, false, false, false, false, false, false, false, false, false, false, false, false] rfl rfl (by kernel_rfl) (fun _ _ _ h => h) (Or.inl ⟨by rfl, ?_⟩) hHeld ?_ ?_
                rotate_left
                · rintro w' ⟨s0, s1, s2, s3, s4, s5, s6, s7⟩
                  go_simp
                  with_reducible rfl
                rotate_left
                · simp only [Act.put, List.setIfInBounds_toArray, List.set_cons_zero, List.set_cons_succ, i64_w, i32_w]
                  rfl
                refine take_ (i := 1) (N := some 58) (v := ?_) (a' := ?_) #[true, true, false, false, false, false, false, false, false, false, false, false, false, false, false] rfl rfl (by kernel_rfl) (fun _ _ _ h => h) (Or.inl ⟨by rfl, ?_⟩) hHeld ?_ ?_
                rotate_left
                · rintro w' ⟨s0, s1, s2, s3, s4, s5, s6, s7⟩
                  go_simp
                  with_reducible rfl
                rotate_left
                · simp only [Act.put, List.setIfInBounds_toArray, List.set_cons_zero, List.set_cons_succ, i64_w, i32_w]
                  rfl
                refine one_ (i := 2) (N := some 59) #[true, true, true, false, false, false, false, false, false, false, false, false, false, false, false] rfl rfl (by kernel_rfl) (by decide) (fun K hK => ?_)
                refine goes_ Tryd.func11 (by kernel_rfl) rfl #[.agg #[.int .i64 x.f0, .int .i64 x.f1, .string x.f2, .slice A x.f3.length c]] (by rfl) rfl rfl (by (try simp only [List.map_toArray, List.map_cons, List.map_nil]); first | done | rfl) ?_
                refine (hammocklaw09_Own.calls kO x.f0 x.f1 x.f2 A c x.f3 t.f0 t.f1 t.f2 t.f3 _ (c24_below HC.out (bel2 HWU.out ((Below.refl _ _).drew))) hc HOW.out).mono ?_
                rintro e u5 ⟨v, rfl, hR, hb⟩
                obtain ⟨B5, d5, rfl, hl5, hC5⟩ := Kd.R_reads hR
                have HC5 := Lib.hid hC5
                have HB5 : Hid (Below u4.heap.size u4 u5) := Lib.hid (((Below.refl u4.heap.size u4).drew).trans hb)
                refine ⟨_, rfl, ?_⟩
                clear hR hb hC5
                refine hK.out _ _ ⟨cell_in (XB.out _ HB5.out) 0, cell_in (XB.out _ HB5.out) 1, cell_in (XB.out _ HB5.out) 2, cell_in (XB.out _ HB5.out) 3, cell_in (AB.out _ HB5.out) 0, cell_in (AB.out _ HB5.out) 1, cell_in (AB.out _ HB5.out) 2, cell_in (AB.out _ HB5.out) 3⟩ (fun hHeld => ?_)
                clear hK K
                refine norm_ (a' := ?_) ?_ ?_
                rotate_left
                · show Act.put _ (some 59) _ = _
                  simp only [Act.put, List.setIfInBounds_toArray, List.set_cons_zero, List.set_cons_succ, i64_w, i32_w]
                  rfl
                refine one_ (i := 3) (N := some 60) #[true, true, true, true, false, false, false, false, false, false, false, false, false, false, false] rfl rfl (by kernel_rfl) (by decide) (fun K hK => ?_)
                refine goes_ Tryd.func23 (by kernel_rfl) rfl #[.agg #[.int .i64 t.f0, .int .i64 t.f1, .string t.f2, .slice A8 t.f3.length c8], .agg #[.int .i64 t.f0, .int .i64 t.f1, .string t.f2, .slice B5 t.f3.length d5]] (by rfl) rfl rfl (by (try simp only [List.map_toArray, List.map_cons, List.map_nil]); first | done | rfl) ?_
                have hsm := Same_calls t t A8 B5 c8 d5 u5 hl8 (c_below HC84.out HB5.out) hl5 HC5.out
                rw [sameB_self] at hsm
                refine hsm.mono ?_
                clear hsm
                rintro e u6 ⟨rfl, hb⟩
                have HB6 := Lib.hid (bel2 HB5.out hb)
                refine ⟨_, rfl, ?_⟩
                clear hb
                refine hK.out _ _ ⟨cell_in (XB.out _ HB6.out) 0, cell_in (XB.out _ HB6.out) 1, cell_in (XB.out _ HB6.out) 2, cell_in (XB.out _ HB6.out) 3, cell_in (AB.out _ HB6.out) 0, cell_in (AB.out _ HB6.out) 1, cell_in (AB.out _ HB6.out) 2, cell_in (AB.out _ HB6.out) 3⟩ (fun hHeld => ?_)
                clear hK K
                refine norm_ (a' := ?_) ?_ ?_
                rotate_left
                · show Act.put _ (some 60) _ = _
                  simp only [Act.put, List.setIfInBounds_toArray, List.set_cons_zero, List.set_cons_succ, i64_w, i32_w]
                  rfl
                refine pure_ (i := 4) (N := some 61) (v := ?_) (a' := ?_) #[true, true, true, true, true, false, false, false, false, false, false, false, false, false, false] rfl rfl (by kernel_rfl) (fun _ _ _ h => h) (Or.inl ⟨by rfl, ?_⟩) ?_ ?_
                rotate_left
                · intro w'
                  go_simp
                  with_reducible rfl
                rotate_left
                · simp only [Act.put, List.setIfInBounds_toArray, List.set_cons_zero, List.set_cons_succ, i64_w, i32_w]
                  rfl
                refine pure_ (i := 5) (N := some 62) (v := ?_) (a' := ?_) #[true, true, true, true, true, true, false, false, false, false, false, false, false, false, false] rfl rfl (by kernel_rfl) (fun _ _ _ h => h) (Or.inl ⟨by rfl, ?_⟩) ?_ ?_
                rotate_left
                · intro w'
                  go_simp
                  with_reducible rfl
                rotate_left
                · simp only [Act.put, List.setIfInBounds_toArray, List.set_cons_zero, List.set_cons_succ, i64_w, i32_w]
                  rfl
                refine pure_ (i := 6) (N := some 63) (v := ?_) (a' := ?_) #[true, true, true, true, true, true, true, false, false, false, false, false, false, false, false] rfl rfl (by kernel_rfl) (fun _ _ _ h => h) (Or.inl ⟨by rfl, ?_⟩) ?_ ?_
                rotate_left
                · intro w'
                  go_simp
                  with_reducible rfl
                rotate_left
                · simp only [Act.put, List.setIfInBounds_toArray, List.set_cons_zero, List.set_cons_succ, i64_w, i32_w]
                  rfl
                refine pure_ (i := 7) (N := some 64) (v := ?_) (a' := ?_) #[true, true, true, true, true, true, true, true, false, false, false, false, false, false, false] rfl rfl (by kernel_rfl) (fun _ _ _ h => h) (Or.inl ⟨by rfl, ?_⟩) ?_ ?_
                rotate_left
                · intro w'
                  go_simp
                  with_reducible rfl
                rotate_left
                · simp only [Act.put, List.setIfInBounds_toArray, List.set_cons_zero, List.set_cons_succ, i64_w, i32_w]
                  rfl
                refine pure_ (i := 8) (N := some 65) (v := ?_) (a' := ?_) #[true, true, true, true, true, true, true, true, true, false, false, false, false, false, false] rfl rfl (by kernel_rfl) (fun _ _ _ h => h) (Or.inl ⟨by rfl, ?_⟩) ?_ ?_
                rotate_left
                · intro w'
                  go_simp
                  with_reducible rfl
                rotate_left
                · simp only [Act.put, List.setIfInBounds_toArray, List.set_cons_zero, List.set_cons_succ, i64_w, i32_w]
                  rfl
                refine pure_ (i := 9) (N := some 66) (v := ?_) (a' := ?_) #[true, true, true, true, true, true, true, true, true, true, false, false, false, false, false] rfl rfl (by kernel_rfl) (fun _ _ _ h => h) (Or.inl ⟨by rfl, ?_⟩) ?_ ?_
                rotate_left
                · intro w'
                  go_simp
                  with_reducible rfl
                rotate_left
                · simp only [Act.put, List.setIfInBounds_toArray, List.set_cons_zero, List.set_cons_succ, i64_w, i32_w]
                  rfl
                refine pure_ (i := 10) (N := some 67) (v := ?_) (a' := ?_) #[true, true, true, true, true, true, true, true, true, true, true, false, false, false, false] rfl rfl (by kernel_rfl) (fun _ _ _ h => h) (Or.inl ⟨by rfl, ?_⟩) ?_ ?_
                rotate_left
                · intro w'
                  go_simp
                  with_reducible rfl
                rotate_left
                · simp only [Act.put, List.setIfInBounds_toArray, List.set_cons_zero, List.set_cons_succ, i64_w, i32_w]
                  rfl
                refine pure_ (i := 11) (N := some 68) (v := ?_) (a' := ?_) #[true, true, true, true, true, true, true, true, true, true, true, true, false, false, false] rfl rfl (by kernel_rfl) (fun _ _ _ h => h) (Or.inl ⟨by rfl, ?_⟩) ?_ ?_
                rotate_left
                · intro w'
                  go_simp
                  with_reducible rfl
                rotate_left
                · simp only [Act.put, List.setIfInBounds_toArray, List.set_cons_zero, List.set_cons_succ, i64_w, i32_w]
                  rfl
                refine one_ (i := 12) (N := some 69) #[true, true, true, true, true, true, true, true, true, true, true, true, true, false, false] rfl rfl (by kernel_rfl) (by decide) (fun K hK => ?_)
                refine goes_ Tryd.func9 (by kernel_rfl) rfl #[] (by rfl) rfl rfl (by (try simp only [List.map_toArray, List.map_cons, List.map_nil]); first | done | rfl) ?_
                refine (knows_calls u6 (HT.out.below (bel2 HWU.out HB6.out))).mono ?_
                rintro e u7 ⟨rfl, hb⟩
                have HB7 := Lib.hid (bel2 HB6.out hb)
                refine ⟨_, rfl, ?_⟩
                clear hb
                refine hK.out _ _ ⟨cell_in (XB.out _ HB7.out) 0, cell_in (XB.out _ HB7.out) 1, cell_in (XB.out _ HB7.out) 2, cell_in (XB.out _ HB7.out) 3, cell_in (AB.out _ HB7.out) 0, cell_in (AB.out _ HB7.out) 1, cell_in (AB.out _ HB7.out) 2, cell_in (AB.out _ HB7.out) 3⟩ (fun hHeld => ?_)
                clear hK K
                refine norm_ (a' := ?_) ?_ ?_
                rotate_left
                · show Act.put _ (some 69) _ = _
                  simp only [Act.put, List.setIfInBounds_toArray, List.set_cons_zero, List.set_cons_succ, i64_w, i32_w]
                  rfl
                refine pure_ (i := 13) (N := some 70) (v := ?_) (a' := ?_) #[true, true, true, true, true, true, true, true, true, true, true, true, true, true, false] rfl rfl (by kernel_rfl) (fun _ _ _ h => h) (Or.inl ⟨by rfl, ?_⟩) ?_ ?_
                rotate_left
                · intro w'
                  go_simp
                  with_reducible rfl
                rotate_left
                · simp only [Act.put, List.setIfInBounds_toArray, List.set_cons_zero, List.set_cons_succ, i64_w, i32_w]
                  rfl
                refine pure_ (i := 14) (N := some 2) (v := ?_) (a' := ?_) #[true, true, true, true, true, true, true, true, true, true, true, true, true, true, true] rfl rfl (by kernel_rfl) (fun _ _ _ h => h) (Or.inl ⟨by rfl, ?_⟩) ?_ ?_
                rotate_left
                · intro w'
                  go_simp
                  with_reducible rfl
                rotate_left
                · simp only [Act.put, List.setIfInBounds_toArray, List.set_cons_zero, List.set_cons_succ, i64_w, i32_w]
                  rfl
                refine done_ (by kernel_rfl) ?_
                clear hHeld
                have HW7 := Lib.hid (bel2 HWU.out HB7.out)
                go_wp2_with fail
                go_ret
                exact ⟨rfl, HW7.out⟩
end Go.Proofs.YtddmdiaopaoekaaDoor.P
