/- The reference's same and match, in plain words; the row that match writes. -/
import Derived.Test.YtddmdiaopaoekaaDoorPlG
import Derived.Test.YtddmdiaopaoekaaDoorPx4
import Derived.Test.YtddmdiaopaoekaaDoorTyZ
import Derived.Test.YtddmdiaopaoekaaDoorLaA
namespace Go.Proofs.YtddmdiaopaoekaaDoor.P
open Go.RowKit Go.Proofs.YtddmdiaopaoekaaDoorW.PrintWords Go.Proofs.YtddmdiaopaoekaaDoor.Rw
set_option linter.unusedVariables false
theorem own_dep : ∀ (n m : Nat) (x : S24), few24 n x → few24 m x → ownN n x = ownN m x
  | 0, _, _, h, _ => h.elim
  | _ + 1, 0, _, _, h => h.elim
  | n + 1, m + 1, x, h, k => by
    show (⟨x.f0, x.f1, x.f2, x.f3.map (ownN n)⟩ : S31) = ⟨x.f0, x.f1, x.f2, x.f3.map (ownN m)⟩
    rw [List.map_congr_left (fun y hy => own_dep n m y (h.2 y hy) (k.2 y hy))]
theorem few24_le : ∀ (n m : Nat) (x : S24), n ≤ m → few24 n x → few24 m x
  | 0, _, _, _, h => h.elim
  | n + 1, 0, _, h, _ => by omega
  | n + 1, m + 1, x, h, k => ⟨k.1, fun y hy => few24_le n m y (by omega) (k.2 y hy)⟩
theorem own_cut (x : S24) (h : few24 400 x) : ownN 400 x = ⟨x.f0, x.f1, x.f2, x.f3.map (ownN 400)⟩ := by
  show (⟨x.f0, x.f1, x.f2, x.f3.map (ownN 399)⟩ : S31) = _
  rw [List.map_congr_left (fun y hy => own_dep 399 400 y (h.2 y hy) (few24_le 399 400 y (by omega) (h.2 y hy)))]
theorem few24_part {x y : S24} (h : few24 400 x) (hy : y ∈ x.f3) : few24 400 y := few24_le 399 400 y (by omega) (h.2 y hy)
theorem dep_own : ∀ (n : Nat) (x : S24), few24 n x → dep n (ownN n x)
  | 0, _, h => h.elim
  | n + 1, x, h => fun y hy => by
    obtain ⟨z, hz, rfl⟩ := List.mem_map.1 (show y ∈ x.f3.map (ownN n) from hy)
    exact dep_own n z (h.2 z hz)
/-- The reference's same, in plain words. -/
theorem same_ex : ∀ (n : Nat) (x y : S24), few24 n x → ∃ k, hammockref09_Same.f k x.f0 x.f1 x.f2 x.f3 y.f0 y.f1 y.f2 y.f3 = some (sameN n (ownN n x) (ownN n y))
  | 0, _, _, h => h.elim
  | n + 1, x, y, h => by
    have e : sameN (n + 1) (ownN (n + 1) x) (ownN (n + 1) y) = ((x.f0 == y.f0) && ((x.f1 == y.f1) && ((x.f2.toList == y.f2.toList) && alikeT (sameN n) (x.f3.map (ownN n)) (y.f3.map (ownN n))))) := rfl
    rw [e]
    have hl : x.f3.length ≤ 1000 := h.1
    have bad : ∃ k, hammockref09_Same.j0 k true x.f0 x.f1 x.f2 x.f3 y.f0 y.f1 y.f2 y.f3 = some false := ⟨1, by rw [hammockref09_Same.j0, if_pos rfl]⟩
    by_cases h0 : x.f0 = y.f0
    · by_cases h1 : x.f1 = y.f1
      · by_cases h2 : x.f2.toList = y.f2.toList
        · have b0 : (x.f0 == y.f0) = true := beq_iff_eq.2 h0
          have b1 : (x.f1 == y.f1) = true := beq_iff_eq.2 h1
          have b2 : (x.f2.toList == y.f2.toList) = true := beq_iff_eq.2 h2
          rw [b0, b1, b2]
          simp only [Bool.true_and]
          by_cases hln : x.f3.length = y.f3.length
          · have loop : ∀ (d : Nat), d ≤ x.f3.length → ∃ k, hammockref09_Same.l0 k ((x.f3.length - d : Nat) : Int) x.f0 x.f1 x.f2 x.f3 y.f0 y.f1 y.f2 y.f3 = some (alikeT (sameN n) ((x.f3.drop (x.f3.length - d)).map (ownN n)) ((y.f3.drop (x.f3.length - d)).map (ownN n))) := by
              intro d
              induction d with
              | zero =>
                intro _
                refine ⟨1, ?_⟩
                rw [hammockref09_Same.l0, if_neg (by omega)]
                rw [List.drop_of_length_le (by omega), List.drop_of_length_le (by omega)]
                rfl
              | succ d ih =>
                intro hd
                have hj : x.f3.length - (d + 1) < x.f3.length := by omega
                have hj2 : x.f3.length - (d + 1) < y.f3.length := by omega
                have e2 : x.f3.length - (d + 1) + 1 = x.f3.length - d := by omega
                obtain ⟨k1, hk1⟩ := same_ex n x.f3[x.f3.length - (d + 1)] y.f3[x.f3.length - (d + 1)] (h.2 _ (List.getElem_mem hj))
                obtain ⟨k2, hk2⟩ := ih (by omega)
                refine ⟨max k1 k2 + 1, ?_⟩
                have r1 : rd_T24 x.f3 ((x.f3.length - (d + 1) : Nat) : Int) = x.f3[x.f3.length - (d + 1)] := by rw [rd24]; simp [List.getD_eq_getElem?_getD, hj]
                have r2 : rd_T24 y.f3 ((x.f3.length - (d + 1) : Nat) : Int) = y.f3[x.f3.length - (d + 1)] := by rw [rd24]; simp [List.getD_eq_getElem?_getD, hj2]
                rw [hammockref09_Same.l0, if_pos (by omega), if_pos (by omega), if_pos (by omega), r1, r2]
                have hk3 := leO_up (f := fun k => hammockref09_Same.f k x.f3[x.f3.length - (d + 1)].f0 x.f3[x.f3.length - (d + 1)].f1 x.f3[x.f3.length - (d + 1)].f2 x.f3[x.f3.length - (d + 1)].f3 y.f3[x.f3.length - (d + 1)].f0 y.f3[x.f3.length - (d + 1)].f1 y.f3[x.f3.length - (d + 1)].f2 y.f3[x.f3.length - (d + 1)].f3) (fun k => (hammockref09_Same.mono_l k).1 _ _ _ _ _ _ _ _) (Nat.le_max_left k1 k2) hk1
                have hk4 := leO_up (f := fun k => hammockref09_Same.l0 k ((x.f3.length - d : Nat) : Int) x.f0 x.f1 x.f2 x.f3 y.f0 y.f1 y.f2 y.f3) (fun k => (hammockref09_Same.mono_l k).2.2 _ _ _ _ _ _ _ _ _) (Nat.le_max_right k1 k2) hk2
                rw [hk3, Option.bind_some, wrap_succ _ (by omega), e2, hk4]
                have d1 : x.f3.drop (x.f3.length - (d + 1)) = x.f3[x.f3.length - (d + 1)] :: x.f3.drop (x.f3.length - d) := by rw [List.drop_eq_getElem_cons hj, e2]
                have d2 : y.f3.drop (x.f3.length - (d + 1)) = y.f3[x.f3.length - (d + 1)] :: y.f3.drop (x.f3.length - d) := by rw [List.drop_eq_getElem_cons hj2, e2]
                rw [d1, d2, List.map_cons, List.map_cons, alikeT]
                cases sameN n (ownN n x.f3[x.f3.length - (d + 1)]) (ownN n y.f3[x.f3.length - (d + 1)]) <;> simp
            obtain ⟨k, hk⟩ := loop x.f3.length (Nat.le_refl _)
            refine ⟨k + 2, ?_⟩
            rw [hammockref09_Same.f, if_pos h0, if_pos h1, if_pos h2, hammockref09_Same.j0, if_neg (by simp [hln])]
            simpa using hk
          · refine ⟨2, ?_⟩
            rw [hammockref09_Same.f, if_pos h0, if_pos h1, if_pos h2, hammockref09_Same.j0, if_pos (by simp; omega)]
            rw [alike_len _ _ _ (by simpa using hln)]
        · obtain ⟨k, hk⟩ := bad
          refine ⟨k + 1, ?_⟩
          have b2 : (x.f2.toList == y.f2.toList) = false := beq_eq_false_iff_ne.2 h2
          rw [hammockref09_Same.f, if_pos h0, if_pos h1, if_neg h2, hk, b2]
          simp
      · obtain ⟨k, hk⟩ := bad
        refine ⟨k + 1, ?_⟩
        have b2 : (x.f1 == y.f1) = false := beq_eq_false_iff_ne.2 h1
        rw [hammockref09_Same.f, if_pos h0, if_neg h1, hk, b2]
        simp
    · obtain ⟨k, hk⟩ := bad
      refine ⟨k + 1, ?_⟩
      have b2 : (x.f0 == y.f0) = false := beq_eq_false_iff_ne.2 h0
      rw [hammockref09_Same.f, if_neg h0, hk, b2]
      simp
/-- The reference's match, in plain words. -/
noncomputable def rsame (x y : S24) : Bool := sameN 400 (ownN 400 x) (ownN 400 y)
def putO (o : List S24) (i : Nat) (s : S24) : List S24 := if (o.getD i z24).f0 = 0 then o.set i s else o
def rAll (p : S24 → S24 → List S24 → Bool × List S24) : List S24 → List S24 → List S24 → Bool × List S24
  | [], _, o => (true, o)
  | _ :: _, [], o => (true, o)
  | g :: gs, s :: ss, o => if (p g s o).1 = true then rAll p gs ss (p g s o).2 else (false, (p g s o).2)
noncomputable def rmatch : Nat → S24 → S24 → List S24 → Bool × List S24
  | 0, _, _, o => (false, o)
  | n + 1, g, s, o =>
    if g.f0 = 1 then (rsame ((putO o g.f1.toNat s).getD g.f1.toNat z24) s, putO o g.f1.toNat s)
    else if g.f0 = s.f0 ∧ g.f2.toList = s.f2.toList ∧ g.f3.length = s.f3.length then rAll (rmatch n) g.f3 s.f3 o else (false, o)
theorem putO_len (o : List S24) (i : Nat) (s : S24) : (putO o i s).length = o.length := by
  unfold putO; split <;> simp
theorem rmatch_len : ∀ (n : Nat) (g s : S24) (o : List S24), (rmatch n g s o).2.length = o.length
  | 0, _, _, _ => rfl
  | n + 1, g, s, o => by
    rw [rmatch]
    split
    · exact putO_len _ _ _
    · split
      · have : ∀ (gs ss : List S24) (o : List S24), (rAll (rmatch n) gs ss o).2.length = o.length := by
          intro gs
          induction gs with
          | nil => intro ss o; cases ss <;> rfl
          | cons g gs ih =>
            intro ss o
            cases ss with
            | nil => rfl
            | cons s ss =>
              rw [rAll]
              split
              · rw [ih, rmatch_len n]
              · exact rmatch_len n g s o
        exact this _ _ _
      · rfl
/-- The row that is written: every type in it lies in what came in. -/
def OutI (w0 : World) (b : Nat) (o : List S24) (W : World) : Prop :=
  w0.heap.size ≤ b ∧ Below w0.heap.size w0 W ∧ (∀ y, y ∈ o → few24 400 y) ∧ ∃ cur : Array Value, W.heap[b]? = some (.cells cur 24 (0, 0)) ∧ cur.size = o.length * 4 ∧ Reps (k24.K w0) 4 o cur.toList
theorem OutI.lt {w0 W : World} {b : Nat} {o : List S24} (h : OutI w0 b o W) : b < W.heap.size := by
  obtain ⟨_, _, _, cur, h1, _⟩ := h
  exact (Array.getElem?_eq_some_iff.1 h1).1
theorem OutI.below {w0 W W' : World} {b : Nat} {o : List S24} (h : OutI w0 b o W) (hb : Below W.heap.size W W') : OutI w0 b o W' := by
  have hl := h.lt
  obtain ⟨h1, h2, h3, cur, h4, h5⟩ := h
  exact ⟨h1, bel2 h2 hb, h3, cur, (hb.block b hl).trans h4, h5⟩
theorem OutI.at_ {w0 W : World} {b : Nat} {o : List S24} (h : OutI w0 b o W) (i : Nat) (hi : i < o.length) :
    ∃ A c, W.cell? ⟨b, i * 4, none⟩ = some (.int .i64 (o.getD i z24).f0) ∧ W.cell? ⟨b, i * 4 + 1, none⟩ = some (.int .i64 (o.getD i z24).f1) ∧ W.cell? ⟨b, i * 4 + 2, none⟩ = some (.string (o.getD i z24).f2) ∧ W.cell? ⟨b, i * 4 + 3, none⟩ = some (.slice A (o.getD i z24).f3.length c) ∧ (o.getD i z24).f3.length ≤ c ∧ k24.C w0 A (o.getD i z24).f3.length (o.getD i z24).f3 ∧ few24 400 (o.getD i z24) := by
  obtain ⟨h1, h2, h3, cur, h4, h5, h6⟩ := h
  have e : o.getD i z24 = o[i] := by simp [List.getD_eq_getElem?_getD, hi]
  rw [e]
  obtain ⟨A, c, hc, hl, hC⟩ := k24_open (h6.2 i o[i] (List.getElem?_eq_getElem hi))
  have hcell : ∀ j, j < 4 → W.cell? ⟨b, i * 4 + j, none⟩ = ([Value.int .i64 o[i].f0, .int .i64 o[i].f1, .string o[i].f2, .slice A o[i].f3.length c] : List Value)[j]? := fun j hj => by
    rw [← hc, List.getElem?_take, if_pos hj, List.getElem?_drop]
    simp [World.cell?, h4]
  exact ⟨A, c, hcell 0 (by omega), hcell 1 (by omega), hcell 2 (by omega), hcell 3 (by omega), hl, hC, h3 _ (List.getElem_mem hi)⟩
theorem OutI.frz {w0 W : World} {b : Nat} {o : List S24} (h : OutI w0 b o W) (j : Nat) : W.frozen? ⟨b, j, none⟩ = false := by
  obtain ⟨_, _, _, cur, h4, _⟩ := h
  simp [World.frozen?, h4]
theorem OutI.put {w0 W : World} {b : Nat} {o : List S24} (h : OutI w0 b o W) (i : Nat) (hi : i < o.length) (s : S24) {A : Option Addr} {c : Nat} (hl : s.f3.length ≤ c) (hC : k24.C w0 A s.f3.length s.f3) (hs : few24 400 s) :
    OutI w0 b (o.set i s) (set4 W b (i * 4) (.int .i64 s.f0) (.int .i64 s.f1) (.string s.f2) (.slice A s.f3.length c)) := by
  obtain ⟨h1, h2, h3, cur, h4, h5, h6⟩ := h
  have hg := set4_grown W b (i * 4) (.int .i64 s.f0) (.int .i64 s.f1) (.string s.f2) (.slice A s.f3.length c)
  have hh := set4_heap (o := i * 4) h4 (.int .i64 s.f0) (.int .i64 s.f1) (.string s.f2) (.slice A s.f3.length c)
  have hi4 : i * 4 + 4 ≤ cur.size := by rw [h5]; omega
  refine ⟨h1, h2.grown hg h2.size (fun k e => by cases e; exact h1), fun y hy => ?_, _, hh, by simpa using h5, ?_⟩
  · rcases List.mem_or_eq_of_mem_set hy with h | rfl
    · exact h3 y h
    · exact hs
  · rw [Fil.list (i * 4) _ _ _ _ hi4]
    have hlen : cur.toList.length = o.length * 4 := by simpa using h5
    refine ⟨by simp; omega, fun j p hj => ?_⟩
    have hjl : j < o.length := by have := (List.getElem?_eq_some_iff.1 hj).1; simpa using this
    by_cases e : j = i
    · subst e
      rw [List.getElem?_set_self hi] at hj
      obtain rfl := Option.some.inj hj
      have e2 : (List.drop (j * 4) (List.take (j * 4) cur.toList ++ [Value.int .i64 s.f0, .int .i64 s.f1, .string s.f2, .slice A s.f3.length c] ++ List.drop (j * 4 + 4) cur.toList)) = [Value.int .i64 s.f0, .int .i64 s.f1, .string s.f2, .slice A s.f3.length c] ++ List.drop (j * 4 + 4) cur.toList := by
        rw [List.append_assoc, List.drop_append_of_le_length (by simp; omega), List.drop_of_length_le (by simp; omega)]
        rfl
      rw [e2]
      exact k24_mk w0 s hl hC
    · rw [List.getElem?_set_ne (fun e2 => e e2.symm)] at hj
      have hp := h6.2 j p hj
      have e2 : List.take 4 (List.drop (j * 4) (List.take (i * 4) cur.toList ++ [Value.int .i64 s.f0, .int .i64 s.f1, .string s.f2, .slice A s.f3.length c] ++ List.drop (i * 4 + 4) cur.toList)) = List.take 4 (List.drop (j * 4) cur.toList) := by
        apply List.ext_getElem?
        intro q
        simp only [List.getElem?_take]
        split
        · rename_i hq
          rw [List.getElem?_drop, List.getElem?_drop]
          rcases Nat.lt_or_ge j i with hlt | hge
          · rw [List.append_assoc, List.getElem?_append_left (by simp; omega), List.getElem?_take, if_pos (by omega)]
          · rw [List.getElem?_append_right (by simp; omega), List.getElem?_drop]
            congr 1
            simp
            omega
        · rfl
      rw [e2]
      exact hp
end Go.Proofs.YtddmdiaopaoekaaDoor.P
/- The reference's match: the walk. -/
namespace Go.Proofs.YtddmdiaopaoekaaDoor.P
open Go.RowKit Go.Shelf Go.Proofs.YtddmdiaopaoekaaDoorW.PrintWords Go.Proofs.YtddmdiaopaoekaaDoorW.PrintLast Go.Proofs.YtddmdiaopaoekaaDoor.Rw
set_option linter.unusedVariables false
set_option linter.unusedSimpArgs false
def RmC (w0 : World) (b n : Nat) : Prop := ∀ (g s : S24) (A B : Option Addr) (c d : Nat) (o : List S24) (W : World), few24 n g → few24 400 s → (∀ v, v ∈ varsN n (ownN n g) → 0 ≤ v ∧ v < (o.length : Int)) → g.f3.length ≤ c → k24.C w0 A g.f3.length g.f3 → s.f3.length ≤ d → k24.C w0 B s.f3.length s.f3 → OutI w0 b o W →
  Calls Tryd.prog 46 #[.agg #[.int .i64 g.f0, .int .i64 g.f1, .string g.f2, .slice A g.f3.length c], .agg #[.int .i64 s.f0, .int .i64 s.f1, .string s.f2, .slice B s.f3.length d], .slice (some ⟨b, 0, none⟩) o.length o.length] W
    fun e W' => e = .returned (.bool (rmatch n g s o).1) ∧ OutI w0 b (rmatch n g s o).2 W' ∧ W.grownBy W' (some b)
theorem rsame_calls (x y : S24) (A B : Option Addr) (c d : Nat) (W : World) (hx : few24 400 x) (hc : x.f3.length ≤ c) (hC : k24.C W A x.f3.length x.f3) (hd : y.f3.length ≤ d) (hD : k24.C W B y.f3.length y.f3) :
    Calls Tryd.prog 13 #[.agg #[.int .i64 x.f0, .int .i64 x.f1, .string x.f2, .slice A x.f3.length c], .agg #[.int .i64 y.f0, .int .i64 y.f1, .string y.f2, .slice B y.f3.length d]] W fun e W' => e = .returned (.bool (rsame x y)) ∧ Below W.heap.size W W' := by
  obtain ⟨k, hk⟩ := same_ex 400 x y hx
  exact hammockref09_Same.calls k x.f0 x.f1 x.f2 A c x.f3 y.f0 y.f1 y.f2 B d y.f3 _ W hC hc hD hd hk
set_option maxHeartbeats 8000000 in
set_option maxRecDepth 100000 in
theorem rm_succ (w0 : World) (b n : Nat) (ih : RmC w0 b n) : RmC w0 b (n + 1) := by
  intro g s A B c d o W hg hs hv hc hC hd hD hO
  have HG := Lib.hid hg
  have HS := Lib.hid hs
  have HV := Lib.hid hv
  have HC := Lib.hid hC
  have HD := Lib.hid hD
  have HO := Lib.hid hO
  have IH := Lib.hid ih
  generalize hr : rmatch (n + 1) g s o = r
  have HR := Lib.hid hr
  clear hg hs hv hC hD hO ih hr
  go_enter Tryd.func46, Tryd.ntmps46
  by_cases hk : g.f0 = 1
  · obtain ⟨i, hi⟩ : ∃ i : Nat, g.f1 = (i : Int) := ⟨g.f1.toNat, by
      have := HV.out g.f1 (by rw [varsN_succ]; show g.f1 ∈ (if g.f0 = 1 then [g.f1] else []) ++ _; rw [if_pos hk]; simp)
      omega⟩
    have hil : i < o.length := by
      have := HV.out g.f1 (by rw [varsN_succ]; show g.f1 ∈ (if g.f0 = 1 then [g.f1] else []) ++ _; rw [if_pos hk]; simp)
      omega
    have hr2 : r = (rsame ((putO o i s).getD i z24) s, putO o i s) := by
      rw [← HR.out, rmatch, if_pos hk, hi]
      rfl
    have HR2 := Lib.hid hr2
    clear hr2 HR HV
    obtain ⟨g0, g1, g2, g3⟩ := g
    simp only at hk hi hc ⊢
    subst hk
    subst hi
    go_upto_region 1 with (fail)
    have hb2 : Below W.heap.size W ((W.alloc (.cells #[.int .i64 1, .int .i64 (i : Int), .string g2, .slice A g3.length c] 24)).alloc (.cells #[.int .i64 s.f0, .int .i64 s.f1, .string s.f2, .slice B s.f3.length d] 24)) := ((Below.refl _ _).alloc (Nat.le_refl _) _).alloc (by simp) _
    have hp : ((W.alloc (.cells #[.int .i64 1, .int .i64 (i : Int), .string g2, .slice A g3.length c] 24)).alloc (.cells #[.int .i64 s.f0, .int .i64 s.f1, .string s.f2, .slice B s.f3.length d] 24)).heap[W.heap.size]? = some (.cells #[.int .i64 1, .int .i64 (i : Int), .string g2, .slice A g3.length c] 24 (0, 0)) := new2_a W _ _
    have hq : ((W.alloc (.cells #[.int .i64 1, .int .i64 (i : Int), .string g2, .slice A g3.length c] 24)).alloc (.cells #[.int .i64 s.f0, .int .i64 s.f1, .string s.f2, .slice B s.f3.length d] 24)).heap[W.heap.size + 1]? = some (.cells #[.int .i64 s.f0, .int .i64 s.f1, .string s.f2, .slice B s.f3.length d] 24 (0, 0)) := new2_b W _ _
    have hO2 := HO.out.below hb2
    have hbl := HO.out.lt
    generalize ((W.alloc (.cells #[.int .i64 1, .int .i64 (i : Int), .string g2, .slice A g3.length c] 24)).alloc (.cells #[.int .i64 s.f0, .int .i64 s.f1, .string s.f2, .slice B s.f3.length d] 24)) = w2 at hb2 hp hq hO2 ⊢
    have HP := Lib.hid hp
    have HQ := Lib.hid hq
    have HO2 := Lib.hid hO2
    have HB2 := Lib.hid hb2
    have HBL := Lib.hid hbl
    have p0 := cell_in hp 0
    have p1 := cell_in hp 1
    have p2 := cell_in hp 2
    have p3 := cell_in hp 3
    have q0 := cell_in hq 0
    have q1 := cell_in hq 1
    have q2 := cell_in hq 2
    have q3 := cell_in hq 3
    clear hp hq hO2 hb2 hbl
    have hlz : (i : Int) < (o.length : Int) := by omega
    obtain ⟨Ao, co, a0, a1, a2, a3, hlo, hCo, hfo⟩ := HO2.out.at_ i hil
    generalize hy : o.getD i z24 = y at a0 a1 a2 a3 hlo hCo hfo
    have HY := Lib.hid hy
    have HCo := Lib.hid hCo
    have HFo := Lib.hid hfo
    clear hCo hfo hy
    by_cases h0 : y.f0 = 0
    · have f0 := HO2.out.frz (i * 4)
      have f1 := HO2.out.frz (i * 4 + 1)
      have f2 := HO2.out.frz (i * 4 + 2)
      have f3 := HO2.out.frz (i * 4 + 3)
      go_upto_region 4 with (fail)
      have hO3 := HO2.out.put i hil s hd HD.out HS.out
      have hg3 := set4_grown w2 b (i * 4) (.int .i64 s.f0) (.int .i64 s.f1) (.string s.f2) (.slice B s.f3.length d)
      unfold set4 at hO3 hg3
      clear a0 a1 a2 a3 f0 f1 f2 f3 p0 p1 p2 p3 q0 q1 q2 q3
      generalize ((((w2.setCell ⟨b, i * 4, none⟩ (.int .i64 s.f0)).setCell ⟨b, i * 4 + 1, none⟩ (.int .i64 s.f1)).setCell ⟨b, i * 4 + 2, none⟩ (.string s.f2)).setCell ⟨b, i * 4 + 3, none⟩ (.slice B s.f3.length d)) = w3 at hO3 hg3 ⊢
      have hp3 := (hg3.block W.heap.size (Array.getElem?_eq_some_iff.1 HP.out).1 (by intro e; have := HBL.out; cases e; omega)).trans HP.out
      have hq3 := (hg3.block (W.heap.size + 1) (Array.getElem?_eq_some_iff.1 HQ.out).1 (by intro e; have := HBL.out; injection e; omega)).trans HQ.out
      have p0 := cell_in hp3 0
      have p1 := cell_in hp3 1
      have q0 := cell_in hq3 0
      have q1 := cell_in hq3 1
      have q2 := cell_in hq3 2
      have q3 := cell_in hq3 3
      obtain ⟨A3, c3, a0, a1, a2, a3, hl3, hC3, hf3⟩ := hO3.at_ i (by simpa using hil)
      have hgs : (o.set i s).getD i z24 = s := by simp [List.getD_eq_getElem?_getD, hil]
      have hls : (o.set i s).length = o.length := by simp
      rw [hgs] at a0 a1 a2 a3 hl3 hC3 hf3
      have hr3 : r = (rsame s s, o.set i s) := by
        rw [HR2.out]
        unfold putO
        rw [HY.out, if_pos h0, hgs]
      have HR3 := Lib.hid hr3
      have HO3 := Lib.hid hO3
      have HC3 := Lib.hid hC3
      have HG3 := Lib.hid hg3
      clear hO3 hC3 hg3 hp3 hq3 hgs hls hr3 h0
      have HSM := Lib.hid (rsame_calls s s A3 B c3 d w3.drew HS.out hl3 (Kd.C_below HC3.out (HO3.out.below ((Below.refl _ _).drew)).2.1) hd (Kd.C_below HD.out (HO3.out.below ((Below.refl _ _).drew)).2.1))
      go_wp2_with fail
      refine start_ (n := 8) (S := fun w' => w'.cell? ⟨W.heap.size, 1, none⟩ = some (.int .i64 (i : Int)) ∧ w'.cell? ⟨W.heap.size + 1, 0, none⟩ = some (.int .i64 s.f0) ∧ w'.cell? ⟨W.heap.size + 1, 1, none⟩ = some (.int .i64 s.f1) ∧ w'.cell? ⟨W.heap.size + 1, 2, none⟩ = some (.string s.f2) ∧ w'.cell? ⟨W.heap.size + 1, 3, none⟩ = some (.slice B s.f3.length d) ∧ w'.cell? ⟨b, i * 4, none⟩ = some (.int .i64 s.f0) ∧ w'.cell? ⟨b, i * 4 + 1, none⟩ = some (.int .i64 s.f1) ∧ w'.cell? ⟨b, i * 4 + 2, none⟩ = some (.string s.f2) ∧ w'.cell? ⟨b, i * 4 + 3, none⟩ = some (.slice A3 s.f3.length c3)) (ds := []) #[false, false, false, false, false, false, false, false] (by kernel_rfl) rfl rfl ⟨p1, q0, q1, q2, q3, a0, a1, a2, a3⟩ (fun hHeld => ?_)
      refine pure_ (i := 0) (N := some 23) (v := ?_) (a' := ?_) #[true, false, false, false, false, false, false, false] rfl rfl (by kernel_rfl) (fun _ _ _ h => h) (Or.inl ⟨by rfl, ?_⟩) ?_ ?_
      rotate_left
      · intro w'
        go_simp
        with_reducible rfl
      rotate_left
      · simp only [Act.put, List.setIfInBounds_toArray, List.set_cons_zero, List.set_cons_succ, i64_w, i32_w]
        rfl
      refine pure_ (i := 1) (N := some 24) (v := ?_) (a' := ?_) #[true, true, false, false, false, false, false, false] rfl rfl (by kernel_rfl) (fun _ _ _ h => h) (Or.inl ⟨by rfl, ?_⟩) ?_ ?_
      rotate_left
      · intro w'
        go_simp
        with_reducible rfl
      rotate_left
      · simp only [Act.put, List.setIfInBounds_toArray, List.set_cons_zero, List.set_cons_succ, i64_w, i32_w]
        rfl
      refine take_ (i := 2) (N := some 25) (v := ?_) (a' := ?_) #[true, true, true, false, false, false, false, false] rfl rfl (by kernel_rfl) (fun _ _ _ h => h) (Or.inl ⟨by rfl, ?_⟩) hHeld ?_ ?_
      rotate_left
      · rintro w' ⟨s0, s1, s2, s3, s4, s5, s6, s7, s8⟩
        go_simp
        with_reducible rfl
      rotate_left
      · simp only [Act.put, List.setIfInBounds_toArray, List.set_cons_zero, List.set_cons_succ, i64_w, i32_w]
        rfl
      refine pure_ (i := 3) (N := some 26) (v := ?_) (a' := ?_) #[true, true, true, true, false, false, false, false] rfl rfl (by kernel_rfl) (fun _ _ _ h => h) (Or.inl ⟨by rfl, ?_⟩) ?_ ?_
      rotate_left
      · intro w'
        go_simp
        with_reducible rfl
      rotate_left
      · simp only [Act.put, List.setIfInBounds_toArray, List.set_cons_zero, List.set_cons_succ, i64_w, i32_w]
        rfl
      refine take_ (i := 4) (N := some 27) (v := ?_) (a' := ?_) #[true, true, true, true, true, false, false, false] rfl rfl (by kernel_rfl) (fun _ _ _ h => h) (Or.inl ⟨by rfl, ?_⟩) hHeld ?_ ?_
      rotate_left
      · rintro w' ⟨s0, s1, s2, s3, s4, s5, s6, s7, s8⟩
        go_simp
        with_reducible rfl
      rotate_left
      · simp only [Act.put, List.setIfInBounds_toArray, List.set_cons_zero, List.set_cons_succ, i64_w, i32_w]
        rfl
      refine take_ (i := 5) (N := some 28) (v := ?_) (a' := ?_) #[true, true, true, true, true, true, false, false] rfl rfl (by kernel_rfl) (fun _ _ _ h => h) (Or.inl ⟨by rfl, ?_⟩) hHeld ?_ ?_
      rotate_left
      · rintro w' ⟨s0, s1, s2, s3, s4, s5, s6, s7, s8⟩
        go_simp
        with_reducible rfl
      rotate_left
      · simp only [Act.put, List.setIfInBounds_toArray, List.set_cons_zero, List.set_cons_succ, i64_w, i32_w]
        rfl
      refine one_ (i := 6) (N := some 29) #[true, true, true, true, true, true, true, false] rfl rfl (by kernel_rfl) (by decide) (fun K hK => ?_)
      refine goes_ Tryd.func13 (by kernel_rfl) rfl #[.agg #[.int .i64 s.f0, .int .i64 s.f1, .string s.f2, .slice A3 s.f3.length c3], .agg #[.int .i64 s.f0, .int .i64 s.f1, .string s.f2, .slice B s.f3.length d]] (by rfl) rfl rfl (by (try simp only [List.map_toArray, List.map_cons, List.map_nil]); first | done | rfl) ?_
      refine (HSM.out).mono ?_
      rintro e w4 ⟨rfl, hb4⟩
      refine ⟨_, rfl, ?_⟩
      have HB4 := Lib.hid hb4
      refine hK.out _ _ ⟨pw_cell_below HB4.out p1, pw_cell_below HB4.out q0, pw_cell_below HB4.out q1, pw_cell_below HB4.out q2, pw_cell_below HB4.out q3, pw_cell_below HB4.out a0, pw_cell_below HB4.out a1, pw_cell_below HB4.out a2, pw_cell_below HB4.out a3⟩ (fun hHeld => ?_)
      clear hK K
      refine norm_ (a' := ?_) ?_ ?_
      rotate_left
      · show Act.put _ (some 29) _ = _
        simp only [Act.put, List.setIfInBounds_toArray, List.set_cons_zero, List.set_cons_succ, i64_w, i32_w]
        rfl
      refine pure_ (i := 7) (N := some 6) (v := ?_) (a' := ?_) #[true, true, true, true, true, true, true, true] rfl rfl (by kernel_rfl) (fun _ _ _ h => h) (Or.inl ⟨by rfl, ?_⟩) ?_ ?_
      rotate_left
      · intro w'
        go_simp
        with_reducible rfl
      rotate_left
      · simp only [Act.put, List.setIfInBounds_toArray, List.set_cons_zero, List.set_cons_succ, i64_w, i32_w]
        rfl
      refine done_ (by kernel_rfl) ?_
      clear hHeld
      have HO4 := Lib.hid ((HO3.out.below ((Below.refl _ _).drew)).below HB4.out)
      have HGG := Lib.hid ((((grown_of_below HB2.out (some b)).trans HG3.out).trans (grown_of_below ((Below.refl w3.heap.size w3).drew) (some b))).trans (grown_of_below HB4.out (some b)))
      clear hb4 a0 a1 a2 a3 p0 p1 q0 q1 q2 q3 HB4 HSM
      go_wp2_with fail
      go_ret
      rw [HR3.out]
      exact ⟨rfl, HO4.out, HGG.out⟩
    · have hr3 : r = (rsame y s, o) := by
        rw [HR2.out]
        unfold putO
        rw [HY.out, if_neg h0, HY.out]
      have HR3 := Lib.hid hr3
      clear hr3
      have HSM := Lib.hid (rsame_calls y s Ao B co d w2.drew HFo.out hlo (Kd.C_below HCo.out (HO2.out.below ((Below.refl _ _).drew)).2.1) hd (Kd.C_below HD.out (HO2.out.below ((Below.refl _ _).drew)).2.1))
      go_wp2_with fail
      refine start_ (n := 8) (S := fun w' => w'.cell? ⟨W.heap.size, 1, none⟩ = some (.int .i64 (i : Int)) ∧ w'.cell? ⟨W.heap.size + 1, 0, none⟩ = some (.int .i64 s.f0) ∧ w'.cell? ⟨W.heap.size + 1, 1, none⟩ = some (.int .i64 s.f1) ∧ w'.cell? ⟨W.heap.size + 1, 2, none⟩ = some (.string s.f2) ∧ w'.cell? ⟨W.heap.size + 1, 3, none⟩ = some (.slice B s.f3.length d) ∧ w'.cell? ⟨b, i * 4, none⟩ = some (.int .i64 y.f0) ∧ w'.cell? ⟨b, i * 4 + 1, none⟩ = some (.int .i64 y.f1) ∧ w'.cell? ⟨b, i * 4 + 2, none⟩ = some (.string y.f2) ∧ w'.cell? ⟨b, i * 4 + 3, none⟩ = some (.slice Ao y.f3.length co)) (ds := []) #[false, false, false, false, false, false, false, false] (by kernel_rfl) rfl rfl ⟨p1, q0, q1, q2, q3, a0, a1, a2, a3⟩ (fun hHeld => ?_)
      refine pure_ (i := 0) (N := some 23) (v := ?_) (a' := ?_) #[true, false, false, false, false, false, false, false] rfl rfl (by kernel_rfl) (fun _ _ _ h => h) (Or.inl ⟨by rfl, ?_⟩) ?_ ?_
      rotate_left
      · intro w'
        go_simp
        with_reducible rfl
      rotate_left
      · simp only [Act.put, List.setIfInBounds_toArray, List.set_cons_zero, List.set_cons_succ, i64_w, i32_w]
        rfl
      refine pure_ (i := 1) (N := some 24) (v := ?_) (a' := ?_) #[true, true, false, false, false, false, false, false] rfl rfl (by kernel_rfl) (fun _ _ _ h => h) (Or.inl ⟨by rfl, ?_⟩) ?_ ?_
      rotate_left
      · intro w'
        go_simp
        with_reducible rfl
      rotate_left
      · simp only [Act.put, List.setIfInBounds_toArray, List.set_cons_zero, List.set_cons_succ, i64_w, i32_w]
        rfl
      refine take_ (i := 2) (N := some 25) (v := ?_) (a' := ?_) #[true, true, true, false, false, false, false, false] rfl rfl (by kernel_rfl) (fun _ _ _ h => h) (Or.inl ⟨by rfl, ?_⟩) hHeld ?_ ?_
      rotate_left
      · rintro w' ⟨s0, s1, s2, s3, s4, s5, s6, s7, s8⟩
        go_simp
        with_reducible rfl
      rotate_left
      · simp only [Act.put, List.setIfInBounds_toArray, List.set_cons_zero, List.set_cons_succ, i64_w, i32_w]
        rfl
      refine pure_ (i := 3) (N := some 26) (v := ?_) (a' := ?_) #[true, true, true, true, false, false, false, false] rfl rfl (by kernel_rfl) (fun _ _ _ h => h) (Or.inl ⟨by rfl, ?_⟩) ?_ ?_
      rotate_left
      · intro w'
        go_simp
        with_reducible rfl
      rotate_left
      · simp only [Act.put, List.setIfInBounds_toArray, List.set_cons_zero, List.set_cons_succ, i64_w, i32_w]
        rfl
      refine take_ (i := 4) (N := some 27) (v := ?_) (a' := ?_) #[true, true, true, true, true, false, false, false] rfl rfl (by kernel_rfl) (fun _ _ _ h => h) (Or.inl ⟨by rfl, ?_⟩) hHeld ?_ ?_
      rotate_left
      · rintro w' ⟨s0, s1, s2, s3, s4, s5, s6, s7, s8⟩
        go_simp
        with_reducible rfl
      rotate_left
      · simp only [Act.put, List.setIfInBounds_toArray, List.set_cons_zero, List.set_cons_succ, i64_w, i32_w]
        rfl
      refine take_ (i := 5) (N := some 28) (v := ?_) (a' := ?_) #[true, true, true, true, true, true, false, false] rfl rfl (by kernel_rfl) (fun _ _ _ h => h) (Or.inl ⟨by rfl, ?_⟩) hHeld ?_ ?_
      rotate_left
      · rintro w' ⟨s0, s1, s2, s3, s4, s5, s6, s7, s8⟩
        go_simp
        with_reducible rfl
      rotate_left
      · simp only [Act.put, List.setIfInBounds_toArray, List.set_cons_zero, List.set_cons_succ, i64_w, i32_w]
        rfl
      refine one_ (i := 6) (N := some 29) #[true, true, true, true, true, true, true, false] rfl rfl (by kernel_rfl) (by decide) (fun K hK => ?_)
      refine goes_ Tryd.func13 (by kernel_rfl) rfl #[.agg #[.int .i64 y.f0, .int .i64 y.f1, .string y.f2, .slice Ao y.f3.length co], .agg #[.int .i64 s.f0, .int .i64 s.f1, .string s.f2, .slice B s.f3.length d]] (by rfl) rfl rfl (by (try simp only [List.map_toArray, List.map_cons, List.map_nil]); first | done | rfl) ?_
      refine (HSM.out).mono ?_
      rintro e w4 ⟨rfl, hb4⟩
      refine ⟨_, rfl, ?_⟩
      have HB4 := Lib.hid hb4
      refine hK.out _ _ ⟨pw_cell_below HB4.out p1, pw_cell_below HB4.out q0, pw_cell_below HB4.out q1, pw_cell_below HB4.out q2, pw_cell_below HB4.out q3, pw_cell_below HB4.out a0, pw_cell_below HB4.out a1, pw_cell_below HB4.out a2, pw_cell_below HB4.out a3⟩ (fun hHeld => ?_)
      clear hK K
      refine norm_ (a' := ?_) ?_ ?_
      rotate_left
      · show Act.put _ (some 29) _ = _
        simp only [Act.put, List.setIfInBounds_toArray, List.set_cons_zero, List.set_cons_succ, i64_w, i32_w]
        rfl
      refine pure_ (i := 7) (N := some 6) (v := ?_) (a' := ?_) #[true, true, true, true, true, true, true, true] rfl rfl (by kernel_rfl) (fun _ _ _ h => h) (Or.inl ⟨by rfl, ?_⟩) ?_ ?_
      rotate_left
      · intro w'
        go_simp
        with_reducible rfl
      rotate_left
      · simp only [Act.put, List.setIfInBounds_toArray, List.set_cons_zero, List.set_cons_succ, i64_w, i32_w]
        rfl
      refine done_ (by kernel_rfl) ?_
      clear hHeld
      have HO4 := Lib.hid ((HO2.out.below ((Below.refl _ _).drew)).below HB4.out)
      have HGG := Lib.hid (((grown_of_below HB2.out (some b)).trans (grown_of_below ((Below.refl w2.heap.size w2).drew) (some b))).trans (grown_of_below HB4.out (some b)))
      clear hb4 a0 a1 a2 a3 p0 p1 q0 q1 q2 q3 HB4 HSM
      go_wp2_with fail
      go_ret
      rw [HR3.out]
      exact ⟨rfl, HO4.out, HGG.out⟩
  · by_cases hc1 : g.f0 = s.f0
    · by_cases hc2 : g.f2.toList = s.f2.toList
      · by_cases hc3 : g.f3.length = s.f3.length
        · have hr2 : rAll (rmatch n) g.f3 s.f3 o = r := by rw [← HR.out, rmatch, if_neg hk, if_pos ⟨hc1, hc2, hc3⟩]
          have HR2 := Lib.hid hr2
          have K1 := Lib.hid hc1
          have K2 := Lib.hid hc2
          have K3 := Lib.hid hc3
          clear hr2 HR hc1 hc2 hc3
          go_upto_region 1 with (fail)
          have hb2 : Below W.heap.size W ((W.alloc (.cells #[.int .i64 g.f0, .int .i64 g.f1, .string g.f2, .slice A g.f3.length c] 24)).alloc (.cells #[.int .i64 s.f0, .int .i64 s.f1, .string s.f2, .slice B s.f3.length d] 24)) := ((Below.refl _ _).alloc (Nat.le_refl _) _).alloc (by simp) _
          have hp : ((W.alloc (.cells #[.int .i64 g.f0, .int .i64 g.f1, .string g.f2, .slice A g.f3.length c] 24)).alloc (.cells #[.int .i64 s.f0, .int .i64 s.f1, .string s.f2, .slice B s.f3.length d] 24)).heap[W.heap.size]? = some (.cells #[.int .i64 g.f0, .int .i64 g.f1, .string g.f2, .slice A g.f3.length c] 24 (0, 0)) := new2_a W _ _
          have hq : ((W.alloc (.cells #[.int .i64 g.f0, .int .i64 g.f1, .string g.f2, .slice A g.f3.length c] 24)).alloc (.cells #[.int .i64 s.f0, .int .i64 s.f1, .string s.f2, .slice B s.f3.length d] 24)).heap[W.heap.size + 1]? = some (.cells #[.int .i64 s.f0, .int .i64 s.f1, .string s.f2, .slice B s.f3.length d] 24 (0, 0)) := new2_b W _ _
          have hO2 := HO.out.below hb2
          have hbl := HO.out.lt
          generalize ((W.alloc (.cells #[.int .i64 g.f0, .int .i64 g.f1, .string g.f2, .slice A g.f3.length c] 24)).alloc (.cells #[.int .i64 s.f0, .int .i64 s.f1, .string s.f2, .slice B s.f3.length d] 24)) = w2 at hb2 hp hq hO2 ⊢
          have HP := Lib.hid hp
          have HQ := Lib.hid hq
          have HO2 := Lib.hid hO2
          have HB2 := Lib.hid hb2
          have HBL := Lib.hid hbl
          have p0 := cell_in hp 0
          have p1 := cell_in hp 1
          have p2 := cell_in hp 2
          have p3 := cell_in hp 3
          have q0 := cell_in hq 0
          have q1 := cell_in hq 1
          have q2 := cell_in hq 2
          have q3 := cell_in hq 3
          clear hp hq hO2 hb2 hbl
          have hc1 := K1.out
          have hc2 := K2.out
          have hc3 := K3.out
          have hc3z : (g.f3.length : Int) = (s.f3.length : Int) := by omega
          have HC3 := Lib.hid hc3
          go_wp2_with fail
          clear p0 p1 p2 p3 q0 q1 q2 q3 hc1 hc2 hc3 hc3z K1 K2 K3
          go_loopw [7] (fun s7 wr => ∃ (kk : Nat) (oo : List S24), kk ≤ g.f3.length ∧ s7 = .int .i64 kk ∧ Hid (OutI w0 b oo wr) ∧ Hid (oo.length = o.length) ∧ Hid (rAll (rmatch n) (g.f3.drop kk) (s.f3.drop kk) oo = r) ∧ Hid (w2.grownBy wr (some b))) (fun s7 _ => g.f3.length - (intOf s7).toNat)
          case atStart => exact ⟨0, o, by omega, rfl, HO2, Lib.hid rfl, by simpa using HR2, Lib.hid ⟨rfl, rfl, rfl, Nat.le_refl _, fun _ _ _ => rfl⟩⟩
          case round =>
            obtain ⟨kk, oo, hkk, rfl, HOW, HOL, HRR, HGW⟩ := hrel
            have hpw := (HGW.out.block W.heap.size (Array.getElem?_eq_some_iff.1 HP.out).1 (by intro e; have := HBL.out; injection e; omega)).trans HP.out
            have hqw := (HGW.out.block (W.heap.size + 1) (Array.getElem?_eq_some_iff.1 HQ.out).1 (by intro e; have := HBL.out; injection e; omega)).trans HQ.out
            have p3 := cell_in hpw 3
            have q3 := cell_in hqw 3
            have HPW := Lib.hid hpw
            have HQW := Lib.hid hqw
            have HLP := Lib.hid (Array.getElem?_eq_some_iff.1 hpw).1
            have HLQ := Lib.hid (Array.getElem?_eq_some_iff.1 hqw).1
            clear hpw hqw
            by_cases hlt : kk < g.f3.length
            · have HLT := Lib.hid hlt
              have hltz : (kk : Int) < (g.f3.length : Int) := by omega
              have hlts : kk < s.f3.length := by rw [← HC3.out]; exact hlt
              have hltsz : (kk : Int) < (s.f3.length : Int) := by omega
              obtain ⟨ad, A3, c3, hAd, k0, k1, k2, k3, hl3, hCy⟩ := at_T24 HC.out (kk : Int) (by omega) hltz
              obtain ⟨bd, B3, d3, hBd, m0, m1, m2, m3, gl3, hCz⟩ := at_T24 HD.out (kk : Int) (by omega) hltsz
              have hry : rd_T24 g.f3 (kk : Int) = g.f3[kk] := by rw [rd24, List.getD_eq_getElem?_getD, List.getElem?_eq_getElem hlt]; rfl
              have hrz : rd_T24 s.f3 (kk : Int) = s.f3[kk] := by rw [rd24, List.getD_eq_getElem?_getD, List.getElem?_eq_getElem hlts]; rfl
              rw [Int.toNat_natCast] at k0 k1 k2 k3 m0 m1 m2 m3
              rw [hry] at k0 k1 k2 k3 hl3 hCy
              rw [hrz] at m0 m1 m2 m3 gl3 hCz
              have hrr := HRR.out
              rw [List.drop_eq_getElem_cons hlt, List.drop_eq_getElem_cons hlts, rAll] at hrr
              have hfy := HG.out.2 g.f3[kk] (List.getElem_mem hlt)
              have hfz := few24_part HS.out (List.getElem_mem hlts)
              have hvy : ∀ v, v ∈ varsN n (ownN n g.f3[kk]) → 0 ≤ v ∧ v < (oo.length : Int) := fun v hv => by
                have := HV.out v (by
                  rw [varsN_succ]
                  exact List.mem_append_right _ (List.mem_flatMap.2 ⟨ownN n g.f3[kk], List.mem_map_of_mem (List.getElem_mem hlt), hv⟩))
                rw [HOL.out]
                exact this
              subst hAd
              subst hBd
              clear hry hrz
              generalize g.f3[kk] = y at k0 k1 k2 k3 hl3 hCy hrr hfy hvy
              generalize s.f3[kk] = z at m0 m1 m2 m3 gl3 hCz hrr hfz
              have hcall : ∀ V, OutI w0 b oo V → Calls Tryd.prog 46 #[.agg #[.int .i64 y.f0, .int .i64 y.f1, .string y.f2, .slice A3 y.f3.length c3], .agg #[.int .i64 z.f0, .int .i64 z.f1, .string z.f2, .slice B3 z.f3.length d3], .slice (some ⟨b, 0, none⟩) o.length o.length] V
                  fun e W' => e = .returned (.bool (rmatch n y z oo).1) ∧ OutI w0 b (rmatch n y z oo).2 W' ∧ V.grownBy W' (some b) := fun V hV => by
                have h := IH.out y z A3 B3 c3 d3 oo V hfy hfz hvy hl3 hCy gl3 hCz hV
                rw [HOL.out] at h
                exact h
              have hrl := rmatch_len n y z oo
              generalize hq : rmatch n y z oo = q at hcall hrr hrl
              have HCALL := Lib.hid hcall
              have HRL := Lib.hid (hrl.trans HOL.out)
              have HRQ := Lib.hid hrr
              have h0 := pw_cell_below HOW.out.2.1 k0
              have h1 := pw_cell_below HOW.out.2.1 k1
              have h2 := pw_cell_below HOW.out.2.1 k2
              have h3 := pw_cell_below HOW.out.2.1 k3
              have e0 := pw_cell_below HOW.out.2.1 m0
              have e1 := pw_cell_below HOW.out.2.1 m1
              have e2 := pw_cell_below HOW.out.2.1 m2
              have e3 := pw_cell_below HOW.out.2.1 m3
              clear hcall hrr hrl hfy hfz hvy hCy hCz hq HRR
              go_wp2_with fail
              refine start_ (n := 13) (S := fun w' => w'.cell? ⟨W.heap.size, 3, none⟩ = some (.slice (some ad) g.f3.length c) ∧ w'.cell? ⟨W.heap.size + 1, 3, none⟩ = some (.slice (some bd) s.f3.length d) ∧ w'.cell? (ad.add (kk * 4)) = some (.int .i64 y.f0) ∧ w'.cell? ⟨(ad.add (kk * 4)).block, (ad.add (kk * 4)).off + 1, none⟩ = some (.int .i64 y.f1) ∧ w'.cell? ⟨(ad.add (kk * 4)).block, (ad.add (kk * 4)).off + 2, none⟩ = some (.string y.f2) ∧ w'.cell? ⟨(ad.add (kk * 4)).block, (ad.add (kk * 4)).off + 3, none⟩ = some (.slice A3 y.f3.length c3) ∧ w'.cell? (bd.add (kk * 4)) = some (.int .i64 z.f0) ∧ w'.cell? ⟨(bd.add (kk * 4)).block, (bd.add (kk * 4)).off + 1, none⟩ = some (.int .i64 z.f1) ∧ w'.cell? ⟨(bd.add (kk * 4)).block, (bd.add (kk * 4)).off + 2, none⟩ = some (.string z.f2) ∧ w'.cell? ⟨(bd.add (kk * 4)).block, (bd.add (kk * 4)).off + 3, none⟩ = some (.slice B3 z.f3.length d3)) (ds := []) #[false, false, false, false, false, false, false, false, false, false, false, false, false] (by kernel_rfl) rfl rfl ⟨p3, q3, h0, h1, h2, h3, e0, e1, e2, e3⟩ (fun hHeld => ?_)
              refine pure_ (i := 0) (N := some 58) (v := ?_) (a' := ?_) #[true, false, false, false, false, false, false, false, false, false, false, false, false] rfl rfl (by kernel_rfl) (fun _ _ _ h => h) (Or.inl ⟨by rfl, ?_⟩) ?_ ?_
              rotate_left
              · intro w'
                go_simp
                with_reducible rfl
              rotate_left
              · simp only [Act.put, List.setIfInBounds_toArray, List.set_cons_zero, List.set_cons_succ, i64_w, i32_w]
                rfl
              refine take_ (i := 1) (N := some 59) (v := ?_) (a' := ?_) #[true, true, false, false, false, false, false, false, false, false, false, false, false] rfl rfl (by kernel_rfl) (fun _ _ _ h => h) (Or.inl ⟨by rfl, ?_⟩) hHeld ?_ ?_
              rotate_left
              · rintro w' ⟨s0, s1, s2, s3, s4, s5, s6, s7, s8, s9⟩
                go_simp
                with_reducible rfl
              rotate_left
              · simp only [Act.put, List.setIfInBounds_toArray, List.set_cons_zero, List.set_cons_succ, i64_w, i32_w]
                rfl
              refine pure_ (i := 2) (N := some 60) (v := ?_) (a' := ?_) #[true, true, true, false, false, false, false, false, false, false, false, false, false] rfl rfl (by kernel_rfl) (fun _ _ _ h => h) (Or.inl ⟨by rfl, ?_⟩) ?_ ?_
              rotate_left
              · intro w'
                go_simp
                with_reducible rfl
              rotate_left
              · simp only [Act.put, List.setIfInBounds_toArray, List.set_cons_zero, List.set_cons_succ, i64_w, i32_w]
                rfl
              refine pure_ (i := 3) (N := some 61) (v := ?_) (a' := ?_) #[true, true, true, true, false, false, false, false, false, false, false, false, false] rfl rfl (by kernel_rfl) (fun _ _ _ h => h) (Or.inl ⟨by rfl, ?_⟩) ?_ ?_
              rotate_left
              · intro w'
                go_simp
                with_reducible rfl
              rotate_left
              · simp only [Act.put, List.setIfInBounds_toArray, List.set_cons_zero, List.set_cons_succ, i64_w, i32_w]
                rfl
              refine take_ (i := 4) (N := some 62) (v := ?_) (a' := ?_) #[true, true, true, true, true, false, false, false, false, false, false, false, false] rfl rfl (by kernel_rfl) (fun _ _ _ h => h) (Or.inl ⟨by rfl, ?_⟩) hHeld ?_ ?_
              rotate_left
              · rintro w' ⟨s0, s1, s2, s3, s4, s5, s6, s7, s8, s9⟩
                go_simp
                with_reducible rfl
              rotate_left
              · simp only [Act.put, List.setIfInBounds_toArray, List.set_cons_zero, List.set_cons_succ, i64_w, i32_w]
                rfl
              refine pure_ (i := 5) (N := some 63) (v := ?_) (a' := ?_) #[true, true, true, true, true, true, false, false, false, false, false, false, false] rfl rfl (by kernel_rfl) (fun _ _ _ h => h) (Or.inl ⟨by rfl, ?_⟩) ?_ ?_
              rotate_left
              · intro w'
                go_simp
                with_reducible rfl
              rotate_left
              · simp only [Act.put, List.setIfInBounds_toArray, List.set_cons_zero, List.set_cons_succ, i64_w, i32_w]
                rfl
              refine take_ (i := 6) (N := some 64) (v := ?_) (a' := ?_) #[true, true, true, true, true, true, true, false, false, false, false, false, false] rfl rfl (by kernel_rfl) (fun _ _ _ h => h) (Or.inl ⟨by rfl, ?_⟩) hHeld ?_ ?_
              rotate_left
              · rintro w' ⟨s0, s1, s2, s3, s4, s5, s6, s7, s8, s9⟩
                go_simp
                with_reducible rfl
              rotate_left
              · simp only [Act.put, List.setIfInBounds_toArray, List.set_cons_zero, List.set_cons_succ, i64_w, i32_w]
                rfl
              refine pure_ (i := 7) (N := some 65) (v := ?_) (a' := ?_) #[true, true, true, true, true, true, true, true, false, false, false, false, false] rfl rfl (by kernel_rfl) (fun _ _ _ h => h) (Or.inl ⟨by rfl, ?_⟩) ?_ ?_
              rotate_left
              · intro w'
                go_simp
                with_reducible rfl
              rotate_left
              · simp only [Act.put, List.setIfInBounds_toArray, List.set_cons_zero, List.set_cons_succ, i64_w, i32_w]
                rfl
              refine pure_ (i := 8) (N := some 66) (v := ?_) (a' := ?_) #[true, true, true, true, true, true, true, true, true, false, false, false, false] rfl rfl (by kernel_rfl) (fun _ _ _ h => h) (Or.inl ⟨by rfl, ?_⟩) ?_ ?_
              rotate_left
              · intro w'
                go_simp
                with_reducible rfl
              rotate_left
              · simp only [Act.put, List.setIfInBounds_toArray, List.set_cons_zero, List.set_cons_succ, i64_w, i32_w]
                rfl
              refine take_ (i := 9) (N := some 67) (v := ?_) (a' := ?_) #[true, true, true, true, true, true, true, true, true, true, false, false, false] rfl rfl (by kernel_rfl) (fun _ _ _ h => h) (Or.inl ⟨by rfl, ?_⟩) hHeld ?_ ?_
              rotate_left
              · rintro w' ⟨s0, s1, s2, s3, s4, s5, s6, s7, s8, s9⟩
                go_simp
                with_reducible rfl
              rotate_left
              · simp only [Act.put, List.setIfInBounds_toArray, List.set_cons_zero, List.set_cons_succ, i64_w, i32_w]
                rfl
              refine pure_ (i := 10) (N := some 68) (v := ?_) (a' := ?_) #[true, true, true, true, true, true, true, true, true, true, true, false, false] rfl rfl (by kernel_rfl) (fun _ _ _ h => h) (Or.inl ⟨by rfl, ?_⟩) ?_ ?_
              rotate_left
              · intro w'
                go_simp
                with_reducible rfl
              rotate_left
              · simp only [Act.put, List.setIfInBounds_toArray, List.set_cons_zero, List.set_cons_succ, i64_w, i32_w]
                rfl
              refine one_ (i := 11) (N := some 69) #[true, true, true, true, true, true, true, true, true, true, true, true, false] rfl rfl (by kernel_rfl) (by decide) (fun K hK => ?_)
              refine goes_ Tryd.func46 (by kernel_rfl) rfl #[.agg #[.int .i64 y.f0, .int .i64 y.f1, .string y.f2, .slice A3 y.f3.length c3], .agg #[.int .i64 z.f0, .int .i64 z.f1, .string z.f2, .slice B3 z.f3.length d3], .slice (some ⟨b, 0, none⟩) o.length o.length] (by rfl) rfl rfl (by (try simp only [List.map_toArray, List.map_cons, List.map_nil]); first | done | rfl) ?_
              refine (HCALL.out _ (HOW.out.below ((Below.refl _ _).drew))).mono ?_
              rintro e w5 ⟨rfl, hO5, hg5⟩
              refine ⟨_, rfl, ?_⟩
              have HO5 := Lib.hid hO5
              have HG5 := Lib.hid hg5
              clear hO5 hg5
              have p3' := cell_in ((HG5.out.block W.heap.size HLP.out (by intro e; have := HBL.out; injection e; omega)).trans HPW.out) 3
              have q3' := cell_in ((HG5.out.block (W.heap.size + 1) HLQ.out (by intro e; have := HBL.out; injection e; omega)).trans HQW.out) 3
              refine hK.out _ _ ⟨p3', q3', pw_cell_below HO5.out.2.1 k0, pw_cell_below HO5.out.2.1 k1, pw_cell_below HO5.out.2.1 k2, pw_cell_below HO5.out.2.1 k3, pw_cell_below HO5.out.2.1 m0, pw_cell_below HO5.out.2.1 m1, pw_cell_below HO5.out.2.1 m2, pw_cell_below HO5.out.2.1 m3⟩ (fun hHeld => ?_)
              clear hK K
              refine norm_ (a' := ?_) ?_ ?_
              rotate_left
              · show Act.put _ (some 69) _ = _
                simp only [Act.put, List.setIfInBounds_toArray, List.set_cons_zero, List.set_cons_succ, i64_w, i32_w]
                rfl
              refine pure_ (i := 12) (N := some 70) (v := ?_) (a' := ?_) #[true, true, true, true, true, true, true, true, true, true, true, true, true] rfl rfl (by kernel_rfl) (fun _ _ _ h => h) (Or.inl ⟨by rfl, ?_⟩) ?_ ?_
              rotate_left
              · intro w'
                go_simp
                with_reducible rfl
              rotate_left
              · simp only [Act.put, List.setIfInBounds_toArray, List.set_cons_zero, List.set_cons_succ, i64_w, i32_w]
                rfl
              refine done_ (by kernel_rfl) ?_
              have HGN := Lib.hid ((HGW.out.trans (grown_of_below ((Below.refl wr.heap.size wr).drew) (some b))).trans HG5.out)
              cases hq1 : q.1 with
              | true =>
                have hrn := HRQ.out
                rw [if_pos hq1] at hrn
                have HRN := Lib.hid hrn
                clear hrn hHeld
                clear hq1
                have hlt9 := HLT.out
                have hg9 : g.f3.length ≤ 1000 := HG.out.1
                have hw9 : wrap64 ((kk : Int) + 1) = ((kk + 1 : Nat) : Int) := wrap_succ kk (by omega)
                go_wp2_with fail
                go_roundw
                case rel => exact ⟨kk + 1, q.2, by have := HLT.out; omega, by go_num, HO5, HRL, HRN, HGN⟩
                case measure => have := HLT.out; simp [intOf]; omega
              | false =>
                have hrn := HRQ.out
                rw [if_neg (by rw [hq1]; simp)] at hrn
                have HRN := Lib.hid hrn
                clear hrn hHeld
                clear hq1
                go_wp2_with fail
                go_ret
                rw [← HRN.out]
                exact ⟨rfl, HO5.out, (grown_of_below HB2.out (some b)).trans HGN.out⟩
            · have hltz : ¬ (kk : Int) < (g.f3.length : Int) := by omega
              have hrn := HRR.out
              rw [List.drop_of_length_le (by omega)] at hrn
              have hrn2 : (true, oo) = r := hrn
              have HRN := Lib.hid hrn2
              clear hrn hrn2
              go_wp2_with fail
              go_ret
              rw [← HRN.out]
              exact ⟨rfl, HOW.out, (grown_of_below HB2.out (some b)).trans HGW.out⟩
        · have hr2 : r = (false, o) := by rw [← HR.out, rmatch, if_neg hk, if_neg (fun h => hc3 h.2.2)]
          have HR2 := Lib.hid hr2
          have K1 := Lib.hid hc1
          have K2 := Lib.hid hc2
          have K3 := Lib.hid hc3
          clear hr2 HR hc1 hc2 hc3
          go_upto_region 1 with (fail)
          have hb2 : Below W.heap.size W ((W.alloc (.cells #[.int .i64 g.f0, .int .i64 g.f1, .string g.f2, .slice A g.f3.length c] 24)).alloc (.cells #[.int .i64 s.f0, .int .i64 s.f1, .string s.f2, .slice B s.f3.length d] 24)) := ((Below.refl _ _).alloc (Nat.le_refl _) _).alloc (by simp) _
          have hp : ((W.alloc (.cells #[.int .i64 g.f0, .int .i64 g.f1, .string g.f2, .slice A g.f3.length c] 24)).alloc (.cells #[.int .i64 s.f0, .int .i64 s.f1, .string s.f2, .slice B s.f3.length d] 24)).heap[W.heap.size]? = some (.cells #[.int .i64 g.f0, .int .i64 g.f1, .string g.f2, .slice A g.f3.length c] 24 (0, 0)) := new2_a W _ _
          have hq : ((W.alloc (.cells #[.int .i64 g.f0, .int .i64 g.f1, .string g.f2, .slice A g.f3.length c] 24)).alloc (.cells #[.int .i64 s.f0, .int .i64 s.f1, .string s.f2, .slice B s.f3.length d] 24)).heap[W.heap.size + 1]? = some (.cells #[.int .i64 s.f0, .int .i64 s.f1, .string s.f2, .slice B s.f3.length d] 24 (0, 0)) := new2_b W _ _
          have hO2 := HO.out.below hb2
          have hbl := HO.out.lt
          generalize ((W.alloc (.cells #[.int .i64 g.f0, .int .i64 g.f1, .string g.f2, .slice A g.f3.length c] 24)).alloc (.cells #[.int .i64 s.f0, .int .i64 s.f1, .string s.f2, .slice B s.f3.length d] 24)) = w2 at hb2 hp hq hO2 ⊢
          have HP := Lib.hid hp
          have HQ := Lib.hid hq
          have HO2 := Lib.hid hO2
          have HB2 := Lib.hid hb2
          have HBL := Lib.hid hbl
          have p0 := cell_in hp 0
          have p1 := cell_in hp 1
          have p2 := cell_in hp 2
          have p3 := cell_in hp 3
          have q0 := cell_in hq 0
          have q1 := cell_in hq 1
          have q2 := cell_in hq 2
          have q3 := cell_in hq 3
          clear hp hq hO2 hb2 hbl
          have hc1 := K1.out
          have hc2 := K2.out
          have hc3 := K3.out
          have hc3z : ¬ (g.f3.length : Int) = (s.f3.length : Int) := by omega
          go_wp2_with fail
          go_ret
          rw [HR2.out]
          exact ⟨rfl, HO2.out, grown_of_below HB2.out (some b)⟩
      · have hr2 : r = (false, o) := by rw [← HR.out, rmatch, if_neg hk, if_neg (fun h => hc2 h.2.1)]
        have HR2 := Lib.hid hr2
        have K1 := Lib.hid hc1
        have K2 := Lib.hid hc2
        clear hr2 HR hc1 hc2
        go_upto_region 1 with (fail)
        have hb2 : Below W.heap.size W ((W.alloc (.cells #[.int .i64 g.f0, .int .i64 g.f1, .string g.f2, .slice A g.f3.length c] 24)).alloc (.cells #[.int .i64 s.f0, .int .i64 s.f1, .string s.f2, .slice B s.f3.length d] 24)) := ((Below.refl _ _).alloc (Nat.le_refl _) _).alloc (by simp) _
        have hp : ((W.alloc (.cells #[.int .i64 g.f0, .int .i64 g.f1, .string g.f2, .slice A g.f3.length c] 24)).alloc (.cells #[.int .i64 s.f0, .int .i64 s.f1, .string s.f2, .slice B s.f3.length d] 24)).heap[W.heap.size]? = some (.cells #[.int .i64 g.f0, .int .i64 g.f1, .string g.f2, .slice A g.f3.length c] 24 (0, 0)) := new2_a W _ _
        have hq : ((W.alloc (.cells #[.int .i64 g.f0, .int .i64 g.f1, .string g.f2, .slice A g.f3.length c] 24)).alloc (.cells #[.int .i64 s.f0, .int .i64 s.f1, .string s.f2, .slice B s.f3.length d] 24)).heap[W.heap.size + 1]? = some (.cells #[.int .i64 s.f0, .int .i64 s.f1, .string s.f2, .slice B s.f3.length d] 24 (0, 0)) := new2_b W _ _
        have hO2 := HO.out.below hb2
        have hbl := HO.out.lt
        generalize ((W.alloc (.cells #[.int .i64 g.f0, .int .i64 g.f1, .string g.f2, .slice A g.f3.length c] 24)).alloc (.cells #[.int .i64 s.f0, .int .i64 s.f1, .string s.f2, .slice B s.f3.length d] 24)) = w2 at hb2 hp hq hO2 ⊢
        have HP := Lib.hid hp
        have HQ := Lib.hid hq
        have HO2 := Lib.hid hO2
        have HB2 := Lib.hid hb2
        have HBL := Lib.hid hbl
        have p0 := cell_in hp 0
        have p1 := cell_in hp 1
        have p2 := cell_in hp 2
        have p3 := cell_in hp 3
        have q0 := cell_in hq 0
        have q1 := cell_in hq 1
        have q2 := cell_in hq 2
        have q3 := cell_in hq 3
        clear hp hq hO2 hb2 hbl
        have hc1 := K1.out
        have hc2 := K2.out
        go_wp2_with fail
        go_ret
        rw [HR2.out]
        exact ⟨rfl, HO2.out, grown_of_below HB2.out (some b)⟩
    · have hr2 : r = (false, o) := by rw [← HR.out, rmatch, if_neg hk, if_neg (fun h => hc1 h.1)]
      have HR2 := Lib.hid hr2
      have K1 := Lib.hid hc1
      clear hr2 HR hc1
      go_upto_region 1 with (fail)
      have hb2 : Below W.heap.size W ((W.alloc (.cells #[.int .i64 g.f0, .int .i64 g.f1, .string g.f2, .slice A g.f3.length c] 24)).alloc (.cells #[.int .i64 s.f0, .int .i64 s.f1, .string s.f2, .slice B s.f3.length d] 24)) := ((Below.refl _ _).alloc (Nat.le_refl _) _).alloc (by simp) _
      have hp : ((W.alloc (.cells #[.int .i64 g.f0, .int .i64 g.f1, .string g.f2, .slice A g.f3.length c] 24)).alloc (.cells #[.int .i64 s.f0, .int .i64 s.f1, .string s.f2, .slice B s.f3.length d] 24)).heap[W.heap.size]? = some (.cells #[.int .i64 g.f0, .int .i64 g.f1, .string g.f2, .slice A g.f3.length c] 24 (0, 0)) := new2_a W _ _
      have hq : ((W.alloc (.cells #[.int .i64 g.f0, .int .i64 g.f1, .string g.f2, .slice A g.f3.length c] 24)).alloc (.cells #[.int .i64 s.f0, .int .i64 s.f1, .string s.f2, .slice B s.f3.length d] 24)).heap[W.heap.size + 1]? = some (.cells #[.int .i64 s.f0, .int .i64 s.f1, .string s.f2, .slice B s.f3.length d] 24 (0, 0)) := new2_b W _ _
      have hO2 := HO.out.below hb2
      have hbl := HO.out.lt
      generalize ((W.alloc (.cells #[.int .i64 g.f0, .int .i64 g.f1, .string g.f2, .slice A g.f3.length c] 24)).alloc (.cells #[.int .i64 s.f0, .int .i64 s.f1, .string s.f2, .slice B s.f3.length d] 24)) = w2 at hb2 hp hq hO2 ⊢
      have HP := Lib.hid hp
      have HQ := Lib.hid hq
      have HO2 := Lib.hid hO2
      have HB2 := Lib.hid hb2
      have HBL := Lib.hid hbl
      have p0 := cell_in hp 0
      have p1 := cell_in hp 1
      have p2 := cell_in hp 2
      have p3 := cell_in hp 3
      have q0 := cell_in hq 0
      have q1 := cell_in hq 1
      have q2 := cell_in hq 2
      have q3 := cell_in hq 3
      clear hp hq hO2 hb2 hbl
      have hc1 := K1.out
      go_wp2_with fail
      go_ret
      rw [HR2.out]
      exact ⟨rfl, HO2.out, grown_of_below HB2.out (some b)⟩
end Go.Proofs.YtddmdiaopaoekaaDoor.P
/- The reference's vars and within, in plain words. -/
namespace Go.Proofs.YtddmdiaopaoekaaDoor.P
open Go.RowKit Go.Proofs.YtddmdiaopaoekaaDoorW.PrintWords
set_option linter.unusedVariables false
theorem mem_foldAdd : ∀ (xs acc : List Int) (v : Int), v ∈ xs.foldl addNew acc ↔ v ∈ acc ∨ v ∈ xs
  | [], acc, v => by simp
  | x :: xs, acc, v => by
    rw [List.foldl_cons, mem_foldAdd xs, mem_addNew, List.mem_cons]
    constructor
    · rintro ((h | h) | h)
      · exact .inl h
      · exact .inr (.inl h)
      · exact .inr (.inr h)
    · rintro (h | h | h)
      · exact .inl (.inl h)
      · exact .inl (.inr h)
      · exact .inr h
theorem len_foldAdd : ∀ (xs acc : List Int), (xs.foldl addNew acc).length ≤ acc.length + xs.length
  | [], acc => by simp
  | x :: xs, acc => by
    rw [List.foldl_cons]
    have h1 := len_foldAdd xs (addNew acc x)
    have h2 : (addNew acc x).length ≤ acc.length + 1 := by unfold addNew; split <;> simp
    rw [List.length_cons]
    omega
theorem fold_fold : ∀ (xs ys acc : List Int), (xs.foldl addNew ys).foldl addNew acc = xs.foldl addNew (ys.foldl addNew acc)
  | [], ys, acc => rfl
  | x :: xs, ys, acc => by
    rw [List.foldl_cons, List.foldl_cons, fold_fold xs]
    congr 1
    have e1 : addNew ys x = if x ∈ ys then ys else ys ++ [x] := rfl
    rw [e1]
    by_cases h : x ∈ ys
    · rw [if_pos h]
      exact (if_pos ((mem_foldAdd ys acc x).2 (.inr h))).symm
    · rw [if_neg h, List.foldl_append]
      rfl
theorem fold_distinct (xs acc : List Int) : (distinctL xs).foldl addNew acc = xs.foldl addNew acc := fold_fold xs [] acc
theorem at_ex (l : List Int) (v : Int) (hl : l.length ≤ 1000000) : ∃ k r, hammockref09_at.f k l v = some r ∧ (r < 0 ↔ v ∉ l) := by
  have loop : ∀ d, d ≤ l.length → ∃ k r, hammockref09_at.l0 k l v ((l.length - d : Nat) : Int) = some r ∧ (r < 0 ↔ v ∉ l.drop (l.length - d)) := by
    intro d
    induction d with
    | zero =>
      intro _
      refine ⟨1, -1, ?_, ?_⟩
      · rw [hammockref09_at.l0, if_neg (by omega)]
      · rw [List.drop_of_length_le (by omega)]
        simp
    | succ d ih =>
      intro hd
      have hj : l.length - (d + 1) < l.length := by omega
      have e2 : l.length - (d + 1) + 1 = l.length - d := by omega
      obtain ⟨k, r, h1, h2⟩ := ih (by omega)
      have r1 : rd l ((l.length - (d + 1) : Nat) : Int) = l[l.length - (d + 1)] := by
        show l.getD (((l.length - (d + 1) : Nat) : Int)).toNat 0 = _
        rw [Int.toNat_natCast, List.getD_eq_getElem?_getD, List.getElem?_eq_getElem hj]
        rfl
      have d1 : l.drop (l.length - (d + 1)) = l[l.length - (d + 1)] :: l.drop (l.length - d) := by rw [List.drop_eq_getElem_cons hj, e2]
      by_cases hv : l[l.length - (d + 1)] = v
      · refine ⟨k + 1, ((l.length - (d + 1) : Nat) : Int), ?_, ?_⟩
        · rw [hammockref09_at.l0, if_pos (by omega), if_pos (by omega), r1, if_pos hv]
        · rw [d1, hv]
          constructor
          · intro h; omega
          · intro h; exact absurd (List.mem_cons_self) h
      · refine ⟨k + 1, r, ?_, ?_⟩
        · rw [hammockref09_at.l0, if_pos (by omega), if_pos (by omega), r1, if_neg hv, wrap_succ _ (by omega), e2]
          exact h1
        · rw [h2, d1, List.mem_cons]
          constructor
          · intro h1 h; rcases h with h | h
            · exact hv h.symm
            · exact h1 h
          · intro h1 h; exact h1 (.inr h)
  obtain ⟨k, r, h1, h2⟩ := loop l.length (Nat.le_refl _)
  refine ⟨k, r, ?_, ?_⟩
  · unfold hammockref09_at.f
    simpa using h1
  · simpa using h2
theorem wrap_succ' (j : Nat) (h : j ≤ 100000000) : wrap64 ((j : Int) + 1) = ((j + 1 : Nat) : Int) := by
  unfold wrap64
  omega
theorem vars_ex : ∀ (n : Nat) (x : S24), few24 n x → (varsN n (ownN n x)).length ≤ 100000 → ∃ k, hammockref09_vars.f k x.f0 x.f1 x.f2 x.f3 = some (distinctL (varsN n (ownN n x)))
  | 0, _, h, _ => h.elim
  | n + 1, x, h, hN => by
    have ev : varsN (n + 1) (ownN (n + 1) x) = (if x.f0 = 1 then [x.f1] else []) ++ (x.f3.map (ownN n)).flatMap (varsN n) := rfl
    have hlen : ∀ y, y ∈ x.f3 → (varsN n (ownN n y)).length ≤ 100000 := fun y hy => by
      have : (varsN n (ownN n y)).length ≤ ((x.f3.map (ownN n)).flatMap (varsN n)).length := by
        obtain ⟨a, b, e⟩ := List.append_of_mem hy
        rw [e]
        simp only [List.map_append, List.map_cons, List.flatMap_append, List.flatMap_cons, List.length_append]
        omega
      rw [ev, List.length_append] at hN
      omega
    have loop : ∀ (d : Nat) (acc : List Int), d ≤ x.f3.length → acc.length + (((x.f3.drop (x.f3.length - d)).map (ownN n)).flatMap (varsN n)).length ≤ 100000 → ∃ k, hammockref09_vars.l0 k acc ((x.f3.length - d : Nat) : Int) x.f0 x.f1 x.f2 x.f3 = some ((((x.f3.drop (x.f3.length - d)).map (ownN n)).flatMap (varsN n)).foldl addNew acc) := by
      intro d
      induction d with
      | zero =>
        intro acc _ _
        refine ⟨1, ?_⟩
        rw [hammockref09_vars.l0, if_neg (by omega), List.drop_of_length_le (by omega)]
        rfl
      | succ d ih =>
        intro acc hd ha
        have hj : x.f3.length - (d + 1) < x.f3.length := by omega
        have e2 : x.f3.length - (d + 1) + 1 = x.f3.length - d := by omega
        have d1 : x.f3.drop (x.f3.length - (d + 1)) = x.f3[x.f3.length - (d + 1)] :: x.f3.drop (x.f3.length - d) := by rw [List.drop_eq_getElem_cons hj, e2]
        rw [d1] at ha ⊢
        rw [List.map_cons, List.flatMap_cons] at ha ⊢
        rw [List.length_append] at ha
        have r1 : rd_T24 x.f3 ((x.f3.length - (d + 1) : Nat) : Int) = x.f3[x.f3.length - (d + 1)] := by rw [rd24, List.getD_eq_getElem?_getD, List.getElem?_eq_getElem hj]; rfl
        obtain ⟨k1, hk1⟩ := vars_ex n x.f3[x.f3.length - (d + 1)] (h.2 _ (List.getElem_mem hj)) (hlen _ (List.getElem_mem hj))
        generalize x.f3[x.f3.length - (d + 1)] = y at hk1 ha r1 ⊢
        generalize hm : varsN n (ownN n y) = vs at hk1 ha ⊢
        have hml := length_distinct vs
        have inner : ∀ (e : Nat) (acc2 : List Int), e ≤ (distinctL vs).length → acc2.length + e + (((x.f3.drop (x.f3.length - d)).map (ownN n)).flatMap (varsN n)).length ≤ 100000 → ∃ k, hammockref09_vars.l1 k acc2 ((x.f3.length - (d + 1) : Nat) : Int) (distinctL vs) (((distinctL vs).length - e : Nat) : Int) x.f0 x.f1 x.f2 x.f3 = some ((((x.f3.drop (x.f3.length - d)).map (ownN n)).flatMap (varsN n)).foldl addNew (((distinctL vs).drop ((distinctL vs).length - e)).foldl addNew acc2)) := by
          intro e
          induction e with
          | zero =>
            intro acc2 _ ha2
            obtain ⟨k, hk⟩ := ih acc2 (by omega) (by omega)
            refine ⟨k + 1, ?_⟩
            rw [hammockref09_vars.l1, if_neg (by omega), wrap_succ _ (by have h9 : x.f3.length ≤ 1000 := h.1; omega), e2, hk, List.drop_of_length_le (l := distinctL vs) (by omega)]
            rfl
          | succ e ih2 =>
            intro acc2 he ha2
            have hje : (distinctL vs).length - (e + 1) < (distinctL vs).length := by omega
            have e3 : (distinctL vs).length - (e + 1) + 1 = (distinctL vs).length - e := by omega
            have d2 : (distinctL vs).drop ((distinctL vs).length - (e + 1)) = (distinctL vs)[(distinctL vs).length - (e + 1)] :: (distinctL vs).drop ((distinctL vs).length - e) := by rw [List.drop_eq_getElem_cons hje, e3]
            have r2 : rd (distinctL vs) (((distinctL vs).length - (e + 1) : Nat) : Int) = (distinctL vs)[(distinctL vs).length - (e + 1)] := by
              show (distinctL vs).getD ((((distinctL vs).length - (e + 1) : Nat) : Int)).toNat 0 = _
              rw [Int.toNat_natCast, List.getD_eq_getElem?_getD, List.getElem?_eq_getElem hje]
              rfl
            rw [d2, List.foldl_cons]
            generalize (distinctL vs)[(distinctL vs).length - (e + 1)] = u at r2 ⊢
            obtain ⟨ka, ra, hka, hra⟩ := at_ex acc2 u (by omega)
            by_cases hu : u ∈ acc2
            · obtain ⟨k, hk⟩ := ih2 acc2 (by omega) (by omega)
              refine ⟨max ka k + 1, ?_⟩
              have hka2 := leO_up (f := fun k => hammockref09_at.f k acc2 u) (fun k => hammockref09_at.mono _ _ k) (Nat.le_max_left ka k) hka
              have hk2 := leO_up (f := fun k => hammockref09_vars.l1 k acc2 ((x.f3.length - (d + 1) : Nat) : Int) (distinctL vs) (((distinctL vs).length - e : Nat) : Int) x.f0 x.f1 x.f2 x.f3) (fun k => (hammockref09_vars.mono_l k).2.2.2 _ _ _ _ _ _ _ _) (Nat.le_max_right ka k) hk
              rw [hammockref09_vars.l1, if_pos (by omega), if_pos (by omega), r2, hka2, Option.bind_some, if_neg (fun h9 => (hra.1 h9) hu), wrap_succ' _ (by omega), e3, hk2]
              unfold addNew
              rw [if_pos hu]
            · obtain ⟨k, hk⟩ := ih2 (acc2 ++ [u]) (by omega) (by rw [List.length_append, List.length_singleton]; omega)
              refine ⟨max ka k + 1, ?_⟩
              have hka2 := leO_up (f := fun k => hammockref09_at.f k acc2 u) (fun k => hammockref09_at.mono _ _ k) (Nat.le_max_left ka k) hka
              have hk2 := leO_up (f := fun k => hammockref09_vars.l1 k (acc2 ++ [u]) ((x.f3.length - (d + 1) : Nat) : Int) (distinctL vs) (((distinctL vs).length - e : Nat) : Int) x.f0 x.f1 x.f2 x.f3) (fun k => (hammockref09_vars.mono_l k).2.2.2 _ _ _ _ _ _ _ _) (Nat.le_max_right ka k) hk
              rw [hammockref09_vars.l1, if_pos (by omega), if_pos (by omega), r2, hka2, Option.bind_some, if_pos (hra.2 hu), if_pos (by omega), wrap_succ' _ (by omega), e3, hk2]
              have e4 : addNew acc2 u = acc2 ++ [u] := by unfold addNew; rw [if_neg hu]
              rw [e4]
        obtain ⟨k2, hk2⟩ := inner (distinctL vs).length acc (Nat.le_refl _) (by omega)
        refine ⟨max k1 k2 + 1, ?_⟩
        have hk3 := leO_up (f := fun k => hammockref09_vars.f k y.f0 y.f1 y.f2 y.f3) (fun k => (hammockref09_vars.mono_l k).1 _ _ _ _) (Nat.le_max_left k1 k2) hk1
        have hk4 := leO_up (f := fun k => hammockref09_vars.l1 k acc ((x.f3.length - (d + 1) : Nat) : Int) (distinctL vs) (((distinctL vs).length - (distinctL vs).length : Nat) : Int) x.f0 x.f1 x.f2 x.f3) (fun k => (hammockref09_vars.mono_l k).2.2.2 _ _ _ _ _ _ _ _) (Nat.le_max_right k1 k2) hk2
        rw [hammockref09_vars.l0, if_pos (by omega), if_pos (by omega), r1, hk3, Option.bind_some]
        have e5 : (((distinctL vs).length - (distinctL vs).length : Nat) : Int) = 0 := by omega
        rw [e5] at hk4
        rw [hk4, List.foldl_append]
        have e6 : (distinctL vs).drop ((distinctL vs).length - (distinctL vs).length) = distinctL vs := by simp
        rw [e6, fold_distinct]
    rw [ev, List.length_append] at hN
    have key : ∀ acc : List Int, acc.length ≤ (if x.f0 = 1 then [x.f1] else ([] : List Int)).length → ∃ k, hammockref09_vars.j0 k acc x.f0 x.f1 x.f2 x.f3 = some (((x.f3.map (ownN n)).flatMap (varsN n)).foldl addNew acc) := fun acc ha => by
      obtain ⟨k, hk⟩ := loop x.f3.length acc (Nat.le_refl _) (by simp only [Nat.sub_self, List.drop_zero]; omega)
      refine ⟨k + 1, ?_⟩
      rw [hammockref09_vars.j0]
      simpa using hk
    by_cases e : x.f0 = 1
    · rw [if_pos e] at key
      obtain ⟨k, hk⟩ := key [x.f1] (Nat.le_refl _)
      refine ⟨k + 1, ?_⟩
      rw [hammockref09_vars.f, if_pos e, hk, ev, if_pos e]
      unfold distinctL
      rw [List.foldl_append]
      rfl
    · rw [if_neg e] at key
      obtain ⟨k, hk⟩ := key [] (Nat.le_refl _)
      refine ⟨k + 1, ?_⟩
      rw [hammockref09_vars.f, if_neg e, hk, ev, if_neg e]
      rfl
/-- .. of a type that is right. -/
theorem Vars24_ex (x : S24) (hx : rightB 400 (ownN 400 x) = true) (hN : (varsN 400 (ownN 400 x)).length ≤ 100000) : ∃ k, hammockref09_Vars.f k x.f0 x.f1 x.f2 x.f3 = some (VarsB (ownN 400 x)) := by
  obtain ⟨k1, hk1⟩ := Right24_ex x
  obtain ⟨k2, hk2⟩ := vars_ex 400 x (few24_of_right 400 x hx) hN
  refine ⟨max k1 k2, ?_⟩
  unfold hammockref09_Vars.f
  rw [leO_up (f := fun k => hammockref09_Right.f k x.f0 x.f1 x.f2 x.f3) (fun k => hammockref09_Right.mono _ _ _ _ k) (Nat.le_max_left k1 k2) hk1, Option.bind_some, if_pos hx, leO_up (f := fun k => hammockref09_vars.f k x.f0 x.f1 x.f2 x.f3) (fun k => (hammockref09_vars.mono_l k).1 _ _ _ _) (Nat.le_max_right k1 k2) hk2]
  unfold VarsB
  rw [if_pos hx, varsL_400 _ hx]
  rfl
/-- within, in plain words. -/
theorem within_ex (V : Int) (x : S24) (hx : few24 400 x) (hN : (varsN 400 (ownN 400 x)).length ≤ 100000) : ∃ k, hammockref09_within.f k V x.f0 x.f1 x.f2 x.f3 = some (closedB V (ownN 400 x)) := by
  obtain ⟨k1, hk1⟩ := vars_ex 400 x hx hN
  have hml := length_distinct (varsN 400 (ownN 400 x))
  have ec : closedB V (ownN 400 x) = (distinctL (varsN 400 (ownN 400 x))).all fun v => decide (v < V) := by
    unfold closedB
    rw [varsL_dep 400 _ (dep_own 400 x hx), Bool.eq_iff_iff, List.all_eq_true, List.all_eq_true]
    exact ⟨fun h v hv => h v ((mem_distinct _ _).1 hv), fun h v hv => h v ((mem_distinct _ _).2 hv)⟩
  rw [ec]
  generalize distinctL (varsN 400 (ownN 400 x)) = l at hk1 hml ⊢
  have loop : ∀ d, d ≤ l.length → ∃ k, hammockref09_within.l0 k l ((l.length - d : Nat) : Int) V x.f0 x.f1 x.f2 x.f3 = some ((l.drop (l.length - d)).all fun v => decide (v < V)) := by
    intro d
    induction d with
    | zero =>
      intro _
      refine ⟨1, ?_⟩
      rw [hammockref09_within.l0, if_neg (by omega), List.drop_of_length_le (by omega)]
      rfl
    | succ d ih =>
      intro hd
      have hj : l.length - (d + 1) < l.length := by omega
      have e2 : l.length - (d + 1) + 1 = l.length - d := by omega
      obtain ⟨k, hk⟩ := ih (by omega)
      have r1 : rd l ((l.length - (d + 1) : Nat) : Int) = l[l.length - (d + 1)] := by
        show l.getD (((l.length - (d + 1) : Nat) : Int)).toNat 0 = _
        rw [Int.toNat_natCast, List.getD_eq_getElem?_getD, List.getElem?_eq_getElem hj]
        rfl
      have d1 : l.drop (l.length - (d + 1)) = l[l.length - (d + 1)] :: l.drop (l.length - d) := by rw [List.drop_eq_getElem_cons hj, e2]
      refine ⟨k + 1, ?_⟩
      rw [hammockref09_within.l0, if_pos (by omega), if_pos (by omega), r1, d1, List.all_cons]
      by_cases hv : l[l.length - (d + 1)] ≥ V
      · rw [if_pos hv, decide_eq_false (by omega)]
        rfl
      · rw [if_neg hv, decide_eq_true (by omega), wrap_succ _ (by omega), e2, hk]
        rfl
  obtain ⟨k2, hk2⟩ := loop l.length (Nat.le_refl _)
  refine ⟨max k1 k2, ?_⟩
  unfold hammockref09_within.f
  rw [leO_up (f := fun k => hammockref09_vars.f k x.f0 x.f1 x.f2 x.f3) (fun k => (hammockref09_vars.mono_l k).1 _ _ _ _) (Nat.le_max_left k1 k2) hk1, Option.bind_some]
  have := leO_up (f := fun k => hammockref09_within.l0 k l ((l.length - l.length : Nat) : Int) V x.f0 x.f1 x.f2 x.f3) (fun k => hammockref09_within.mono_l k _ _ _ _ _ _ _) (Nat.le_max_right k1 k2) hk2
  simpa using this
end Go.Proofs.YtddmdiaopaoekaaDoor.P
/- The reference's Match and More. -/
namespace Go.Proofs.YtddmdiaopaoekaaDoor.P
open Go.RowKit Go.Shelf Go.Proofs.YtddmdiaopaoekaaDoorW.PrintWords Go.Proofs.YtddmdiaopaoekaaDoorW.PrintLast Go.Proofs.YtddmdiaopaoekaaDoor.Rw
set_option linter.unusedVariables false
set_option linter.unusedSimpArgs false
theorem rm_all (w0 : World) (b : Nat) : ∀ n, RmC w0 b n
  | 0 => fun _ _ _ _ _ _ _ _ h => h.elim
  | n + 1 => rm_succ w0 b n (rm_all w0 b n)
abbrev T24 := S24
def var24 (i : Int) : T24 := ⟨1, i, ⟨#[]⟩, []⟩
def fillAt (o : List T24) (i : Nat) : T24 := if (o.getD i z24).f0 = 0 then var24 i else o.getD i z24
/-- The first ones are filled. -/
def fillK (o : List T24) (kk : Nat) : List T24 := (List.range o.length).map (fun i => if i < kk then fillAt o i else o.getD i z24)
theorem fillK_len (o : List T24) (kk : Nat) : (fillK o kk).length = o.length := by simp [fillK]
theorem fillK_zero (o : List T24) : fillK o 0 = o := by
  unfold fillK
  apply List.ext_getElem
  · simp
  · intro i h1 h2
    have h3 : i < o.length := h2
    simp [h3]
theorem fillK_get (o : List T24) (kk i : Nat) (h : i < o.length) : (fillK o kk).getD i z24 = if i < kk then fillAt o i else o.getD i z24 := by
  unfold fillK
  rw [List.getD_eq_getElem?_getD, List.getElem?_map, List.getElem?_range h]
  rfl
theorem fillK_get? (o : List T24) (kk i : Nat) : (fillK o kk)[i]? = if i < o.length then some (if i < kk then fillAt o i else o.getD i z24) else none := by
  unfold fillK
  rw [List.getElem?_map]
  by_cases h : i < o.length
  · rw [List.getElem?_range h, if_pos h]
    rfl
  · rw [List.getElem?_eq_none (by simpa using h), if_neg h]
    rfl
theorem fillK_put (o : List T24) (kk : Nat) (h : kk < o.length) (h0 : (o.getD kk z24).f0 = 0) : (fillK o kk).set kk (var24 kk) = fillK o (kk + 1) := by
  apply List.ext_getElem?
  intro i
  rw [List.getElem?_set, fillK_get?, fillK_get?, fillK_len]
  by_cases e : kk = i
  · subst e
    rw [if_pos rfl, if_pos h, if_pos h, if_pos (by omega)]
    unfold fillAt
    rw [if_pos h0]
  · rw [if_neg e]
    by_cases hi : i < o.length
    · rw [if_pos hi, if_pos hi]
      by_cases hl : i < kk
      · rw [if_pos hl, if_pos (by omega)]
      · rw [if_neg hl, if_neg (by omega)]
    · rw [if_neg hi, if_neg hi]
theorem fillK_same (o : List T24) (kk : Nat) (h : kk < o.length) (h0 : (o.getD kk z24).f0 ≠ 0) : fillK o kk = fillK o (kk + 1) := by
  unfold fillK
  refine List.map_congr_left (fun i hi => ?_)
  by_cases e : i = kk
  · subst e
    rw [if_neg (by omega), if_pos (by omega)]
    unfold fillAt
    rw [if_neg h0]
  · by_cases hl : i < kk
    · rw [if_pos hl, if_pos (by omega)]
    · rw [if_neg hl, if_neg (by omega)]
noncomputable def rMatchB (g s : T24) : Option (List T24) :=
  if rightB 400 (ownN 400 g) = true ∧ rightB 400 (ownN 400 s) = true ∧ greatL (VarsB (ownN 400 g)) ≤ 512 ∧ (rmatch 400 g s (List.replicate (greatL (VarsB (ownN 400 g)) + 1).toNat z24)).1 = true
  then some (fillK (rmatch 400 g s (List.replicate (greatL (VarsB (ownN 400 g)) + 1).toNat z24)).2 (greatL (VarsB (ownN 400 g)) + 1).toNat) else none
def RMatchP (w : World) (r : Option (List T24)) (e : Ending) (w' : World) : Prop :=
  (match r with
   | none => e = .returned (.tuple #[.slice none 0 0, .bool false])
   | some l => ∃ A c, e = .returned (.tuple #[.slice A l.length c, .bool true]) ∧ l.length ≤ c ∧ k24.C w' A l.length l) ∧ Below w.heap.size w w'
theorem cell_int {w : World} {A : Option Addr} {n : Nat} {xs : List Int} (h : (Kd.int .i64).C w A n xs) (i : Nat) (hi : i < n) : ∃ ad, A = some ad ∧ w.cell? (ad.add i) = some (.int .i64 (xs.getD i 0)) := by
  obtain ⟨ad, c, e, hl, hk, hc⟩ := ReadsRow.get_ h 0 (i : Int) (by omega) (by omega)
  refine ⟨ad, e, ?_⟩
  have hk' : c = [.int .i64 (xs.getD ((i : Int)).toNat 0)] := hk
  subst hk'
  have := hc 0 _ rfl
  rw [Int.toNat_natCast] at this
  have e2 : i * (Kd.int .i64).sz + 0 = i := by show i * 1 + 0 = i; omega
  rwa [e2] at this
theorem meas_ (N kk : Nat) (h : kk < N) : N - (intOf (.int .i64 ((kk + 1 : Nat) : Int))).toNat < N - (intOf (.int .i64 (kk : Int))).toNat := by
  show N - (((kk + 1 : Nat) : Int)).toNat < N - ((kk : Int)).toNat
  omega
/-- The two boxes. -/
def B2 (w : World) (g s : T24) (A B : Option Addr) (c d : Nat) (W : World) : Prop :=
  Below w.heap.size w W ∧ W.heap[w.heap.size]? = some (.cells #[.int .i64 g.f0, .int .i64 g.f1, .string g.f2, .slice A g.f3.length c] 24 (0, 0)) ∧ W.heap[w.heap.size + 1]? = some (.cells #[.int .i64 s.f0, .int .i64 s.f1, .string s.f2, .slice B s.f3.length d] 24 (0, 0))
theorem B2.up {w : World} {g s : T24} {A B : Option Addr} {c d : Nat} {W W' : World} (h : B2 w g s A B c d W) (hb : Below W.heap.size W W') : B2 w g s A B c d W' :=
  ⟨bel2 h.1 hb, (hb.block _ (Array.getElem?_eq_some_iff.1 h.2.1).1).trans h.2.1, (hb.block _ (Array.getElem?_eq_some_iff.1 h.2.2).1).trans h.2.2⟩
theorem B2.grown {w : World} {g s : T24} {A B : Option Addr} {c d : Nat} {W W' : World} (h : B2 w g s A B c d W) {b : Nat} (hg : W.grownBy W' (some b)) (hb : w.heap.size + 2 ≤ b) : B2 w g s A B c d W' :=
  ⟨h.1.grown hg h.1.size (fun k e => by cases e; omega), (hg.block _ (Array.getElem?_eq_some_iff.1 h.2.1).1 (by intro e; injection e; omega)).trans h.2.1, (hg.block _ (Array.getElem?_eq_some_iff.1 h.2.2).1 (by intro e; injection e; omega)).trans h.2.2⟩
theorem B2.size {w : World} {g s : T24} {A B : Option Addr} {c d : Nat} {W : World} (h : B2 w g s A B c d W) : w.heap.size + 2 ≤ W.heap.size := by
  have := (Array.getElem?_eq_some_iff.1 h.2.2).1
  omega
set_option maxHeartbeats 8000000 in
set_option maxRecDepth 100000 in
theorem RMatch_calls (g s : T24) (A B : Option Addr) (c d : Nat) (w : World) (hc : g.f3.length ≤ c) (hC : k24.C w A g.f3.length g.f3) (hd : s.f3.length ≤ d) (hD : k24.C w B s.f3.length s.f3) (hN : (varsN 400 (ownN 400 g)).length ≤ 100000) :
    Calls Tryd.prog 12 #[.agg #[.int .i64 g.f0, .int .i64 g.f1, .string g.f2, .slice A g.f3.length c], .agg #[.int .i64 s.f0, .int .i64 s.f1, .string s.f2, .slice B s.f3.length d]] w (RMatchP w (rMatchB g s)) := by
  have HC := Lib.hid hC
  have HD := Lib.hid hD
  have HN := Lib.hid hN
  generalize hrr : rMatchB g s = rr
  have HRR := Lib.hid hrr
  clear hC hD hN hrr
  obtain ⟨kg, hkg⟩ := Right24_ex g
  obtain ⟨ks, hks⟩ := Right24_ex s
  have HKG := Lib.hid hkg
  have HKS := Lib.hid hks
  clear hkg hks
  go_enter Tryd.func12, Tryd.ntmps12
  go_upto_region 1 with (fail)
  have hB : B2 w g s A B c d ((w.alloc (.cells #[.int .i64 g.f0, .int .i64 g.f1, .string g.f2, .slice A g.f3.length c] 24)).alloc (.cells #[.int .i64 s.f0, .int .i64 s.f1, .string s.f2, .slice B s.f3.length d] 24)) := ⟨((Below.refl _ _).alloc (Nat.le_refl _) _).alloc (by simp) _, new2_a w _ _, new2_b w _ _⟩
  generalize ((w.alloc (.cells #[.int .i64 g.f0, .int .i64 g.f1, .string g.f2, .slice A g.f3.length c] 24)).alloc (.cells #[.int .i64 s.f0, .int .i64 s.f1, .string s.f2, .slice B s.f3.length d] 24)) = w2 at hB ⊢
  have HB2 := Lib.hid hB
  clear hB
  have x0 := cell_in HB2.out.2.1 0
  have x1 := cell_in HB2.out.2.1 1
  have x2 := cell_in HB2.out.2.1 2
  have x3 := cell_in HB2.out.2.1 3
  have y0 := cell_in HB2.out.2.2 0
  have y1 := cell_in HB2.out.2.2 1
  have y2 := cell_in HB2.out.2.2 2
  have y3 := cell_in HB2.out.2.2 3
  go_wp2_with fail
  refine (hammockref09_Right.calls kg g.f0 g.f1 g.f2 A c g.f3 _ w2 (Kd.C_below HC.out HB2.out.1) hc HKG.out).mono ?_
  rintro e w3 ⟨rfl, hb3⟩
  have HB3 := Lib.hid (HB2.out.up hb3)
  clear hb3 x0 x1 x2 x3 y0 y1 y2 y3
  have x0 := cell_in HB3.out.2.1 0
  have x1 := cell_in HB3.out.2.1 1
  have x2 := cell_in HB3.out.2.1 2
  have x3 := cell_in HB3.out.2.1 3
  have y0 := cell_in HB3.out.2.2 0
  have y1 := cell_in HB3.out.2.2 1
  have y2 := cell_in HB3.out.2.2 2
  have y3 := cell_in HB3.out.2.2 3
  cases hrg : rightB 400 (ownN 400 g) with
  | false =>
    have hrg' : ¬ rightB 400 (ownN 400 g) = true := by rw [hrg]; simp
    have HRG := Lib.hid hrg'
    clear hrg hrg'
    have hno : rr = none := by
      rw [← HRR.out]
      unfold rMatchB
      rw [if_neg (fun h => HRG.out h.1)]
    have HNO := Lib.hid hno
    clear hno
    go_wp2_with fail
    go_ret2
    rw [HNO.out]
    exact ⟨rfl, HB3.out.1⟩
  | true =>
    have HRG := Lib.hid hrg
    clear hrg
    go_wp2_with fail
    refine (hammockref09_Right.calls ks s.f0 s.f1 s.f2 B d s.f3 _ w3 (Kd.C_below HD.out HB3.out.1) hd HKS.out).mono ?_
    rintro e w4 ⟨rfl, hb4⟩
    have HB4 := Lib.hid (HB3.out.up hb4)
    clear hb4 x0 x1 x2 x3 y0 y1 y2 y3
    have x0 := cell_in HB4.out.2.1 0
    have x1 := cell_in HB4.out.2.1 1
    have x2 := cell_in HB4.out.2.1 2
    have x3 := cell_in HB4.out.2.1 3
    have y0 := cell_in HB4.out.2.2 0
    have y1 := cell_in HB4.out.2.2 1
    have y2 := cell_in HB4.out.2.2 2
    have y3 := cell_in HB4.out.2.2 3
    cases hrs : rightB 400 (ownN 400 s) with
    | false =>
      have hrs' : ¬ rightB 400 (ownN 400 s) = true := by rw [hrs]; simp
      have HRS := Lib.hid hrs'
      clear hrs hrs'
      have hno : rr = none := by
        rw [← HRR.out]
        unfold rMatchB
        rw [if_neg (fun h => HRS.out h.2.1)]
      have HNO := Lib.hid hno
      clear hno
      go_wp2_with fail
      go_ret2
      rw [HNO.out]
      exact ⟨rfl, HB4.out.1⟩
    | true =>
      have HRS := Lib.hid hrs
      clear hrs
      obtain ⟨kv, hkv⟩ := Vars24_ex g HRG.out HN.out
      have HKV := Lib.hid hkv
      have hvm : ∀ v, v ∈ VarsB (ownN 400 g) ↔ v ∈ varsN 400 (ownN 400 g) := fun v => by
        unfold VarsB
        rw [if_pos HRG.out, mem_distinct, varsL_400 _ HRG.out]
      have HVM := Lib.hid hvm
      have hvl : (VarsB (ownN 400 g)).length ≤ 100000 := by
        have h1 := len_vars (ownN 400 g)
        rw [varsL_400 _ HRG.out] at h1
        have := HN.out
        omega
      clear hkv hvm
      generalize hl : VarsB (ownN 400 g) = l at HKV HVM hvl
      have HL := Lib.hid hl
      clear hl
      go_wp2_with fail
      refine (hammockref09_Vars.calls kv g.f0 g.f1 g.f2 A c g.f3 l w4 (Kd.C_below HC.out HB4.out.1) hc HKV.out).mono ?_
      rintro e w5 ⟨v, rfl, hR5, hb5⟩
      obtain ⟨Av, cv, rfl, hlv, hCv⟩ := Kd.R_reads hR5
      have HB5 := Lib.hid (HB4.out.up hb5)
      have HCv := Lib.hid hCv
      clear hb5 hR5 hCv x0 x1 x2 x3 y0 y1 y2 y3
      go_wp2_with fail
      go_loopw [7, 8] (fun s7 s8 wr => ∃ kk : Nat, kk ≤ l.length ∧ s8 = .int .i64 kk ∧ s7 = .int .i64 (greatL (l.take kk)) ∧ w5 = wr) (fun _ s8 _ => l.length - (intOf s8).toNat)
      case atStart => exact ⟨0, by omega, rfl, rfl, rfl⟩
      case round =>
        obtain ⟨kk, hkk, rfl, rfl, rfl⟩ := hrel
        by_cases hlt : kk < l.length
        · have hltz : (kk : Int) < (l.length : Int) := by omega
          obtain ⟨ad, hAd, hcg⟩ := cell_int HCv.out kk hlt
          have hge : l.getD kk 0 = l[kk] := by rw [List.getD_eq_getElem?_getD, List.getElem?_eq_getElem hlt]; rfl
          rw [hge] at hcg
          subst hAd
          have hgs : greatL (l.take (kk + 1)) = max (greatL (l.take kk)) l[kk] := by rw [List.take_succ_eq_append_getElem hlt, great_snoc]
          have HGS := Lib.hid hgs
          clear hgs hge
          generalize l[kk] = lv at hcg HGS
          have hw9 : wrap64 ((kk : Int) + 1) = ((kk + 1 : Nat) : Int) := wrap_succ kk (by omega)
          go_wp2_with fail
          go_roundw
          case rel => exact ⟨kk + 1, by omega, by go_num, by rw [HGS.out], trivial⟩
          case measure => simp [intOf]; omega
        · have hltz : ¬ (kk : Int) < (l.length : Int) := by omega
          obtain rfl : kk = l.length := by omega
          rw [List.take_length]
          by_cases hgr : greatL l > 512
          · have hgr' : ¬ greatL l ≤ 512 := by omega
            have HGR := Lib.hid hgr'
            clear hgr'
            have hno : rr = none := by
              rw [← HRR.out]
              unfold rMatchB
              rw [if_neg (fun h => HGR.out (by have := h.2.2.1; rwa [HL.out] at this))]
            have HNO := Lib.hid hno
            clear hno
            go_wp2_with fail
            go_ret2
            rw [HNO.out]
            exact ⟨rfl, HB5.out.1⟩
          · have hgn : ¬ greatL l > 512 := hgr
            obtain ⟨i0, hi, hz0, hz1, hz2⟩ := info_parts info24
            have hge := great_ge l
            obtain ⟨N, hN1⟩ : ∃ N : Nat, greatL l + 1 = (N : Int) := ⟨(greatL l + 1).toNat, by omega⟩
            have hNle : N ≤ 513 := by omega
            have hw64 : wrap64 (greatL l + 1) = (N : Int) := by unfold wrap64; omega
            have hmk : ∀ W, (Instr.makeSlice 22 (.int .i64 (N : Int)) (.int .i64 (N : Int))).run Tryd.prog W = .ok (.slice (some ⟨W.heap.size, 0, none⟩) N N) (W.alloc (.cells (madeCells #[.int .i64 0, .int .i64 0, .string ⟨#[]⟩, .slice none 0 0] (N * 4)) 24)) := fun W => by
              have := run_make W 22 24 i0 _ Tryd.underlying22 hi hz0 .i64 .i64 (N : Int) (N : Int) (by omega) (Int.le_refl _) (by rw [hz2]; omega) (by omega)
              rwa [hz1, Int.toNat_natCast] at this
            have hgl : greatL l ≤ 512 := by omega
            have HGL := Lib.hid hgl
            have HN1 := Lib.hid hN1
            have HNL := Lib.hid hNle
            have hOut : OutI w w5.heap.size (List.replicate N z24) (w5.alloc (.cells (madeCells #[.int .i64 0, .int .i64 0, .string ⟨#[]⟩, .slice none 0 0] (N * 4)) 24)) :=
              ⟨HB5.out.1.size, HB5.out.1.alloc HB5.out.1.size _, fun y hy => by rw [(List.mem_replicate.1 hy).2]; exact ⟨by simp [z24], fun z hz => by simp [z24] at hz⟩, _, heap_new w5 _, by rw [size_madeCells, List.length_replicate], Kd.reps_made (z := .agg #[.int .i64 0, .int .i64 0, .string ⟨#[]⟩, .slice none 0 0]) (size := 4) rfl (by decide) (k24_mk w z24 (A3 := none) (c3 := 0) (Nat.le_refl _) ⟨rfl, by simp [z24], fun h => absurd h (by simp [z24])⟩) N⟩
            have HBN := Lib.hid (HB5.out.up ((Below.refl _ _).alloc (Nat.le_refl _) (.cells (madeCells #[.int .i64 0, .int .i64 0, .string ⟨#[]⟩, .slice none 0 0] (N * 4)) 24)))
            have HSB : Hid (w.heap.size + 2 ≤ w5.heap.size) := Lib.hid HB5.out.size
            have hrm := rm_all w w5.heap.size 400 g s A B c d _ _ (few24_of_right 400 g HRG.out) (few24_of_right 400 s HRS.out) (fun v hv => by
              have h1 := vars_nonneg 400 _ HRG.out v hv
              have h2 := le_great l v ((HVM.out v).2 hv)
              rw [List.length_replicate]
              have := HN1.out
              exact ⟨h1, by omega⟩) hc HC.out hd HD.out hOut
            rw [List.length_replicate] at hrm
            generalize hq : rmatch 400 g s (List.replicate N z24) = q at hrm
            have hql : q.2.length = N := by rw [← hq, rmatch_len, List.length_replicate]
            have HQ := Lib.hid hq
            have HQL := Lib.hid hql
            have HRM := Lib.hid hrm
            clear hge hgl hN1 hq hql hrm hOut
            go_upto_region 12 with (fail)
            clear hmk hw64
            generalize hwe : w5.alloc (.cells (madeCells #[.int .i64 0, .int .i64 0, .string ⟨#[]⟩, .slice none 0 0] (N * 4)) 24) = w6 at HRM HBN ⊢
            generalize hbe : w5.heap.size = b at HSB HRM ⊢
            have x0 := cell_in HBN.out.2.1 0
            have x1 := cell_in HBN.out.2.1 1
            have x2 := cell_in HBN.out.2.1 2
            have x3 := cell_in HBN.out.2.1 3
            have y0 := cell_in HBN.out.2.2 0
            have y1 := cell_in HBN.out.2.2 1
            have y2 := cell_in HBN.out.2.2 2
            have y3 := cell_in HBN.out.2.2 3
            go_wp2_with fail
            refine HRM.out.mono ?_
            rintro e w7 ⟨rfl, hO7, hg7⟩
            have HO7 := Lib.hid hO7
            clear hO7 hg7 x0 x1 x2 x3 y0 y1 y2 y3
            have hNt : (greatL l + 1).toNat = N := by have := HN1.out; omega
            have HNT := Lib.hid hNt
            clear hNt
            cases hq1 : q.1 with
            | false =>
              have hq1' : ¬ q.1 = true := by rw [hq1]; simp
              have HQ1 := Lib.hid hq1'
              clear hq1 hq1'
              have hno : rr = none := by
                rw [← HRR.out]
                unfold rMatchB
                rw [if_neg (fun h => HQ1.out (by have := h.2.2.2; rwa [HL.out, HNT.out, HQ.out] at this))]
              have HNO := Lib.hid hno
              clear hno
              go_wp2_with fail
              go_ret2
              rw [HNO.out]
              exact ⟨rfl, HO7.out.2.1⟩
            | true =>
              have hsome : rr = some (fillK q.2 N) := by
                rw [← HRR.out]
                unfold rMatchB
                rw [HL.out, HNT.out, HQ.out, if_pos ⟨HRG.out, HRS.out, HGL.out, hq1⟩]
              have HSOME := Lib.hid hsome
              clear hsome hq1
              have hO7 := HO7.out
              rw [← fillK_zero q.2] at hO7
              have HO8 := Lib.hid hO7
              clear hO7
              go_wp2_with fail
              go_loopw [10] (fun s10 wr => ∃ kk : Nat, kk ≤ N ∧ s10 = .int .i64 kk ∧ Hid (OutI w b (fillK q.2 kk) wr)) (fun s10 _ => N - (intOf s10).toNat)
              case atStart => exact ⟨0, by omega, rfl, HO8⟩
              case round =>
                obtain ⟨kk, hkk, rfl, HOK⟩ := hrel
                by_cases hlt : kk < N
                · have hltz : (kk : Int) < (N : Int) := by omega
                  have hkq : kk < q.2.length := by rw [HQL.out]; exact hlt
                  have HW9 : Hid (wrap64 ((kk : Int) + 1) = ((kk + 1 : Nat) : Int)) := Lib.hid (wrap_succ kk (by have := HNL.out; omega))
                  obtain ⟨Ao, co, a0, a1, a2, a3, hlo, hCo, hfo⟩ := HOK.out.at_ kk (by rw [fillK_len]; exact hkq)
                  rw [fillK_get q.2 kk kk hkq, if_neg (by omega)] at a0 a1 a2 a3 hlo hCo hfo
                  have hput := fillK_put q.2 kk hkq
                  have hsame := fillK_same q.2 kk hkq
                  generalize q.2.getD kk z24 = y at a0 a1 a2 a3 hlo hCo hfo hput hsame
                  by_cases h0 : y.f0 = 0
                  · have f0 := HOK.out.frz (kk * 4)
                    have f1 := HOK.out.frz (kk * 4 + 1)
                    have f2 := HOK.out.frz (kk * 4 + 2)
                    have f3 := HOK.out.frz (kk * 4 + 3)
                    have hp9 := hput h0
                    have HP9 := Lib.hid hp9
                    clear hput hsame hp9
                    go_wp2_with fail
                    refine (hammockref09_Var.calls (kk : Int) 1 (kk : Int) ⟨#[]⟩ [] wr rfl).mono ?_
                    rintro e w8 ⟨v3, rfl, hR8, hb8⟩
                    obtain ⟨A8, c8, rfl, hl8, hC8⟩ := Kd.R_reads hR8
                    have HOW := Lib.hid (HOK.out.below hb8)
                    clear hb8 hR8 hC8 a0 a1 a2 a3 f0 f1 f2 f3
                    obtain ⟨Ap, cp, a0, a1, a2, a3, _⟩ := HOW.out.at_ kk (by rw [fillK_len]; exact hkq)
                    have f0 := HOW.out.frz (kk * 4)
                    have f1 := HOW.out.frz (kk * 4 + 1)
                    have f2 := HOW.out.frz (kk * 4 + 2)
                    have f3 := HOW.out.frz (kk * 4 + 3)
                    have hpt := HOW.out.put kk (by rw [fillK_len]; exact hkq) (var24 (kk : Int)) (A := A8) (c := c8) (Nat.zero_le _) ⟨rfl, by simp [var24], fun h => absurd h (by simp [var24])⟩ ⟨by simp [var24], fun z hz => by simp [var24] at hz⟩
                    rw [HP9.out] at hpt
                    have HPT := Lib.hid hpt
                    clear hpt
                    go_wp2_with fail
                    go_roundw
                    case rel => exact ⟨kk + 1, hlt, by go_num, HPT⟩
                    case measure => simp [intOf]; omega
                  · have hs9 := hsame h0
                    have HS9 := Lib.hid hs9
                    clear hs9
                    go_wp2_with fail
                    go_roundw
                    case rel => exact ⟨kk + 1, hlt, by go_num, HS9.out ▸ HOK⟩
                    case measure => simp [intOf]; omega
                · have hltz : ¬ (kk : Int) < (N : Int) := by omega
                  obtain rfl : kk = N := by omega
                  go_wp2_with fail
                  go_ret2
                  rw [HSOME.out]
                  have hO := HOK.out
                  obtain ⟨hb0, hbw, hfw, cur, hcur, hsz, hrp⟩ := hO
                  have hln : (fillK q.2 kk).length = kk := by rw [fillK_len, HQL.out]
                  have how : wr.ownsRow w.heap.size 24 4 (.slice (some ⟨b, 0, none⟩) (fillK q.2 kk).length kk) (fillK q.2 kk).length cur.toList :=
                    ⟨by simpa using hsz, .inr ⟨b, kk, cur, rfl, hb0, hcur, by rw [hln]; exact Nat.le_refl _, by have := HNL.out; unfold maxLen; omega, by rw [hsz, hln], by rw [List.take_of_length_le]; simp [hsz]⟩⟩
                  obtain ⟨A9, c9, he9, hR9⟩ := own_reads_row how (hrp.imp_ (fun p cs hp => k24.K_below hbw hp)) rfl
                  cases he9
                  exact ⟨⟨some ⟨b, 0, none⟩, kk, by rw [hln]; rfl, by rw [hln]; exact Nat.le_refl _, hR9⟩, hbw⟩
end Go.Proofs.YtddmdiaopaoekaaDoor.P
/- The reference's match is the program's. -/
namespace Go.Proofs.YtddmdiaopaoekaaDoor.P
open Go.RowKit Go.Shelf Go.Proofs.YtddmdiaopaoekaaDoorW.PrintWords Go.Proofs.YtddmdiaopaoekaaDoorW.PrintLast Go.Proofs.YtddmdiaopaoekaaDoor.Rw
set_option linter.unusedVariables false
set_option linter.unusedSimpArgs false
/-- No kind is nought. -/
def nz24 : Nat → T24 → Prop
  | 0, _ => False
  | n + 1, x => x.f0 ≠ 0 ∧ ∀ y, y ∈ x.f3 → nz24 n y
theorem kind_fits {x : S31} (h : fitsB x = true) : x.f0 ≠ 0 := by
  intro e
  have h' : types_Type_fits.f x.f0 x.f1 x.f2 x.f3 = some true := by rw [fits_some, h]
  unfold types_Type_fits.f at h'
  rw [if_neg (by omega), if_neg (by omega), if_neg (by omega)] at h'
  cases h'
theorem nz24_right : ∀ (n : Nat) (x : T24), rightB n (ownN n x) = true → nz24 n x
  | 0, _, h => by cases h
  | n + 1, x, h => by
    obtain ⟨h1, h2⟩ := rightB_part h
    exact ⟨kind_fits h1, fun y hy => nz24_right n y (h2 _ (List.mem_map_of_mem (f := ownN n) hy))⟩
theorem nz24_le : ∀ (n m : Nat) (x : T24), n ≤ m → nz24 n x → nz24 m x
  | 0, _, _, _, h => h.elim
  | n + 1, 0, _, h, _ => by omega
  | n + 1, m + 1, x, h, ⟨h1, h2⟩ => ⟨h1, fun y hy => nz24_le n m y (by omega) (h2 y hy)⟩
/-- What stands in the row is what the map holds. -/
def relO (st : Bnd) (o : List T24) : Prop := (∀ i : Nat, i < o.length → st.1 (i : Int) = if (o.getD i z24).f0 = 0 then none else some (ownN 400 (o.getD i z24))) ∧ ∀ y, y ∈ o → few24 400 y
theorem rm_match : ∀ (n : Nat) (g s : T24) (o : List T24) (st : Bnd), few24 n g → few24 400 s → nz24 400 s → (∀ v, v ∈ varsN n (ownN n g) → 0 ≤ v ∧ v < (o.length : Int)) → relO st o →
    (rmatch n g s o).1 = (matchS n (ownN n g) (ownN 400 s) st).1 ∧ relO (matchS n (ownN n g) (ownN 400 s) st).2 (rmatch n g s o).2
  | 0, _, _, _, _, h, _, _, _, _ => h.elim
  | n + 1, g, s, o, st, hg, hs, hz, hv, hr => by
    have hm : matchS (n + 1) (ownN (n + 1) g) (ownN 400 s) st = if g.f0 = 1 then (match st.1 g.f1 with
      | none => (true, (putT st.1 g.f1 (ownN 400 s), st.2 + 1))
      | some u => (sameB u (ownN 400 s), st))
      else if g.f0 = s.f0 then (if g.f2.toList = s.f2.toList then eqL (matchS n) (g.f3.map (ownN n)) (s.f3.map (ownN 400)) st else (false, st)) else (false, st) := by
      rw [own_cut s hs]
      rfl
    rw [hm, rmatch]
    have ev : varsN (n + 1) (ownN (n + 1) g) = (if g.f0 = 1 then [g.f1] else []) ++ (g.f3.map (ownN n)).flatMap (varsN n) := rfl
    by_cases hk : g.f0 = 1
    · rw [if_pos hk, if_pos hk]
      have hb := hv g.f1 (by rw [ev, if_pos hk]; simp)
      obtain ⟨i, hi⟩ : ∃ i : Nat, g.f1 = (i : Int) := ⟨g.f1.toNat, by omega⟩
      rw [hi, Int.toNat_natCast]
      have hil : i < o.length := by omega
      have hst := hr.1 i hil
      have hfo : few24 400 (o.getD i z24) := by
        have : o.getD i z24 = o[i] := by rw [List.getD_eq_getElem?_getD, List.getElem?_eq_getElem hil]; rfl
        rw [this]
        exact hr.2 _ (List.getElem_mem hil)
      by_cases h0 : (o.getD i z24).f0 = 0
      · rw [if_pos h0] at hst
        rw [hst]
        have e1 : putO o i s = o.set i s := by unfold putO; rw [if_pos h0]
        have e2 : (o.set i s).getD i z24 = s := by rw [List.getD_eq_getElem?_getD, List.getElem?_set_self hil]; rfl
        rw [e1, e2]
        refine ⟨sameN_self 400 _ (dep_own 400 s hs), fun j hj => ?_, fun y hy => ?_⟩
        · rw [List.length_set] at hj
          show putT st.1 (i : Int) (ownN 400 s) (j : Int) = _
          unfold putT
          by_cases e : j = i
          · subst e
            rw [if_pos rfl, e2, if_neg (by
              cases h400 : (400 : Nat) with
              | zero => cases h400
              | succ m => rw [h400] at hz; exact hz.1)]
          · rw [if_neg (by omega), hr.1 j hj]
            have e3 : (o.set i s).getD j z24 = o.getD j z24 := by rw [List.getD_eq_getElem?_getD, List.getElem?_set_ne (by omega), ← List.getD_eq_getElem?_getD]
            rw [e3]
        · rcases List.mem_or_eq_of_mem_set hy with h | rfl
          · exact hr.2 y h
          · exact hs
      · rw [if_neg h0] at hst
        rw [hst]
        have e1 : putO o i s = o := by unfold putO; rw [if_neg h0]
        rw [e1]
        refine ⟨?_, hr⟩
        show sameN 400 _ _ = sameB _ _
        rw [sameB_dep 400 _ _ (dep_own 400 _ hfo)]
    · rw [if_neg hk, if_neg hk]
      by_cases h1 : g.f0 = s.f0
      · rw [if_pos h1]
        by_cases h2 : g.f2.toList = s.f2.toList
        · rw [if_pos h2]
          by_cases h3 : g.f3.length = s.f3.length
          · rw [if_pos ⟨h1, h2, h3⟩]
            have e4 : eqL (matchS n) (g.f3.map (ownN n)) (s.f3.map (ownN 400)) st = eqS (matchS n) (g.f3.map (ownN n)) (s.f3.map (ownN 400)) st := by unfold eqL; rw [if_pos (by simpa using h3)]
            rw [e4]
            have hzs : ∀ y, y ∈ s.f3 → nz24 400 y := fun y hy => nz24_le 399 400 y (by omega) (hz.2 y hy)
            have all : ∀ (gs ss : List T24) (o : List T24) (st : Bnd), gs.length = ss.length → (∀ y, y ∈ gs → few24 n y) → (∀ y, y ∈ ss → few24 400 y ∧ nz24 400 y) → (∀ v, v ∈ (gs.map (ownN n)).flatMap (varsN n) → 0 ≤ v ∧ v < (o.length : Int)) → relO st o →
                (rAll (rmatch n) gs ss o).1 = (eqS (matchS n) (gs.map (ownN n)) (ss.map (ownN 400)) st).1 ∧ relO (eqS (matchS n) (gs.map (ownN n)) (ss.map (ownN 400)) st).2 (rAll (rmatch n) gs ss o).2 := by
              intro gs
              induction gs with
              | nil =>
                intro ss o st hl _ _ _ hr
                cases ss with
                | nil => exact ⟨rfl, hr⟩
                | cons s ss => simp at hl
              | cons y ys ih =>
                intro ss o st hl hgs hss hvs hr
                cases ss with
                | nil => simp at hl
                | cons z zs =>
                  obtain ⟨q1, q2⟩ := rm_match n y z o st (hgs y (by simp)) (hss z (by simp)).1 (hss z (by simp)).2 (fun v hv => hvs v (by simp only [List.map_cons, List.flatMap_cons, List.mem_append]; exact .inl hv)) hr
                  rw [List.map_cons, List.map_cons, rAll, eqS, ← q1]
                  by_cases hq : (rmatch n y z o).1 = true
                  · rw [if_pos hq, if_pos hq]
                    exact ih zs _ _ (by simpa using hl) (fun u hu => hgs u (by simp [hu])) (fun u hu => hss u (by simp [hu])) (fun v hv => by rw [rmatch_len]; exact hvs v (by simp only [List.map_cons, List.flatMap_cons, List.mem_append]; exact .inr hv)) q2
                  · rw [if_neg hq, if_neg hq]
                    exact ⟨rfl, q2⟩
            exact all g.f3 s.f3 o st h3 hg.2 (fun y hy => ⟨few24_part hs hy, hzs y hy⟩) (fun v hv' => hv v (by rw [ev]; exact List.mem_append_right _ hv')) hr
          · rw [if_neg (fun h => h3 h.2.2)]
            have e4 : eqL (matchS n) (g.f3.map (ownN n)) (s.f3.map (ownN 400)) st = (false, st) := by unfold eqL; rw [if_neg (by simpa using h3)]
            rw [e4]
            exact ⟨rfl, hr⟩
        · rw [if_neg h2, if_neg (fun h => h2 h.2.1)]
          exact ⟨rfl, hr⟩
      · rw [if_neg h1, if_neg (fun h => h1 h.1)]
        exact ⟨rfl, hr⟩
theorem great_mem (l m : List Int) (h : ∀ v, v ∈ l ↔ v ∈ m) : greatL l = greatL m := by
  have h1 : greatL l ≤ greatL m := great_le _ _ _ (great_ge m) (fun v hv => le_great m v ((h v).1 hv))
  have h2 : greatL m ≤ greatL l := great_le _ _ _ (great_ge l) (fun v hv => le_great l v ((h v).2 hv))
  omega
/-- P904: Match. -/
theorem match_eq (g s : T24) : MatchB (ownN 400 g) (ownN 400 s) = (rMatchB g s).map (List.map (ownN 400)) := by
  unfold MatchB rMatchB
  by_cases hg : rightB 400 (ownN 400 g) = true
  · by_cases hs : rightB 400 (ownN 400 s) = true
    · have hgr : greatL (varsL (ownN 400 g)) = greatL (VarsB (ownN 400 g)) := great_mem _ _ (fun v => by unfold VarsB; rw [if_pos hg, mem_distinct])
      rw [hgr]
      by_cases h5 : greatL (VarsB (ownN 400 g)) ≤ 512
      · have hge := great_ge (VarsB (ownN 400 g))
        obtain ⟨N, hN⟩ : ∃ N : Nat, (greatL (VarsB (ownN 400 g)) + 1).toNat = N := ⟨_, rfl⟩
        rw [hN]
        have fg := few24_of_right 400 g hg
        have fs := few24_of_right 400 s hs
        have hvm : ∀ v, v ∈ varsN 400 (ownN 400 g) → 0 ≤ v ∧ v < (N : Int) := fun v hv => by
          have h1 := vars_nonneg 400 _ hg v hv
          have h2 := le_great (VarsB (ownN 400 g)) v (by unfold VarsB; rw [if_pos hg, mem_distinct, varsL_400 _ hg]; exact hv)
          exact ⟨h1, by omega⟩
        have hr0 : relO (fun _ => none, 0) (List.replicate N z24) := ⟨fun i hi => by
          rw [List.length_replicate] at hi
          have : (List.replicate N z24).getD i z24 = z24 := by rw [List.getD_eq_getElem?_getD, List.getElem?_replicate]; simp [hi]
          rw [this]
          rfl, fun y hy => by rw [(List.mem_replicate.1 hy).2]; exact ⟨by simp [z24], fun z hz => by simp [z24] at hz⟩⟩
        obtain ⟨q1, q2⟩ := rm_match 400 g s (List.replicate N z24) (fun _ => none, 0) fg fs (nz24_right 400 s hs) (fun v hv => by rw [List.length_replicate]; exact hvm v hv) hr0
        have hmr : matchR (ownN 400 g) (ownN 400 s) = matchS 400 (ownN 400 g) (ownN 400 s) (fun _ => none, 0) := matchR_dep 400 _ _ (dep_own 400 g fg)
        rw [hmr]
        have hlen := rmatch_len 400 g s (List.replicate N z24)
        rw [List.length_replicate] at hlen
        generalize rmatch 400 g s (List.replicate N z24) = q at q1 q2 hlen
        generalize matchS 400 (ownN 400 g) (ownN 400 s) (fun _ => none, 0) = p at q1 q2
        by_cases hp : p.1 = true
        · rw [if_pos ⟨hg, hs, h5, hp⟩, if_pos ⟨hg, hs, h5, q1.trans hp⟩, Option.map_some]
          congr 1
          apply List.ext_getElem?
          intro i
          rw [List.getElem?_map, fillK_get?, hlen]
          unfold outL
          rw [List.getElem?_map]
          by_cases hi : i < N
          · rw [List.getElem?_range hi, if_pos hi, if_pos hi]
            show some (outAt p.2.1 (i : Int)) = some (ownN 400 (fillAt q.2 i))
            unfold outAt fillAt
            rw [q2.1 i (by rw [hlen]; exact hi)]
            by_cases h0 : (q.2.getD i z24).f0 = 0
            · rw [if_pos h0, if_pos h0]
              rfl
            · rw [if_neg h0, if_neg h0]
          · rw [List.getElem?_eq_none (by simpa using hi), if_neg hi]
            rfl
        · rw [if_neg (fun h => hp h.2.2.2), if_neg (fun h => hp (q1 ▸ h.2.2.2))]
          rfl
      · rw [if_neg (fun h => h5 h.2.2.1), if_neg (fun h => h5 h.2.2.1)]
        rfl
    · rw [if_neg (fun h => hs h.2.1), if_neg (fun h => hs h.2.1)]
      rfl
  · rw [if_neg (fun h => hg h.1), if_neg (fun h => hg h.1)]
    rfl
/-- Few parts: a shallow type. -/
theorem few_of_cnt : ∀ (k : Nat) (x : T24), cntN (k + 1) x ≤ k → k ≤ 1000 → few24 k x
  | 0, x, h, _ => by
    have e : cntN 1 x = 1 + (x.f3.map (cntN 0)).sum := rfl
    have h' : cntN 1 x ≤ 0 := h
    omega
  | k + 1, x, h, hk => by
    have e : cntN (k + 1 + 1) x = 1 + (x.f3.map (cntN (k + 1))).sum := rfl
    have hall : ∀ l : List T24, (∀ y, y ∈ l → cntN (k + 1) y ≤ (l.map (cntN (k + 1))).sum) ∧ l.length ≤ (l.map (cntN (k + 1))).sum := by
      intro l
      induction l with
      | nil => exact ⟨fun y hy => by simp at hy, by simp⟩
      | cons z l ih =>
        have e2 : cntN (k + 1) z = 1 + (z.f3.map (cntN k)).sum := rfl
        refine ⟨fun y hy => ?_, ?_⟩
        · rw [List.map_cons, List.sum_cons]
          rcases List.mem_cons.1 hy with rfl | hy
          · omega
          · have := ih.1 y hy; omega
        · rw [List.map_cons, List.sum_cons, List.length_cons]
          have := ih.2
          omega
    obtain ⟨h1, h2⟩ := hall x.f3
    exact ⟨by omega, fun y hy => few_of_cnt k y (by have := h1 y hy; omega) (by omega)⟩
/-- A light row's types are shallow, and have few variables. -/
theorem light_few (k m : Nat) (l : List T24) (hl : l.length ≤ 9223372036854775807) (hL : hammocklaw09_Light.f k l = some true) (ho : ∀ y, y ∈ l → ok24 m y ∧ nm24 m y) : ∀ y, y ∈ l → few24 400 y ∧ (varsN 400 (ownN 400 y)).length ≤ 400 := by
  unfold hammocklaw09_Light.f at hL
  obtain ⟨r, hr, h⟩ := Option.bind_eq_some_iff.1 hL
  have h0 : 0 ≤ r := by simpa using h
  intro y hy
  have h1 := (few_cnt k).1 401 m l 400 r (by omega) (by omega) hl ho hr h0
  have h2 := (few_cnt k).1 400 m l 400 r (by omega) (by omega) hl ho hr h0
  have h3 := sum_mem (cntN 401) l y hy
  have h4 := sum_mem (cntN 400) l y hy
  have h5 := vars_cnt 400 y
  have h9 : cntN 401 y ≤ 400 := by omega
  exact ⟨few_of_cnt 400 y h9 (by omega), by omega⟩
/-- Ref takes Own back. -/
theorem ref_ex : ∀ (n : Nat) (x : T24), few24 n x → ∃ k, hammocklaw09_Ref.f k (ownN n x).f0 (ownN n x).f1 (ownN n x).f2 (ownN n x).f3 = some (x.f0, x.f1, x.f2, x.f3)
  | 0, _, h => h.elim
  | n + 1, x, h => by
    have hl : x.f3.length ≤ 1000 := h.1
    have loop : ∀ (d : Nat) (acc : List T24), d ≤ x.f3.length → acc = x.f3.take (x.f3.length - d) → ∃ k, hammocklaw09_Ref.l0 k ((x.f3.length - d : Nat) : Int) x.f0 x.f1 x.f2 (x.f3.map (ownN n)) x.f0 x.f1 x.f2 acc = some (x.f0, x.f1, x.f2, x.f3) := by
      intro d
      induction d with
      | zero =>
        intro acc _ ha
        refine ⟨1, ?_⟩
        rw [hammocklaw09_Ref.l0, if_neg (by rw [List.length_map]; omega), ha]
        simp
      | succ d ih =>
        intro acc hd ha
        have hj : x.f3.length - (d + 1) < x.f3.length := by omega
        have e2 : x.f3.length - (d + 1) + 1 = x.f3.length - d := by omega
        obtain ⟨k1, hk1⟩ := ref_ex n x.f3[x.f3.length - (d + 1)] (h.2 _ (List.getElem_mem hj))
        obtain ⟨k2, hk2⟩ := ih (acc ++ [x.f3[x.f3.length - (d + 1)]]) (by omega) (by rw [ha, ← e2, List.take_succ_eq_append_getElem hj])
        refine ⟨max k1 k2 + 1, ?_⟩
        have r1 : rd_T31 (x.f3.map (ownN n)) ((x.f3.length - (d + 1) : Nat) : Int) = ownN n x.f3[x.f3.length - (d + 1)] := by
          show (x.f3.map (ownN n)).getD (((x.f3.length - (d + 1) : Nat) : Int)).toNat z31 = _
          rw [Int.toNat_natCast, List.getD_eq_getElem?_getD, List.getElem?_map, List.getElem?_eq_getElem hj]
          rfl
        generalize x.f3[x.f3.length - (d + 1)] = y at hk1 hk2 r1
        obtain ⟨y0, y1, y2, y3⟩ := y
        have hk3 := leO_up (f := fun k => hammocklaw09_Ref.f k (ownN n (⟨y0, y1, y2, y3⟩ : T24)).f0 (ownN n (⟨y0, y1, y2, y3⟩ : T24)).f1 (ownN n (⟨y0, y1, y2, y3⟩ : T24)).f2 (ownN n (⟨y0, y1, y2, y3⟩ : T24)).f3) (fun k => (hammocklaw09_Ref.mono_l k).1 _ _ _ _) (Nat.le_max_left k1 k2) hk1
        have hk4 := leO_up (f := fun k => hammocklaw09_Ref.l0 k ((x.f3.length - d : Nat) : Int) x.f0 x.f1 x.f2 (x.f3.map (ownN n)) x.f0 x.f1 x.f2 (acc ++ [(⟨y0, y1, y2, y3⟩ : T24)])) (fun k => (hammocklaw09_Ref.mono_l k).2 _ _ _ _ _ _ _ _ _) (Nat.le_max_right k1 k2) hk2
        have hal : acc.length < 2513169434916 := by rw [ha, List.length_take]; omega
        rw [hammocklaw09_Ref.l0, if_pos (by rw [List.length_map]; omega), if_pos (by omega), r1, hk3, Option.bind_some, if_pos hal, wrap_succ _ (by omega), e2]
        exact hk4
    obtain ⟨k, hk⟩ := loop x.f3.length [] (Nat.le_refl _) (by simp)
    refine ⟨k + 1, ?_⟩
    show hammocklaw09_Ref.f (k + 1) x.f0 x.f1 x.f2 (x.f3.map (ownN n)) = _
    rw [hammocklaw09_Ref.f]
    simpa using hk
/-- More. -/
noncomputable def rMoreB (V1 : Int) (g : T24) (V2 : Int) (s : T24) : Bool := closedB V1 (ownN 400 g) && (closedB V2 (ownN 400 s) && (rMatchB g s).isSome)
theorem more_eq (V1 V2 : Int) (g s : T24) : moreB V1 (ownN 400 g) V2 (ownN 400 s) = rMoreB V1 g V2 s := by
  unfold moreB rMoreB
  rw [match_eq]
  cases rMatchB g s <;> rfl
end Go.Proofs.YtddmdiaopaoekaaDoor.P
/- The reference's More: the walk. -/
namespace Go.Proofs.YtddmdiaopaoekaaDoor.P
open Go.RowKit Go.Shelf Go.Proofs.YtddmdiaopaoekaaDoorW.PrintWords Go.Proofs.YtddmdiaopaoekaaDoorW.PrintLast Go.Proofs.YtddmdiaopaoekaaDoor.Rw
set_option linter.unusedVariables false
set_option linter.unusedSimpArgs false
set_option maxHeartbeats 8000000 in
set_option maxRecDepth 100000 in
theorem RMore_calls (V1 V2 : Int) (g s : T24) (A B : Option Addr) (c d : Nat) (w : World) (hg : few24 400 g) (hs : few24 400 s) (hN : (varsN 400 (ownN 400 g)).length ≤ 100000) (hM : (varsN 400 (ownN 400 s)).length ≤ 100000) (hc : g.f3.length ≤ c) (hC : k24.C w A g.f3.length g.f3) (hd : s.f3.length ≤ d) (hD : k24.C w B s.f3.length s.f3) :
    Calls Tryd.prog 16 #[.agg #[.int .i64 V1, .int .i64 g.f0, .int .i64 g.f1, .string g.f2, .slice A g.f3.length c], .agg #[.int .i64 V2, .int .i64 s.f0, .int .i64 s.f1, .string s.f2, .slice B s.f3.length d]] w fun e w' => e = .returned (.bool (rMoreB V1 g V2 s)) ∧ Below w.heap.size w w' := by
  have HC := Lib.hid hC
  have HD := Lib.hid hD
  have HN := Lib.hid hN
  have HM := Lib.hid hM
  obtain ⟨kg, hkg⟩ := within_ex V1 g hg hN
  obtain ⟨ks, hks⟩ := within_ex V2 s hs hM
  have HKG := Lib.hid hkg
  have HKS := Lib.hid hks
  generalize hr : rMoreB V1 g V2 s = r
  have HR := Lib.hid hr
  clear hC hD hN hM hkg hks hr
  go_enter Tryd.func16, Tryd.ntmps16
  go_upto_region 1 with (fail)
  have hB : Below w.heap.size w ((w.alloc (.cells #[.int .i64 V1, .int .i64 g.f0, .int .i64 g.f1, .string g.f2, .slice A g.f3.length c] 42)).alloc (.cells #[.int .i64 V2, .int .i64 s.f0, .int .i64 s.f1, .string s.f2, .slice B s.f3.length d] 42)) := ((Below.refl _ _).alloc (Nat.le_refl _) _).alloc (by simp) _
  have hp := new2_a w (.cells #[.int .i64 V1, .int .i64 g.f0, .int .i64 g.f1, .string g.f2, .slice A g.f3.length c] 42) (.cells #[.int .i64 V2, .int .i64 s.f0, .int .i64 s.f1, .string s.f2, .slice B s.f3.length d] 42)
  have hq := new2_b w (.cells #[.int .i64 V1, .int .i64 g.f0, .int .i64 g.f1, .string g.f2, .slice A g.f3.length c] 42) (.cells #[.int .i64 V2, .int .i64 s.f0, .int .i64 s.f1, .string s.f2, .slice B s.f3.length d] 42)
  generalize (w.alloc (.cells #[.int .i64 V1, .int .i64 g.f0, .int .i64 g.f1, .string g.f2, .slice A g.f3.length c] 42)).alloc (.cells #[.int .i64 V2, .int .i64 s.f0, .int .i64 s.f1, .string s.f2, .slice B s.f3.length d] 42) = w2 at hB hp hq ⊢
  have HB2 := Lib.hid hB
  have HP2 := Lib.hid hp
  have HQ2 := Lib.hid hq
  clear hB hp hq
  have x0 := cell_in HP2.out 0
  have x1 := cell_in HP2.out 1
  have x2 := cell_in HP2.out 2
  have x3 := cell_in HP2.out 3
  have x4 := cell_in HP2.out 4
  go_wp2_with fail
  refine (hammockref09_within.calls kg V1 g.f0 g.f1 g.f2 A c g.f3 _ w2 (Kd.C_below HC.out HB2.out) hc HKG.out).mono ?_
  rintro e w3 ⟨rfl, hb3⟩
  have HB3 := Lib.hid (bel2 HB2.out hb3)
  have HP3 := Lib.hid ((hb3.block _ (Array.getElem?_eq_some_iff.1 HP2.out).1).trans HP2.out)
  have HQ3 := Lib.hid ((hb3.block _ (Array.getElem?_eq_some_iff.1 HQ2.out).1).trans HQ2.out)
  clear hb3 x0 x1 x2 x3 x4
  have y0 := cell_in HQ3.out 0
  have y1 := cell_in HQ3.out 1
  have y2 := cell_in HQ3.out 2
  have y3 := cell_in HQ3.out 3
  have y4 := cell_in HQ3.out 4
  cases h1 : closedB V1 (ownN 400 g) with
  | false =>
    have hr : r = false := by rw [← HR.out]; unfold rMoreB; rw [h1]; rfl
    have HR1 := Lib.hid hr
    clear hr h1
    go_wp2_with fail
    go_ret
    rw [HR1.out]
    exact ⟨rfl, HB3.out⟩
  | true =>
    have H1 := Lib.hid h1
    clear h1
    go_wp2_with fail
    refine (hammockref09_within.calls ks V2 s.f0 s.f1 s.f2 B d s.f3 _ w3 (Kd.C_below HD.out HB3.out) hd HKS.out).mono ?_
    rintro e w4 ⟨rfl, hb4⟩
    have HB4 := Lib.hid (bel2 HB3.out hb4)
    have HP4 := Lib.hid ((hb4.block _ (Array.getElem?_eq_some_iff.1 HP3.out).1).trans HP3.out)
    have HQ4 := Lib.hid ((hb4.block _ (Array.getElem?_eq_some_iff.1 HQ3.out).1).trans HQ3.out)
    clear hb4 y0 y1 y2 y3 y4
    have x1 := cell_in HP4.out 1
    have x2 := cell_in HP4.out 2
    have x3 := cell_in HP4.out 3
    have x4 := cell_in HP4.out 4
    have y1 := cell_in HQ4.out 1
    have y2 := cell_in HQ4.out 2
    have y3 := cell_in HQ4.out 3
    have y4 := cell_in HQ4.out 4
    cases h2 : closedB V2 (ownN 400 s) with
    | false =>
      have hr : r = false := by rw [← HR.out]; unfold rMoreB; rw [H1.out, h2]; rfl
      have HR1 := Lib.hid hr
      clear hr h2
      go_wp2_with fail
      go_ret
      rw [HR1.out]
      exact ⟨rfl, HB4.out⟩
    | true =>
      have hr : r = (rMatchB g s).isSome := by rw [← HR.out]; unfold rMoreB; rw [H1.out, h2]; rfl
      have HR1 := Lib.hid hr
      clear hr h2
      go_wp2_with fail
      refine (RMatch_calls g s A B c d w4 hc (Kd.C_below HC.out HB4.out) hd (Kd.C_below HD.out HB4.out) HN.out).mono ?_
      rintro e w5 ⟨hm, hb5⟩
      have HB5 := Lib.hid (bel2 HB4.out hb5)
      clear hb5 x1 x2 x3 x4 y1 y2 y3 y4
      generalize rMatchB g s = rm at hm HR1
      cases rm with
      | none =>
        have hm' : e = .returned (.tuple #[.slice none 0 0, .bool false]) := hm
        subst hm'
        have hr : r = false := HR1.out
        have HR2 := Lib.hid hr
        clear hr HR1 hm
        go_wp2_with fail
        go_ret
        rw [HR2.out]
        exact ⟨rfl, HB5.out⟩
      | some l =>
        obtain ⟨A5, c5, rfl, _⟩ := hm
        have hr : r = true := HR1.out
        have HR2 := Lib.hid hr
        clear hr HR1
        go_wp2_with fail
        go_ret
        rw [HR2.out]
        exact ⟨rfl, HB5.out⟩
end Go.Proofs.YtddmdiaopaoekaaDoor.P
