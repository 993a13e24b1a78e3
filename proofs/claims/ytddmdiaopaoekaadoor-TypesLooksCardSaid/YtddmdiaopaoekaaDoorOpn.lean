import Derived.Test.YtddmdiaopaoekaaDoorRows
import Derived.Test.YtddmdiaopaoekaaDoorPlA
import Derived.Deep.Slices
import Derived.Lib.SmallJoins
import Derived.WideShapes
import Derived.ChangeArms
import Derived.Handed
import Derived.OpenShut
import Derived.SizedLaws
namespace Go.Proofs.YtddmdiaopaoekaaDoor.P
set_option linter.unusedVariables false
end Go.Proofs.YtddmdiaopaoekaaDoor.P
namespace Go.Proofs.YtddmdiaopaoekaaDoor.P
open Go.Deep Go.RowKit Go.ChangeShapes Go.WideShapes Go.Proofs.YtddmdiaopaoekaaDoorW.PrintWords
set_option linter.unusedVariables false
/-- A type that a machine holds. -/
def lay24 : Nat → S24 → Prop
 | 0, _ => False
 | n + 1, x => (Lit.int .i64 x.f0).wf = true ∧ (Lit.int .i64 x.f1).wf = true ∧ x.f2.size ≤ 140737488351232 ∧ x.f3.length ≤ 9223372036854775807 ∧ ∀ y, y ∈ x.f3 → lay24 n y
theorem lay24_le : ∀ (n m : Nat) (x : S24), n ≤ m → lay24 n x → lay24 m x
 | 0, _, _, _, h => h.elim
 | n + 1, 0, _, h, _ => by omega
 | n + 1, m + 1, x, h, ⟨h1, h2, h3, h4, h5⟩ => ⟨h1, h2, h3, h4, fun y hy => lay24_le n m y (by omega) (h5 y hy)⟩
theorem lay24_ok : ∀ (n : Nat) (x : S24), lay24 n x → ok24 n x
 | 0, _, h => h.elim
 | n + 1, x, ⟨_, _, _, h4, h5⟩ => ⟨h4, fun y hy => lay24_ok n y (h5 y hy)⟩
theorem lay24_nm : ∀ (n : Nat) (x : S24), lay24 n x → nm24 n x
 | 0, _, h => h.elim
 | n + 1, x, ⟨_, _, h3, _, h5⟩ => ⟨by omega, fun y hy => lay24_nm n y (h5 y hy)⟩
theorem lay24_vars : ∀ (k j n : Nat) (x : S24), lay24 n x → ∀ v, v ∈ varsN k (ownN j x) → (Lit.int .i64 v).wf = true
 | 0, _, _, _, _, v, hv => by simp [varsN] at hv
 | _ + 1, _, 0, _, h, _, _ => h.elim
 | k + 1, 0, n + 1, x, ⟨_, h2, _, _, h5⟩, v, hv => by
  rw [varsN_succ] at hv
  rcases List.mem_append.1 hv with h | h
  ·split at h
   ·rw [List.mem_singleton] at h
    rw [h]
    exact h2
   ·simp at h
  ·simp [ownN] at h
 | k + 1, j + 1, n + 1, x, ⟨_, h2, _, _, h5⟩, v, hv => by
  rw [varsN_succ] at hv
  rcases List.mem_append.1 hv with h | h
  ·split at h
   ·rw [List.mem_singleton] at h
    rw [h]
    exact h2
   ·simp at h
  ·obtain ⟨y, hy, hm⟩ := List.mem_flatMap.1 h
   obtain ⟨z, hz, rfl⟩ := List.mem_map.1 (show y ∈ x.f3.map (ownN j) from hy)
   exact lay24_vars k j n z (h5 z hz) v hm
theorem lay24_varsL (n : Nat) (x : S24) (h : lay24 n x) : ∀ v, v ∈ varsL (ownN 400 x) → (Lit.int .i64 v).wf = true := lay24_vars _ 400 n x h
/-- The cells of one. -/
def cells24 (x : S24) (A : Option Addr) (c : Nat) : List Value := [.int .i64 x.f0, .int .i64 x.f1, .string x.f2, .slice A x.f3.length c]
section
variable {H : Type} {enc : TypeId × Value → H} {W : World} {base : Nat} {sp : Nat → Bool} {held : Bool}
theorem trod4 {P : Program} {t : TypeId} {f0 f1 f2 f3 : Field} {fuel : Nat} {cs : List Value} {x : DataW H × List MemPlace} (ht : P.underlying t = some (.struct #[f0, f1, f2, f3])) (h : DataW.trod enc P W base sp held fuel t cs = some x) :
  ∃ y0 y1 y2 y3 n, fuel = n + 1 ∧ x.1 = .agg [y0.1, y1.1, y2.1, y3.1] ∧ cs.length = P.cellsOf t ∧ DataW.trod enc P W base sp held n f0.type ((cs.drop f0.offset).take (P.cellsOf f0.type)) = some y0 ∧
   DataW.trod enc P W base sp held n f1.type ((cs.drop f1.offset).take (P.cellsOf f1.type)) = some y1 ∧ DataW.trod enc P W base sp held n f2.type ((cs.drop f2.offset).take (P.cellsOf f2.type)) = some y2 ∧
   DataW.trod enc P W base sp held n f3.type ((cs.drop f3.offset).take (P.cellsOf f3.type)) = some y3 := by
 obtain ⟨xs, n, hn, rfl, hl, hlen, hf⟩ := DataW.trod_struct ht h
 match xs, hlen with
 | [y0, y1, y2, y3], _ => exact ⟨y0, y1, y2, y3, n, hn, by simp, hl, by simpa using hf 0 f0 rfl, by simpa using hf 1 f1 rfl, by simpa using hf 2 f2 rfl, by simpa using hf 3 f3 rfl⟩
theorem weights_all {P : Program} {e : TypeId} {d : DataW H} {q : Nat} : ∀ (l : List (DataW H)), d ∈ l → q ∈ d.weights P e → q ∈ DataW.weightsAll P e l
 | [], h, _ => by simp at h
 | y :: l, h, hq => by
  rw [DataW.weightsAll, List.mem_append]
  rcases List.mem_cons.1 h with rfl | h
  ·exact .inl hq
  ·exact .inr (weights_all l h hq)
theorem weights_slice {P : Program} {t e : TypeId} {d : DataW H} {q : Nat} {es rs : List (DataW H)} (ht : P.underlying t = some (.slice e)) (hd : d ∈ es) (hq : q ∈ d.weights P e) : q ∈ (DataW.slice es rs).weights P t := by
 rw [DataW.weights, ht]
 exact List.mem_cons_of_mem _ (List.mem_append_left _ (weights_all es hd hq))
theorem weights_struct {P : Program} {t : TypeId} {fs : Array Field} {q : Nat} {ps : List (DataW H)} (ht : P.underlying t = some (.struct fs)) (hq : q ∈ DataW.weightsEach P (fs.toList.map (·.type)) ps) : q ∈ (DataW.agg ps).weights P t := by
 rw [DataW.weights, ht]
 exact hq
set_option maxRecDepth 100000 in
/-- A row's reading, out of its elements'. -/
theorem openE (fuel : Nat) (ih : ∀ (cs : List Value) (y : DataW H × List MemPlace), DataW.trod enc Tryd.prog W base sp held fuel 24 cs = some y → (∀ q, q ∈ y.1.weights Tryd.prog 24 → q ≤ reachBytes) → ∃ s A c m, cs = cells24 s A c ∧ s.f3.length ≤ c ∧ k24.C W A s.f3.length s.f3 ∧ lay24 m s)
  (cs : List Value) (y : DataW H × List MemPlace) (h : DataW.trod enc Tryd.prog W base sp held (fuel + 1) 22 cs = some y) (hw : ∀ q, q ∈ y.1.weights Tryd.prog 22 → q ≤ reachBytes) :
  ∃ (xs : List S24) (A : Option Addr) (c m : Nat), cs = [.slice A xs.length c] ∧ xs.length ≤ c ∧ k24.C W A xs.length xs ∧ xs.length ≤ 9223372036854775807 ∧ (∀ z, z ∈ xs → lay24 m z) ∧ (A = none → c = 0) ∧ ((y.1 = .nil ∧ xs.length = 0) ∨ ∃ es rs, y.1 = DataW.slice es rs ∧ es.length = xs.length) := by
 rcases DataW.trod_slice Tryd.underlying22 h with ⟨rfl, rfl⟩ | ⟨a, len, cap, elems, rest, n, hfu, rfl, rfl, hb, hl, hm, hlen, hel, _, _⟩
 ·exact ⟨[], none, 0, 0, rfl, by simp, ⟨rfl, by simp, fun h => absurd h (by simp)⟩, by simp, fun z hz => by simp at hz, fun _ => rfl, .inl ⟨rfl, rfl⟩⟩
 ·obtain rfl : fuel = n := by omega
  have hc4 : Tryd.prog.cellsOf 24 = 4 := by kernel_rfl
  rw [hc4] at hel
  have hwe : ∀ d, d ∈ elems.map (·.1) → ∀ q, q ∈ d.weights Tryd.prog 24 → q ≤ reachBytes := by
   intro d hd q hq
   exact hw q (weights_slice Tryd.underlying22 hd hq)
  have each : ∀ i, i < len → ∃ p : S24 × Option Addr × Nat × Nat, W.cells? base (a.add (i * 4)) 4 = some (cells24 p.1 p.2.1 p.2.2.1) ∧ p.1.f3.length ≤ p.2.2.1 ∧ k24.C W p.2.1 p.1.f3.length p.1.f3 ∧ lay24 p.2.2.2 p.1 := by
   intro i hi
   have h1 := hel i hi
   rw [List.getElem?_eq_getElem (by omega)] at h1
   obtain ⟨cs', h2, h3⟩ := Option.bind_eq_some_iff.1 h1
   obtain ⟨s, A, c, m, rfl, h4, h5, h6⟩ := ih cs' _ h3 (hwe _ (List.mem_map_of_mem (List.getElem_mem (by omega))))
   exact ⟨(s, A, c, m), h2, h4, h5, h6⟩
  letI : Inhabited (S24 × Option Addr × Nat × Nat) := ⟨(z24, none, 0, 0)⟩
  obtain ⟨F, hF⟩ := choose_lt each
  obtain ⟨M, hM⟩ := fuel_lt (n := len) (q := fun i m => lay24 m (F i).1) (fun i a b hab h => lay24_le a b _ hab h) (fun i hi => ⟨_, (hF i hi).2.2.2⟩)
  refine ⟨(List.range len).map (fun i => (F i).1), some a, cap, M, by simp, by simpa using hl, ⟨by simp, ?_, fun _ => ⟨a, rfl, fun j p hj => ?_⟩⟩, ?_, fun z hz => ?_, fun e => (nomatch e), .inr ⟨_, _, rfl, by simp [hlen]⟩⟩
  ·simp; have : maxLen = 9223372036854775807 := rfl; omega
  ·have hj2 : j < len := by
    have := (List.getElem?_eq_some_iff.1 hj).1
    simpa using this
   obtain rfl : (F j).1 = p := by simpa [List.getElem?_map, List.getElem?_range hj2] using hj
   obtain ⟨h1, h2, h3, _⟩ := hF j hj2
   refine ⟨cells24 (F j).1 (F j).2.1 (F j).2.2.1, rfl, k24_mk W (F j).1 h2 h3, fun i u hu => ?_⟩
   obtain ⟨_, _, h4⟩ := World.cells?_some h1
   have hi : i < 4 := (List.getElem?_eq_some_iff.1 hu).1
   have h5 := h4 i hi
   rw [Deep.add_add] at h5
   rw [← hu, ← h5]
   rfl
  ·simp; have : maxLen = 9223372036854775807 := rfl; omega
  ·obtain ⟨i, hi, rfl⟩ := List.mem_map.1 hz
   exact hM i (List.mem_range.1 hi)
set_option maxRecDepth 100000 in
/-- A type's reading. -/
theorem open24 : ∀ (fuel : Nat) (cs : List Value) (y : DataW H × List MemPlace), DataW.trod enc Tryd.prog W base sp held fuel 24 cs = some y → (∀ q, q ∈ y.1.weights Tryd.prog 24 → q ≤ reachBytes) → ∃ s A c m, cs = cells24 s A c ∧ s.f3.length ≤ c ∧ k24.C W A s.f3.length s.f3 ∧ lay24 m s := by
 intro fuel
 induction fuel using Nat.strongRecOn with
 | _ fuel IH =>
  intro cs y h hw
  obtain ⟨y0, y1, y2, y3, n, hfu, hy, hl, g0, g1, g2, g3⟩ := trod4 Tryd.underlying24 h
  have hc4 : Tryd.prog.cellsOf 24 = 4 := by kernel_rfl
  rw [hc4] at hl
  match cs, hl with
  | [c0, c1, c2, c3], _ =>
   have e1 : Tryd.prog.cellsOf 3 = 1 := by kernel_rfl
   have e2 : Tryd.prog.cellsOf 9 = 1 := by kernel_rfl
   have e3 : Tryd.prog.cellsOf 22 = 1 := by kernel_rfl
   simp only [e1, e2, e3, List.drop_zero, List.drop_succ_cons, List.take_succ_cons, List.take_zero] at g0 g1 g2 g3
   obtain ⟨f0, r0, rfl, w0⟩ := DataW.trod_int Tryd.underlying3 g0
   obtain ⟨f1, r1, rfl, w1⟩ := DataW.trod_int Tryd.underlying3 g1
   obtain ⟨f2, r2, rfl, w2⟩ := DataW.trod_string Tryd.underlying9 g2
   subst hfu
   rw [hy] at hw
   cases r0
   cases r1
   cases r2
   have hwe : ∀ q, (q = f2.data.toList.length ∨ q ∈ y3.1.weights Tryd.prog 22) → q ≤ reachBytes := fun q hq => by
    refine hw q (weights_struct Tryd.underlying24 ?_)
    simp only [List.map_cons, List.map_nil, DataW.weightsEach, List.append_nil, List.mem_append, DataW.weights, List.mem_singleton, List.not_mem_nil, false_or]
    exact hq
   have hs2 : f2.size ≤ 140737488351232 := by
    have := hwe _ (.inl rfl)
    have hr := reachBytes_lt
    have h2 : f2.data.toList.length = f2.size := by rw [Array.length_toList]; rfl
    have h3 : reachBytes = 140737488351232 := by decide
    omega
   obtain ⟨xs, A, c, m, hcs, hlc, hC, hmx, hm⟩ : ∃ (xs : List S24) (A : Option Addr) (c m : Nat), [c3] = [Value.slice A xs.length c] ∧ xs.length ≤ c ∧ k24.C W A xs.length xs ∧ xs.length ≤ 9223372036854775807 ∧ ∀ z, z ∈ xs → lay24 m z := by
    cases n with
    | zero => simp [DataW.trod] at g3
    | succ n =>
     obtain ⟨xs, A, c, m, q1, q2, q3, q4, q5, _⟩ := openE n (IH n (by omega)) [c3] y3 g3 (fun q hq => hwe q (.inr hq))
     exact ⟨xs, A, c, m, q1, q2, q3, q4, q5⟩
   cases hcs
   exact ⟨⟨f0, f1, f2, xs⟩, A, c, m + 1, rfl, hlc, hC, w0, w1, hs2, hmx, hm⟩
set_option maxRecDepth 100000 in
/-- .. of an argument. -/
theorem openA {r : Reach} {b0 : Nat} {v : Value} {d : DataW H} {ps : List MemPlace} (hv : Value.okWide Tryd.prog W r b0 24 v) (h : DataW.Trod enc Tryd.prog W base sp held 24 v d ps) (hw : ∀ q, q ∈ d.weights Tryd.prog 24 → q ≤ reachBytes) :
  ∃ s A c m, v = .agg #[.int .i64 s.f0, .int .i64 s.f1, .string s.f2, .slice A s.f3.length c] ∧ s.f3.length ≤ c ∧ k24.C W A s.f3.length s.f3 ∧ lay24 m s := by
 obtain ⟨cs, rfl, _⟩ := okWide_struct Tryd.underlying24 hv
 obtain ⟨fuel, hf⟩ := h
 obtain ⟨s, A, c, m, h1, h2, h3, h4⟩ := open24 fuel _ _ hf hw
 refine ⟨s, A, c, m, ?_, h2, h3, h4⟩
 have : cs.toList = cells24 s A c := h1
 rw [← Array.toArray_toList (xs := cs), this]
 rfl
set_option maxRecDepth 100000 in
theorem openLA {r : Reach} {b0 : Nat} {v : Value} {d : DataW H} {ps : List MemPlace} (hv : Value.okWide Tryd.prog W r b0 22 v) (h : DataW.Trod enc Tryd.prog W base sp held 22 v d ps) (hw : ∀ q, q ∈ d.weights Tryd.prog 22 → q ≤ reachBytes) :
  ∃ (xs : List S24) (A : Option Addr) (c m : Nat), v = .slice A xs.length c ∧ xs.length ≤ c ∧ k24.C W A xs.length xs ∧ xs.length ≤ 9223372036854775807 ∧ (∀ z, z ∈ xs → lay24 m z) ∧ (A = none → c = 0) ∧ ((d = .nil ∧ xs.length = 0) ∨ ∃ es rs, d = DataW.slice es rs ∧ es.length = xs.length) := by
 obtain ⟨a, len, cap, rfl⟩ := okWide_slice Tryd.underlying22 hv
 obtain ⟨fuel, hf⟩ := h
 cases fuel with
 | zero => simp [DataW.trod] at hf
 | succ fuel =>
  obtain ⟨xs, A, c, m, h1, h2, h3, h4, h5, h6, h7⟩ := openE fuel (open24 fuel) _ _ hf hw
  have : [Value.slice a len cap] = [Value.slice A xs.length c] := h1
  cases this
  exact ⟨xs, _, _, m, rfl, h2, h3, h4, h5, h6, h7⟩
end
end Go.Proofs.YtddmdiaopaoekaaDoor.P
