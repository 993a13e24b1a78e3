/- The reference's code as arguments: what the reading of a laid argument says of its cells. -/
import Derived.Test.YtcmhibcoccdmaaaGreatDoorRows
import Derived.Test.YtcmhibcoccdmaaaGreatDoorInR
import Derived.Deep.Slices
import Derived.Lib.SmallJoins
import Derived.WideShapes
import Derived.ChangeArms
import Derived.Handed
import Derived.OpenShut
import Derived.SizedLaws
namespace Go.Proofs.YtcmhibcoccdmaaaGreatDoor.P
open Go.Deep Go.RowKit Go.ChangeShapes Go.WideShapes Go.Proofs.YtcmhibcoccdmaaaGreatDoorW.PrintWords
set_option linter.unusedVariables false
section
variable {H : Type} {enc : TypeId × Value → H} {W : World} {base : Nat} {sp : Nat → Bool} {held : Bool}
theorem weights_all {P : Program} {e : TypeId} {d : DataW H} {q : Nat} : ∀ (l : List (DataW H)), d ∈ l → q ∈ d.weights P e → q ∈ DataW.weightsAll P e l
  | [], h, _ => by simp at h
  | y :: l, h, hq => by
    rw [DataW.weightsAll, List.mem_append]
    rcases List.mem_cons.1 h with rfl | h
    · exact .inl hq
    · exact .inr (weights_all l h hq)
theorem weights_slice {P : Program} {t e : TypeId} {d : DataW H} {q : Nat} {es rs : List (DataW H)} (ht : P.underlying t = some (.slice e)) (hd : d ∈ es) (hq : q ∈ d.weights P e) : q ∈ (DataW.slice es rs).weights P t := by
  rw [DataW.weights, ht]
  exact List.mem_cons_of_mem _ (List.mem_append_left _ (weights_all es hd hq))
theorem weights_struct {P : Program} {t : TypeId} {fs : Array Field} {q : Nat} {ps : List (DataW H)} (ht : P.underlying t = some (.struct fs)) (hq : q ∈ DataW.weightsEach P (fs.toList.map (·.type)) ps) : q ∈ (DataW.agg ps).weights P t := by
  rw [DataW.weights, ht]
  exact hq
theorem trod4 {P : Program} {t : TypeId} {f0 f1 f2 f3 : Field} {fuel : Nat} {cs : List Value} {x : DataW H × List MemPlace} (ht : P.underlying t = some (.struct #[f0, f1, f2, f3])) (h : DataW.trod enc P W base sp held fuel t cs = some x) :
    ∃ y0 y1 y2 y3 n, fuel = n + 1 ∧ x.1 = .agg [y0.1, y1.1, y2.1, y3.1] ∧ cs.length = P.cellsOf t ∧ DataW.trod enc P W base sp held n f0.type ((cs.drop f0.offset).take (P.cellsOf f0.type)) = some y0 ∧
      DataW.trod enc P W base sp held n f1.type ((cs.drop f1.offset).take (P.cellsOf f1.type)) = some y1 ∧ DataW.trod enc P W base sp held n f2.type ((cs.drop f2.offset).take (P.cellsOf f2.type)) = some y2 ∧
      DataW.trod enc P W base sp held n f3.type ((cs.drop f3.offset).take (P.cellsOf f3.type)) = some y3 := by
  obtain ⟨xs, n, hn, rfl, hl, hlen, hf⟩ := DataW.trod_struct ht h
  match xs, hlen with
  | [y0, y1, y2, y3], _ => exact ⟨y0, y1, y2, y3, n, hn, by simp, hl, by simpa using hf 0 f0 rfl, by simpa using hf 1 f1 rfl, by simpa using hf 2 f2 rfl, by simpa using hf 3 f3 rfl⟩
theorem trod3 {P : Program} {t : TypeId} {f0 f1 f2 : Field} {fuel : Nat} {cs : List Value} {x : DataW H × List MemPlace} (ht : P.underlying t = some (.struct #[f0, f1, f2])) (h : DataW.trod enc P W base sp held fuel t cs = some x) :
    ∃ y0 y1 y2 n, fuel = n + 1 ∧ x.1 = .agg [y0.1, y1.1, y2.1] ∧ cs.length = P.cellsOf t ∧ DataW.trod enc P W base sp held n f0.type ((cs.drop f0.offset).take (P.cellsOf f0.type)) = some y0 ∧
      DataW.trod enc P W base sp held n f1.type ((cs.drop f1.offset).take (P.cellsOf f1.type)) = some y1 ∧ DataW.trod enc P W base sp held n f2.type ((cs.drop f2.offset).take (P.cellsOf f2.type)) = some y2 := by
  obtain ⟨xs, n, hn, rfl, hl, hlen, hf⟩ := DataW.trod_struct ht h
  match xs, hlen with
  | [y0, y1, y2], _ => exact ⟨y0, y1, y2, n, hn, by simp, hl, by simpa using hf 0 f0 rfl, by simpa using hf 1 f1 rfl, by simpa using hf 2 f2 rfl⟩
theorem trod2 {P : Program} {t : TypeId} {f0 f1 : Field} {fuel : Nat} {cs : List Value} {x : DataW H × List MemPlace} (ht : P.underlying t = some (.struct #[f0, f1])) (h : DataW.trod enc P W base sp held fuel t cs = some x) :
    ∃ y0 y1 n, fuel = n + 1 ∧ x.1 = .agg [y0.1, y1.1] ∧ cs.length = P.cellsOf t ∧ DataW.trod enc P W base sp held n f0.type ((cs.drop f0.offset).take (P.cellsOf f0.type)) = some y0 ∧
      DataW.trod enc P W base sp held n f1.type ((cs.drop f1.offset).take (P.cellsOf f1.type)) = some y1 := by
  obtain ⟨xs, n, hn, rfl, hl, hlen, hf⟩ := DataW.trod_struct ht h
  match xs, hlen with
  | [y0, y1], _ => exact ⟨y0, y1, n, hn, by simp, hl, by simpa using hf 0 f0 rfl, by simpa using hf 1 f1 rfl⟩
/-- A row's reading, out of its elements'. -/
theorem openRow {α : Type} [Inhabited α] {d : Kd α} {t e : TypeId} (ht : Tryz.prog.underlying t = some (.slice e)) (hsz : Tryz.prog.cellsOf e = d.sz) (G : α → Prop) (fuel : Nat)
    (ih : ∀ (cs : List Value) (y : DataW H × List MemPlace), DataW.trod enc Tryz.prog W base sp held fuel e cs = some y → (∀ q, q ∈ y.1.weights Tryz.prog e → q ≤ reachBytes) → ∃ x : α, d.K W x cs ∧ cs.length = d.sz ∧ G x)
    (cs : List Value) (y : DataW H × List MemPlace) (h : DataW.trod enc Tryz.prog W base sp held (fuel + 1) t cs = some y) (hw : ∀ q, q ∈ y.1.weights Tryz.prog t → q ≤ reachBytes) :
    ∃ (xs : List α) (A : Option Addr) (c : Nat), cs = [.slice A xs.length c] ∧ xs.length ≤ c ∧ d.C W A xs.length xs ∧ (∀ z, z ∈ xs → G z) ∧ (A = none → c = 0) ∧ xs.length * Tryz.prog.bytesOf e ≤ reachBytes := by
  rcases DataW.trod_slice ht h with ⟨rfl, rfl⟩ | ⟨a, len, cap, elems, rest, n, hfu, rfl, rfl, hb, hl, hm, hlen, hel, _, _⟩
  · exact ⟨[], none, 0, rfl, by simp, ⟨rfl, by simp, fun h => absurd h (by simp)⟩, fun z hz => by simp at hz, fun _ => rfl, by simp⟩
  · obtain rfl : fuel = n := by omega
    rw [hsz] at hel
    have hwe : ∀ d, d ∈ elems.map (·.1) → ∀ q, q ∈ d.weights Tryz.prog e → q ≤ reachBytes := by
      intro d hd q hq
      exact hw q (weights_slice ht hd hq)
    have each : ∀ i, i < len → ∃ p : α × List Value, W.cells? base (a.add (i * d.sz)) d.sz = some p.2 ∧ d.K W p.1 p.2 ∧ p.2.length = d.sz ∧ G p.1 := by
      intro i hi
      have h1 := hel i hi
      rw [List.getElem?_eq_getElem (by omega)] at h1
      obtain ⟨cs', h2, h3⟩ := Option.bind_eq_some_iff.1 h1
      obtain ⟨x, h4, h5, h6⟩ := ih cs' _ h3 (hwe _ (List.mem_map_of_mem (List.getElem_mem (by omega))))
      exact ⟨(x, cs'), h2, h4, h5, h6⟩
    have hbytes : len * Tryz.prog.bytesOf e ≤ reachBytes := by
      have h1 := hw ((elems.map (·.1)).length * Tryz.prog.bytesOf e + (rest.map (·.1)).length * Tryz.prog.bytesOf e) (by rw [DataW.weights, ht, ← Nat.add_mul]; exact List.mem_cons_self)
      have h2 : (elems.map (·.1)).length = len := by simpa using hlen
      rw [h2] at h1
      omega
    obtain ⟨F, hF⟩ := choose_lt each
    refine ⟨(List.range len).map (fun i => (F i).1), some a, cap, by simp, by simpa using hl, ⟨by simp, ?_, fun _ => ⟨a, rfl, fun j p hj => ?_⟩⟩, fun z hz => ?_, fun e => (nomatch e), by simpa using hbytes⟩
    · simp; have : maxLen = 9223372036854775807 := rfl; omega
    · have hj2 : j < len := by
        have := (List.getElem?_eq_some_iff.1 hj).1
        simpa using this
      obtain rfl : (F j).1 = p := by simpa [List.getElem?_map, List.getElem?_range hj2] using hj
      obtain ⟨h1, h2, h3, _⟩ := hF j hj2
      refine ⟨(F j).2, h3, h2, fun i u hu => ?_⟩
      obtain ⟨_, _, h4⟩ := World.cells?_some h1
      have hi : i < d.sz := by rw [← h3]; exact (List.getElem?_eq_some_iff.1 hu).1
      have h5 := h4 i hi
      rw [Deep.add_add] at h5
      rw [← hu, ← h5]
    · obtain ⟨i, hi, rfl⟩ := List.mem_map.1 hz
      exact (hF i (List.mem_range.1 hi)).2.2.2
theorem i64_wf {n : Int} (h : (Lit.int .i64 n).wf = true) : i64 n := by
  simp [Lit.wf, IntKind.min, IntKind.max, IntKind.signed, IntKind.bits] at h
  exact h
set_option maxRecDepth 100000 in
theorem openPair (fuel : Nat) (cs : List Value) (y : DataW H × List MemPlace) (h : DataW.trod enc Tryz.prog W base sp held fuel 90 cs = some y) : ∃ p : Int × Int, kP.K W p cs ∧ cs.length = kP.sz ∧ (i64 p.1 ∧ i64 p.2) := by
  obtain ⟨xs, m, _, _, hl, hn, hel⟩ := DataW.trod_array Tryz.underlying90 h
  have hc2 : Tryz.prog.cellsOf 90 = 2 := by kernel_rfl
  have hc1 : Tryz.prog.cellsOf 3 = 1 := by kernel_rfl
  rw [hc2] at hl
  match cs, hl with
  | [c0, c1], _ =>
    have g0 := hel 0 (by omega)
    have g1 := hel 1 (by omega)
    rw [hc1] at g0 g1
    rw [List.getElem?_eq_getElem (by omega)] at g0 g1
    obtain ⟨n0, e0, _, w0⟩ := DataW.trod_int Tryz.underlying3 g0
    obtain ⟨n1, e1, _, w1⟩ := DataW.trod_int Tryz.underlying3 g1
    simp at e0 e1
    subst e0 e1
    exact ⟨(n0, n1), ⟨[_], [_], rfl, rfl, rfl⟩, rfl, i64_wf w0, i64_wf w1⟩
instance : Inhabited Ins := ⟨zI⟩
instance : Inhabited S52 := ⟨z52⟩
set_option maxRecDepth 100000 in
theorem openIns (fuel : Nat) (cs : List Value) (y : DataW H × List MemPlace) (h : DataW.trod enc Tryz.prog W base sp held fuel 45 cs = some y) (hw : ∀ q, q ∈ y.1.weights Tryz.prog 45 → q ≤ reachBytes) :
    ∃ (x : Ins) (A : Option Addr) (c : Nat), cs = [.int .i64 x.op, .int .i64 x.a, .int .i64 x.b, .slice A x.tb.length c] ∧ x.tb.length ≤ c ∧ kP.C W A x.tb.length x.tb ∧ (A = none → c = 0) ∧ i64 x.op ∧ InsOK x ∧ x.tb.length ≤ 140737488351232 := by
  obtain ⟨y0, y1, y2, y3, n, hfu, hy, hl, q0, q1, q2, q3⟩ := trod4 Tryz.underlying45 h
  have hc4 : Tryz.prog.cellsOf 45 = 4 := by kernel_rfl
  have e1 : Tryz.prog.cellsOf 3 = 1 := by kernel_rfl
  have e3 : Tryz.prog.cellsOf 43 = 1 := by kernel_rfl
  rw [hc4] at hl
  obtain ⟨c0, c1, c2, c3, rfl⟩ : ∃ c0 c1 c2 c3, cs = [c0, c1, c2, c3] := by
    match cs, hl with
    | [c0, c1, c2, c3], _ => exact ⟨c0, c1, c2, c3, rfl⟩
  simp only [e1, e3, List.drop_zero, List.drop_succ_cons, List.take_succ_cons, List.take_zero] at q0 q1 q2 q3
  subst hfu
  rw [hy] at hw
  obtain ⟨f0, e0, _, w0⟩ := DataW.trod_int Tryz.underlying3 q0
  obtain ⟨f1, e1, _, w1⟩ := DataW.trod_int Tryz.underlying3 q1
  obtain ⟨f2, e2, _, w2⟩ := DataW.trod_int Tryz.underlying3 q2
  cases e0
  cases e1
  cases e2
  have hwe : ∀ q, q ∈ y3.1.weights Tryz.prog 43 → q ≤ reachBytes := fun q hq => by
    refine hw q (weights_struct Tryz.underlying45 ?_)
    simp only [List.map_cons, List.map_nil, DataW.weightsEach, List.append_nil, List.mem_append]
    exact .inr (.inr (.inr hq))
  cases n with
  | zero => simp [DataW.trod] at q3
  | succ n =>
    letI : Inhabited (Int × Int) := ⟨(0, 0)⟩
    obtain ⟨tb, A, c, e3, hle, hC, hG, hA, hb⟩ := openRow (d := kP) Tryz.underlying43 (by kernel_rfl) (fun p : Int × Int => i64 p.1 ∧ i64 p.2) n (fun cs y h _ => openPair n cs y h) [c3] y3 q3 hwe
    cases e3
    exact ⟨⟨f0, f1, f2, tb⟩, A, c, rfl, hle, hC, hA, i64_wf w0, ⟨i64_wf w1, i64_wf w2, hG⟩, by
      have hr : reachBytes = 140737488351232 := by decide
      have hbp : Tryz.prog.bytesOf 90 = 16 := by kernel_rfl
      rw [hbp] at hb
      have hb2 : tb.length * 16 ≤ reachBytes := hb
      show tb.length ≤ 140737488351232
      omega⟩
set_option maxRecDepth 100000 in
theorem openInsA {r : Reach} {b0 : Nat} {v : Value} {d : DataW H} {ps : List MemPlace} (hv : Value.okWide Tryz.prog W r b0 45 v) (h : DataW.Trod enc Tryz.prog W base sp held 45 v d ps) (hw : ∀ q, q ∈ d.weights Tryz.prog 45 → q ≤ reachBytes) :
    ∃ (x : Ins) (A : Option Addr) (c : Nat), v = .agg #[.int .i64 x.op, .int .i64 x.a, .int .i64 x.b, .slice A x.tb.length c] ∧ x.tb.length ≤ c ∧ kP.C W A x.tb.length x.tb ∧ (A = none → c = 0) := by
  obtain ⟨cs, rfl, _⟩ := okWide_struct Tryz.underlying45 hv
  obtain ⟨fuel, hf⟩ := h
  obtain ⟨x, A, c, h1, h2, h3, h4, _⟩ := openIns fuel _ _ hf hw
  refine ⟨x, A, c, ?_, h2, h3, h4⟩
  have : cs.toList = [.int .i64 x.op, .int .i64 x.a, .int .i64 x.b, .slice A x.tb.length c] := h1
  rw [← Array.toArray_toList (xs := cs), this]
end
end Go.Proofs.YtcmhibcoccdmaaaGreatDoor.P
namespace Go.Proofs.YtcmhibcoccdmaaaGreatDoor.P
open Go.Deep Go.RowKit Go.ChangeShapes Go.WideShapes Go.Proofs.YtcmhibcoccdmaaaGreatDoorW.PrintWords
set_option linter.unusedVariables false
set_option linter.unusedSimpArgs false
section
variable {H : Type} {enc : TypeId × Value → H} {W : World} {base : Nat} {sp : Nat → Bool} {held : Bool}
def GlobOK (g : S52) : Prop := g.f0.size ≤ 140737488351232 ∧ i64 g.f1 ∧ i64 g.f2
def InsLen (x : Ins) : Prop := x.tb.length ≤ 140737488351232 ∧ InsOK x
set_option maxRecDepth 100000 in
theorem openGlob (fuel : Nat) (cs : List Value) (y : DataW H × List MemPlace) (h : DataW.trod enc Tryz.prog W base sp held fuel 64 cs = some y) (hw : ∀ q, q ∈ y.1.weights Tryz.prog 64 → q ≤ reachBytes) :
    ∃ g : S52, k52.K W g cs ∧ cs.length = k52.sz ∧ GlobOK g := by
  obtain ⟨y0, y1, y2, n, hfu, hy, hl, q0, q1, q2⟩ := trod3 Tryz.underlying64 h
  have hc3 : Tryz.prog.cellsOf 64 = 3 := by kernel_rfl
  have e1 : Tryz.prog.cellsOf 3 = 1 := by kernel_rfl
  have e2 : Tryz.prog.cellsOf 9 = 1 := by kernel_rfl
  rw [hc3] at hl
  obtain ⟨c0, c1, c2, rfl⟩ : ∃ c0 c1 c2, cs = [c0, c1, c2] := by
    match cs, hl with
    | [c0, c1, c2], _ => exact ⟨c0, c1, c2, rfl⟩
  simp only [e1, e2, List.drop_zero, List.drop_succ_cons, List.take_succ_cons, List.take_zero] at q0 q1 q2
  subst hfu
  obtain ⟨f0, r0, rfl, w0⟩ := DataW.trod_string Tryz.underlying9 q0
  obtain ⟨f1, r1, _, w1⟩ := DataW.trod_int Tryz.underlying3 q1
  obtain ⟨f2, r2, _, w2⟩ := DataW.trod_int Tryz.underlying3 q2
  cases r0
  cases r1
  cases r2
  rw [hy] at hw
  have hs : f0.size ≤ 140737488351232 := by
    have h1 := hw f0.data.toList.length (weights_struct Tryz.underlying64 (by
      simp only [List.map_cons, List.map_nil, DataW.weightsEach, List.append_nil, List.mem_append, DataW.weights, List.mem_singleton]
      exact .inl trivial))
    have h2 : f0.data.toList.length = f0.size := by rw [Array.length_toList]; rfl
    have h3 : reachBytes = 140737488351232 := by decide
    omega
  exact ⟨⟨f0, f1, f2⟩, ⟨[_], [_, _], rfl, rfl, ⟨[_], [_], rfl, rfl, rfl⟩⟩, rfl, hs, i64_wf w1, i64_wf w2⟩
set_option maxRecDepth 100000 in
theorem openIns2 (fuel : Nat) (cs : List Value) (y : DataW H × List MemPlace) (h : DataW.trod enc Tryz.prog W base sp held fuel 45 cs = some y) (hw : ∀ q, q ∈ y.1.weights Tryz.prog 45 → q ≤ reachBytes) :
    ∃ x : Ins, kI.K W x cs ∧ cs.length = kI.sz ∧ InsLen x := by
  obtain ⟨x, A, c, rfl, hle, hC, _, _, hok, hl⟩ := openIns fuel cs y h hw
  exact ⟨x, kI_mk W x hle hC, rfl, hl, hok⟩
def CodeOK (W : World) (gs : List S52) (xs : List Ins) (Ag Ax : Option Addr) (cg cx : Nat) : Prop :=
  gs.length ≤ cg ∧ xs.length ≤ cx ∧ k52.C W Ag gs.length gs ∧ kI.C W Ax xs.length xs ∧ (∀ g ∈ gs, GlobOK g) ∧ (∀ x ∈ xs, InsLen x)
set_option maxRecDepth 100000 in
theorem openCodeA {r : Reach} {b0 : Nat} {v : Value} {d : DataW H} {ps : List MemPlace} (hv : Value.okWide Tryz.prog W r b0 32 v) (h : DataW.Trod enc Tryz.prog W base sp held 32 v d ps) (hw : ∀ q, q ∈ d.weights Tryz.prog 32 → q ≤ reachBytes) :
    ∃ (gs : List S52) (xs : List Ins) (Ag Ax : Option Addr) (cg cx : Nat), v = .agg #[.slice Ag gs.length cg, .slice Ax xs.length cx] ∧ CodeOK W gs xs Ag Ax cg cx := by
  obtain ⟨cs, rfl, _⟩ := okWide_struct Tryz.underlying32 hv
  obtain ⟨fuel, hf⟩ := h
  obtain ⟨y0, y1, n, hfu, hy, hl, q0, q1⟩ := trod2 Tryz.underlying32 hf
  have hc2 : Tryz.prog.cellsOf 32 = 2 := by kernel_rfl
  have e1 : Tryz.prog.cellsOf 29 = 1 := by kernel_rfl
  have e2 : Tryz.prog.cellsOf 30 = 1 := by kernel_rfl
  rw [hc2] at hl
  have hy' : d = .agg [y0.1, y1.1] := hy
  obtain ⟨c0, c1, hcs⟩ : ∃ c0 c1, cs.toList = [c0, c1] := by
    have hl2 : cs.toList.length = 2 := hl
    match cs.toList, hl2 with
    | [c0, c1], _ => exact ⟨c0, c1, rfl⟩
  obtain rfl : cs = #[c0, c1] := by rw [← Array.toArray_toList (xs := cs), hcs]
  simp only [Value.cells, e1, e2, List.drop_zero, List.drop_succ_cons, List.take_succ_cons, List.take_zero] at q0 q1
  subst hy'
  have w0 : ∀ q, q ∈ y0.1.weights Tryz.prog 29 → q ≤ reachBytes := fun q hq => hw q (weights_struct Tryz.underlying32 (by
    simp only [List.map_cons, List.map_nil, DataW.weightsEach, List.append_nil, List.mem_append]
    exact .inl hq))
  have w1 : ∀ q, q ∈ y1.1.weights Tryz.prog 30 → q ≤ reachBytes := fun q hq => hw q (weights_struct Tryz.underlying32 (by
    simp only [List.map_cons, List.map_nil, DataW.weightsEach, List.append_nil, List.mem_append]
    exact .inr hq))
  cases n with
  | zero => simp [DataW.trod] at q0
  | succ n =>
    obtain ⟨gs, Ag, cg, r0, hle0, hC0, hG0, _⟩ := openRow (d := k52) Tryz.underlying29 (by kernel_rfl) GlobOK n (fun cs y h hw => openGlob n cs y h hw) [c0] y0 q0 w0
    obtain ⟨xs, Ax, cx, r1, hle1, hC1, hG1, _⟩ := openRow (d := kI) Tryz.underlying30 (by kernel_rfl) InsLen n (fun cs y h hw => openIns2 n cs y h hw) [c1] y1 q1 w1
    cases r0
    cases r1
    exact ⟨gs, xs, Ag, Ax, cg, cx, rfl, hle0, hle1, hC0, hC1, hG0, hG1⟩
end
end Go.Proofs.YtcmhibcoccdmaaaGreatDoor.P
