/- A pair's text; a global's line. -/
import Derived.Test.YtcmhibcoccdmaaaGreatDoorInI
namespace Go.Proofs.YtcmhibcoccdmaaaGreatDoor.P
open Go.RowKit Go.Shelf Go.Proofs.YtcmhibcoccdmaaaGreatDoorW.PrintWords Go.Proofs.YtcmhibcoccdmaaaGreatDoorW.PrintLast Go.Proofs.YtcmhibcoccdmaaaGreatDoor.Rw
set_option linter.unusedVariables false
set_option linter.unusedSimpArgs false
def pairP (l : List UInt8) : Option (Int × Int) :=
  if (Lib.cut l [58]).2.2 = true then
    (match numP (Lib.cut l [58]).2.1 with
    | none => none
    | some t => if (Lib.cut l [58]).1 = [95] then some (-1, t) else (match numP (Lib.cut l [58]).1 with
      | none => none
      | some n => if n = -1 then none else some (n, t)))
  else none
theorem cut_calls (s : ByteArray) (hs : s.size < 4294967281) (w : World) (hT : GT w) : Calls Tryz.prog 75 #[.string s, .string ⟨#[58]⟩] w fun e w' => e = .returned (.tuple #[.string ⟨(Lib.cut s.data.toList [58]).1.toArray⟩, .string ⟨(Lib.cut s.data.toList [58]).2.1.toArray⟩, .bool (Lib.cut s.data.toList [58]).2.2]) ∧ Below w.heap.size w w' := by
  obtain ⟨m, hm⟩ := hT.mx
  exact (Tryz.strings_Cut s ⟨#[58]⟩ m w hs hm).mono fun e w' ⟨h1, n, h2⟩ => ⟨h1, by subst h2; exact Drawn0.below ⟨n, rfl⟩⟩
theorem cut_len (l sep : List UInt8) : (Lib.cut l sep).1.length ≤ l.length ∧ (Lib.cut l sep).2.1.length ≤ l.length := by
  unfold Lib.cut
  split
  · simp; omega
  · simp
def PairR (l : List UInt8) (w : World) (e : Ending) (w' : World) : Prop := ∃ p q : Int, e = .returned (.tuple #[.agg #[.int .i64 p, .int .i64 q], .bool (pairP l).isSome]) ∧ (∀ v, pairP l = some v → v = (p, q)) ∧ Below w.heap.size w w'
theorem bsize (l : List UInt8) : (⟨l.toArray⟩ : ByteArray).size = l.length := by show l.toArray.size = l.length; simp
theorem sizeL (s : ByteArray) : s.size = s.data.toList.length := by rw [Array.length_toList]; rfl
set_option maxHeartbeats 4000000 in
set_option maxRecDepth 100000 in
theorem pair_calls (s : ByteArray) (hs : s.size ≤ 100000000) (w : World) (hT : GT w) : Calls Tryz.prog 55 #[.string s] w (PairR s.data.toList w) := by
  have HT := Lib.hid hT
  have hP : pairP s.data.toList = if (Lib.cut s.data.toList [58]).2.2 = true then
    (match numP (Lib.cut s.data.toList [58]).2.1 with
    | none => none
    | some t => if (Lib.cut s.data.toList [58]).1 = [95] then some (-1, t) else (match numP (Lib.cut s.data.toList [58]).1 with
      | none => none
      | some n => if n = -1 then none else some (n, t)))
    else none := rfl
  have hl := cut_len s.data.toList [58]
  rw [← sizeL] at hl
  clear hT
  go_enter Tryz.func55, Tryz.ntmps55
  go_wp2_with fail
  have hA := ((Below.refl _ w).alloc (Nat.le_refl _) (.cells #[.int .i64 0, .int .i64 0] 90))
  refine (cut_calls s (by omega) _ (HT.out.below hA)).mono ?_
  rintro e w1 ⟨rfl, hb1⟩
  have HZ1 := Lib.hid ((hb1.block w.heap.size (by simp)).trans (heap_new w (.cells #[.int .i64 0, .int .i64 0] 90)))
  have HB1 := Lib.hid (bel2 hA hb1)
  clear hb1 hA
  generalize Lib.cut s.data.toList [58] = cu at hP hl ⊢
  obtain ⟨la, lb, ok⟩ := cu
  simp only at hP hl ⊢
  go_wp2_with fail
  refine (number_calls ⟨lb.toArray⟩ (by rw [bsize]; omega) _ (HT.out.below HB1.out)).mono ?_
  rintro e w2 ⟨tn, rfl, hto, hb2⟩
  have HZ2 := Lib.hid ((hb2.block w.heap.size (Array.getElem?_eq_some_iff.1 HZ1.out).1).trans HZ1.out)
  have HB2 := Lib.hid (bel2 HB1.out hb2)
  clear hb2
  have hlb : (⟨lb.toArray⟩ : ByteArray).data.toList = lb := rfl
  rw [hlb] at hto ⊢
  have hfin : ∀ (p q : Int) (r : Option (Int × Int)), (∀ v, r = some v → v = (p, q)) → pairP s.data.toList = r → ∀ v, pairP s.data.toList = some v → v = (p, q) := fun p q r h1 h2 v h3 => h1 v (by rw [← h2]; exact h3)
  by_cases ha : la = [95]
  · have ha1 : (la == [95]) = true := beq_iff_eq.2 ha
    have hQ : pairP s.data.toList = if ok = true then (numP lb).map (fun t => ((-1 : Int), t)) else none := by
      rw [hP]
      cases ok with
      | false => rfl
      | true =>
        rw [if_pos rfl, if_pos rfl]
        cases numP lb with
        | none => rfl
        | some t => simp only [if_pos ha]; rfl
    have hR : ∀ v, pairP s.data.toList = some v → v = (-1, tn) := by
      rw [hQ]
      intro v hv
      cases ok with
      | false => cases hv
      | true =>
        rw [if_pos rfl] at hv
        obtain ⟨t, ht, rfl⟩ := Option.map_eq_some_iff.1 hv
        rw [hto t ht]
    have hI : (pairP s.data.toList).isSome = (ok && (numP lb).isSome) := by
      rw [hQ]
      cases ok with
      | false => rfl
      | true => rw [if_pos rfl]; simp
    have HR := Lib.hid hR
    have HI := Lib.hid hI
    subst ha
    clear hR hI hQ hP hfin hto hl
    have z0 := cell_in HZ2.out 0
    have z1 := cell_in HZ2.out 1
    have f0 := blk_frozen HZ2.out 0
    have f1 := blk_frozen HZ2.out 1
    generalize (numP lb).isSome = nb at HI ⊢
    have hset := heap_set (heap_set HZ2.out 0 (.int .i64 (-1))) 1 (.int .i64 tn)
    have hbel : Below w.heap.size w ((w2.setCell ⟨w.heap.size, 0, none⟩ (.int .i64 (-1))).setCell ⟨w.heap.size, 1, none⟩ (.int .i64 tn)) := (HB2.out.setCell (p := ⟨w.heap.size, 0, none⟩) (Nat.le_refl _) _).setCell (p := ⟨w.heap.size, 1, none⟩) (Nat.le_refl _) _
    have q0 := cell_in hset 0
    have q1 := cell_in hset 1
    have HBL := Lib.hid hbel
    clear hbel hset
    cases ok
    all_goals (
      go_wp2_with fail
      exact bodyPost_ret (v := .tuple #[.agg #[.int .i64 (-1), .int .i64 tn], .bool (pairP s.data.toList).isSome]) (by rw [HI.out]; simp [results, Tryz.results55, go_sem, q0, q1]) rfl ⟨-1, tn, rfl, HR.out, HBL.out⟩)
  · have ha1 : (la == [95]) = false := beq_eq_false_iff_ne.2 ha
    have HP := Lib.hid hP
    have HTO := Lib.hid hto
    have HF := Lib.hid hfin
    clear hP hto hfin
    go_wp2_with fail
    refine (number_calls ⟨la.toArray⟩ (by rw [bsize]; omega) _ (HT.out.below HB2.out)).mono ?_
    rintro e w3 ⟨na, rfl, hna, hb3⟩
    have HZ3 := Lib.hid ((hb3.block w.heap.size (Array.getElem?_eq_some_iff.1 HZ2.out).1).trans HZ2.out)
    have HB3 := Lib.hid (bel2 HB2.out hb3)
    clear hb3
    have hla : (⟨la.toArray⟩ : ByteArray).data.toList = la := rfl
    rw [hla] at hna ⊢
    have hP := HP.out
    have hto := HTO.out
    have hR : ∀ v, pairP s.data.toList = some v → v = (na, tn) := by
      rw [hP]
      intro v hv
      cases ok with
      | false => cases hv
      | true =>
        rw [if_pos rfl] at hv
        cases h1 : numP lb with
        | none => rw [h1] at hv; cases hv
        | some t =>
          rw [h1] at hv
          simp only [if_neg ha] at hv
          cases h2 : numP la with
          | none => rw [h2] at hv; cases hv
          | some n =>
            rw [h2] at hv
            simp only at hv
            split at hv
            · cases hv
            · cases hv
              rw [hto t h1, hna n h2]
    have hI : (pairP s.data.toList).isSome = (ok && ((numP lb).isSome && ((numP la).isSome && !(na == -1)))) := by
      rw [hP]
      cases ok with
      | false => rfl
      | true =>
        rw [if_pos rfl]
        cases h1 : numP lb with
        | none => rfl
        | some t =>
          simp only [if_neg ha]
          cases h2 : numP la with
          | none => rfl
          | some n =>
            have := hna n h2
            subst this
            simp only
            split
            · rename_i h3
              rw [beq_iff_eq.2 h3]; rfl
            · rename_i h3
              rw [beq_eq_false_iff_ne.2 h3]; rfl
    have HR := Lib.hid hR
    have HI := Lib.hid hI
    clear hR hI hP hto hna hl
    have z0 := cell_in HZ3.out 0
    have z1 := cell_in HZ3.out 1
    have f0 := blk_frozen HZ3.out 0
    have f1 := blk_frozen HZ3.out 1
    generalize (numP lb).isSome = nb at HI ⊢
    generalize (numP la).isSome = ma at HI ⊢
    have hset := heap_set (heap_set HZ3.out 0 (.int .i64 na)) 1 (.int .i64 tn)
    have hbel : Below w.heap.size w ((w3.setCell ⟨w.heap.size, 0, none⟩ (.int .i64 na)).setCell ⟨w.heap.size, 1, none⟩ (.int .i64 tn)) := (HB3.out.setCell (p := ⟨w.heap.size, 0, none⟩) (Nat.le_refl _) _).setCell (p := ⟨w.heap.size, 1, none⟩) (Nat.le_refl _) _
    have q0 := cell_in hset 0
    have q1 := cell_in hset 1
    have HBL := Lib.hid hbel
    clear hbel hset
    cases ok
    all_goals (cases nb)
    all_goals (cases ma)
    all_goals (
      go_wp2_with fail
      exact bodyPost_ret (v := .tuple #[.agg #[.int .i64 na, .int .i64 tn], .bool (pairP s.data.toList).isSome]) (by rw [HI.out]; simp [results, Tryz.results55, go_sem, q0, q1]; try rfl) rfl ⟨na, tn, rfl, HR.out, HBL.out⟩)
def split4 (s : ByteArray) : List ByteArray := Lib.splitB ⟨#[32]⟩ 0 (min 4 (s.size + 1) - 1) s
def globP4 (l : List ByteArray) : Option S52 := match l with
  | [a, b, c, d] => if a.data.toList = [103, 108, 111, 98, 97, 108] then (match numP b.data.toList with
    | none => none
    | some x => (match numP c.data.toList with
      | none => none
      | some y => if globB d x y = true then some ⟨d, x, y⟩ else none)) else none
  | _ => none
def globP (s : ByteArray) : Option S52 := globP4 (split4 s)
theorem splitB_size (sep : ByteArray) (sv : Nat) : ∀ (k : Nat) (s : ByteArray) (n : Nat), s.size ≤ n → ∀ x, x ∈ Lib.splitB sep sv k s → x.size ≤ n
  | 0, s, n, h, x, hx => by
    rw [Lib.splitB_zero, List.mem_singleton] at hx
    rw [hx]; exact h
  | k + 1, s, n, h, x, hx => by
    unfold Lib.splitB at hx
    split at hx
    · rw [List.mem_singleton] at hx
      rw [hx]; exact h
    · rcases List.mem_cons.1 hx with rfl | hx
      · rw [ByteArray.size_extract]; omega
      · exact splitB_size sep sv k _ n (by rw [ByteArray.size_extract]; omega) x hx
def GlobR (s : ByteArray) (w : World) (e : Ending) (w' : World) : Prop := ∃ (nm : ByteArray) (va ve : Int), e = .returned (.tuple #[.agg #[.string nm, .int .i64 va, .int .i64 ve], .bool (globP s).isSome]) ∧ (∀ g, globP s = some g → g = ⟨nm, va, ve⟩) ∧ Below w.heap.size w w'
set_option maxHeartbeats 8000000 in
set_option maxRecDepth 100000 in
theorem global_calls (s : ByteArray) (hs : s.size ≤ 100000000) (w : World) (hT : GT w) : Calls Tryz.prog 22 #[.string s] w (GlobR s w) := by
  have HT := Lib.hid hT
  clear hT
  have hlen : (split4 s).length ≤ 4 := Nat.le_trans (Lib.splitB_length_le _ _ _ _) (by omega)
  have hmem : ∀ x, x ∈ split4 s → x.size ≤ 100000000 := splitB_size _ _ _ s _ hs
  have hP : globP s = globP4 (split4 s) := rfl
  obtain ⟨m, hm⟩ := HT.out.mx
  go_enter Tryz.func22, Tryz.ntmps22
  go_wp2_with fail
  have hA := ((Below.refl _ w).alloc (Nat.le_refl _) (.cells #[.string ⟨#[]⟩, .int .i64 0, .int .i64 0] 52))
  refine (Tryz.strings_SplitN s ⟨#[32]⟩ 4 m _ (by omega) ((cell_same (hA.block _ (cell_lt hm))).trans hm) (by decide) (by decide) (by decide)).mono ?_
  rintro e w1 ⟨rfl, rfl⟩
  have hsp : Lib.splitB ⟨#[32]⟩ 0 (min 4 (s.size + 1) - 1) s = split4 s := rfl
  rw [hsp]
  have HZ1 := Lib.hid (new2_a w (.cells #[.string ⟨#[]⟩, .int .i64 0, .int .i64 0] 52) (.cells (Lib.cellsOf (split4 s) (min 4 (s.size + 1))) 9))
  have HQ1 := Lib.hid (new2_b w (.cells #[.string ⟨#[]⟩, .int .i64 0, .int .i64 0] 52) (.cells (Lib.cellsOf (split4 s) (min 4 (s.size + 1))) 9))
  have HB1 := Lib.hid (hA.alloc hA.size (.cells (Lib.cellsOf (split4 s) (min 4 (s.size + 1))) 9))
  rw [World.size_alloc]
  clear hA hm hsp
  generalize hL : split4 s = L at hlen hmem hP HZ1 HQ1 HB1 ⊢
  have hc4 : L.length ≤ min 4 (s.size + 1) := by
    rw [← hL]
    exact Nat.le_trans (Lib.splitB_length_le _ _ _ _) (by omega)
  clear hL
  generalize hNN : min 4 (s.size + 1) = NN at hc4 HZ1 HQ1 HB1 ⊢
  clear hNN
  have HC4 := Lib.hid hc4
  generalize (w.alloc (.cells #[.string ⟨#[]⟩, .int .i64 0, .int .i64 0] 52)).alloc (.cells (Lib.cellsOf L NN) 9) = w1 at HZ1 HQ1 HB1 ⊢
  have z0 := cell_in HZ1.out 0
  have z1 := cell_in HZ1.out 1
  have z2 := cell_in HZ1.out 2
  have f0 := blk_frozen HZ1.out 0
  have f1 := blk_frozen HZ1.out 1
  have f2 := blk_frozen HZ1.out 2
  have hset := heap_set (heap_set (heap_set HZ1.out 0 (.string ⟨#[]⟩)) 1 (.int .i64 0)) 2 (.int .i64 0)
  have hbel : Below w.heap.size w (((w1.setCell ⟨w.heap.size, 0, none⟩ (.string ⟨#[]⟩)).setCell ⟨w.heap.size, 1, none⟩ (.int .i64 0)).setCell ⟨w.heap.size, 2, none⟩ (.int .i64 0)) := ((HB1.out.setCell (p := ⟨w.heap.size, 0, none⟩) (Nat.le_refl _) _).setCell (p := ⟨w.heap.size, 1, none⟩) (Nat.le_refl _) _).setCell (p := ⟨w.heap.size, 2, none⟩) (Nat.le_refl _) _
  have HBL := Lib.hid hbel
  have HSE := Lib.hid hset
  have q0 := cell_in hset 0
  have q1 := cell_in hset 1
  have q2 := cell_in hset 2
  clear hbel hset
  have hno : globP s = none → ∀ W', Below w.heap.size w W' → GlobR s w (.returned (.tuple #[.agg #[.string ⟨#[]⟩, .int .i64 0, .int .i64 0], .bool false])) W' := fun h W' hb => ⟨⟨#[]⟩, 0, 0, by rw [h]; rfl, (fun g hg => by rw [h] at hg; cases hg), hb⟩
  have HNO := Lib.hid hno
  clear hno
  by_cases h4 : L.length < 4
  · have h4z : (L.length : Int) < 4 := by omega
    have hn : globP s = none := by
      rw [hP]
      unfold globP4
      split
      · simp at h4
      · rfl
    have HN := Lib.hid hn
    clear hn hP hmem
    go_wp2_with fail
    exact bodyPost_ret (v := .tuple #[.agg #[.string ⟨#[]⟩, .int .i64 0, .int .i64 0], .bool false]) (by simp [results, Tryz.results22, go_sem, q0, q1, q2]) rfl (HNO.out HN.out _ HBL.out)
  · have h4z : ¬ (L.length : Int) < 4 := by omega
    have hex : ∃ a b c d, L = [a, b, c, d] := by
      match L, hlen, h4 with
      | [a, b, c, d], _, _ => exact ⟨a, b, c, d, rfl⟩
      | [], _, h => exact absurd (by simp) h
      | [_], _, h => exact absurd (by simp) h
      | [_, _], _, h => exact absurd (by simp) h
      | [_, _, _], _, h => exact absurd (by simp) h
      | _ :: _ :: _ :: _ :: _ :: _, h, _ => simp at h
    obtain ⟨a, b, c, d, rfl⟩ := hex
    have g0 : w1.cell? ⟨w.heap.size + 1, 0, none⟩ = some (.string a) := (cell_in HQ1.out 0).trans (by simp [Lib.cellsOf])
    have g1 : w1.cell? ⟨w.heap.size + 1, 1, none⟩ = some (.string b) := (cell_in HQ1.out 1).trans (by simp [Lib.cellsOf])
    have g2 : w1.cell? ⟨w.heap.size + 1, 2, none⟩ = some (.string c) := (cell_in HQ1.out 2).trans (by simp [Lib.cellsOf])
    have g3 : w1.cell? ⟨w.heap.size + 1, 3, none⟩ = some (.string d) := (cell_in HQ1.out 3).trans (by simp [Lib.cellsOf])
    have hP : globP s = if a.data.toList = [103, 108, 111, 98, 97, 108] then (match numP b.data.toList with
    | none => none
    | some x => (match numP c.data.toList with
      | none => none
      | some y => if globB d x y = true then some ⟨d, x, y⟩ else none)) else none := hP
    have hsb := hmem b (by simp)
    have hsc := hmem c (by simp)
    clear hmem hlen
    by_cases ha : a.data.toList = [103, 108, 111, 98, 97, 108]
    · have ha1 : (a.toList == [103, 108, 111, 98, 97, 108]) = true := by rw [ByteArray.toList_eq]; exact beq_iff_eq.2 ha
      rw [if_pos ha] at hP
      have ha2 : a.toList = [103, 108, 111, 98, 97, 108] := by rw [ByteArray.toList_eq]; exact ha
      have HP := Lib.hid hP
      clear hP ha z0 z1 z2 f0 f1 f2 q0 q1 q2 HBL HSE
      go_wp2_with fail
      refine (number_calls b (by omega) _ (HT.out.below HB1.out)).mono ?_
      rintro e w2 ⟨va, rfl, hva, hb2⟩
      have HZ2 := Lib.hid ((hb2.block w.heap.size (Array.getElem?_eq_some_iff.1 HZ1.out).1).trans HZ1.out)
      have HQ2 := Lib.hid ((hb2.block (w.heap.size + 1) (Array.getElem?_eq_some_iff.1 HQ1.out).1).trans HQ1.out)
      have HB2 := Lib.hid (bel2 HB1.out hb2)
      clear hb2 g0 g1 g2 g3
      have g2 : w2.cell? ⟨w.heap.size + 1, 2, none⟩ = some (.string c) := (cell_in HQ2.out 2).trans (by simp [Lib.cellsOf])
      have HVA := Lib.hid hva
      clear hva
      go_wp2_with fail
      refine (number_calls c (by omega) _ (HT.out.below HB2.out)).mono ?_
      rintro e w3 ⟨ve, rfl, hve, hb3⟩
      have HZ3 := Lib.hid ((hb3.block w.heap.size (Array.getElem?_eq_some_iff.1 HZ2.out).1).trans HZ2.out)
      have HQ3 := Lib.hid ((hb3.block (w.heap.size + 1) (Array.getElem?_eq_some_iff.1 HQ2.out).1).trans HQ2.out)
      have HB3 := Lib.hid (bel2 HB2.out hb3)
      clear hb3 g2
      have g3 : w3.cell? ⟨w.heap.size + 1, 3, none⟩ = some (.string d) := (cell_in HQ3.out 3).trans (by simp [Lib.cellsOf])
      have hP := HP.out
      have hva := HVA.out
      have hR : ∀ g, globP s = some g → g = ⟨d, va, ve⟩ := by
        rw [hP]
        intro g hg
        cases h1 : numP b.data.toList with
        | none => rw [h1] at hg; cases hg
        | some x =>
          rw [h1] at hg
          cases h2 : numP c.data.toList with
          | none => rw [h2] at hg; cases hg
          | some y =>
            rw [h2] at hg
            simp only at hg
            split at hg
            · cases hg
              rw [hva x h1, hve y h2]
            · cases hg
      have hI : (globP s).isSome = ((numP b.data.toList).isSome && ((numP c.data.toList).isSome && globB d va ve)) := by
        rw [hP]
        cases h1 : numP b.data.toList with
        | none => rfl
        | some x =>
          cases h2 : numP c.data.toList with
          | none => rfl
          | some y =>
            have e1 := hva x h1
            have e2 := hve y h2
            subst e1 e2
            simp only
            cases globB d va ve <;> rfl
      have HR := Lib.hid hR
      have HI := Lib.hid hI
      clear hR hI hP hva hve HVA HP
      generalize (numP b.data.toList).isSome = nb at HI ⊢
      generalize (numP c.data.toList).isSome = nc at HI ⊢
      go_upto_region 7 with (fail)
      have HZ := Lib.hid ((heap_old w3 (.cells #[.string d, .int .i64 va, .int .i64 ve] 52) _ (Array.getElem?_eq_some_iff.1 HZ3.out).1).trans HZ3.out)
      have HY := Lib.hid (heap_new w3 (.cells #[.string d, .int .i64 va, .int .i64 ve] 52))
      have HB := Lib.hid (HB3.out.alloc HB3.out.size (.cells #[.string d, .int .i64 va, .int .i64 ve] 52))
      clear g3
      generalize w3.alloc (.cells #[.string d, .int .i64 va, .int .i64 ve] 52) = wg at HZ HY HB ⊢
      generalize w3.heap.size = g at HY ⊢
      have hd : ∃ nm, nm = d := ⟨_, rfl⟩
      obtain ⟨nm, rfl⟩ := hd
      have y0 := cell_in HY.out 0
      have y1 := cell_in HY.out 1
      have y2 := cell_in HY.out 2
      cases nb
      case false =>
        refine start_ (n := 11) (S := fun w' => w'.cell? ⟨g, 0, none⟩ = some (.string nm) ∧ w'.cell? ⟨g, 1, none⟩ = some (.int .i64 va) ∧ w'.cell? ⟨g, 2, none⟩ = some (.int .i64 ve)) (ds := [9]) #[false, false, false, false, false, false, false, false, false, false, false] (by kernel_rfl) rfl rfl ⟨y0, y1, y2⟩ (fun hHeld => ?_)
        refine pure_ (i := 1) (N := some 43) (v := ?_) (a' := ?_) #[false, true, false, false, false, false, false, false, false, false, false] rfl rfl (by kernel_rfl) (fun _ _ _ h => h) (Or.inl ⟨by rfl, ?_⟩) ?_ ?_
        rotate_left
        · intro w'
          go_simp
          with_reducible rfl
        rotate_left
        · simp only [Act.put, List.setIfInBounds_toArray, List.set_cons_zero, List.set_cons_succ, i64_w, i32_w]
          rfl
        refine pure_ (i := 2) (N := some 44) (v := ?_) (a' := ?_) #[false, true, true, false, false, false, false, false, false, false, false] rfl rfl (by kernel_rfl) (fun _ _ _ h => h) (Or.inl ⟨by rfl, ?_⟩) ?_ ?_
        rotate_left
        · intro w'
          go_simp
          with_reducible rfl
        rotate_left
        · simp only [Act.put, List.setIfInBounds_toArray, List.set_cons_zero, List.set_cons_succ, i64_w, i32_w]
          rfl
        refine take_ (i := 0) (N := some 42) (v := ?_) (a' := ?_) #[true, true, true, false, false, false, false, false, false, false, false] rfl rfl (by kernel_rfl) (fun _ _ _ h => h) (Or.inl ⟨by rfl, ?_⟩) hHeld ?_ ?_
        rotate_left
        · rintro w' ⟨s0, s1, s2⟩
          go_simp
          with_reducible rfl
        rotate_left
        · simp only [Act.put, List.setIfInBounds_toArray, List.set_cons_zero, List.set_cons_succ, i64_w, i32_w]
          rfl
        refine pure_ (i := 3) (N := some 45) (v := _) (a' := ?_) #[true, true, true, true, false, false, false, false, false, false, false] rfl rfl (by kernel_rfl) (fun _ _ _ h => h) (Or.inr ⟨by rfl, rfl⟩) ?_ ?_
        rotate_left
        · simp only [Act.put, List.setIfInBounds_toArray, List.set_cons_zero, List.set_cons_succ, i64_w, i32_w]
          rfl
        refine pure_ (i := 4) (N := some 46) (v := ?_) (a' := ?_) #[true, true, true, true, true, false, false, false, false, false, false] rfl rfl (by kernel_rfl) (fun _ _ _ h => h) (Or.inl ⟨by rfl, ?_⟩) ?_ ?_
        rotate_left
        · intro w'
          go_simp
          with_reducible rfl
        rotate_left
        · simp only [Act.put, List.setIfInBounds_toArray, List.set_cons_zero, List.set_cons_succ, i64_w, i32_w]
          rfl
        refine pure_ (i := 5) (N := some 47) (v := ?_) (a' := ?_) #[true, true, true, true, true, true, false, false, false, false, false] rfl rfl (by kernel_rfl) (fun _ _ _ h => h) (Or.inl ⟨by rfl, ?_⟩) ?_ ?_
        rotate_left
        · intro w'
          go_simp
          with_reducible rfl
        rotate_left
        · simp only [Act.put, List.setIfInBounds_toArray, List.set_cons_zero, List.set_cons_succ, i64_w, i32_w]
          rfl
        refine pure_ (i := 6) (N := some 48) (v := _) (a' := ?_) #[true, true, true, true, true, true, true, false, false, false, false] rfl rfl (by kernel_rfl) (fun _ _ _ h => h) (Or.inr ⟨by rfl, rfl⟩) ?_ ?_
        rotate_left
        · simp only [Act.put, List.setIfInBounds_toArray, List.set_cons_zero, List.set_cons_succ, i64_w, i32_w]
          rfl
        refine one_ (i := 7) (N := some 49) #[true, true, true, true, true, true, true, true, false, false, false] rfl rfl (by kernel_rfl) (by decide) (fun K hK => ?_)
        refine off_ (by rfl) ?_
        refine hK.out _ _ hHeld (fun hHeld => ?_)
        clear hK K
        refine norm_ (a' := ?_) ?_ ?_
        rotate_left
        · show Act.put _ (some 49) _ = _
          simp only [Act.put, List.setIfInBounds_toArray, List.set_cons_zero, List.set_cons_succ, i64_w, i32_w]
          rfl
        refine pure_ (i := 8) (N := some 50) (v := ?_) (a' := ?_) #[true, true, true, true, true, true, true, true, true, false, false] rfl rfl (by kernel_rfl) (fun _ _ _ h => h) (Or.inl ⟨by rfl, ?_⟩) ?_ ?_
        rotate_left
        · intro w'
          go_simp
          with_reducible rfl
        rotate_left
        · simp only [Act.put, List.setIfInBounds_toArray, List.set_cons_zero, List.set_cons_succ, i64_w, i32_w]
          rfl
        refine last_ (i := 9) (N := none) #[true, true, true, true, true, true, true, true, true, true, false] rfl rfl (by kernel_rfl) (by decide) (fun K hK => ?_)
        have z0 : (wg).cell? ⟨w.heap.size, 0, none⟩ = some (.string ⟨#[]⟩) := cell_in (w := wg) HZ.out 0
        have f0 : (wg).frozen? ⟨w.heap.size, 0, none⟩ = false := blk_frozen (w := wg) HZ.out 0
        have z1 : (wg).cell? ⟨w.heap.size, 1, none⟩ = some (.int .i64 0) := cell_in (w := wg) HZ.out 1
        have f1 : (wg).frozen? ⟨w.heap.size, 1, none⟩ = false := blk_frozen (w := wg) HZ.out 1
        have z2 : (wg).cell? ⟨w.heap.size, 2, none⟩ = some (.int .i64 0) := cell_in (w := wg) HZ.out 2
        have f2 : (wg).frozen? ⟨w.heap.size, 2, none⟩ = false := blk_frozen (w := wg) HZ.out 2
        refine skip_ (w1 := (((wg.drew).setCell ⟨w.heap.size, 0, none⟩ (.string nm)).setCell ⟨w.heap.size, 1, none⟩ (.int .i64 va)).setCell ⟨w.heap.size, 2, none⟩ (.int .i64 ve)) (by rfl) rfl ?_ ?_
        · go_simp
        have hset := heap_set (heap_set (heap_set (W := wg.drew) HZ.out 0 (.string nm)) 1 (.int .i64 va)) 2 (.int .i64 ve)
        have hbel : Below w.heap.size w ((((wg.drew).setCell ⟨w.heap.size, 0, none⟩ (.string nm)).setCell ⟨w.heap.size, 1, none⟩ (.int .i64 va)).setCell ⟨w.heap.size, 2, none⟩ (.int .i64 ve)) := ((((bel2 HB.out (Below.refl _ wg).drew)).setCell (p := ⟨w.heap.size, 0, none⟩) (Nat.le_refl _) _).setCell (p := ⟨w.heap.size, 1, none⟩) (Nat.le_refl _) _).setCell (p := ⟨w.heap.size, 2, none⟩) (Nat.le_refl _) _
        have HSET := Lib.hid hset
        have HBEL := Lib.hid hbel
        clear hset hbel
        refine hK.out _ _ ?_
        clear hK K z0 z1 z2 f0 f1 f2
        generalize (((wg.drew).setCell ⟨w.heap.size, 0, none⟩ (.string nm)).setCell ⟨w.heap.size, 1, none⟩ (.int .i64 va)).setCell ⟨w.heap.size, 2, none⟩ (.int .i64 ve) = wz at HSET HBEL ⊢
        refine pure_ (i := 10) (N := some 3) (v := ?_) (a' := ?_) #[true, true, true, true, true, true, true, true, true, true, true] rfl rfl (by kernel_rfl) (fun _ _ _ h => h) (Or.inl ⟨by rfl, ?_⟩) ?_ ?_
        rotate_left
        · intro w'
          go_simp
          with_reducible rfl
        rotate_left
        · simp only [Act.put, List.setIfInBounds_toArray, List.set_cons_zero, List.set_cons_succ, i64_w, i32_w]
          rfl
        refine done_ (by kernel_rfl) ?_
        clear y0 y1 y2
        go_wp2_with fail
        have q0 := cell_in HSET.out 0
        have q1 := cell_in HSET.out 1
        have q2 := cell_in HSET.out 2
        exact bodyPost_ret (v := .tuple #[.agg #[.string nm, .int .i64 va, .int .i64 ve], .bool (globP s).isSome]) (by rw [HI.out]; simp [results, Tryz.results22, go_sem, q0, q1, q2]; try rfl) rfl ⟨nm, va, ve, rfl, HR.out, HBEL.out⟩
      case true =>
        cases nc
        case false =>
          refine start_ (n := 11) (S := fun w' => w'.cell? ⟨g, 0, none⟩ = some (.string nm) ∧ w'.cell? ⟨g, 1, none⟩ = some (.int .i64 va) ∧ w'.cell? ⟨g, 2, none⟩ = some (.int .i64 ve)) (ds := [9]) #[false, false, false, false, false, false, false, false, false, false, false] (by kernel_rfl) rfl rfl ⟨y0, y1, y2⟩ (fun hHeld => ?_)
          refine pure_ (i := 1) (N := some 43) (v := ?_) (a' := ?_) #[false, true, false, false, false, false, false, false, false, false, false] rfl rfl (by kernel_rfl) (fun _ _ _ h => h) (Or.inl ⟨by rfl, ?_⟩) ?_ ?_
          rotate_left
          · intro w'
            go_simp
            with_reducible rfl
          rotate_left
          · simp only [Act.put, List.setIfInBounds_toArray, List.set_cons_zero, List.set_cons_succ, i64_w, i32_w]
            rfl
          refine pure_ (i := 2) (N := some 44) (v := ?_) (a' := ?_) #[false, true, true, false, false, false, false, false, false, false, false] rfl rfl (by kernel_rfl) (fun _ _ _ h => h) (Or.inl ⟨by rfl, ?_⟩) ?_ ?_
          rotate_left
          · intro w'
            go_simp
            with_reducible rfl
          rotate_left
          · simp only [Act.put, List.setIfInBounds_toArray, List.set_cons_zero, List.set_cons_succ, i64_w, i32_w]
            rfl
          refine take_ (i := 0) (N := some 42) (v := ?_) (a' := ?_) #[true, true, true, false, false, false, false, false, false, false, false] rfl rfl (by kernel_rfl) (fun _ _ _ h => h) (Or.inl ⟨by rfl, ?_⟩) hHeld ?_ ?_
          rotate_left
          · rintro w' ⟨s0, s1, s2⟩
            go_simp
            with_reducible rfl
          rotate_left
          · simp only [Act.put, List.setIfInBounds_toArray, List.set_cons_zero, List.set_cons_succ, i64_w, i32_w]
            rfl
          refine pure_ (i := 3) (N := some 45) (v := ?_) (a' := ?_) #[true, true, true, true, false, false, false, false, false, false, false] rfl rfl (by kernel_rfl) (fun _ _ _ h => h) (Or.inl ⟨by rfl, ?_⟩) ?_ ?_
          rotate_left
          · intro w'
            go_simp
            with_reducible rfl
          rotate_left
          · simp only [Act.put, List.setIfInBounds_toArray, List.set_cons_zero, List.set_cons_succ, i64_w, i32_w]
            rfl
          refine pure_ (i := 4) (N := some 46) (v := ?_) (a' := ?_) #[true, true, true, true, true, false, false, false, false, false, false] rfl rfl (by kernel_rfl) (fun _ _ _ h => h) (Or.inl ⟨by rfl, ?_⟩) ?_ ?_
          rotate_left
          · intro w'
            go_simp
            with_reducible rfl
          rotate_left
          · simp only [Act.put, List.setIfInBounds_toArray, List.set_cons_zero, List.set_cons_succ, i64_w, i32_w]
            rfl
          refine pure_ (i := 5) (N := some 47) (v := ?_) (a' := ?_) #[true, true, true, true, true, true, false, false, false, false, false] rfl rfl (by kernel_rfl) (fun _ _ _ h => h) (Or.inl ⟨by rfl, ?_⟩) ?_ ?_
          rotate_left
          · intro w'
            go_simp
            with_reducible rfl
          rotate_left
          · simp only [Act.put, List.setIfInBounds_toArray, List.set_cons_zero, List.set_cons_succ, i64_w, i32_w]
            rfl
          refine pure_ (i := 6) (N := some 48) (v := _) (a' := ?_) #[true, true, true, true, true, true, true, false, false, false, false] rfl rfl (by kernel_rfl) (fun _ _ _ h => h) (Or.inr ⟨by rfl, rfl⟩) ?_ ?_
          rotate_left
          · simp only [Act.put, List.setIfInBounds_toArray, List.set_cons_zero, List.set_cons_succ, i64_w, i32_w]
            rfl
          refine one_ (i := 7) (N := some 49) #[true, true, true, true, true, true, true, true, false, false, false] rfl rfl (by kernel_rfl) (by decide) (fun K hK => ?_)
          refine off_ (by rfl) ?_
          refine hK.out _ _ hHeld (fun hHeld => ?_)
          clear hK K
          refine norm_ (a' := ?_) ?_ ?_
          rotate_left
          · show Act.put _ (some 49) _ = _
            simp only [Act.put, List.setIfInBounds_toArray, List.set_cons_zero, List.set_cons_succ, i64_w, i32_w]
            rfl
          refine pure_ (i := 8) (N := some 50) (v := ?_) (a' := ?_) #[true, true, true, true, true, true, true, true, true, false, false] rfl rfl (by kernel_rfl) (fun _ _ _ h => h) (Or.inl ⟨by rfl, ?_⟩) ?_ ?_
          rotate_left
          · intro w'
            go_simp
            with_reducible rfl
          rotate_left
          · simp only [Act.put, List.setIfInBounds_toArray, List.set_cons_zero, List.set_cons_succ, i64_w, i32_w]
            rfl
          refine last_ (i := 9) (N := none) #[true, true, true, true, true, true, true, true, true, true, false] rfl rfl (by kernel_rfl) (by decide) (fun K hK => ?_)
          have z0 : (wg).cell? ⟨w.heap.size, 0, none⟩ = some (.string ⟨#[]⟩) := cell_in (w := wg) HZ.out 0
          have f0 : (wg).frozen? ⟨w.heap.size, 0, none⟩ = false := blk_frozen (w := wg) HZ.out 0
          have z1 : (wg).cell? ⟨w.heap.size, 1, none⟩ = some (.int .i64 0) := cell_in (w := wg) HZ.out 1
          have f1 : (wg).frozen? ⟨w.heap.size, 1, none⟩ = false := blk_frozen (w := wg) HZ.out 1
          have z2 : (wg).cell? ⟨w.heap.size, 2, none⟩ = some (.int .i64 0) := cell_in (w := wg) HZ.out 2
          have f2 : (wg).frozen? ⟨w.heap.size, 2, none⟩ = false := blk_frozen (w := wg) HZ.out 2
          refine skip_ (w1 := (((wg.drew).setCell ⟨w.heap.size, 0, none⟩ (.string nm)).setCell ⟨w.heap.size, 1, none⟩ (.int .i64 va)).setCell ⟨w.heap.size, 2, none⟩ (.int .i64 ve)) (by rfl) rfl ?_ ?_
          · go_simp
          have hset := heap_set (heap_set (heap_set (W := wg.drew) HZ.out 0 (.string nm)) 1 (.int .i64 va)) 2 (.int .i64 ve)
          have hbel : Below w.heap.size w ((((wg.drew).setCell ⟨w.heap.size, 0, none⟩ (.string nm)).setCell ⟨w.heap.size, 1, none⟩ (.int .i64 va)).setCell ⟨w.heap.size, 2, none⟩ (.int .i64 ve)) := ((((bel2 HB.out (Below.refl _ wg).drew)).setCell (p := ⟨w.heap.size, 0, none⟩) (Nat.le_refl _) _).setCell (p := ⟨w.heap.size, 1, none⟩) (Nat.le_refl _) _).setCell (p := ⟨w.heap.size, 2, none⟩) (Nat.le_refl _) _
          have HSET := Lib.hid hset
          have HBEL := Lib.hid hbel
          clear hset hbel
          refine hK.out _ _ ?_
          clear hK K z0 z1 z2 f0 f1 f2
          generalize (((wg.drew).setCell ⟨w.heap.size, 0, none⟩ (.string nm)).setCell ⟨w.heap.size, 1, none⟩ (.int .i64 va)).setCell ⟨w.heap.size, 2, none⟩ (.int .i64 ve) = wz at HSET HBEL ⊢
          refine pure_ (i := 10) (N := some 3) (v := ?_) (a' := ?_) #[true, true, true, true, true, true, true, true, true, true, true] rfl rfl (by kernel_rfl) (fun _ _ _ h => h) (Or.inl ⟨by rfl, ?_⟩) ?_ ?_
          rotate_left
          · intro w'
            go_simp
            with_reducible rfl
          rotate_left
          · simp only [Act.put, List.setIfInBounds_toArray, List.set_cons_zero, List.set_cons_succ, i64_w, i32_w]
            rfl
          refine done_ (by kernel_rfl) ?_
          clear y0 y1 y2
          go_wp2_with fail
          have q0 := cell_in HSET.out 0
          have q1 := cell_in HSET.out 1
          have q2 := cell_in HSET.out 2
          exact bodyPost_ret (v := .tuple #[.agg #[.string nm, .int .i64 va, .int .i64 ve], .bool (globP s).isSome]) (by rw [HI.out]; simp [results, Tryz.results22, go_sem, q0, q1, q2]; try rfl) rfl ⟨nm, va, ve, rfl, HR.out, HBEL.out⟩
        case true =>
          refine start_ (n := 11) (S := fun w' => w'.cell? ⟨g, 0, none⟩ = some (.string nm) ∧ w'.cell? ⟨g, 1, none⟩ = some (.int .i64 va) ∧ w'.cell? ⟨g, 2, none⟩ = some (.int .i64 ve)) (ds := [9]) #[false, false, false, false, false, false, false, false, false, false, false] (by kernel_rfl) rfl rfl ⟨y0, y1, y2⟩ (fun hHeld => ?_)
          refine pure_ (i := 1) (N := some 43) (v := ?_) (a' := ?_) #[false, true, false, false, false, false, false, false, false, false, false] rfl rfl (by kernel_rfl) (fun _ _ _ h => h) (Or.inl ⟨by rfl, ?_⟩) ?_ ?_
          rotate_left
          · intro w'
            go_simp
            with_reducible rfl
          rotate_left
          · simp only [Act.put, List.setIfInBounds_toArray, List.set_cons_zero, List.set_cons_succ, i64_w, i32_w]
            rfl
          refine pure_ (i := 2) (N := some 44) (v := ?_) (a' := ?_) #[false, true, true, false, false, false, false, false, false, false, false] rfl rfl (by kernel_rfl) (fun _ _ _ h => h) (Or.inl ⟨by rfl, ?_⟩) ?_ ?_
          rotate_left
          · intro w'
            go_simp
            with_reducible rfl
          rotate_left
          · simp only [Act.put, List.setIfInBounds_toArray, List.set_cons_zero, List.set_cons_succ, i64_w, i32_w]
            rfl
          refine take_ (i := 0) (N := some 42) (v := ?_) (a' := ?_) #[true, true, true, false, false, false, false, false, false, false, false] rfl rfl (by kernel_rfl) (fun _ _ _ h => h) (Or.inl ⟨by rfl, ?_⟩) hHeld ?_ ?_
          rotate_left
          · rintro w' ⟨s0, s1, s2⟩
            go_simp
            with_reducible rfl
          rotate_left
          · simp only [Act.put, List.setIfInBounds_toArray, List.set_cons_zero, List.set_cons_succ, i64_w, i32_w]
            rfl
          refine pure_ (i := 3) (N := some 45) (v := ?_) (a' := ?_) #[true, true, true, true, false, false, false, false, false, false, false] rfl rfl (by kernel_rfl) (fun _ _ _ h => h) (Or.inl ⟨by rfl, ?_⟩) ?_ ?_
          rotate_left
          · intro w'
            go_simp
            with_reducible rfl
          rotate_left
          · simp only [Act.put, List.setIfInBounds_toArray, List.set_cons_zero, List.set_cons_succ, i64_w, i32_w]
            rfl
          refine pure_ (i := 4) (N := some 46) (v := ?_) (a' := ?_) #[true, true, true, true, true, false, false, false, false, false, false] rfl rfl (by kernel_rfl) (fun _ _ _ h => h) (Or.inl ⟨by rfl, ?_⟩) ?_ ?_
          rotate_left
          · intro w'
            go_simp
            with_reducible rfl
          rotate_left
          · simp only [Act.put, List.setIfInBounds_toArray, List.set_cons_zero, List.set_cons_succ, i64_w, i32_w]
            rfl
          refine pure_ (i := 5) (N := some 47) (v := ?_) (a' := ?_) #[true, true, true, true, true, true, false, false, false, false, false] rfl rfl (by kernel_rfl) (fun _ _ _ h => h) (Or.inl ⟨by rfl, ?_⟩) ?_ ?_
          rotate_left
          · intro w'
            go_simp
            with_reducible rfl
          rotate_left
          · simp only [Act.put, List.setIfInBounds_toArray, List.set_cons_zero, List.set_cons_succ, i64_w, i32_w]
            rfl
          refine take_ (i := 6) (N := some 48) (v := ?_) (a' := ?_) #[true, true, true, true, true, true, true, false, false, false, false] rfl rfl (by kernel_rfl) (fun _ _ _ h => h) (Or.inl ⟨by rfl, ?_⟩) hHeld ?_ ?_
          rotate_left
          · rintro w' ⟨s0, s1, s2⟩
            go_simp
            with_reducible rfl
          rotate_left
          · simp only [Act.put, List.setIfInBounds_toArray, List.set_cons_zero, List.set_cons_succ, i64_w, i32_w]
            rfl
          refine one_ (i := 7) (N := some 49) #[true, true, true, true, true, true, true, true, false, false, false] rfl rfl (by kernel_rfl) (by decide) (fun K hK => ?_)
          refine goes_ Tryz.func29 (by kernel_rfl) rfl #[.agg #[.string nm, .int .i64 va, .int .i64 ve]] (by rfl) rfl rfl (by (try simp only [List.map_toArray, List.map_cons, List.map_nil]); first | done | rfl) ?_
          refine (globB_calls nm va ve _).mono ?_
          rintro e wr ⟨rfl, hbr⟩
          have HDR := Lib.hid (((Below.refl wg.heap.size wg).drew).trans hbr)
          clear hbr
          have HYR := Lib.hid ((HDR.out.block g (Array.getElem?_eq_some_iff.1 HY.out).1).trans HY.out)
          have HZR := Lib.hid ((HDR.out.block w.heap.size (Array.getElem?_eq_some_iff.1 HZ.out).1).trans HZ.out)
          have HBR := Lib.hid (bel2 HB.out HDR.out)
          refine ⟨_, rfl, ?_⟩
          refine hK.out _ _ ⟨cell_in HYR.out 0, cell_in HYR.out 1, cell_in HYR.out 2⟩ (fun hHeld => ?_)
          clear hK K
          refine norm_ (a' := ?_) ?_ ?_
          rotate_left
          · show Act.put _ (some 49) _ = _
            simp only [Act.put, List.setIfInBounds_toArray, List.set_cons_zero, List.set_cons_succ, i64_w, i32_w]
            rfl
          refine pure_ (i := 8) (N := some 50) (v := ?_) (a' := ?_) #[true, true, true, true, true, true, true, true, true, false, false] rfl rfl (by kernel_rfl) (fun _ _ _ h => h) (Or.inl ⟨by rfl, ?_⟩) ?_ ?_
          rotate_left
          · intro w'
            go_simp
            with_reducible rfl
          rotate_left
          · simp only [Act.put, List.setIfInBounds_toArray, List.set_cons_zero, List.set_cons_succ, i64_w, i32_w]
            rfl
          refine last_ (i := 9) (N := none) #[true, true, true, true, true, true, true, true, true, true, false] rfl rfl (by kernel_rfl) (by decide) (fun K hK => ?_)
          have z0 : (wr).cell? ⟨w.heap.size, 0, none⟩ = some (.string ⟨#[]⟩) := cell_in (w := wr) HZR.out 0
          have f0 : (wr).frozen? ⟨w.heap.size, 0, none⟩ = false := blk_frozen (w := wr) HZR.out 0
          have z1 : (wr).cell? ⟨w.heap.size, 1, none⟩ = some (.int .i64 0) := cell_in (w := wr) HZR.out 1
          have f1 : (wr).frozen? ⟨w.heap.size, 1, none⟩ = false := blk_frozen (w := wr) HZR.out 1
          have z2 : (wr).cell? ⟨w.heap.size, 2, none⟩ = some (.int .i64 0) := cell_in (w := wr) HZR.out 2
          have f2 : (wr).frozen? ⟨w.heap.size, 2, none⟩ = false := blk_frozen (w := wr) HZR.out 2
          refine skip_ (w1 := (((wr).setCell ⟨w.heap.size, 0, none⟩ (.string nm)).setCell ⟨w.heap.size, 1, none⟩ (.int .i64 va)).setCell ⟨w.heap.size, 2, none⟩ (.int .i64 ve)) (by rfl) rfl ?_ ?_
          · go_simp
          have hset := heap_set (heap_set (heap_set (W := wr) HZR.out 0 (.string nm)) 1 (.int .i64 va)) 2 (.int .i64 ve)
          have hbel : Below w.heap.size w ((((wr).setCell ⟨w.heap.size, 0, none⟩ (.string nm)).setCell ⟨w.heap.size, 1, none⟩ (.int .i64 va)).setCell ⟨w.heap.size, 2, none⟩ (.int .i64 ve)) := (((HBR.out).setCell (p := ⟨w.heap.size, 0, none⟩) (Nat.le_refl _) _).setCell (p := ⟨w.heap.size, 1, none⟩) (Nat.le_refl _) _).setCell (p := ⟨w.heap.size, 2, none⟩) (Nat.le_refl _) _
          have HSET := Lib.hid hset
          have HBEL := Lib.hid hbel
          clear hset hbel
          refine hK.out _ _ ?_
          clear hK K z0 z1 z2 f0 f1 f2
          generalize (((wr).setCell ⟨w.heap.size, 0, none⟩ (.string nm)).setCell ⟨w.heap.size, 1, none⟩ (.int .i64 va)).setCell ⟨w.heap.size, 2, none⟩ (.int .i64 ve) = wz at HSET HBEL ⊢
          refine pure_ (i := 10) (N := some 3) (v := ?_) (a' := ?_) #[true, true, true, true, true, true, true, true, true, true, true] rfl rfl (by kernel_rfl) (fun _ _ _ h => h) (Or.inl ⟨by rfl, ?_⟩) ?_ ?_
          rotate_left
          · intro w'
            go_simp
            with_reducible rfl
          rotate_left
          · simp only [Act.put, List.setIfInBounds_toArray, List.set_cons_zero, List.set_cons_succ, i64_w, i32_w]
            rfl
          refine done_ (by kernel_rfl) ?_
          clear y0 y1 y2
          go_wp2_with fail
          have q0 := cell_in HSET.out 0
          have q1 := cell_in HSET.out 1
          have q2 := cell_in HSET.out 2
          exact bodyPost_ret (v := .tuple #[.agg #[.string nm, .int .i64 va, .int .i64 ve], .bool (globP s).isSome]) (by rw [HI.out]; simp [results, Tryz.results22, go_sem, q0, q1, q2]; try rfl) rfl ⟨nm, va, ve, rfl, HR.out, HBEL.out⟩
    · have ha1 : (a.toList == [103, 108, 111, 98, 97, 108]) = false := by rw [ByteArray.toList_eq]; exact beq_eq_false_iff_ne.2 ha
      have ha2 : ¬ a.toList = [103, 108, 111, 98, 97, 108] := by rw [ByteArray.toList_eq]; exact ha
      rw [if_neg ha] at hP
      have HN := Lib.hid hP
      clear hP ha
      go_wp2_with fail
      exact bodyPost_ret (v := .tuple #[.agg #[.string ⟨#[]⟩, .int .i64 0, .int .i64 0], .bool false]) (by simp [results, Tryz.results22, go_sem, q0, q1, q2]) rfl (HNO.out HN.out _ HBL.out)
end Go.Proofs.YtcmhibcoccdmaaaGreatDoor.P
