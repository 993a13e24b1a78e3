import Derived.Test.YtiioanpmfpefcaaDoorPx0
import Derived.Test.YtiioanpmfpefcaaDoorShelf
import Derived.Test.YtiioanpmfpefcaaDoorBld
import Derived.Outline
import Derived.Lib.Hide
import Derived.LoopTactic
import Derived.RegionTactic
import Derived.Deep.QuietTactic
import Derived.BigQuiet
namespace Go.Proofs.YtiioanpmfpefcaaDoor.P
open Go.RowKit Go.Proofs.YtiioanpmfpefcaaDoorW.PrintWords

def pairsV : Value := .agg #[.int .u8 110, .int .u8 10, .int .u8 116, .int .u8 9, .int .u8 92, .int .u8 92, .int .u8 39, .int .u8 39, .int .u8 34, .int .u8 34]
theorem pairs_any (w : World) : Calls Tryd.prog 53 #[] w fun e w' => e = .returned pairsV ∧ Below w.heap.size w w' := by
  go_enter Tryd.func53, Tryd.ntmps53
  go_wp2
  exact bodyPost_ret (v := pairsV) (by simp [results, Tryd.results53, go_sem, pairsV]) rfl ⟨rfl, (Below.refl _ _).alloc (Nat.le_refl _) _⟩
def pfst (k : Nat) : Int := [110, 116, 92, 39, 34].getD k 0
def psnd (k : Nat) : Int := [10, 9, 92, 39, 34].getD k 0
set_option maxRecDepth 100000 in
theorem pairs_at (k : Nat) (hk : k < 5) (w : World) : (Instr.index 90 pairsV (.int .i64 k)).run Tryd.prog w = .ok (.agg #[.int .u8 (pfst k), .int .u8 (psnd k)]) w := by
  match k, hk with
  | 0, _ => exact (by kernel_rfl : (Instr.index 90 pairsV (.int .i64 0)).run Tryd.prog w = .ok (.agg #[.int .u8 110, .int .u8 10]) w)
  | 1, _ => exact (by kernel_rfl : (Instr.index 90 pairsV (.int .i64 1)).run Tryd.prog w = .ok (.agg #[.int .u8 116, .int .u8 9]) w)
  | 2, _ => exact (by kernel_rfl : (Instr.index 90 pairsV (.int .i64 2)).run Tryd.prog w = .ok (.agg #[.int .u8 92, .int .u8 92]) w)
  | 3, _ => exact (by kernel_rfl : (Instr.index 90 pairsV (.int .i64 3)).run Tryd.prog w = .ok (.agg #[.int .u8 39, .int .u8 39]) w)
  | 4, _ => exact (by kernel_rfl : (Instr.index 90 pairsV (.int .i64 4)).run Tryd.prog w = .ok (.agg #[.int .u8 34, .int .u8 34]) w)

def other (q : Int) : Int := if q = 39 then 34 else 39
def hexS : ByteArray := ⟨#[48, 49, 50, 51, 52, 53, 54, 55, 56, 57, 97, 98, 99, 100, 101, 102]⟩
def hexB (n : Int) : Int := bt hexS n
/-- What is searched for in the pairs: the number of the first that has c, if it is not the other quote. -/
def escAt (c q : Int) : Nat := if c = other q then 5 else if c = 10 then 0 else if c = 9 then 1 else if c = 92 then 2 else if c = 39 then 3 else if c = 34 then 4 else 5
def esc (c q : Int) : List Int :=
  if escAt c q < 5 then [92, pfst (escAt c q)]
  else if c < 32 ∨ 126 < c then [92, 120, hexB (c / 16), hexB (c % 16)]
  else [c]
theorem escAt_none (c q : Int) (h : ∀ j, j < 5 → (psnd j == c && c != other q) = false) : ¬ escAt c q < 5 := by
  unfold escAt
  have h0 := h 0 (by omega); have h1 := h 1 (by omega); have h2 := h 2 (by omega); have h3 := h 3 (by omega); have h4 := h 4 (by omega)
  by_cases e : c = other q
  · rw [if_pos e]; omega
  · have e' : (c != other q) = true := bne_iff_ne.2 e
    simp only [e', Bool.and_true, beq_eq_false_iff_ne, psnd, List.getD_cons_zero, List.getD_cons_succ] at h0 h1 h2 h3 h4
    rw [if_neg e, if_neg (fun x => h0 x.symm), if_neg (fun x => h1 x.symm), if_neg (fun x => h2 x.symm), if_neg (fun x => h3 x.symm), if_neg (fun x => h4 x.symm)]
    omega
theorem escAt_some (c q : Int) (k : Nat) (hk : k < 5) (h1 : psnd k = c) (h2 : (c != other q) = true) : escAt c q = k := by
  unfold escAt
  rw [if_neg (bne_iff_ne.1 h2)]
  subst h1
  match k, hk with
  | 0, _ => rfl
  | 1, _ => rfl
  | 2, _ => rfl
  | 3, _ => rfl
  | 4, _ => rfl
theorem esc_pair (c q : Int) (k : Nat) (hk : k < 5) (h1 : psnd k = c) (h2 : (c != other q) = true) : esc c q = [92, pfst k] := by
  unfold esc; rw [escAt_some c q k hk h1 h2, if_pos hk]
theorem esc_hex (c q : Int) (h : ∀ j, j < 5 → (psnd j == c && c != other q) = false) (hc : c < 32 ∨ 126 < c) : esc c q = [92, 120, hexB (c / 16), hexB (c % 16)] := by
  unfold esc; rw [if_neg (escAt_none c q h), if_pos hc]
theorem esc_self (c q : Int) (h : ∀ j, j < 5 → (psnd j == c && c != other q) = false) (hc : ¬ (c < 32 ∨ 126 < c)) : esc c q = [c] := by
  unfold esc; rw [if_neg (escAt_none c q h), if_neg hc]

def glyph_Escape.f (a0 a1 : Int) : Option ByteArray := if 0 ≤ a0 ∧ a0 ≤ 255 then some (strOfNums (esc a0 a1)) else none

theorem conv_at (W : World) (b : Nat) (xs : List Int) (n : Nat) (hn : xs.length = n) (h : W.heap[b]? = some (.cells (xs.map (Value.int .u8)).toArray 5 (0, 0))) :
    (convert 38 9 (.slice (some ⟨b, 0, none⟩) n n)).run Tryd.prog W = .ok (.string (strOfNums xs)) W := by
  refine run_convert_bytes_arg W 38 5 Tryd.underlying38 Tryd.underlying5 b 0 n n xs hn (fun i hi => ?_) 9 Tryd.underlying9
  rw [Lib.cell_of_heap h]
  simp [List.getD_eq_getElem?_getD, List.getElem?_eq_getElem (show i < xs.length by omega)]
theorem conv2 (W : World) (o : Obj) (a b : Int) :
    (convert 38 9 (.slice (some ⟨W.heap.size + 1, 0, none⟩) 2 2)).run Tryd.prog ((W.alloc o).alloc (.cells #[.int .u8 a, .int .u8 b] 5)) = .ok (.string (strOfNums [a, b])) ((W.alloc o).alloc (.cells #[.int .u8 a, .int .u8 b] 5)) :=
  conv_at _ _ [a, b] 2 rfl (by have := heap_alloc_new (W.alloc o) (.cells #[.int .u8 a, .int .u8 b] 5); simpa using this)
theorem conv1 (W : World) (a : Int) :
    (convert 38 9 (.slice (some ⟨W.heap.size, 0, none⟩) 1 1)).run Tryd.prog (W.alloc (.cells #[.int .u8 a] 5)) = .ok (.string (strOfNums [a])) (W.alloc (.cells #[.int .u8 a] 5)) :=
  conv_at _ _ [a] 1 rfl (heap_alloc_new _ _)
theorem conv4 (W : World) (a b c d : Int) :
    (convert 38 9 (.slice (some ⟨W.heap.size, 0, none⟩) 4 4)).run Tryd.prog (W.alloc (.cells #[.int .u8 a, .int .u8 b, .int .u8 c, .int .u8 d] 5)).drew = .ok (.string (strOfNums [a, b, c, d])) (W.alloc (.cells #[.int .u8 a, .int .u8 b, .int .u8 c, .int .u8 d] 5)).drew :=
  conv_at _ _ [a, b, c, d] 4 rfl (heap_alloc_new W _)

set_option maxHeartbeats 1000000 in
set_option maxRecDepth 100000 in
theorem esc_walk (c q : Int) (w : World) (h0 : 0 ≤ c) (h1 : c ≤ 255) :
    Calls Tryd.prog 34 #[.int .u8 c, .int .u8 q] w fun e w' => e = .returned (.string (strOfNums (esc c q))) ∧ Below w.heap.size w w' := by
  by_cases hq : q = 39
  · have hq' : (q == 39) = true := by simp [hq]
    have H : Hid (other q = 34) := by
      have : other q = 34 := by simp [other, hq]
      exact Lib.hid this
    clear hq
    go_enter Tryd.func34, Tryd.ntmps34
    go_wp2_with (go_at_call 53; refine (pairs_any _).mono ?_; rintro e w1 ⟨rfl, hb1⟩)
    go_loopw [12] (fun i wr => ∃ k : Nat, k ≤ 5 ∧ i = .int .i64 k ∧ Below w.heap.size w wr ∧ Hid (∀ j, j < k → (psnd j == c && c != 34) = false)) (fun i _ => 5 - (intOf i).toNat)
    case atStart => exact ⟨0, by omega, rfl, hb1, Lib.hid (fun j h => by omega)⟩
    case round =>
      obtain ⟨k, hk, rfl, hb, HN⟩ := hrel
      by_cases hlt : k < 5
      · have hidx := pairs_at k hlt
        have hcv := conv2
        by_cases hm : psnd k = c
        · by_cases ho : (c != 34) = true
          · have hm' : (psnd k == c) = true := by simp [hm]
            have Hm := Lib.hid hm
            clear hm
            go_wp2
            go_ret
            exact ⟨by rw [esc_pair c q k hlt Hm.out (by rw [H.out]; exact ho)]; rfl, ((hb.alloc (by have := hb.size; omega) _).alloc (by have := hb.size; simp; omega) _)⟩
          · have ho' : (c != 34) = false := by simpa using ho
            have HN' : Hid (∀ j, j < k + 1 → (psnd j == c && c != 34) = false) := Lib.hid (fun j h => by rw [ho']; simp)
            have hm' : (psnd k == c) = true := by simp [hm]
            clear ho hm HN
            go_wp2
            go_roundw
            case rel => exact ⟨k + 1, by omega, by go_num, (hb.alloc (by have := hb.size; omega) _), HN'⟩
            case measure => simp [intOf]; omega
        · have hm' : (psnd k == c) = false := by simp [hm]
          have HN' : Hid (∀ j, j < k + 1 → (psnd j == c && c != 34) = false) := Lib.hid (fun j h => by
            rcases Nat.lt_succ_iff_lt_or_eq.1 h with h | rfl
            · exact HN.out j h
            · rw [hm']; rfl)
          clear hm HN
          go_wp2
          go_roundw
          case rel => exact ⟨k + 1, by omega, by go_num, (hb.alloc (by have := hb.size; omega) _), HN'⟩
          case measure => simp [intOf]; omega
      · have hcv1 := conv1
        have hcv4 := conv4
        have HH : Hid (∀ j, j < 5 → (psnd j == c && c != other q) = false) := Lib.hid (fun j h => by rw [H.out]; exact HN.out j (by omega))
        clear HN
        by_cases hc : c < 32 ∨ 126 < c
        · have i1 : 0 ≤ c / 16 := by omega
          have i2 : c / 16 < 16 := by omega
          have i3 : 0 ≤ c % 16 := by omega
          have i4 : c % 16 < 16 := by omega
          have i5 := bt_at hexS (c / 16)
          have i6 := bt_at hexS (c % 16)
          unfold hexS at i5 i6
          have Hc := Lib.hid hc
          clear hc
          by_cases hc1 : c < 32
          · go_wp2
            all_goals go_region
            all_goals go_wp2
            all_goals go_ret
            all_goals exact ⟨by rw [esc_hex c q HH.out Hc.out]; rfl, (hb.alloc (by have := hb.size; omega) _).drew⟩
          have hc2 : 126 < c := by have := Hc.out; omega
          go_wp2
          all_goals go_region
          all_goals go_wp2
          all_goals go_ret
          all_goals exact ⟨by rw [esc_hex c q HH.out Hc.out]; rfl, (hb.alloc (by have := hb.size; omega) _).drew⟩
        · have hc1 : ¬ c < 32 := by omega
          have hc2 : ¬ 126 < c := by omega
          have Hc := Lib.hid hc
          clear hc
          go_wp2
          go_ret
          exact ⟨by rw [esc_self c q HH.out Hc.out]; rfl, hb.alloc (by have := hb.size; omega) _⟩
  · have hq' : (q == 39) = false := by simp [hq]
    have H : Hid (other q = 39) := by
      have : other q = 39 := by simp [other, hq]
      exact Lib.hid this
    clear hq
    go_enter Tryd.func34, Tryd.ntmps34
    go_wp2_with (go_at_call 53; refine (pairs_any _).mono ?_; rintro e w1 ⟨rfl, hb1⟩)
    go_loopw [12] (fun i wr => ∃ k : Nat, k ≤ 5 ∧ i = .int .i64 k ∧ Below w.heap.size w wr ∧ Hid (∀ j, j < k → (psnd j == c && c != 39) = false)) (fun i _ => 5 - (intOf i).toNat)
    case atStart => exact ⟨0, by omega, rfl, hb1, Lib.hid (fun j h => by omega)⟩
    case round =>
      obtain ⟨k, hk, rfl, hb, HN⟩ := hrel
      by_cases hlt : k < 5
      · have hidx := pairs_at k hlt
        have hcv := conv2
        by_cases hm : psnd k = c
        · by_cases ho : (c != 39) = true
          · have hm' : (psnd k == c) = true := by simp [hm]
            have Hm := Lib.hid hm
            clear hm
            go_wp2
            go_ret
            exact ⟨by rw [esc_pair c q k hlt Hm.out (by rw [H.out]; exact ho)]; rfl, ((hb.alloc (by have := hb.size; omega) _).alloc (by have := hb.size; simp; omega) _)⟩
          · have ho' : (c != 39) = false := by simpa using ho
            have HN' : Hid (∀ j, j < k + 1 → (psnd j == c && c != 39) = false) := Lib.hid (fun j h => by rw [ho']; simp)
            have hm' : (psnd k == c) = true := by simp [hm]
            clear ho hm HN
            go_wp2
            go_roundw
            case rel => exact ⟨k + 1, by omega, by go_num, (hb.alloc (by have := hb.size; omega) _), HN'⟩
            case measure => simp [intOf]; omega
        · have hm' : (psnd k == c) = false := by simp [hm]
          have HN' : Hid (∀ j, j < k + 1 → (psnd j == c && c != 39) = false) := Lib.hid (fun j h => by
            rcases Nat.lt_succ_iff_lt_or_eq.1 h with h | rfl
            · exact HN.out j h
            · rw [hm']; rfl)
          clear hm HN
          go_wp2
          go_roundw
          case rel => exact ⟨k + 1, by omega, by go_num, (hb.alloc (by have := hb.size; omega) _), HN'⟩
          case measure => simp [intOf]; omega
      · have hcv1 := conv1
        have hcv4 := conv4
        have HH : Hid (∀ j, j < 5 → (psnd j == c && c != other q) = false) := Lib.hid (fun j h => by rw [H.out]; exact HN.out j (by omega))
        clear HN
        by_cases hc : c < 32 ∨ 126 < c
        · have i1 : 0 ≤ c / 16 := by omega
          have i2 : c / 16 < 16 := by omega
          have i3 : 0 ≤ c % 16 := by omega
          have i4 : c % 16 < 16 := by omega
          have i5 := bt_at hexS (c / 16)
          have i6 := bt_at hexS (c % 16)
          unfold hexS at i5 i6
          have Hc := Lib.hid hc
          clear hc
          by_cases hc1 : c < 32
          · go_wp2
            all_goals go_region
            all_goals go_wp2
            all_goals go_ret
            all_goals exact ⟨by rw [esc_hex c q HH.out Hc.out]; rfl, (hb.alloc (by have := hb.size; omega) _).drew⟩
          have hc2 : 126 < c := by have := Hc.out; omega
          go_wp2
          all_goals go_region
          all_goals go_wp2
          all_goals go_ret
          all_goals exact ⟨by rw [esc_hex c q HH.out Hc.out]; rfl, (hb.alloc (by have := hb.size; omega) _).drew⟩
        · have hc1 : ¬ c < 32 := by omega
          have hc2 : ¬ 126 < c := by omega
          have Hc := Lib.hid hc
          clear hc
          go_wp2
          go_ret
          exact ⟨by rw [esc_self c q HH.out Hc.out]; rfl, hb.alloc (by have := hb.size; omega) _⟩
theorem glyph_Escape.calls (a0 a1 : Int) (r : ByteArray) (w : World) (h : glyph_Escape.f a0 a1 = some r) :
    Calls Tryd.prog 34 #[.int .u8 a0, .int .u8 a1] w fun e w' => e = .returned (.string r) ∧ Below w.heap.size w w' := by
  unfold glyph_Escape.f at h
  split at h
  next hc => obtain rfl := Option.some.inj h; exact esc_walk a0 a1 w hc.1 hc.2
  next => cases h

def hxb (b : Int) : Int := Lib.indexByte hexS.data.toList b.toNat.toUInt8
def hx (s : ByteArray) (i : Int) : Int := hxb (bt s i)
theorem hx_calls (b : Int) (w : World) : Calls Tryd.prog 70 #[.string ⟨#[48, 49, 50, 51, 52, 53, 54, 55, 56, 57, 97, 98, 99, 100, 101, 102]⟩, .int .u8 b] w fun e w' => e = .returned (.int .i64 (hxb b)) ∧ w' = w := Tryd.strings_IndexByte _ b w
theorem indexByte_lt (l : List UInt8) (c : UInt8) (h : l ≠ []) : Lib.indexByte l c < l.length := by
  induction l with
  | nil => exact absurd rfl h
  | cons b l ih =>
    unfold Lib.indexByte
    simp only [List.length_cons]
    split
    · omega
    · split
      · omega
      · next h1 h2 =>
        have : l ≠ [] := by intro e; subst e; exact h2 (by rfl)
        have := ih this
        omega
theorem hxb_lt (b : Int) : hxb b < 16 := indexByte_lt hexS.data.toList _ (by decide)
theorem hxb_ge (b : Int) : -1 ≤ hxb b := Lib.indexByte_ge _ _
theorem or16 (a b : Int) (h1 : 0 ≤ a) (h2 : a < 16) (h3 : 0 ≤ b) (h4 : b < 16) : bits .or .i64 (a * 16) b = a * 16 + b := by
  have H : ∀ a b : Fin 16, bits .or .i64 ((a.val : Int) * 16) (b.val : Int) = (a.val : Int) * 16 + b.val := by decide +kernel
  obtain ⟨m, rfl⟩ := Int.eq_ofNat_of_zero_le h1
  obtain ⟨n, rfl⟩ := Int.eq_ofNat_of_zero_le h3
  exact H ⟨m, by omega⟩ ⟨n, by omega⟩
def findFst (c : Int) : Nat := if c = 110 then 0 else if c = 116 then 1 else if c = 92 then 2 else if c = 39 then 3 else if c = 34 then 4 else 5
theorem findFst_none (c : Int) (h : ∀ m, m < 5 → (c == pfst m) = false) : ¬ findFst c < 5 := by
  unfold findFst
  have h0 := h 0 (by omega); have h1 := h 1 (by omega); have h2 := h 2 (by omega); have h3 := h 3 (by omega); have h4 := h 4 (by omega)
  simp only [beq_eq_false_iff_ne, pfst, List.getD_cons_zero, List.getD_cons_succ] at h0 h1 h2 h3 h4
  rw [if_neg h0, if_neg h1, if_neg h2, if_neg h3, if_neg h4]
  omega
theorem findFst_some (c : Int) (k : Nat) (hk : k < 5) (h : c = pfst k) : findFst c = k := by
  subst h
  match k, hk with
  | 0, _ => rfl
  | 1, _ => rfl
  | 2, _ => rfl
  | 3, _ => rfl
  | 4, _ => rfl
def unesc (s : ByteArray) (i : Int) : Int × Int × Bool :=
  if i < 0 ∨ (s.size : Int) ≤ i then (0, i, false)
  else if bt s i < 32 ∨ 126 < bt s i then (0, i, false)
  else if bt s i ≠ 92 then (bt s i, i + 1, true)
  else if i + 1 = s.size then (0, i, false)
  else if findFst (bt s (i + 1)) < 5 then (psnd (findFst (bt s (i + 1))), i + 2, true)
  else if bt s (i + 1) ≠ 120 ∨ (s.size : Int) - i < 4 then (0, i, false)
  else if hx s (i + 2) < 0 ∨ hx s (i + 3) < 0 then (0, i, false)
  else (hx s (i + 2) * 16 + hx s (i + 3), i + 4, true)
def glyph_Unescape.f (a0 : ByteArray) (a1 : Int) : Option (Int × Int × Bool) := if a0.size ≤ 140737488355328 then some (unesc a0 a1) else none
def UnP (s : ByteArray) (i : Int) (w : World) (e : Ending) (w' : World) : Prop :=
  e = .returned (.tuple #[.int .u8 (unesc s i).1, .int .i64 (unesc s i).2.1, .bool (unesc s i).2.2]) ∧ Below w.heap.size w w'
theorem UnP.mk {s : ByteArray} {i : Int} {w w' : World} {a b : Int} {c : Bool} (h : unesc s i = (a, b, c)) (hb : Below w.heap.size w w') : UnP s i w (.returned (.tuple #[.int .u8 a, .int .i64 b, .bool c])) w' := by
  unfold UnP; rw [h]; exact ⟨rfl, hb⟩

set_option maxHeartbeats 1000000 in
set_option maxRecDepth 100000 in
theorem un_out (s : ByteArray) (i : Int) (w : World) (_hs : s.size ≤ 140737488355328) (h : i < 0 ∨ (s.size : Int) ≤ i) :
    Calls Tryd.prog 61 #[.string s, .int .i64 i] w (UnP s i w) := by
  have H : Hid (unesc s i = (0, i, false)) := Lib.hid (by unfold unesc; rw [if_pos h])
  by_cases h1 : i < 0
  · clear h
    go_enter Tryd.func61, Tryd.ntmps61
    go_wp2
    go_ret3
    exact UnP.mk H.out (Below.refl _ _)
  · have h2 : (s.size : Int) ≤ i := by omega
    clear h
    go_enter Tryd.func61, Tryd.ntmps61
    go_wp2
    go_ret3
    exact UnP.mk H.out (Below.refl _ _)

set_option maxHeartbeats 1000000 in
set_option maxRecDepth 100000 in
theorem un_plain (s : ByteArray) (i : Int) (w : World) (hs : s.size ≤ 140737488355328) (h0 : 0 ≤ i) (h1 : i < s.size) (h : bt s i < 32 ∨ 126 < bt s i ∨ bt s i ≠ 92) :
    Calls Tryd.prog 61 #[.string s, .int .i64 i] w (UnP s i w) := by
  have e1 : ¬ (i < 0 ∨ (s.size : Int) ≤ i) := by omega
  have hx := bt_at s i
  by_cases h2 : bt s i < 32
  · have H : Hid (unesc s i = (0, i, false)) := Lib.hid (by unfold unesc; rw [if_neg e1, if_pos (.inl h2)])
    clear h e1
    go_enter Tryd.func61, Tryd.ntmps61
    go_wp2
    go_ret3
    exact UnP.mk H.out (Below.refl _ _)
  by_cases h3 : 126 < bt s i
  · have H : Hid (unesc s i = (0, i, false)) := Lib.hid (by unfold unesc; rw [if_neg e1, if_pos (.inr h3)])
    clear h e1
    go_enter Tryd.func61, Tryd.ntmps61
    go_wp2
    go_ret3
    exact UnP.mk H.out (Below.refl _ _)
  have h4 : bt s i ≠ 92 := by omega
  have h5 : (bt s i != 92) = true := bne_iff_ne.2 h4
  have H : Hid (unesc s i = (bt s i, i + 1, true)) := Lib.hid (by unfold unesc; rw [if_neg e1, if_neg (by omega), if_pos h4])
  clear h e1 h4
  go_enter Tryd.func61, Tryd.ntmps61
  go_wp2
  go_ret3
  exact UnP.mk H.out (Below.refl _ _)

set_option maxHeartbeats 2000000 in
set_option maxRecDepth 100000 in
theorem un_back (s : ByteArray) (i : Int) (w : World) (hs : s.size ≤ 140737488355328) (h0 : 0 ≤ i) (h1 : i < s.size) (h : bt s i = 92) :
    Calls Tryd.prog 61 #[.string s, .int .i64 i] w (UnP s i w) := by
  have e1 : ¬ (i < 0 ∨ (s.size : Int) ≤ i) := by omega
  have hx := bt_at s i
  have h5 : (bt s i != 92) = false := by rw [h]; rfl
  have h2 : ¬ bt s i < 32 := by omega
  have h3 : ¬ 126 < bt s i := by omega
  have E : Hid (unesc s i = if i + 1 = s.size then (0, i, false)
      else if findFst (bt s (i + 1)) < 5 then (psnd (findFst (bt s (i + 1))), i + 2, true)
      else if bt s (i + 1) ≠ 120 ∨ (s.size : Int) - i < 4 then (0, i, false)
      else if P.hx s (i + 2) < 0 ∨ P.hx s (i + 3) < 0 then (0, i, false)
      else (P.hx s (i + 2) * 16 + P.hx s (i + 3), i + 4, true)) := Lib.hid (by unfold unesc; rw [if_neg e1, if_neg (by omega), if_neg (by rw [h]; simp)])
  clear h e1
  by_cases h6 : i + 1 = s.size
  · have h7 : (i + 1 == (s.size : Int)) = true := beq_iff_eq.2 h6
    have H : Hid (unesc s i = (0, i, false)) := Lib.hid (by rw [E.out, if_pos h6])
    clear h6
    go_enter Tryd.func61, Tryd.ntmps61
    go_wp2
    go_ret3
    exact UnP.mk H.out (Below.refl _ _)
  · have h7 : (i + 1 == (s.size : Int)) = false := beq_eq_false_iff_ne.2 h6
    have p1 : 0 ≤ i + 1 := by omega
    have p2 : i + 1 < (s.size : Int) := by omega
    have hx1 := bt_at s (i + 1)
    have H1 : Hid (¬ i + 1 = (s.size : Int)) := Lib.hid h6
    clear h6
    go_enter Tryd.func61, Tryd.ntmps61
    go_wp2_with (go_at_call 53; refine (pairs_any _).mono ?_; rintro e w1 ⟨rfl, hb1⟩)
    go_loopw [51] (fun j wr => ∃ k : Nat, k ≤ 5 ∧ j = .int .i64 k ∧ Below w.heap.size w wr ∧ Hid (∀ m, m < k → (bt s (i + 1) == pfst m) = false)) (fun j _ => 5 - (intOf j).toNat)
    case atStart => exact ⟨0, by omega, rfl, hb1, Lib.hid (fun j h => by omega)⟩
    case round =>
      obtain ⟨k, hk, rfl, hb, HN⟩ := hrel
      by_cases hlt : k < 5
      · have hidx := pairs_at k hlt
        by_cases hm : bt s (i + 1) = pfst k
        · have hm' : (bt s (i + 1) == pfst k) = true := by simp [hm]
          have H : Hid (unesc s i = (psnd k, i + 2, true)) := Lib.hid (by
            have hf := findFst_some _ k hlt hm
            rw [E.out, if_neg H1.out, hf, if_pos hlt])
          clear hm
          go_wp2
          go_region
          all_goals go_wp2
          all_goals go_ret3
          all_goals exact UnP.mk H.out (hb.alloc (by have := hb.size; omega) _).drew
        · have hm' : (bt s (i + 1) == pfst k) = false := by simp [hm]
          have HN' : Hid (∀ m, m < k + 1 → (bt s (i + 1) == pfst m) = false) := Lib.hid (fun j h => by
            rcases Nat.lt_succ_iff_lt_or_eq.1 h with h | rfl
            · exact HN.out j h
            · exact hm')
          clear hm HN
          go_wp2
          go_region
          all_goals go_wp2
          all_goals go_roundw
          case rel => exact ⟨k + 1, by omega, by go_num, (hb.alloc (by have := hb.size; omega) _).drew, HN'⟩
          case measure => simp [intOf]; omega
      · have HF : Hid (¬ findFst (bt s (i + 1)) < 5) := Lib.hid (findFst_none _ (fun m hm => HN.out m (by omega)))
        have HE : Hid (unesc s i = if bt s (i + 1) ≠ 120 ∨ (s.size : Int) - i < 4 then (0, i, false)
            else if P.hx s (i + 2) < 0 ∨ P.hx s (i + 3) < 0 then (0, i, false)
            else (P.hx s (i + 2) * 16 + P.hx s (i + 3), i + 4, true)) := Lib.hid (by rw [E.out, if_neg H1.out, if_neg HF.out])
        clear HN E
        by_cases c1 : bt s (i + 1) = 120
        · have c2 : (bt s (i + 1) != 120) = false := by rw [c1]; rfl
          have C1 := Lib.hid c1
          clear c1
          by_cases c3 : (s.size : Int) - i < 4
          · have H : Hid (unesc s i = (0, i, false)) := Lib.hid (by rw [HE.out, if_pos (.inr c3)])
            go_wp2
            go_ret3
            exact UnP.mk H.out hb
          · have HE2 : Hid (unesc s i = if P.hx s (i + 2) < 0 ∨ P.hx s (i + 3) < 0 then (0, i, false)
                else (P.hx s (i + 2) * 16 + P.hx s (i + 3), i + 4, true)) := Lib.hid (by rw [HE.out, if_neg (by rw [C1.out]; simp; omega)])
            clear HE
            have q1 : 0 ≤ i + 2 := by omega
            have q2 : i + 2 < (s.size : Int) := by omega
            have q3 : 0 ≤ i + 3 := by omega
            have q4 : i + 3 < (s.size : Int) := by omega
            have hx2 := bt_at s (i + 2)
            have hx3 := bt_at s (i + 3)
            have g1 := hxb_lt (bt s (i + 2))
            have g2 := hxb_ge (bt s (i + 2))
            have g3 := hxb_lt (bt s (i + 3))
            have g4 := hxb_ge (bt s (i + 3))
            by_cases y1 : hxb (bt s (i + 2)) < 0
            · have H : Hid (unesc s i = (0, i, false)) := Lib.hid (by rw [HE2.out]; exact if_pos (.inl y1))
              go_wp2
              go_quiet ((go_at_call 70; exact Calls.quiet_of_same (hx_calls _ _)))
              go_wp2
              go_ret3
              exact UnP.mk H.out (Drawn0.below ⟨_, rfl⟩ |> fun x => hb.trans (x.mono (by have := hb.size; omega)))
            · by_cases y2 : hxb (bt s (i + 3)) < 0
              · have H : Hid (unesc s i = (0, i, false)) := Lib.hid (by rw [HE2.out]; exact if_pos (.inr y2))
                go_wp2
                go_quiet ((go_at_call 70; exact Calls.quiet_of_same (hx_calls _ _)))
                go_wp2
                go_ret3
                exact UnP.mk H.out (Drawn0.below ⟨_, rfl⟩ |> fun x => hb.trans (x.mono (by have := hb.size; omega)))
              · have H : Hid (unesc s i = (hxb (bt s (i + 2)) * 16 + hxb (bt s (i + 3)), i + 4, true)) := Lib.hid (by rw [HE2.out]; exact if_neg (by unfold P.hx; omega))
                have hor := or16 (hxb (bt s (i + 2))) (hxb (bt s (i + 3))) (by omega) g1 (by omega) g3
                have hmd : (hxb (bt s (i + 2)) * 16 + hxb (bt s (i + 3))) % 256 = hxb (bt s (i + 2)) * 16 + hxb (bt s (i + 3)) := by omega
                go_wp2
                go_quiet ((go_at_call 70; exact Calls.quiet_of_same (hx_calls _ _)))
                go_wp2
                go_ret3
                exact UnP.mk H.out (Drawn0.below ⟨_, rfl⟩ |> fun x => hb.trans (x.mono (by have := hb.size; omega)))
        · have c2 : (bt s (i + 1) != 120) = true := bne_iff_ne.2 c1
          have H : Hid (unesc s i = (0, i, false)) := Lib.hid (by rw [HE.out, if_pos (.inl c1)])
          clear c1
          go_wp2
          go_ret3
          exact UnP.mk H.out hb
theorem glyph_Unescape.calls (a0 : ByteArray) (a1 : Int) (r1 r2 : Int) (r3 : Bool) (w : World) (h : glyph_Unescape.f a0 a1 = some (r1, r2, r3)) :
    Calls Tryd.prog 61 #[.string a0, .int .i64 a1] w fun e w' => e = .returned (.tuple #[.int .u8 r1, .int .i64 r2, .bool r3]) ∧ Below w.heap.size w w' := by
  unfold glyph_Unescape.f at h
  split at h
  next hs =>
    have hv := Option.some.inj h
    have key : Calls Tryd.prog 61 #[.string a0, .int .i64 a1] w (UnP a0 a1 w) := by
      by_cases h1 : a1 < 0 ∨ (a0.size : Int) ≤ a1
      · exact un_out a0 a1 w hs h1
      · by_cases h2 : bt a0 a1 = 92
        · exact un_back a0 a1 w hs (by omega) (by omega) h2
        · exact un_plain a0 a1 w hs (by omega) (by omega) (.inr (.inr h2))
    refine key.mono ?_
    rintro e w' ⟨rfl, hb⟩
    rw [hv]
    exact ⟨rfl, hb⟩
  next => cases h

end Go.Proofs.YtiioanpmfpefcaaDoor.P
