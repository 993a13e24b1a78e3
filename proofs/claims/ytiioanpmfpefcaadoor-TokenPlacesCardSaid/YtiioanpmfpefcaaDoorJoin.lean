import Derived.Shelf.Strings.Builder1
import Derived.Shelf.Strings.Builder2
import Derived.Shelf.Strings.OnBuilder
import Derived.Shelf.Small.Strs
import Derived.Shelf.Strings.BuilderF
import Derived.Shelf.Strings.BuilderK
import Derived.Shelf.Strconv.Atoi
import Derived.Shelf.Strconv.Itoa0
import Derived.Shelf.Strconv.Itoa1
import Derived.Shelf.LaysM
import Derived.Shelf.Strconv.Itoa2
import Derived.Shelf.Strconv.Itoa3
import Derived.Shelf.Strconv.AtoiErrFast
import Derived.Shelf.Strconv.ParseIntEmpty
import Derived.Shelf.Strconv.AtoiFail
import Derived.Shelf.Strconv.Clone
import Derived.Shelf.Strconv.SyntaxError
import Derived.Shelf.LaysC
import Derived.Shelf.Strconv.ToError
import Derived.Shelf.Strconv.AtoiErr
import Derived.Shelf.Strconv.Lower
import Derived.Shelf.Strconv.ParseUint10
import Derived.Shelf.Strconv.ParseUint10Empty
import Derived.Shelf.Strconv.ParseUint10Any
import Derived.Shelf.Strconv.ParseInt10
import Derived.Shelf.Strconv.AtoiLong
import Derived.Shelf.Strconv.AtoiInnerAll
import Derived.Shelf.Strconv.RangeError
import Derived.Shelf.Strconv.ToErrorRange
import Derived.Shelf.Strconv.AtoiAll
import Derived.Shelf.Strconv.ErrVarAll
import Derived.Shelf.Strings.Search1
import Derived.Shelf.Strings.Prefix
import Derived.Test.YtiioanpmfpefcaaDoorProg
import Derived.Test.YtiioanpmfpefcaaDoorShelf
import Derived.Test.YtiioanpmfpefcaaDoorGlyC
import Derived.Lib.LaidTab
import Derived.Lib.AppendIntMem
namespace Go.Proofs
open Go.Shelf
def Tryd.lays156_ren : Go.Shelf.Ren := ⟨fun | 156 => 21 | 165 => 38 | 166 => 33 | 169 => 35 | 240 => 52 | 241 => 55 | 276 => 64 | 277 => 66 | n => n, fun | 31 => 58 | 9 => 9 | 3 => 3 | 4 => 4 | 0 => 0 | 20 => 20 | 72 => 71 | 76 => 75 | 70 => 69 | 37 => 38 | 75 => 73 | 127 => 93 | 164 => 95 | 5 => 5 | 80 => 78 | n => n, fun | n => n⟩
theorem Tryd.lays156 : Go.Proofs.Lays.n156 Tryd.prog Tryd.lays156_ren := {
  mixed := by kernel_rfl
  f156 := Tryd.func21.trans (congrArg some (by kernel_rfl))
  f165 := Tryd.func38.trans (congrArg some (by kernel_rfl))
  f166 := Tryd.func33.trans (congrArg some (by kernel_rfl))
  f169 := Tryd.func35.trans (congrArg some (by kernel_rfl))
  f240 := Tryd.func52.trans (congrArg some (by kernel_rfl))
  f241 := Tryd.func55.trans (congrArg some (by kernel_rfl))
  f276 := Tryd.func64.trans (congrArg some (by kernel_rfl))
  f277 := Tryd.func66.trans (congrArg some (by kernel_rfl))
  t0 := Tryd.underlying0
  a0 := Tryd.isAgg0
  z0 := Tryd.sizeOf0
  v0 := Tryd.zeroValue0
  t3 := Tryd.underlying3
  a3 := Tryd.isAgg3
  z3 := Tryd.sizeOf3
  v3 := Tryd.zeroValue3
  t4 := Tryd.underlying4
  a4 := Tryd.isAgg4
  z4 := Tryd.sizeOf4
  v4 := Tryd.zeroValue4
  t9 := Tryd.underlying9
  a9 := Tryd.isAgg9
  z9 := Tryd.sizeOf9
  v9 := Tryd.zeroValue9
  t20 := Tryd.underlying20
  a20 := Tryd.isAgg20
  z20 := Tryd.sizeOf20
  v20 := Tryd.zeroValue20
  t31 := Tryd.underlying58
  a31 := Tryd.isAgg58
  z31 := Tryd.sizeOf58
  v31 := Tryd.zeroValue58
  t37 := Tryd.underlying38
  a37 := Tryd.isAgg38
  z37 := Tryd.sizeOf38
  v37 := Tryd.zeroValue38
  t70 := Tryd.underlying69
  a70 := Tryd.isAgg69
  z70 := Tryd.sizeOf69
  v70 := Tryd.zeroValue69
  t72 := Tryd.underlying71
  a72 := Tryd.isAgg71
  z72 := Tryd.sizeOf71
  v72 := Tryd.zeroValue71
  t75 := Tryd.underlying73
  a75 := Tryd.isAgg73
  z75 := Tryd.sizeOf73
  v75 := Tryd.zeroValue73
  t76 := Tryd.underlying75
  a76 := Tryd.isAgg75
  z76 := Tryd.sizeOf75
  v76 := Tryd.zeroValue75
  t127 := Tryd.underlying93
  a127 := Tryd.isAgg93
  z127 := Tryd.sizeOf93
  v127 := Tryd.zeroValue93
  t164 := Tryd.underlying95
  a164 := Tryd.isAgg95
  z164 := Tryd.sizeOf95
  v164 := Tryd.zeroValue95 }
theorem Tryd.Builder_Extra_156 : Builder.Extra Tryd.prog Tryd.lays156_ren := {
  sizeBuilder := by kernel_rfl
  liesBuilder := by kernel_rfl
  t5 := Tryd.underlying5
  a5 := Tryd.isAgg5
  z5 := Tryd.sizeOf5
  v5 := Tryd.zeroValue5
  infoByte := by kernel_rfl
  cellsByte := by kernel_rfl
  sizeByte := by kernel_rfl
  neB5 := by decide }
open Go.RowKit in
/-- No element: the empty string; the world is as it was. (Whatever the slice's address and capacity: a nil slice too.) (LAID: no walk: one application.) -/
theorem Tryd.strings_Join_none (a : Option Addr) (c : Nat) (sep : ByteArray) (w : World) :
    Calls Tryd.prog 21 #[.slice a 0 c, .string sep] w fun e w' => e = .returned (.string ⟨#[]⟩) ∧ w' = w := Any.strings_Join_none Tryd.lays156 Tryd.Builder_Extra_156 a c sep w
open Go.RowKit in
/-- strings.Join: "Join concatenates the elements of its first argument to create a single string. The separator string sep is placed between elements in the resulting string.": HOWEVER MANY ELEMENTS. Below the heap's end the world is as it was. (LAID: no walk: one application.) -/
theorem Tryd.strings_Join (bk o c : Nat) (xs : List ByteArray) (sep : ByteArray) (w : World) (hcells : ∀ (j : Nat) x, xs[j]? = some x → w.cell? ⟨bk, o + j, none⟩ = some (.string x)) (hbk : bk < w.heap.size) (hN : xs.length ≤ 140737488355328) (hcap : xs.length ≤ c) (hlen : (Lib.join (xs.map (·.data.toList)) sep.data.toList).length ≤ 140737488355328) :
    Calls Tryd.prog 21 #[.slice (some ⟨bk, o, none⟩) xs.length c, .string sep] w fun e w' => e = .returned (.string ⟨(Lib.join (xs.map (·.data.toList)) sep.data.toList).toArray⟩) ∧ Below w.heap.size w w' := Any.strings_Join Tryd.lays156 Tryd.Builder_Extra_156 bk o c xs sep w hcells hbk hN hcap hlen
def Tryd.laysM171_ren : Go.Shelf.Ren := ⟨fun | 171 => 37 | 243 => 54 | 246 => 65 | 283 => 71 | 284 => 72 | 285 => 73 | 286 => 74 | 129 => 82 | 317 => 81 | 318 => 83 | 319 => 84 | 320 => 85 | 337 => 90 | 338 => 91 | n => n, fun | 3 => 3 | 9 => 9 | 2 => 2 | 4 => 4 | 171 => 101 | 0 => 0 | 53 => 102 | 37 => 38 | 5 => 5 | 173 => 105 | 212 => 115 | 51 => 116 | 20 => 20 | 213 => 117 | 46 => 92 | 232 => 130 | 233 => 131 | n => n, fun | 17 => 1 | 18 => 4 | 19 => 5 | n => n⟩
theorem Tryd.laysM171 : Go.Proofs.LaysM.n171 Tryd.prog Tryd.laysM171_ren := {
  mixed := by kernel_rfl
  f129 := Tryd.func82.trans (congrArg some (by kernel_rfl))
  f171 := Tryd.func37.trans (congrArg some (by kernel_rfl))
  f243 := Tryd.func54.trans (congrArg some (by kernel_rfl))
  f246 := Tryd.func65.trans (congrArg some (by kernel_rfl))
  f283 := Tryd.func71.trans (congrArg some (by kernel_rfl))
  f284 := Tryd.func72.trans (congrArg some (by kernel_rfl))
  f285 := Tryd.func73.trans (congrArg some (by kernel_rfl))
  f286 := Tryd.func74.trans (congrArg some (by kernel_rfl))
  f317 := Tryd.func81.trans (congrArg some (by kernel_rfl))
  f318 := Tryd.func83.trans (congrArg some (by kernel_rfl))
  f319 := Tryd.func84.trans (congrArg some (by kernel_rfl))
  f320 := Tryd.func85.trans (congrArg some (by kernel_rfl))
  f337 := Tryd.func90.trans (congrArg some (by kernel_rfl))
  f338 := Tryd.func91.trans (congrArg some (by kernel_rfl))
  t0 := Tryd.underlying0
  a0 := Tryd.isAgg0
  z0 := Tryd.sizeOf0
  v0 := Tryd.zeroValue0
  t2 := Tryd.underlying2
  a2 := Tryd.isAgg2
  z2 := Tryd.sizeOf2
  v2 := Tryd.zeroValue2
  t3 := Tryd.underlying3
  a3 := Tryd.isAgg3
  z3 := Tryd.sizeOf3
  v3 := Tryd.zeroValue3
  t4 := Tryd.underlying4
  a4 := Tryd.isAgg4
  z4 := Tryd.sizeOf4
  v4 := Tryd.zeroValue4
  t5 := Tryd.underlying5
  a5 := Tryd.isAgg5
  z5 := Tryd.sizeOf5
  v5 := Tryd.zeroValue5
  t9 := Tryd.underlying9
  a9 := Tryd.isAgg9
  z9 := Tryd.sizeOf9
  v9 := Tryd.zeroValue9
  t20 := Tryd.underlying20
  a20 := Tryd.isAgg20
  z20 := Tryd.sizeOf20
  v20 := Tryd.zeroValue20
  t37 := Tryd.underlying38
  a37 := Tryd.isAgg38
  z37 := Tryd.sizeOf38
  v37 := Tryd.zeroValue38
  t46 := Tryd.underlying92
  a46 := Tryd.isAgg92
  z46 := Tryd.sizeOf92
  v46 := Tryd.zeroValue92
  t51 := Tryd.underlying116
  a51 := Tryd.isAgg116
  z51 := Tryd.sizeOf116
  v51 := Tryd.zeroValue116
  t53 := Tryd.underlying102
  a53 := Tryd.isAgg102
  z53 := Tryd.sizeOf102
  v53 := Tryd.zeroValue102
  t171 := Tryd.underlying101
  a171 := Tryd.isAgg101
  z171 := Tryd.sizeOf101
  v171 := Tryd.zeroValue101
  t173 := Tryd.underlying105
  a173 := Tryd.isAgg105
  z173 := Tryd.sizeOf105
  v173 := Tryd.zeroValue105
  t212 := Tryd.underlying115
  a212 := Tryd.isAgg115
  z212 := Tryd.sizeOf115
  v212 := Tryd.zeroValue115
  t213 := Tryd.underlying117
  a213 := Tryd.isAgg117
  z213 := Tryd.sizeOf117
  t232 := Tryd.underlying130
  a232 := Tryd.isAgg130
  z232 := Tryd.sizeOf130
  v232 := Tryd.zeroValue130
  t233 := Tryd.underlying131
  a233 := Tryd.isAgg131
  z233 := Tryd.sizeOf131
  v233 := Tryd.zeroValue131
  g17 := by kernel_rfl
  g18 := by kernel_rfl
  g19 := by kernel_rfl
  i0 := by kernel_rfl
  i2 := by kernel_rfl
  i3 := by kernel_rfl
  i4 := by kernel_rfl
  i5 := by kernel_rfl
  i9 := by kernel_rfl
  i20 := by kernel_rfl
  i37 := by kernel_rfl
  i46 := by kernel_rfl
  i51 := by kernel_rfl
  i53 := by kernel_rfl
  i171 := by kernel_rfl
  i173 := by kernel_rfl
  i212 := by kernel_rfl
  i232 := by kernel_rfl
  i233 := by kernel_rfl
  m17 := by kernel_rfl
  m18 := by kernel_rfl
  m19 := by kernel_rfl }
open Go.RowKit Go.Sort Go.Lib in
/-- strconv.Itoa: "Itoa is equivalent to FormatInt(int64(i), 10).": i's DECIMAL NUMERAL ('Lib.itoa': a '-' where i is negative, then the digits), FOR EVERY int. The world behind the call: the world before it, new blocks behind the heap (the library's 'var a [24]byte'), draws. (LAID: no walk: one application.) -/
theorem Tryd.strconv_Itoa (n : Int) (h0 : -9223372036854775808 ≤ n) (h1 : n ≤ 9223372036854775807) (w : World) (htab : Lib.TabIs Tryd.prog w "internal/strconv.uint64pow10" .u64 Lib.pow10Tab) :
    Calls Tryd.prog 37 #[.int .i64 n] w fun e w' => e = .returned (.string ⟨(Lib.itoa n).toArray⟩) ∧ ∃ k os, w' = grow (w.drewN k) os := Any.strconv_Itoa Tryd.laysM171 n h0 h1 w htab
end Go.Proofs
/- token.Show and strings.Join, in the form that the print calls its functions by. -/
namespace Go.Proofs.YtiioanpmfpefcaaDoor.P
open Go.RowKit Go.Proofs.YtiioanpmfpefcaaDoorW.PrintWords

/-- The numbers' writer's table stands. -/
def TabOK (w : World) : Prop := Lib.TabIs Tryd.prog w "internal/strconv.uint64pow10" .u64 Lib.pow10Tab
theorem TabOK.below {w w' : World} (h : TabOK w) (hk : Below w.heap.size w w') : TabOK w' := by
  unfold TabOK Lib.TabIs World.var? at *
  have hg : Tryd.prog.globalNamed "internal/strconv.uint64pow10" = some 1 := by kernel_rfl
  rw [hg] at h ⊢
  simp only [Option.bind_some] at h ⊢
  have hl : 1 < w.heap.size := by
    rcases Nat.lt_or_ge 1 w.heap.size with h' | h'
    · exact h'
    · rw [Array.getElem?_eq_none h'] at h; cases h
  rw [hk.block 1 hl]
  exact h
def showL (k : Int) (t : ByteArray) (n : Int) : List UInt8 :=
  if k = 4 then 39 :: (if t.size = 1 then (strOfNums (esc (bt t 0) 39)).data.toList else []) ++ [39]
  else if k = 5 then 34 :: quoteL t.data.toList ++ [34]
  else if k = 3 then Lib.itoa (max n 0)
  else if k = 9 then []
  else t.data.toList
def token_Show.f (a0 _a1 _a2 : Int) (a3 : ByteArray) (a4 : Int) : Option ByteArray :=
  if a3.size ≤ 1099511627776 ∧ -9223372036854775808 ≤ a4 ∧ a4 ≤ 9223372036854775807 then some ⟨(showL a0 a3 a4).toArray⟩ else none
abbrev ShowP (k : Int) (t : ByteArray) (n : Int) (w : World) (e : Ending) (w' : World) : Prop := e = .returned (.string ⟨(showL k t n).toArray⟩) ∧ Below w.heap.size w w'

set_option maxHeartbeats 2000000 in
set_option maxRecDepth 100000 in
theorem show_plain (k a b n : Int) (t : ByteArray) (w : World) (h4 : k ≠ 4) (h5 : k ≠ 5) (h3 : k ≠ 3) : Calls Tryd.prog 20 #[.agg #[.int .i64 k, .int .i64 a, .int .i64 b, .string t, .int .i64 n]] w (ShowP k t n w) := by
  have b4 : (k == 4) = false := beq_eq_false_iff_ne.2 h4
  have b5 : (k == 5) = false := beq_eq_false_iff_ne.2 h5
  have b3 : (k == 3) = false := beq_eq_false_iff_ne.2 h3
  by_cases h9 : k = 9
  · have b9 : (k == 9) = true := beq_iff_eq.2 h9
    have H : Hid (showL k t n = []) := Lib.hid (by unfold showL; rw [if_neg h4, if_neg h5, if_neg h3, if_pos h9])
    clear h4 h5 h3 h9
    go_enter Tryd.func20, Tryd.ntmps20
    go_wp2
    go_ret
    exact ⟨by rw [H.out]; rfl, (Below.refl _ _).alloc (Nat.le_refl _) _⟩
  · have b9 : (k == 9) = false := beq_eq_false_iff_ne.2 h9
    have H : Hid (showL k t n = t.data.toList) := Lib.hid (by unfold showL; rw [if_neg h4, if_neg h5, if_neg h3, if_neg h9])
    clear h4 h5 h3 h9
    go_enter Tryd.func20, Tryd.ntmps20
    go_wp2
    go_ret
    exact ⟨by rw [H.out]; rfl, (Below.refl _ _).alloc (Nat.le_refl _) _⟩
set_option maxHeartbeats 2000000 in
set_option maxRecDepth 100000 in
theorem show_text (a b n : Int) (t : ByteArray) (w : World) (ht : t.size ≤ 1099511627776) : Calls Tryd.prog 20 #[.agg #[.int .i64 5, .int .i64 a, .int .i64 b, .string t, .int .i64 n]] w (ShowP 5 t n w) := by
  have H : Hid (showL 5 t n = 34 :: quoteL t.data.toList ++ [34]) := Lib.hid (by unfold showL; rw [if_neg (by omega), if_pos rfl])
  go_enter Tryd.func20, Tryd.ntmps20
  go_wp2_with fail
  refine (quote_walk t _ ht).mono ?_
  rintro e w1 ⟨rfl, hb⟩
  go_wp2
  go_ret
  exact ⟨by rw [H.out]; rfl, ((Below.refl _ _).alloc (Nat.le_refl _) _).trans (hb.mono (by simp))⟩
set_option maxHeartbeats 2000000 in
set_option maxRecDepth 100000 in
theorem show_number (a b n : Int) (t : ByteArray) (w : World) (h0 : -9223372036854775808 ≤ n) (h1 : n ≤ 9223372036854775807) (hT : Hid (TabOK w)) : Calls Tryd.prog 20 #[.agg #[.int .i64 3, .int .i64 a, .int .i64 b, .string t, .int .i64 n]] w (ShowP 3 t n w) := by
  have H : Hid (showL 3 t n = Lib.itoa (max n 0)) := Lib.hid (by unfold showL; rw [if_neg (by omega), if_neg (by omega), if_pos rfl])
  go_enter Tryd.func20, Tryd.ntmps20
  go_wp2_with fail
  refine (Tryd.strconv_Itoa (max n 0) (by omega) (by omega) _ (hT.out.below ((Below.refl _ _).alloc (Nat.le_refl _) _))).mono ?_
  rintro e w1 ⟨rfl, nd, os, rfl⟩
  go_wp2
  go_ret
  exact ⟨by rw [H.out]; rfl, ((Below.refl _ _).alloc (Nat.le_refl _) _).trans ((Lib.below_grow _ _ (by simp) _ _))⟩
set_option maxHeartbeats 2000000 in
set_option maxRecDepth 100000 in
theorem show_letter (a b n : Int) (t : ByteArray) (w : World) : Calls Tryd.prog 20 #[.agg #[.int .i64 4, .int .i64 a, .int .i64 b, .string t, .int .i64 n]] w (ShowP 4 t n w) := by
  by_cases h1 : t.size = 1
  · have H : Hid (showL 4 t n = 39 :: (strOfNums (esc (bt t 0) 39)).data.toList ++ [39]) := Lib.hid (by unfold showL; rw [if_pos rfl, if_pos h1])
    have hr := bt_range t 0
    have hx : ∀ h : 0 < t.size, ((t[0]'h).toNat : Int) = bt t 0 := bt_at t 0
    have q0 : (0 < t.size) = True := eq_true (by omega)
    have qi0 : (0 < (t.size : Int)) = True := eq_true (by omega)
    have g1 : ((t.size : Int) == 1) = true := beq_iff_eq.2 (by omega)
    have hez : (strOfNums (esc (bt t 0) 39)).size ≤ 4 := by
      rw [strOfNums_size]; unfold esc
      split
      · simp
      · split <;> simp
    clear h1
    go_enter Tryd.func20, Tryd.ntmps20
    go_wp2_with fail
    refine (Bld.writeByte (w.heap.size + 1) (w.heap.size + 1) [] 39 _ ?_ (by simp) ?_).mono ?_
    · have := Lib.fresh_isBuilder 71 5 (w.alloc (.cells #[.int .i64 4, .int .i64 a, .int .i64 b, .string t, .int .i64 n] 41))
      simpa using this
    · simp
    rintro e w1 ⟨rfl, hb1, hw1, ho1⟩
    have hk0 : ∀ o2 : Obj, ((w.alloc (.cells #[.int .i64 4, .int .i64 a, .int .i64 b, .string t, .int .i64 n] 41)).alloc o2).heap[w.heap.size]? = some (.cells #[.int .i64 4, .int .i64 a, .int .i64 b, .string t, .int .i64 n] 41) := fun o2 => by
      unfold World.alloc
      show (((w.heap.push _).push _))[w.heap.size]? = _
      rw [Array.getElem?_push, if_neg (by simp)]
      exact Array.getElem?_push_size
    have hk1 := (hw1.block w.heap.size (by simp)).trans (hk0 _)
    have hs1 := hb1.lt
    have c3 : w1.cell? ⟨w.heap.size, 3, none⟩ = some (.string t) := by unfold World.cell?; simp only [hk1]; rfl
    have hB1 : Below w.heap.size w w1 := ((((Below.refl w.heap.size w).alloc (Nat.le_refl _) _).alloc (by simp) _)).trans (hw1.mono (by simp))
    clear hw1 ho1 hk0
    go_wp2_with fail
    refine (esc_walk (bt t 0) 39 _ hr.1 hr.2).mono ?_
    rintro e w2 ⟨rfl, hb2⟩
    have hB2 := Bld.at_kept hb1 (fun j hj => hb2.block j hj)
    have hs2 := hB2.lt
    have hB3 := hB1.trans (hb2.mono (by omega))
    clear hB1 hb2 hb1 c3 hk1
    go_wp2_with fail
    refine (Bld.writeString (w.heap.size + 1) (w.heap.size + 1) _ _ _ (.inr hB2) ?_ ?_).mono ?_
    · simp only [List.length_append, List.length_cons, List.length_nil]; omega
    · omega
    rintro e w3 ⟨rfl, hb3, hw3, ho3⟩
    have hB4 := hB3.trans (hw3.mono (by omega))
    have hs3 := hb3.lt
    clear hB3 hw3 ho3 hB2
    go_wp2_with fail
    refine (Bld.writeByte (w.heap.size + 1) (w.heap.size + 1) _ 39 _ (.inr hb3) ?_ ?_).mono ?_
    · simp only [List.length_append, List.length_cons, List.length_nil, Lib.strCells_length]; omega
    · omega
    rintro e w4 ⟨rfl, hb4, hw4, ho4⟩
    have hB5 := hB4.trans (hw4.mono (by omega))
    have hs4 := hb4.lt
    have hb5 : Lib.BuilderAt 71 5 (w.heap.size + 1) (w.heap.size + 1) (.pointer (some ⟨w.heap.size + 1, 0, none⟩)) (Lib.byteCells (39 :: (strOfNums (esc (bt t 0) 39)).data.toList ++ [39])) w4 := by
      have e : Lib.byteCells (39 :: (strOfNums (esc (bt t 0) 39)).data.toList ++ [39]) = [] ++ [.int .u8 39] ++ Lib.strCells (strOfNums (esc (bt t 0) 39)) ++ [.int .u8 39] := by
        rw [Lib.strCells_eq, Lib.byteCells_append]; rfl
      rw [e]; exact hb4
    clear hB4 hw4 ho4 hb3 hb4
    go_wp2_with fail
    refine (Tryd.Builder_String_any (w.heap.size + 1) (w.heap.size + 1) _ _ (.inr hb5) (by omega)).mono ?_
    rintro e w5 ⟨rfl, hw5⟩
    go_wp2
    go_ret
    exact ⟨by rw [H.out]; rfl, hB5.trans (hw5.mono (by omega))⟩
  · have H : Hid (showL 4 t n = 39 :: [] ++ [39]) := Lib.hid (by unfold showL; rw [if_pos rfl, if_neg h1])
    have g1 : ((t.size : Int) == 1) = false := beq_eq_false_iff_ne.2 (by omega)
    clear h1
    go_enter Tryd.func20, Tryd.ntmps20
    go_wp2_with fail
    refine (Bld.writeByte (w.heap.size + 1) (w.heap.size + 1) [] 39 _ ?_ (by simp) ?_).mono ?_
    · have := Lib.fresh_isBuilder 71 5 (w.alloc (.cells #[.int .i64 4, .int .i64 a, .int .i64 b, .string t, .int .i64 n] 41))
      simpa using this
    · simp
    rintro e w1 ⟨rfl, hb1, hw1, ho1⟩
    have hk0 : ∀ o2 : Obj, ((w.alloc (.cells #[.int .i64 4, .int .i64 a, .int .i64 b, .string t, .int .i64 n] 41)).alloc o2).heap[w.heap.size]? = some (.cells #[.int .i64 4, .int .i64 a, .int .i64 b, .string t, .int .i64 n] 41) := fun o2 => by
      unfold World.alloc
      show (((w.heap.push _).push _))[w.heap.size]? = _
      rw [Array.getElem?_push, if_neg (by simp)]
      exact Array.getElem?_push_size
    have hk1 := (hw1.block w.heap.size (by simp)).trans (hk0 _)
    have hs1 := hb1.lt
    have c3 : w1.cell? ⟨w.heap.size, 3, none⟩ = some (.string t) := by unfold World.cell?; simp only [hk1]; rfl
    have hB1 : Below w.heap.size w w1 := ((((Below.refl w.heap.size w).alloc (Nat.le_refl _) _).alloc (by simp) _)).trans (hw1.mono (by simp))
    clear hw1 ho1 hk0 hk1
    go_wp2_with fail
    refine (Bld.writeByte (w.heap.size + 1) (w.heap.size + 1) _ 39 _ (.inr hb1) ?_ ?_).mono ?_
    · simp
    · omega
    rintro e w4 ⟨rfl, hb4, hw4, ho4⟩
    have hB5 := hB1.trans (hw4.mono (by omega))
    have hs4 := hb4.lt
    have hb5 : Lib.BuilderAt 71 5 (w.heap.size + 1) (w.heap.size + 1) (.pointer (some ⟨w.heap.size + 1, 0, none⟩)) (Lib.byteCells (39 :: [] ++ [39])) w4 := hb4
    clear hB1 hw4 ho4 hb1 hb4 c3
    go_wp2_with fail
    refine (Tryd.Builder_String_any (w.heap.size + 1) (w.heap.size + 1) _ _ (.inr hb5) (by omega)).mono ?_
    rintro e w5 ⟨rfl, hw5⟩
    go_wp2
    go_ret
    exact ⟨by rw [H.out]; rfl, hB5.trans (hw5.mono (by omega))⟩
theorem token_Show.calls (a0 a1 a2 : Int) (a3 : ByteArray) (a4 : Int) (r : ByteArray) (w : World) (h : token_Show.f a0 a1 a2 a3 a4 = some r) (hT : Hid (TabOK w)) :
    Calls Tryd.prog 20 #[.agg #[.int .i64 a0, .int .i64 a1, .int .i64 a2, .string a3, .int .i64 a4]] w fun e w' => e = .returned (.string r) ∧ Below w.heap.size w w' := by
  unfold token_Show.f at h
  split at h
  next hc =>
    obtain rfl := Option.some.inj h
    by_cases h4 : a0 = 4
    · subst h4; exact show_letter a1 a2 a4 a3 w
    by_cases h5 : a0 = 5
    · subst h5; exact show_text a1 a2 a4 a3 w hc.1
    by_cases h3 : a0 = 3
    · subst h3; exact show_number a1 a2 a4 a3 w hc.2.1 hc.2.2 hT
    exact show_plain a0 a1 a2 a4 a3 w h4 h5 h3
  next => cases h
/-- strings.Join of a row that was made. -/
theorem join_calls (B : Nat) (v : Value) (xs : List ByteArray) (sep : ByteArray) (w : World) (hown : w.ownsRow B 9 1 v xs.length (xs.map Value.string)) (hlen : (Lib.join (xs.map (·.data.toList)) sep.data.toList).length ≤ 140737488355328) (hN : xs.length ≤ 140737488355328) :
    Calls Tryd.prog 21 #[v, .string sep] w fun e w' => e = .returned (.string ⟨(Lib.join (xs.map (·.data.toList)) sep.data.toList).toArray⟩) ∧ Below w.heap.size w w' := by
  rcases hown.2 with ⟨rfl, h0⟩ | ⟨g, cap, cur, rfl, hb, hg, hn, hc, hsz, htake⟩
  · obtain rfl : xs = [] := List.eq_nil_of_length_eq_zero h0
    refine (Tryd.strings_Join_none none 0 sep w).mono ?_
    rintro e w' ⟨rfl, rfl⟩
    exact ⟨rfl, Below.refl _ _⟩
  · refine Tryd.strings_Join g 0 cap xs sep w ?_ (by rcases Nat.lt_or_ge g w.heap.size with h | h; exact h; rw [Array.getElem?_eq_none h] at hg; cases hg) hN hn hlen
    intro j x hx
    have hj : (xs.map Value.string)[j]? = some (.string x) := by rw [List.getElem?_map, hx]; rfl
    have := hown.cells (g := g) rfl j _ hj
    have e : (⟨g, 0, none⟩ : Addr).add j = ⟨g, 0 + j, none⟩ := by unfold Addr.add; split <;> simp_all
    rw [e] at this
    exact this
def showS (x : S41) : ByteArray := ⟨(showL x.f0 x.f3 x.f4).toArray⟩
def okS (x : S41) : Bool := decide (x.f3.size ≤ 1099511627776 ∧ -9223372036854775808 ≤ x.f4 ∧ x.f4 ≤ 9223372036854775807)
def joinL (l : List S41) : List UInt8 := Lib.join ((l.map showS).map (·.data.toList)) [32]
def token_Join.f (l0 : List S41) : Option ByteArray :=
  if l0.length ≤ 1000000 ∧ l0.all okS = true ∧ (joinL l0).length ≤ 140737488355328 then some ⟨(joinL l0).toArray⟩ else none
theorem info_parts9 : ∃ i, Tryd.prog.info? 9 = some i ∧ i.zero = some (.string ⟨#[]⟩) ∧ i.size = 1 ∧ i.bytes = 16 := by
  obtain ⟨i, hi, hz⟩ := Option.map_eq_some_iff.1 info9
  simp only [Prod.mk.injEq] at hz
  exact ⟨i, hi, hz.1, hz.2.1, hz.2.2⟩
set_option maxHeartbeats 4000000 in
set_option maxRecDepth 100000 in
theorem join_walk (A0 : Option Addr) (c0 : Nat) (l0 : List S41) (w : World) (hr0 : Kd.C k41 w A0 l0.length l0) (_hc0 : l0.length ≤ c0) (hl : l0.length ≤ 1000000) (hok : l0.all okS = true) (hj : (joinL l0).length ≤ 140737488355328) (hT : Hid (TabOK w)) :
    Calls Tryd.prog 13 #[.slice A0 l0.length c0] w fun e w' => e = .returned (.string ⟨(joinL l0).toArray⟩) ∧ Below w.heap.size w w' := by
  obtain ⟨i0, hi0, hz0, hz1, hz2⟩ := info_parts9
  have HR := Lib.hid hr0
  have HJ := Lib.hid hj
  have HO := Lib.hid hok
  clear hr0 hj hok
  go_enter Tryd.func13, Tryd.ntmps13
  go_wp2_with fail
  go_loopg [3, 8] l0.length (fun kq v3 v8 wr => ∃ k : Nat, v8 = .int .i64 k ∧ k ≤ l0.length ∧ kq = l0.length - k ∧ Hid (wr.ownsRow w.heap.size 9 1 v3 k ((l0.take k).map fun x => Value.string (showS x))) ∧ Hid (Below w.heap.size w wr))
  case atStart => exact ⟨0, rfl, Nat.zero_le _, rfl, Lib.hid (World.ownsRow_nil _ _ _ _), Lib.hid (Below.refl _ _)⟩
  case round =>
    obtain ⟨k, rfl, hk, hkq, HW, HB⟩ := hrel
    have hB0 : w.heap.size ≤ wr.heap.size := HB.out.size
    obtain ⟨A, cap, rfl⟩ : ∃ A c, u3 = .slice A k c := by
      rcases HW.out.2 with ⟨h, h0⟩ | ⟨g, cp, cur, h, _⟩
      · subst h0; exact ⟨_, _, h⟩
      · exact ⟨_, _, h⟩
    by_cases hlt : k < l0.length
    · have p1 : 0 ≤ (k : Int) := by omega
      have q1 : (k : Int) < (l0.length : Int) := by omega
      obtain ⟨ad, e0, x0, x1, x2, x3, x4⟩ := at_T41 HR.out (k : Int) p1 q1
      have hrd : rd_T41 l0 (k : Int) = l0[k] := by unfold rd_T41; simp [hlt]
      rw [hrd] at x0 x1 x2 x3 x4
      have hok1 : okS l0[k] = true := List.all_eq_true.1 HO.out _ (List.getElem_mem hlt)
      have htake : Hid ((l0.take (k + 1)).map (fun x => Value.string (showS x)) = (l0.take k).map (fun x => Value.string (showS x)) ++ [Value.string (showS l0[k])]) := Lib.hid (by
        rw [List.take_succ_eq_append_getElem hlt, List.map_append]; rfl)
      have hso : showS l0[k] = ⟨(showL l0[k].f0 l0[k].f3 l0[k].f4).toArray⟩ := rfl
      generalize l0[k] = x at x0 x1 x2 x3 x4 hok1 htake hso
      obtain ⟨y0, y1, y2, y3, y4⟩ := x
      simp only at x0 x1 x2 x3 x4 hso
      have hf : token_Show.f y0 y1 y2 y3 y4 = some (showS ⟨y0, y1, y2, y3, y4⟩) := by
        unfold token_Show.f
        have := of_decide_eq_true hok1
        simp only at this
        rw [if_pos this, hso]
      generalize showS ⟨y0, y1, y2, y3, y4⟩ = sx at hf htake
      have HF := Lib.hid hf
      clear hso hok1 hf hrd
      cases e0
      replace x0 := (HB.out.cell (World.block_lt_of_cell? w _ x0)).trans x0
      replace x1 := (HB.out.cell (World.block_lt_of_cell? w _ x1)).trans x1
      replace x2 := (HB.out.cell (World.block_lt_of_cell? w _ x2)).trans x2
      replace x3 := (HB.out.cell (World.block_lt_of_cell? w _ x3)).trans x3
      replace x4 := (HB.out.cell (World.block_lt_of_cell? w _ x4)).trans x4
      rw [Int.toNat_natCast] at x0 x1 x2 x3 x4
      have hwr := HB.out.size
      go_wp2_with fail
      refine (token_Show.calls y0 y1 y2 y3 y4 sx _ HF.out (Lib.hid (TabOK.below hT.out (HB.out.alloc (by omega) _)))).mono ?_
      rintro e w2 ⟨rfl, hb2⟩
      have hown2 := (HW.out.alloc (.cells #[.int .i64 y0, .int .i64 y1, .int .i64 y2, .string y3, .int .i64 y4] 41)).kept (row := none) ⟨hb2.os, hb2.tape, hb2.output, hb2.size, fun k hk _ => hb2.block k hk⟩ (Decidable.em _)
      have hs2 : wr.heap.size + 1 ≤ w2.heap.size := by have := hb2.size; simpa using this
      have HB2 := Lib.hid ((HB.out.alloc (by omega) (.cells #[.int .i64 y0, .int .i64 y1, .int .i64 y2, .string y3, .int .i64 y4] 41)).trans (hb2.mono (by simp; omega)))
      clear hb2 x0 x1 x2 x3 x4
      go_wp2_with (at_builtin; refine wpList_append_own _ rfl _ _ 58 rfl w.heap.size 9 i0 (.string ⟨#[]⟩) 1 16 Tryd.underlying58 hi0 hz0 hz1 hz2 rfl (by decide) _ _ _ rfl (hown2.alloc _) ⟨w2.heap.size, 0, none⟩ 1 1 [.string sx] rfl rfl ?c1 ?c2 ?c3 ?c4 ?c5 ?_)
      case c1 =>
        intro j u hj
        match j, hj with
        | 0, hj => simp at hj; subst hj; simp [Addr.add]
      case c2 => intro u hu; simp at hu; subst hu; rfl
      case c3 => unfold maxLen; omega
      case c4 => omega
      case c5 => simp; omega
      intro v' w3 hown' hgrow _
      have hrow : ∀ g, (Value.slice A k cap).ownBlock = some g → w.heap.size ≤ g := fun g hg => (hown2.lt g hg).1
      have HB3 := Lib.hid ((HB2.out.alloc (by omega) _).grown hgrow (by simp; omega) hrow)
      have HO3 := Lib.hid hown'
      clear hown' hgrow hown2
      go_wp2_with fail
      go_roundg (l0.length - (k + 1))
      case measure => omega
      case rel => exact ⟨k + 1, by go_num, by omega, rfl, Lib.hid (by rw [htake.out, List.map_take]; exact HO3.out), HB3⟩
    · obtain rfl : k = l0.length := by omega
      have hj := HW.out
      rw [List.take_of_length_le (Nat.le_refl _)] at hj
      have hm : (l0.map fun x => Value.string (showS x)) = (l0.map showS).map Value.string := by rw [List.map_map]; rfl
      rw [hm] at hj
      have hcall := join_calls w.heap.size (.slice A l0.length cap) (l0.map showS) ⟨#[32]⟩ wr (by rw [List.length_map]; exact hj) HJ.out (by rw [List.length_map]; omega)
      have HC := Lib.hid hcall
      clear hcall hj hm
      have e3 : ¬ (l0.length : Int) < (l0.length : Int) := by omega
      go_wp2_with fail
      refine HC.out.mono ?_
      rintro e w2 ⟨rfl, hb2⟩
      go_wp2
      go_ret
      refine ⟨?_, HB.out.trans (hb2.mono (by omega))⟩
      unfold joinL
      rw [List.map_map]
      rfl
theorem token_Join.calls (A0 : Option Addr) (c0 : Nat) (l0 : List S41) (r : ByteArray) (w : World) (hr0 : Kd.C k41 w A0 l0.length l0) (hc0 : l0.length ≤ c0) (h : token_Join.f l0 = some r) (hT : Hid (TabOK w)) :
    Calls Tryd.prog 13 #[.slice A0 l0.length c0] w fun e w' => e = .returned (.string r) ∧ Below w.heap.size w w' := by
  unfold token_Join.f at h
  split at h
  next hc =>
    obtain rfl := Option.some.inj h
    exact join_walk A0 c0 l0 w hr0 hc0 hc.1 hc.2.1 hc.2.2 hT
  next => cases h
end Go.Proofs.YtiioanpmfpefcaaDoor.P
