/- report.Fault, in the form that the print calls its functions by. -/
import Derived.Test.YtfnidapliohdjaaDoorPx1
import Derived.Test.YtfnidapliohdjaaDoorWhere
import Derived.Deep.RegionWith
import Derived.Lib.LaidTab
import Derived.Lib.AppendIntMem
import Derived.Deep.DeepCutAuto
import Derived.IntWalk
namespace Go.Proofs.YtfnidapliohdjaaDoor.P
open Go.RowKit Go.Proofs.YtfnidapliohdjaaDoorW.PrintWords
/-- The numbers' writer's table stands. -/
def TabOK (w : World) : Prop := Lib.TabIs Tryd.prog w "internal/strconv.uint64pow10" .u64 Lib.pow10Tab
theorem TabOK.below {w w' : World} (h : TabOK w) (hk : Below w.heap.size w w') : TabOK w' := by
  unfold TabOK Lib.TabIs World.var? at *
  have hg : Tryd.prog.globalNamed "internal/strconv.uint64pow10" = some 3 := by kernel_rfl
  rw [hg] at h ⊢
  simp only [Option.bind_some] at h ⊢
  have hl : 3 < w.heap.size := by
    rcases Nat.lt_or_ge 3 w.heap.size with h' | h'
    · exact h'
    · rw [Array.getElem?_eq_none h'] at h; cases h
  rw [hk.block 3 hl]
  exact h
/-- The fault's block; the table; what lay there ahead of the call. -/
def Fb (w0 : World) (a e0 : Int) (W : World) : Prop := W.heap[w0.heap.size]? = some (.cells #[.int .i64 a, .int .i64 e0] 29 (0, 0)) ∧ TabOK W ∧ Below w0.heap.size w0 W
theorem Fb.c1 {w0 : World} {a e0 : Int} {W : World} (h : Fb w0 a e0 W) : W.cell? ⟨w0.heap.size, 1, none⟩ = some (.int .i64 e0) := by simp [World.cell?, h.1]
theorem Fb.below {w0 : World} {a e0 : Int} {W W' : World} (h : Fb w0 a e0 W) (hB : Below W.heap.size W W') : Fb w0 a e0 W' :=
  ⟨(hB.block w0.heap.size (by
    rcases Nat.lt_or_ge w0.heap.size W.heap.size with h' | h'
    · exact h'
    · have := h.1; rw [Array.getElem?_eq_none h'] at this; cases this)).trans h.1, h.2.1.below hB, h.2.2.trans (hB.mono h.2.2.size)⟩
def itB (n : Int) : ByteArray := ⟨(Lib.itoa n).toArray⟩
theorem itoaF (w0 : World) (a e0 n : Int) (h0 : -9223372036854775808 ≤ n) (h1 : n ≤ 9223372036854775807) (W : World) (hF : Fb w0 a e0 W) :
    Calls Tryd.prog 17 #[.int .i64 n] W fun e w' => e = .returned (.string (itB n)) ∧ Fb w0 a e0 w' :=
  (Tryd.strconv_Itoa n h0 h1 W hF.2.1).mono fun e w' ⟨he, nd, os, hw⟩ => by
    have hB : Below W.heap.size W w' := by rw [hw]; exact Lib.below_grow _ _ (Nat.le_refl _) _ _
    exact ⟨he, hF.below hB⟩
theorem wordF (w0 : World) (a e0 : Int) (m : ByteArray) (hm : report_Word.f e0 = some m) (W : World) (hF : Fb w0 a e0 W) :
    Calls Tryd.prog 10 #[.int .i64 e0] W fun e w' => e = .returned (.string m) ∧ Fb w0 a e0 w' :=
  (report_Word.calls e0 m W hm).mono fun e w' ⟨he, hd⟩ => by
    obtain ⟨nd, rfl⟩ := hd
    have hB : Below W.heap.size W (W.drewN nd) := Drawn0.below ⟨_, rfl⟩
    exact ⟨he, hF.below hB⟩
theorem heap_new (W : World) (o : Obj) : (W.alloc o).heap[W.heap.size]? = some o := by unfold World.alloc; exact Array.getElem?_push_size
/-- strings.Join of a row that was just made. -/
theorem joinF (w0 : World) (a e0 : Int) (xs : List ByteArray) (sep : ByteArray) (W : World) (hF : Fb w0 a e0 W) (hn : xs.length ≤ 100) (hlen : (Lib.join (xs.map (·.data.toList)) sep.data.toList).length ≤ 140737488355328) :
    Calls Tryd.prog 16 #[.slice (some ⟨W.heap.size, 0, none⟩) xs.length xs.length, .string sep] (W.alloc (.cells (xs.map Value.string).toArray 9)) fun e w' => e = .returned (.string ⟨(Lib.join (xs.map (·.data.toList)) sep.data.toList).toArray⟩) ∧ Fb w0 a e0 w' :=
  (Tryd.strings_Join W.heap.size 0 xs.length xs sep _ (fun j x hx => by
    have := heap_new W (.cells (xs.map Value.string).toArray 9)
    unfold World.cell?
    simp only [this, Nat.zero_add]
    simp [hx]) (by simp) (by omega) (Nat.le_refl _) hlen).mono fun e w' ⟨he, hB⟩ => by
    have hB' : Below W.heap.size W w' := ((Below.refl _ _).alloc (Nat.le_refl _) _).trans (hB.mono (by simp))
    exact ⟨he, hF.below hB'⟩
def shownB (c : UInt8) : UInt8 := if c = 9 then 9 else if c < 32 ∨ 126 < c then 63 else c
def underB (c : UInt8) : UInt8 := if c = 9 then 9 else 32
theorem shown_fin : ∀ c : Fin 256, report_shown.f (c.val : Int) = some (((shownB (UInt8.ofNat c.val)).toNat : Nat) : Int) := by decide +kernel
theorem under_fin : ∀ c : Fin 256, report_under.f (c.val : Int) = some (((underB (UInt8.ofNat c.val)).toNat : Nat) : Int) := by decide +kernel
theorem shown_calls (c : UInt8) (W : World) : Calls Tryd.prog 19 #[.int .u8 c.toNat] W fun e w' => e = .returned (.int .u8 ((shownB c).toNat : Int)) ∧ Drawn0 W w' :=
  report_shown.calls _ _ W (by have := shown_fin ⟨c.toNat, c.toNat_lt⟩; simpa using this)
theorem under_calls (c : UInt8) (W : World) : Calls Tryd.prog 20 #[.int .u8 c.toNat] W fun e w' => e = .returned (.int .u8 ((underB c).toNat : Int)) ∧ Drawn0 W w' :=
  report_under.calls _ _ W (by have := under_fin ⟨c.toNat, c.toNat_lt⟩; simpa using this)
def mapB (g : UInt8 → UInt8) (s : ByteArray) : ByteArray := ⟨(s.data.toList.map g).toArray⟩
theorem mapB_size (g : UInt8 → UInt8) (s : ByteArray) : (mapB g s).size = s.size := by
  unfold mapB ByteArray.size; simp
theorem shownF (w0 : World) (a e0 : Int) (s : ByteArray) (hs : s.size ≤ 1099511627776) (W : World) (hF : Fb w0 a e0 W) :
    Calls Tryd.prog 18 #[.string s, .func (.func 19) #[] #[]] W fun e w' => e = .returned (.string (mapB shownB s)) ∧ Fb w0 a e0 w' :=
  (each_walk 19 shownB (enters_of Tryd.func19 (by kernel_rfl) rfl) shown_calls s W hs).mono fun e w' ⟨he, hB⟩ => ⟨he, hF.below hB⟩
theorem underF (w0 : World) (a e0 : Int) (s : ByteArray) (hs : s.size ≤ 1099511627776) (W : World) (hF : Fb w0 a e0 W) :
    Calls Tryd.prog 18 #[.string s, .func (.func 20) #[] #[]] W fun e w' => e = .returned (.string (mapB underB s)) ∧ Fb w0 a e0 w' :=
  (each_walk 20 underB (enters_of Tryd.func20 (by kernel_rfl) rfl) under_calls s W hs).mono fun e w' ⟨he, hB⟩ => ⟨he, hF.below hB⟩
set_option maxHeartbeats 4000000 in
set_option maxRecDepth 100000 in
theorem fault_ok (s : ByteArray) (at_ : Int) (w : World) :
    Calls Tryd.prog 8 #[.string s, .agg #[.int .i64 at_, .int .i64 0]] w fun e w' => e = .returned (.string ⟨#[]⟩) ∧ Below w.heap.size w w' := by
  go_enter Tryd.func8, Tryd.ntmps8
  go_wp2
  go_ret
  exact ⟨rfl, (Below.refl _ _).alloc (Nat.le_refl _) _⟩
set_option maxHeartbeats 4000000 in
set_option maxRecDepth 100000 in
theorem fault_out (s : ByteArray) (at_ e0 : Int) (m : ByteArray) (w : World) (he : e0 ≠ 0) (ho : at_ < 0 ∨ (s.size : Int) < at_) (hm : report_Word.f e0 = some m) (hz : m.size ≤ 100) :
    Calls Tryd.prog 8 #[.string s, .agg #[.int .i64 at_, .int .i64 e0]] w fun e w' => e = .returned (.string (m ++ ⟨#[10]⟩)) ∧ Below w.heap.size w w' := by
  have g1 : (e0 == 0) = false := beq_eq_false_iff_ne.2 he
  have HM := Lib.hid hm
  have hz1 : (9223372036854775807 < m.size + 1) = False := eq_false (by omega)
  clear hm he
  rcases ho with h | h
  · go_enter Tryd.func8, Tryd.ntmps8
    go_wp2_with (go_at_call 10; refine (report_Word.calls e0 m _ HM.out).mono ?_; rintro e w1 ⟨rfl, ⟨nd, rfl⟩⟩)
    go_ret
    exact ⟨rfl, ((Below.refl _ _).alloc (Nat.le_refl _) _).trans (Drawn0.below ⟨_, rfl⟩ |> fun x => x.mono (by simp))⟩
  · by_cases h0 : at_ < 0
    · omega
    · go_enter Tryd.func8, Tryd.ntmps8
      go_wp2_with (go_at_call 10; refine (report_Word.calls e0 m _ HM.out).mono ?_; rintro e w1 ⟨rfl, ⟨nd, rfl⟩⟩)
      go_ret
      exact ⟨rfl, ((Below.refl _ _).alloc (Nat.le_refl _) _).trans (Drawn0.below ⟨_, rfl⟩ |> fun x => x.mono (by simp))⟩
def tCom : ByteArray := ⟨#[44, 32, 99, 111, 108, 117, 109, 110, 32]⟩
def tLin : ByteArray := ⟨#[108, 105, 110, 101, 32]⟩
def tCol2 : ByteArray := ⟨#[58, 32]⟩
def headB (l c : Int) (m : ByteArray) : ByteArray := ⟨(Lib.join ([(⟨#[108, 105, 110, 101, 32]⟩ : ByteArray), itB l, ⟨#[44, 32, 99, 111, 108, 117, 109, 110, 32]⟩, itB c, ⟨#[58, 32]⟩, m].map (·.data.toList)) []).toArray⟩
def textB (l c : Int) (m ln : ByteArray) : ByteArray := ⟨(Lib.join ([headB l c m, mapB shownB ln, mapB underB (ln.extract 0 (c.toNat - 1)) ++ ⟨#[94]⟩, ⟨#[]⟩].map (·.data.toList)) [10]).toArray⟩
theorem headF (w0 : World) (a e0 : Int) (l c : Int) (m : ByteArray) (hj : (headB l c m).size ≤ 140737488355328) (W : World) (hF : Fb w0 a e0 W) :
    Calls Tryd.prog 16 #[.slice (some ⟨W.heap.size, 0, none⟩) 6 6, .string ⟨#[]⟩] (W.alloc (.cells #[.string ⟨#[108, 105, 110, 101, 32]⟩, .string (itB l), .string ⟨#[44, 32, 99, 111, 108, 117, 109, 110, 32]⟩, .string (itB c), .string ⟨#[58, 32]⟩, .string m] 9)) fun e w' => e = .returned (.string (headB l c m)) ∧ Fb w0 a e0 w' :=
  joinF w0 a e0 [⟨#[108, 105, 110, 101, 32]⟩, itB l, ⟨#[44, 32, 99, 111, 108, 117, 109, 110, 32]⟩, itB c, ⟨#[58, 32]⟩, m] ⟨#[]⟩ W hF (by simp) hj
theorem textB_size (l c : Int) (m ln : ByteArray) : (textB l c m ln).size = (Lib.join ([headB l c m, mapB shownB ln, mapB underB (ln.extract 0 (c.toNat - 1)) ++ ⟨#[94]⟩, ⟨#[]⟩].map (·.data.toList)) (⟨#[10]⟩ : ByteArray).data.toList).length := rfl
theorem textB_eq (l c : Int) (m ln : ByteArray) : textB l c m ln = ⟨(Lib.join ([headB l c m, mapB shownB ln, mapB underB (ln.extract 0 (c.toNat - 1)) ++ ⟨#[94]⟩, ⟨#[]⟩].map (·.data.toList)) (⟨#[10]⟩ : ByteArray).data.toList).toArray⟩ := rfl
theorem textF (w0 : World) (a e0 : Int) (l c : Int) (m ln : ByteArray) (hj : (textB l c m ln).size ≤ 140737488355328) (W : World) (hF : Fb w0 a e0 W) :
    Calls Tryd.prog 16 #[.slice (some ⟨W.heap.size, 0, none⟩) 4 4, .string ⟨#[10]⟩] (W.alloc (.cells #[.string (headB l c m), .string (mapB shownB ln), .string (mapB underB (ln.extract 0 (c.toNat - 1)) ++ ⟨#[94]⟩), .string ⟨#[]⟩] 9)) fun e w' => e = .returned (.string (textB l c m ln)) ∧ Fb w0 a e0 w' := by
  have H := joinF w0 a e0 [headB l c m, mapB shownB ln, mapB underB (ln.extract 0 (c.toNat - 1)) ++ ⟨#[94]⟩, ⟨#[]⟩] ⟨#[10]⟩ W hF (by simp) (by rw [textB_size] at hj; exact hj)
  rw [← textB_eq] at H
  exact H
set_option maxHeartbeats 4000000 in
set_option maxRecDepth 100000 in
theorem fault_in (s : ByteArray) (at_ e0 : Int) (m ln : ByteArray) (l c : Int) (is : Bool) (k : Nat) (w : World) (he : e0 ≠ 0) (h0 : 0 ≤ at_) (h1 : at_ ≤ (s.size : Int)) (hm : report_Word.f e0 = some m)
    (hp : glyph_Place.f k s at_ = some (l, c)) (hln : glyph_Line.f k s l = some (ln, is)) (hT : TabOK w)
    (hl : -9223372036854775808 ≤ l ∧ l ≤ 9223372036854775807 ∧ -9223372036854775808 ≤ c ∧ c ≤ 9223372036854775807) (hc1 : 1 ≤ c) (hc2 : c - 1 ≤ ln.size) (hsz : ln.size ≤ 1099511627776)
    (hj1 : (headB l c m).size ≤ 1099511627776) (hj2 : (textB l c m ln).size ≤ 1099511627776) :
    Calls Tryd.prog 8 #[.string s, .agg #[.int .i64 at_, .int .i64 e0]] w fun e w' => e = .returned (.string (textB l c m ln)) ∧ Below w.heap.size w w' := by
  have g1 : (e0 == 0) = false := beq_eq_false_iff_ne.2 he
  have HM := Lib.hid hm
  have HP := Lib.hid hp
  have HL := Lib.hid hln
  have HT := Lib.hid hT
  have HJ1 := Lib.hid (headF w at_ e0 l c m (by omega))
  have HJ2 := Lib.hid (textF w at_ e0 l c m ln (by omega))
  have hl1 := hl.1
  have hl2 := hl.2.1
  have hl3 := hl.2.2.2
  clear hm he hp hln hT hj1 hj2
  go_enter Tryd.func8, Tryd.ntmps8
  go_upto_region 7 with (first | (go_at_call 9; refine (glyph_Place.calls k s at_ l c _ HP.out).mono ?_; rintro e w1 ⟨rfl, ⟨nd, rfl⟩⟩) | (go_at_call 15; refine (glyph_Line.calls k s l ln is _ HL.out).mono ?_; rintro e w1 ⟨rfl, ⟨nd2, rfl⟩⟩))
  have hB0 : Below w.heap.size w (((w.alloc (.cells #[.int .i64 at_, .int .i64 e0] 29)).drewN (nd + nd2))) := ((Below.refl _ _).alloc (Nat.le_refl _) _).trans (Drawn0.below ⟨_, rfl⟩ |> fun x => x.mono (by simp))
  have hF0 : Fb w at_ e0 (((w.alloc (.cells #[.int .i64 at_, .int .i64 e0] 29)).drewN (nd + nd2))) := ⟨heap_new w _, HT.out.below hB0, hB0⟩
  clear hB0
  generalize (w.alloc (.cells #[.int .i64 at_, .int .i64 e0] 29)).drewN (nd + nd2) = W0 at hF0 ⊢
  go_cut [9] (fun s9 wx => s9 = .string (headB l c m) ∧ Hid (Fb w at_ e0 wx))
  case first =>
    have hF1 : Fb w at_ e0 W0.drew := hF0.below ((Below.refl _ _).drew)
    have k1 := hF1.c1
    clear hF0
    go_region_with (first | (go_at_call 17; first | (refine (itoaF w at_ e0 l hl.1 hl.2.1 _ (by assumption)).mono ?_; rintro e w1 ⟨rfl, hF2⟩; have k2 := hF2.c1) | (refine (itoaF w at_ e0 c hl.2.2.1 hl.2.2.2 _ (by assumption)).mono ?_; rintro e w1 ⟨rfl, hF2⟩; have k2 := hF2.c1)) | (go_at_call 10; refine (wordF w at_ e0 m HM.out _ (by assumption)).mono ?_; rintro e w1 ⟨rfl, hF2⟩; have k2 := hF2.c1) | (go_at_call 16; refine (HJ1.out _ (by assumption)).mono ?_; rintro e w1 ⟨rfl, hF2⟩))
    all_goals (go_wp2_with fail; go_meet; exact ⟨rfl, Lib.hid (by assumption)⟩)
  case rest =>
    obtain ⟨rfl, hF⟩ := hcut
    go_wp2_with fail
    have hF1 : Fb w at_ e0 wc.drew := hF.out.below ((Below.refl _ _).drew)
    clear hF
    have hx1 : (ln.extract 0 (c.toNat - 1)).size ≤ 1099511627776 := by rw [ByteArray.size_extract]; omega
    have hx2 : (9223372036854775807 < (mapB underB (ln.extract 0 (c.toNat - 1))).size + 1) = False := by
      rw [mapB_size]; exact eq_false (by omega)
    have b1 : (0 : Int) ≤ c - 1 := by omega
    have b2 : IntKind.i64.wrap (c - 1) = c - 1 := IntWalk.i64_in _ (by omega)
    go_region_with (first | (go_at_call_of 18 (Value.string ln); refine (shownF w at_ e0 ln hsz _ (by assumption)).mono ?_; rintro e w1 ⟨rfl, hF2⟩) | (go_at_call 18; refine (underF w at_ e0 (ln.extract 0 (c.toNat - 1)) hx1 _ (by assumption)).mono ?_; rintro e w1 ⟨rfl, hF2⟩) | (go_at_call 16; refine (HJ2.out _ (by assumption)).mono ?_; rintro e w1 ⟨rfl, hF2⟩))
    all_goals (go_wp2_with fail; go_ret; exact ⟨rfl, hF2.2.2⟩)
/-- The variables that stand as the program's text lays them. -/
def GT (w : World) : Prop := GOK w ∧ TabOK w
theorem GT.below {w w' : World} (h : GT w) (hk : Below w.heap.size w w') : GT w' := ⟨h.1.below hk, h.2.below hk⟩
def faultIn (k : Nat) (a0 : ByteArray) (a1 : Int) (m : ByteArray) : Option ByteArray :=
  match glyph_Place.f k a0 a1 with
  | none => none
  | some (l, c) =>
    match glyph_Line.f k a0 l with
    | none => none
    | some (ln, _) => if (-9223372036854775808 ≤ l ∧ l ≤ 9223372036854775807 ∧ -9223372036854775808 ≤ c ∧ c ≤ 9223372036854775807) ∧ 1 ≤ c ∧ c - 1 ≤ ln.size ∧ ln.size ≤ 1099511627776 ∧ (headB l c m).size ≤ 1099511627776 ∧ (textB l c m ln).size ≤ 1099511627776 then some (textB l c m ln) else none
def report_Fault.f (a0 : ByteArray) (a1 a2 : Int) : Option ByteArray :=
  if a2 = 0 then some ⟨#[]⟩
  else match report_Word.f a2 with
    | none => none
    | some m => if m.size ≤ 100 then (if a1 < 0 ∨ (a0.size : Int) < a1 then some (m ++ ⟨#[10]⟩) else faultIn (a0.size + 10) a0 a1 m) else none
theorem report_Fault.calls (a0 : ByteArray) (a1 a2 : Int) (r : ByteArray) (w : World) (h : report_Fault.f a0 a1 a2 = some r) (hG : Hid (GT w)) :
    Calls Tryd.prog 8 #[.string a0, .agg #[.int .i64 a1, .int .i64 a2]] w fun e w' => e = .returned (.string r) ∧ Below w.heap.size w w' := by
  unfold report_Fault.f at h
  by_cases h2 : a2 = 0
  · subst h2
    rw [if_pos rfl] at h
    obtain rfl := Option.some.inj h
    exact fault_ok a0 a1 w
  · rw [if_neg h2] at h
    cases hm : report_Word.f a2 with
    | none => rw [hm] at h; cases h
    | some m =>
      rw [hm] at h
      simp only at h
      split at h
      next hz =>
        split at h
        next ho =>
          obtain rfl := Option.some.inj h
          exact fault_out a0 a1 a2 m w h2 ho hm hz
        next ho =>
          unfold faultIn at h
          cases hp : glyph_Place.f (a0.size + 10) a0 a1 with
          | none => rw [hp] at h; cases h
          | some lc =>
            obtain ⟨l, c⟩ := lc
            rw [hp] at h
            simp only at h
            cases hln : glyph_Line.f (a0.size + 10) a0 l with
            | none => rw [hln] at h; cases h
            | some li =>
              obtain ⟨ln, is⟩ := li
              rw [hln] at h
              simp only at h
              split at h
              next hc =>
                obtain rfl := Option.some.inj h
                obtain ⟨c1, c2, c3, c4, c5, c6⟩ := hc
                exact fault_in a0 a1 a2 m ln l c is _ w h2 (by omega) (by omega) hm hp hln hG.out.2 c1 c2 c3 c4 c5 c6
              next => cases h
      next => cases h
theorem report_Where.calls (a0 : ByteArray) (r1 r2 : Int) (r3 : Bool) (w : World) (h : report_Where.f a0 = some (r1, r2, r3)) (hG : Hid (GT w)) :
    Calls Tryd.prog 6 #[.string a0] w fun e w' => e = .returned (.tuple #[.int .i64 r1, .int .i64 r2, .bool r3]) ∧ Below w.heap.size w w' :=
  report_Where.callsG a0 r1 r2 r3 w h (Lib.hid hG.out.1)
end Go.Proofs.YtfnidapliohdjaaDoor.P
