/- A whole row of the reference's types behind a row of one's own. -/
import Derived.Test.YtddmdiaopaoekaaDoorLaA
import Derived.Test.YtddmdiaopaoekaaDoorPlG
import Derived.Laws.AppendOwnNone
import Derived.Test.YtddmdiaopaoekaaDoorOpn
import Derived.Deep.DeepCutAuto
import Derived.Deep.CutBlock
import Derived.Deep.RegionWith
namespace Go.Proofs.YtddmdiaopaoekaaDoor.P
open Go.RowKit Go.Proofs.YtddmdiaopaoekaaDoorW.PrintWords Go.Proofs.YtddmdiaopaoekaaDoorW.PrintLast Go.Proofs.YtddmdiaopaoekaaDoor.Rw
set_option linter.unusedVariables false
theorem reps_app {α : Type} {R : α → List Value → Prop} {size : Nat} {xs ys : List α} {cs ds : List Value} (h : Reps R size xs cs) (k : Reps R size ys ds) : Reps R size (xs ++ ys) (cs ++ ds) := by
  refine ⟨by rw [List.length_append, h.1, k.1, List.length_append, Nat.add_mul], fun j p hj => ?_⟩
  rcases Nat.lt_or_ge j xs.length with hl | hl
  · rw [List.getElem?_append_left hl] at hj
    have h1 := h.2 j p hj
    have h2 : j * size + size ≤ cs.length := by rw [h.1, ← Nat.succ_mul]; exact Nat.mul_le_mul_right _ hl
    rw [List.drop_append_of_le_length (by omega), List.take_append_of_le_length (by rw [List.length_drop]; omega)]
    exact h1
  · rw [List.getElem?_append_right hl] at hj
    have h1 := k.2 (j - xs.length) p hj
    have h2 : j * size = cs.length + (j - xs.length) * size := by rw [h.1, ← Nat.add_mul]; congr 1; omega
    rw [h2, ← List.drop_drop, List.drop_left]
    exact h1
theorem reps_one24 {W : World} {xs : List S24} {cells : List Value} (h : Reps (k24.K W) 4 xs cells) : ∀ u ∈ cells, u.oneCell' = true := by
  intro u hu
  obtain ⟨q, hq, rfl⟩ := List.mem_iff_getElem.1 hu
  have hql : q / 4 < xs.length := by
    rw [Nat.div_lt_iff_lt_mul (by omega)]
    rw [← h.1]
    exact hq
  have hc := h.2 (q / 4) _ (List.getElem?_eq_getElem hql)
  refine k24.K_one hc _ ?_
  rw [List.mem_iff_getElem?]
  refine ⟨q % 4, ?_⟩
  rw [List.getElem?_take, if_pos (Nat.mod_lt _ (by omega)), List.getElem?_drop, Nat.mul_comm, Nat.div_add_mod, List.getElem?_eq_getElem hq]

set_option maxRecDepth 100000 in
theorem wpList_append24 {w0 w : World} {ops : Array Oper} {rest : List Oper} {o : Oper} {a : Act} {Q : Exit → Act → World → Prop} (hgd : o.guard = none) (s x : Operand)
    (ho : o.op = .call { callee := .builtin .append, args := #[s, x], argTypes := #[22, 22] })
    (v : Value) (xs ys : List S24) (cells : List Value) (hs : a.eval s = v) (hown : w.ownsRow w0.heap.size 24 4 v xs.length cells) (hx : Reps (k24.K w0) 4 xs cells)
    (A : Option Addr) (c : Nat) (he : a.eval x = .slice A ys.length c) (hA : A = none → c = 0) (hC : k24.C w0 A ys.length ys) (hB : Below w0.heap.size w0 w) (hsz : (xs.length + ys.length) * 56 ≤ 140737488355328)
    (h : ∀ v' w' cells', w'.ownsRow w0.heap.size 24 4 v' (xs ++ ys).length cells' → Reps (k24.K w0) 4 (xs ++ ys) cells' → Below w0.heap.size w0 w' → w.grownBy w' v.ownBlock → wpList Tryd.prog ops Q rest (a.put o.dst v') w') :
    wpList Tryd.prog ops Q (o :: rest) a w := by
  obtain ⟨i0, hi, hz0, hz1, hz2⟩ := info_parts info24
  cases A with
  | none =>
    have hl : ys.length = 0 := by
      rcases Nat.eq_zero_or_pos ys.length with h1 | h1
      · exact h1
      · obtain ⟨ad, h2, _⟩ := hC.2.2 h1
        cases h2
    obtain rfl : ys = [] := List.length_eq_zero_iff.1 hl
    obtain rfl := hA rfl
    refine wpList_append_own_none hgd s x _ ho w0.heap.size 24 i0 4 Tryd.underlying22 hi v xs.length cells hs hown he ?_
    exact h v w cells (by simpa using hown) (by simpa using hx) hB ⟨rfl, rfl, rfl, Nat.le_refl _, fun _ _ _ => rfl⟩
  | some ad =>
    obtain ⟨news, hr, hcell0⟩ := ReadsRow.inner_ hC
    have hcell : ∀ j u, news[j]? = some u → w.cell? (ad.add j) = some u := fun j u h => pw_cell_below hB (hcell0 j u h)
    refine wpList_append_own_at w hgd s x _ ho w0.heap.size 24 i0 (.agg #[.int .i64 0, .int .i64 0, .string ⟨#[]⟩, .slice none 0 0]) 4 56 Tryd.underlying22 hi hz0 hz1 hz2 (by rfl) (by omega) v xs.length cells hs hown ad ys.length c news he hr.1 hcell (reps_one24 hr) (by unfold maxLen; omega) hsz hB.size ?_
    intro v' w' hown' hgrow _ _
    refine h v' w' (cells ++ news) (by rw [List.length_append]; exact hown') (reps_app hx hr) (hB.grown hgrow hB.size (fun k hk => own_base hown k hk)) hgrow
/-- One block that stays, and all that lies below. -/
def Fq (Wq : World) (q : Nat) (o : Obj) (wx : World) : Prop := Below Wq.heap.size Wq wx ∧ q < Wq.heap.size ∧ wx.heap[q]? = some o
theorem Fq.up {Wq W W' : World} {q : Nat} {o : Obj} (h : Fq Wq q o W) (hb : Below W.heap.size W W') : Fq Wq q o W' := ⟨bel2 h.1 hb, h.2.1, (hb.block q (Array.getElem?_eq_some_iff.1 h.2.2).1).trans h.2.2⟩
theorem Fq.al {Wq W : World} {q : Nat} {o : Obj} (h : Fq Wq q o W) (o' : Obj) : Fq Wq q o (W.alloc o') := h.up ((Below.refl _ _).alloc (Nat.le_refl _) _)
theorem Fq.dr {Wq W : World} {q : Nat} {o : Obj} (h : Fq Wq q o W) : Fq Wq q o W.drew := h.up ((Below.refl _ _).drew)
/-- A box with a type in it. -/
def BoxT (W0 : World) (r : S31) (s : Value) (wx : World) : Prop := ∃ b A c, s = .pointer (some ⟨b, 0, none⟩) ∧ W0.heap.size ≤ b ∧ wx.heap[b]? = some (.cells #[.int .i64 r.f0, .int .i64 r.f1, .string r.f2, .slice A r.f3.length c] 31 (0, 0)) ∧ r.f3.length ≤ c ∧ k31.C wx A r.f3.length r.f3
theorem box_new {W0 w : World} {r : S31} {A : Option Addr} {c : Nat} (hb : W0.heap.size ≤ w.heap.size) (hl : r.f3.length ≤ c) (hC : k31.C w A r.f3.length r.f3) : BoxT W0 r (.pointer (some ⟨w.heap.size, 0, none⟩)) (w.alloc (.cells #[.int .i64 r.f0, .int .i64 r.f1, .string r.f2, .slice A r.f3.length c] 31)) :=
  ⟨_, A, c, rfl, hb, heap_new w _, hl, c_below hC ((Below.refl _ _).alloc (Nat.le_refl _) _)⟩
/-- No kind is nought. -/
def nzN : Nat → S31 → Prop
  | 0, _ => False
  | n + 1, x => x.f0 ≠ 0 ∧ ∀ y, y ∈ x.f3 → nzN n y
theorem nz_mono : ∀ (n m : Nat) (x : S31), n ≤ m → nzN n x → nzN m x
  | 0, _, _, _, h => h.elim
  | n + 1, 0, _, h, _ => by omega
  | n + 1, m + 1, x, h, ⟨h1, h2⟩ => ⟨h1, fun y hy => nz_mono n m y (by omega) (h2 y hy)⟩
theorem fits_kind {x : S31} (h : fitsB x = true) : x.f0 ≠ 0 := by
  intro e
  have h' : types_Type_fits.f x.f0 x.f1 x.f2 x.f3 = some true := by rw [fits_some, h]
  unfold types_Type_fits.f at h'
  rw [if_neg (by omega), if_neg (by omega), if_neg (by omega)] at h'
  cases h'
theorem nz_right : ∀ (n : Nat) (x : S31), rightB n x = true → nzN n x
  | 0, _, h => by cases h
  | n + 1, x, h => ⟨fits_kind (rightB_part h).1, fun y hy => nz_right n y ((rightB_part h).2 y hy)⟩
theorem nz_put (f : Int → S31) (M : Nat) (hf : ∀ i, nzN M (f i)) : ∀ (n : Nat) (x : S31), rightB n x = true → nzN (n + M) (changeN n (putF f) x)
  | 0, _, h => by cases h
  | n + 1, x, h => by
    rw [changeN_succ]
    split
    · exact nz_mono M _ _ (by omega) (hf x.f1)
    · rename_i e
      rw [show n + 1 + M = (n + M) + 1 by omega]
      refine ⟨show x.f0 ≠ 0 from fits_kind (rightB_part h).1, fun y hy => ?_⟩
      obtain ⟨z, hz, rfl⟩ := List.mem_map.1 hy
      exact nz_put f M hf n z ((rightB_part h).2 z hz)
theorem nz_sub (x : S31) (hx : rightB 400 x = true) (l : List S31) (hl : ∀ y, y ∈ l → rightB 400 y = true) : nzN 800 (substB (schT x) l) := by
  rw [sub_sch x hx l]
  refine nz_put _ 400 (fun i => ?_) 400 _ (sch_vars x hx).1
  rcases sub_var l i with ⟨j, hj, e⟩ | e
  · rw [e]; exact nz_right 400 _ (hl _ (List.getElem_mem hj))
  · rw [e]; exact ⟨by show (1 : Int) ≠ 0; omega, fun y hy => by simp [var1] at hy⟩
/-- What is read does not lie in a block of noughts. -/
theorem avoid {w w2 : World} {b : Nat} (hz : w.heap[b]? = some (.cells #[.int .i64 0, .int .i64 0, .string ⟨#[]⟩, .slice none 0 0] 31 (0, 0))) (hw : ∀ k, k ≠ b → w2.heap[k]? = w.heap[k]?) : ∀ (n : Nat) (xs : List S31) (A : Option Addr), (∀ y, y ∈ xs → nzN n y) → k31.C w A xs.length xs → k31.C w2 A xs.length xs
  | n, xs, A, hn, hC => by
    refine ⟨hC.1, hC.2.1, fun h => ?_⟩
    obtain ⟨ad, he, hc⟩ := hC.2.2 h
    refine ⟨ad, he, fun j p hj => ?_⟩
    obtain ⟨c, hcl, hK, hcell⟩ := hc j p hj
    obtain ⟨A3, c3, rfl, hl3, hC3⟩ := k31_open hK
    have hm : p ∈ xs := List.mem_of_getElem? hj
    cases n with
    | zero => exact (hn p hm).elim
    | succ n =>
      obtain ⟨h1, h2⟩ := hn p hm
      refine ⟨_, hcl, k31_mk w2 p hl3 (avoid hz hw n p.f3 A3 h2 hC3), fun i u hu => ?_⟩
      have hne : ad.block ≠ b := fun e => by
        have h0 := hcell 0 _ rfl
        have hb' : (ad.add (j * k31.sz + 0)).block = b := by unfold Addr.add; split <;> exact e
        generalize ad.add (j * k31.sz + 0) = a0 at h0 hb'
        unfold World.cell? at h0
        rw [hb', hz] at h0
        simp only at h0
        split at h0
        · cases h0
        · generalize a0.off = o at h0
          match o, h0 with
          | 0, h0 => simp at h0; exact h1 h0.symm
          | 1, h0 => simp at h0; exact h1 h0.symm
          | 2, h0 => simp at h0
          | 3, h0 => simp at h0
          | o + 4, h0 => simp at h0
      have hbk : (ad.add (j * k31.sz + i)).block = ad.block := by unfold Addr.add; split <;> rfl
      have hcb : w2.cell? (ad.add (j * k31.sz + i)) = w.cell? (ad.add (j * k31.sz + i)) := World.cell?_of_block (by rw [hbk]; exact hw ad.block hne)
      rw [hcb]
      exact hcell i u hu
theorem box_set {Wq w : World} {q : Nat} {o : Obj} {r : S31} {A : Option Addr} {c b : Nat} (hF : Fq Wq q o w) (hb : Wq.heap.size ≤ b) (hz : w.heap[b]? = some (.cells #[.int .i64 0, .int .i64 0, .string ⟨#[]⟩, .slice none 0 0] 31 (0, 0))) (hl : r.f3.length ≤ c) (hC : k31.C w A r.f3.length r.f3) (hn : nzN 800 r) :
    Hid (BoxT Wq r (.pointer (some ⟨b, 0, none⟩)) ((((w.setCell ⟨b, 0, none⟩ (.int .i64 r.f0)).setCell ⟨b, 1, none⟩ (.int .i64 r.f1)).setCell ⟨b, 2, none⟩ (.string r.f2)).setCell ⟨b, 3, none⟩ (.slice A r.f3.length c))) ∧
    Hid (Fq Wq q o ((((w.setCell ⟨b, 0, none⟩ (.int .i64 r.f0)).setCell ⟨b, 1, none⟩ (.int .i64 r.f1)).setCell ⟨b, 2, none⟩ (.string r.f2)).setCell ⟨b, 3, none⟩ (.slice A r.f3.length c))) := by
  have hg : w.grownBy ((((w.setCell ⟨b, 0, none⟩ (.int .i64 r.f0)).setCell ⟨b, 1, none⟩ (.int .i64 r.f1)).setCell ⟨b, 2, none⟩ (.string r.f2)).setCell ⟨b, 3, none⟩ (.slice A r.f3.length c)) (some b) := set4_grown w b 0 _ _ _ _
  have hh := set4_heap (o := 0) hz (.int .i64 r.f0) (.int .i64 r.f1) (.string r.f2) (.slice A r.f3.length c)
  have hbl := (Array.getElem?_eq_some_iff.1 hz).1
  have hwk : ∀ k, k ≠ b → ((((w.setCell ⟨b, 0, none⟩ (.int .i64 r.f0)).setCell ⟨b, 1, none⟩ (.int .i64 r.f1)).setCell ⟨b, 2, none⟩ (.string r.f2)).setCell ⟨b, 3, none⟩ (.slice A r.f3.length c)).heap[k]? = w.heap[k]? := fun k hk => by
    rw [Below.heap_setCell _ ⟨b, 3, none⟩ _ k hk, Below.heap_setCell _ ⟨b, 2, none⟩ _ k hk, Below.heap_setCell _ ⟨b, 1, none⟩ _ k hk, Below.heap_setCell _ ⟨b, 0, none⟩ _ k hk]
  refine ⟨Lib.hid ⟨b, A, c, rfl, hb, hh, hl, avoid hz hwk 799 r.f3 A hn.2 hC⟩, Lib.hid ⟨hF.1.grown hg hF.1.size (fun k e => by cases e; exact hb), hF.2.1, ?_⟩⟩
  rw [hwk q (by have := hF.2.1; omega)]
  exact hF.2.2
end Go.Proofs.YtddmdiaopaoekaaDoor.P
/- The walk of TypesMore. -/
namespace Go.Proofs.YtddmdiaopaoekaaDoor.P
open Go.RowKit Go.Shelf Go.Proofs.YtddmdiaopaoekaaDoorW.PrintWords Go.Proofs.YtddmdiaopaoekaaDoorW.PrintLast Go.Proofs.YtddmdiaopaoekaaDoor.Rw
set_option linter.unusedVariables false
set_option linter.unusedSimpArgs false
set_option maxHeartbeats 8000000 in
set_option maxRecDepth 100000 in
theorem MoreLaw_calls (M : Nat) (x : S24) (A : Option Addr) (c : Nat) (l : List S24) (Al : Option Addr) (cl : Nat) (m : List S24) (Am : Option Addr) (cm : Nat) (w : World)
    (hc : x.f3.length ≤ c) (hC : k24.C w A x.f3.length x.f3) (hlc : l.length ≤ cl) (hlC : k24.C w Al l.length l) (hlA : Al = none → cl = 0) (hmc : m.length ≤ cm) (hmC : k24.C w Am m.length m) (hmA : Am = none → cm = 0)
    (hx : lay24 M x) (hl : ∀ y, y ∈ l → lay24 M y) (hm : ∀ y, y ∈ m → lay24 M y) (hsz : l.length + m.length ≤ 1048576) (hT : TabOK w) :
    Calls Tryd.prog 4 #[.agg #[.int .i64 x.f0, .int .i64 x.f1, .string x.f2, .slice A x.f3.length c], .slice Al l.length cl, .slice Am m.length cm] w fun e w' => e = .returned (.bool true) ∧ Below w.heap.size w w' := by
  have HC := Lib.hid hC
  have HLC := Lib.hid hlC
  have HMC := Lib.hid hmC
  have HLA := Lib.hid hlA
  have HMA := Lib.hid hmA
  have HX := Lib.hid hx
  have HLL := Lib.hid hl
  have HML := Lib.hid hm
  have HSZ := Lib.hid hsz
  have HT := Lib.hid hT
  clear hC hlC hmC hlA hmA hx hl hm hsz hT
  go_enter Tryd.func4, Tryd.ntmps4
  have hba : Below w.heap.size w (w.alloc (.cells #[.int .i64 x.f0, .int .i64 x.f1, .string x.f2, .slice A x.f3.length c] 24)) := (Below.refl _ _).alloc (Nat.le_refl _) _
  have hbb : Below (w.alloc (.cells #[.int .i64 x.f0, .int .i64 x.f1, .string x.f2, .slice A x.f3.length c] 24)).heap.size (w.alloc (.cells #[.int .i64 x.f0, .int .i64 x.f1, .string x.f2, .slice A x.f3.length c] 24)) ((w.alloc (.cells #[.int .i64 x.f0, .int .i64 x.f1, .string x.f2, .slice A x.f3.length c] 24)).alloc (.cells #[.int .i64 x.f0, .int .i64 x.f1, .string x.f2, .slice A x.f3.length c] 24)) := (Below.refl _ _).alloc (Nat.le_refl _) _
  have hre : Reps (k24.K (w.alloc (.cells #[.int .i64 x.f0, .int .i64 x.f1, .string x.f2, .slice A x.f3.length c] 24))) 4 [x] (#[.int .i64 x.f0, .int .i64 x.f1, .string x.f2, .slice A x.f3.length c] : Array Value).toList := (Reps.none _ 4).snoc (k24_mk (w.alloc (.cells #[.int .i64 x.f0, .int .i64 x.f1, .string x.f2, .slice A x.f3.length c] 24)) x hc (c24_below HC.out hba)) rfl
  have hz1 : (([x] : List S24).length + l.length) * 56 ≤ 140737488355328 := by have := HSZ.out; simp only [List.length_cons, List.length_nil]; omega
  have hz2 : (([x] ++ l).length + m.length) * 56 ≤ 140737488355328 := by have := HSZ.out; simp only [List.length_append, List.length_cons, List.length_nil]; omega
  have how : ((w.alloc (.cells #[.int .i64 x.f0, .int .i64 x.f1, .string x.f2, .slice A x.f3.length c] 24)).alloc (.cells #[.int .i64 x.f0, .int .i64 x.f1, .string x.f2, .slice A x.f3.length c] 24)).ownsRow (w.alloc (.cells #[.int .i64 x.f0, .int .i64 x.f1, .string x.f2, .slice A x.f3.length c] 24)).heap.size 24 4 (.slice (some ⟨w.heap.size + 1, 0, none⟩) 1 1) 1 (#[.int .i64 x.f0, .int .i64 x.f1, .string x.f2, .slice A x.f3.length c] : Array Value).toList := by
    have h := World.ownsRow_lit (base := (w.alloc (.cells #[.int .i64 x.f0, .int .i64 x.f1, .string x.f2, .slice A x.f3.length c] 24)).heap.size) (e := 24) (size := 4) (w.alloc (.cells #[.int .i64 x.f0, .int .i64 x.f1, .string x.f2, .slice A x.f3.length c] 24)) #[.int .i64 x.f0, .int .i64 x.f1, .string x.f2, .slice A x.f3.length c] 1 (Nat.le_refl _) (by decide) rfl
    simpa using h
  have HRE := Lib.hid hre
  have HOW := Lib.hid how
  have HBA := Lib.hid hba
  have HBX := Lib.hid hbb
  have HZ1 := Lib.hid hz1
  have HZ2 := Lib.hid hz2
  have HLC0 := Lib.hid (c24_below HLC.out hba)
  have HMC0 := Lib.hid (c24_below HMC.out hba)
  clear hre hz1 hz2 how hba hbb
  go_wp2_with (first
    | (at_builtin; refine wpList_append24 (w0 := (w.alloc (.cells #[.int .i64 x.f0, .int .i64 x.f1, .string x.f2, .slice A x.f3.length c] 24))) rfl _ _ rfl _ [x] l _ rfl HOW.out HRE.out Al cl rfl HLA.out HLC0.out HBX.out HZ1.out ?_; intro v1 w1 cells1 hown1 hreps1 hb1 hg1)
    | (at_builtin; refine wpList_append24 (w0 := (w.alloc (.cells #[.int .i64 x.f0, .int .i64 x.f1, .string x.f2, .slice A x.f3.length c] 24))) rfl _ _ rfl _ ([x] ++ l) m _ rfl hown1 hreps1 Am cm rfl HMA.out HMC0.out hb1 HZ2.out ?_; intro v2 w2 cells2 hown2 hreps2 hb2 hg2; obtain ⟨A2, c2, rfl, hR2⟩ := own_reads_row hown2 hreps2 rfl))
  obtain ⟨kL, rL, hLi⟩ := light_ex M ([x] ++ l ++ m) (by have := HSZ.out; simp only [List.length_append, List.length_cons, List.length_nil]; omega) (fun y hy => by
    rcases List.mem_append.1 hy with hy | hy
    · rcases List.mem_append.1 hy with hy | hy
      · obtain rfl : y = x := by simpa using hy
        exact lay24_ok M _ HX.out
      · exact lay24_ok M y (HLL.out y hy)
    · exact lay24_ok M y (HML.out y hy))
  have hC2 : k24.C w2 A2 ([x] ++ l ++ m).length ([x] ++ l ++ m) := hR2.imp_ (Below.refl _ _) (fun p cs hp => k24.K_below hb2 hp)
  have hcap2 : ([x] ++ l ++ m).length ≤ c2 := by
    rcases hown2.2 with ⟨h1, h2⟩ | ⟨g, cap, cur, h1, _, _, h2, _⟩
    · cases h1
    · cases h1; exact h2
  have hcl := hammocklaw09_Light.calls kL A2 c2 ([x] ++ l ++ m) rL w2 hC2 hcap2 hLi
  rw [show ([x] ++ l ++ m).length = l.length + m.length + 1 by simp only [List.length_append, List.length_cons, List.length_nil]; omega] at hcl
  have HLI := Lib.hid hLi
  have HB2 := Lib.hid (hb2 : Below (w.alloc (.cells #[.int .i64 x.f0, .int .i64 x.f1, .string x.f2, .slice A x.f3.length c] 24)).heap.size (w.alloc (.cells #[.int .i64 x.f0, .int .i64 x.f1, .string x.f2, .slice A x.f3.length c] 24)) w2)
  refine hcl.mono ?_
  clear hcl hC2 hcap2 hown2 hreps2 hown1 hreps1 hb1 hg1 hR2 hLi hg2 hb2
  rintro e w3 ⟨rfl, hb3⟩
  have hB3 := bel2 HB2.out hb3
  have HB3 := Lib.hid (HBA.out.trans (hB3.mono HBA.out.size))
  have HBO := Lib.hid ((hB3.block w.heap.size (by simp)).trans (heap_new w _))
  clear hb3 hB3
  have x0 := cell_in HBO.out 0
  have x1 := cell_in HBO.out 1
  have x2 := cell_in HBO.out 2
  have x3 := cell_in HBO.out 3
  cases rL with
  | false =>
    go_wp2_with fail
    refine (knows_calls w3 (HT.out.below HB3.out)).mono ?_
    rintro e w4 ⟨rfl, hb4⟩
    have HB4 := Lib.hid (bel2 HB3.out hb4)
    clear hb4
    go_wp2_with fail
    go_ret
    exact ⟨rfl, HB4.out⟩
  | true =>
    obtain ⟨hsum, hlen⟩ := light_sum kL M ([x] ++ l ++ m) (by have := HSZ.out; simp only [List.length_append, List.length_cons, List.length_nil]; omega) HLI.out (fun y hy => by
      rcases List.mem_append.1 hy with hy | hy
      · rcases List.mem_append.1 hy with hy | hy
        · obtain rfl : y = x := by simpa using hy
          exact ⟨lay24_ok M _ HX.out, lay24_nm M _ HX.out⟩
        · exact ⟨lay24_ok M y (HLL.out y hy), lay24_nm M y (HLL.out y hy)⟩
      · exact ⟨lay24_ok M y (HML.out y hy), lay24_nm M y (HML.out y hy)⟩)
    have HSUM := Lib.hid hsum
    have HLEN := Lib.hid hlen
    clear hsum hlen HLI
    obtain ⟨kR, hRf⟩ := Right24_ex x
    have HRf := Lib.hid hRf
    clear hRf
    go_wp2_with fail
    refine (hammockref09_Right.calls kR x.f0 x.f1 x.f2 A c x.f3 _ w3 (c24_below HC.out HB3.out) hc HRf.out).mono ?_
    rintro e w4 ⟨rfl, hb4⟩
    have HB4 := Lib.hid (bel2 HB3.out hb4)
    have HBO4 := Lib.hid ((hb4.block w.heap.size (Array.getElem?_eq_some_iff.1 HBO.out).1).trans HBO.out)
    clear hb4 x0 x1 x2 x3
    have hlm : l.length + m.length ≤ 399 := by have := HLEN.out; simp only [List.length_append, List.length_cons, List.length_nil] at this; omega
    have hlmz : wrap64 ((l.length : Int) + (m.length : Int)) = ((l.length + m.length : Nat) : Int) := by unfold wrap64; omega
    have HLM := Lib.hid hlm
    cases hr : rightB 400 (ownN 400 x) with
    | false =>
      clear hr
      go_wp2_with fail
      refine (knows_calls w4 (HT.out.below HB4.out)).mono ?_
      rintro e wk ⟨rfl, hbk⟩
      have HBk := Lib.hid (bel2 HB4.out hbk)
      clear hbk
      go_wp2_with fail
      go_ret
      exact ⟨rfl, HBk.out⟩
    | true =>
      have HR := Lib.hid hr
      clear hr hlm
      by_cases h30 : ((l.length + m.length : Nat) : Int) > 30
      · have h30' := h30
        go_wp2_with fail
        refine (knows_calls w4 (HT.out.below HB4.out)).mono ?_
        rintro e wk ⟨rfl, hbk⟩
        have HBk := Lib.hid (bel2 HB4.out hbk)
        clear hbk
        go_wp2_with fail
        go_ret
        exact ⟨rfl, HBk.out⟩
      · have h30' : ¬ ((l.length + m.length : Nat) : Int) > 30 := h30
        go_wp2_with fail
        clear hlmz
        go_loopw [7] (fun s7 wr => ∃ kk : Nat, kk ≤ l.length ∧ s7 = .int .i64 kk ∧ Hid (Below w4.heap.size w4 wr) ∧ Hid (∀ y, y ∈ l.take kk → rightB 400 (ownN 400 y) = true)) (fun s7 _ => l.length - (intOf s7).toNat)
        case atStart => exact ⟨0, by omega, rfl, Lib.hid (Below.refl _ _), Lib.hid (fun y hy => by simp at hy)⟩
        case round =>
          obtain ⟨kk, hkk, rfl, HBX, HRW⟩ := hrel
          have HBW := Lib.hid (bel2 HB4.out HBX.out)
          by_cases hlt : kk < l.length
          · have hltz : (kk : Int) < (l.length : Int) := by omega
            obtain ⟨ad, A3, c3, hAd, h0, h1, h2, h3, hl3, hC3⟩ := at_T24 (c24_below HLC.out HBW.out) (kk : Int) (by omega) hltz
            have hrd : rd_T24 l (kk : Int) = l[kk] := by rw [rd24]; simp [List.getD_eq_getElem?_getD, hlt]
            rw [Int.toNat_natCast] at h0 h1 h2 h3
            rw [hrd] at h0 h1 h2 h3 hl3 hC3
            have hts : l.take (kk + 1) = l.take kk ++ [l[kk]] := by rw [List.take_succ_eq_append_getElem hlt]
            have HTS := Lib.hid hts
            subst hAd
            clear hts hrd
            generalize l[kk] = y at h0 h1 h2 h3 hl3 hC3 HTS
            obtain ⟨kY, hY⟩ := Right24_ex y
            have HY := Lib.hid hY
            have HC3 := Lib.hid hC3
            clear hY hC3
            go_wp2_with fail
            refine (hammockref09_Right.calls kY y.f0 y.f1 y.f2 A3 c3 y.f3 _ wr HC3.out hl3 HY.out).mono ?_
            rintro e wn ⟨rfl, hbn⟩
            have HBN := Lib.hid (bel2 HBW.out hbn)
            have HBXN := Lib.hid (bel2 HBX.out hbn)
            clear hbn h0 h1 h2 h3
            cases hr : rightB 400 (ownN 400 y) with
            | false =>
              clear hr
              go_wp2_with fail
              refine (knows_calls wn (HT.out.below HBN.out)).mono ?_
              rintro e wk ⟨rfl, hbk⟩
              have HBk := Lib.hid (bel2 HBN.out hbk)
              clear hbk
              go_wp2_with fail
              go_ret
              exact ⟨rfl, HBk.out⟩
            | true =>
              have HRy := Lib.hid hr
              clear hr
              go_wp2_with fail
              go_roundw
              case rel => exact ⟨kk + 1, by omega, by go_num, HBXN, Lib.hid (fun z hz => by
                rw [HTS.out] at hz
                rcases List.mem_append.1 hz with hz | hz
                · exact HRW.out z hz
                · obtain rfl : z = y := by simpa using hz
                  exact HRy.out)⟩
              case measure => simp [intOf]; omega
          · have hltz : ¬ (kk : Int) < (l.length : Int) := by omega
            obtain rfl : kk = l.length := by omega
            rw [List.take_length] at HRW
            have HB45 := HBX
            have HRL := HRW
            clear HBW HRW HBX
            go_wp2_with fail
            go_loopw [8] (fun s8 wr => ∃ kk : Nat, kk ≤ m.length ∧ s8 = .int .i64 kk ∧ Hid (Below w4.heap.size w4 wr) ∧ Hid (∀ y, y ∈ m.take kk → rightB 400 (ownN 400 y) = true)) (fun s8 _ => m.length - (intOf s8).toNat)
            case atStart => exact ⟨0, by omega, rfl, HB45, Lib.hid (fun y hy => by simp at hy)⟩
            case round =>
              obtain ⟨kk, hkk, rfl, HBX, HRW⟩ := hrel
              have HBW := Lib.hid (bel2 HB4.out HBX.out)
              by_cases hlt : kk < m.length
              · have hltz : (kk : Int) < (m.length : Int) := by omega
                obtain ⟨ad, A3, c3, hAd, h0, h1, h2, h3, hl3, hC3⟩ := at_T24 (c24_below HMC.out HBW.out) (kk : Int) (by omega) hltz
                have hrd : rd_T24 m (kk : Int) = m[kk] := by rw [rd24]; simp [List.getD_eq_getElem?_getD, hlt]
                rw [Int.toNat_natCast] at h0 h1 h2 h3
                rw [hrd] at h0 h1 h2 h3 hl3 hC3
                have hts : m.take (kk + 1) = m.take kk ++ [m[kk]] := by rw [List.take_succ_eq_append_getElem hlt]
                have HTS := Lib.hid hts
                subst hAd
                clear hts hrd
                generalize m[kk] = y at h0 h1 h2 h3 hl3 hC3 HTS
                obtain ⟨kY, hY⟩ := Right24_ex y
                have HY := Lib.hid hY
                have HC3 := Lib.hid hC3
                clear hY hC3
                go_wp2_with fail
                refine (hammockref09_Right.calls kY y.f0 y.f1 y.f2 A3 c3 y.f3 _ wr HC3.out hl3 HY.out).mono ?_
                rintro e wn ⟨rfl, hbn⟩
                have HBN := Lib.hid (bel2 HBW.out hbn)
                have HBXN := Lib.hid (bel2 HBX.out hbn)
                clear hbn h0 h1 h2 h3
                cases hr : rightB 400 (ownN 400 y) with
                | false =>
                  clear hr
                  go_wp2_with fail
                  refine (knows_calls wn (HT.out.below HBN.out)).mono ?_
                  rintro e wk ⟨rfl, hbk⟩
                  have HBk := Lib.hid (bel2 HBN.out hbk)
                  clear hbk
                  go_wp2_with fail
                  go_ret
                  exact ⟨rfl, HBk.out⟩
                | true =>
                  have HRy := Lib.hid hr
                  clear hr
                  go_wp2_with fail
                  go_roundw
                  case rel => exact ⟨kk + 1, by omega, by go_num, HBXN, Lib.hid (fun z hz => by
                    rw [HTS.out] at hz
                    rcases List.mem_append.1 hz with hz | hz
                    · exact HRW.out z hz
                    · obtain rfl : z = y := by simpa using hz
                      exact HRy.out)⟩
                  case measure => simp [intOf]; omega
              · have hltz : ¬ (kk : Int) < (m.length : Int) := by omega
                obtain rfl : kk = m.length := by omega
                rw [List.take_length] at HRW
                have HB46 := HBX
                have HRM := HRW
                clear HBW HRW HBX
                have HB5 := Lib.hid (bel2 HB4.out HB46.out)
                have HBO5 := Lib.hid ((HB46.out.block w.heap.size (Array.getElem?_eq_some_iff.1 HBO4.out).1).trans HBO4.out)
                clear HBO HBO4
                have x0 := cell_in HBO5.out 0
                have x1 := cell_in HBO5.out 1
                have x2 := cell_in HBO5.out 2
                have x3 := cell_in HBO5.out 3
                obtain ⟨kO, hO⟩ := own_ex 400 x (few24_of_right 400 x HR.out)
                obtain ⟨kl, hkl⟩ := owns_ex l (by have := HLM.out; omega) (fun y hy => few24_of_right 400 y (HRL.out y hy))
                obtain ⟨km, hkm⟩ := owns_ex m (by have := HLM.out; omega) (fun y hy => few24_of_right 400 y (HRM.out y hy))
                have hal := more_sizes (ownN 400 x) (l.map (ownN 400)) (m.map (ownN 400)) HR.out (fun y hy => by obtain ⟨z, hz, rfl⟩ := List.mem_map.1 hy; exact HRL.out z hz) (fun y hy => by obtain ⟨z, hz, rfl⟩ := List.mem_map.1 hy; exact HRM.out z hz)
                  (by have := HSUM.out; simpa [List.map_append, List.sum_append, Function.comp_def, Nat.add_assoc] using this) (lay24_varsL M x HX.out) (fun y hy => by obtain ⟨z, hz, rfl⟩ := List.mem_map.1 hy; exact lay24_varsL M z (HLL.out z hz)) (fun y hy => by obtain ⟨z, hz, rfl⟩ := List.mem_map.1 hy; exact lay24_varsL M z (HML.out z hz))
                have hfl : ∀ y, y ∈ l.map (ownN 400) → fewN 400 y := fun y hy => by obtain ⟨z, hz, rfl⟩ := List.mem_map.1 hy; exact few_of_right 400 _ (HRL.out z hz)
                have hfm : ∀ y, y ∈ m.map (ownN 400) → fewN 400 y := fun y hy => by obtain ⟨z, hz, rfl⟩ := List.mem_map.1 hy; exact few_of_right 400 _ (HRM.out z hz)
                have hll : (l.map (ownN 400)).length = l.length := by simp
                have hml : (m.map (ownN 400)).length = m.length := by simp
                have hgl : ∀ (i : Nat) (h : i < l.length), (l.map (ownN 400))[i]? = some (ownN 400 l[i]) := fun i h => by simp [h]
                have hrls : ∀ y, y ∈ l.map (ownN 400) → rightB 400 y = true := fun y hy => by obtain ⟨z, hz, rfl⟩ := List.mem_map.1 hy; exact HRL.out z hz
                have hrms : ∀ y, y ∈ m.map (ownN 400) → rightB 400 y = true := fun y hy => by obtain ⟨z, hz, rfl⟩ := List.mem_map.1 hy; exact HRM.out z hz
                have HRLS := Lib.hid hrls
                have HRMS := Lib.hid hrms
                clear hrls hrms
                have HOW2 := Lib.hid hO
                have HKL := Lib.hid hkl
                have HKM := Lib.hid hkm
                have HALL := Lib.hid hal
                have HFL := Lib.hid hfl
                have HFM := Lib.hid hfm
                have HLLEN := Lib.hid hll
                have HMLEN := Lib.hid hml
                have HGL := Lib.hid hgl
                clear hO hkl hkm hal hfl hfm hll hml hgl
                go_wp2_with fail
                generalize ht : ownN 400 x = t at HR HALL HOW2
                generalize hls : l.map (ownN 400) = ls at HALL HKL HFL HLLEN HGL HRLS
                generalize hms : m.map (ownN 400) = ms at HALL HKM HFM HMLEN HRMS
                refine (hammocklaw09_Own.calls kO x.f0 x.f1 x.f2 A c x.f3 t.f0 t.f1 t.f2 t.f3 wr (c24_below HC.out HB5.out) hc HOW2.out).mono ?_
                rintro e w6 ⟨v6, rfl, hR6, hb6⟩
                obtain ⟨A6, c6, rfl, hl6, hC6⟩ := Kd.R_reads hR6
                have HB6 := Lib.hid (bel2 HB5.out hb6)
                have HC6 := Lib.hid hC6
                clear hR6 hb6 hC6 x0 x1 x2 x3
                go_wp2_with fail
                refine (Scheme1_calls t A6 c6 w6 hl6 HC6.out HALL.out.1.1 HALL.out.1.2 HALL.out.2.1).mono ?_
                rintro e u1 ⟨As, cs, rfl, hls1, hCs, hbs⟩
                have HBs := Lib.hid (bel2 HB6.out hbs)
                have HCs := Lib.hid hCs
                clear hbs hCs
                go_wp2_with fail
                have hq0 := heap_new u1 (.cells #[.int .i64 (schV t), .int .i64 (schT t).f0, .int .i64 (schT t).f1, .string (schT t).f2, .slice As (schT t).f3.length cs] 39)
                have hqa : Below u1.heap.size u1 (u1.alloc (.cells #[.int .i64 (schV t), .int .i64 (schT t).f0, .int .i64 (schT t).f1, .string (schT t).f2, .slice As (schT t).f3.length cs] 39)) := (Below.refl _ _).alloc (Nat.le_refl _) _
                have hqz : u1.heap.size < (u1.alloc (.cells #[.int .i64 (schV t), .int .i64 (schT t).f0, .int .i64 (schT t).f1, .string (schT t).f2, .slice As (schT t).f3.length cs] 39)).heap.size := by simp
                generalize u1.alloc (.cells #[.int .i64 (schV t), .int .i64 (schT t).f0, .int .i64 (schT t).f1, .string (schT t).f2, .slice As (schT t).f3.length cs] 39) = Wq at hq0 hqa hqz ⊢
                have HBq := Lib.hid (bel2 HBs.out hqa)
                have HCq := Lib.hid (c_below HCs.out hqa)
                generalize u1.heap.size = q at hq0 hqz ⊢
                have hf0 : Fq Wq q _ Wq := ⟨Below.refl _ _, hqz, hq0⟩
                have HF0 := Lib.hid hf0
                clear hq0 hqa hqz hf0
                have how : ∀ W, Fq Wq q (.cells #[.int .i64 (schV t), .int .i64 (schT t).f0, .int .i64 (schT t).f1, .string (schT t).f2, .slice As (schT t).f3.length cs] 39 (0, 0)) W → Calls Tryd.prog 20 #[.slice Al l.length cl] W fun e w' => ∃ A c, e = .returned (.slice A ls.length c) ∧ ls.length ≤ c ∧ k31.C w' A ls.length ls ∧ Fq Wq q (.cells #[.int .i64 (schV t), .int .i64 (schT t).f0, .int .i64 (schT t).f1, .string (schT t).f2, .slice As (schT t).f3.length cs] 39 (0, 0)) w' ∧ Below W.heap.size W w' := fun W hF => (hammocklaw09_owns.calls kl Al cl l ls W (c24_below HLC.out (bel2 HBq.out hF.1)) hlc HKL.out).mono (by
                  rintro e w' ⟨v, rfl, hR, hb⟩
                  obtain ⟨A', c', rfl, hl', hC'⟩ := Kd.R_reads hR
                  exact ⟨A', c', rfl, hl', hC', hF.up hb, hb⟩)
                have HOWN := Lib.hid how
                have hsu : ∀ W Ao co, Fq Wq q (.cells #[.int .i64 (schV t), .int .i64 (schT t).f0, .int .i64 (schT t).f1, .string (schT t).f2, .slice As (schT t).f3.length cs] 39 (0, 0)) W → ls.length ≤ co → k31.C W Ao ls.length ls → Calls Tryd.prog 19 #[.agg #[.int .i64 (schT t).f0, .int .i64 (schT t).f1, .string (schT t).f2, .slice As (schT t).f3.length cs], .slice Ao ls.length co] W (TreeP W (substB (schT t) ls)) := fun W Ao co hF hlo hCo => Subst_calls 400 (schT t) As cs ls Ao co W hls1 (c_below HCq.out hF.1) hlo hCo HFL.out
                have HSU := Lib.hid hsu
                have HNZ := Lib.hid (nz_sub t HR.out ls HRLS.out)
                clear how hsu
                go_cut [10] (fun s10 wx => Hid (BoxT Wq (substB (schT t) ls) s10 wx) ∧ Hid (Fq Wq q (.cells #[.int .i64 (schV t), .int .i64 (schT t).f0, .int .i64 (schT t).f1, .string (schT t).f2, .slice As (schT t).f3.length cs] 39 (0, 0)) wx))
                case first =>
                  have hF0 := HF0.out.dr
                  have y1 := cell_in hF0.2.2 1
                  have y2 := cell_in hF0.2.2 2
                  have y3 := cell_in hF0.2.2 3
                  have y4 := cell_in hF0.2.2 4
                  have yw1 : ∀ o, (Wq.alloc o).drew.cell? ⟨q, 1, none⟩ = _ := fun o => cell_allocN o (cell_in HF0.out.2.2 1)
                  have yw2 : ∀ o, (Wq.alloc o).drew.cell? ⟨q, 2, none⟩ = _ := fun o => cell_allocN o (cell_in HF0.out.2.2 2)
                  have yw3 : ∀ o, (Wq.alloc o).drew.cell? ⟨q, 3, none⟩ = _ := fun o => cell_allocN o (cell_in HF0.out.2.2 3)
                  have yw4 : ∀ o, (Wq.alloc o).drew.cell? ⟨q, 4, none⟩ = _ := fun o => cell_allocN o (cell_in HF0.out.2.2 4)
                  go_region_with (first
                    | (go_at_call 20; refine (HOWN.out _ (by first | assumption | exact Fq.al (by assumption) _)).mono ?_; rintro e wo ⟨Ao, co, rfl, hlo, hCo, hFo, hbo⟩; have y1 := cell_in hFo.2.2 1; have y2 := cell_in hFo.2.2 2; have y3 := cell_in hFo.2.2 3; have y4 := cell_in hFo.2.2 4; have yy1 := fun o => cell_allocN o y1; have yy2 := fun o => cell_allocN o y2; have yy3 := fun o => cell_allocN o y3; have yy4 := fun o => cell_allocN o y4; try (have hz := (hbo.block Wq.heap.size (by simp)).trans (heap_new Wq _); have z0 := cell_in hz 0; have z1 := cell_in hz 1; have z2 := cell_in hz 2; have z3 := cell_in hz 3))
                    | (go_at_call 19; refine (HSU.out _ Ao co (by first | assumption | exact Fq.al (by assumption) _) hlo (by first | assumption | exact c_below (by assumption) ((Below.refl _ _).alloc (Nat.le_refl _) _))).mono ?_; rintro e wp ⟨Ab, cb, rfl, hlb, hCb, hbp⟩; try (first | (have hzp := (hbp.block wo.heap.size (by simp)).trans (heap_new wo _); have z0 := cell_in hzp 0; have z1 := cell_in hzp 1; have z2 := cell_in hzp 2; have z3 := cell_in hzp 3; have f0 := frz_in hzp 0; have f1 := frz_in hzp 1; have f2 := frz_in hzp 2; have f3 := frz_in hzp 3) | (have hzp := (hbp.block Wq.heap.size (Array.getElem?_eq_some_iff.1 hz).1).trans hz; have z0 := cell_in hzp 0; have z1 := cell_in hzp 1; have z2 := cell_in hzp 2; have z3 := cell_in hzp 3; have f0 := frz_in hzp 0; have f1 := frz_in hzp 1; have f2 := frz_in hzp 2; have f3 := frz_in hzp 3))))
                  all_goals (go_wp2_with fail; go_meet)
                  all_goals first
                    | (have hz9 := hz; exact box_set (hFo.up hbp) (Nat.le_refl _) hzp hlb hCb HNZ.out)
                    | (have hz9 := hzp; exact box_set ((hFo.al _).up hbp) hFo.1.size hzp hlb hCb HNZ.out)
                    | exact ⟨Lib.hid (box_new (hFo.up hbp).1.size hlb hCb), Lib.hid (Fq.al (hFo.up hbp) _)⟩
                case rest =>
                  obtain ⟨HBX1, HFc⟩ := hcut
                  obtain ⟨bb, Ab, cb, rfl, hbb, hbh, hlb, hCb⟩ := HBX1.out
                  have HBH := Lib.hid hbh
                  have HCB := Lib.hid hCb
                  have HBBq := Lib.hid hbb
                  clear hbh hCb hbb HBX1 HOWN HSU HNZ
                  have y1 := cell_in HFc.out.2.2 1
                  have y2 := cell_in HFc.out.2.2 2
                  have y3 := cell_in HFc.out.2.2 3
                  have y4 := cell_in HFc.out.2.2 4
                  have z0 := cell_in HBH.out 0
                  have z1 := cell_in HBH.out 1
                  have z2 := cell_in HBH.out 2
                  have z3 := cell_in HBH.out 3
                  have HBc := Lib.hid (bel2 HBq.out HFc.out.1)
                  have hrc := Right_calls (substB (schT t) ls) Ab cb wc hlb HCB.out
                  have hlaw := more_law t ls ms HR.out
                  have HLAW := Lib.hid hlaw
                  clear hlaw
                  generalize hB1 : substB (schT t) ls = B1 at HALL HLAW hrc HCB HBH hlb z0 z1 z2 z3
                  have HRC := Lib.hid hrc
                  clear hrc
                  go_wp2_with fail
                  refine HRC.out.mono ?_
                  rintro e w7 ⟨rfl, hb7⟩
                  have HB7 := Lib.hid (bel2 HBc.out hb7)
                  have HF7 := Lib.hid (HFc.out.up hb7)
                  have HBH7 := Lib.hid ((hb7.block bb (Array.getElem?_eq_some_iff.1 HBH.out).1).trans HBH.out)
                  have HCB7 := Lib.hid (c_below HCB.out hb7)
                  clear hb7 HBH HCB HFc y1 y2 y3 y4 z0 z1 z2 z3
                  have hrB : RightB B1 = rightB 400 B1 := rfl
                  rw [hrB]
                  clear hrB
                  cases hrb : rightB 400 B1 with
                  | false =>
                    clear hrb
                    go_wp2_with fail
                    refine (knows_calls w7 (HT.out.below HB7.out)).mono ?_
                    rintro e wk ⟨rfl, hbk⟩
                    have HBk := Lib.hid (bel2 HB7.out hbk)
                    clear hbk
                    go_wp2_with fail
                    go_ret
                    exact ⟨rfl, HBk.out⟩
                  | true =>
                    have HRB := Lib.hid hrb
                    clear hrb
                    have y1 := cell_in HF7.out.2.2 1
                    have y2 := cell_in HF7.out.2.2 2
                    have y3 := cell_in HF7.out.2.2 3
                    have y4 := cell_in HF7.out.2.2 4
                    go_wp2_with fail
                    refine (Vars_calls (schT t) As cs w7 hls1 (c_below HCq.out HF7.out.1) HALL.out.2.2.1.1 HALL.out.2.2.1.2).mono ?_
                    rintro e w8 ⟨v, rfl, hrow, hb8⟩
                    obtain ⟨Av, cv, rfl, hlv, _⟩ := row_slice hrow
                    have HB8 := Lib.hid (bel2 HB7.out hb8)
                    have HF8 := Lib.hid (HF7.out.up hb8)
                    have HBH8 := Lib.hid ((hb8.block bb (Array.getElem?_eq_some_iff.1 HBH7.out).1).trans HBH7.out)
                    have HCB8 := Lib.hid (c_below HCB7.out hb8)
                    clear hb8 hrow HBH7 HCB7 HF7 y1 y2 y3 y4
                    by_cases h100 : ((VarsB (schT t)).length : Int) > 100
                    · go_wp2_with fail
                      refine (knows_calls w8 (HT.out.below HB8.out)).mono ?_
                      rintro e wk ⟨rfl, hbk⟩
                      have HBk := Lib.hid (bel2 HB8.out hbk)
                      clear hbk
                      go_wp2_with fail
                      go_ret
                      exact ⟨rfl, HBk.out⟩
                    · have hn100 : ¬ ((VarsB (schT t)).length : Int) > 100 := h100
                      obtain ⟨X, hX, hXl, hXs⟩ := (HLAW.out HRB.out (by omega)).1
                      have HX2 := Lib.hid (HLAW.out HRB.out (by omega)).2
                      have HXE := Lib.hid hX
                      have HXL := Lib.hid hXl
                      have HXS := Lib.hid hXs
                      clear hX hXl hXs
                      have y0 := cell_in HF8.out.2.2 0
                      have y1 := cell_in HF8.out.2.2 1
                      have y2 := cell_in HF8.out.2.2 2
                      have y3 := cell_in HF8.out.2.2 3
                      have y4 := cell_in HF8.out.2.2 4
                      have z0 := cell_in HBH8.out 0
                      have z1 := cell_in HBH8.out 1
                      have z2 := cell_in HBH8.out 2
                      have z3 := cell_in HBH8.out 3
                      go_wp2_with fail
                      have hmt := Match_calls (schT t) B1 As Ab cs cb w8 hls1 (c_below HCq.out HF8.out.1) hlb HCB8.out HALL.out.2.2.1.1 HALL.out.2.2.1.2
                      rw [HXE.out] at hmt
                      refine hmt.mono ?_
                      clear hmt
                      rintro e w9 ⟨⟨Ax, cx, rfl, hlx, hCx⟩, hb9⟩
                      have HB9 := Lib.hid (bel2 HB8.out hb9)
                      have HF9 := Lib.hid (HF8.out.up hb9)
                      have HBH9 := Lib.hid ((hb9.block bb (Array.getElem?_eq_some_iff.1 HBH8.out).1).trans HBH8.out)
                      have HCB9 := Lib.hid (c_below HCB8.out hb9)
                      have HCX := Lib.hid hCx
                      clear hb9 hCx HBH8 HCB8 HF8 y0 y1 y2 y3 y4 z0 z1 z2 z3
                      have y0 := cell_in HF9.out.2.2 0
                      have hxl := HXL.out
                      go_upto_block 4 with (fail)
                      clear hxl y0
                      go_cut [13] (fun s13 wx => Hid (Below w9.heap.size w9 wx))
                      case first =>
                        go_wp2_with fail
                        go_loopw [13] (fun s13 wr => ∃ kk : Nat, kk ≤ X.length ∧ kk ≤ l.length ∧ s13 = .int .i64 kk ∧ Hid (Below w9.heap.size w9 wr)) (fun s13 _ => l.length - (intOf s13).toNat)
                        case atStart => exact ⟨0, by omega, by omega, rfl, Lib.hid (Below.refl _ _)⟩
                        case round =>
                          obtain ⟨kk, hkx, hkl, rfl, HBR⟩ := hrel
                          by_cases hlt : kk < X.length ∧ kk < l.length
                          · have hltx : (kk : Int) < (X.length : Int) := by omega
                            have hltl : (kk : Int) < (l.length : Int) := by omega
                            have HBWR := Lib.hid (bel2 HB9.out HBR.out)
                            obtain ⟨ad, A3, c3, hAd, h0, h1, h2, h3, hl3, hC3⟩ := at_T31 (c_below HCX.out HBR.out) (kk : Int) (by omega) hltx
                            obtain ⟨bd, B3, d3, hBd, g0, g1, g2, g3, gl3, gC3⟩ := at_T24 (c24_below HLC.out HBWR.out) (kk : Int) (by omega) hltl
                            have hrx : rd_T31 X (kk : Int) = X[kk] := by
                              show X.getD kk z31 = X[kk]
                              simp [List.getD_eq_getElem?_getD, hlt.1]
                            have hrl : rd_T24 l (kk : Int) = l[kk] := by rw [rd24]; simp [List.getD_eq_getElem?_getD, hlt.2]
                            have hsm : sameB X[kk] (ownN 400 l[kk]) = true := by
                              have h5 := HXS.out kk hlt.1 (by rw [HLLEN.out]; exact hlt.2)
                              have h6 := HGL.out kk hlt.2
                              rw [List.getElem?_eq_getElem (by rw [HLLEN.out]; exact hlt.2)] at h6
                              rwa [Option.some.inj h6] at h5
                            have hRy := HRL.out l[kk] (List.getElem_mem hlt.2)
                            rw [Int.toNat_natCast] at h0 h1 h2 h3 g0 g1 g2 g3
                            rw [hrx] at h0 h1 h2 h3 hl3 hC3
                            rw [hrl] at g0 g1 g2 g3 gl3 gC3
                            subst hAd
                            subst hBd
                            clear hrx hrl
                            generalize X[kk] = p at h0 h1 h2 h3 hl3 hC3 hsm
                            generalize l[kk] = y at g0 g1 g2 g3 gl3 gC3 hsm hRy
                            obtain ⟨kO2, hO2⟩ := own_ex 400 y (few24_of_right 400 y hRy)
                            generalize ownN 400 y = o2 at hsm hO2
                            have how2 : ∀ W, Below wr.heap.size wr W → Calls Tryd.prog 11 #[.agg #[.int .i64 y.f0, .int .i64 y.f1, .string y.f2, .slice B3 y.f3.length d3]] W fun e w' => ∃ A c, e = .returned (.agg #[.int .i64 o2.f0, .int .i64 o2.f1, .string o2.f2, .slice A o2.f3.length c]) ∧ o2.f3.length ≤ c ∧ k31.C w' A o2.f3.length o2.f3 ∧ Below wr.heap.size wr w' ∧ Below W.heap.size W w' := fun W hW => (hammocklaw09_Own.calls kO2 y.f0 y.f1 y.f2 B3 d3 y.f3 o2.f0 o2.f1 o2.f2 o2.f3 W (c24_below gC3 hW) gl3 hO2).mono (by
                              rintro e w' ⟨v, rfl, hR, hb⟩
                              obtain ⟨A', c', rfl, hl', hC'⟩ := Kd.R_reads hR
                              exact ⟨A', c', rfl, hl', hC', bel2 hW hb, hb⟩)
                            have hsa2 : ∀ W A c, Below wr.heap.size wr W → o2.f3.length ≤ c → k31.C W A o2.f3.length o2.f3 → Calls Tryd.prog 23 #[.agg #[.int .i64 p.f0, .int .i64 p.f1, .string p.f2, .slice A3 p.f3.length c3], .agg #[.int .i64 o2.f0, .int .i64 o2.f1, .string o2.f2, .slice A o2.f3.length c]] W fun e w' => e = .returned (.bool true) ∧ Below wr.heap.size wr w' := fun W A c hW hl hC => by
                              have h := Same_calls p o2 A3 A c3 c W hl3 (c_below hC3 hW) hl hC
                              rw [hsm] at h
                              exact h.mono (fun e w' ⟨h1, h2⟩ => ⟨h1, bel2 hW h2⟩)
                            have HOWN2 := Lib.hid how2
                            have HSA2 := Lib.hid hsa2
                            clear how2 hsa2 hC3 gC3 hsm hO2 hRy
                            go_wp2_with fail
                            refine start_ (n := 11) (S := fun w' => w'.cell? (ad.add (kk * 4)) = some (.int .i64 p.f0) ∧ w'.cell? ⟨(ad.add (kk * 4)).block, (ad.add (kk * 4)).off + 1, none⟩ = some (.int .i64 p.f1) ∧ w'.cell? ⟨(ad.add (kk * 4)).block, (ad.add (kk * 4)).off + 2, none⟩ = some (.string p.f2) ∧ w'.cell? ⟨(ad.add (kk * 4)).block, (ad.add (kk * 4)).off + 3, none⟩ = some (.slice A3 p.f3.length c3) ∧ w'.cell? (bd.add (kk * 4)) = some (.int .i64 y.f0) ∧ w'.cell? ⟨(bd.add (kk * 4)).block, (bd.add (kk * 4)).off + 1, none⟩ = some (.int .i64 y.f1) ∧ w'.cell? ⟨(bd.add (kk * 4)).block, (bd.add (kk * 4)).off + 2, none⟩ = some (.string y.f2) ∧ w'.cell? ⟨(bd.add (kk * 4)).block, (bd.add (kk * 4)).off + 3, none⟩ = some (.slice B3 y.f3.length d3)) (ds := []) #[false, false, false, false, false, false, false, false, false, false, false] (by kernel_rfl) rfl rfl ⟨h0, h1, h2, h3, g0, g1, g2, g3⟩ (fun hHeld => ?_)
                            refine pure_ (i := 0) (N := some 112) (v := ?_) (a' := ?_) #[true, false, false, false, false, false, false, false, false, false, false] rfl rfl (by kernel_rfl) (fun _ _ _ h => h) (Or.inl ⟨by rfl, ?_⟩) ?_ ?_
                            rotate_left
                            · intro w'
                              go_simp
                              with_reducible rfl
                            rotate_left
                            · simp only [Act.put, List.setIfInBounds_toArray, List.set_cons_zero, List.set_cons_succ, i64_w, i32_w]
                              rfl
                            refine pure_ (i := 1) (N := some 113) (v := ?_) (a' := ?_) #[true, true, false, false, false, false, false, false, false, false, false] rfl rfl (by kernel_rfl) (fun _ _ _ h => h) (Or.inl ⟨by rfl, ?_⟩) ?_ ?_
                            rotate_left
                            · intro w'
                              go_simp
                              with_reducible rfl
                            rotate_left
                            · simp only [Act.put, List.setIfInBounds_toArray, List.set_cons_zero, List.set_cons_succ, i64_w, i32_w]
                              rfl
                            refine pure_ (i := 2) (N := some 114) (v := ?_) (a' := ?_) #[true, true, true, false, false, false, false, false, false, false, false] rfl rfl (by kernel_rfl) (fun _ _ _ h => h) (Or.inl ⟨by rfl, ?_⟩) ?_ ?_
                            rotate_left
                            · intro w'
                              go_simp
                              with_reducible rfl
                            rotate_left
                            · simp only [Act.put, List.setIfInBounds_toArray, List.set_cons_zero, List.set_cons_succ, i64_w, i32_w]
                              rfl
                            refine take_ (i := 3) (N := some 115) (v := ?_) (a' := ?_) #[true, true, true, true, false, false, false, false, false, false, false] rfl rfl (by kernel_rfl) (fun _ _ _ h => h) (Or.inl ⟨by rfl, ?_⟩) hHeld ?_ ?_
                            rotate_left
                            · rintro w' ⟨s0, s1, s2, s3, s4, s5, s6, s7⟩
                              go_simp
                              with_reducible rfl
                            rotate_left
                            · simp only [Act.put, List.setIfInBounds_toArray, List.set_cons_zero, List.set_cons_succ, i64_w, i32_w]
                              rfl
                            refine pure_ (i := 4) (N := some 116) (v := ?_) (a' := ?_) #[true, true, true, true, true, false, false, false, false, false, false] rfl rfl (by kernel_rfl) (fun _ _ _ h => h) (Or.inl ⟨by rfl, ?_⟩) ?_ ?_
                            rotate_left
                            · intro w'
                              go_simp
                              with_reducible rfl
                            rotate_left
                            · simp only [Act.put, List.setIfInBounds_toArray, List.set_cons_zero, List.set_cons_succ, i64_w, i32_w]
                              rfl
                            refine pure_ (i := 5) (N := some 117) (v := ?_) (a' := ?_) #[true, true, true, true, true, true, false, false, false, false, false] rfl rfl (by kernel_rfl) (fun _ _ _ h => h) (Or.inl ⟨by rfl, ?_⟩) ?_ ?_
                            rotate_left
                            · intro w'
                              go_simp
                              with_reducible rfl
                            rotate_left
                            · simp only [Act.put, List.setIfInBounds_toArray, List.set_cons_zero, List.set_cons_succ, i64_w, i32_w]
                              rfl
                            refine pure_ (i := 6) (N := some 118) (v := ?_) (a' := ?_) #[true, true, true, true, true, true, true, false, false, false, false] rfl rfl (by kernel_rfl) (fun _ _ _ h => h) (Or.inl ⟨by rfl, ?_⟩) ?_ ?_
                            rotate_left
                            · intro w'
                              go_simp
                              with_reducible rfl
                            rotate_left
                            · simp only [Act.put, List.setIfInBounds_toArray, List.set_cons_zero, List.set_cons_succ, i64_w, i32_w]
                              rfl
                            refine take_ (i := 7) (N := some 119) (v := ?_) (a' := ?_) #[true, true, true, true, true, true, true, true, false, false, false] rfl rfl (by kernel_rfl) (fun _ _ _ h => h) (Or.inl ⟨by rfl, ?_⟩) hHeld ?_ ?_
                            rotate_left
                            · rintro w' ⟨s0, s1, s2, s3, s4, s5, s6, s7⟩
                              go_simp
                              with_reducible rfl
                            rotate_left
                            · simp only [Act.put, List.setIfInBounds_toArray, List.set_cons_zero, List.set_cons_succ, i64_w, i32_w]
                              rfl
                            refine one_ (i := 8) (N := some 120) #[true, true, true, true, true, true, true, true, true, false, false] rfl rfl (by kernel_rfl) (by decide) (fun K hK => ?_)
                            refine goes_ Tryd.func11 (by kernel_rfl) rfl #[.agg #[.int .i64 y.f0, .int .i64 y.f1, .string y.f2, .slice B3 y.f3.length d3]] (by rfl) rfl rfl (by (try simp only [List.map_toArray, List.map_cons, List.map_nil]); first | done | rfl) ?_
                            refine (HOWN2.out _ ((Below.refl _ _).drew)).mono ?_
                            rintro e w3 ⟨A4, c4, rfl, hl4, hC4, hbA, hbB⟩
                            refine ⟨_, rfl, ?_⟩
                            refine hK.out _ _ ⟨pw_cell_below hbA h0, pw_cell_below hbA h1, pw_cell_below hbA h2, pw_cell_below hbA h3, pw_cell_below hbA g0, pw_cell_below hbA g1, pw_cell_below hbA g2, pw_cell_below hbA g3⟩ (fun hHeld => ?_)
                            clear hK K
                            refine norm_ (a' := ?_) ?_ ?_
                            rotate_left
                            · show Act.put _ (some 120) _ = _
                              simp only [Act.put, List.setIfInBounds_toArray, List.set_cons_zero, List.set_cons_succ, i64_w, i32_w]
                              rfl
                            refine one_ (i := 9) (N := some 121) #[true, true, true, true, true, true, true, true, true, true, false] rfl rfl (by kernel_rfl) (by decide) (fun K hK => ?_)
                            refine goes_ Tryd.func23 (by kernel_rfl) rfl #[.agg #[.int .i64 p.f0, .int .i64 p.f1, .string p.f2, .slice A3 p.f3.length c3], .agg #[.int .i64 o2.f0, .int .i64 o2.f1, .string o2.f2, .slice A4 o2.f3.length c4]] (by rfl) rfl rfl (by (try simp only [List.map_toArray, List.map_cons, List.map_nil]); first | done | rfl) ?_
                            refine (HSA2.out _ A4 c4 hbA hl4 hC4).mono ?_
                            rintro e w5 ⟨rfl, hb5⟩
                            refine ⟨_, rfl, ?_⟩
                            refine hK.out _ _ ⟨pw_cell_below hb5 h0, pw_cell_below hb5 h1, pw_cell_below hb5 h2, pw_cell_below hb5 h3, pw_cell_below hb5 g0, pw_cell_below hb5 g1, pw_cell_below hb5 g2, pw_cell_below hb5 g3⟩ (fun hHeld => ?_)
                            clear hK K
                            refine norm_ (a' := ?_) ?_ ?_
                            rotate_left
                            · show Act.put _ (some 121) _ = _
                              simp only [Act.put, List.setIfInBounds_toArray, List.set_cons_zero, List.set_cons_succ, i64_w, i32_w]
                              rfl
                            refine pure_ (i := 10) (N := some 122) (v := ?_) (a' := ?_) #[true, true, true, true, true, true, true, true, true, true, true] rfl rfl (by kernel_rfl) (fun _ _ _ h => h) (Or.inl ⟨by rfl, ?_⟩) ?_ ?_
                            rotate_left
                            · intro w'
                              go_simp
                              with_reducible rfl
                            rotate_left
                            · simp only [Act.put, List.setIfInBounds_toArray, List.set_cons_zero, List.set_cons_succ, i64_w, i32_w]
                              rfl
                            refine done_ (by kernel_rfl) ?_
                            go_wp2_with fail
                            go_roundw
                            case rel => exact ⟨kk + 1, by omega, by omega, by go_num, Lib.hid (bel2 HBR.out hb5)⟩
                            case measure => simp [intOf]; omega
                          · by_cases hx9 : kk < X.length
                            · have hltx : (kk : Int) < (X.length : Int) := by omega
                              have hltl : ¬ (kk : Int) < (l.length : Int) := by omega
                              go_wp2_with fail
                              go_meet
                              exact HBR
                            · have hltx : ¬ (kk : Int) < (X.length : Int) := by omega
                              go_wp2_with fail
                              go_meet
                              exact HBR
                      case rest =>
                        have HBR := hcut
                        have HF10 := Lib.hid (HF9.out.up HBR.out)
                        have HBH10 := Lib.hid ((HBR.out.block bb (Array.getElem?_eq_some_iff.1 HBH9.out).1).trans HBH9.out)
                        have HCB10 := Lib.hid (c_below HCB9.out HBR.out)
                        have HB10 := Lib.hid (bel2 HB9.out HBR.out)
                        have HAB := Lib.hid (HALL.out.2.2.2.2.2 HRB.out)
                        clear hcut HF9 HBH9 HCB9
                        have z0 := cell_in HBH10.out 0
                        have z1 := cell_in HBH10.out 1
                        have z2 := cell_in HBH10.out 2
                        have z3 := cell_in HBH10.out 3
                        go_wp2_with fail
                        refine (Scheme1_calls B1 Ab cb wc hlb HCB10.out HALL.out.2.2.2.1.1 HALL.out.2.2.2.1.2 HALL.out.2.2.2.2.1).mono ?_
                        rintro e t1 ⟨At, ct, rfl, hlt1, hCt, hbt⟩
                        have HBt := Lib.hid (bel2 HB10.out hbt)
                        have HCt := Lib.hid hCt
                        have HFt := Lib.hid (HF10.out.up hbt)
                        clear hbt hCt z0 z1 z2 z3 HBH10 HCB10 HF10
                        go_wp2_with fail
                        have hq0 := heap_new t1 (.cells #[.int .i64 (schV B1), .int .i64 (schT B1).f0, .int .i64 (schT B1).f1, .string (schT B1).f2, .slice At (schT B1).f3.length ct] 39)
                        have hqa : Below t1.heap.size t1 (t1.alloc (.cells #[.int .i64 (schV B1), .int .i64 (schT B1).f0, .int .i64 (schT B1).f1, .string (schT B1).f2, .slice At (schT B1).f3.length ct] 39)) := (Below.refl _ _).alloc (Nat.le_refl _) _
                        have hqz : t1.heap.size < (t1.alloc (.cells #[.int .i64 (schV B1), .int .i64 (schT B1).f0, .int .i64 (schT B1).f1, .string (schT B1).f2, .slice At (schT B1).f3.length ct] 39)).heap.size := by simp
                        generalize t1.alloc (.cells #[.int .i64 (schV B1), .int .i64 (schT B1).f0, .int .i64 (schT B1).f1, .string (schT B1).f2, .slice At (schT B1).f3.length ct] 39) = Wr at hq0 hqa hqz ⊢
                        have HBr := Lib.hid (bel2 HBt.out hqa)
                        have HCr := Lib.hid (c_below HCt.out hqa)
                        have HFr := Lib.hid (HFt.out.up hqa)
                        generalize t1.heap.size = qr at hq0 hqz ⊢
                        have hg0 : Fq Wr qr _ Wr := ⟨Below.refl _ _, hqz, hq0⟩
                        have HG0 := Lib.hid hg0
                        clear hq0 hqa hqz hg0
                        have how : ∀ W, Fq Wr qr (.cells #[.int .i64 (schV B1), .int .i64 (schT B1).f0, .int .i64 (schT B1).f1, .string (schT B1).f2, .slice At (schT B1).f3.length ct] 39 (0, 0)) W → Calls Tryd.prog 20 #[.slice Am m.length cm] W fun e w' => ∃ A c, e = .returned (.slice A ms.length c) ∧ ms.length ≤ c ∧ k31.C w' A ms.length ms ∧ Fq Wr qr (.cells #[.int .i64 (schV B1), .int .i64 (schT B1).f0, .int .i64 (schT B1).f1, .string (schT B1).f2, .slice At (schT B1).f3.length ct] 39 (0, 0)) w' ∧ Below W.heap.size W w' := fun W hF => (hammocklaw09_owns.calls km Am cm m ms W (c24_below HMC.out (bel2 HBr.out hF.1)) hmc HKM.out).mono (by
                          rintro e w' ⟨v, rfl, hR, hb⟩
                          obtain ⟨A', c', rfl, hl', hC'⟩ := Kd.R_reads hR
                          exact ⟨A', c', rfl, hl', hC', hF.up hb, hb⟩)
                        have HOWNm := Lib.hid how
                        have hsu : ∀ W Ao co, Fq Wr qr (.cells #[.int .i64 (schV B1), .int .i64 (schT B1).f0, .int .i64 (schT B1).f1, .string (schT B1).f2, .slice At (schT B1).f3.length ct] 39 (0, 0)) W → ms.length ≤ co → k31.C W Ao ms.length ms → Calls Tryd.prog 19 #[.agg #[.int .i64 (schT B1).f0, .int .i64 (schT B1).f1, .string (schT B1).f2, .slice At (schT B1).f3.length ct], .slice Ao ms.length co] W (TreeP W (substB (schT B1) ms)) := fun W Ao co hF hlo hCo => Subst_calls 400 (schT B1) At ct ms Ao co W hlt1 (c_below HCr.out hF.1) hlo hCo HFM.out
                        have HSUm := Lib.hid hsu
                        have HNZm := Lib.hid (nz_sub B1 HRB.out ms HRMS.out)
                        clear how hsu
                        go_cut [15] (fun s15 wx => Hid (BoxT Wr (substB (schT B1) ms) s15 wx) ∧ Hid (Fq Wr qr (.cells #[.int .i64 (schV B1), .int .i64 (schT B1).f0, .int .i64 (schT B1).f1, .string (schT B1).f2, .slice At (schT B1).f3.length ct] 39 (0, 0)) wx))
                        case first =>
                          have hF0 := HG0.out.dr
                          have y1 := cell_in hF0.2.2 1
                          have y2 := cell_in hF0.2.2 2
                          have y3 := cell_in hF0.2.2 3
                          have y4 := cell_in hF0.2.2 4
                          have yw1 : ∀ o, (Wr.alloc o).drew.cell? ⟨qr, 1, none⟩ = _ := fun o => cell_allocN o (cell_in HG0.out.2.2 1)
                          have yw2 : ∀ o, (Wr.alloc o).drew.cell? ⟨qr, 2, none⟩ = _ := fun o => cell_allocN o (cell_in HG0.out.2.2 2)
                          have yw3 : ∀ o, (Wr.alloc o).drew.cell? ⟨qr, 3, none⟩ = _ := fun o => cell_allocN o (cell_in HG0.out.2.2 3)
                          have yw4 : ∀ o, (Wr.alloc o).drew.cell? ⟨qr, 4, none⟩ = _ := fun o => cell_allocN o (cell_in HG0.out.2.2 4)
                          go_region_with (first
                            | (go_at_call 20; refine (HOWNm.out _ (by first | assumption | exact Fq.al (by assumption) _)).mono ?_; rintro e wo ⟨Ao, co, rfl, hlo, hCo, hFo, hbo⟩; have y1 := cell_in hFo.2.2 1; have y2 := cell_in hFo.2.2 2; have y3 := cell_in hFo.2.2 3; have y4 := cell_in hFo.2.2 4; have yy1 := fun o => cell_allocN o y1; have yy2 := fun o => cell_allocN o y2; have yy3 := fun o => cell_allocN o y3; have yy4 := fun o => cell_allocN o y4; try (have hz := (hbo.block Wr.heap.size (by simp)).trans (heap_new Wr _); have z0 := cell_in hz 0; have z1 := cell_in hz 1; have z2 := cell_in hz 2; have z3 := cell_in hz 3))
                            | (go_at_call 19; refine (HSUm.out _ Ao co (by first | assumption | exact Fq.al (by assumption) _) hlo (by first | assumption | exact c_below (by assumption) ((Below.refl _ _).alloc (Nat.le_refl _) _))).mono ?_; rintro e wp ⟨Ab, cb, rfl, hlb, hCb, hbp⟩; try (first | (have hzp := (hbp.block wo.heap.size (by simp)).trans (heap_new wo _); have z0 := cell_in hzp 0; have z1 := cell_in hzp 1; have z2 := cell_in hzp 2; have z3 := cell_in hzp 3; have f0 := frz_in hzp 0; have f1 := frz_in hzp 1; have f2 := frz_in hzp 2; have f3 := frz_in hzp 3) | (have hzp := (hbp.block Wr.heap.size (Array.getElem?_eq_some_iff.1 hz).1).trans hz; have z0 := cell_in hzp 0; have z1 := cell_in hzp 1; have z2 := cell_in hzp 2; have z3 := cell_in hzp 3; have f0 := frz_in hzp 0; have f1 := frz_in hzp 1; have f2 := frz_in hzp 2; have f3 := frz_in hzp 3))))
                          all_goals (go_wp2_with fail; go_meet)
                          all_goals first
                            | (have hz9 := hz; exact box_set (hFo.up hbp) (Nat.le_refl _) hzp hlb hCb HNZm.out)
                            | (have hz9 := hzp; exact box_set ((hFo.al _).up hbp) hFo.1.size hzp hlb hCb HNZm.out)
                            | exact ⟨Lib.hid (box_new (hFo.up hbp).1.size hlb hCb), Lib.hid (Fq.al (hFo.up hbp) _)⟩
                        case rest =>
                          obtain ⟨HBX2, HGc⟩ := hcut
                          obtain ⟨bc, Ac, cc, rfl, hbbc, hbhc, hlcc, hCc⟩ := HBX2.out
                          have HBHC := Lib.hid hbhc
                          have HCC := Lib.hid hCc
                          have HFw := Lib.hid (HFr.out.up HGc.out.1)
                          have HBw := Lib.hid (bel2 HBr.out HGc.out.1)
                          clear hbhc hCc HBX2 HOWNm HSUm HNZm hbbc HFr
                          have z0 := cell_in HBHC.out 0
                          have z1 := cell_in HBHC.out 1
                          have z2 := cell_in HBHC.out 2
                          have z3 := cell_in HBHC.out 3
                          have hsc := Scheme1_calls (substB (schT B1) ms) Ac cc wc hlcc HCC.out HAB.out.2.1.1 HAB.out.2.1.2 HAB.out.2.2.1
                          have HSC := Lib.hid hsc
                          clear hsc
                          generalize hC1 : substB (schT B1) ms = C1 at HAB HX2 HSC HCC HBHC hlcc z0 z1 z2 z3
                          go_wp2_with fail
                          refine HSC.out.mono ?_
                          rintro e r1 ⟨Au, cu, rfl, hlu, hCu, hbu⟩
                          have HBu := Lib.hid (bel2 HBw.out hbu)
                          have HS1 := Lib.hid (HFw.out.up hbu)
                          have HT1 := Lib.hid (HGc.out.up hbu)
                          have HCU := Lib.hid hCu
                          have HBHC1 := Lib.hid ((hbu.block bc (Array.getElem?_eq_some_iff.1 HBHC.out).1).trans HBHC.out)
                          have HCC1 := Lib.hid (c_below HCC.out hbu)
                          clear hbu hCu z0 z1 z2 z3 HBHC HCC HSC HFw HGc
                          have z0 := fun o => cell_allocN o (cell_in HBHC1.out 0)
                          have z1 := fun o => cell_allocN o (cell_in HBHC1.out 1)
                          have z2 := fun o => cell_allocN o (cell_in HBHC1.out 2)
                          have z3 := fun o => cell_allocN o (cell_in HBHC1.out 3)
                          go_wp2_with fail
                          have hq0 := heap_new r1 (.cells #[.int .i64 (schV C1), .int .i64 (schT C1).f0, .int .i64 (schT C1).f1, .string (schT C1).f2, .slice Au (schT C1).f3.length cu] 39)
                          have hqa : Below r1.heap.size r1 (r1.alloc (.cells #[.int .i64 (schV C1), .int .i64 (schT C1).f0, .int .i64 (schT C1).f1, .string (schT C1).f2, .slice Au (schT C1).f3.length cu] 39)) := (Below.refl _ _).alloc (Nat.le_refl _) _
                          have hqz : r1.heap.size < (r1.alloc (.cells #[.int .i64 (schV C1), .int .i64 (schT C1).f0, .int .i64 (schT C1).f1, .string (schT C1).f2, .slice Au (schT C1).f3.length cu] 39)).heap.size := by simp
                          clear z0 z1 z2 z3
                          generalize r1.alloc (.cells #[.int .i64 (schV C1), .int .i64 (schT C1).f0, .int .i64 (schT C1).f1, .string (schT C1).f2, .slice Au (schT C1).f3.length cu] 39) = Wu at hq0 hqa hqz ⊢
                          generalize hqe : r1.heap.size = qu at hq0 hqz ⊢
                          have HU0 := Lib.hid (show Fq Wu qu _ Wu from ⟨Below.refl _ _, hqz, hq0⟩)
                          have HS2 := Lib.hid (HS1.out.up hqa)
                          have HT2 := Lib.hid (HT1.out.up hqa)
                          have HBU := Lib.hid (bel2 HBu.out hqa)
                          have HCU2 := Lib.hid (c_below HCU.out hqa)
                          have HCC2 := Lib.hid (c_below HCC1.out hqa)
                          clear hq0 hqa hqz hqe HS1 HT1 HCC1 HBHC1
                          have hrc := Right_calls C1 Ac cc Wu hlcc HCC2.out
                          rw [show RightB C1 = rightB 400 C1 from rfl] at hrc
                          refine hrc.mono ?_
                          clear hrc
                          rintro e v0 ⟨rfl, hv0⟩
                          have HBv := Lib.hid (bel2 HBU.out hv0)
                          have HS3 := Lib.hid (HS2.out.up hv0)
                          have HT3 := Lib.hid (HT2.out.up hv0)
                          have HU3 := Lib.hid (HU0.out.up hv0)
                          clear hv0 HS2 HT2 HU0
                          have b0 := cell_in HT3.out.2.2 0
                          cases hrd : rightB 400 C1 with
                          | false =>
                            go_wp2_with fail
                            refine (knows_calls v0 (HT.out.below HBv.out)).mono ?_
                            rintro e wk ⟨rfl, hbk⟩
                            have HBk := Lib.hid (bel2 HBv.out hbk)
                            clear hbk
                            go_wp2_with fail
                            go_ret
                            exact ⟨rfl, HBk.out⟩
                          | true =>
                            by_cases h500 : schV B1 > 500
                            · have h500' := h500
                              go_wp2_with fail
                              refine (knows_calls v0 (HT.out.below HBv.out)).mono ?_
                              rintro e wk ⟨rfl, hbk⟩
                              have HBk := Lib.hid (bel2 HBv.out hbk)
                              clear hbk
                              go_wp2_with fail
                              go_ret
                              exact ⟨rfl, HBk.out⟩
                            · have h500' : ¬ schV B1 > 500 := h500
                              obtain ⟨hss, hst, htu, hsu2⟩ := HX2.out hrd (by omega)
                              have HSS := Lib.hid hss
                              have HST := Lib.hid hst
                              have HTU := Lib.hid htu
                              have HSU2 := Lib.hid hsu2
                              have HUF := Lib.hid (HAB.out.2.2.2 hrd)
                              clear hss hst htu hsu2 hrd
                              have ss0 := cell_in HS3.out.2.2 0
                              have ss1 := cell_in HS3.out.2.2 1
                              have ss2 := cell_in HS3.out.2.2 2
                              have ss3 := cell_in HS3.out.2.2 3
                              have ss4 := cell_in HS3.out.2.2 4
                              go_wp2_with fail
                              have hm := More_calls (schV t) (schV t) (schT t) (schT t) As As cs cs v0 hls1 (c_below HCq.out HS3.out.1) hls1 (c_below HCq.out HS3.out.1) HALL.out.2.2.1.1 HALL.out.2.2.1.2 HALL.out.2.2.1.1
                              rw [HSS.out] at hm
                              refine hm.mono ?_
                              clear hm ss0 ss1 ss2 ss3 ss4
                              rintro e v1 ⟨rfl, hv⟩
                              have HS4 := Lib.hid (HS3.out.up hv)
                              have HT4 := Lib.hid (HT3.out.up hv)
                              have HU4 := Lib.hid (HU3.out.up hv)
                              have HBv1 := Lib.hid (bel2 HBv.out hv)
                              clear hv HS3 HT3 HU3
                              have ss0 := cell_in HS4.out.2.2 0
                              have ss1 := cell_in HS4.out.2.2 1
                              have ss2 := cell_in HS4.out.2.2 2
                              have ss3 := cell_in HS4.out.2.2 3
                              have ss4 := cell_in HS4.out.2.2 4
                              have tt0 := cell_in HT4.out.2.2 0
                              have tt1 := cell_in HT4.out.2.2 1
                              have tt2 := cell_in HT4.out.2.2 2
                              have tt3 := cell_in HT4.out.2.2 3
                              have tt4 := cell_in HT4.out.2.2 4
                              go_wp2_with fail
                              have hm := More_calls (schV t) (schV B1) (schT t) (schT B1) As At cs ct v1 hls1 (c_below HCq.out HS4.out.1) hlt1 (c_below HCr.out HT4.out.1) HALL.out.2.2.1.1 HALL.out.2.2.1.2 HAB.out.1.1
                              rw [HST.out] at hm
                              refine hm.mono ?_
                              clear hm ss0 ss1 ss2 ss3 ss4 tt0 tt1 tt2 tt3 tt4
                              rintro e v2 ⟨rfl, hv⟩
                              have HS5 := Lib.hid (HS4.out.up hv)
                              have HT5 := Lib.hid (HT4.out.up hv)
                              have HU5 := Lib.hid (HU4.out.up hv)
                              have HBv2 := Lib.hid (bel2 HBv1.out hv)
                              clear hv HS4 HT4 HU4
                              have tt0 := cell_in HT5.out.2.2 0
                              have tt1 := cell_in HT5.out.2.2 1
                              have tt2 := cell_in HT5.out.2.2 2
                              have tt3 := cell_in HT5.out.2.2 3
                              have tt4 := cell_in HT5.out.2.2 4
                              have uu0 := cell_in HU5.out.2.2 0
                              have uu1 := cell_in HU5.out.2.2 1
                              have uu2 := cell_in HU5.out.2.2 2
                              have uu3 := cell_in HU5.out.2.2 3
                              have uu4 := cell_in HU5.out.2.2 4
                              go_wp2_with fail
                              have hm := More_calls (schV B1) (schV C1) (schT B1) (schT C1) At Au ct cu v2 hlt1 (c_below HCr.out HT5.out.1) hlu (c_below HCU2.out HU5.out.1) HAB.out.1.1 HAB.out.1.2 HUF.out.1
                              rw [HTU.out] at hm
                              refine hm.mono ?_
                              clear hm tt0 tt1 tt2 tt3 tt4 uu0 uu1 uu2 uu3 uu4
                              rintro e v3 ⟨rfl, hv⟩
                              have HS6 := Lib.hid (HS5.out.up hv)
                              have HT6 := Lib.hid (HT5.out.up hv)
                              have HU6 := Lib.hid (HU5.out.up hv)
                              have HBv3 := Lib.hid (bel2 HBv2.out hv)
                              clear hv HS5 HT5 HU5
                              have ss0 := cell_in HS6.out.2.2 0
                              have ss1 := cell_in HS6.out.2.2 1
                              have ss2 := cell_in HS6.out.2.2 2
                              have ss3 := cell_in HS6.out.2.2 3
                              have ss4 := cell_in HS6.out.2.2 4
                              have uu0 := cell_in HU6.out.2.2 0
                              have uu1 := cell_in HU6.out.2.2 1
                              have uu2 := cell_in HU6.out.2.2 2
                              have uu3 := cell_in HU6.out.2.2 3
                              have uu4 := cell_in HU6.out.2.2 4
                              go_wp2_with fail
                              have hm := More_calls (schV t) (schV C1) (schT t) (schT C1) As Au cs cu v3 hls1 (c_below HCq.out HS6.out.1) hlu (c_below HCU2.out HU6.out.1) HALL.out.2.2.1.1 HALL.out.2.2.1.2 HUF.out.1
                              rw [HSU2.out] at hm
                              refine hm.mono ?_
                              clear hm ss0 ss1 ss2 ss3 ss4 uu0 uu1 uu2 uu3 uu4
                              rintro e v4 ⟨rfl, hv⟩
                              have HS7 := Lib.hid (HS6.out.up hv)
                              have HT7 := Lib.hid (HT6.out.up hv)
                              have HU7 := Lib.hid (HU6.out.up hv)
                              have HBv4 := Lib.hid (bel2 HBv3.out hv)
                              clear hv HS6 HT6 HU6
                              go_wp2_with fail
                              refine (knows_calls v4 (HT.out.below HBv4.out)).mono ?_
                              rintro e wk ⟨rfl, hbk⟩
                              have HBk := Lib.hid (bel2 HBv4.out hbk)
                              clear hbk
                              go_wp2_with fail
                              go_ret
                              exact ⟨rfl, HBk.out⟩
end Go.Proofs.YtddmdiaopaoekaaDoor.P
