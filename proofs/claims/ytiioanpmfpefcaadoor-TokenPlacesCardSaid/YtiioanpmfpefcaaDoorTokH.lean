/- A quoted sign, a quoted text. -/
import Derived.Test.YtiioanpmfpefcaaDoorTok
import Derived.Test.YtiioanpmfpefcaaDoorGlyB
namespace Go.Proofs.YtiioanpmfpefcaaDoor.Tok
open Go.RowKit Go.Proofs.YtiioanpmfpefcaaDoor.P Go.Proofs.YtiioanpmfpefcaaDoorW.PrintWords

/-- What a sign within quotes stands for, and how long it is. -/
def unescL (l : List UInt8) : Option (UInt8 × Nat) :=
  match l with
  | [] => none
  | c :: t =>
    if (c.toNat : Int) < 32 ∨ 126 < (c.toNat : Int) then none
    else if (c.toNat : Int) ≠ 92 then some (c, 1)
    else match t with
      | [] => none
      | d :: u =>
        if findFst (d.toNat : Int) < 5 then some (UInt8.ofNat (psnd (findFst (d.toNat : Int))).toNat, 2)
        else if (d.toNat : Int) ≠ 120 then none
        else match u with
          | x :: y :: _ => if hxb (x.toNat : Int) < 0 ∨ hxb (y.toNat : Int) < 0 then none else some (UInt8.ofNat (hxb (x.toNat : Int) * 16 + hxb (y.toNat : Int)).toNat, 4)
          | _ => none
theorem byte_back (v : Int) (h0 : 0 ≤ v) (h1 : v < 256) : ((UInt8.ofNat v.toNat).toNat : Int) = v := by
  rw [UInt8.toNat_ofNat']; omega
theorem psnd_byte (k : Nat) (h : k < 5) : 0 ≤ psnd k ∧ psnd k < 256 := by
  match k, h with
  | 0, _ => decide
  | 1, _ => decide
  | 2, _ => decide
  | 3, _ => decide
  | 4, _ => decide
theorem drop_two {s : ByteArray} {j : Nat} {c : UInt8} {t : List UInt8} (h : s.data.toList.drop j = c :: t) : s.data.toList[j]? = some c ∧ j < s.size ∧ s.data.toList.drop (j + 1) = t := by
  have hl := congrArg List.length h
  rw [List.length_drop, ← size_eq, List.length_cons] at hl
  have hj : j < s.data.toList.length := by rw [← size_eq]; omega
  have h2 := List.drop_eq_getElem_cons hj
  rw [h2] at h
  injection h with h3 h4
  exact ⟨by rw [List.getElem?_eq_getElem hj, h3], by omega, h4⟩
theorem unesc_eq (s : ByteArray) (j : Nat) : unesc s j = match unescL (s.data.toList.drop j) with
    | none => (0, (j : Int), false)
    | some (b, n) => ((b.toNat : Int), ((j + n : Nat) : Int), true) := by
  unfold unesc
  cases h : s.data.toList.drop j with
  | nil =>
    have hl := congrArg List.length h
    rw [List.length_drop, ← size_eq, List.length_nil] at hl
    rw [if_pos (by omega)]; rfl
  | cons c t =>
    obtain ⟨h0, hj, h1⟩ := drop_two h
    rw [if_neg (by omega), bt_q s j c h0]
    unfold unescL
    by_cases k1 : (c.toNat : Int) < 32 ∨ 126 < (c.toNat : Int)
    · rw [if_pos k1]; simp only [if_pos k1]
    · rw [if_neg k1]; simp only [if_neg k1]
      by_cases k2 : (c.toNat : Int) ≠ 92
      · rw [if_pos k2]; simp only [if_pos k2]; rfl
      · rw [if_neg k2]; simp only [if_neg k2]
        cases t with
        | nil =>
          have hl := congrArg List.length h
          rw [List.length_drop, ← size_eq, List.length_cons, List.length_nil] at hl
          rw [if_pos (by omega)]
        | cons d u =>
          obtain ⟨g0, gj, g1⟩ := drop_two h1
          rw [if_neg (by omega), show ((j : Int) + 1) = ((j + 1 : Nat) : Int) by omega, bt_q s (j + 1) d g0]
          by_cases k3 : findFst (d.toNat : Int) < 5
          · rw [if_pos k3]; simp only [if_pos k3]
            have := psnd_byte _ k3
            rw [byte_back _ this.1 this.2]; rfl
          · rw [if_neg k3]; simp only [if_neg k3]
            by_cases k4 : (d.toNat : Int) ≠ 120
            · rw [if_pos (.inl k4)]; simp only [if_pos k4]
            · simp only [if_neg k4]
              have hl := congrArg List.length h
              rw [List.length_drop, ← size_eq, List.length_cons, List.length_cons] at hl
              match u, g1, hl with
              | [], _, hl => rw [if_pos (.inr (by simp at hl; omega))]
              | [x], _, hl => rw [if_pos (.inr (by simp at hl; omega))]
              | x :: y :: z, g1, hl =>
                simp only [List.length_cons] at hl
                rw [if_neg (by rintro (h | h); exact k4 h; omega)]
                obtain ⟨m0, mj, m1⟩ := drop_two g1
                obtain ⟨n0, nj, n1⟩ := drop_two m1
                have hx2 : hx s ((j : Int) + 2) = hxb (x.toNat : Int) := by unfold hx; rw [show ((j : Int) + 2) = ((j + 1 + 1 : Nat) : Int) by omega, bt_q s _ x m0]
                have hx3 : hx s ((j : Int) + 3) = hxb (y.toNat : Int) := by unfold hx; rw [show ((j : Int) + 3) = ((j + 1 + 1 + 1 : Nat) : Int) by omega, bt_q s _ y n0]
                rw [hx2, hx3]
                have q1 := hxb_lt (x.toNat : Int); have q2 := hxb_lt (y.toNat : Int)
                by_cases k5 : hxb (x.toNat : Int) < 0 ∨ hxb (y.toNat : Int) < 0
                · rw [if_pos k5]; simp only [if_pos k5]
                · rw [if_neg k5]; simp only [if_neg k5]
                  rw [byte_back _ (by omega) (by omega)]; rfl
theorem unescL_le {l : List UInt8} {b : UInt8} {n : Nat} (h : unescL l = some (b, n)) : 1 ≤ n ∧ n ≤ l.length := by
  unfold unescL at h
  repeat' split at h
  all_goals first | (cases h; done) | (simp only [Option.some.injEq, Prod.mk.injEq] at h; obtain ⟨_, rfl⟩ := h; simp only [List.length_cons]; omega)
theorem un_none (s : ByteArray) (j : Nat) (w : World) (hs : s.size ≤ 140737488351232) (h : unescL (s.data.toList.drop j) = none) :
    Calls Tryd.prog 61 #[.string s, .int .i64 j] w fun e w' => e = .returned (.tuple #[.int .u8 0, .int .i64 j, .bool false]) ∧ Below w.heap.size w w' :=
  glyph_Unescape.calls s j _ _ _ w (by unfold glyph_Unescape.f; rw [if_pos (by omega), unesc_eq, h])
theorem un_some (s : ByteArray) (j : Nat) (w : World) (hs : s.size ≤ 140737488351232) {b : UInt8} {n : Nat} (h : unescL (s.data.toList.drop j) = some (b, n)) :
    Calls Tryd.prog 61 #[.string s, .int .i64 j] w fun e w' => e = .returned (.tuple #[.int .u8 b.toNat, .int .i64 ((j + n : Nat) : Int), .bool true]) ∧ Below w.heap.size w w' :=
  glyph_Unescape.calls s j _ _ _ w (by unfold glyph_Unescape.f; rw [if_pos (by omega), unesc_eq, h])

attribute [irreducible] unescL
/-- What stands between quotes: the signs behind those that are there already; how many bytes to behind the end. -/
def qs (q : UInt8) : Nat → List UInt8 → List UInt8 → Option (List UInt8 × Nat)
  | 0, _, _ => none
  | f + 1, l, acc =>
    match l with
    | [] => none
    | c :: _ =>
      if c = q then some (acc, 1)
      else match unescL l with
        | none => none
        | some (b, n) => if acc.length = 256 then none else (qs q f (l.drop n) (acc ++ [b])).map fun r => (r.1, r.2 + n)
theorem qs_two (q : UInt8) : ∀ (f f' : Nat) (l acc : List UInt8), l.length < f → l.length < f' → qs q f l acc = qs q f' l acc
  | 0, _, _, _, h, _ => by omega
  | _ + 1, 0, _, _, _, h => by omega
  | f + 1, f' + 1, [], acc, _, _ => by rw [qs, qs]
  | f + 1, f' + 1, c :: t, acc, h, h' => by
    rw [qs, qs]
    split
    · rfl
    · cases hn : unescL (c :: t) with
      | none => rfl
      | some bn =>
        obtain ⟨b, n⟩ := bn
        simp only []
        have := unescL_le hn
        split
        · rfl
        · rw [qs_two q f f' _ _ (by rw [List.length_drop]; simp only [List.length_cons] at h ⊢; omega) (by rw [List.length_drop]; simp only [List.length_cons] at h' ⊢; omega)]
def qsL (q : UInt8) (l acc : List UInt8) : Option (List UInt8 × Nat) := qs q (l.length + 1) l acc
theorem qsL_nil (q : UInt8) (acc : List UInt8) : qsL q [] acc = none := rfl
theorem qsL_cons (q c : UInt8) (t acc : List UInt8) : qsL q (c :: t) acc =
    if c = q then some (acc, 1)
    else match unescL (c :: t) with
      | none => none
      | some (b, n) => if acc.length = 256 then none else (qsL q ((c :: t).drop n) (acc ++ [b])).map fun r => (r.1, r.2 + n) := by
  unfold qsL
  rw [qs]
  split
  · rfl
  · cases hn : unescL (c :: t) with
    | none => rfl
    | some bn =>
      obtain ⟨b, n⟩ := bn
      simp only []
      have := unescL_le hn
      split
      · rfl
      · rw [qs_two q (c :: t).length (((c :: t).drop n).length + 1) _ _ (by rw [List.length_drop]; simp only [List.length_cons]; omega) (by omega)]
def quotedL (l : List UInt8) : One :=
  match l with
  | [] => .bad 0 22
  | q :: t =>
    match qsL q t [] with
    | none => .bad 0 22
    | some (acc, m) => if q = 39 ∧ acc.length ≠ 1 then .bad 0 22 else .tok (if q = 39 then 4 else 5) (m + 1) acc (if q = 39 then (acc.getD 0 0).toNat else 0)
end Go.Proofs.YtiioanpmfpefcaaDoor.Tok
/- A quoted sign or text: the walk. -/
namespace Go.Proofs.YtiioanpmfpefcaaDoor.Tok
open Go.RowKit Go.Proofs.YtiioanpmfpefcaaDoor.P Go.Proofs.YtiioanpmfpefcaaDoorW.PrintWords
/-- Bytes as a row's cells. -/
def u8s (l : List UInt8) : List Value := l.map fun c => .int .u8 (c.toNat : Int)
theorem u8s_eq (l : List UInt8) : u8s l = (l.map fun c => (c.toNat : Int)).map (Value.int .u8) := by
  unfold u8s; rw [List.map_map]; rfl
theorem nums_bytes (l : List UInt8) : strOfNums (l.map fun c => (c.toNat : Int)) = ⟨l.toArray⟩ := by
  unfold strOfNums
  rw [List.map_map]
  congr 2
  conv => rhs; rw [← List.map_id l]
  congr 1
  funext c
  simp
theorem infoB : (Tryd.prog.info? 5).map (fun i => (i.zero, i.size, i.bytes)) = some (some (.int .u8 0), 1, 1) := by kernel_rfl
theorem conv_row (W : World) (B : Nat) (v : Value) (xs : List UInt8) (h : W.ownsRow B 5 1 v xs.length (u8s xs)) :
    (convert 38 9 v).run Tryd.prog W = .ok (.string ⟨xs.toArray⟩) W := by
  rw [← nums_bytes]
  rw [u8s_eq] at h
  generalize hy : (xs.map fun c => (c.toNat : Int)) = ys at h
  have hl : xs.length = ys.length := by rw [← hy, List.length_map]
  rw [hl] at h
  rcases h.2 with ⟨rfl, h0⟩ | ⟨g, cap, cur, rfl, _⟩
  · obtain rfl : ys = [] := List.length_eq_zero_iff.1 h0
    exact run_convert_bytes_nil W 38 5 Tryd.underlying38 Tryd.underlying5 0 0 9 Tryd.underlying9
  · refine run_convert_bytes_arg W 38 5 Tryd.underlying38 Tryd.underlying5 g 0 _ cap ys rfl (fun i hi => ?_) 9 Tryd.underlying9
    have := h.cells (g := g) rfl i (.int .u8 (ys.getD i 0)) (by rw [List.getElem?_map, List.getElem?_eq_getElem hi, List.getD_eq_getElem?_getD, List.getElem?_eq_getElem hi]; rfl)
    cases i <;> simpa [Addr.add] using this

theorem at_q0 {s : ByteArray} {j : Nat} {c : UInt8} (h : s.data.toList[j]? = some c) : ∀ hj : j < s.size, s[j]'hj = c := fun hj => by
  have h2 : j < s.data.toList.length := by rw [← size_eq]; exact hj
  have := List.getElem?_eq_getElem h2
  rw [h] at this
  exact (Option.some.inj this).symm
theorem drop_cons0 {s : ByteArray} {j : Nat} (h : j < s.size) : ∃ c, s.data.toList[j]? = some c ∧ s.data.toList.drop j = c :: s.data.toList.drop (j + 1) :=
  ⟨_, List.getElem?_eq_getElem (by rw [← size_eq]; exact h), List.drop_eq_getElem_cons _⟩
theorem own_shape {w : World} {base : Nat} {e : TypeId} {size : Nat} {v : Value} {n : Nat} {xs : List Value} (h : w.ownsRow base e size v n xs) : ∃ A c, v = .slice A n c := by
  rcases h.2 with ⟨rfl, h0⟩ | ⟨g, cap, cur, rfl, _⟩
  · subst h0; exact ⟨_, _, rfl⟩
  · exact ⟨_, _, rfl⟩
theorem Kp.grown {g : Nat} {a b c : World} (h : Kp g a b) {row : Option Nat} (hg : b.grownBy c row) (hr : ∀ k, row = some k → a.heap.size ≤ k) : Kp g a c :=
  ⟨hg.os.trans h.os, hg.tape.trans h.tape, hg.output.trans h.output, Nat.le_trans h.size hg.size, fun i hi hne => (hg.block i (Nat.lt_of_lt_of_le hi h.size) (fun e => absurd (hr i e.symm) (by omega))).trans (h.block i hi hne)⟩
theorem blk_grown {b c : World} {row : Option Nat} (hg : b.grownBy c row) {z : Nat} (hz : z < b.heap.size) {base : Nat} (hr : ∀ k, row = some k → base ≤ k) (hb : z < base) : c.heap[z]? = b.heap[z]? :=
  hg.block z hz (fun e => absurd (hr z e.symm) (by omega))
theorem Sc.grown {g : Nat} {s : ByteArray} {i : Nat} {fa fe : Int} {b c : World} (h : Sc g s i fa fe b) {row : Option Nat} (hg : b.grownBy c row) {base : Nat} (hr : ∀ k, row = some k → base ≤ k) (hb : g < base) : Sc g s i fa fe c :=
  (blk_grown hg h.lt hr hb).trans h
set_option maxHeartbeats 4000000 in
set_option maxRecDepth 100000 in
theorem quoted_calls (g : Nat) (s : ByteArray) (i : Nat) (fa fe : Int) (w : World) (h : Sc g s i fa fe w) (hi : i < s.size) (hs : s.size ≤ 140737488351232) :
    Calls Tryd.prog 46 #[.pointer (some ⟨g, 0, none⟩)] w (OneP g s i (quotedL (s.data.toList.drop i)) fa fe w) := by
  obtain ⟨i0, hi0, hz0, hz1, hz2⟩ := info_parts infoB
  have H := Lib.hid h
  have hlt := h.lt
  obtain ⟨q, hq, hcons⟩ : ∃ q, s.data.toList[i]? = some q ∧ s.data.toList.drop i = q :: s.data.toList.drop (i + 1) :=
    ⟨_, List.getElem?_eq_getElem (by rw [← size_eq]; exact hi), List.drop_eq_getElem_cons _⟩
  have hb : ∀ hj : i < s.size, s[i]'hj = q := fun hj => by
    have h2 : i < s.data.toList.length := by rw [← size_eq]; exact hj
    have := List.getElem?_eq_getElem h2
    rw [hq] at this
    exact (Option.some.inj this).symm
  clear h hq
  have HC := Lib.hid hcons
  clear hcons
  have e1 : (0 : Int) ≤ (i : Int) := by omega
  have e2 : (i : Int) < (s.size : Int) := by omega
  go_enter Tryd.func46, Tryd.ntmps46
  go_wp2_with fail
  rw [← zt]
  have HSq := Lib.hid (H.out.alloc zt)
  have HKq := Lib.hid ((Kp.refl g w).alloc zt)
  have hz := zt_new w
  have hls : (w.alloc zt).heap.size = w.heap.size + 1 := by simp
  have hne : ¬ w.heap.size = g := by omega
  generalize w.alloc zt = wq at HSq HKq hz hls ⊢
  have HZ := Lib.hid hz
  clear hz
  have c0 := HSq.out.c0; have c1 := HSq.out.c1
  go_quiet (fail)
  have HSp := Lib.hid (HSq.out.drewN nq)
  have HKp := Lib.hid (HKq.out.drewN nq)
  have HZp : Hid ((wq.drewN nq).heap[w.heap.size]? = some zt) := Lib.hid HZ.out
  have hlp : (wq.drewN nq).heap.size = w.heap.size + 1 := hls
  clear HSq HKq HZ hls c0 c1 hb
  generalize wq.drewN nq = wp at HSp HKp HZp hlp ⊢
  have c1 := HSp.out.c1
  go_wp2_with fail
  clear c1
  go_loopg [5, 6] (s.size - (i + 1)) (fun kq v5 v6 wr => ∃ (acc : List UInt8) (j : Nat), v6 = .int .i64 j ∧ kq = s.size - j ∧ i + 1 ≤ j ∧ j ≤ s.size ∧ acc.length ≤ 256 ∧ wr.ownsRow (w.heap.size + 1) 5 1 v5 acc.length (u8s acc) ∧ Hid (Sc g s i fa fe wr) ∧ Hid (Kp g w wr) ∧ Hid (wr.heap[w.heap.size]? = some zt) ∧ w.heap.size + 1 ≤ wr.heap.size ∧
    Hid (qsL q (s.data.toList.drop (i + 1)) [] = (qsL q (s.data.toList.drop j) acc).map fun r => (r.1, r.2 + (j - (i + 1)))))
  case atStart => exact ⟨[], i + 1, rfl, rfl, Nat.le_refl _, by omega, by simp, World.ownsRow_nil _ _ _ _, HSp, HKp, HZp, by omega, Lib.hid (by simp)⟩
  case round =>
    obtain ⟨acc, j, rfl, hk, hij, hj, hacc, hown, HS, HK, HZ, hsz, HE⟩ := hrel
    have HKq := Lib.hid hk
    clear hk HSp HKp HZp hlp
    have c0 := HS.out.c0; have c1 := HS.out.c1
    have hls := Lib.heap_lt HZ.out
    obtain ⟨A, cap, rfl⟩ := own_shape hown
    by_cases hlt2 : j < s.size
    · obtain ⟨c, hc, hcons⟩ := drop_cons0 hlt2
      have hb := at_q0 hc
      have HC2 := Lib.hid hcons
      have e3 : (0 : Int) ≤ (j : Int) := by omega
      have e4 : (j : Int) < (s.size : Int) := by omega
      have hE2 := HE.out
      rw [hcons, qsL_cons] at hE2
      clear hc hcons HE
      by_cases hcq : c = q
      · rw [if_pos hcq] at hE2
        have HE := Lib.hid hE2
        have hb2 : ∀ hj : j < s.size, s[j]'hj = q := fun hj => (hb hj).trans hcq
        clear hE2 hb hcq
        by_cases k39 : q = 39
        · by_cases kl : acc.length = 1
          · have HE2 : Hid (quotedL (s.data.toList.drop i) = .tok 4 (j + 1 - i) acc ((acc.getD 0 0).toNat : Int)) := Lib.hid (by
              unfold quotedL; rw [HC.out]; simp only; rw [HE.out]; simp only [Option.map_some]; rw [if_neg (by omega), if_pos k39, if_pos k39]; congr 1; omega)
            have g1 : ((q.toNat : Int) == 39) = true := by rw [k39]; rfl
            have g2 : ((acc.length : Int) != 1) = false := by rw [kl]; rfl
            obtain ⟨a, rfl⟩ : ∃ a, acc = [a] := by
              match acc, kl with
              | [a], _ => exact ⟨a, rfl⟩
            obtain ⟨gb, rfl⟩ : ∃ gb, A = some ⟨gb, 0, none⟩ := by
              rcases hown.2 with ⟨_, h0⟩ | ⟨gb, cap', cur, hv, _⟩
              · cases h0
              · simp only [Value.slice.injEq] at hv; exact ⟨gb, hv.1⟩
            have hgb := hown.lt gb rfl
            clear k39 kl
            go_wp2_with fail
            refine (take_calls g s i (j + 1) 5 fa fe _ (HS.out.drewN 0) (by omega) (by omega)).mono ?_
            rintro e w6 ⟨rfl, hS6, hK6⟩
            have hown6 := hown.kept (row := some g) hK6 (.inr (fun e => by simp [Value.ownBlock] at e; omega))
            have hcv : ∀ o, (convert 38 9 (.slice (some ⟨gb, 0, none⟩) 1 cap)).run Tryd.prog (w6.alloc o) = .ok (.string ⟨#[a]⟩) (w6.alloc o) := fun o => conv_row (w6.alloc o) _ _ _ (hown6.alloc o)
            have hcl : w6.cell? ⟨gb, 0, none⟩ = some (.int .u8 a.toNat) := by simpa [Addr.add] using hown6.cells (g := gb) rfl 0 (.int .u8 a.toNat) rfl
            have hgb6 := (hown6.lt gb rfl).2
            have hn5 : ¬ gb = w6.heap.size := by omega
            have hz6 := (hK6.blk (z := w.heap.size) hls hne).trans HZ.out
            have hK6' := Lib.hid ((HK.out.drewN 0).trans hK6)
            have hS6' := Lib.hid hS6
            have hg6 := hS6.lt
            have hl6 := Lib.heap_lt hz6
            obtain ⟨⟨z0, z1, z2, z3, z4⟩, f0, f1, f2, f3, f4⟩ := tk_cells (zt_tk ▸ hz6)
            have hn1 : ¬ w.heap.size = w6.heap.size := by omega
            have hn2 : ¬ w6.heap.size = w.heap.size := by omega
            have hn4 : ¬ g = w.heap.size := by omega
            have hj2 : i + (j + 1 - i) = j + 1 := by omega
            clear hS6 hK6 c0 c1 hz6 hown hown6
            go_wp2_with fail
            go_region
            go_wp2_with fail
            have hw : wrap64 (a.toNat : Int) = a.toNat := by have := a.toNat_lt; unfold wrap64; omega
            exact bodyPost_ret (v := .tuple #[.agg #[.int .i64 4, .int .i64 i, .int .i64 ((j : Int) + 1), .string ⟨#[a]⟩, .int .i64 (wrap64 a.toNat)], .bool true]) (by simp [results, Tryd.results46, go_sem, *]) rfl (by rw [HE2.out, hw]; unfold OneP; simp only; rw [hj2]; exact ⟨rfl, ((hS6'.out.set5 hn4 _ _ _ _ _).alloc _).drew, ((hK6'.out.set5 (Nat.le_refl _) _ _ _ _ _).alloc _).drew⟩)
          · have HE2 : Hid (quotedL (s.data.toList.drop i) = .bad 0 22) := Lib.hid (by
              unfold quotedL; rw [HC.out]; simp only; rw [HE.out]; simp only [Option.map_some]; rw [if_pos ⟨k39, kl⟩])
            have g1 : ((q.toNat : Int) == 39) = true := by rw [k39]; rfl
            have g2 : ((acc.length : Int) != 1) = true := bne_iff_ne.2 (by omega)
            clear k39 hown
            go_wp2_with fail
            refine (fail_calls g s i fa fe i 22 _ (HS.out.drewN 0)).mono ?_
            rintro e w4 ⟨rfl, hS4, hK4⟩
            have hz4 := (hK4.blk (z := w.heap.size) hls hne).trans HZ.out
            obtain ⟨⟨z0, z1, z2, z3, z4⟩, f0, f1, f2, f3, f4⟩ := tk_cells (zt_tk ▸ hz4)
            have hKw := Lib.hid ((HK.out.drewN 0).trans hK4)
            have hS4' := Lib.hid hS4
            have hn4 : ¬ g = w.heap.size := by omega
            clear hS4 hK4 hz4
            go_wp2_with fail
            exact bodyPost_ret (v := .tuple #[.agg #[.int .i64 0, .int .i64 0, .int .i64 0, .string ⟨#[]⟩, .int .i64 0], .bool false]) (by simp [results, Tryd.results46, go_sem, *]) rfl (by rw [HE2.out]; exact ⟨rfl, hS4'.out.set5 hn4 _ _ _ _ _, hKw.out.set5 (Nat.le_refl _) _ _ _ _ _⟩)
        · have HE2 : Hid (quotedL (s.data.toList.drop i) = .tok 5 (j + 1 - i) acc 0) := Lib.hid (by
            unfold quotedL; rw [HC.out]; simp only; rw [HE.out]; simp only [Option.map_some]; rw [if_neg (fun h => k39 h.1), if_neg k39, if_neg k39]; congr 1; omega)
          have g1 : ((q.toNat : Int) == 39) = false := beq_eq_false_iff_ne.2 (fun h => k39 (UInt8.toNat_inj.1 (Int.ofNat_inj.1 h)))
          clear k39
          go_wp2_with fail
          refine (take_calls g s i (j + 1) 5 fa fe _ (HS.out.drewN 0) (by omega) (by omega)).mono ?_
          rintro e w6 ⟨rfl, hS6, hK6⟩
          have hown6 := hown.kept (row := some g) hK6 (by
            rcases hA : (Value.slice A acc.length cap).ownBlock with _ | k
            · exact .inl rfl
            · have := (hown.lt k hA).1
              exact .inr (by simp; omega))
          have hcv := fun o => conv_row (w6.alloc o) _ _ _ (hown6.alloc o)
          have hz6 := (hK6.blk (z := w.heap.size) hls hne).trans HZ.out
          have hK6' := Lib.hid ((HK.out.drewN 0).trans hK6)
          have hS6' := Lib.hid hS6
          have hg6 := hS6.lt
          have hl6 := Lib.heap_lt hz6
          obtain ⟨⟨z0, z1, z2, z3, z4⟩, f0, f1, f2, f3, f4⟩ := tk_cells (zt_tk ▸ hz6)
          have hn1 : ¬ w.heap.size = w6.heap.size := by omega
          have hn2 : ¬ w6.heap.size = w.heap.size := by omega
          have hn4 : ¬ g = w.heap.size := by omega
          clear hS6 hK6 c0 c1 hz6 hown hown6
          have hj2 : i + (j + 1 - i) = j + 1 := by omega
          go_wp2_with fail
          exact bodyPost_ret (v := .tuple #[.agg #[.int .i64 5, .int .i64 i, .int .i64 ((j : Int) + 1), .string ⟨acc.toArray⟩, .int .i64 0], .bool true]) (by simp [results, Tryd.results46, go_sem, *]) rfl (by rw [HE2.out]; unfold OneP; simp only; rw [hj2]; exact ⟨rfl, (hS6'.out.set5 hn4 _ _ _ _ _).alloc _, (hK6'.out.set5 (Nat.le_refl _) _ _ _ _ _).alloc _⟩)
      · rw [if_neg hcq] at hE2
        have g1 : ((c.toNat : Int) == (q.toNat : Int)) = false := beq_eq_false_iff_ne.2 (fun h => hcq (UInt8.toNat_inj.1 (Int.ofNat_inj.1 h)))
        have HQ := Lib.hid hcq
        clear hcq
        cases hu : unescL (c :: s.data.toList.drop (j + 1)) with
        | none =>
          rw [hu] at hE2
          have HE2 : Hid (quotedL (s.data.toList.drop i) = .bad 0 22) := Lib.hid (by
            unfold quotedL; rw [HC.out]; simp only; rw [hE2]; rfl)
          clear hE2
          have hu2 := Lib.hid hu
          clear hu
          go_wp2_with fail
          refine (un_none s j _ hs (by rw [HC2.out]; exact hu2.out)).mono ?_
          rintro e w2 ⟨rfl, hb2⟩
          have HZ := Lib.hid ((hb2.block _ hls).trans HZ.out)
          have HS := Lib.hid (HS.out.below hb2)
          have HK := Lib.hid (HK.out.below hb2)
          have hls := Lib.heap_lt HZ.out
          have c1 := HS.out.c1
          clear hown
          go_wp2_with fail
          refine (fail_calls g s i fa fe i 22 _ (HS.out.drewN 0)).mono ?_
          rintro e w4 ⟨rfl, hS4, hK4⟩
          have hz4 := (hK4.blk (z := w.heap.size) hls hne).trans HZ.out
          obtain ⟨⟨z0, z1, z2, z3, z4⟩, f0, f1, f2, f3, f4⟩ := tk_cells (zt_tk ▸ hz4)
          have hKw := Lib.hid ((HK.out.drewN 0).trans hK4)
          have hS4' := Lib.hid hS4
          have hn4 : ¬ g = w.heap.size := by omega
          clear hS4 hK4 hz4
          go_wp2_with fail
          exact bodyPost_ret (v := .tuple #[.agg #[.int .i64 0, .int .i64 0, .int .i64 0, .string ⟨#[]⟩, .int .i64 0], .bool false]) (by simp [results, Tryd.results46, go_sem, *]) rfl (by rw [HE2.out]; exact ⟨rfl, hS4'.out.set5 hn4 _ _ _ _ _, hKw.out.set5 (Nat.le_refl _) _ _ _ _ _⟩)
        | some bn =>
          obtain ⟨b, n⟩ := bn
          have hle := unescL_le hu
          rw [← HC2.out, List.length_drop, ← size_eq] at hle
          rw [hu] at hE2
          simp only at hE2
          have hu2 := Lib.hid hu
          clear hu
          by_cases k256 : acc.length = 256
          · rw [if_pos k256] at hE2
            have HE2 : Hid (quotedL (s.data.toList.drop i) = .bad 0 22) := Lib.hid (by
              unfold quotedL; rw [HC.out]; simp only; rw [hE2]; rfl)
            clear hE2
            have g2 : ((acc.length : Int) == 256) = true := by rw [k256]; rfl
            go_wp2_with fail
            refine (un_some s j _ hs (by rw [HC2.out]; exact hu2.out)).mono ?_
            rintro e w2 ⟨rfl, hb2⟩
            have HZ := Lib.hid ((hb2.block _ hls).trans HZ.out)
            have HS := Lib.hid (HS.out.below hb2)
            have HK := Lib.hid (HK.out.below hb2)
            have hls := Lib.heap_lt HZ.out
            have c1 := HS.out.c1
            clear hown k256
            go_wp2_with fail
            refine (fail_calls g s i fa fe i 22 _ (HS.out.drewN 0)).mono ?_
            rintro e w4 ⟨rfl, hS4, hK4⟩
            have hz4 := (hK4.blk (z := w.heap.size) hls hne).trans HZ.out
            obtain ⟨⟨z0, z1, z2, z3, z4⟩, f0, f1, f2, f3, f4⟩ := tk_cells (zt_tk ▸ hz4)
            have hKw := Lib.hid ((HK.out.drewN 0).trans hK4)
            have hS4' := Lib.hid hS4
            have hn4 : ¬ g = w.heap.size := by omega
            clear hS4 hK4 hz4
            go_wp2_with fail
            exact bodyPost_ret (v := .tuple #[.agg #[.int .i64 0, .int .i64 0, .int .i64 0, .string ⟨#[]⟩, .int .i64 0], .bool false]) (by simp [results, Tryd.results46, go_sem, *]) rfl (by rw [HE2.out]; exact ⟨rfl, hS4'.out.set5 hn4 _ _ _ _ _, hKw.out.set5 (Nat.le_refl _) _ _ _ _ _⟩)
          · rw [if_neg k256] at hE2
            rw [← HC2.out, List.drop_drop] at hE2
            have HE : Hid (qsL q (s.data.toList.drop (i + 1)) [] = (qsL q (s.data.toList.drop (j + n)) (acc ++ [b])).map fun r => (r.1, r.2 + (j + n - (i + 1)))) := Lib.hid (by
              rw [hE2, Option.map_map]; congr 1; funext r; simp only [Function.comp]; congr 1; omega)
            clear hE2
            have g2 : ((acc.length : Int) == 256) = false := beq_eq_false_iff_ne.2 (by omega)
            go_wp2_with fail
            refine (un_some s j _ hs (by rw [HC2.out]; exact hu2.out)).mono ?_
            rintro e w2 ⟨rfl, hb2⟩
            have hown2 := hown.kept (row := none) ⟨hb2.os, hb2.tape, hb2.output, hb2.size, fun k hk _ => hb2.block k hk⟩ (Decidable.em _)
            have HZ := Lib.hid ((hb2.block _ hls).trans HZ.out)
            have HS := Lib.hid (HS.out.below hb2)
            have HK := Lib.hid (HK.out.below hb2)
            have hls := Lib.heap_lt HZ.out
            go_wp2_with (at_builtin; refine wpList_append_own _ rfl _ _ 38 rfl (w.heap.size + 1) 5 i0 (.int .u8 0) 1 1 Tryd.underlying38 hi0 hz0 hz1 hz2 rfl (by decide) _ _ _ rfl (hown2.alloc _) ⟨w2.heap.size, 0, none⟩ 1 1 [.int .u8 b.toNat] rfl rfl ?c1 ?c2 ?c3 ?c4 ?c5 ?_)
            case c1 =>
              intro j u hj
              match j, hj with
              | 0, hj => simp at hj; subst hj; simp [Addr.add]
            case c2 => intro u hu; simp at hu; subst hu; rfl
            case c3 => unfold maxLen; omega
            case c4 => omega
            case c5 => have := hb2.size; simp; omega
            intro v' w3 hown' hgrow _
            have hrow : ∀ k, (Value.slice A acc.length cap).ownBlock = some k → w.heap.size + 1 ≤ k := fun k hk => (hown2.lt k hk).1
            have hsz2 := hb2.size
            have hsz3 := hgrow.size
            have HZ3 := Lib.hid ((blk_grown hgrow (z := w.heap.size) (by simp; omega) hrow (by omega)).trans ((Lib.alloc_old w2 _ _ hls).trans HZ.out))
            have HS3 := Lib.hid ((HS.out.alloc _).grown hgrow hrow (by omega))
            have HK3 := Lib.hid ((HK.out.alloc _).grown hgrow (fun k hk => by have := hrow k hk; omega))
            go_wp2_with fail
            go_roundg (s.size - (j + n))
            case measure => rw [HKq.out]; omega
            case rel => exact ⟨acc ++ [b], j + n, rfl, rfl, by omega, by omega, by simp; omega, by simpa [u8s] using hown', HS3, HK3, HZ3, by simp at hsz3; omega, HE⟩
    · have HE2 : Hid (quotedL (s.data.toList.drop i) = .bad 0 22) := Lib.hid (by
        unfold quotedL; rw [HC.out]; simp only; rw [HE.out, List.drop_of_length_le (by rw [← size_eq]; omega), qsL_nil]; rfl)
      have e3 : ¬ (j : Int) < (s.size : Int) := by omega
      clear hown
      go_wp2_with fail
      refine (fail_calls g s i fa fe i 22 _ (HS.out.drewN 0)).mono ?_
      rintro e w4 ⟨rfl, hS4, hK4⟩
      have hz4 := (hK4.blk (z := w.heap.size) hls hne).trans HZ.out
      obtain ⟨⟨z0, z1, z2, z3, z4⟩, f0, f1, f2, f3, f4⟩ := tk_cells (zt_tk ▸ hz4)
      have hKw := Lib.hid ((HK.out.drewN 0).trans hK4)
      have hS4' := Lib.hid hS4
      have hn4 : ¬ g = w.heap.size := by omega
      clear hS4 hK4 hz4
      go_wp2_with fail
      exact bodyPost_ret (v := .tuple #[.agg #[.int .i64 0, .int .i64 0, .int .i64 0, .string ⟨#[]⟩, .int .i64 0], .bool false]) (by simp [results, Tryd.results46, go_sem, *]) rfl (by rw [HE2.out]; exact ⟨rfl, hS4'.out.set5 hn4 _ _ _ _ _, hKw.out.set5 (Nat.le_refl _) _ _ _ _ _⟩)
end Go.Proofs.YtiioanpmfpefcaaDoor.Tok
