/- A number. -/
import Derived.Test.YtiioanpmfpefcaaDoorTok
import Derived.Test.YtiioanpmfpefcaaDoorShelf
namespace Go.Proofs.YtiioanpmfpefcaaDoor.Tok
open Go.RowKit Go.Proofs.YtiioanpmfpefcaaDoor.P Go.Proofs.YtiioanpmfpefcaaDoorW.PrintWords

def isErrV (ev : Value) : Prop := ev = .nilIface ∨ ∃ te pe, ev = .iface te pe
/-- What the numbers' reader asks of the variables. -/
def GOK (w : World) : Prop := (∃ ev, w.cell? ⟨2, 0, none⟩ = some ev ∧ isErrV ev) ∧ ∃ ev, w.cell? ⟨3, 0, none⟩ = some ev ∧ isErrV ev
theorem drew_below (w : World) : Below w.heap.size w w.drew := (Below.refl _ _).drew
theorem cell_same {w w' : World} {b : Nat} (h : w'.heap[b]? = w.heap[b]?) : w'.cell? ⟨b, 0, none⟩ = w.cell? ⟨b, 0, none⟩ := by
  unfold World.cell?; simp only [h]
theorem cell_lt {w : World} {b : Nat} {v : Value} (h : w.cell? ⟨b, 0, none⟩ = some v) : b < w.heap.size := by
  unfold World.cell? at h
  rcases Nat.lt_or_ge b w.heap.size with h' | h'
  · exact h'
  · simp [Array.getElem?_eq_none h'] at h
theorem GOK.lt {w : World} (h : GOK w) : 3 < w.heap.size := by obtain ⟨_, ev, h3, _⟩ := h; exact cell_lt h3
theorem GOK.kp {g : Nat} {w w' : World} (h : GOK w) (hg : 3 < g) (hk : Kp g w w') : GOK w' := by
  have hl := h.lt
  obtain ⟨⟨e2, h2, k2⟩, e3, h3, k3⟩ := h
  exact ⟨⟨e2, (cell_same (hk.blk (by omega) (by omega))).trans h2, k2⟩, e3, (cell_same (hk.blk (by omega) (by omega))).trans h3, k3⟩
theorem GOK.below {w w' : World} (h : GOK w) (hk : Below w.heap.size w w') : GOK w' := by
  have hl := h.lt
  obtain ⟨⟨e2, h2, k2⟩, e3, h3, k3⟩ := h
  exact ⟨⟨e2, (cell_same (hk.block _ (by omega))).trans h2, k2⟩, e3, (cell_same (hk.block _ (by omega))).trans h3, k3⟩
/-- A numeral's number. -/
def numV (l : List UInt8) : Option Int := match Lib.atoiAll l with | .ok v => some v | _ => none
def AtoiP (o : Option Int) (w : World) (e : Ending) (w' : World) : Prop :=
  (∃ v, o = some v ∧ e = .returned (.tuple #[.int .i64 v, .nilIface]) ∧ Below w.heap.size w w') ∨ (∃ x N, o = none ∧ e = .returned (.tuple #[.int .i64 x, .iface 110 (.pointer (some ⟨N, 0, none⟩))]) ∧ Below w.heap.size w w')
theorem atoi_calls (s : ByteArray) (hs : s.size ≤ 140737488351232) (w : World) (hG : GOK w) : Calls Tryd.prog 60 #[.string s] w (AtoiP (numV s.data.toList) w) := by
  unfold numV
  cases h : Lib.atoiAll s.data.toList with
  | ok v =>
    refine (Tryd.strconv_Atoi_ok s (by omega) v h w).mono ?_
    rintro e w' ⟨rfl, (rfl | ⟨t, rfl⟩)⟩
    · exact .inl ⟨v, rfl, rfl, Below.refl _ _⟩
    · exact .inl ⟨v, rfl, rfl, Lib.bytesWorld_below _ _ _⟩
  | range =>
    obtain ⟨_, ev, hv, hev⟩ := hG
    refine (Tryd.strconv_Atoi_range s (by omega) h ev w hv hev).mono ?_
    rintro e w' ⟨N, rfl, _, _, hb⟩
    exact .inr ⟨_, N, rfl, rfl, hb⟩
  | _ =>
    obtain ⟨⟨ev, hv, hev⟩, _⟩ := hG
    refine (Tryd.strconv_Atoi_syntax s (by omega) h ev w hv hev).mono ?_
    rintro e w' ⟨N, rfl, _, _, hb⟩
    exact .inr ⟨_, N, rfl, rfl, hb⟩
theorem atoi_good (s : ByteArray) (hs : s.size ≤ 140737488351232) (v : Int) (h : numV s.data.toList = some v) (w : World) (hG : GOK w) : Calls Tryd.prog 60 #[.string s] w fun e w' => e = .returned (.tuple #[.int .i64 v, .nilIface]) ∧ Below w.heap.size w w' :=
  (atoi_calls s hs w hG).mono fun e w' hp => by
    rcases hp with ⟨v', h1, h2, h3⟩ | ⟨x, N, h1, h2, h3⟩
    · rw [h] at h1; cases h1; exact ⟨h2, h3⟩
    · rw [h] at h1; cases h1
theorem atoi_bad (s : ByteArray) (hs : s.size ≤ 140737488351232) (h : numV s.data.toList = none) (w : World) (hG : GOK w) : Calls Tryd.prog 60 #[.string s] w fun e w' => (∃ x N, e = .returned (.tuple #[.int .i64 x, .iface 110 (.pointer (some ⟨N, 0, none⟩))])) ∧ Below w.heap.size w w' :=
  (atoi_calls s hs w hG).mono fun e w' hp => by
    rcases hp with ⟨v', h1, h2, h3⟩ | ⟨x, N, h1, h2, h3⟩
    · rw [h] at h1; cases h1
    · exact ⟨⟨x, N, h2⟩, h3⟩
/-- What may not stand behind a number. -/
def badNext : List UInt8 → Bool
  | [] => false
  | c :: _ => isInner c && c != 39
def numL (l : List UInt8) : One :=
  match numV (l.take (runL isDig l)) with
  | none => .bad 0 21
  | some v => if badNext (l.drop (runL isDig l)) then .bad (runL isDig l) 20 else .tok 3 (runL isDig l) (l.take (runL isDig l)) v
theorem drop_case (s : ByteArray) (j : Nat) : (s.size ≤ j ∧ s.data.toList.drop j = []) ∨ ∃ c, j < s.size ∧ s.data.toList.drop j = c :: s.data.toList.drop (j + 1) ∧ ∀ hj : j < s.size, s[j]'hj = c := by
  rcases Nat.lt_or_ge j s.size with h | h
  · have h2 : j < s.data.toList.length := by rw [← size_eq]; exact h
    refine .inr ⟨s.data.toList[j], h, List.drop_eq_getElem_cons h2, fun hj => rfl⟩
  · exact .inl ⟨h, List.drop_of_length_le (by rw [← size_eq]; exact h)⟩
theorem quiet_inner (c : UInt8) (w : World) (n : Nat) (b : Bool) (hb : isInner c = b) : Calls Tryd.prog 57 #[.int .u8 c.toNat] (w.drewN n) fun e w'' => e = .returned (.bool b) ∧ ∃ m, w'' = w.drewN m :=
  Calls.quiet_of ((inner_calls c _).mono fun _ _ ⟨he, hd⟩ => ⟨by rw [he, hb], dr hd⟩)
theorem dig_enters0 : ∀ args w, (callFunc 59 args).run Tryd.prog w = .ok (.enter 59 args) w := enters_of Tryd.func59 (by kernel_rfl) rfl
set_option maxHeartbeats 4000000 in
set_option maxRecDepth 100000 in
theorem number_calls (g : Nat) (s : ByteArray) (i : Nat) (fa fe : Int) (w : World) (h : Sc g s i fa fe w) (hG : GOK w) (hg : 3 < g) (hi : i < s.size) (hs : s.size ≤ 140737488351232) :
    Calls Tryd.prog 45 #[.pointer (some ⟨g, 0, none⟩)] w (OneP g s i (numL (s.data.toList.drop i)) fa fe w) := by
  have H := Lib.hid h
  have hlt := h.lt
  have hr2 := runL_le isDig (s.data.toList.drop i)
  rw [List.length_drop, ← size_eq] at hr2
  clear h
  go_enter Tryd.func45, Tryd.ntmps45
  go_wp2_with fail
  rw [← zt]
  have HSq := Lib.hid (H.out.alloc zt)
  have HKq := Lib.hid ((Kp.refl g w).alloc zt)
  have HG := Lib.hid (hG.kp hg HKq.out)
  have hz := zt_new w
  have hls : w.heap.size < (w.alloc zt).heap.size := Lib.heap_lt (zt_new w)
  have hne : ¬ w.heap.size = g := by omega
  clear hG
  generalize w.alloc zt = wq at HSq HKq hz hls HG ⊢
  have HZ := Lib.hid hz
  clear hz
  have c0 := HSq.out.c0; have c1 := HSq.out.c1
  go_quiet ((go_at_call 41; exact quiet_run0 59 isDig dig_enters0 dig_calls s i _ hs (by omega) _))
  have HE : Hid (numL (s.data.toList.drop i) = match numV ((s.data.toList.drop i).take (runL isDig (s.data.toList.drop i))) with
    | none => .bad 0 21
    | some v => if badNext (s.data.toList.drop (i + runL isDig (s.data.toList.drop i))) then .bad (runL isDig (s.data.toList.drop i)) 20 else .tok 3 (runL isDig (s.data.toList.drop i)) ((s.data.toList.drop i).take (runL isDig (s.data.toList.drop i))) v) := Lib.hid (by
      unfold numL; rw [List.drop_drop])
  have HSz := Lib.hid (HSq.out.drewN nq)
  have HKz := Lib.hid (HKq.out.drewN nq)
  have HGz := Lib.hid (HG.out.below (Drawn0.below ⟨nq, rfl⟩))
  have HZz : Hid ((wq.drewN nq).heap[w.heap.size]? = some zt) := Lib.hid HZ.out
  clear c0 c1 HSq HKq HG HZ hls
  generalize wq.drewN nq = wz at HSz HKz HGz HZz ⊢
  have c0 := HSz.out.c0; have c1 := HSz.out.c1
  have ex := extract_eq s i (runL isDig (s.data.toList.drop i))
  generalize runL isDig (s.data.toList.drop i) = r at *
  have e1 : (0 : Int) ≤ (i : Int) := by omega
  have e2 : (i : Int) ≤ (i : Int) + (r : Int) := by omega
  have e3 : (i : Int) + (r : Int) ≤ (s.size : Int) := by omega
  have e5 : (0 : Int) ≤ (r : Int) := by omega
  have e6 : (0 : Int) ≤ (i : Int) + (r : Int) := by omega
  have hxs : (s.extract i (i + r)).size ≤ 140737488351232 := by rw [ByteArray.size_extract]; omega
  generalize hl : (s.data.toList.drop i).take r = l at ex HE
  have hxl : (s.extract i (i + r)).data.toList = l := by rw [ex]
  cases hv : numV l with
  | none =>
    rw [hv] at HE
    go_wp2_with fail
    go_region_with (go_at_call 60; refine (atoi_bad _ hxs (by rw [hxl]; exact hv) _ (HGz.out.below (Drawn0.below ⟨_, rfl⟩))).mono ?_; rintro e w3 ⟨⟨x, N, rfl⟩, hb3⟩)
    all_goals
      have HS3 := Lib.hid ((HSz.out.drewN _).below hb3)
      have HK3 := Lib.hid ((HKz.out.drewN _).below hb3)
      have hz3 := (hb3.block _ (Lib.heap_lt HZz.out)).trans HZz.out
      clear HSz HKz HZz HGz hb3 c0 c1
      have hls := Lib.heap_lt hz3
      have HZ3 := Lib.hid hz3
      clear hz3
      have c0 := HS3.out.c0; have c1 := HS3.out.c1
      go_wp2_with fail
      refine (fail_calls g s i fa fe i 21 _ (HS3.out.drewN 0)).mono ?_
      rintro e w4 ⟨rfl, hS4, hK4⟩
      have hz4 := (hK4.blk (z := w.heap.size) hls hne).trans HZ3.out
      obtain ⟨⟨z0, z1, z2, z3, z4⟩, f0, f1, f2, f3, f4⟩ := tk_cells (zt_tk ▸ hz4)
      have hKw := Lib.hid ((HK3.out.drewN 0).trans hK4)
      have hS4' := Lib.hid hS4
      have hn4 : ¬ g = w.heap.size := by omega
      clear hS4 hK4 hz4
      go_wp2_with fail
      exact bodyPost_ret (v := .tuple #[.agg #[.int .i64 0, .int .i64 0, .int .i64 0, .string ⟨#[]⟩, .int .i64 0], .bool false]) (by simp [results, Tryd.results45, go_sem, *]) rfl (by rw [HE.out]; exact ⟨rfl, hS4'.out.set5 hn4 _ _ _ _ _, hKw.out.set5 (Nat.le_refl _) _ _ _ _ _⟩)
  | some v =>
    rw [hv] at HE
    have HD := drop_case s (i + r)
    go_wp2_with fail
    go_region_with (go_at_call 60; refine (atoi_good _ hxs v (by rw [hxl]; exact hv) _ (HGz.out.below (Drawn0.below ⟨_, rfl⟩))).mono ?_; rintro e w3 ⟨rfl, hb3⟩)
    all_goals
      have HS3 := Lib.hid ((HSz.out.drewN _).below hb3)
      have HK3 := Lib.hid ((HKz.out.drewN _).below hb3)
      have hz3 := (hb3.block _ (Lib.heap_lt HZz.out)).trans HZz.out
      clear HSz HKz HZz HGz hb3 c0 c1
      have hls := Lib.heap_lt hz3
      have HZ3 := Lib.hid hz3
      clear hz3
      have c0 := HS3.out.c0; have c1 := HS3.out.c1
      rcases HD with ⟨hge, hd⟩ | ⟨c, hlt2, hd, hb⟩
      · rw [hd] at HE
        have g1 : decide ((i : Int) + (r : Int) < (s.size : Int)) = false := decide_eq_false (by omega)
        have HE2 : Hid (numL (s.data.toList.drop i) = .tok 3 r l v) := Lib.hid HE.out
        clear HE
        go_wp2_with fail
        refine (take_calls g s i (i + r) 3 fa fe _ (HS3.out.drewN 0) (by omega) (by omega)).mono ?_
        rintro e w6 ⟨rfl, hS6, hK6⟩
        have hz6 := (hK6.blk (z := w.heap.size) hls hne).trans HZ3.out
        have hK6' := Lib.hid ((HK3.out.drewN 0).trans hK6)
        have hS6' := Lib.hid hS6
        have hg6 := hS6.lt
        have hl6 := Lib.heap_lt hz6
        obtain ⟨⟨z0, z1, z2, z3, z4⟩, f0, f1, f2, f3, f4⟩ := tk_cells (zt_tk ▸ hz6)
        have hn1 : ¬ w.heap.size = w6.heap.size := by omega
        have hn2 : ¬ w6.heap.size = w.heap.size := by omega
        have hn4 : ¬ g = w.heap.size := by omega
        rw [ex]
        clear hS6 hK6 c0 c1 hz6
        go_wp2_with fail
        exact bodyPost_ret (v := .tuple #[.agg #[.int .i64 3, .int .i64 i, .int .i64 ((i : Int) + r), .string ⟨l.toArray⟩, .int .i64 v], .bool true]) (by simp [results, Tryd.results45, go_sem, *]) rfl (by rw [HE2.out]; exact ⟨rfl, (hS6'.out.set5 hn4 _ _ _ _ _).alloc _, (hK6'.out.set5 (Nat.le_refl _) _ _ _ _ _).alloc _⟩)
      · rw [hd] at HE
        have g1 : decide ((i : Int) + (r : Int) < (s.size : Int)) = true := decide_eq_true (by omega)
        have e7 : (i : Int) + (r : Int) < (s.size : Int) := by omega
        cases hin : isInner c with
        | false =>
          have HE2 : Hid (numL (s.data.toList.drop i) = .tok 3 r l v) := Lib.hid (by rw [HE.out]; simp [badNext, hin])
          clear HE
          go_wp2_with fail
          refine (inner_calls c _).mono ?_
          rintro e w5 ⟨rfl, ⟨nd, rfl⟩⟩
          rw [hin]
          go_wp2_with fail
          refine (take_calls g s i (i + r) 3 fa fe _ (HS3.out.drewN nd) (by omega) (by omega)).mono ?_
          rintro e w6 ⟨rfl, hS6, hK6⟩
          have hz6 := (hK6.blk (z := w.heap.size) hls hne).trans HZ3.out
          have hK6' := Lib.hid ((HK3.out.drewN nd).trans hK6)
          have hS6' := Lib.hid hS6
          have hg6 := hS6.lt
          have hl6 := Lib.heap_lt hz6
          obtain ⟨⟨z0, z1, z2, z3, z4⟩, f0, f1, f2, f3, f4⟩ := tk_cells (zt_tk ▸ hz6)
          have hn1 : ¬ w.heap.size = w6.heap.size := by omega
          have hn2 : ¬ w6.heap.size = w.heap.size := by omega
          have hn4 : ¬ g = w.heap.size := by omega
          rw [ex]
          clear hS6 hK6 c0 c1 hz6
          go_wp2_with fail
          exact bodyPost_ret (v := .tuple #[.agg #[.int .i64 3, .int .i64 i, .int .i64 ((i : Int) + r), .string ⟨l.toArray⟩, .int .i64 v], .bool true]) (by simp [results, Tryd.results45, go_sem, *]) rfl (by rw [HE2.out]; exact ⟨rfl, (hS6'.out.set5 hn4 _ _ _ _ _).alloc _, (hK6'.out.set5 (Nat.le_refl _) _ _ _ _ _).alloc _⟩)
        | true =>
          by_cases h39 : c = 39
          · have g3 : ((c.toNat : Int) == 39) = true := by rw [h39]; rfl
            have HE2 : Hid (numL (s.data.toList.drop i) = .tok 3 r l v) := Lib.hid (by rw [HE.out]; simp [badNext, h39])
            clear HE h39
            go_wp2_with fail
            refine (inner_calls c _).mono ?_
            rintro e w5 ⟨rfl, ⟨nd, rfl⟩⟩
            rw [hin]
            go_wp2_with fail
            refine (take_calls g s i (i + r) 3 fa fe _ (HS3.out.drewN nd) (by omega) (by omega)).mono ?_
            rintro e w6 ⟨rfl, hS6, hK6⟩
            have hz6 := (hK6.blk (z := w.heap.size) hls hne).trans HZ3.out
            have hK6' := Lib.hid ((HK3.out.drewN nd).trans hK6)
            have hS6' := Lib.hid hS6
            have hg6 := hS6.lt
            have hl6 := Lib.heap_lt hz6
            obtain ⟨⟨z0, z1, z2, z3, z4⟩, f0, f1, f2, f3, f4⟩ := tk_cells (zt_tk ▸ hz6)
            have hn1 : ¬ w.heap.size = w6.heap.size := by omega
            have hn2 : ¬ w6.heap.size = w.heap.size := by omega
            have hn4 : ¬ g = w.heap.size := by omega
            rw [ex]
            clear hS6 hK6 c0 c1 hz6
            go_wp2_with fail
            exact bodyPost_ret (v := .tuple #[.agg #[.int .i64 3, .int .i64 i, .int .i64 ((i : Int) + r), .string ⟨l.toArray⟩, .int .i64 v], .bool true]) (by simp [results, Tryd.results45, go_sem, *]) rfl (by rw [HE2.out]; exact ⟨rfl, (hS6'.out.set5 hn4 _ _ _ _ _).alloc _, (hK6'.out.set5 (Nat.le_refl _) _ _ _ _ _).alloc _⟩)
          · have g3 : ((c.toNat : Int) == 39) = false := beq_eq_false_iff_ne.2 (fun h => h39 (UInt8.toNat_inj.1 (Int.ofNat_inj.1 h)))
            have HE2 : Hid (numL (s.data.toList.drop i) = .bad r 20) := Lib.hid (by rw [HE.out]; simp [badNext, h39, hin])
            clear HE h39
            go_wp2_with fail
            refine (inner_calls c _).mono ?_
            rintro e w5 ⟨rfl, ⟨nd, rfl⟩⟩
            rw [hin]
            go_wp2_with fail
            refine (fail_calls g s i fa fe ((i + r : Nat) : Int) 20 _ (HS3.out.drewN nd)).mono ?_
            rintro e w4 ⟨rfl, hS4, hK4⟩
            have hz4 := (hK4.blk (z := w.heap.size) hls hne).trans HZ3.out
            obtain ⟨⟨z0, z1, z2, z3, z4⟩, f0, f1, f2, f3, f4⟩ := tk_cells (zt_tk ▸ hz4)
            have hKw := Lib.hid ((HK3.out.drewN nd).trans hK4)
            have hS4' := Lib.hid hS4
            have hn4 : ¬ g = w.heap.size := by omega
            clear hS4 hK4 hz4
            go_wp2_with fail
            exact bodyPost_ret (v := .tuple #[.agg #[.int .i64 0, .int .i64 0, .int .i64 0, .string ⟨#[]⟩, .int .i64 0], .bool false]) (by simp [results, Tryd.results45, go_sem, *]) rfl (by rw [HE2.out]; exact ⟨rfl, hS4'.out.set5 hn4 _ _ _ _ _, hKw.out.set5 (Nat.le_refl _) _ _ _ _ _⟩)
end Go.Proofs.YtiioanpmfpefcaaDoor.Tok
