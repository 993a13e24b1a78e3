/- The walk of TypesAnew (under way). -/
import Derived.Test.YtddmdiaopaoekaaDoorPlG
namespace Go.Proofs.YtddmdiaopaoekaaDoor.P
open Go.RowKit Go.Shelf Go.Proofs.YtddmdiaopaoekaaDoorW.PrintWords Go.Proofs.YtddmdiaopaoekaaDoorW.PrintLast Go.Proofs.YtddmdiaopaoekaaDoor.Rw
set_option linter.unusedVariables false
set_option linter.unusedSimpArgs false
theorem c24_below {w W : World} {A : Option Addr} {xs : List S24} (hC : k24.C w A xs.length xs) (hb : Below w.heap.size w W) : k24.C W A xs.length xs := Kd.C_below hC hb
theorem row1_24 {W : World} {b : Nat} {x : S24} {A : Option Addr} {c : Nat} (h : W.heap[b]? = some (.cells #[.int .i64 x.f0, .int .i64 x.f1, .string x.f2, .slice A x.f3.length c] 24 (0, 0))) (hc : x.f3.length ≤ c) (hC : k24.C W A x.f3.length x.f3) :
    k24.C W (some ⟨b, 0, none⟩) [x].length [x] := by
  refine ⟨rfl, by simp, fun _ => ⟨⟨b, 0, none⟩, rfl, fun j p hj => ?_⟩⟩
  match j, hj with
  | 0, hj =>
    obtain rfl : x = p := by simpa using hj
    refine ⟨_, rfl, k24_mk W x hc hC, fun i u hu => ?_⟩
    rw [add_g]
    match i, hu with
    | 0, hu => simp [World.cell?, h]; simpa using hu
    | 1, hu => simp [World.cell?, h]; simpa using hu
    | 2, hu => simp [World.cell?, h]; simpa using hu
    | 3, hu => simp [World.cell?, h]; simpa using hu
    | i + 4, hu => simp at hu
  | j + 1, hj => simp at hj
theorem Right24_ex (x : S24) : ∃ k, hammockref09_Right.f k x.f0 x.f1 x.f2 x.f3 = some (rightB 400 (ownN 400 x)) := by
  obtain ⟨k, hk⟩ := right_ex 400 x (by omega)
  refine ⟨k, ?_⟩
  unfold hammockref09_Right.f
  have : ((400 : Nat) : Int) = 400 := rfl
  rw [this] at hk
  rw [hk]
  rfl
set_option maxHeartbeats 8000000 in
set_option maxRecDepth 100000 in
theorem Anew_calls (m : Nat) (x : S24) (A : Option Addr) (c : Nat) (b : Int) (w : World) (hc : x.f3.length ≤ c) (hC : k24.C w A x.f3.length x.f3) (ho : ok24 m x) (hn : nm24 m x) (hwf : ∀ v, v ∈ varsL (ownN 400 x) → (Lit.int .i64 v).wf = true) (hb : (Lit.int .i64 b).wf = true) (hT : TabOK w) :
    Calls Tryd.prog 5 #[.agg #[.int .i64 x.f0, .int .i64 x.f1, .string x.f2, .slice A x.f3.length c], .int .i64 b] w fun e w' => e = .returned (.bool true) ∧ Below w.heap.size w w' := by
  obtain ⟨kL, rL, hL⟩ := light_ex m [x] (by simp) (fun y hy => by
    obtain rfl : y = x := by simpa using hy
    exact ho)
  obtain ⟨kR, hR⟩ := Right24_ex x
  have HC := Lib.hid hC
  have HT := Lib.hid hT
  have HL := Lib.hid hL
  have HRf := Lib.hid hR
  have HWF := Lib.hid hwf
  have HO := Lib.hid ho
  have HN := Lib.hid hn
  have HBW := Lib.hid hb
  clear hC hT hL hR hwf ho hn hb
  go_enter Tryd.func5, Tryd.ntmps5
  go_wp2_with fail
  have hb2 : Below w.heap.size w ((w.alloc (.cells #[.int .i64 x.f0, .int .i64 x.f1, .string x.f2, .slice A x.f3.length c] 24)).alloc (.cells #[.int .i64 x.f0, .int .i64 x.f1, .string x.f2, .slice A x.f3.length c] 24)) := ((Below.refl _ _).alloc (Nat.le_refl _) _).alloc (by simp) _
  refine (hammocklaw09_Light.calls kL _ 1 [x] rL _ (row1_24 (new2_b w _ _) hc (c24_below HC.out hb2)) (Nat.le_refl _) HL.out).mono ?_
  rintro e w2 ⟨rfl, hb3⟩
  have hbx := (hb3.block w.heap.size (by simp; omega)).trans (new2_a w _ _)
  have hB2 : Below w.heap.size w w2 := hb2.trans (hb3.mono (by simp; omega))
  have x0 := cell_in hbx 0
  have x1 := cell_in hbx 1
  have x2 := cell_in hbx 2
  have x3 := cell_in hbx 3
  have HB2 := Lib.hid hB2
  have HBX := Lib.hid hbx
  clear hb2 hb3 hbx hB2
  cases rL with
  | false =>
    go_wp2_with fail
    refine (knows_calls w2 (HT.out.below HB2.out)).mono ?_
    rintro e w3 ⟨rfl, hb3⟩
    have HB3 := Lib.hid (bel2 HB2.out hb3)
    clear hb3
    go_wp2_with fail
    go_ret
    exact ⟨rfl, HB3.out⟩
  | true =>
    go_wp2_with fail
    refine (hammockref09_Right.calls kR x.f0 x.f1 x.f2 A c x.f3 _ w2 (c24_below HC.out HB2.out) hc HRf.out).mono ?_
    rintro e w3 ⟨rfl, hb3⟩
    have HB3 := Lib.hid (bel2 HB2.out hb3)
    have HBX3 := Lib.hid ((hb3.block w.heap.size (Array.getElem?_eq_some_iff.1 HBX.out).1).trans HBX.out)
    clear hb3 x0 x1 x2 x3
    have x0 := cell_in HBX3.out 0
    have x1 := cell_in HBX3.out 1
    have x2 := cell_in HBX3.out 2
    have x3 := cell_in HBX3.out 3
    cases hr : rightB 400 (ownN 400 x) with
    | false =>
      clear hr
      go_wp2_with fail
      refine (knows_calls w3 (HT.out.below HB3.out)).mono ?_
      rintro e w4 ⟨rfl, hb4⟩
      have HB4 := Lib.hid (bel2 HB3.out hb4)
      clear hb4
      go_wp2_with fail
      go_ret
      exact ⟨rfl, HB4.out⟩
    | true =>
      have HR := Lib.hid hr
      clear hr
      have HVL := Lib.hid (light_vars kL m x HL.out HR.out HO.out HN.out)
      obtain ⟨kO, hO⟩ := own_ex 400 x (few24_of_right 400 x HR.out)
      have HOW := Lib.hid hO
      clear hO
      have hby : 0 ≤ (wrap64 (b.tmod 50 + 50)).tmod 50 ∧ (wrap64 (b.tmod 50 + 50)).tmod 50 < 50 := by
        have h1 := Int.tmod_lt_of_pos b (show (0 : Int) < 50 by omega)
        have h2 : -50 < b.tmod 50 := by
          have := Int.neg_tmod b 50
          have h3 := Int.tmod_lt_of_pos (-b) (show (0 : Int) < 50 by omega)
          omega
        have hw : wrap64 (b.tmod 50 + 50) = b.tmod 50 + 50 := by unfold wrap64; omega
        rw [hw]
        exact ⟨Int.tmod_nonneg _ (by omega), Int.tmod_lt_of_pos _ (by omega)⟩
      have HBY := Lib.hid hby
      clear hby
      go_wp2_with fail
      generalize (wrap64 (b.tmod 50 + 50)).tmod 50 = by_ at HBY ⊢
      generalize ht : ownN 400 x = t at HR HWF HVL HOW
      refine (hammocklaw09_Own.calls kO x.f0 x.f1 x.f2 A c x.f3 t.f0 t.f1 t.f2 t.f3 w3 (c24_below HC.out HB3.out) hc HOW.out).mono ?_
      rintro e w4 ⟨v4, rfl, hR4, hb4⟩
      obtain ⟨A4, c4, rfl, hl4, hC4⟩ := Kd.R_reads hR4
      have HB4 := Lib.hid (bel2 HB3.out hb4)
      have HC4 := Lib.hid hC4
      clear hR4 hb4 hC4 x0 x1 x2 x3
      go_wp2_with fail
      have hal : Below w4.heap.size w4 (w4.alloc (.cells #[.int .i64 t.f0, .int .i64 t.f1, .string t.f2, .slice A4 t.f3.length c4] 31)) := (Below.refl _ _).alloc (Nat.le_refl _) _
      refine (Vars_calls t A4 c4 _ hl4 (c_below HC4.out hal) HWF.out (by have := HVL.out; omega)).mono ?_
      rintro e w5 ⟨v, rfl, hrow, hb5⟩
      have hbt := (hb5.block w4.heap.size (by simp)).trans (heap_new w4 _)
      have HB45 := Lib.hid (hal.trans (hb5.mono hal.size))
      obtain ⟨Av, cv, rfl, hlv, hAv⟩ := row_slice hrow
      have HBT := Lib.hid hbt
      have HAV := Lib.hid hAv
      clear hal hb5 hbt hrow hAv
      have hvl : (VarsB t).length ≤ 400 := by unfold VarsB; rw [if_pos HR.out]; exact Nat.le_trans (length_distinct _) HVL.out
      have HWV : Hid (∀ v, v ∈ VarsB t → (Lit.int .i64 v).wf = true) := Lib.hid (fun v hv => by unfold VarsB at hv; rw [if_pos HR.out] at hv; exact HWF.out v ((mem_distinct _ _).1 hv))
      have HLL : Hid (VarsB t = VarsB t) := Lib.hid rfl
      generalize hlq : VarsB t = l at HAV HWV hvl hlv HLL ⊢
      have HLQ := Lib.hid hlq
      clear hlq HLL
      go_wp2_with fail
      go_loopw [7, 8] (fun s7 s8 wr => ∃ kk : Nat, kk ≤ l.length ∧ s8 = .int .i64 kk ∧ s7 = .int .i64 (greatL (l.take kk)) ∧ w5 = wr) (fun _ s8 _ => l.length - (intOf s8).toNat)
      case atStart => exact ⟨0, by omega, rfl, rfl, rfl⟩
      case round =>
        obtain ⟨kk, hkk, rfl, rfl, rfl⟩ := hrel
        by_cases hlt : kk < l.length
        · have hltz : (kk : Int) < (l.length : Int) := by omega
          obtain ⟨g, rfl, hg, hcg⟩ := HAV.out kk (.int .i64 l[kk]) (by rw [List.getElem?_map, List.getElem?_eq_getElem hlt]; rfl)
          rw [add_g] at hcg
          have hgs : greatL (l.take (kk + 1)) = max (greatL (l.take kk)) l[kk] := by rw [List.take_succ_eq_append_getElem hlt, great_snoc]
          have HGS := Lib.hid hgs
          clear hgs
          generalize l[kk] = lv at hcg HGS
          go_wp2_with fail
          go_roundw
          case rel => exact ⟨kk + 1, by omega, by go_num, by rw [HGS.out], trivial⟩
          case measure => simp [intOf]; omega
        · have hltz : ¬ (kk : Int) < (l.length : Int) := by omega
          obtain rfl : kk = l.length := by omega
          rw [List.take_length]
          have HB5 := Lib.hid (bel2 HB4.out HB45.out)
          by_cases hgr : greatL l > 100
          · go_wp2_with fail
            refine (knows_calls w5 (HT.out.below HB5.out)).mono ?_
            rintro e w6 ⟨rfl, hb6⟩
            have HB6 := Lib.hid (bel2 HB5.out hb6)
            clear hb6
            go_wp2_with fail
            go_ret
            exact ⟨rfl, HB6.out⟩
          · have hgn : ¬ greatL l > 100 := hgr
            have hge := great_ge l
            obtain ⟨i0, hi, hz0, hz1, hz2⟩ := info_parts info31
            have HGR : Hid (-1 ≤ greatL l ∧ greatL l ≤ 100) := Lib.hid ⟨hge, by omega⟩
            clear hge hgr
            go_wp2_with fail
            go_loopw [9, 10] (fun s9 s10 wq => ∃ kk : Nat, (kk : Int) ≤ greatL l + 1 ∧ s10 = .int .i64 kk ∧ Hid (Below w5.heap.size w5 wq) ∧ Hid (Row k31 31 w5.heap.size (fun _ => False) wq s9 ((List.range kk).map (fun (q : Nat) => (⟨1, greatL l - (q : Int) + by_, ⟨#[]⟩, []⟩ : S31))))) (fun _ s10 _ => (greatL l + 1 - intOf s10).toNat)
            case atStart => exact ⟨0, by have := HGR.out; omega, rfl, Lib.hid (Below.refl _ _), Lib.hid (Row.nil _)⟩
            case round =>
              obtain ⟨kk, hkk, rfl, HBq, HRq⟩ := hrel
              by_cases hle : (kk : Int) ≤ greatL l
              · have hb1 := HGR.out
                have hb2 := HBY.out
                have hw1 : wrap64 (greatL l - (kk : Int)) = greatL l - (kk : Int) := by unfold wrap64; omega
                have hw2 : wrap64 (greatL l - (kk : Int) + by_) = greatL l - (kk : Int) + by_ := by unfold wrap64; omega
                clear hb1 hb2
                go_wp2_with fail
                refine (Var_calls _ wr).mono ?_
                rintro e w6 ⟨rfl, hb6⟩
                have HB6 := Lib.hid (HBq.out.trans (hb6.mono HBq.out.size))
                have HR6 := Lib.hid (HRq.out.below hb6)
                clear hb6
                obtain ⟨cells, ho, hRp⟩ := HR6.out
                have hlr : ((List.range kk).map (fun (q : Nat) => (⟨1, greatL l - (q : Int) + by_, ⟨#[]⟩, []⟩ : S31))).length = kk := by simp
                have hkb : kk ≤ 101 := by have := HGR.out; omega
                go_wp2_with (at_builtin; refine wpList_append_own_at _ rfl _ _ 27 rfl w5.heap.size 31 i0 (.agg #[.int .i64 0, .int .i64 0, .string ⟨#[]⟩, .slice none 0 0]) 4 56 Tryd.underlying27 hi hz0 hz1 hz2 (by rfl) (by omega) _ _ cells rfl (ho.alloc _) ⟨w6.heap.size, 0, none⟩ 1 1 [.int .i64 1, .int .i64 (greatL l - (kk : Int) + by_), .string ⟨#[]⟩, .slice none 0 0] rfl rfl (World.news_of_block (heap_new w6 _)) (by simp [Value.oneCell']) (by rw [hlr]; unfold maxLen; omega) (by rw [hlr]; omega) (by have := HB6.out.size; simp; omega) ?_; intro v' w7 hown' hgrow _ hat)
                obtain ⟨g', cap', rfl⟩ := ownsRow_succ hown'
                have hgr7 : (w6.alloc (.cells #[.int .i64 1, .int .i64 (greatL l - (kk : Int) + by_), .string ⟨#[]⟩, .slice none 0 0] 31)).grownBy w7 _ := hgrow
                have hrow7 := (HR6.out.alloc (.cells #[.int .i64 1, .int .i64 (greatL l - (kk : Int) + by_), .string ⟨#[]⟩, .slice none 0 0] 31)).append (x := (⟨1, greatL l - (kk : Int) + by_, ⟨#[]⟩, []⟩ : S31)) (ho.alloc _) (hRp.imp_ (fun y cs hk => (hk.to (fun k hk => hk.1.elim)).mono (fun k hk => hk.1.elim))) (fk_of (c := 0) _ (Nat.le_refl _) (FC.nil _ _ none)) rfl hown' hgr7 (by
                  rcases hat with e | e
                  · exact .inl e.symm
                  · exact .inr (by simp [Value.ownBlock] at e; simp; omega))
                have hls : (List.range (kk + 1)).map (fun (q : Nat) => (⟨1, greatL l - (q : Int) + by_, ⟨#[]⟩, []⟩ : S31)) = (List.range kk).map (fun (q : Nat) => (⟨1, greatL l - (q : Int) + by_, ⟨#[]⟩, []⟩ : S31)) ++ [⟨1, greatL l - (kk : Int) + by_, ⟨#[]⟩, []⟩] := by simp [List.range_succ]
                rw [← hls] at hrow7
                have HR7 := Lib.hid hrow7
                have HB7 : Hid (Below w5.heap.size w5 w7) := Lib.hid ((HB6.out.alloc HB6.out.size _).grown hgr7 (by have := HB6.out.size; simp; omega) (fun k e => (HR6.out.block k e).1))
                clear hrow7 hls hgr7 hown' hgrow hat ho hRp
                go_roundw
                case rel => exact ⟨kk + 1, by omega, by go_num, HB7, HR7⟩
                case measure => simp [intOf]; omega
              · obtain ⟨Al, cl, rfl, hlc, hFl⟩ := HRq.out.reads
                have hlen : ((List.range kk).map (fun (q : Nat) => (⟨1, greatL l - (q : Int) + by_, ⟨#[]⟩, []⟩ : S31))).length = kk := by simp
                have HLL : Hid (∀ v : Int, 0 ≤ v → v ≤ greatL l → v < (((List.range kk).map (fun (q : Nat) => (⟨1, greatL l - (q : Int) + by_, ⟨#[]⟩, []⟩ : S31))).length : Int) ∧ ((List.range kk).map (fun (q : Nat) => (⟨1, greatL l - (q : Int) + by_, ⟨#[]⟩, []⟩ : S31))).getD v.toNat z31 = ⟨1, greatL l - v + by_, ⟨#[]⟩, []⟩) := Lib.hid (fun v h1 h2 => by
                  have h3 : v.toNat < kk := by omega
                  refine ⟨by rw [hlen]; omega, ?_⟩
                  have h4 : ((v.toNat : Nat) : Int) = v := by omega
                  simp [List.getD_eq_getElem?_getD, h3, h4])
                have HFW : Hid (∀ y, y ∈ (List.range kk).map (fun (q : Nat) => (⟨1, greatL l - (q : Int) + by_, ⟨#[]⟩, []⟩ : S31)) → fewN 1 y) := Lib.hid (fun y hy => by
                  obtain ⟨q, _, rfl⟩ := List.mem_map.1 hy
                  exact ⟨by simp, fun z hz => by simp at hz⟩)
                have HFl := Lib.hid hFl.now
                have hlc' := hlc
                clear hFl HRq hlen hlc
                generalize (List.range kk).map (fun (q : Nat) => (⟨1, greatL l - (q : Int) + by_, ⟨#[]⟩, []⟩ : S31)) = ls at HLL HFW HFl hlc' ⊢
                have HBT5 := Lib.hid ((HBq.out.block w4.heap.size (Array.getElem?_eq_some_iff.1 HBT.out).1).trans HBT.out)
                have x0 := cell_in HBT5.out 0
                have x1 := cell_in HBT5.out 1
                have x2 := cell_in HBT5.out 2
                have x3 := cell_in HBT5.out 3
                have HEV : Hid (eachV (fun v => (Lit.int .i64 v.f1).wf = true) 400 t) := Lib.hid (eachV_vars (fun v => (Lit.int .i64 v).wf = true) 400 t (fun v hv => HWF.out v (by rw [varsL_400 t HR.out]; exact hv)))
                have HB4q : Hid (Below w4.heap.size w4 wr) := Lib.hid (bel2 HB45.out HBq.out)
                have HAA := Lib.hid (anew_all t HR.out by_ HBY.out ls (by rw [HLQ.out]; exact HGR.out.2) (by rw [HLQ.out]; exact HLL.out) HVL.out)
                have hv5 := HAA.out.2.2.2.2.2.2.2
                have hv1 := HAA.out.2.2.2.1
                have hm1 := HAA.out.2.2.2.2.2.1
                have hm2 := HAA.out.2.2.2.2.2.2.1
                rw [HLQ.out] at hv5
                rw [← hv1, hv5] at hm1 hm2
                have HM1 := Lib.hid hm1
                have HM2 := Lib.hid hm2
                have HV5 := Lib.hid hv5
                have HV1 := Lib.hid (hv1.symm.trans hv5)
                clear hv5 hv1 hm1 hm2 HGR HBY HLL HWV
                go_wp2_with fail
                have hs1 := Scheme1_calls t A4 c4 wr hl4 (c_below HC4.out HB4q.out) HWF.out (by have := HVL.out; omega) HEV.out
                rw [HV5.out] at hs1
                refine hs1.mono ?_
                clear hs1
                rintro e u1 ⟨As, cs, rfl, hls1, hCs, hbs⟩
                have HBs := Lib.hid (bel2 HB4q.out hbs)
                have HCs := Lib.hid hCs
                have HBqs := Lib.hid (bel2 HBq.out hbs)
                have hbt1 := (hbs.block w4.heap.size (Array.getElem?_eq_some_iff.1 HBT5.out).1).trans HBT5.out
                have z0 := fun o => cell_allocN o (cell_in hbt1 0)
                have z1 := fun o => cell_allocN o (cell_in hbt1 1)
                have z2 := fun o => cell_allocN o (cell_in hbt1 2)
                have z3 := fun o => cell_allocN o (cell_in hbt1 3)
                have HFls := Lib.hid (c_below HFl.out hbs)
                clear hbs hCs hbt1 x0 x1 x2 x3
                go_wp2_with fail
                have ha1 : Below u1.heap.size u1 (u1.alloc (.cells #[.int .i64 (l.length : Int), .int .i64 (schT t).f0, .int .i64 (schT t).f1, .string (schT t).f2, .slice As (schT t).f3.length cs] 39)) := (Below.refl _ _).alloc (Nat.le_refl _) _
                refine (Subst_calls 1 t A4 c4 ls Al cl _ hl4 (c_below (c_below HC4.out HBs.out) ha1) hlc' (c_below HFls.out ha1) HFW.out).mono ?_
                rintro e u2 ⟨Ab, cb, rfl, hlb, hCb, hb2⟩
                have hH := HAA.out
                have hbu := ha1.trans (hb2.mono ha1.size)
                have HB2 := Lib.hid hbu
                have hsc := (hb2.block u1.heap.size (by simp)).trans (heap_new u1 _)
                have HSC := Lib.hid hsc
                have HCb := Lib.hid hCb
                clear ha1 hb2 hbu hsc hCb z0 z1 z2 z3
                go_wp2_with fail
                have hs2 := Scheme1_calls (substB t ls) Ab cb u2 hlb HCb.out HAA.out.1.1 (by have := HAA.out.1.2.1; omega) HAA.out.1.2.2
                rw [HV1.out] at hs2
                refine hs2.mono ?_
                clear hs2
                rintro e u3 ⟨At, ct, rfl, hlt3, hCt, hb3⟩
                have HB3 := Lib.hid hb3
                have HCt := Lib.hid hCt
                have hsc := (hb3.block u1.heap.size (Array.getElem?_eq_some_iff.1 HSC.out).1).trans HSC.out
                have y0 := fun o => cell_allocN o (cell_in hsc 0)
                have y1 := fun o => cell_allocN o (cell_in hsc 1)
                have y2 := fun o => cell_allocN o (cell_in hsc 2)
                have y3 := fun o => cell_allocN o (cell_in hsc 3)
                have y4 := fun o => cell_allocN o (cell_in hsc 4)
                have HSC3 := Lib.hid hsc
                clear hb3 hCt hH hsc
                go_wp2_with fail
                have ha3 : Below u3.heap.size u3 (u3.alloc (.cells #[.int .i64 (l.length : Int), .int .i64 (schT (substB t ls)).f0, .int .i64 (schT (substB t ls)).f1, .string (schT (substB t ls)).f2, .slice At (schT (substB t ls)).f3.length ct] 39)) := (Below.refl _ _).alloc (Nat.le_refl _) _
                have HB23 := Lib.hid (bel2 HB2.out HB3.out)
                have hs3 := Same_calls (schT t) (schT (substB t ls)) As At cs ct _ hls1 (c_below (c_below HCs.out HB23.out) ha3) hlt3 (c_below HCt.out ha3)
                rw [HAA.out.2.2.2.2.1] at hs3
                refine hs3.mono ?_
                clear hs3
                rintro e u4 ⟨rfl, hb4⟩
                have HB34 := Lib.hid (ha3.trans (hb4.mono ha3.size))
                have hsc := (HB34.out.block u1.heap.size (Array.getElem?_eq_some_iff.1 HSC3.out).1).trans HSC3.out
                have htc := (hb4.block u3.heap.size (by simp)).trans (heap_new u3 _)
                have HSC4 := Lib.hid hsc
                have HTC4 := Lib.hid htc
                clear y0 y1 y2 y3 y4 ha3 hb4 hsc htc
                have HB24 := Lib.hid (bel2 HB23.out HB34.out)
                have y0 := cell_in HSC4.out 0
                have y1 := cell_in HSC4.out 1
                have y2 := cell_in HSC4.out 2
                have y3 := cell_in HSC4.out 3
                have y4 := cell_in HSC4.out 4
                have z0 := cell_in HTC4.out 0
                have z1 := cell_in HTC4.out 1
                have z2 := cell_in HTC4.out 2
                have z3 := cell_in HTC4.out 3
                have z4 := cell_in HTC4.out 4
                go_wp2_with fail
                have hs4 := More_calls (l.length : Int) (l.length : Int) (schT t) (schT (substB t ls)) As At cs ct u4 hls1 (c_below HCs.out HB24.out) hlt3 (c_below HCt.out HB34.out) HAA.out.2.1.1 (by have := HAA.out.2.1.2; omega) HAA.out.2.2.1.1
                rw [HM1.out] at hs4
                refine hs4.mono ?_
                clear hs4 y0 y1 y2 y3 y4 z0 z1 z2 z3 z4
                rintro e u5 ⟨rfl, hb5⟩
                have HB45' := Lib.hid hb5
                have hsc := (hb5.block u1.heap.size (Array.getElem?_eq_some_iff.1 HSC4.out).1).trans HSC4.out
                have htc := (hb5.block u3.heap.size (Array.getElem?_eq_some_iff.1 HTC4.out).1).trans HTC4.out
                have HSC5 := Lib.hid hsc
                have HTC5 := Lib.hid htc
                clear hb5 hsc htc
                have y0 := cell_in HSC5.out 0
                have y1 := cell_in HSC5.out 1
                have y2 := cell_in HSC5.out 2
                have y3 := cell_in HSC5.out 3
                have y4 := cell_in HSC5.out 4
                have z0 := cell_in HTC5.out 0
                have z1 := cell_in HTC5.out 1
                have z2 := cell_in HTC5.out 2
                have z3 := cell_in HTC5.out 3
                have z4 := cell_in HTC5.out 4
                go_wp2_with fail
                have HB25 := Lib.hid (bel2 HB24.out HB45'.out)
                have HB35 := Lib.hid (bel2 HB34.out HB45'.out)
                have hs5 := More_calls (l.length : Int) (l.length : Int) (schT (substB t ls)) (schT t) At As ct cs u5 hlt3 (c_below HCt.out HB35.out) hls1 (c_below HCs.out HB25.out) HAA.out.2.2.1.1 (by have := HAA.out.2.2.1.2; omega) HAA.out.2.1.1
                rw [HM2.out] at hs5
                refine hs5.mono ?_
                clear hs5 y0 y1 y2 y3 y4 z0 z1 z2 z3 z4
                rintro e u6 ⟨rfl, hb6⟩
                have HB56 := Lib.hid hb6
                have hsc := (hb6.block u1.heap.size (Array.getElem?_eq_some_iff.1 HSC5.out).1).trans HSC5.out
                have y0 := cell_in hsc 0
                clear hb6 hsc
                have HW6 := Lib.hid (bel2 (bel2 HB4.out HBs.out) (bel2 HB25.out HB56.out))
                go_wp2_with fail
                refine (knows_calls u6 (HT.out.below HW6.out)).mono ?_
                rintro e u7 ⟨rfl, hb7⟩
                have HW7 := Lib.hid (bel2 HW6.out hb7)
                clear hb7
                go_wp2_with fail
                go_ret
                exact ⟨rfl, HW7.out⟩
end Go.Proofs.YtddmdiaopaoekaaDoor.P
