/- TokenBack: for every input the law returns true and leaves its argument as it was; the package-level variables start as the text lays them (the card ties them to it). -/
import Derived.Test.YtiioanpmfpefcaaDoorEnd
import Derived.Test.YtiioanpmfpefcaaDoorJoin
import Derived.Test.YtiioanpmfpefcaaDoorPx13
import Derived.Test.YtiioanpmfpefcaaDoorPurO
import Derived.Test.YtiioanpmfpefcaaDoorCards
import Derived.Test.YtiioanpmfpefcaaDoorTie
import Derived.ShutString
import Derived.ChangeOld
import Derived.Below
import Derived.SizedLaws
namespace Go.Proofs.YtiioanpmfpefcaaDoor.End
open Go.ChangeShapes Go.WideShapes Go.ChangeAt Go.RowKit
theorem gT : Tryd.prog.globalNamed "internal/strconv.uint64pow10" = some 1 := by kernel_rfl
theorem gTType : (Tryd.prog.globals[1]?).map (·.type) = some 115 := by kernel_rfl
theorem cT : Tryd.prog.cellsOf 115 = 20 := by kernel_rfl
theorem cE : Tryd.prog.cellsOf 102 = 1 := by kernel_rfl
theorem tabData : (Rows.laid_internal_strconv_uint64pow10 : DataW Unit) = Lib.tabData .u64 Lib.pow10Tab := by kernel_rfl
theorem tab {W : World} (h0 : laidMetH Tryd.prog list W) : P.TabOK W := by
  have h : laidMet Tryd.prog list W := h0
  obtain ⟨ps, hv, _, _⟩ := h
  obtain ⟨_, _, _, _, _, _, _, _, _, _, hv, _⟩ := hv
  obtain ⟨_, _, _, _, _, _, _, _, _, _, hv, _⟩ := hv
  obtain ⟨g, t, cs, fuel, p, q, hg, ht, hc, hd, hv, _⟩ := hv
  obtain rfl := Option.some.inj (gT.symm.trans hg)
  obtain rfl := Option.some.inj (gTType.symm.trans ht)
  rw [tabData] at hd
  have e : cs.toList = Lib.pow10Tab.map fun z => Value.int .u64 z := Lib.cells_of_tab (zs := Lib.pow10Tab) Tryd.underlying115 Tryd.underlying102 cE cT hd
  unfold P.TabOK Lib.TabIs
  rw [hc, ← e]
end Go.Proofs.YtiioanpmfpefcaaDoor.End
/- TokenBack, the plain law: what is scanned, and joined with blanks, is scanned as the same tokens. -/
namespace Go.Proofs.YtiioanpmfpefcaaDoor.Pure
open Go.RowKit Go.Proofs.YtiioanpmfpefcaaDoor.P Go.Proofs.YtiioanpmfpefcaaDoorW.PrintWords Go.Proofs.YtiioanpmfpefcaaDoorW.PrintLast Go.Proofs.YtiioanpmfpefcaaDoor.Pur Go.Proofs.YtiioanpmfpefcaaDoor.Loc
open Go.Proofs.YtiioanpmfpefcaaDoor.Tok (size_eq scanR toks)
theorem back_l0 (xs ys : List S41) (hx : xs.length ≤ 1000000) (h : Same2 ys xs) (K : Nat) : ∀ (d i : Nat), i + d = xs.length → hammocklaw02_TokenBack.l0 (K + d + 1) xs ys i = some true := by
  have hlen := h.length
  intro d
  induction d with
  | zero =>
    intro i hi
    rw [hammocklaw02_TokenBack.l0, if_neg (by omega)]
  | succ d ih =>
    intro i hi
    obtain ⟨g0, g4, g3⟩ := h.get i (by omega)
    have e1 : rd_T41 xs i = xs.getD i z41 := by unfold rd_T41; rw [Int.toNat_natCast]
    have e2 : rd_T41 ys i = ys.getD i z41 := by unfold rd_T41; rw [Int.toNat_natCast]
    have hn := ih (i + 1) (by omega)
    rw [hammocklaw02_TokenBack.l0, if_pos (by omega), if_pos (by omega), if_pos (by omega), e1, e2, if_pos g0, w64 (by omega) (by omega), show ((i : Int) + 1) = ((i + 1 : Nat) : Int) by omega]
    by_cases k3 : (xs.getD i z41).f0 = 3
    · by_cases ht : ((ys.getD i z41).f3).toList = ((xs.getD i z41).f3).toList
      · rw [if_pos ht, if_pos g4]; exact hn
      · rw [if_neg ht, if_pos k3, if_pos g4]; exact hn
    · rw [if_pos (by rw [g3 k3]), if_pos g4]; exact hn
/-- What a scan without a fault is, or with one. -/
theorem scan_ok {l : List UInt8} (h : (scanL l).2.2 = 0) : l.length ≤ 65536 ∧ (toks l (l.length + 1) 0).1.length ≤ 16384 ∧ scanL l = ((toks l (l.length + 1) 0).1 ++ [⟨9, l.length, l.length, ⟨#[]⟩, 0⟩], 0, 0) := by
  unfold scanL at h ⊢
  by_cases c1 : 65536 < l.length
  · rw [if_pos c1] at h; cases h
  · rw [if_neg c1] at h ⊢
    unfold scanR at h ⊢
    by_cases c2 : 16384 < (toks l (l.length + 1) 0).1.length
    · rw [if_pos c2] at h; cases h
    · rw [if_neg c2] at h ⊢
      cases c3 : (toks l (l.length + 1) 0).2 with
      | none => exact ⟨by omega, by omega, rfl⟩
      | some q =>
        rw [c3] at h
        exact absurd h (Tok.toks_err _ _ _ _ _ c3)
theorem scan_bad {l : List UInt8} (hl : l.length ≤ 16384) (h : (scanL l).2.2 ≠ 0) : (scanL l).1 = [] ∧ ∃ a : Nat, (scanL l).2.1 = (a : Int) ∧ a ≤ l.length := by
  have hc := toks_count l (l.length + 1) 0
  unfold scanL at h ⊢
  rw [if_neg (by omega)] at h ⊢
  unfold scanR at h ⊢
  rw [if_neg (by omega)] at h ⊢
  cases c3 : (toks l (l.length + 1) 0).2 with
  | none => rw [c3] at h; exact absurd rfl h
  | some q => exact ⟨rfl, q.1, rfl, toks_fault l _ 0 q.1 q.2 (Nat.zero_le _) c3⟩
/-- What is joined, scanned. -/
theorem scan_join (ts : List S41) (B : Nat) (h : ∀ t ∈ ts, GoodT B t) (hn : ts.length ≤ 16384) (hJ : (flatJ ts).length ≤ 65536) : ∃ m, scanL (flatJ ts) = (m, 0, 0) ∧ ∀ n : Int, Same2 m (ts ++ [⟨9, n, n, ⟨#[]⟩, 0⟩]) := by
  have hl := (flatJ_len B ts h).1
  obtain ⟨r1, r2⟩ := rescan (flatJ ts) ts [] 0 ((flatJ ts).length + 1) B (.inl rfl) rfl (Nat.zero_le _) h (by omega)
  have hlen := r2.length
  refine ⟨(toks (flatJ ts) ((flatJ ts).length + 1) 0).1 ++ [⟨9, (flatJ ts).length, (flatJ ts).length, ⟨#[]⟩, 0⟩], ?_, fun n => r2.snoc rfl rfl rfl⟩
  unfold scanL
  rw [if_neg (by omega)]
  unfold scanR
  rw [if_neg (by omega), r1]
theorem back_bad (K : Nat) (a0 : ByteArray) (R : List S41 × Int × Int) (hbig : ¬ (a0.size : Int) > 3000) (h1 : token_Scan.f a0 = some R) (hE : ¬ R.2.2 = 0) (hl : (R.1.length : Int) = 0) (ha : R.2.1 ≥ 0) (hb : R.2.1 ≤ (a0.size : Int)) :
    hammocklaw02_TokenBack.f K a0 = some true := by
  unfold hammocklaw02_TokenBack.f
  rw [knows_ok, if_neg hbig, h1, Option.bind_some]
  unfold hammocklaw02_num.f
  rw [Option.bind_some, if_neg hE, if_pos hl, if_pos ha, if_pos hb, Option.bind_some]
theorem back_good (K : Nat) (a0 J : ByteArray) (R M : List S41 × Int × Int) (hbig : ¬ (a0.size : Int) > 3000) (h1 : token_Scan.f a0 = some R) (hE : R.2.2 = 0) (hj : token_Join.f R.1 = some J) (hm : token_Scan.f J = some M)
    (hgo : (J.size : Int) > 65536 → M.2.2 = 6) (hok : ¬ (J.size : Int) > 65536 → M.2.2 = 0 ∧ (M.1.length : Int) = (R.1.length : Int) ∧ hammocklaw02_TokenBack.l0 K R.1 M.1 0 = some true) :
    hammocklaw02_TokenBack.f (K + 1) a0 = some true := by
  unfold hammocklaw02_TokenBack.f
  rw [knows_ok, if_neg hbig, h1, Option.bind_some]
  unfold hammocklaw02_num.f
  rw [Option.bind_some, if_pos hE, hj, Option.bind_some, hm, Option.bind_some]
  by_cases hJ : (J.size : Int) > 65536
  · rw [if_pos hJ, Option.bind_some, hgo hJ]; rfl
  · obtain ⟨g1, g2, g3⟩ := hok hJ
    rw [if_neg hJ, Option.bind_some, if_pos g1, if_pos g2, Option.bind_some, Bool.not_true, hammocklaw02_TokenBack.j0, if_neg (by decide)]
    exact g3
theorem TokenBack : hammocklaw02_TokenBack.Pure := by
  intro a0 hs
  by_cases hbig : (a0.size : Int) > 3000
  · exact ⟨0, by unfold hammocklaw02_TokenBack.f; rw [knows_ok, if_pos hbig, Option.bind_some]⟩
  have h1 : token_Scan.f a0 = some (scanL a0.data.toList) := by unfold token_Scan.f; rw [if_pos (by omega)]
  have hsz : a0.data.toList.length = a0.size := (size_eq a0).symm
  by_cases hE : (scanL a0.data.toList).2.2 = 0
  · obtain ⟨_, hT1, hsc⟩ := scan_ok hE
    have hgood := toks_good a0.data.toList (a0.data.toList.length + 1) 0
    have hcnt := toks_count a0.data.toList (a0.data.toList.length + 1) 0
    generalize toks a0.data.toList (a0.data.toList.length + 1) 0 = T at hT1 hsc hgood hcnt
    have hR1 : (scanL a0.data.toList).1 = T.1 ++ [⟨9, a0.data.toList.length, a0.data.toList.length, ⟨#[]⟩, 0⟩] := by rw [hsc]
    have hfl := flatJ_len a0.data.toList.length T.1 hgood
    have hmul : T.1.length * (4 * (a0.data.toList.length + 256) + 31) ≤ 3000 * (4 * (3000 + 256) + 31) := Nat.mul_le_mul (by omega) (by omega)
    have hjl : joinL (scanL a0.data.toList).1 = flatJ T.1 := by
      unfold joinL
      rw [hR1, List.map_map]
      exact join_flat T.1 _ rfl
    have hokS : (scanL a0.data.toList).1.all okS = true := by
      rw [hR1, List.all_append, Bool.and_eq_true]
      refine ⟨List.all_eq_true.2 fun t ht => ?_, rfl⟩
      have := shown_len (hgood t ht)
      unfold okS
      exact decide_eq_true (by omega)
    have hJ : token_Join.f (scanL a0.data.toList).1 = some ⟨(flatJ T.1).toArray⟩ := by
      unfold token_Join.f
      rw [if_pos ⟨by rw [hR1, List.length_append]; simp; omega, hokS, by rw [hjl]; omega⟩, hjl]
    have hJs : (⟨(flatJ T.1).toArray⟩ : ByteArray).size = (flatJ T.1).length := by rw [size_eq]
    have hM : token_Scan.f ⟨(flatJ T.1).toArray⟩ = some (scanL (flatJ T.1)) := by
      unfold token_Scan.f
      rw [if_pos (by rw [hJs]; omega)]
    refine ⟨_, back_good (0 + (scanL a0.data.toList).1.length + 1) a0 _ _ _ hbig h1 hE hJ hM ?_ ?_⟩
    · intro h
      unfold scanL
      rw [if_pos (by omega)]
    · intro h
      obtain ⟨m, hm, hsame⟩ := scan_join T.1 _ hgood hT1 (by omega)
      have hsame := hsame a0.data.toList.length
      rw [← hR1] at hsame
      rw [hm]
      refine ⟨rfl, by rw [hsame.length], ?_⟩
      exact back_l0 _ _ (by rw [hR1, List.length_append]; simp; omega) hsame 0 _ 0 (by omega)
  · obtain ⟨hl, a, ha, hle⟩ := scan_bad (l := a0.data.toList) (by omega) hE
    exact ⟨0, back_bad 0 a0 _ hbig h1 hE (by rw [hl]; rfl) (by rw [ha]; omega) (by rw [ha]; omega)⟩
end Go.Proofs.YtiioanpmfpefcaaDoor.Pure
/- TokenBack: for every input the law returns true and leaves its arguments as they were; the package-level variables start as the program's text lays them (the card ties them to the text). -/
namespace Go.Proofs.YtiioanpmfpefcaaDoor.tokenBack
open Go.ChangeShapes Go.WideShapes Go.ChangeAt Go.RowKit
open Go.ChangeMaps (open_string shut_string)
set_option linter.unusedVariables false
set_option maxRecDepth 100000 in
theorem contract (H : Type) (enc : TypeId × Value → H) (W : World) (base : Nat) (args : Array Value) (ds gs : List (DataW H)) (before : List MemPlace)
    (hval0 : ∀ (j : Nat) t v, Tryd.f7.params[j]? = some t → args[j]? = some v → Value.okWide Tryd.prog W .any base t v)
    (hW : DataW.Whole enc Tryd.prog Tryd.f7.params.toList Rows.tokenBackSpec.vars false W args.toList ds gs before)
    (hsz0 : (DataW.weightsEach Tryd.prog (Tryd.f7.params.toList ++ Rows.tokenBackSpec.plain.varTypes Tryd.prog) (ds ++ gs)).all (· ≤ reachBytes) = true)
    (hL : laidMetH Tryd.prog End.list W) :
    Calls Tryd.prog 7 args W fun e W' => ∃ v, e = .returned v ∧ Rows.tokenBackSpec.post enc Tryd.prog Tryd.f7 false true false false W args v W' := by
  have hsz : (DataW.weightsEach Tryd.prog (Tryd.f7.params.toList ++ Rows.tokenBackSpec.plain.varTypes Tryd.prog) (ds ++ gs)).all (· ≤ reachBytes) = true := hsz0
  have hval : ∀ (j : Nat) t v, Tryd.f7.params[j]? = some t → args[j]? = some v → Value.okWide Tryd.prog W .any base t v := hval0
  have hW' := hW
  obtain ⟨p, q, hA0, hV, rfl, hfz, hnd⟩ := hW
  have hA : DataW.TrodAll enc Tryd.prog W 0 (fun _ => true) true Tryd.f7.params.toList args.toList ds p := hA0
  rw [Tryd.params7] at hA hval hsz
  obtain ⟨v0, vs0, d0, ds0, p0, q0, hargs, rfl, rfl, h0, r0⟩ := trodAll_cons hA
  obtain ⟨rfl, rfl, rfl⟩ := trodAll_nil r0
  obtain rfl : args = #[v0] := by cases args; simp_all
  obtain ⟨rfl, rfl⟩ := trodVars_none hV
  obtain ⟨a0, rfl, rfl, rfl, y0⟩ := open_string Tryd.underlying9 (hval 0 9 v0 rfl rfl) h0
  have w0 : a0.size ≤ 140737488351232 := by
    have z := sized_string hsz (j := 0) (t := 9) rfl rfl
    rw [Array.length_toList] at z
    exact z
  clear hA0 hval0 hsz0 hsz
  refine (P.hammocklaw02_TokenBack.walk Pure.TokenBack a0 W w0 (Lib.hid (End.gok hL)) (Lib.hid (End.tab hL))).mono fun e W' ⟨he, bel⟩ => ?_
  subst he
  exact ⟨_, rfl, _, _, _, [], _, [], hW', trodAll_mk1 (shut_bool Tryd.underlying4 _), (trodAll_cons_mk (shut_string Tryd.underlying9 y0) trodAll_mk0), rfl, bel.frame _, fun h => by cases h⟩
theorem reads (os : Os) {H : Type} (enc : TypeId × Value → H) : ∃ places, DataW.whole enc Tryd.prog ((End.world os).forCall (fun _ _ => 0) ⟨#[], #[.string ByteArray.empty], []⟩).memory Tryd.f7.params.toList Rows.tokenBackSpec.vars false (#[.string ByteArray.empty] : Array Value).toList 8 = some ([.lit (.string [])], [], places) :=
  ⟨[], by kernel_rfl⟩
set_option maxRecDepth 100000 in
theorem lifted (os : Os) (started : os.Started) (H : Type) (enc : TypeId × Value → H) (F : Stop.Interp) :
    ReturnsInHanded {} Tryd.checked os 7 .any ((OpenSpec.ofChange Rows.tokenBackSpec).preRow enc Tryd.prog Tryd.f7 Rows.tokenBackRow.domain false Rows.tokenBackRow.laid) (((OpenSpec.ofChange Rows.tokenBackSpec).at F).post enc Tryd.prog Tryd.f7 false true false false) := by
  obtain ⟨places, hx⟩ := reads os enc
  refine returnsInHanded_of_row (C := Tryd.checked) (s := OpenSpec.ofChange Rows.tokenBackSpec) End.own started (by kernel_rfl) Tryd.func7
    (witness_row_at (enc := enc) (C := Tryd.checked) false (End.world os) #[.string ByteArray.empty] rfl (by kernel_rfl) (by kernel_rfl) (by kernel_rfl)
      (OpenSpec.preRow_of_cond 8 hx (by kernel_rfl) (fun k hk => by cases hk) (by kernel_rfl) (End.world_met os _))) ?_
  intro W base args ds gs before hval hW _ _ hsz hL _ _
  exact contract H enc W base args ds gs before hval hW hsz hL
theorem said : Rows.TokenBackSaid :=
  OpenClaim.holds_of_cond 7 Tryd.f7 rfl rfl rfl rfl rfl rfl rfl ⟨rfl, rfl, rfl, rfl, rfl⟩ rfl rfl rfl rfl rfl (by kernel_rfl) Tryd.func7 (by kernel_rfl)
    (of_decide_eq_true (by kernel_rfl)) (by unfold Func.isWrapper; first | (rw [if_pos (by decide +kernel)]; kernel_rfl) | (rw [if_neg (by decide +kernel)]; exact ⟨rfl, rfl⟩))
    (fun os started H enc _ F => by rw [OpenClaim.pre_eq_preRow]; exact lifted os started H enc F)
theorem plain (f : FuncId) (fn : Func) (hf : Tryd.pinned.checked.prog.funcNamed "hammock/hammocklaw02.TokenBack" = some f) (hfn : Tryd.pinned.checked.prog.funcs[f]? = some fn) :
    true = Tryd.pinned.checked.prog.looks [] ∧ ∀ (j : Nat) t, fn.params[j]? = some t → Tryd.pinned.checked.prog.wantsStandIn t = false := by
  obtain rfl : f = 7 := Option.some.inj ((show Tryd.prog.funcNamed "hammock/hammocklaw02.TokenBack" = some 7 by kernel_rfl).symm.trans hf) |>.symm
  obtain rfl : fn = Tryd.f7 := (Option.some.inj (Tryd.func7.symm.trans hfn)).symm
  refine ⟨by kernel_rfl, fun j t ht => ?_⟩
  rw [Tryd.params7] at ht
  have hm : t ∈ ([9] : List TypeId) := by simpa using Array.mem_of_getElem? ht
  revert t
  have all : ∀ t ∈ ([9] : List TypeId), Tryd.prog.wantsStandIn t = false := by
    intro t ht
    simp only [List.mem_cons, List.not_mem_nil, or_false] at ht
    rcases ht with rfl
    · exact (show Tryd.prog.wantsStandIn 9 = false by kernel_rfl)
  intro t _ hm
  exact all t hm
theorem card : Rows.TokenBackCardSaid :=
  Claim7.holds_tied_plain_at .later [] _ _ _ _ said (fun _ h => by cases h) (by kernel_rfl) (fun _ h => by cases h) tokenBack_row_tie rfl ⟨rfl, rfl⟩ (by kernel_rfl) rfl plain (by kernel_rfl)
end Go.Proofs.YtiioanpmfpefcaaDoor.tokenBack
namespace Go.Proofs.YtiioanpmfpefcaaDoor
/-- The card, under a short name, for the claim. -/
theorem tokenBack_holds : Rows.TokenBackCardSaid := tokenBack.card
end Go.Proofs.YtiioanpmfpefcaaDoor
