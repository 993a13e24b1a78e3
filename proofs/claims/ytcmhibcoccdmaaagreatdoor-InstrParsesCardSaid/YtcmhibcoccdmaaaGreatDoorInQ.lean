/- Code, parsed. -/
import Derived.Test.YtcmhibcoccdmaaaGreatDoorInP
import Derived.RegionIn
import Derived.Sort.CutIn
namespace Go.Proofs.YtcmhibcoccdmaaaGreatDoor.P
open Go.RowKit Go.Shelf Go.Proofs.YtcmhibcoccdmaaaGreatDoorW.PrintWords Go.Proofs.YtcmhibcoccdmaaaGreatDoorW.PrintLast Go.Proofs.YtcmhibcoccdmaaaGreatDoor.Rw
set_option linter.unusedVariables false
set_option linter.unusedSimpArgs false
attribute [local go_sem] Oper.semAt_some
/-- What the loop has come to. -/
def LS (s : ByteArray) (w : World) (pre : List Value) (W : World) : Prop :=
  ∃ (gs : List S52) (xs : List Ins), parseC s.data.toList = parseGo ((lns s.data.toList).drop pre.length) pre.length gs xs ∧ gs.length ≤ pre.length ∧ xs.length ≤ pre.length ∧ LI w pre.length gs xs W
def LX (s : ByteArray) (w : World) (c : Code) (pre : List Value) (W : World) : Prop :=
  c = .ret ∧ ∃ m : Nat, parseC s.data.toList = (none, m) ∧ Below w.heap.size w W ∧ W.heap[w.heap.size]? = some (.cells #[.slice none 0 0, .slice none 0 0] 26 (0, 0)) ∧ W.heap[w.heap.size + 1]? = some (.cells #[.int .i64 m] 3 (0, 0))
theorem LX.mk {s : ByteArray} {w : World} {n : Nat} {gs : List S52} {xs : List Ins} {W : World} (h : LI w n gs xs W) (hp : parseC s.data.toList = (none, n)) (v : Int) (hv : v = (n : Int)) (pre : List Value) :
    LX s w .ret pre (((W.setCell ⟨w.heap.size, 0, none⟩ (.slice none 0 0)).setCell ⟨w.heap.size, 1, none⟩ (.slice none 0 0)).setCell ⟨w.heap.size + 1, 0, none⟩ (.int .i64 v)).drew ∧ KeepsOthers W (((W.setCell ⟨w.heap.size, 0, none⟩ (.slice none 0 0)).setCell ⟨w.heap.size, 1, none⟩ (.slice none 0 0)).setCell ⟨w.heap.size + 1, 0, none⟩ (.int .i64 v)).drew := by
  subst hv
  refine ⟨⟨rfl, n, hp, ?_, ?_, ?_⟩, ((KeepsOthers.setCell _ _ _).trans (KeepsOthers.setCell _ _ _)).trans ((KeepsOthers.setCell _ _ _).trans (keeps_below ((Below.refl _ _).drew)))⟩
  · exact (((h.bel.setCell (p := ⟨w.heap.size, 0, none⟩) (Nat.le_refl _) _).setCell (p := ⟨w.heap.size, 1, none⟩) (Nat.le_refl _) _).setCell (p := ⟨w.heap.size + 1, 0, none⟩) (by dsimp only; omega) _).drew
  · exact (Below.heap_setCell _ _ _ _ (by dsimp only; omega)).trans (heap_set (heap_set h.res 0 _) 1 _)
  · exact heap_set ((Below.heap_setCell _ _ _ _ (by dsimp only; omega)).trans ((Below.heap_setCell _ _ _ _ (by dsimp only; omega)).trans h.rn)) 0 _
theorem grow_frame {A W8 : World} {base : Nat} {e : TypeId} {size n : Nat} {v : Value} {cells : List Value} {o : Obj} (ho : (A.alloc o).ownsRow base e size v n cells) (hA : A.heap.size < base ∨ ∀ k, v.ownBlock = some k → k < A.heap.size) (hg : (A.alloc o).grownBy W8 v.ownBlock) :
    (∀ k, k < A.heap.size → k < base → W8.heap[k]? = A.heap[k]?) ∧ KeepsOthers A W8 ∧ A.heap.size + 1 ≤ W8.heap.size := by
  have hs := hg.size
  rw [World.size_alloc] at hs
  refine ⟨fun k hk hb => ?_, (KeepsOthers.alloc A o).trans (KeepsOthers.of_grownBy hg (fun j ob e2 hob => ?_)), hs⟩
  · exact (hg.block k (by rw [World.size_alloc]; omega) (fun e2 => absurd (ho.lt k e2.symm).1 (by omega))).trans (heap_old A o k hk)
  · obtain ⟨cs, hcl⟩ := own_typed ho j e2
    rw [hcl] at hob
    cases Option.some.inj hob; rfl
theorem cells_of (w : World) (cs : List Value) (t : TypeId) : ∀ j u, cs[j]? = some u → (w.alloc (.cells cs.toArray t)).cell? ((⟨w.heap.size, 0, none⟩ : Addr).add j) = some u := by
  intro j u hj
  have ha : (⟨w.heap.size, 0, none⟩ : Addr).add j = ⟨w.heap.size, j, none⟩ := by unfold Addr.add; split <;> simp_all
  rw [ha]
  have h := cell_in (heap_new w (.cells cs.toArray t)) j
  rw [h, List.getElem?_toArray]
  exact hj
theorem LI.made {w : World} {n : Nat} {gs0 gs : List S52} {xs0 xs : List Ins} {W W8 : World} (h : LI w n gs0 xs0 W) (hB8 : Below w.heap.size w W8) (hfr : ∀ k, k < W.heap.size → k < w.heap.size + 7 → W8.heap[k]? = W.heap[k]?) (j : Nat) (v vG vI : Value)
    (hc : (W8.setCell ⟨w.heap.size + 2, j, none⟩ v).heap[w.heap.size + 2]? = some (.cells #[vG, vI] 26 (0, 0))) (hG : Row k52 52 (w.heap.size + 7) (fun _ => False) W8 vG gs) (hI : Row kI 46 (w.heap.size + 7) (fun k => w.heap.size + 7 ≤ k) W8 vI xs) (h0 : xs = [] → vI = .slice none 0 0) : LI w n gs xs (W8.setCell ⟨w.heap.size + 2, j, none⟩ v) := by
  have h3 := lt_heap h.num
  have hk : ∀ k, k ≠ w.heap.size + 2 → (W8.setCell ⟨w.heap.size + 2, j, none⟩ v).heap[k]? = W8.heap[k]? := fun k hk => Below.heap_setCell _ _ _ _ hk
  have hs : W8.heap.size ≤ (W8.setCell ⟨w.heap.size + 2, j, none⟩ v).heap.size := by simp [World.setCell]
  exact ⟨hB8.setCell (p := ⟨w.heap.size + 2, j, none⟩) (by dsimp only; omega) _, (hk _ (by omega)).trans ((hfr _ (by omega) (by omega)).trans h.res), (hk _ (by omega)).trans ((hfr _ (by omega) (by omega)).trans h.rn), (hk _ (by omega)).trans ((hfr _ (by omega) (by omega)).trans h.num), vG, vI, hc,
    row_agr hG hs (fun k h1 _ => hk k (by omega)) (fun k f => f.elim), row_agr hI hs (fun k h1 _ => hk k (by omega)) (fun k f => f), h0⟩
theorem KG.step {B b j : Nat} {v : Value} {x wc w8 : World} (h : KG B (fun k => k = b ∨ k = b + 1) x wc) (hB : B ≤ b + 5) (hx : B ≤ x.heap.size) (hs : wc.heap.size ≤ w8.heap.size) (hfr : ∀ k, k < wc.heap.size → k < b + 5 → w8.heap[k]? = wc.heap[k]?) : KG B (fun k => k = b ∨ k = b + 1) x (w8.setCell ⟨b, j, none⟩ v) :=
  h.trans ⟨by simp [World.setCell]; omega, fun k hk hS => (Below.heap_setCell _ _ _ _ (by dsimp only; omega)).trans (hfr k (by have := h.1; omega) (by omega))⟩
theorem code_put {w W : World} {D : Nat} {a0 a1 a2 : Value} (hb : Below w.heap.size w W) (hr : W.heap[w.heap.size]? = some (.cells #[a0, a1] 26 (0, 0))) (hn : W.heap[w.heap.size + 1]? = some (.cells #[a2] 3 (0, 0))) (hK : W.heap[D]? = some (.deferred (some []))) (hD : D = w.heap.size + 5) (v0 v1 v2 : Value) :
    (((W.setCell ⟨w.heap.size, 0, none⟩ v0).setCell ⟨w.heap.size, 1, none⟩ v1).setCell ⟨w.heap.size + 1, 0, none⟩ v2).heap[D]? = some (.deferred (some [])) ∧
    ((((W.setCell ⟨w.heap.size, 0, none⟩ v0).setCell ⟨w.heap.size, 1, none⟩ v1).setCell ⟨w.heap.size + 1, 0, none⟩ v2).putObj D (.deferred none)).heap[w.heap.size]? = some (.cells #[v0, v1] 26 (0, 0)) ∧
    ((((W.setCell ⟨w.heap.size, 0, none⟩ v0).setCell ⟨w.heap.size, 1, none⟩ v1).setCell ⟨w.heap.size + 1, 0, none⟩ v2).putObj D (.deferred none)).heap[w.heap.size + 1]? = some (.cells #[v2] 3 (0, 0)) ∧
    Below w.heap.size w ((((W.setCell ⟨w.heap.size, 0, none⟩ v0).setCell ⟨w.heap.size, 1, none⟩ v1).setCell ⟨w.heap.size + 1, 0, none⟩ v2).putObj D (.deferred none)) ∧
    ∀ k, w.heap.size + 7 ≤ k → ((((W.setCell ⟨w.heap.size, 0, none⟩ v0).setCell ⟨w.heap.size, 1, none⟩ v1).setCell ⟨w.heap.size + 1, 0, none⟩ v2).putObj D (.deferred none)).heap[k]? = W.heap[k]? := by
  have hs : ∀ k, k ≠ w.heap.size → k ≠ w.heap.size + 1 → (((W.setCell ⟨w.heap.size, 0, none⟩ v0).setCell ⟨w.heap.size, 1, none⟩ v1).setCell ⟨w.heap.size + 1, 0, none⟩ v2).heap[k]? = W.heap[k]? := fun k h1 h2 =>
    (Below.heap_setCell _ _ _ _ h2).trans ((Below.heap_setCell _ _ _ _ h1).trans (Below.heap_setCell _ _ _ _ h1))
  refine ⟨(hs D (by omega) (by omega)).trans hK, (World.putObj_heap_other (by omega)).trans ((Below.heap_setCell _ _ _ _ (by dsimp only; omega)).trans (heap_set (heap_set hr 0 v0) 1 v1)), (World.putObj_heap_other (by omega)).trans (heap_set ((Below.heap_setCell _ _ _ _ (by dsimp only; omega)).trans ((Below.heap_setCell _ _ _ _ (by dsimp only; omega)).trans hn)) 0 v2), ?_, fun k hk => (World.putObj_heap_other (by omega)).trans (hs k (by omega) (by omega))⟩
  exact below_putObj (((hb.setCell (p := ⟨w.heap.size, 0, none⟩) (Nat.le_refl _) _).setCell (p := ⟨w.heap.size, 1, none⟩) (Nat.le_refl _) _).setCell (p := ⟨w.heap.size + 1, 0, none⟩) (by dsimp only; omega) _) (by omega)
theorem map_split {pre rest : List Value} {x : Value} {L : List (List UInt8)} (h : L.map lnV = pre ++ x :: rest) : ∃ t, x = lnV t ∧ t ∈ L ∧ L.drop pre.length = t :: L.drop (pre.length + 1) := by
  have h1 : (L.map lnV)[pre.length]? = some x := by rw [h]; simp
  rw [List.getElem?_map] at h1
  obtain ⟨t, ht, rfl⟩ := Option.map_eq_some_iff.1 h1
  obtain ⟨hl, he⟩ := List.getElem?_eq_some_iff.1 ht
  exact ⟨t, rfl, he ▸ List.getElem_mem hl, by rw [List.drop_eq_getElem_cons hl, he]⟩
theorem five {w wl : World} {a b c d e : Obj} (h : ((((w.alloc a).alloc b).alloc c).alloc d).alloc e = wl) : wl.heap.size = w.heap.size + 5 ∧ wl.heap[w.heap.size]? = some a ∧ wl.heap[w.heap.size + 1]? = some b ∧ wl.heap[w.heap.size + 2]? = some c ∧ wl.heap[w.heap.size + 3]? = some d ∧ wl.heap[w.heap.size + 4]? = some e ∧ Below w.heap.size w wl := by
  subst h
  have nw : ∀ (w : World) (o : Obj), (w.alloc o).heap[w.heap.size]? = some o := fun w o => by unfold World.alloc; exact Array.getElem?_push_size
  have od : ∀ {w : World} {o : Obj} {k : Nat} {x : Obj}, w.heap[k]? = some x → (w.alloc o).heap[k]? = some x := fun h => (heap_old _ _ _ (lt_heap h)).trans h
  have h1 := nw w a
  have h2 := nw (w.alloc a) b
  have h3 := nw ((w.alloc a).alloc b) c
  have h4 := nw (((w.alloc a).alloc b).alloc c) d
  have h5 := nw ((((w.alloc a).alloc b).alloc c).alloc d) e
  simp only [World.size_alloc] at h2 h3 h4 h5
  refine ⟨by simp only [World.size_alloc], od (od (od (od h1))), od (od (od h2)), od (od h3), od h4, h5, ?_⟩
  exact (((((Below.refl _ w).alloc (Nat.le_refl _) _).alloc (by simp) _).alloc (by simp; omega) _).alloc (by simp; omega) _).alloc (by simp; omega) _
set_option maxHeartbeats 2000000 in
set_option maxRecDepth 100000 in
theorem code_calls (s : ByteArray) (hs : s.size ≤ 65536) (w : World) (hT : GT w) : Calls Tryz.prog 7 #[.string s] w (CodeR s.data.toList w) := by
  refine (callsIn_wide (n := 5)).1 ?_
  refine callsIn_of_wp_marks Tryz.func7 rfl trivial ?_ rfl
  simp only [Tryz.ntmps7, List.size_toArray, List.length_cons, List.length_nil, Nat.reduceAdd, Nat.reduceSub, Array.replicate_succ, Array.replicate_zero, List.push_toArray, List.append_toArray, List.nil_append, List.cons_append]
  have HT := Lib.hid hT
  clear hT
  gi_wp2
  refine ⟨trivial, (callsIn_wide.2 (lines_calls s _)).mono ?_⟩
  rintro e w1 ⟨rfl, rfl⟩
  gi_wp2
  generalize hwl : World.alloc (World.alloc _ _) _ = wl
  obtain ⟨hsz, b0, b1, b2, b3, b4, hbel⟩ := five hwl
  clear hwl
  have h0 : LS s w [] wl := ⟨[], [], rfl, Nat.le_refl _, Nat.le_refl _, hbel, b0, b1, b3, _, _, b2, Row.nil _, Row.nil _, fun _ => rfl⟩
  clear b0 b1 b2 b3
  have HB0 := Lib.hid hbel
  clear hbel
  refine seq_loop 3 46 (w.heap.size + 4) _ (fun k => k = w.heap.size + 2 ∨ k = w.heap.size + 3) ((lns s.data.toList).map lnV) rfl (enters_of Tryz.func46 (by kernel_rfl) rfl) (by omega)
    (lines_iter 3 (w.heap.size + 4) _ s wl b4 (by omega) (by omega)) rfl
    (LS s w) (LX s w) (fun pre A A' h hk => by obtain ⟨gs, xs, h1, h2, h3, h4⟩ := h; exact ⟨gs, xs, h1, h2, h3, h4.kp hk⟩) (fun pre A l ob o' h hl ho hc => by obtain ⟨gs, xs, h1, h2, h3, h4⟩ := h; exact ⟨gs, xs, h1, h2, h3, h4.put l (by omega)⟩)
    (fun c pre A l ob o' h hl ho hc => by obtain ⟨h1, m, h2, h3, h4, h5⟩ := h; exact ⟨h1, m, h2, below_putObj h3 (by omega), (World.putObj_heap_other (by omega)).trans h4, (World.putObj_heap_other (by omega)).trans h5⟩) h0 ?round ?done ?stop
  case round =>
    rintro l pre x rest W hI hTe hsW hl hlW ⟨o', ho', hoc⟩
    dsimp only [Array.zip_eq_zipWith]
    gi_wp2
    refine ⟨⟨Nat.le_refl _, fun _ _ h _ => h⟩, ⟨Nat.le_refl _, fun _ _ _ => rfl⟩, ?_⟩
    rintro W2 ob rfl
    obtain ⟨t, rfl, htm, hdr⟩ := map_split hTe
    obtain ⟨gs, xs, hgo, hgl, hxl, hLI⟩ := hI
    have hts := lns_size s t htm
    have hpl : pre.length < 65536 := by
      have h1 := congrArg List.length hTe
      simp only [List.length_map, List.length_append, List.length_cons] at h1
      have h2 := lns_len s.data.toList
      rw [← sizeL] at h2
      omega
    rw [hdr, parseGo] at hgo
    have HL2 := Lib.hid (hLI.put (ob := ob) l (by omega))
    have hsW2 : wl.heap.size ≤ (W.putObj l ob).heap.size := by unfold World.putObj; simp; omega
    have hsW7 : w.heap.size + 7 ≤ (W.putObj l ob).heap.size := by unfold World.putObj; simp; omega
    have HGO := Lib.hid hgo
    clear hLI ho' hoc hgo hl hlW hsW hTe htm hdr
    generalize W.putObj l ob = W2 at HL2 hsW2 hsW7 ⊢
    have c3 := cell_in HL2.out.num 0
    have f3 := blk_frozen HL2.out.num 0
    have hn1 : (0 : Int) ≤ (pre.length : Int) := by omega
    have hn2 : (pre.length : Int) < 65536 := by omega
    gi_wp2
    have hsz10 : (⟨t.toArray⟩ : ByteArray).size ≤ 9223372036854775807 := by rw [bsize]; omega
    refine ⟨trivial, (CallsIn.inRound l (callsIn_wide.2 (Tryz.strings_CutSuffix ⟨t.toArray⟩ ⟨#[10]⟩ _ hsz10))).mono ?_⟩
    rintro e w4 ⟨rfl, rfl⟩
    have e1 : Lib.hasSuffix (⟨t.toArray⟩ : ByteArray).data.toList (⟨#[10]⟩ : ByteArray).data.toList = endB t := suff_end t
    have e2 : endB t = true → Lib.trimSuffix (⟨t.toArray⟩ : ByteArray).data.toList (⟨#[10]⟩ : ByteArray).data.toList = t.dropLast := fun h => trim_end h
    rw [e1]
    have HL3 := Lib.hid HL2.out.count
    have HKO := Lib.hid (KeepsOthers.setCell W2 ⟨w.heap.size + 3, 0, none⟩ (.int .i64 ((pre.length : Int) + 1)))
    have HKG := Lib.hid (show KG (w.heap.size + 5) (fun k => k = w.heap.size + 2 ∨ k = w.heap.size + 3) W2 (W2.setCell ⟨w.heap.size + 3, 0, none⟩ (.int .i64 ((pre.length : Int) + 1))) from ⟨by simp [World.setCell], fun k hk hS => Below.heap_setCell _ _ _ _ (by dsimp only; omega)⟩)
    rw [← hsz] at HKG
    clear HL2 c3 f3 e1 hsz10
    generalize W2.setCell ⟨w.heap.size + 3, 0, none⟩ (.int .i64 ((pre.length : Int) + 1)) = W3 at HL3 HKO HKG ⊢
    cases he : endB t with
    | false =>
      have hb : parseC s.data.toList = (none, pre.length + 1) := by rw [HGO.out, he]; rfl
      have HB := Lib.hid hb
      generalize Lib.trimSuffix (⟨t.toArray⟩ : ByteArray).data.toList (⟨#[10]⟩ : ByteArray).data.toList = tt
      clear hb he HGO e2 hts hgl hxl
      have c3 := cell_in HL3.out.num 0
      have y0 := cell_in HL3.out.res 0
      have y1 := cell_in HL3.out.res 1
      have y2 := cell_in HL3.out.rn 0
      have f0 := blk_frozen HL3.out.res 0
      have f1 := blk_frozen HL3.out.res 1
      have f2 := blk_frozen HL3.out.rn 0
      gi_upto_region 8 with (fail)
      gi_region
      all_goals gi_wp2
      all_goals (
        obtain ⟨z1, z2⟩ := LX.mk HL3.out HB.out _ rfl (pre ++ [.string ⟨t.toArray⟩])
        exact ⟨HKO.out.trans z2, z1⟩)
    | true =>
      rw [e2 he]
      have hgo := HGO.out
      rw [if_pos he] at hgo
      have htl : t.dropLast.length ≤ s.size := by rw [List.length_dropLast]; omega
      generalize t.dropLast = u at hgo htl ⊢
      have HGO2 := Lib.hid hgo
      clear HGO e2 he hgo
      have hbw := HL3.out.bel
      gi_wp2
      refine ⟨trivial, (CallsIn.inRound l (callsIn_wide.2 (global_calls ⟨u.toArray⟩ (by rw [bsize]; omega) _ (HT.out.below hbw)))).mono ?_⟩
      rintro e w5 ⟨nm, va, ve, rfl, hgl2, hb5⟩
      have HL5 := Lib.hid (HL3.out.below hb5)
      have HKO5 := Lib.hid (HKO.out.trans (keeps_below hb5))
      have HKG5 := Lib.hid (HKG.out.trans (show KG wl.heap.size (fun k => k = w.heap.size + 2 ∨ k = w.heap.size + 3) W3 w5 from ⟨hb5.size, fun k hk _ => hb5.block k (by have := HKG.out.1; omega)⟩))
      have HG2 := Lib.hid hgl2
      clear HL3 HKO HKG hb5 hbw hgl2
      gi_upto_region 10 with (fail)
      have HL6 := Lib.hid (HL5.out.below ((Below.refl _ w5).alloc (Nat.le_refl _) (.cells #[.string nm, .int .i64 va, .int .i64 ve] 52)))
      have HKO6 := Lib.hid (HKO5.out.trans (KeepsOthers.alloc w5 (.cells #[.string nm, .int .i64 va, .int .i64 ve] 52)))
      have hsz5 := HKG5.out.1
      have HKG6 := Lib.hid (HKG5.out.trans (show KG wl.heap.size (fun k => k = w.heap.size + 2 ∨ k = w.heap.size + 3) w5 (w5.alloc (.cells #[.string nm, .int .i64 va, .int .i64 ve] 52)) from ⟨by rw [World.size_alloc]; omega, fun k hk _ => heap_old _ _ _ (by omega)⟩))
      have hq := heap_new w5 (.cells #[.string nm, .int .i64 va, .int .i64 ve] 52)
      have hql := hsz5
      clear HL5 HKO5 HKG5 hsz5
      generalize w5.alloc (.cells #[.string nm, .int .i64 va, .int .i64 ve] 52) = W6 at HL6 HKO6 HKG6 hq ⊢
      generalize w5.heap.size = q at hq hql ⊢
      have HQ := Lib.hid hq
      clear hq
      obtain ⟨vG, vI, hc, hG, hI, hnil⟩ := HL6.out.row
      obtain ⟨Ag, cg, rfl, hcg, hFG⟩ := hG.reads
      obtain ⟨Ai, ci, rfl, hci, hFI⟩ := hI.reads
      have HC := Lib.hid hc; have HRG := Lib.hid hG; have HRI := Lib.hid hI; have HNIL := Lib.hid hnil
      clear hc hG hI hFG hFI hnil
      have d0 := cell_in HC.out 0
      have d1 := cell_in HC.out 1
      gi_cut [10, 44] from 13 (fun s10 s44 wx => s10 = .bool (globP ⟨u.toArray⟩).isSome ∧ s44 = .bool ((globP ⟨u.toArray⟩).isSome && (((xs.length : Int) == 0) && decide ((gs.length : Int) < 65536))) ∧ wx = W6)
      case first =>
        cases hg1 : (globP ⟨u.toArray⟩).isSome
        · gi_wp2
          gi_meet
          case rel => exact ⟨by rw [hg1], by rw [hg1]; rfl, rfl⟩
        · cases hk1 : ((xs.length : Int) == 0)
          · gi_wp2
            gi_meet
            case rel => exact ⟨by rw [hg1], by rw [hg1, hk1]; rfl, rfl⟩
          · gi_wp2
            gi_meet
            case rel => exact ⟨by rw [hg1], by rw [hg1, hk1]; simp, rfl⟩
      case rest =>
      obtain ⟨rfl, rfl, rfl⟩ := hcut
      cases hbb : ((globP ⟨u.toArray⟩).isSome && (((xs.length : Int) == 0) && decide ((gs.length : Int) < 65536)))
      · have hnone : (if xs.length = 0 ∧ gs.length < 65536 then globP ⟨u.toArray⟩ else none) = none := by
          split
          · next hc =>
            rw [beq_iff_eq.2 (show ((xs.length : Int)) = 0 by omega), decide_eq_true (show (gs.length : Int) < 65536 by omega)] at hbb
            simp only [Bool.and_true] at hbb
            cases hg : globP ⟨u.toArray⟩ with
            | none => rfl
            | some g => rw [hg] at hbb; cases hbb
          · rfl
        have hgo : parseC s.data.toList = (match parseI u with
            | none => (none, pre.length + 1)
            | some x => if 65536 ≤ xs.length then (none, pre.length + 1) else parseGo ((lns s.data.toList).drop (pre.length + 1)) (pre.length + 1) gs (xs ++ [x])) := by rw [HGO2.out, hnone]; rfl
        have HGO3 := Lib.hid hgo
        clear hgo hnone hbb HGO2 HG2 HQ
        generalize (globP ⟨u.toArray⟩).isSome = gb
        have hwsz : w.heap.size + 7 ≤ wc.heap.size := Nat.le_trans hsW7 HKG6.out.1
        have hbw := HL6.out.bel
        gi_wp2
        refine ⟨trivial, (CallsIn.inRound l (callsIn_wide.2 (parse_calls ⟨u.toArray⟩ (by rw [bsize]; omega) _ (HT.out.below hbw)))).mono ?_⟩
        rintro e w7 ⟨op, a, b, tb, A, c, rfl, hpx, htc, hFC, hb7⟩
        have hdu : (⟨u.toArray⟩ : ByteArray).data.toList = u := rfl
        rw [hdu] at hpx ⊢
        have HPX := Lib.hid hpx
        have HTC := Lib.hid htc
        have HFC := Lib.hid hFC
        have HB7 := Lib.hid hb7
        have HB9 := Lib.hid (hb7.alloc hb7.size (.cells #[.int .i64 op, .int .i64 a, .int .i64 b, .slice A tb.length c] 46))
        clear hpx htc hFC hb7 hbw d0 d1
        have hxl2 : ¬ (65536 : Int) ≤ (xs.length : Int) := by omega
        cases hpi : parseI u with
        | none =>
          have hb : parseC s.data.toList = (none, pre.length + 1) := by rw [HGO3.out, hpi]
          have HB := Lib.hid hb
          clear hb hpi HGO3 HPX HFC HTC
          gi_upto_region 14 with (fail)
          have HL9 := Lib.hid (HL6.out.below HB9.out)
          have HKO9 := Lib.hid (HKO6.out.trans (keeps_below HB9.out))
          clear HL6 HKO6 HC HRG HRI HNIL HB7 HB9
          generalize w7.alloc (.cells #[.int .i64 op, .int .i64 a, .int .i64 b, .slice A tb.length c] 46) = w9 at HL9 HKO9 ⊢
          have c3 := cell_in HL9.out.num 0
          have y0 := cell_in HL9.out.res 0
          have y1 := cell_in HL9.out.res 1
          have y2 := cell_in HL9.out.rn 0
          have f0 := blk_frozen HL9.out.res 0
          have f1 := blk_frozen HL9.out.res 1
          have f2 := blk_frozen HL9.out.rn 0
          gi_region
          all_goals gi_wp2
          all_goals (
            obtain ⟨z1, z2⟩ := LX.mk HL9.out HB.out _ rfl (pre ++ [.string ⟨t.toArray⟩])
            exact ⟨HKO9.out.trans z2, z1⟩)
        | some x =>
          have hxv := HPX.out x hpi
          subst hxv
          have hgo : parseC s.data.toList = parseGo ((lns s.data.toList).drop (pre.length + 1)) (pre.length + 1) gs (xs ++ [⟨op, a, b, tb⟩]) := by
            rw [HGO3.out, hpi]
            simp only
            rw [if_neg (by omega)]
          have HGO4 := Lib.hid hgo
          clear hgo hpi HGO3 HPX
          have hc7 := (HB7.out.block _ (lt_heap HC.out)).trans HC.out
          have hc9 := (HB9.out.block _ (lt_heap HC.out)).trans HC.out
          have hx9 := heap_new w7 (.cells #[.int .i64 op, .int .i64 a, .int .i64 b, .slice A tb.length c] 46)
          have hs7 := HB7.out.size
          have k7 := cell_in hc7 1
          have HC9 := Lib.hid hc9
          have HX9 := Lib.hid hx9
          clear hc7 hc9 hx9
          gi_upto_region 13 with (fail)
          have hfc9 : ∀ k, wc.heap.size ≤ k → k < w7.heap.size → (w7.alloc (.cells #[.int .i64 op, .int .i64 a, .int .i64 b, .slice A tb.length c] 46)).heap[k]? = w7.heap[k]? := fun k _ hk => heap_old _ _ _ hk
          have hs9 : w7.heap.size + 1 = (w7.alloc (.cells #[.int .i64 op, .int .i64 a, .int .i64 b, .slice A tb.length c] 46)).heap.size := (World.size_alloc _ _).symm
          have HFC9 := Lib.hid hfc9
          clear hfc9 k7
          generalize w7.alloc (.cells #[.int .i64 op, .int .i64 a, .int .i64 b, .slice A tb.length c] 46) = w9 at HB9 HFC9 HC9 HX9 hs9 ⊢
          generalize hxq : w7.heap.size = xq at hs7 hs9 HX9 ⊢
          have k1 := cell_in HC9.out 1
          have HS9 := Lib.hid hs9
          have hd : decide ((65536 : Int) ≤ (xs.length : Int)) = false := decide_eq_false (by omega)
          have HPL := Lib.hid hpl
          have HXL2 := Lib.hid hxl2
          clear hs9 hxq hpl hxl2 hn2
          gi_upto_region 15 with (fail)
          have x0 := cell_in HX9.out 0
          have x1 := cell_in HX9.out 1
          have x2 := cell_in HX9.out 2
          have x3 := cell_in HX9.out 3
          have hrI := HRI.out.below (HB9.out.alloc HB9.out.size (.cells #[.int .i64 op, .int .i64 a, .int .i64 b, .slice A tb.length c] 46))
          obtain ⟨cells, hown, hreps⟩ := hrI
          have HOWN := Lib.hid hown
          have HREPS := Lib.hid hreps
          clear hown hreps
          obtain ⟨i0, hi0, hz0, hz1, hz2⟩ := info_parts info46
          have HM1 := Lib.hid (show xs.length + 1 ≤ maxLen by have := HPL.out; unfold maxLen; omega)
          have HM2 := Lib.hid (show (xs.length + 1) * 48 ≤ 140737488355328 by have := HPL.out; omega)
          have HM3 := Lib.hid (show w.heap.size + 7 ≤ (w9.alloc (.cells #[.int .i64 op, .int .i64 a, .int .i64 b, .slice A tb.length c] 46)).heap.size by rw [World.size_alloc]; have := HS9.out; omega)
          gi_wp2_with (gi_at_builtin; refine wpListIn_append_own_at _ rfl _ _ 24 rfl (w.heap.size + 7) 46 i0 _ 4 48 Tryz.underlying24 hi0 hz0 hz1 hz2 rfl (by decide) (.slice Ai xs.length ci) xs.length cells rfl HOWN.out ⟨w9.heap.size, 0, none⟩ 1 1 [.int .i64 op, .int .i64 a, .int .i64 b, .slice A tb.length c] rfl rfl (cells_of w9 _ _) (by intro u' hu; simp at hu; rcases hu with rfl | rfl | rfl | rfl <;> rfl) HM1.out HM2.out HM3.out ?_)
          intro v' w8 hown' hgrow _ hloc
          obtain ⟨g', cap', rfl⟩ := ownsRow_succ hown'
          have hA0 := (HRI.out.below (HB9.out.alloc HB9.out.size (.cells #[.int .i64 op, .int .i64 a, .int .i64 b, .slice A tb.length c] 46)))
          have hblt := HRI.out.block
          have hs9w := HB9.out.size
          have hrow : Row kI 46 (w.heap.size + 7) (fun k => w.heap.size + 7 ≤ k) w8 (.slice (some ⟨g', 0, none⟩) (xs.length + 1) cap') (xs ++ [⟨op, a, b, tb⟩]) :=
            Row.append hA0 HOWN.out HREPS.out (fun W' ha => kI_mk W' ⟨op, a, b, tb⟩ HTC.out (HFC.out W' (fun k hk => by
              have e1 := HFC9.out k hk.1 hk.2
              have hk9 : k < w9.heap.size := by
                rw [Array.getElem?_eq_getElem hk.2] at e1
                exact lt_heap e1
              refine (ha k ⟨by omega, fun e => ?_, by rw [World.size_alloc]; omega⟩).trans ((heap_old w9 _ k hk9).trans e1)
              have := (hblt k e.symm).2
              omega))) rfl hown' hgrow (by
              rcases hloc with h | h
              · exact .inl (h.symm.trans rfl)
              · exact .inr (by rw [World.size_alloc]; exact Nat.le_of_eq (Option.some.inj h).symm))
          obtain ⟨hfr, hko, hs8⟩ := grow_frame HOWN.out (.inr (fun k hk => Nat.lt_of_lt_of_le (hblt k hk).2 hs9w)) hgrow
          have hfr2 : ∀ k, k < wc.heap.size → k < w.heap.size + 7 → w8.heap[k]? = wc.heap[k]? := fun k h1 h2 => (hfr k (by omega) h2).trans (HB9.out.block k h1)
          have hgA := HRG.out.below (HB9.out.alloc HB9.out.size (.cells #[.int .i64 op, .int .i64 a, .int .i64 b, .slice A tb.length c] 46))
          have hrg : Row k52 52 (w.heap.size + 7) (fun _ => False) w8 (.slice Ag gs.length cg) gs := by
            refine hgA.kept hgrow ?_ (fun _ _ f => f)
            cases hv : (Value.slice Ag gs.length cg).ownBlock with
            | none => exact .inl rfl
            | some k =>
              refine .inr (fun e => ?_)
              obtain ⟨cs1, ho1, _⟩ := hgA
              obtain ⟨c1, h1⟩ := own_typed ho1 k hv
              obtain ⟨c2, h2⟩ := own_typed HOWN.out k e.symm
              rw [h1] at h2
              cases h2
          have hB8 : Below w.heap.size w w8 := ((HL6.out.bel.trans (HB9.out.mono HL6.out.bel.size)).alloc (Nat.le_trans HL6.out.bel.size hs9w) _).grown hgrow (by rw [World.size_alloc]; omega) (fun k hk => Nat.le_trans (by omega) (HOWN.out.lt k hk).1)
          have HROW := Lib.hid hrow; have HFR := Lib.hid hfr2; have HKO8 := Lib.hid ((HKO6.out.trans (keeps_below HB9.out)).trans hko); have HB8 := Lib.hid hB8; have HS8 := Lib.hid (Nat.le_trans hs9w (Nat.le_of_succ_le hs8)); have HRG8 := Lib.hid hrg
          have hc8 := (hfr2 (w.heap.size + 2) (by omega) (by omega)).trans HC.out
          have HC8 := Lib.hid hc8
          clear hrow hfr hfr2 hko hB8 hown' hgrow hloc x0 x1 x2 x3 k1 hA0 hblt hgA hrg hs8 hs9w
          have d1 := cell_in hc8 1
          have fz := blk_frozen hc8 1
          clear hc8
          gi_wp2
          have hp5 := HPL.out
          refine ⟨HKO8.out.trans (KeepsOthers.setCell _ _ _), HKG6.out.step (by omega) hsW2 HS8.out (fun k h1 h2 => HFR.out k h1 h2), ?_⟩
          refine ⟨gs, xs ++ [⟨op, a, b, tb⟩], ?_, ?_, ?_, ?_⟩
          · rw [List.length_append, List.length_singleton]; exact HGO4.out
          · rw [List.length_append, List.length_singleton]; omega
          · rw [List.length_append, List.length_append, List.length_singleton, List.length_singleton]; omega
          · rw [List.length_append, List.length_singleton]
            exact HL6.out.made HB8.out HFR.out 1 _ _ _ (heap_set HC8.out 1 _) HRG8.out HROW.out (fun e => by simp at e)
      · have hbb1 : (globP ⟨u.toArray⟩).isSome = true ∧ xs.length = 0 ∧ gs.length < 65536 := by
          rw [Bool.and_eq_true, Bool.and_eq_true] at hbb
          exact ⟨hbb.1, by have := beq_iff_eq.1 hbb.2.1; omega, by have := of_decide_eq_true hbb.2.2; omega⟩
        obtain ⟨hs1, hx0, hg0⟩ := hbb1
        obtain ⟨g1, hg1⟩ := Option.isSome_iff_exists.1 hs1
        have hgv := HG2.out g1 hg1
        subst hgv
        have hgo : parseC s.data.toList = parseGo ((lns s.data.toList).drop (pre.length + 1)) (pre.length + 1) (gs ++ [⟨nm, va, ve⟩]) xs := by
          rw [HGO2.out, if_pos ⟨hx0, hg0⟩, hg1]
        have HGO3 := Lib.hid hgo
        have hxs : xs = [] := List.length_eq_zero_iff.1 hx0
        have HXS := Lib.hid hxs
        clear hgo hg1 hs1 hbb hxs hg0 hx0 HGO2
        generalize (globP ⟨u.toArray⟩).isSome = gb
        have hwsz : w.heap.size + 7 ≤ wc.heap.size := Nat.le_trans hsW7 HKG6.out.1
        have q0 := cell_in HQ.out 0
        have q1 := cell_in HQ.out 1
        have q2 := cell_in HQ.out 2
        obtain ⟨cells, hown, hreps⟩ := HRG.out.alloc (.cells #[.string nm, .int .i64 va, .int .i64 ve] 52)
        have HOWN := Lib.hid hown
        have HREPS := Lib.hid hreps
        clear hown hreps
        obtain ⟨i0, hi0, hz0, hz1, hz2⟩ := info_parts info52
        gi_wp2_with (gi_at_builtin; refine wpListIn_append_own_at _ rfl _ _ 23 rfl (w.heap.size + 7) 52 i0 _ 3 32 Tryz.underlying23 hi0 hz0 hz1 hz2 rfl (by decide) (.slice Ag gs.length cg) gs.length cells rfl HOWN.out ⟨wc.heap.size, 0, none⟩ 1 1 [.string nm, .int .i64 va, .int .i64 ve] rfl rfl (cells_of wc _ _) (by intro u' hu; simp at hu; rcases hu with rfl | rfl | rfl <;> rfl) (by unfold maxLen; omega) (by omega) (by rw [World.size_alloc]; omega) ?_)
        intro v' w8 hown' hgrow _ hloc
        obtain ⟨g', cap', rfl⟩ := ownsRow_succ hown'
        have hrow : Row k52 52 (w.heap.size + 7) (fun _ => False) w8 (.slice (some ⟨g', 0, none⟩) (gs.length + 1) cap') (gs ++ [⟨nm, va, ve⟩]) :=
          Row.append (HRG.out.alloc _) HOWN.out HREPS.out (fun W' _ => ⟨[.string nm], [.int .i64 va, .int .i64 ve], rfl, rfl, ⟨[.int .i64 va], [.int .i64 ve], rfl, rfl, rfl⟩⟩) rfl hown' hgrow (by
            rcases hloc with h | h
            · exact .inl (h.symm.trans rfl)
            · exact .inr (by rw [World.size_alloc]; exact Nat.le_of_eq (Option.some.inj h).symm))
        obtain ⟨hfr, hko, hs8⟩ := grow_frame HOWN.out (.inr (fun k hk => (HRG.out.block k hk).2)) hgrow
        have hB8 : Below w.heap.size w w8 := (HL6.out.bel.alloc HL6.out.bel.size _).grown hgrow (by rw [World.size_alloc]; omega) (fun k hk => Nat.le_trans (by omega) (HOWN.out.lt k hk).1)
        have HROW := Lib.hid hrow; have HFR := Lib.hid hfr; have HKO8 := Lib.hid (HKO6.out.trans hko); have HB8 := Lib.hid hB8; have HS8 := Lib.hid hs8
        have hc8 := (hfr (w.heap.size + 2) (by omega) (by omega)).trans HC.out
        have HC8 := Lib.hid hc8
        clear hrow hfr hko hB8 hown' hgrow hloc q0 q1 q2 d0 d1
        have d0 := cell_in hc8 0
        have fz := blk_frozen hc8 0
        clear hc8
        gi_wp2
        have hxs := HXS.out
        subst hxs
        have hv := HNIL.out rfl
        refine ⟨HKO8.out.trans (KeepsOthers.setCell _ _ _), HKG6.out.step (by omega) hsW2 (by have := HS8.out; omega) (fun k h1 h2 => HFR.out k h1 h2), ?_⟩
        refine ⟨gs ++ [⟨nm, va, ve⟩], [], ?_, ?_, by simp, ?_⟩
        · rw [List.length_append, List.length_singleton]; exact HGO3.out
        · rw [List.length_append, List.length_append]; simp; omega
        · rw [List.length_append, List.length_singleton]
          refine HL6.out.made HB8.out HFR.out 0 _ _ (.slice none 0 0) ?_ HROW.out (Row.nil _) (fun _ => rfl)
          have := heap_set HC8.out 0 (.slice (some ⟨g', 0, none⟩) (gs.length + 1) cap')
          rw [hv] at this
          exact this
  case done =>
    rintro D W hD0 hI hK
    rename_i aK
    obtain ⟨gs, xs, hgo, _, _, hLI⟩ := hI
    have hpar : parseC s.data.toList = (some (gs, xs), 0) := by
      rw [hgo, List.length_map, List.drop_length]
      rfl
    have hD : D = w.heap.size + 5 := by omega
    have HD := Lib.hid hD
    have HPAR := Lib.hid hpar
    obtain ⟨hbel, hres, hrn, hnum, vG, vI, hc, hG, hI, hni⟩ := hLI
    clear hni
    obtain ⟨Ag, cg, rfl, hcg, hFG⟩ := hG.reads
    obtain ⟨Ai, ci, rfl, hci, hFI⟩ := hI.reads
    have d0 := cell_in hc 0
    have d1 := cell_in hc 1
    have y0 := cell_in hres 0
    have y1 := cell_in hres 1
    have y2 := cell_in hrn 0
    have f0 := blk_frozen hres 0
    have f1 := blk_frozen hres 1
    have f2 := blk_frozen hrn 0
    have HBEL := Lib.hid hbel; have HRES := Lib.hid hres; have HRN := Lib.hid hrn; have HK := Lib.hid hK; have HFG := Lib.hid hFG; have HFI := Lib.hid hFI; have HCG := Lib.hid hcg; have HCI := Lib.hid hci
    clear hgo hD0 hD hpar hbel hres hrn hnum hc hG hI hFG hFI hK hcg hci b4 h0 hsz
    refine aK _ _ ?_
    refine wpIn_wide.2 ?_
    clear aK
    go_wp2_with fail
    obtain ⟨k1, k2, k3, k4, k5⟩ := code_put HBEL.out HRES.out HRN.out HK.out HD.out (.slice Ag gs.length cg) (.slice Ai xs.length ci) (.int .i64 0)
    refine ⟨by simp, .inl ⟨_, _, rfl, run_takeDeferred k1, ?_⟩⟩
    generalize World.putObj _ D (.deferred none) = WF at k2 k3 k4 k5 ⊢
    have q0 := cell_in k2 0
    have q1 := cell_in k2 1
    have q2 := cell_in k3 0
    refine ⟨.tuple #[.agg #[.slice Ag gs.length cg, .slice Ai xs.length ci], .int .i64 0], by simp [results, Tryz.f7, go_sem, q0, q1, q2], .inr ⟨gs, xs, Ag, cg, Ai, ci, HPAR.out, rfl, HCG.out, HCI.out, HFG.out WF (fun k hk => k5 k (hk.1.resolve_left (fun f => f))), HFI.out WF (fun k hk => k5 k (hk.1.elim (fun f => f) (fun f => f))), k4⟩⟩
  case stop =>
    rintro D W pre x rest c hD0 hTe hX hK
    obtain ⟨rfl, m, hp, hb, hr, hn⟩ := hX
    refine wpIn_ret ?_
    have hDn : ¬ D = w.heap.size ∧ ¬ D = w.heap.size + 1 ∧ w.heap.size ≤ D := by omega
    have g0 : (W.putObj D (.deferred none)).heap[w.heap.size]? = some (.cells #[.slice none 0 0, .slice none 0 0] 26 (0, 0)) := (World.putObj_heap_other (by omega)).trans hr
    have g1 : (W.putObj D (.deferred none)).heap[w.heap.size + 1]? = some (.cells #[.int .i64 m] 3 (0, 0)) := (World.putObj_heap_other (by omega)).trans hn
    have gB := below_putObj (o := .deferred none) hb hDn.2.2
    refine ⟨by simp, .inl ⟨_, _, rfl, run_takeDeferred hK, ?_⟩⟩
    generalize World.putObj _ D (.deferred none) = WF at g0 g1 gB ⊢
    have q0 := cell_in g0 0
    have q1 := cell_in g0 1
    have q2 := cell_in g1 0
    exact ⟨.tuple #[.agg #[.slice none 0 0, .slice none 0 0], .int .i64 m], by simp [results, Tryz.f7, go_sem, q0, q1, q2], .inl ⟨m, hp, rfl, gB⟩⟩
end Go.Proofs.YtcmhibcoccdmaaaGreatDoor.P
