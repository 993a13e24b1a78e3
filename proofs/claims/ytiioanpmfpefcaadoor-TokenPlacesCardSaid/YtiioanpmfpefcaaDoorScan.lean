/- Scan: a source that is too long; and the whole, in the form that the print calls its functions by. -/
import Derived.Test.YtiioanpmfpefcaaDoorTokM
namespace Go.Proofs.YtiioanpmfpefcaaDoor.Tok
open Go.RowKit Go.Proofs.YtiioanpmfpefcaaDoor.P Go.Proofs.YtiioanpmfpefcaaDoorW.PrintWords
theorem three {w W : World} {a b c : Obj} (h : ((w.alloc a).alloc b).alloc c = W) :
    W.heap[w.heap.size]? = some a ∧ W.heap[w.heap.size + 1]? = some b ∧ W.heap[w.heap.size + 2]? = some c ∧ Below w.heap.size w W := by
  subst h
  have h1 := al_new w a
  have h2 := al_new (w.alloc a) b
  have h3 := al_new ((w.alloc a).alloc b) c
  simp only [al_size] at h2 h3
  refine ⟨al_old (al_old h1), al_old h2, h3, ?_⟩
  exact ((((Below.refl _ w).alloc (Nat.le_refl _) _).alloc (by simp) _).alloc (by simp; omega) _)
set_option maxHeartbeats 4000000 in
set_option maxRecDepth 100000 in
theorem scan_long (s : ByteArray) (w : World) (hs : 65536 < s.size) (hs2 : s.size ≤ 140737488351232) : Calls Tryd.prog 9 #[.string s] w (ScanP w ([], 0, 6)) := by
  go_enter Tryd.func9, Tryd.ntmps9
  have e1 : (65536 : Int) < (s.size : Int) := by omega
  go_wp2_with fail
  generalize hwl : World.alloc (World.alloc _ _) _ = wl
  obtain ⟨b0, b1, b2, hbel⟩ := three hwl
  clear hwl
  have hS : Sc (w.heap.size + 1) s 0 0 0 wl := b1
  refine (fail_calls (w.heap.size + 1) s 0 0 0 0 6 wl hS).mono ?_
  rintro e w4 ⟨rfl, hS4, hK4⟩
  have hret := (hK4.blk (Lib.heap_lt b0) (by omega)).trans b0
  have hbx : Bx (w.heap.size + 2) (w.heap.size + 1) w4 := (hK4.blk (Lib.heap_lt b2) (by omega)).trans b2
  have hbl := below_kp hbel (by omega) hK4
  have cx : w4.cell? ⟨w.heap.size + 1 + 1, 0, none⟩ = some (.pointer (some ⟨w.heap.size + 1, 0, none⟩)) := hbx.c
  have c2 := hS4.c2; have c3 := hS4.c3
  have r0 : w4.cell? ⟨w.heap.size, 0, none⟩ = some (.int .i64 0) := by rw [Lib.cell_of_heap hret]; rfl
  have r1 : w4.cell? ⟨w.heap.size, 1, none⟩ = some (.int .i64 0) := by rw [Lib.cell_of_heap hret]; rfl
  have f0 : w4.frozen? ⟨w.heap.size, 0, none⟩ = false := Lib.frozen_of_heap hret 0
  have f1 : w4.frozen? ⟨w.heap.size, 1, none⟩ = false := Lib.frozen_of_heap hret 1
  have Hbl := Lib.hid hbl
  clear b0 b1 b2 hbel hS hS4 hK4 hret hbx hbl
  go_wp2_with fail
  go_region
  go_wp2_with fail
  exact bodyPost_ret (v := .tuple #[.slice none 0 0, .agg #[.int .i64 0, .int .i64 6]]) (by simp [results, Tryd.results9, go_sem, r0, r1]) rfl ⟨_, rfl, World.ownsRow_nil _ _ _ _, ((Hbl.out.setCell (p := ⟨w.heap.size, 0, none⟩) (Nat.le_refl _) _).setCell (p := ⟨w.heap.size, 1, none⟩) (Nat.le_refl _) _).drew⟩
theorem cells5_snoc (xs : List S41) (x : S41) : cells5 (xs ++ [x]) = cells5 xs ++ [.int .i64 x.f0, .int .i64 x.f1, .int .i64 x.f2, .string x.f3, .int .i64 x.f4] := by simp [cells5]
theorem reps5 (w : World) (base : Nat) (ok : Nat → Prop) (xs : List S41) : Reps (k41.M w base ok) 5 xs (cells5 xs) := by
  have : ∀ n, ∀ xs : List S41, xs.length = n → Reps (k41.M w base ok) 5 xs (cells5 xs) := by
    intro n
    induction n with
    | zero => intro xs h; rw [List.length_eq_zero_iff.1 h]; exact Reps.none _ _
    | succ n ih =>
      intro xs h
      rcases List.eq_nil_or_concat xs with rfl | ⟨ys, y, rfl⟩
      · exact Reps.none _ _
      · rw [List.concat_eq_append] at h ⊢
        rw [cells5_snoc]
        exact Reps.snoc (ih ys (by simpa using h)) (k41_mkM w base ok y) rfl
  exact this _ xs rfl
theorem row5 {w : World} {base : Nat} {v : Value} {l : List S41} (h : w.ownsRow base 41 5 v l.length (cells5 l)) : Kd.R k41 41 w base (fun _ => True) v l :=
  ⟨fun _ _ => trivial, cells5 l, h, reps5 _ _ _ _⟩
end Go.Proofs.YtiioanpmfpefcaaDoor.Tok
namespace Go.Proofs.YtiioanpmfpefcaaDoor.P
open Go.RowKit Go.Proofs.YtiioanpmfpefcaaDoorW.PrintWords
/-- A source's tokens, and the fault. -/
def scanL (l : List UInt8) : List S41 × Int × Int := if 65536 < l.length then ([], 0, 6) else Tok.scanR (Tok.toks l (l.length + 1) 0) l.length
def token_Scan.f (a0 : ByteArray) : Option (List S41 × Int × Int) := if a0.size ≤ 140737488351232 then some (scanL a0.data.toList) else none
theorem token_Scan.calls (a0 : ByteArray) (r1 : List S41) (r2 r3 : Int) (w : World) (h : token_Scan.f a0 = some (r1, r2, r3)) (hG : Hid (Tok.GOK w)) :
    Calls Tryd.prog 9 #[.string a0] w fun e w' => ∃ v0_, e = .returned (.tuple #[v0_, .agg #[.int .i64 r2, .int .i64 r3]]) ∧ Kd.R k41 41 w' w.heap.size (fun _ => True) v0_ r1 ∧ Below w.heap.size w w' := by
  unfold token_Scan.f at h
  split at h
  next hs =>
    have h2 := Option.some.inj h
    unfold scanL at h2
    rw [← Tok.size_eq a0] at h2
    split at h2
    next hl =>
      simp only [Prod.mk.injEq] at h2
      obtain ⟨rfl, rfl, rfl⟩ := h2
      refine (Tok.scan_long a0 w hl hs).mono ?_
      rintro e w' ⟨v, he, hr, hb⟩
      exact ⟨v, he, Tok.row5 hr, hb⟩
    next hl =>
      refine (Tok.scan_calls a0 w hG.out (by omega) _ rfl).mono ?_
      rw [h2]
      rintro e w' ⟨v, he, hr, hb⟩
      exact ⟨v, he, Tok.row5 hr, hb⟩
  next => cases h
end Go.Proofs.YtiioanpmfpefcaaDoor.P
