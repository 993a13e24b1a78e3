import Derived.Test.YtddmdiaopaoekaaDoorTyR
import Derived.Test.YtddmdiaopaoekaaDoorBld
import Derived.Test.YtddmdiaopaoekaaDoorShelf
import Derived.Laws.IdiomStrings
import Derived.Lib.ItoaLen
import Derived.Lib.LaidTab
import Derived.Lib.AppendIntMem
namespace Go.Proofs.YtddmdiaopaoekaaDoor.P
open Go.RowKit Go.Shelf Go.Proofs.YtddmdiaopaoekaaDoorW.PrintWords Go.Proofs.YtddmdiaopaoekaaDoorW.PrintLast Go.Proofs.YtddmdiaopaoekaaDoor.Rw
set_option linter.unusedVariables false
set_option linter.unusedSimpArgs false
def TabOK (w : World) : Prop := Lib.TabIs Tryd.prog w "internal/strconv.uint64pow10" .u64 Lib.pow10Tab
def letC (n : Int) : UInt8 := UInt8.ofNat (97 + n.toNat)
def letterL (n : Int) : List UInt8 := if n < 26 then [letC n] else 97 :: Lib.itoa (n - 25)
set_option maxHeartbeats 4000000 in
set_option maxRecDepth 100000 in
theorem letter_calls (n : Int) (w : World) (h0 : 0 ≤ n) (h1 : n ≤ 9223372036854775807) (hT : TabOK w) : Calls Tryd.prog 79 #[.int .i64 n] w fun e w' => e = .returned (.string ⟨(letterL n).toArray⟩) ∧ Below w.heap.size w w' := by
  unfold letterL
  have HT := Lib.hid hT
  clear hT
  by_cases hlt : n < 26
  · rw [if_pos hlt]
    have hlit : (97 + n : Int) = ((letC n).toNat : Int) := by
      unfold letC
      rw [UInt8.toNat_ofNat']
      omega
    have hcv : (convert 96 9 (.slice (some ⟨w.heap.size, 0, none⟩) 1 1)).run Tryd.prog (w.alloc (.cells #[.int .u8 (97 + n)] 5)) = .ok (.string ⟨#[letC n]⟩) (w.alloc (.cells #[.int .u8 (97 + n)] 5)) :=
      run_convert_bytes_back (w.alloc (.cells #[.int .u8 (97 + n)] 5)) 96 9 5 ⟨w.heap.size, 0, none⟩ 1 [letC n] Tryd.underlying96 Tryd.underlying5 Tryd.underlying9 (fun j hj => by
        obtain rfl : j = 0 := by simpa using hj
        rw [add_g, hlit]
        exact cell_in (heap_new w _) 0)
    clear hlit
    go_enter Tryd.func79, Tryd.ntmps79
    go_wp2_with fail
    go_ret
    exact ⟨rfl, (Below.refl _ _).alloc (Nat.le_refl _) _⟩
  · rw [if_neg hlt]
    go_enter Tryd.func79, Tryd.ntmps79
    go_wp2_with fail
    have e1 : n - 26 + 1 = n - 25 := by omega
    rw [e1]
    refine (Tryd.strconv_Itoa (n - 25) (by omega) (by omega) w HT.out).mono ?_
    rintro e w1 ⟨rfl, nd, os, rfl⟩
    have hng : ¬ 9223372036854775807 < 1 + (Lib.itoa (n - 25)).length := by have := Lib.itoa_length_le (n - 25) (by omega) (by omega); omega
    go_wp2_with fail
    go_ret
    exact ⟨rfl, Lib.below_grow _ _ (Nat.le_refl _) _ _⟩
end Go.Proofs.YtddmdiaopaoekaaDoor.P
