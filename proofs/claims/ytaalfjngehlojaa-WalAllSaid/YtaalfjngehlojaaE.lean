/- Walks: what all know of the sums. -/
import Derived.Test.YtaalfjngehlojaaC
import Derived.Test.YtaalfjngehlojaaL
namespace Go.Proofs.Ytaalfjngehlojaa
open Go.RowKit

theorem sum_empty : sumL [] = 0 := by decide +kernel
theorem sum_nine : sumL [49, 50, 51, 52, 53, 54, 55, 56, 57] = 3421780262 := by decide +kernel

theorem sum_lit (l : List UInt8) (hs : l.length ≤ 1000) (n : Int) (h : sumL l = n) (w : World) :
    Calls Try.prog 28 #[.string ⟨l.toArray⟩] w fun e w' => e = .returned (.int .u32 n) ∧ Below w.heap.size w w' := by
  subst h
  exact sum_any ⟨l.toArray⟩ (by show l.toArray.size ≤ _; simp; omega) w


end Go.Proofs.Ytaalfjngehlojaa
