/- Walks: what all know of the sums. -/
import Derived.Test.YtnongjllkaaehaaC
import Derived.Test.YtnongjllkaaehaaL
namespace Go.Proofs.Ytnongjllkaaehaa
open Go.RowKit

theorem sum_empty : sumL [] = 0 := by decide +kernel
theorem sum_nine : sumL [49, 50, 51, 52, 53, 54, 55, 56, 57] = 3421780262 := by decide +kernel

theorem sum_lit (l : List UInt8) (hs : l.length ≤ 1000) (n : Int) (h : sumL l = n) (w : World) :
    Calls Try.prog 8 #[.string ⟨l.toArray⟩] w fun e w' => e = .returned (.int .u32 n) ∧ Below w.heap.size w w' := by
  subst h
  exact sum_any ⟨l.toArray⟩ (by show l.toArray.size ≤ _; simp; omega) w

set_option maxHeartbeats 800000 in
theorem awake_any (w : World) : Calls Try.prog 9 #[] w fun e w' => e = .returned (.bool true) ∧ Below w.heap.size w w' := by
  go_enter Try.func9, Try.ntmps9
  go_wp2_with fail
  refine (sum_lit [] (by decide) 0 sum_empty _).mono ?_
  rintro e w1 ⟨rfl, hb1⟩
  go_wp2_with fail
  refine (sum_lit [49, 50, 51, 52, 53, 54, 55, 56, 57] (by decide) 3421780262 sum_nine _).mono ?_
  rintro e w2 ⟨rfl, hb2⟩
  go_wp2_with fail
  go_ret
  exact ⟨rfl, hb1.trans (hb2.mono hb1.size)⟩

end Go.Proofs.Ytnongjllkaaehaa
