/- The walk of ShaAll. -/
import Derived.Test.YtembegffmodlhaaY
namespace Go.Proofs.Ytembegffmodlhaa
open Go.RowKit

set_option maxHeartbeats 1600000 in
theorem walkAll (a0 : ByteArray) (_w0 : a0.size ≤ maxLen) (w : World) :
    Calls Try.prog 4 #[.string a0] w fun e w' => e = .returned (.bool true) ∧ Below w.heap.size w w' := by
  by_cases h : a0.size ≤ 300
  · have d0 : decide (300 < (a0.size : Int)) = false := decide_eq_false (by omega)
    have hs := fun w => sha_any a0 (by omega) w
    have hr := fun w => rwide_any a0 (by omega) w
    obtain ⟨x, hx⟩ : ∃ x, x = shaB a0.data.toList := ⟨_, rfl⟩
    simp only [← hx] at hs hr
    have HS := Lib.hid hs
    have HR := Lib.hid hr
    clear hx hs hr
    go_enter Try.func4, Try.ntmps4
    go_wp2_with fail
    refine (HS.out _).mono ?_
    rintro e w1 ⟨rfl, hb1⟩
    go_wp2_with fail
    refine (HR.out _).mono ?_
    rintro e w2 ⟨rfl, hb2⟩
    go_wp2_with fail
    refine (awake_any _).mono ?_
    rintro e w3 ⟨rfl, hb3⟩
    go_wp2_with fail
    go_ret
    exact ⟨rfl, below_trans' (below_trans' hb1 hb2) hb3⟩
  · have d0 : decide (300 < (a0.size : Int)) = true := decide_eq_true (by omega)
    go_enter Try.func4, Try.ntmps4
    go_wp2_with (go_at_call 10; refine (awake_any _).mono ?_; rintro e wA ⟨rfl, hbA⟩)
    go_ret
    exact ⟨rfl, hbA⟩

end Go.Proofs.Ytembegffmodlhaa
