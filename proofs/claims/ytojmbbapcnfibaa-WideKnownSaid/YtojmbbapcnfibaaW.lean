/- Walks: what all know; WideAll. -/
import Derived.Test.YtojmbbapcnfibaaY
namespace Go.Proofs.Ytojmbbapcnfibaa
open Go.RowKit

/-- The hash of nothing, in letters. -/
def knownL : List UInt8 := [99, 102, 56, 51, 101, 49, 51, 53, 55, 101, 101, 102, 98, 56, 98, 100, 102, 49, 53, 52, 50, 56, 53, 48, 100, 54, 54, 100, 56, 48, 48, 55, 100, 54, 50, 48, 101, 52, 48, 53, 48, 98, 53, 55, 49, 53, 100, 99, 56, 51, 102, 52, 97, 57, 50, 49, 100, 51, 54, 99, 101, 57, 99, 101, 52, 55, 100, 48, 100, 49, 51, 99, 53, 100, 56, 53, 102, 50, 98, 48, 102, 102, 56, 51, 49, 56, 100, 50, 56, 55, 55, 101, 101, 99, 50, 102, 54, 51, 98, 57, 51, 49, 98, 100, 52, 55, 52, 49, 55, 97, 56, 49, 97, 53, 51, 56, 51, 50, 55, 97, 102, 57, 50, 55, 100, 97, 51, 101]
theorem known_eq : hexL (wideS ByteArray.empty).data.toList = knownL.map (fun c => (c.toNat : Int)) := by decide +kernel
theorem known_str : strOfNums (hexL (wideS ByteArray.empty).data.toList) = ⟨knownL.toArray⟩ := by
  rw [known_eq]
  apply ByteArray.ext
  kernel_rfl
theorem wideS_size (s : ByteArray) : (wideS s).size = 64 := by
  unfold wideS
  rw [outS_size, hashL_length]
set_option maxRecDepth 100000 in
set_option maxHeartbeats 1600000 in
theorem awake_any (w : World) : Calls Try.prog 10 #[] w fun e w' => e = .returned (.bool true) ∧ Below w.heap.size w w' := by
  have hz := wideS_size ByteArray.empty
  have hk := known_str
  obtain ⟨x, hx⟩ : ∃ x, x = wideS ByteArray.empty := ⟨_, rfl⟩
  have hs := fun w => sum_any ByteArray.empty (by decide) w
  simp only [← hx] at hz hk hs
  have hh := fun w => hex_any x (by omega) (by omega) w
  rw [hk] at hh
  have HS := Lib.hid hs
  have HH := Lib.hid hh
  clear hx hz hk hs hh
  go_enter Try.func10, Try.ntmps10
  go_wp2_with fail
  refine (HS.out _).mono ?_
  rintro e w1 ⟨rfl, hb1⟩
  go_wp2_with fail
  refine (HH.out _).mono ?_
  rintro e w2 ⟨rfl, hb2⟩
  go_wp2_with fail
  go_ret
  refine ⟨ret_bool ?_, below_trans' hb1 hb2⟩
  kernel_rfl

set_option maxHeartbeats 1600000 in
theorem walkAll (a0 : ByteArray) (_w0 : a0.size ≤ maxLen) (w : World) :
    Calls Try.prog 4 #[.string a0] w fun e w' => e = .returned (.bool true) ∧ Below w.heap.size w w' := by
  by_cases h : a0.size ≤ 400
  · have d0 : decide (400 < (a0.size : Int)) = false := decide_eq_false (by omega)
    have hs := fun w => sum_any a0 (by omega) w
    have hr := fun w => rwide_any a0 (by omega) w
    obtain ⟨x, hx⟩ : ∃ x, x = wideS a0 := ⟨_, rfl⟩
    simp only [← hx] at hs hr
    have HS := Lib.hid hs
    have HR := Lib.hid hr
    clear hx hs hr
    go_enter Try.func4, Try.ntmps4
    go_wp2_with fail
    refine (HS.out _).mono ?_
    rintro e w1 ⟨rfl, hb1⟩
    go_wp2_with fail
    refine (HR.out _).mono ?_
    rintro e w2 ⟨rfl, hb2⟩
    go_wp2_with fail
    refine (awake_any _).mono ?_
    rintro e w3 ⟨rfl, hb3⟩
    go_wp2_with fail
    go_ret
    exact ⟨rfl, below_trans' (below_trans' hb1 hb2) hb3⟩
  · have d0 : decide (400 < (a0.size : Int)) = true := decide_eq_true (by omega)
    go_enter Try.func4, Try.ntmps4
    go_wp2_with (go_at_call 10; refine (awake_any _).mono ?_; rintro e wA ⟨rfl, hbA⟩)
    go_ret
    exact ⟨rfl, hbA⟩

end Go.Proofs.Ytojmbbapcnfibaa
