/- The walk of CrcAll. -/
import Derived.Test.YtnongjllkaaehaaI
namespace Go.Proofs.Ytnongjllkaaehaa
open Go.RowKit

set_option maxRecDepth 100000 in
set_option maxHeartbeats 1600000 in
theorem walkAll1 (a0 : ByteArray) (a1 : ByteArray) (h0 : a0.size ≤ 500) (h1 : a1.size ≤ 500) (x : ByteArray) (b : Bool) (w : World)
    (hg : ∀ w, Calls Try.prog 12 #[.string a1] w fun e w' => e = .returned (.tuple #[.string x, .bool b]) ∧ Below w.heap.size w w')
    (hr : ∀ w, Calls Try.prog 13 #[.string a1] w fun e w' => e = .returned (.agg #[.string x, .bool b]) ∧ Below w.heap.size w w') :
    Calls Try.prog 6 #[.string a0, .string a1] w fun e w' => e = .returned (.bool true) ∧ Below w.heap.size w w' := by
  have d0 : decide (500 < (a0.size : Int)) = false := decide_eq_false (by omega)
  have d1 : decide (500 < (a1.size : Int)) = false := decide_eq_false (by omega)
  have hz0 : a0.size ≤ 140737488351232 := by omega
  have hc := crc_any a0 hz0
  simp only [crcL_eq] at hc
  have Hg := Lib.hid hg
  have Hr := Lib.hid hr
  have Hc := Lib.hid hc
  clear hg hr hc
  go_enter Try.func6, Try.ntmps6
  go_wp2_with fail
  refine (Hg.out _).mono ?_
  rintro e w1 ⟨rfl, hb1⟩
  go_wp2_with fail
  refine (Hr.out _).mono ?_
  rintro e w2 ⟨rfl, hb2⟩
  go_wp2_with fail
  refine (sum_any a0 hz0 _).mono ?_
  rintro e w3 ⟨rfl, hb3⟩
  go_wp2_with fail
  refine (Hc.out _).mono ?_
  rintro e w4 ⟨rfl, hb4⟩
  go_wp2_with fail
  refine (put_any a0 hz0 _).mono ?_
  rintro e w5 ⟨rfl, hb5⟩
  go_wp2_with fail
  refine (putcrc_any a0 hz0 _).mono ?_
  rintro e w6 ⟨rfl, hb6⟩
  have hbx := below_trans' (below_trans' (below_trans' hb3 hb4) hb5) hb6
  have c0 := hbx.cell (p := ⟨w2.heap.size, 0, none⟩) (by simp)
  have c1 := hbx.cell (p := ⟨w2.heap.size, 1, none⟩) (by simp)
  simp at c0 c1
  have hby := below_trans' (below_alloc' (below_trans' hb1 hb2) _) hbx
  clear hbx hb1 hb2 hb3 hb4 hb5 hb6
  go_wp2_with fail
  refine (awake_any _).mono ?_
  rintro e w7 ⟨rfl, hb7⟩
  go_wp2_with fail
  go_ret
  exact ⟨rfl, below_trans' hby hb7⟩

set_option maxHeartbeats 800000 in
theorem walkAll (a0 : ByteArray) (a1 : ByteArray) (_w0 : a0.size ≤ maxLen) (_w1 : a1.size ≤ maxLen) (w : World) :
    Calls Try.prog 6 #[.string a0, .string a1] w fun e w' => e = .returned (.bool true) ∧ Below w.heap.size w w' := by
  by_cases h0 : a0.size ≤ 500
  · by_cases h1 : a1.size ≤ 500
    · by_cases h : Tells a1
      · exact walkAll1 a0 a1 h0 h1 (body a1) true w (fun w => (get_any a1 (by omega) w).1 h) (fun w => getcrc_yes a1 (by omega) h w)
      · exact walkAll1 a0 a1 h0 h1 ByteArray.empty false w (fun w => (get_any a1 (by omega) w).2 h) (fun w => getcrc_no' a1 (by omega) h w)
    · have d0 : decide (500 < (a0.size : Int)) = false := decide_eq_false (by omega)
      have d1 : decide (500 < (a1.size : Int)) = true := decide_eq_true (by omega)
      go_enter Try.func6, Try.ntmps6
      go_wp2_with (go_at_call 9; refine (awake_any _).mono ?_; rintro e wA ⟨rfl, hbA⟩)
      go_ret
      exact ⟨rfl, hbA⟩
  · have d0 : decide (500 < (a0.size : Int)) = true := decide_eq_true (by omega)
    go_enter Try.func6, Try.ntmps6
    go_wp2_with (go_at_call 9; refine (awake_any _).mono ?_; rintro e wA ⟨rfl, hbA⟩)
    go_ret
    exact ⟨rfl, hbA⟩

end Go.Proofs.Ytnongjllkaaehaa
