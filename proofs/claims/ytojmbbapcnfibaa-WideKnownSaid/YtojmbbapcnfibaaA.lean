/- Walks: rings. -/
import Derived.Test.YtojmbbapcnfibaaProg
import Derived.Test.YtojmbbapcnfibaaK
import Derived.Test.YtojmbbapcnfibaaD
import Derived.Laws.ShiftsVarLaws
namespace Go.Proofs.Ytojmbbapcnfibaa
open Go.RowKit

theorem neg_and (n m : Nat) (h0 : 0 < n) (hm : m + n = 64) : Go.bits .and .u64 (IntKind.u64.wrap (-(n : Int))) 63 = (m : Int) := by
  have h : ∀ n : Nat, n < 65 → 0 < n → Go.bits .and .u64 (IntKind.u64.wrap (-(n : Int))) 63 = ((64 - n : Nat) : Int) := by decide +kernel
  rw [h n (by omega) h0]
  omega

set_option maxHeartbeats 400000 in
theorem rot_any (x : Int) (n : Nat) (h0 : 0 < n) (h1 : n < 64) (w : World) :
    Calls Try.prog 44 #[.int .u64 x, .int .i64 (-(n : Int))] w fun e w' => e = .returned (.int .u64 (rorI x n)) ∧ w = w' := by
  obtain ⟨m, hm⟩ : ∃ m : Nat, m + n = 64 := ⟨64 - n, by omega⟩
  have hb : Go.bits .and .u64 (IntKind.u64.wrap (-(n : Int))) 63 = (m : Int) := neg_and n m h0 hm
  have hm1 : m ≤ 64 := by omega
  have hm2 : (64 : Int) - (m : Int) = (n : Int) := by omega
  have HM := Lib.hid hm
  clear hm
  go_enter Try.func44, Try.ntmps44
  go_wp2
  go_ret
  refine ⟨ret_int ?_, rfl⟩
  unfold rorI
  rw [show 64 - n = m by have := HM.out; omega]
set_option maxHeartbeats 400000 in
theorem ror_any (x : Int) (n : Nat) (h0 : 0 < n) (h1 : n < 64) (w : World) :
    Calls Try.prog 28 #[.int .u64 x, .int .i64 (n : Int)] w fun e w' => e = .returned (.int .u64 (rorI x n)) ∧ w = w' := by
  go_enter Try.func28, Try.ntmps28
  go_wp2_with fail
  refine (rot_any x n h0 h1 _).mono ?_
  rintro e w1 ⟨rfl, rfl⟩
  go_wp2
  go_ret
  exact ⟨rfl, rfl⟩
theorem rorZ (x : Int) (n : Int) (h0 : 0 < n) (h1 : n < 64) (w : World) :
    Calls Try.prog 28 #[.int .u64 x, .int .i64 n] w fun e w' => e = .returned (.int .u64 (rorI x n.toNat)) ∧ w = w' := by
  obtain ⟨m, rfl⟩ := Int.eq_ofNat_of_zero_le (show 0 ≤ n by omega)
  exact ror_any x m (by omega) (by omega) w
theorem or_comm_u64 (a b : Int) : Go.bits .or .u64 a b = Go.bits .or .u64 b a := by
  unfold Go.bits
  simp only [BitVec.or_comm]
set_option maxHeartbeats 400000 in
theorem rror_any (x : Int) (n : Nat) (h0 : 0 < n) (h1 : n < 64) (w : World) :
    Calls Try.prog 21 #[.int .u64 x, .int .i64 (n : Int)] w fun e w' => e = .returned (.int .u64 (rorI x n)) ∧ Below w.heap.size w w' ∧ w'.heap = w.heap := by
  obtain ⟨m, hm⟩ : ∃ m : Nat, m + n = 64 := ⟨64 - n, by omega⟩
  have hm1 : m ≤ 64 := by omega
  have hm2 : (64 : Int) - (n : Int) = (m : Int) := by omega
  have HM := Lib.hid hm
  clear hm
  go_enter Try.func21, Try.ntmps21
  go_wp2_with fail
  go_quiet (fail)
  go_wp2
  go_ret
  refine ⟨ret_int ?_, below_drewN' (Below.refl _ _) _, rfl⟩
  unfold rorI
  rw [show 64 - n = m by have := HM.out; omega, or_comm_u64]

end Go.Proofs.Ytojmbbapcnfibaa
