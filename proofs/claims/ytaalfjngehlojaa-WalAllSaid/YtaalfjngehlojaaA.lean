/- Walks of the small functions of package crc. -/
import Derived.Test.YtaalfjngehlojaaProg
import Derived.Test.YtaalfjngehlojaaD
import Derived.Test.YtaalfjngehlojaaK
namespace Go.Proofs.Ytaalfjngehlojaa
open Go.RowKit

set_option maxHeartbeats 400000 in
theorem half_any (x : Int) (w : World) :
    Calls Try.prog 37 #[.int .i64 x] w fun e w' => e = .returned (.int .u32 (stps 4 (x % 4294967296))) ∧ w = w' := by
  go_enter Try.func37, Try.ntmps37
  go_wp2
  go_loop [3, 6] (fun v i => ∃ k : Nat, k ≤ 4 ∧ i = .int .i64 k ∧ v = .int .u32 (stps k (x % 4294967296))) (fun _ i => 4 - (intOf i).toNat)
  case atStart => exact ⟨0, by omega, rfl, rfl⟩
  case round =>
    obtain ⟨k, hk, rfl, rfl⟩ := hrel
    by_cases hlt : k < 4
    · have hs := stps_succ k (x % 4294967296)
      obtain ⟨y, hy⟩ : ∃ y, y = stps k (x % 4294967296) := ⟨_, rfl⟩
      rw [← hy] at hs ⊢
      have HS := Lib.hid hs
      clear hs hy
      by_cases hb : 0 < Go.bits .and .u32 y 1
      · have e1 : decide (0 < Go.bits .and .u32 y 1) = true := decide_eq_true hb
        have E2 : Hid (stp y = Go.bits .xor .u32 (y / 2) 3988292384) := Lib.hid (by unfold stp; rw [if_pos hb])
        clear hb
        go_wp2
        go_round
        case rel => exact ⟨k + 1, by omega, by go_num, by rw [HS.out, E2.out]⟩
        case measure => simp [intOf]; omega
      · have e1 : decide (0 < Go.bits .and .u32 y 1) = false := decide_eq_false hb
        have E2 : Hid (stp y = y / 2) := Lib.hid (by unfold stp; rw [if_neg hb])
        clear hb
        go_wp2
        go_round
        case rel => exact ⟨k + 1, by omega, by go_num, by rw [HS.out, E2.out]⟩
        case measure => simp [intOf]; omega
    · have : k = 4 := by omega
      subst this
      go_wp2
      go_ret
      exact ⟨rfl, rfl⟩

end Go.Proofs.Ytaalfjngehlojaa
