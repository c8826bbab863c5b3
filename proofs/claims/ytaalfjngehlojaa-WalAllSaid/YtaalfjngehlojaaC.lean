/- Walks: the sum of package crc. -/
import Derived.Test.YtaalfjngehlojaaB
namespace Go.Proofs.Ytaalfjngehlojaa
open Go.RowKit

set_option maxHeartbeats 800000 in
theorem sum_any (s : ByteArray) (hs : s.size ≤ 140737488351232) (w : World) :
    Calls Try.prog 28 #[.string s] w fun e w' => e = .returned (.int .u32 (sumL s.data.toList)) ∧ Below w.heap.size w w' := by
  have hconv := fun w => Lib.run_convert_string_bytes (P := Try.prog) w 9 39 5 s Try.underlying9 Try.underlying39 Try.underlying5
  go_enter Try.func28, Try.ntmps28
  go_wp2_with (go_at_call 36; refine (filled18 16 (by omega) _).mono ?_; rintro e w1 ⟨v, rfl, hown, hB⟩)
  obtain ⟨tb, tc, rfl, hb1, hb2, hcell⟩ := own_cells hown (by omega)
  go_wp2
  have hB2 : Below w.heap.size w (Lib.bytesWorld w1 5 s) := hB.trans ⟨rfl, rfl, rfl, by rw [Lib.bytesWorld_size]; omega, fun k hk => Lib.bytesWorld_at_old _ _ _ _ (by omega)⟩
  have hc1 : ∀ j, j < 16 → (Lib.bytesWorld w1 5 s).cell? ⟨tb, j, none⟩ = some (.int .u32 (half16 j)) := fun j hj => (Lib.bytesWorld_old _ _ _ _ hb2).trans (hcell j hj)
  have hc2 : ∀ j, j < s.size → (Lib.bytesWorld w1 5 s).cell? ⟨w1.heap.size, j, none⟩ = some (.int .u8 (s.data.toList.getD j 0).toNat) := fun j hj => Lib.bytesWorld_cell _ _ _ _ hj
  generalize Lib.bytesWorld w1 5 s = W at hB2 hc1 hc2 ⊢
  clear hcell hown hB hconv
  go_loop [4, 11] (fun n i => ∃ k : Nat, k ≤ s.size ∧ i = .int .i64 k ∧ n = .int .u32 ((s.data.toList.take k).foldl rnd 4294967295)) (fun _ i => s.size - (intOf i).toNat)
  case atStart => exact ⟨0, by omega, rfl, rfl⟩
  case round =>
    obtain ⟨k, hk, rfl, rfl⟩ := hrel
    by_cases hlt : k < s.size
    · have hsn := take_snoc (d := 0) s.data.toList k hlt rnd 4294967295
      obtain ⟨c, hc⟩ : ∃ c, c = s.data.toList.getD k 0 := ⟨_, rfl⟩
      obtain ⟨n, hn⟩ : ∃ n, n = (s.data.toList.take k).foldl rnd 4294967295 := ⟨_, rfl⟩
      have hck := hc2 k hlt
      rw [← hc] at hsn hck
      rw [← hn] at hsn ⊢
      have HS := Lib.hid hsn
      have hcb := c.toNat_lt
      clear hsn hc hn hc2
      have b1 := bits_u32_bd .xor n c.toNat
      have b2 := bits_u32_bd .xor (Go.bits .xor .u32 n c.toNat / 16) (half16 (Go.bits .xor .u32 n c.toNat % 16).toNat)
      have hd1 := hc1 (Go.bits .xor .u32 n c.toNat % 16).toNat (by omega)
      have hd2 := hc1 (Go.bits .xor .u32 (Go.bits .xor .u32 n c.toNat / 16) (half16 (Go.bits .xor .u32 n c.toNat % 16).toNat) % 16).toNat (by omega)
      clear hc1
      go_wp2
      go_round
      case rel => exact ⟨k + 1, by omega, by go_num, by rw [HS.out]; rfl⟩
      case measure => simp [intOf]; omega
    · have : k = s.size := by omega
      subst this
      go_wp2
      go_ret
      exact ⟨ret_int (by rw [List.take_of_length_le (by simp)]; rfl), hB2⟩

end Go.Proofs.Ytaalfjngehlojaa
