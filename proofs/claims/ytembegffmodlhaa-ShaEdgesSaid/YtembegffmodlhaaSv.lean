/- Walks: a new state; the hash of bytes; what all know. -/
import Derived.Test.YtembegffmodlhaaSu
import Derived.Test.YtembegffmodlhaaH
namespace Go.Proofs.Ytembegffmodlhaa
open Go.RowKit

set_option maxHeartbeats 1600000 in
theorem new_any (w : World) : Calls Try.prog 13 #[] w fun e w' => ∃ b v, e = .returned (.pointer (some ⟨b, 0, none⟩)) ∧ Held w' w.heap.size b [] 0 v ∧ Below w.heap.size w w' := by
  go_enter Try.func13, Try.ntmps13
  go_wp2_with fail
  refine (first_any _).mono ?_
  rintro e w1 ⟨rfl, hw1⟩
  have hA : A32 firstL = #[.int .u32 1779033703, .int .u32 3144134277, .int .u32 1013904242, .int .u32 2773480762, .int .u32 1359893119, .int .u32 2600822924, .int .u32 528734635, .int .u32 1541459225] := by kernel_rfl
  have hz : w1.heap.size = w.heap.size + 1 := by rw [hw1]; simp
  have hB : Below w.heap.size w w1 := by rw [hw1]; exact below_alloc' (Below.refl _ _) _
  rw [hA]
  clear hw1 hA
  have HZ := Lib.hid hz
  have hle : w.heap.size ≤ w1.heap.size := by omega
  clear hz
  go_wp2_with fail
  go_ret
  refine ⟨_, .slice none 0 0, rfl, ⟨⟨?_⟩, World.ownsRow_nil _ _ _ _, hle⟩, below_alloc hB hle _⟩
  exact heap_alloc_new _ _

theorem blocks64 (n : Nat) : (n + 1 + fillN n + 8) % 64 = 0 := by unfold fillN; omega

set_option maxHeartbeats 1600000 in
theorem sha_any (s : ByteArray) (hs : s.size ≤ 5000) (w : World) : Calls Try.prog 11 #[.string s] w fun e w' => e = .returned (.string (shaB s.data.toList)) ∧ Below w.heap.size w w' := by
  go_enter Try.func11, Try.ntmps11
  go_wp2_with fail
  refine (new_any _).mono ?_
  rintro e w1 ⟨b, v, rfl, hH, hB⟩
  have hW := Lib.hid (write_any [] s w.heap.size b 0 v w1 (by simp; omega) (by decide) (by decide) hH)
  clear hH
  go_wp2_with fail
  refine hW.out.mono ?_
  rintro e2 w2 ⟨rfl, ⟨v2, hH2⟩, hB2⟩
  rw [List.nil_append] at hH2
  have hS := Lib.hid (sum_any s.data.toList w.heap.size b v2 w2 hs (by
    have : ((0 : Int) + (s.size : Int)) = ((s.data.toList.length : Nat) : Int) := by rw [show s.data.toList.length = s.size from rfl]; omega
    rw [← this]; exact hH2))
  have hB' := hB.trans hB2
  clear hH2 hB hB2 hW
  go_wp2_with fail
  refine hS.out.mono ?_
  rintro e3 w3 ⟨rfl, hB3⟩
  go_wp2_with fail
  go_ret
  exact ⟨rfl, hB'.trans (hB3.mono hB'.size)⟩

/-- The hash of nothing, in letters. -/
def knownL : List UInt8 := [101, 51, 98, 48, 99, 52, 52, 50, 57, 56, 102, 99, 49, 99, 49, 52, 57, 97, 102, 98, 102, 52, 99, 56, 57, 57, 54, 102, 98, 57, 50, 52, 50, 55, 97, 101, 52, 49, 101, 52, 54, 52, 57, 98, 57, 51, 52, 99, 97, 52, 57, 53, 57, 57, 49, 98, 55, 56, 53, 50, 98, 56, 53, 53]
theorem known_eq : hexL (shaB []).data.toList = knownL.map (fun c => (c.toNat : Int)) := by decide +kernel
theorem known_str : strOfNums (hexL (shaB []).data.toList) = ⟨knownL.toArray⟩ := by
  rw [known_eq]
  apply ByteArray.ext
  kernel_rfl
set_option maxRecDepth 100000 in
set_option maxHeartbeats 1600000 in
theorem awake_any (w : World) : Calls Try.prog 10 #[] w fun e w' => e = .returned (.bool true) ∧ Below w.heap.size w w' := by
  have hz := shaB_size []
  have hk := known_str
  obtain ⟨x, hx⟩ : ∃ x, x = shaB [] := ⟨_, rfl⟩
  have hs : ∀ w, Calls Try.prog 11 #[.string ⟨#[]⟩] w fun e w' => e = .returned (.string x) ∧ Below w.heap.size w w' := fun w => by rw [hx]; exact sha_any ⟨#[]⟩ (by decide) w
  rw [← hx] at hz hk
  have hh := fun w => hex_any x (by omega) (by omega) w
  rw [hk] at hh
  have HS := Lib.hid hs
  have HH := Lib.hid hh
  clear hx hz hk hs hh
  go_enter Try.func10, Try.ntmps10
  go_wp2_with fail
  refine (HS.out _).mono ?_
  rintro e w1 ⟨rfl, hb1⟩
  go_wp2_with fail
  refine (HH.out _).mono ?_
  rintro e w2 ⟨rfl, hb2⟩
  go_wp2_with fail
  go_ret
  refine ⟨ret_bool ?_, below_trans' hb1 hb2⟩
  kernel_rfl

end Go.Proofs.Ytembegffmodlhaa
