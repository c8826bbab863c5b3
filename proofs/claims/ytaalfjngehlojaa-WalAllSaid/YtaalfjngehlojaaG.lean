/- Walks: the tables, and the document's sums. -/
import Derived.Test.YtaalfjngehlojaaF
namespace Go.Proofs.Ytaalfjngehlojaa
open Go.RowKit

theorem and_one (y : Int) : Go.bits .and .u32 y 1 = 0 ∨ Go.bits .and .u32 y 1 = 1 := by
  unfold Go.bits
  rw [IntKind.wrap_u32]
  have h : (BitVec.ofInt IntKind.u32.bits y &&& BitVec.ofInt IntKind.u32.bits 1).toNat ≤ 1 := by
    rw [BitVec.toNat_and]; exact Nat.and_le_right
  simp only
  omega
theorem full_cells {w : World} {base : Nat} {v : Value} (h : w.ownsRow base 57 1 v 256 ((tab 8 256).map (Value.int .u32))) :
    ∃ b cap, v = .slice (some ⟨b, 0, none⟩) 256 cap ∧ base ≤ b ∧ b < w.heap.size ∧ ∀ j, j < 256 → w.cell? ⟨b, j, none⟩ = some (.int .u32 (full256 j)) := own_cells h (by omega)

/-- A table of 256 numbers is handed back. -/
def TabPost (w : World) (e : Ending) (w' : World) : Prop :=
  ∃ b cap, e = .returned (.slice (some ⟨b, 0, none⟩) 256 cap) ∧ w.heap.size ≤ b ∧ b < w'.heap.size ∧ (∀ j, j < 256 → w'.cell? ⟨b, j, none⟩ = some (.int .u32 (full256 j))) ∧ Below w.heap.size w w'

set_option maxRecDepth 100000 in
set_option maxHeartbeats 800000 in
theorem rtable_any (w : World) : Calls Try.prog 35 #[] w (TabPost w) := by
  obtain ⟨i0, hi, hz0, hz1, hz2⟩ := info_parts Try.infoU32
  go_enter Try.func35, Try.ntmps35
  go_wp2_with fail
  go_loopw [1, 2] (fun v i wr => ∃ k : Nat, k ≤ 256 ∧ i = .int .i64 k ∧ wr.ownsRow w.heap.size 57 1 v k ((tab 8 k).map (Value.int .u32)) ∧ Below w.heap.size w wr) (fun _ i _ => 256 - (intOf i).toNat)
  case atStart => exact ⟨0, by omega, rfl, World.ownsRow_nil _ _ _ _, Below.refl _ _⟩
  case round =>
    obtain ⟨k, hk, rfl, hown, hB⟩ := hrel
    have hs := hB.size
    have HT := Lib.hid (tab_succ' 8 k)
    by_cases hlt : k < 256
    · go_wp2_with fail
      go_loop [3, 4] (fun v i => ∃ j : Nat, j ≤ 8 ∧ i = .int .i64 j ∧ v = .int .u32 (stps j ((k : Int) % 4294967296))) (fun _ i => 8 - (intOf i).toNat)
      case atStart => exact ⟨0, by omega, rfl, by simp [stps]; omega⟩
      case round =>
        obtain ⟨j, hj, rfl, rfl⟩ := hrel
        by_cases hjl : j < 8
        · have hs := stps_succ j ((k : Int) % 4294967296)
          obtain ⟨y, hy⟩ : ∃ y, y = stps j ((k : Int) % 4294967296) := ⟨_, rfl⟩
          rw [← hy] at hs ⊢
          have HS := Lib.hid hs
          clear hs hy
          rcases and_one y with hb | hb
          · have e1 : (Go.bits .and .u32 y 1 == 1) = false := by rw [hb]; rfl
            have E2 : Hid (stp y = y / 2) := Lib.hid (by unfold stp; rw [if_neg (by rw [hb]; omega)])
            clear hb
            go_wp2
            go_round
            case rel => exact ⟨j + 1, by omega, by go_num, by rw [HS.out, E2.out]⟩
            case measure => simp [intOf]; omega
          · have e1 : (Go.bits .and .u32 y 1 == 1) = true := by rw [hb]; rfl
            have E2 : Hid (stp y = Go.bits .xor .u32 (y / 2) 3988292384) := Lib.hid (by unfold stp; rw [if_pos (by rw [hb]; omega)])
            clear hb
            go_wp2
            go_round
            case rel => exact ⟨j + 1, by omega, by go_num, by rw [HS.out, E2.out]⟩
            case measure => simp [intOf]; omega
        · obtain rfl : j = 8 := by omega
          go_wp2_with (at_builtin; refine wpList_append_own _ rfl _ _ 72 rfl w.heap.size 57 i0 (.int .u32 0) 1 4 Try.underlying72 hi hz0 hz1 hz2 rfl (by decide) _ _ _ rfl (hown.alloc _) ⟨wr.heap.size, 0, none⟩ 1 1 [.int .u32 (stps 8 ((k : Int) % 4294967296))] rfl rfl ?c1 ?c2 ?c3 ?c4 ?c5 ?_)
          case c2 => simp [Value.oneCell']
          case c3 => unfold maxLen; omega
          case c4 => omega
          case c5 => omega
          intro v' w1 hown' hgrow _
          have hB' := (hB.alloc hs (.cells #[.int .u32 (stps 8 ((k : Int) % 4294967296))] 57)).grown hgrow (by simp; omega) (fun j hj => (hown.lt j hj).1)
          clear hown hB hgrow
          go_wp2
          go_roundw
          case rel => exact ⟨k + 1, by omega, by go_num, by rw [HT.out]; exact hown', hB'⟩
          case measure => simp [intOf]; omega
    · have hk2 : ¬ ((k : Int) < 256) := by omega
      have HO := Lib.hid hown
      clear hown HT
      go_wp2
      go_ret
      obtain rfl : k = 256 := by omega
      obtain ⟨b, cap, rfl, h1, h2, h3⟩ := full_cells HO.out
      exact ⟨b, cap, rfl, h1, h2, h3, hB⟩

end Go.Proofs.Ytaalfjngehlojaa
