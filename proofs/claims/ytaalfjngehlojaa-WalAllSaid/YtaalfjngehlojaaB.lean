/- Walks: tables of package crc. -/
import Derived.Test.YtaalfjngehlojaaA
namespace Go.Proofs.Ytaalfjngehlojaa
open Go.RowKit

theorem Try.infoU32 : (Try.prog.info? 57).map (fun i => (i.zero, i.size, i.bytes)) = some (some (.int .u32 0), 1, 4) := by kernel_rfl

theorem tab_succ' (k n : Nat) : (tab k (n + 1)).map (Value.int .u32) = (tab k n).map (Value.int .u32) ++ [.int .u32 (stps k ((n : Int) % 4294967296))] := by
  simp [tab_succ]

set_option maxHeartbeats 800000 in
theorem filled18 (n : Nat) (hn : n ≤ 1000) (w : World) :
    Calls Try.prog 36 #[.int .i64 n, .func (.func 37) #[] #[]] w fun e w' =>
      ∃ v, e = .returned v ∧ w'.ownsRow w.heap.size 57 1 v n ((tab 4 n).map (Value.int .u32)) ∧ Below w.heap.size w w' := by
  obtain ⟨i0, hi, hz0, hz1, hz2⟩ := info_parts Try.infoU32
  go_enter Try.func36, Try.ntmps36
  go_wp2_with fail
  go_loopw [5, 8] (fun v i wr => ∃ k : Nat, k ≤ n ∧ i = .int .i64 k ∧ wr.ownsRow w.heap.size 57 1 v k ((tab 4 k).map (Value.int .u32)) ∧ Below w.heap.size w wr) (fun _ i _ => n - (intOf i).toNat)
  case atStart => exact ⟨0, by omega, rfl, World.ownsRow_nil _ _ _ _, Below.refl _ _⟩
  case round =>
    obtain ⟨k, hk, rfl, hown, hB⟩ := hrel
    have hs := hB.size
    have HT := Lib.hid (tab_succ' 4 k)
    by_cases hlt : k < n
    · go_wp2_with (first | (go_at_call 37; refine (half_any _ _).mono ?_; rintro e w' ⟨rfl, rfl⟩) | (at_builtin; refine wpList_append_own _ rfl _ _ 72 rfl w.heap.size 57 i0 (.int .u32 0) 1 4 Try.underlying72 hi hz0 hz1 hz2 rfl (by decide) _ _ _ rfl (hown.alloc _) ⟨wr.heap.size, 0, none⟩ 1 1 [.int .u32 (stps 4 ((k : Int) % 4294967296))] rfl rfl ?c1 ?c2 ?c3 ?c4 ?c5 ?_))
      case c1 => exact cell_one_new _ _ _
      case c2 => simp [Value.oneCell']
      case c3 => unfold maxLen; omega
      case c4 => omega
      case c5 => simp; omega
      intro v' w1 hown' hgrow _
      have hB' := (hB.alloc hs (.cells #[.int .u32 (stps 4 ((k : Int) % 4294967296))] 57)).grown hgrow (by simp; omega) (fun j hj => (hown.lt j hj).1)
      clear hown hB hgrow
      go_wp2
      go_roundw
      case rel => exact ⟨k + 1, by omega, by go_num, by rw [HT.out]; exact hown', hB'⟩
      case measure => simp [intOf]; omega
    · have : k = n := by omega
      subst this
      go_wp2
      go_ret
      exact ⟨_, rfl, hown, hB⟩

end Go.Proofs.Ytaalfjngehlojaa
