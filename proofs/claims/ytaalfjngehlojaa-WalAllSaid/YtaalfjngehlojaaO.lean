/- Walks: numbers in bytes, which numbers may be. -/
import Derived.Test.YtaalfjngehlojaaH
namespace Go.Proofs.Ytaalfjngehlojaa
open Go.RowKit

/-- A number in n bytes, the lowest first. -/
def litS (x : Int) (n : Nat) : ByteArray := strOfNums ((List.range n).map (litF x))
theorem litS_size (x : Int) (n : Nat) : (litS x n).size = n := by
  unfold litS
  rw [strOfNums_size]
  simp

set_option maxHeartbeats 800000 in
theorem plittle_any (x : Int) (n : Nat) (hn : n ≤ 8) (w : World) :
    Calls Try.prog 23 #[.int .i64 x, .int .i64 n] w fun e w' => e = .returned (.string (litS x n)) ∧ Below w.heap.size w w' := by
  have hmk := fun w => run_make_row' (P := Try.prog) 39 5 (.int .u8 0) 1 Try.underlying39 (by kernel_rfl) rfl .i64 .i64 n (by omega) (by omega) w
  go_enter Try.func23, Try.ntmps23
  go_wp2_with fail
  have hR0 := Row.made w 5 .u8 n
  have hB0 : Below w.heap.size w (w.alloc (.cells (madeCells #[.int .u8 0] n) 5)) := (Below.refl _ _).alloc (Nat.le_refl _) _
  clear hmk
  go_loopw [11] (fun i wr => ∃ (k : Nat) (l : List Int), k ≤ n ∧ i = .int .i64 k ∧ l.length = n ∧ (∀ j, j < k → l.getD j 0 = litF x j) ∧ Row wr w.heap.size 5 .u8 l ∧ Below w.heap.size w wr) (fun i _ => n - (intOf i).toNat)
  case atStart => exact ⟨0, _, by omega, rfl, by simp, fun j hj => by omega, hR0, hB0⟩
  case round =>
    obtain ⟨k, l, hk, rfl, hl, hm, hR, hB⟩ := hrel
    have HM := Lib.hid hm
    have HL := Lib.hid hl
    clear hm hl hR0 hB0
    by_cases hlt : k < n
    · have hf := hR.frozen k
      have hc := hR.cell k (by rw [HL.out]; exact hlt)
      go_wp2
      go_roundw
      case rel =>
        refine ⟨k + 1, l.set k _, by omega, by go_num, by rw [List.length_set]; exact HL.out, ?_, hR.set k _, hB.setCell (p := ⟨w.heap.size, k, none⟩) (Nat.le_refl _) _⟩
        intro j hj
        exact set_upto HM.out (by rw [HL.out]; exact hlt) (by unfold litF; rfl) j hj
      case measure => simp [intOf]; omega
    · obtain rfl : k = n := by omega
      have hs := hR.string (P := Try.prog) 39 9 5 Try.underlying39 Try.underlying5 Try.underlying9 k k HL.out
      go_wp2
      go_ret
      exact ⟨ret_str (by rw [list_upto HM.out HL.out]; rfl), hB⟩

set_option maxHeartbeats 400000 in
theorem rlittle_any (x : Int) (n : Nat) (hn : n ≤ 8) (w : World) :
    Calls Try.prog 18 #[.int .u64 x, .int .i64 n] w fun e w' => e = .returned (.string (litS x n)) ∧ Below w.heap.size w w' := by
  go_enter Try.func18, Try.ntmps18
  go_wp2_with fail
  refine (little_any x n hn _).mono ?_
  rintro e w1 ⟨rfl, hB⟩
  go_wp2_with fail
  go_ret
  exact ⟨rfl, hB⟩

/-- A number that may be. -/
def mayB (x : Int) : Bool := decide (1 ≤ x) && decide (x ≤ 2147483647)

set_option maxHeartbeats 400000 in
theorem may_any (x : Int) (w : World) :
    Calls Try.prog 14 #[.int .i64 x] w fun e w' => e = .returned (.bool (mayB x)) ∧ w = w' := by
  go_enter Try.func14, Try.ntmps14
  by_cases h1 : 1 ≤ x
  · go_wp2_with fail
    go_ret
    exact ⟨ret_bool (by simp [mayB, h1]), rfl⟩
  · go_wp2_with fail
    go_ret
    exact ⟨ret_bool (by simp [mayB]; omega), rfl⟩

set_option maxHeartbeats 400000 in
theorem number_any (x : Int) (w : World) :
    Calls Try.prog 17 #[.int .i64 x] w fun e w' => e = .returned (.bool (mayB x)) ∧ w = w' := by
  go_enter Try.func17, Try.ntmps17
  by_cases h1 : 1 ≤ x
  · go_wp2_with fail
    go_ret
    exact ⟨ret_bool (by simp [mayB, h1]), rfl⟩
  · go_wp2_with fail
    go_ret
    exact ⟨ret_bool (by simp [mayB]; omega), rfl⟩

set_option maxHeartbeats 400000 in
theorem err_any (x : Int) (w : World) :
    Calls Try.prog 13 #[.int .i64 x] w fun e w' => e = .returned (.int .i64 x) ∧ w = w' := by
  go_enter Try.func13, Try.ntmps13
  go_wp2_with fail
  go_ret
  exact ⟨rfl, rfl⟩

end Go.Proofs.Ytaalfjngehlojaa
