/- Walks: the document's hash: its first numbers. -/
import Derived.Test.YtojmbbapcnfibaaV
import Derived.Test.YtojmbbapcnfibaaS
import Derived.Test.YtojmbbapcnfibaaH
namespace Go.Proofs.Ytojmbbapcnfibaa
open Go.RowKit

theorem strOfNums_append (a b : List Int) : strOfNums (a ++ b) = strOfNums a ++ strOfNums b := by
  apply ByteArray.ext
  simp [strOfNums]
theorem bigB_split (x : Int) (h0 : 0 ≤ x) (h1 : x < 18446744073709551616) : bigB x 16 = bigB 0 8 ++ bigB x 8 := by
  have hz : ∀ j : Nat, j < 8 → x / 2 ^ (8 * (16 - 1 - j)) = 0 := fun j hj => by
    apply Int.ediv_eq_zero_of_lt h0
    refine Int.lt_of_lt_of_le h1 ?_
    have : j = 0 ∨ j = 1 ∨ j = 2 ∨ j = 3 ∨ j = 4 ∨ j = 5 ∨ j = 6 ∨ j = 7 := by omega
    rcases this with rfl | rfl | rfl | rfl | rfl | rfl | rfl | rfl <;> decide
  unfold bigB
  rw [show List.range 16 = List.range 8 ++ (List.range 8).map (· + 8) by rfl, List.map_append, List.map_map]
  congr 1
  · apply List.map_congr_left
    intro j hj
    have := hz j (List.mem_range.1 hj)
    unfold bigE
    rw [this]; simp
/-- Noughts behind. -/
def zer (T : ByteArray) : Nat → ByteArray
  | 0 => T
  | k + 1 => zer T k ++ ⟨#[0]⟩
theorem zer_size (T : ByteArray) (k : Nat) : (zer T k).size = T.size + k := by
  induction k with
  | zero => rfl
  | succ k ih => show (zer T k ++ ⟨#[0]⟩).size = _; rw [ByteArray.size_append, ih]; rfl
theorem repeatL_snoc (k : Nat) : Lib.repeatL [0] (k + 1) = Lib.repeatL [0] k ++ [0] := by rw [Lib.repeatL_add, Lib.repeatL_one]
theorem zer_eq (T : ByteArray) (k : Nat) : zer T k = T ++ ⟨(Lib.repeatL [0] k).toArray⟩ := by
  induction k with
  | zero => show T = T ++ ByteArray.empty; simp
  | succ k ih =>
    show zer T k ++ ⟨#[0]⟩ = _
    rw [ih, repeatL_snoc, ByteArray.append_assoc]
    congr 1
theorem padR_eq (s : ByteArray) (hs : s.size ≤ 1000) :
    zer (s ++ ⟨#[128]⟩) (fillN s.size) ++ strOfNums (bigB 0 8) ++ strOfNums (bigB (s.size * 8) 8) = padL s.data.toList := by
  unfold padL
  rw [show s.data.toList.length = s.size from rfl, bigB_split _ (by omega) (by omega), strOfNums_append, zer_eq, ByteArray.append_assoc]
  congr 2

end Go.Proofs.Ytojmbbapcnfibaa
