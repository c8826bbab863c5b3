/- The plain numbers behind some bytes: blocks, what is left, the filling up. -/
import Derived.Test.YtembegffmodlhaaD
import Derived.Laws.BytesArg
import Derived.Lib.AppendStr
namespace Go.Proofs.Ytembegffmodlhaa

/-- The block at k. -/
def blkL (l : List UInt8) (k : Nat) : List UInt8 := (l.drop (64 * k)).take 64
theorem blkL_length (l : List UInt8) (k : Nat) (h : 64 * k + 64 ≤ l.length) : (blkL l k).length = 64 := by simp [blkL]; omega
/-- The numbers behind some blocks. -/
def hashN (l : List UInt8) : Nat → List Int
  | 0 => firstL
  | k + 1 => nextL (hashN l k) (blkL l k)
theorem hashN_length (l : List UInt8) (k : Nat) : (hashN l k).length = 8 := by
  induction k with
  | zero => rfl
  | succ k ih => exact nextL_length _ _ ih
theorem blkL_append (l m : List UInt8) (k : Nat) (h : 64 * k + 64 ≤ l.length) : blkL (l ++ m) k = blkL l k := by
  unfold blkL
  rw [List.drop_append_of_le_length (by omega), List.take_append_of_le_length (by rw [List.length_drop]; omega)]
theorem hashN_append (l m : List UInt8) (k : Nat) (h : 64 * k ≤ l.length) : hashN (l ++ m) k = hashN l k := by
  induction k with
  | zero => rfl
  | succ k ih =>
    show nextL _ _ = nextL _ _
    rw [ih (by omega), blkL_append l m k (by omega)]
/-- What is left of the first c bytes behind whole blocks. -/
def restL (l : List UInt8) (c : Nat) : List UInt8 := (l.drop (64 * (c / 64))).take (c % 64)
theorem restL_length (l : List UInt8) (c : Nat) (h : c ≤ l.length) : (restL l c).length = c % 64 := by simp [restL]; omega
theorem restL_nil (l : List UInt8) (c : Nat) (h : c % 64 = 0) : restL l c = [] := by simp [restL, h]
theorem restL_more (l : List UInt8) (c n : Nat) (hn : c % 64 + n < 64) : restL l (c + n) = restL l c ++ (l.drop c).take n := by
  unfold restL
  rw [show (c + n) / 64 = c / 64 by omega, show (c + n) % 64 = c % 64 + n by omega, List.take_add, List.drop_drop]
  congr 3
  omega
theorem restL_full (l : List UInt8) (c n : Nat) (hn : c % 64 + n = 64) : blkL l (c / 64) = restL l c ++ (l.drop c).take n := by
  have e : ∀ m : List UInt8, m.take 64 = m.take (c % 64) ++ (m.drop (c % 64)).take n := fun m => by rw [← List.take_add, hn]
  unfold restL blkL
  rw [e, List.drop_drop]
  congr 3
  omega
theorem restL_append (l m : List UInt8) (c : Nat) (h : c ≤ l.length) : restL (l ++ m) c = restL l c := by
  unfold restL
  rw [List.drop_append_of_le_length (by omega), List.take_append_of_le_length (by rw [List.length_drop]; omega)]

/-- Bytes as numbers. -/
def numsB (l : List UInt8) : List Int := l.map (fun x => (x.toNat : Int))
theorem strOfNums_bytes (l : List UInt8) : strOfNums (numsB l) = ⟨l.toArray⟩ := by
  apply ByteArray.ext
  apply Array.ext'
  show ((l.map (fun x => (x.toNat : Int))).map fun n => UInt8.ofNat n.toNat) = l
  rw [List.map_map]
  conv => rhs; rw [← List.map_id l]
  apply List.map_congr_left
  intro x _
  simp
theorem numsB_append (l m : List UInt8) : numsB (l ++ m) = numsB l ++ numsB m := by simp [numsB]
theorem numsB_length (l : List UInt8) : (numsB l).length = l.length := by simp [numsB]
theorem strCells_bytes (l : List UInt8) : Lib.strCells ⟨l.toArray⟩ = (numsB l).map (Value.int .u8) := by
  simp [Lib.strCells, numsB]

end Go.Proofs.Ytembegffmodlhaa
