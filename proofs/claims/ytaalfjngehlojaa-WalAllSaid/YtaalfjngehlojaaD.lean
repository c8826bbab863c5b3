/- The plain numbers of the sums of 32 bits: what the code computes, said without the code. -/
import Derived.Laws.BitsLemmas
namespace Go.Proofs.Ytaalfjngehlojaa

/-- One step of the register's table. -/
def stp (x : Int) : Int := if 0 < Go.bits .and .u32 x 1 then Go.bits .xor .u32 (x / 2) 3988292384 else x / 2
/-- Some steps. -/
def stps : Nat → Int → Int
  | 0, x => x
  | n + 1, x => stps n (stp x)
theorem stps_succ (n : Nat) (x : Int) : stps (n + 1) x = stp (stps n x) := by
  induction n generalizing x with
  | zero => rfl
  | succ n ih => exact ih (stp x)
/-- The table of so many. -/
def tab (k n : Nat) : List Int := (List.range n).map fun i : Nat => stps k ((i : Int) % 4294967296)
theorem tab_length (k n : Nat) : (tab k n).length = n := by simp [tab]
theorem tab_succ (k n : Nat) : tab k (n + 1) = tab k n ++ [stps k ((n : Int) % 4294967296)] := by
  simp [tab, List.range_succ]
theorem tab_get (k n j : Nat) (h : j < n) : (tab k n).getD j 0 = stps k ((j : Int) % 4294967296) := by
  simp [tab, List.getD_eq_getElem?_getD, h]
/-- A number of the table of sixteen. -/
def half16 (n : Nat) : Int := (tab 4 16).getD n 0
/-- A number of the table of 256. -/
def full256 (n : Nat) : Int := (tab 8 256).getD n 0
/-- Half a byte of the sum. -/
def nib (n : Int) : Int := Go.bits .xor .u32 (n / 16) (half16 (n % 16).toNat)
/-- A byte of the sum. -/
def rnd (n : Int) (c : UInt8) : Int := nib (nib (Go.bits .xor .u32 n c.toNat))
/-- The sum of bytes. -/
def sumL (l : List UInt8) : Int := Go.bits .xor .u32 4294967295 (l.foldl rnd 4294967295)
/-- The document's byte of the sum. -/
def rnd8 (n : Int) (c : UInt8) : Int := Go.bits .xor .u32 (n / 256) (full256 (Go.bits .xor .u8 (n % 256) c.toNat).toNat)
/-- The document's sum. -/
def crcL (l : List UInt8) : Int := Go.bits .xor .u32 4294967295 (l.foldl rnd8 4294967295)

theorem bits_u32_bd (op : BinOp) (x y : Int) : 0 ≤ Go.bits op .u32 x y ∧ Go.bits op .u32 x y < 4294967296 := by
  unfold Go.bits
  rw [IntKind.wrap_u32]
  omega

end Go.Proofs.Ytaalfjngehlojaa
