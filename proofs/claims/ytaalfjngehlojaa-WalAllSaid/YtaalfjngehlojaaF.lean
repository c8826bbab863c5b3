/- Walks: bytes with their sum, the tables, and the document's. -/
import Derived.Test.YtaalfjngehlojaaE
namespace Go.Proofs.Ytaalfjngehlojaa
open Go.RowKit

theorem conv4 (W : World) (b c : Nat) (h0 : isByte (W.cell? ⟨b, 0, none⟩) = true) (h1 : isByte (W.cell? ⟨b, 1, none⟩) = true) (h2 : isByte (W.cell? ⟨b, 2, none⟩) = true) (h3 : isByte (W.cell? ⟨b, 3, none⟩) = true) :
    (convert 39 9 (.slice (some ⟨b, 0, none⟩) 4 c)).run Try.prog W = .ok (.string (strOfNums [byteOf (W.cell? ⟨b, 0, none⟩), byteOf (W.cell? ⟨b, 1, none⟩), byteOf (W.cell? ⟨b, 2, none⟩), byteOf (W.cell? ⟨b, 3, none⟩)])) W :=
  conv_four 39 9 5 Try.underlying39 Try.underlying5 Try.underlying9 W b c h0 h1 h2 h3
attribute [local go_sem] conv4 isByte_mk byteOf_mk strOfNums_size

/-- The four bytes of a sum. -/
def four (n : Int) : ByteArray := strOfNums [n % 256, n / 256 % 256, n / 65536 % 256, n / 16777216]
/-- Bytes with their sum. -/
def putB (s : ByteArray) : ByteArray := s ++ four (sumL s.data.toList)
theorem four_size (n : Int) : (four n).size = 4 := strOfNums_size _

set_option maxHeartbeats 800000 in
theorem put_any (s : ByteArray) (hs : s.size ≤ 140737488351232) (w : World) :
    Calls Try.prog 24 #[.string s] w fun e w' => e = .returned (.string (putB s)) ∧ Below w.heap.size w w' := by
  go_enter Try.func24, Try.ntmps24
  go_wp2_with fail
  refine (sum_any s hs _).mono ?_
  rintro e w1 ⟨rfl, hb1⟩
  obtain ⟨n, hn⟩ : ∃ n, sumL s.data.toList = n := ⟨_, rfl⟩
  rw [hn]
  have hbd : 0 ≤ n ∧ n < 4294967296 := by rw [← hn]; exact bits_u32_bd _ _ _
  obtain ⟨hbd0, hbd1⟩ := hbd
  have HN := Lib.hid hn
  clear hn
  go_wp2
  go_ret
  exact ⟨by unfold putB; rw [HN.out]; rfl, below_alloc' hb1 _⟩

/-- The bytes ahead of a sum. -/
def body (s : ByteArray) : ByteArray := s.extract 0 (s.size - 4)
/-- Whether bytes end with their sum. -/
def Tells (s : ByteArray) : Prop := 4 ≤ s.size ∧ putB (body s) = s
theorem body_size (s : ByteArray) (h : 4 ≤ s.size) : (body s).size = s.size - 4 := by
  unfold body; rw [ByteArray.size_extract]; omega

theorem toList_beq (a b : ByteArray) : (a.toList == b.toList) = decide (a = b) := by
  rw [ByteArray.toList_eq, ByteArray.toList_eq]
  by_cases h : a = b
  · simp [h]
  · rw [decide_eq_false h, beq_eq_false_iff_ne]
    intro e
    exact h (ByteArray.ext (Array.toList_inj.1 e))


end Go.Proofs.Ytaalfjngehlojaa
