/- Walks: bytes with their sum, the tables, and the document's. -/
import Derived.Test.YtnongjllkaaehaaE
namespace Go.Proofs.Ytnongjllkaaehaa
open Go.RowKit

theorem conv4 (W : World) (b c : Nat) (h0 : isByte (W.cell? ⟨b, 0, none⟩) = true) (h1 : isByte (W.cell? ⟨b, 1, none⟩) = true) (h2 : isByte (W.cell? ⟨b, 2, none⟩) = true) (h3 : isByte (W.cell? ⟨b, 3, none⟩) = true) :
    (convert 22 9 (.slice (some ⟨b, 0, none⟩) 4 c)).run Try.prog W = .ok (.string (strOfNums [byteOf (W.cell? ⟨b, 0, none⟩), byteOf (W.cell? ⟨b, 1, none⟩), byteOf (W.cell? ⟨b, 2, none⟩), byteOf (W.cell? ⟨b, 3, none⟩)])) W :=
  conv_four 22 9 5 Try.underlying22 Try.underlying5 Try.underlying9 W b c h0 h1 h2 h3
attribute [local go_sem] conv4 isByte_mk byteOf_mk strOfNums_size

/-- The four bytes of a sum. -/
def four (n : Int) : ByteArray := strOfNums [n % 256, n / 256 % 256, n / 65536 % 256, n / 16777216]
/-- Bytes with their sum. -/
def putB (s : ByteArray) : ByteArray := s ++ four (sumL s.data.toList)
theorem four_size (n : Int) : (four n).size = 4 := strOfNums_size _

set_option maxHeartbeats 800000 in
theorem put_any (s : ByteArray) (hs : s.size ≤ 140737488351232) (w : World) :
    Calls Try.prog 15 #[.string s] w fun e w' => e = .returned (.string (putB s)) ∧ Below w.heap.size w w' := by
  go_enter Try.func15, Try.ntmps15
  go_wp2_with fail
  refine (sum_any s hs _).mono ?_
  rintro e w1 ⟨rfl, hb1⟩
  obtain ⟨n, hn⟩ : ∃ n, sumL s.data.toList = n := ⟨_, rfl⟩
  rw [hn]
  have hbd : 0 ≤ n ∧ n < 4294967296 := by rw [← hn]; exact bits_u32_bd _ _ _
  obtain ⟨hbd0, hbd1⟩ := hbd
  have HN := Lib.hid hn
  clear hn
  go_wp2
  go_ret
  exact ⟨by unfold putB; rw [HN.out]; rfl, below_alloc' hb1 _⟩

/-- The bytes ahead of a sum. -/
def body (s : ByteArray) : ByteArray := s.extract 0 (s.size - 4)
/-- Whether bytes end with their sum. -/
def Tells (s : ByteArray) : Prop := 4 ≤ s.size ∧ putB (body s) = s
theorem body_size (s : ByteArray) (h : 4 ≤ s.size) : (body s).size = s.size - 4 := by
  unfold body; rw [ByteArray.size_extract]; omega

theorem toList_beq (a b : ByteArray) : (a.toList == b.toList) = decide (a = b) := by
  rw [ByteArray.toList_eq, ByteArray.toList_eq]
  by_cases h : a = b
  · simp [h]
  · rw [decide_eq_false h, beq_eq_false_iff_ne]
    intro e
    exact h (ByteArray.ext (Array.toList_inj.1 e))

set_option maxHeartbeats 800000 in
theorem get_short (s : ByteArray) (hs : s.size < 4) (w : World) :
    Calls Try.prog 12 #[.string s] w fun e w' => e = .returned (.tuple #[.string ByteArray.empty, .bool false]) ∧ Below w.heap.size w w' := by
  go_enter Try.func12, Try.ntmps12
  go_wp2
  go_ret2
  exact ⟨rfl, Below.refl _ _⟩
theorem run_slice_string_hi {P : Program} (t : TypeId) (ht : P.underlying t = some .string) (s : ByteArray) (n : Nat) (hn : n ≤ s.size) (w : World) :
    (Instr.slice t (.string s) none (some (.int .i64 (n : Int))) none).run P w = .ok (.string (s.extract 0 n)) w := by
  go_simp
set_option maxHeartbeats 800000 in
theorem get_yes (s : ByteArray) (hs : s.size ≤ 140737488351232) (h : Tells s) (w : World) :
    Calls Try.prog 12 #[.string s] w fun e w' => e = .returned (.tuple #[.string (body s), .bool true]) ∧ Below w.heap.size w w' := by
  obtain ⟨h4, h⟩ := h
  have hsl : ∀ w, (Instr.slice 9 (.string s) none (some (.int .i64 ((s.size : Int) - 4))) none).run Try.prog w = .ok (.string (body s)) w := by
    intro w
    have e : ((s.size : Int) - 4) = ((s.size - 4 : Nat) : Int) := by omega
    rw [e]
    exact run_slice_string_hi 9 Try.underlying9 s _ (by omega) w
  have he : ((putB (body s)).toList == s.toList) = true := by rw [toList_beq, h]; simp
  have hz : (body s).size ≤ 140737488351232 := by rw [body_size s h4]; omega
  have hi : (4 : Int) ≤ (s.size : Int) := by omega
  have H := Lib.hid h
  clear h
  go_enter Try.func12, Try.ntmps12
  go_wp2_with (go_at_call 15; refine (put_any (body s) hz _).mono ?_; rintro e w1 ⟨rfl, hb1⟩)
  go_ret2
  exact ⟨rfl, hb1⟩
set_option maxHeartbeats 800000 in
theorem get_no (s : ByteArray) (hs : s.size ≤ 140737488351232) (h4 : 4 ≤ s.size) (h : ¬ Tells s) (w : World) :
    Calls Try.prog 12 #[.string s] w fun e w' => e = .returned (.tuple #[.string ByteArray.empty, .bool false]) ∧ Below w.heap.size w w' := by
  have h' : ¬ putB (body s) = s := fun e => h ⟨h4, e⟩
  have hsl : ∀ w, (Instr.slice 9 (.string s) none (some (.int .i64 ((s.size : Int) - 4))) none).run Try.prog w = .ok (.string (body s)) w := by
    intro w
    have e : ((s.size : Int) - 4) = ((s.size - 4 : Nat) : Int) := by omega
    rw [e]
    exact run_slice_string_hi 9 Try.underlying9 s _ (by omega) w
  have he : ((putB (body s)).toList == s.toList) = false := by rw [toList_beq]; exact decide_eq_false h'
  have hz : (body s).size ≤ 140737488351232 := by rw [body_size s h4]; omega
  have hi : (4 : Int) ≤ (s.size : Int) := by omega
  clear h h'
  go_enter Try.func12, Try.ntmps12
  go_wp2_with (go_at_call 15; refine (put_any (body s) hz _).mono ?_; rintro e w1 ⟨rfl, hb1⟩)
  go_ret2
  exact ⟨rfl, hb1⟩
theorem get_any (s : ByteArray) (hs : s.size ≤ 140737488351232) (w : World) :
    (Tells s → Calls Try.prog 12 #[.string s] w fun e w' => e = .returned (.tuple #[.string (body s), .bool true]) ∧ Below w.heap.size w w') ∧
    (¬ Tells s → Calls Try.prog 12 #[.string s] w fun e w' => e = .returned (.tuple #[.string ByteArray.empty, .bool false]) ∧ Below w.heap.size w w') :=
  ⟨fun h => get_yes s hs h w, fun h => if h4 : 4 ≤ s.size then get_no s hs h4 h w else get_short s (by omega) w⟩

end Go.Proofs.Ytnongjllkaaehaa
