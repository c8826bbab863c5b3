/- Walks: the document's bytes with their sum, told again. -/
import Derived.Test.YtnongjllkaaehaaH
namespace Go.Proofs.Ytnongjllkaaehaa
open Go.RowKit

set_option maxHeartbeats 800000 in
theorem getcrc_yes (s : ByteArray) (hs : s.size ≤ 140737488351232) (h : Tells s) (w : World) :
    Calls Try.prog 13 #[.string s] w fun e w' => e = .returned (.agg #[.string (body s), .bool true]) ∧ Below w.heap.size w w' := by
  obtain ⟨h4, h⟩ := h
  have hsl : ∀ w, (Instr.slice 9 (.string s) none (some (.int .i64 ((s.size : Int) - 4))) none).run Try.prog w = .ok (.string (body s)) w := by
    intro w
    have e : ((s.size : Int) - 4) = ((s.size - 4 : Nat) : Int) := by omega
    rw [e]
    exact run_slice_string_hi 9 Try.underlying9 s _ (by omega) w
  have he : ((putB (body s)).toList == s.toList) = true := by rw [toList_beq, h]; simp
  have hz : (body s).size ≤ 140737488351232 := by rw [body_size s h4]; omega
  have hi : (4 : Int) ≤ (s.size : Int) := by omega
  have hd : decide ((s.size : Int) < 4) = false := decide_eq_false (by omega)
  clear h
  go_enter Try.func13, Try.ntmps13
  go_wp2_with fail
  refine (putcrc_any (body s) hz _).mono ?_
  rintro e w1 ⟨rfl, hb1⟩
  have c0 := (hb1.cell (p := ⟨w.heap.size, 0, none⟩) (by simp))
  have c1 := (hb1.cell (p := ⟨w.heap.size, 1, none⟩) (by simp))
  have f0 := (hb1.frozen (p := ⟨w.heap.size, 0, none⟩) (by simp))
  have f1 := (hb1.frozen (p := ⟨w.heap.size, 1, none⟩) (by simp))
  have hz := hb1.size
  simp at c0 c1 f0 f1
  go_wp2
  have hB : Below w.heap.size w w1 := (below_alloc' (Below.refl _ w) _).trans (hb1.mono (by simp))
  exact bodyPost_ret (v := .agg #[.string (body s), .bool true]) (by simp [results, Try.results13, go_sem, c0, c1]) rfl ⟨rfl, (hB.setCell (p := ⟨w.heap.size, 0, none⟩) (Nat.le_refl _) _).setCell (p := ⟨w.heap.size, 1, none⟩) (Nat.le_refl _) _⟩

set_option maxHeartbeats 800000 in
theorem getcrc_no (s : ByteArray) (hs : s.size ≤ 140737488351232) (h4 : 4 ≤ s.size) (h : ¬ Tells s) (w : World) :
    Calls Try.prog 13 #[.string s] w fun e w' => e = .returned (.agg #[.string ByteArray.empty, .bool false]) ∧ Below w.heap.size w w' := by
  have h' : ¬ putB (body s) = s := fun e => h ⟨h4, e⟩
  have hsl : ∀ w, (Instr.slice 9 (.string s) none (some (.int .i64 ((s.size : Int) - 4))) none).run Try.prog w = .ok (.string (body s)) w := by
    intro w
    have e : ((s.size : Int) - 4) = ((s.size - 4 : Nat) : Int) := by omega
    rw [e]
    exact run_slice_string_hi 9 Try.underlying9 s _ (by omega) w
  have he : ((putB (body s)).toList == s.toList) = false := by rw [toList_beq]; exact decide_eq_false h'
  have hz : (body s).size ≤ 140737488351232 := by rw [body_size s h4]; omega
  have hi : (4 : Int) ≤ (s.size : Int) := by omega
  have hd : decide ((s.size : Int) < 4) = false := decide_eq_false (by omega)
  clear h h'
  go_enter Try.func13, Try.ntmps13
  go_wp2_with fail
  refine (putcrc_any (body s) hz _).mono ?_
  rintro e w1 ⟨rfl, hb1⟩
  have c0 := (hb1.cell (p := ⟨w.heap.size, 0, none⟩) (by simp))
  have c1 := (hb1.cell (p := ⟨w.heap.size, 1, none⟩) (by simp))
  have f0 := (hb1.frozen (p := ⟨w.heap.size, 0, none⟩) (by simp))
  have f1 := (hb1.frozen (p := ⟨w.heap.size, 1, none⟩) (by simp))
  have hz := hb1.size
  simp at c0 c1 f0 f1
  go_wp2
  have hB : Below w.heap.size w w1 := (below_alloc' (Below.refl _ w) _).trans (hb1.mono (by simp))
  exact bodyPost_ret (v := .agg #[.string ByteArray.empty, .bool false]) (by simp [results, Try.results13, go_sem, c0, c1]; rfl) rfl ⟨rfl, (hB.setCell (p := ⟨w.heap.size, 0, none⟩) (Nat.le_refl _) _).setCell (p := ⟨w.heap.size, 1, none⟩) (Nat.le_refl _) _⟩
set_option maxHeartbeats 800000 in
theorem getcrc_short (s : ByteArray) (h4 : ¬ 4 ≤ s.size) (w : World) :
    Calls Try.prog 13 #[.string s] w fun e w' => e = .returned (.agg #[.string ByteArray.empty, .bool false]) ∧ Below w.heap.size w w' := by
  have hd : decide ((s.size : Int) < 4) = true := decide_eq_true (by omega)
  go_enter Try.func13, Try.ntmps13
  go_wp2_with fail
  exact bodyPost_ret (v := .agg #[.string ByteArray.empty, .bool false]) (by simp [results, Try.results13, go_sem]; rfl) rfl ⟨rfl, by repeat first | assumption | exact Below.refl _ _ | apply below_drew' | apply below_alloc'⟩
theorem getcrc_no' (s : ByteArray) (hs : s.size ≤ 140737488351232) (h : ¬ Tells s) (w : World) :
    Calls Try.prog 13 #[.string s] w fun e w' => e = .returned (.agg #[.string ByteArray.empty, .bool false]) ∧ Below w.heap.size w w' :=
  if h4 : 4 ≤ s.size then getcrc_no s hs h4 h w else getcrc_short s h4 w
end Go.Proofs.Ytnongjllkaaehaa
