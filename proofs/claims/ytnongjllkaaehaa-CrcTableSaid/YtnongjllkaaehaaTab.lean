/- The walk of CrcTable. -/
import Derived.Test.YtnongjllkaaehaaG
namespace Go.Proofs.Ytnongjllkaaehaa
open Go.RowKit

theorem full_inj : ∀ a, a < 256 → ∀ b, b < 256 → full256 a = full256 b → a = b := by
  have h : ∀ a, a < 256 → ∀ b, b < 256 → t256 a / 16777216 = t256 b / 16777216 → a = b := by decide +kernel
  intro a ha b hb he
  exact h a ha b hb (by unfold t256; rw [he])
theorem full_0 : full256 0 = 0 := by decide +kernel
theorem full_1 : full256 1 = 1996959894 := by decide +kernel
theorem full_255 : full256 255 = 755167117 := by decide +kernel

set_option maxRecDepth 100000 in
set_option maxHeartbeats 1600000 in
theorem walkTable (a0 : Int) (a1 : Int) (w0 : (Lit.int .u8 a0).wf = true) (w1 : (Lit.int .u8 a1).wf = true) (w : World) :
    Calls Try.prog 5 #[.int .u8 a0, .int .u8 a1] w fun e w' => e = .returned (.bool true) ∧ Below w.heap.size w w' := by
  have b0 := wf_u8_bd w0
  have b1 := wf_u8_bd w1
  obtain ⟨A, rfl⟩ := Int.eq_ofNat_of_zero_le b0.1
  obtain ⟨B, rfl⟩ := Int.eq_ofNat_of_zero_le b1.1
  have hA : A < 256 := by omega
  have hB : B < 256 := by omega
  have hEq : (full256 A == full256 B) = ((A : Int) == (B : Int)) := by
    by_cases e : A = B
    · subst e; simp
    · have : ¬ full256 A = full256 B := fun h => e (full_inj A hA B hB h)
      rw [beq_eq_false_iff_ne.2 this, beq_eq_false_iff_ne.2 (by omega)]
  clear w0 w1 b0 b1
  have iA : (A : Int) < 256 := by omega
  have iB : (B : Int) < 256 := by omega
  go_enter Try.func5, Try.ntmps5
  go_wp2_with fail
  refine (table_any _).mono ?_
  rintro e w1 ⟨tb, tc, rfl, h1, h2, h3, hB1⟩
  go_wp2_with fail
  refine (rtable_any _).mono ?_
  rintro e w2 ⟨rb, rc, rfl, k1, k2, k3, hB2⟩
  have cA := fun W (hW : Below w2.heap.size w2 W) => ((hW.cell (p := ⟨tb, A, none⟩) (by show tb < _; have := hB2.size; omega)).trans (hB2.cell (p := ⟨tb, A, none⟩) h2)).trans (h3 A hA)
  have cB := fun W (hW : Below w2.heap.size w2 W) => ((hW.cell (p := ⟨tb, B, none⟩) (by show tb < _; have := hB2.size; omega)).trans (hB2.cell (p := ⟨tb, B, none⟩) h2)).trans (h3 B hB)
  have c0 := fun W (hW : Below w2.heap.size w2 W) => ((hW.cell (p := ⟨tb, 0, none⟩) (by show tb < _; have := hB2.size; omega)).trans (hB2.cell (p := ⟨tb, 0, none⟩) h2)).trans (h3 0 (by omega))
  have c1 := fun W (hW : Below w2.heap.size w2 W) => ((hW.cell (p := ⟨tb, 1, none⟩) (by show tb < _; have := hB2.size; omega)).trans (hB2.cell (p := ⟨tb, 1, none⟩) h2)).trans (h3 1 (by omega))
  have c255 := fun W (hW : Below w2.heap.size w2 W) => ((hW.cell (p := ⟨tb, 255, none⟩) (by show tb < _; have := hB2.size; omega)).trans (hB2.cell (p := ⟨tb, 255, none⟩) h2)).trans (h3 255 (by omega))
  have kA := fun W (hW : Below w2.heap.size w2 W) => (hW.cell (p := ⟨rb, A, none⟩) k2).trans (k3 A hA)
  simp only [full_0] at c0
  simp only [full_1] at c1
  simp only [full_255] at c255
  have hBB := below_trans' hB1 hB2
  clear h3 k3 hB1 hB2
  go_wp2_with fail
  go_region_held3 (fun W => Below w2.heap.size w2 W) (first | exact (Below.refl _ _).drew | assumption) (first | (go_at_call 9; refine (awake_any _).mono ?_; rintro e w3 ⟨rfl, hbA⟩; have hS3 := below_trans' ‹Below w2.heap.size w2 _› hbA; clear hbA))
  go_wp2
  go_ret
  exact ⟨rfl, below_trans' hBB ‹Below w2.heap.size w2 _›⟩

end Go.Proofs.Ytnongjllkaaehaa
