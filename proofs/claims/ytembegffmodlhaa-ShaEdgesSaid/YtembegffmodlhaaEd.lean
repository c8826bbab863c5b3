/- The walk of ShaEdges. -/
import Derived.Test.YtembegffmodlhaaW
import Derived.Deep.RegionHeld3
namespace Go.Proofs.Ytembegffmodlhaa
open Go.RowKit

theorem edge_mod (a : Int) (_h0 : 0 ≤ a) : ∃ m : Nat, 50 + a % 90 = (m : Int) ∧ 50 ≤ m ∧ m < 140 := ⟨(50 + a % 90).toNat, by omega, by omega, by omega⟩

set_option maxHeartbeats 3200000 in
theorem walkEdges (a0 a1 : Int) (w0 : (Lit.int .u8 a0).wf = true) (w1 : (Lit.int .u8 a1).wf = true) (w : World) :
    Calls Try.prog 5 #[.int .u8 a0, .int .u8 a1] w fun e w' => e = .returned (.bool true) ∧ Below w.heap.size w w' := by
  obtain ⟨b00, b01⟩ := wf_u8_bd w0
  obtain ⟨b10, b11⟩ := wf_u8_bd w1
  clear w0 w1
  obtain ⟨m, hm, hm0, hm1⟩ := edge_mod a0 b00
  have hmk : ∀ w : World, (Instr.makeSlice 29 (.int .i64 (50 + a0 % 90)) (.int .i64 (50 + a0 % 90))).run Try.prog w = .ok (.slice (some ⟨w.heap.size, 0, none⟩) m m) (w.alloc (.cells (madeCells #[.int .u8 0] m) 5)) := fun w => by
    rw [hm]
    exact run_make_row' (P := Try.prog) 29 5 (.int .u8 0) 1 Try.underlying29 (by kernel_rfl) rfl .i64 .i64 m (by omega) (by omega) w
  clear hm
  go_enter Try.func5, Try.ntmps5
  go_wp2_with fail
  clear hmk
  have hR0 : Row (w.alloc (.cells (madeCells #[.int .u8 0] m) 5)) w.heap.size 5 .u8 (List.replicate m 0) := Row.made w 5 .u8 m
  have hB0 : Below w.heap.size w (w.alloc (.cells (madeCells #[.int .u8 0] m) 5)) := below_alloc' (Below.refl _ _) _
  generalize w.alloc (.cells (madeCells #[.int .u8 0] m) 5) = W0 at hR0 hB0 ⊢
  go_loopw [6] (fun i wr => ∃ (k : Nat) (L : List Int), k ≤ m ∧ L.length = m ∧ i = .int .i64 k ∧ Row wr w.heap.size 5 .u8 L ∧ Below w.heap.size w wr) (fun i _ => m - (intOf i).toNat)
  case atStart => exact ⟨0, _, by omega, by simp, rfl, hR0, hB0⟩
  case round =>
    obtain ⟨k, L, hk, hL, rfl, hR, hB⟩ := hrel
    clear hR0 hB0
    by_cases hlt : k < m
    · have hc := hR.cell k (by omega)
      have hf := hR.frozen k
      have HL := Lib.hid hL
      obtain ⟨x, hx⟩ : ∃ x, x = L.getD k 0 := ⟨_, rfl⟩
      rw [← hx] at hc
      clear hx hL
      go_wp2_with fail
      go_roundw
      case rel => exact ⟨k + 1, _, by omega, by rw [List.length_set]; exact HL.out, by go_num, hR.set k _, hB.setCell (p := ⟨w.heap.size, k, none⟩) (Nat.le_refl _) _⟩
      case measure => simp [intOf]; omega
    · obtain rfl : k = m := by omega
      have hcv : ∀ W, Below wr.heap.size wr W → (convert 29 9 (.slice (some ⟨w.heap.size, 0, none⟩) k k)).run Try.prog W = .ok (.string (strOfNums L)) W := fun W hW =>
        (hR.below hW hR.lt).string (P := Try.prog) 29 9 5 Try.underlying29 Try.underlying5 Try.underlying9 k k hL
      have hsz : (strOfNums L).size ≤ 1000 := by rw [strOfNums_size]; omega
      obtain ⟨bs, hbs⟩ : ∃ bs, bs = strOfNums L := ⟨_, rfl⟩
      simp only [← hbs] at hcv hsz
      have hs := fun w => sha_any bs (by omega) w
      have hr := fun w => rwide_any bs hsz w
      have hX := shaB_size bs.data.toList
      obtain ⟨X, hX'⟩ : ∃ X, X = shaB bs.data.toList := ⟨_, rfl⟩
      simp only [← hX'] at hs hr hX
      have HS := Lib.hid hs
      have HR := Lib.hid hr
      have hXi : decide ((X.size : Int) = 32) = true := by rw [hX]; rfl
      have hXj : ((X.size : Int) == 32) = true := by rw [hX]; rfl
      clear hs hr hX' hbs hL hX
      go_wp2_with fail
      go_region_held3 (fun W => Below wr.heap.size wr W) (first | exact (Below.refl _ _).drew | assumption) (first | (go_at_call 11; refine (HS.out _).mono ?_; rintro e w3 ⟨rfl, hbA⟩; have hS3 := below_trans' ‹Below wr.heap.size wr _› hbA; clear hbA) | (go_at_call 12; refine (HR.out _).mono ?_; rintro e w3 ⟨rfl, hbA⟩; have hS3 := below_trans' ‹Below wr.heap.size wr _› hbA; clear hbA) | (go_at_call 10; refine (awake_any _).mono ?_; rintro e w3 ⟨rfl, hbA⟩; have hS3 := below_trans' ‹Below wr.heap.size wr _› hbA; clear hbA))
      all_goals (go_wp2; go_ret; exact ⟨rfl, below_trans' hB ‹Below wr.heap.size wr _›⟩)

end Go.Proofs.Ytembegffmodlhaa
