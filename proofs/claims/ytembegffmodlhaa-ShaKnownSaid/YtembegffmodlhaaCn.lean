/- The walk of ShaConsts. -/
import Derived.Test.YtembegffmodlhaaPc
namespace Go.Proofs.Ytembegffmodlhaa
open Go.RowKit

theorem consts_cell {W0 W1 : World} {B : Nat} {g k : Nat} (h : W0.ownsRow B 24 1 (.slice (some ⟨g, 0, none⟩) 64 k) 64 (constsL.map (Value.int .u32))) (h1 : Below W0.heap.size W0 W1) (m : Nat) (hm : m < 64) (x : Int) (hx : x = constsL.getD m 0) :
    ∀ W, Below W1.heap.size W1 W → W.cell? ⟨g, m, none⟩ = some (.int .u32 x) := fun W hW => by
  have hl : constsL.length = 64 := rfl
  rw [(own_below (own_below h h1) hW).cellAt m (by omega), List.getElem?_map, List.getElem?_eq_getElem (by rw [hl]; exact hm), hx, List.getD_eq_getElem?_getD, List.getElem?_eq_getElem (by rw [hl]; exact hm)]; rfl

set_option maxRecDepth 100000 in
set_option maxHeartbeats 1600000 in
theorem walkConsts (a0 : Int) (w0 : (Lit.int .u8 a0).wf = true) (w : World) :
    Calls Try.prog 3 #[.int .u8 a0] w fun e w' => e = .returned (.bool true) ∧ Below w.heap.size w w' := by
  obtain ⟨b00, b01⟩ := wf_u8_bd w0
  clear w0
  obtain ⟨m, hm⟩ : ∃ m : Nat, a0 % 64 = (m : Int) := ⟨(a0 % 64).toNat, by omega⟩
  have hm' : Int.tmod a0 64 = (m : Int) := by rw [Int.tmod_eq_emod_of_nonneg b00]; exact hm
  have hm1 : m < 64 := by omega
  have hw : IntKind.u8.wrap (m : Int) = (m : Int) := by rw [IntKind.wrap_u8]; omega
  have hm2 : (m : Int) < 64 := by omega
  obtain ⟨x, hx⟩ : ∃ x, x = constsL.getD m 0 := ⟨_, rfl⟩
  have HX := Lib.hid hx
  clear hx
  go_enter Try.func3, Try.ntmps3
  go_wp2_with fail
  refine (pconsts_any _).mono ?_
  rintro e w1 ⟨v1, rfl, ho1, hB1⟩
  obtain ⟨o1, k1, rfl, hg1⟩ := own_shape ho1
  obtain ⟨g1, rfl⟩ := hg1 (by decide)
  clear hg1
  go_wp2_with fail
  refine (rconsts_any _).mono ?_
  rintro e w2 ⟨v2, rfl, ho2, hB2⟩
  obtain ⟨o2, k2, rfl, hg2⟩ := own_shape ho2
  obtain ⟨g2, rfl⟩ := hg2 (by decide)
  clear hg2
  have c1 := consts_cell ho1 hB2 m hm1 x HX.out
  have c2 := consts_cell ho2 (Below.refl _ _) m hm1 x HX.out
  have hBB := below_trans' hB1 hB2
  clear ho1 ho2 hB1 hB2
  go_wp2_with fail
  go_region_held3 (fun W => Below w2.heap.size w2 W) (first | exact (Below.refl _ _).drew | assumption) (first | (go_at_call 10; refine (awake_any _).mono ?_; rintro e w3 ⟨rfl, hbA⟩; have hS3 := below_trans' ‹Below w2.heap.size w2 _› hbA; clear hbA))
  go_wp2
  go_ret
  exact ⟨rfl, below_trans' hBB ‹Below w2.heap.size w2 _›⟩

end Go.Proofs.Ytembegffmodlhaa
