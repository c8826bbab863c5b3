/- The walk of WideKnown. -/
import Derived.Test.YtojmbbapcnfibaaPf
import Derived.Test.YtojmbbapcnfibaaW
namespace Go.Proofs.Ytojmbbapcnfibaa
open Go.RowKit

def abcH : List UInt8 := [100, 100, 97, 102, 51, 53, 97, 49, 57, 51, 54, 49, 55, 97, 98, 97, 99, 99, 52, 49, 55, 51, 52, 57, 97, 101, 50, 48, 52, 49, 51, 49, 49, 50, 101, 54, 102, 97, 52, 101, 56, 57, 97, 57, 55, 101, 97, 50, 48, 97, 57, 101, 101, 101, 101, 54, 52, 98, 53, 53, 100, 51, 57, 97, 50, 49, 57, 50, 57, 57, 50, 97, 50, 55, 52, 102, 99, 49, 97, 56, 51, 54, 98, 97, 51, 99, 50, 51, 97, 51, 102, 101, 101, 98, 98, 100, 52, 53, 52, 100, 52, 52, 50, 51, 54, 52, 51, 99, 101, 56, 48, 101, 50, 97, 57, 97, 99, 57, 52, 102, 97, 53, 52, 99, 97, 52, 57, 102]
theorem abc_eq : hexL (wideS ⟨#[97, 98, 99]⟩).data.toList = abcH.map (fun c => (c.toNat : Int)) := by decide +kernel
set_option maxRecDepth 100000 in
theorem abc_str : strOfNums (hexL (wideS ⟨#[97, 98, 99]⟩).data.toList) = ⟨#[100, 100, 97, 102, 51, 53, 97, 49, 57, 51, 54, 49, 55, 97, 98, 97, 99, 99, 52, 49, 55, 51, 52, 57, 97, 101, 50, 48, 52, 49, 51, 49, 49, 50, 101, 54, 102, 97, 52, 101, 56, 57, 97, 57, 55, 101, 97, 50, 48, 97, 57, 101, 101, 101, 101, 54, 52, 98, 53, 53, 100, 51, 57, 97, 50, 49, 57, 50, 57, 57, 50, 97, 50, 55, 52, 102, 99, 49, 97, 56, 51, 54, 98, 97, 51, 99, 50, 51, 97, 51, 102, 101, 101, 98, 98, 100, 52, 53, 52, 100, 52, 52, 50, 51, 54, 52, 51, 99, 101, 56, 48, 101, 50, 97, 57, 97, 99, 57, 52, 102, 97, 53, 52, 99, 97, 52, 57, 102]⟩ := by
  rw [abc_eq]
  apply ByteArray.ext
  kernel_rfl
theorem consts_cell {W0 W1 : World} {B : Nat} {g k : Nat} (h : W0.ownsRow B 25 1 (.slice (some ⟨g, 0, none⟩) 80 k) 80 (constsL.map (Value.int .u64))) (h1 : Below W0.heap.size W0 W1) (m : Nat) (hm : m < 80) (x : Int) (hx : x = constsL.getD m 0) :
    ∀ W, Below W1.heap.size W1 W → W.cell? ⟨g, m, none⟩ = some (.int .u64 x) := fun W hW => by
  have hl : constsL.length = 80 := rfl
  rw [(own_below (own_below h h1) hW).cellAt m (by omega), List.getElem?_map, List.getElem?_eq_getElem (by rw [hl]; exact hm), hx, List.getD_eq_getElem?_getD, List.getElem?_eq_getElem (by rw [hl]; exact hm)]; rfl

/-- The document's table, and its number at m. -/
abbrev Told (m : Nat) (x : Int) (w : World) (e : Ending) (w' : World) : Prop := ∃ g k, e = .returned (.slice (some ⟨g, 0, none⟩) 80 k) ∧ w'.cell? ⟨g, m, none⟩ = some (.int .u64 x) ∧ Below w.heap.size w w'
theorem told_any (m : Nat) (hm : m < 80) (x : Int) (hx : x = constsL.getD m 0) (w : World) : Calls Try.prog 9 #[] w (Told m x w) := by
  refine (rconsts_any w).mono ?_
  rintro e w1 ⟨v, rfl, ho, hB⟩
  obtain ⟨o, k, rfl, hg⟩ := own_shape ho
  obtain ⟨g, rfl⟩ := hg (by decide)
  exact ⟨g, k, rfl, consts_cell ho (Below.refl _ _) m hm x hx w1 (Below.refl _ _), hB⟩

set_option maxRecDepth 100000 in
set_option maxHeartbeats 40000000 in
theorem walkKnown (a0 : Int) (w0 : (Lit.int .u8 a0).wf = true) (w : World) :
    Calls Try.prog 3 #[.int .u8 a0] w fun e w' => e = .returned (.bool true) ∧ Below w.heap.size w w' := by
  obtain ⟨b00, b01⟩ := wf_u8_bd w0
  clear w0
  obtain ⟨m, hm⟩ : ∃ m : Nat, a0 % 80 = (m : Int) := ⟨(a0 % 80).toNat, by omega⟩
  have hm' : Int.tmod a0 80 = (m : Int) := by rw [Int.tmod_eq_emod_of_nonneg b00]; exact hm
  have hm1 : m < 80 := by omega
  have hw8 : IntKind.u8.wrap (m : Int) = (m : Int) := by rw [IntKind.wrap_u8]; omega
  have hm2 : (m : Int) < 80 := by omega
  obtain ⟨x, hx⟩ : ∃ x, x = constsL.getD m 0 := ⟨_, rfl⟩
  have HT := Lib.hid (told_any m hm1 x hx)
  have HX := Lib.hid hx
  have hs := fun w => sum_any ⟨#[97, 98, 99]⟩ (by decide) w
  have hh := fun w => hex_any (wideS ⟨#[97, 98, 99]⟩) (by rw [wideS_size]; omega) (by rw [wideS_size]; omega) w
  rw [abc_str] at hh
  obtain ⟨X, hX⟩ : ∃ X, X = wideS ⟨#[97, 98, 99]⟩ := ⟨_, rfl⟩
  simp only [← hX] at hs hh
  obtain ⟨H, hH⟩ : ∃ H, H = (⟨#[100, 100, 97, 102, 51, 53, 97, 49, 57, 51, 54, 49, 55, 97, 98, 97, 99, 99, 52, 49, 55, 51, 52, 57, 97, 101, 50, 48, 52, 49, 51, 49, 49, 50, 101, 54, 102, 97, 52, 101, 56, 57, 97, 57, 55, 101, 97, 50, 48, 97, 57, 101, 101, 101, 101, 54, 52, 98, 53, 53, 100, 51, 57, 97, 50, 49, 57, 50, 57, 57, 50, 97, 50, 55, 52, 102, 99, 49, 97, 56, 51, 54, 98, 97, 51, 99, 50, 51, 97, 51, 102, 101, 101, 98, 98, 100, 52, 53, 52, 100, 52, 52, 50, 51, 54, 52, 51, 99, 101, 56, 48, 101, 50, 97, 57, 97, 99, 57, 52, 102, 97, 53, 52, 99, 97, 52, 57, 102]⟩ : ByteArray) := ⟨_, rfl⟩
  have hE : (H.toList == [100, 100, 97, 102, 51, 53, 97, 49, 57, 51, 54, 49, 55, 97, 98, 97, 99, 99, 52, 49, 55, 51, 52, 57, 97, 101, 50, 48, 52, 49, 51, 49, 49, 50, 101, 54, 102, 97, 52, 101, 56, 57, 97, 57, 55, 101, 97, 50, 48, 97, 57, 101, 101, 101, 101, 54, 52, 98, 53, 53, 100, 51, 57, 97, 50, 49, 57, 50, 57, 57, 50, 97, 50, 55, 52, 102, 99, 49, 97, 56, 51, 54, 98, 97, 51, 99, 50, 51, 97, 51, 102, 101, 101, 98, 98, 100, 52, 53, 52, 100, 52, 52, 50, 51, 54, 52, 51, 99, 101, 56, 48, 101, 50, 97, 57, 97, 99, 57, 52, 102, 97, 53, 52, 99, 97, 52, 57, 102]) = true := by
    rw [hH, ByteArray.toList_eq]
    exact beq_self_eq_true _
  rw [← hH] at hh
  clear hH
  have HS := Lib.hid hs
  have HH := Lib.hid hh
  clear hx hX hs hh
  go_enter Try.func3, Try.ntmps3
  go_wp2_with fail
  refine (pconsts_any _).mono ?_
  rintro e w1 ⟨v1, rfl, ho1, hB1⟩
  obtain ⟨o1, k1, rfl, hg1⟩ := own_shape ho1
  obtain ⟨g1, rfl⟩ := hg1 (by decide)
  clear hg1
  have c0 := consts_cell ho1 (Below.refl _ _) 0 (by decide) 4794697086780616226 rfl
  have c79 := consts_cell ho1 (Below.refl _ _) 79 (by decide) 7801388544844847127 rfl
  have cm := consts_cell ho1 (Below.refl _ _) m hm1 x HX.out
  have hself : Below w1.heap.size w1 w1.drew := (Below.refl _ _).drew
  clear ho1
  go_wp2_with fail
  go_region_law ((go_simp; first | (go_at_call 8; (with_reducible refine Calls.mono (HS.out _) ?_); rintro e w3 ⟨rfl, hbA⟩; have hS3 := below_trans' (h := (by assumption : Below w1.heap.size w1 _)) hbA; clear hbA; go_simp) | (go_at_call 7; (with_reducible refine Calls.mono (HH.out _) ?_); rintro e w3 ⟨rfl, hbA⟩; have hS3 := below_trans' (h := (by assumption : Below w1.heap.size w1 _)) hbA; clear hbA; go_simp) | (go_at_call 9; (with_reducible refine Calls.mono (HT.out _) ?_); rintro e w3 ⟨g2, k2, rfl, hc2, hbA⟩; have hS3 := below_trans' (h := (by assumption : Below w1.heap.size w1 _)) hbA; clear hbA; go_simp) | (go_at_call 10; refine (awake_any _).mono ?_; rintro e w3 ⟨rfl, hbA⟩; have hS3 := below_trans' (h := (by assumption : Below w1.heap.size w1 _)) hbA; clear hbA; go_simp)))
  all_goals (go_wp2; go_ret; exact ⟨rfl, below_trans' hB1 ‹Below w1.heap.size w1 _›⟩)

end Go.Proofs.Ytojmbbapcnfibaa
