/- The walk of ShaKnown. -/
import Derived.Test.YtembegffmodlhaaCn
namespace Go.Proofs.Ytembegffmodlhaa
open Go.RowKit

def kT0 : List UInt8 := [97, 98, 99]
def kH0 : List UInt8 := [98, 97, 55, 56, 49, 54, 98, 102, 56, 102, 48, 49, 99, 102, 101, 97, 52, 49, 52, 49, 52, 48, 100, 101, 53, 100, 97, 101, 50, 50, 50, 51, 98, 48, 48, 51, 54, 49, 97, 51, 57, 54, 49, 55, 55, 97, 57, 99, 98, 52, 49, 48, 102, 102, 54, 49, 102, 50, 48, 48, 49, 53, 97, 100]
def kT1 : List UInt8 := [97, 98, 99, 100, 98, 99, 100, 101, 99, 100, 101, 102, 100, 101, 102, 103, 101, 102, 103, 104, 102, 103, 104, 105, 103, 104, 105, 106, 104, 105, 106, 107, 105, 106, 107, 108, 106, 107, 108, 109, 107, 108, 109, 110, 108, 109, 110, 111, 109, 110, 111, 112, 110, 111, 112, 113]
def kH1 : List UInt8 := [50, 52, 56, 100, 54, 97, 54, 49, 100, 50, 48, 54, 51, 56, 98, 56, 101, 53, 99, 48, 50, 54, 57, 51, 48, 99, 51, 101, 54, 48, 51, 57, 97, 51, 51, 99, 101, 52, 53, 57, 54, 52, 102, 102, 50, 49, 54, 55, 102, 54, 101, 99, 101, 100, 100, 52, 49, 57, 100, 98, 48, 54, 99, 49]
def kT2 : List UInt8 := [84, 104, 101, 32, 113, 117, 105, 99, 107, 32, 98, 114, 111, 119, 110, 32, 102, 111, 120, 32, 106, 117, 109, 112, 115, 32, 111, 118, 101, 114, 32, 116, 104, 101, 32, 108, 97, 122, 121, 32, 100, 111, 103]
def kH2 : List UInt8 := [100, 55, 97, 56, 102, 98, 98, 51, 48, 55, 100, 55, 56, 48, 57, 52, 54, 57, 99, 97, 57, 97, 98, 99, 98, 48, 48, 56, 50, 101, 52, 102, 56, 100, 53, 54, 53, 49, 101, 52, 54, 100, 51, 99, 100, 98, 55, 54, 50, 100, 48, 50, 100, 48, 98, 102, 51, 55, 99, 57, 101, 53, 57, 50]
theorem k_eq0 : hexL (shaB kT0).data.toList = kH0.map (fun c => (c.toNat : Int)) := by decide +kernel
theorem k_eq1 : hexL (shaB kT1).data.toList = kH1.map (fun c => (c.toNat : Int)) := by decide +kernel
theorem k_eq2 : hexL (shaB kT2).data.toList = kH2.map (fun c => (c.toNat : Int)) := by decide +kernel
theorem nums_bytes (l : List UInt8) : strOfNums (l.map (fun c => (c.toNat : Int))) = ⟨l.toArray⟩ := strOfNums_bytes l
/-- The texts and what they come to. -/
def kT (k : Nat) : List UInt8 := if k = 0 then kT0 else if k = 1 then kT1 else kT2
def kH (k : Nat) : List UInt8 := if k = 0 then kH0 else if k = 1 then kH1 else kH2
set_option maxRecDepth 100000 in
theorem k_eq (k : Nat) (hk : k < 3) : strOfNums (hexL (shaB (kT k)).data.toList) = ⟨(kH k).toArray⟩ := by
  have : k = 0 ∨ k = 1 ∨ k = 2 := by omega
  rcases this with rfl | rfl | rfl
  · exact (congrArg strOfNums k_eq0).trans (nums_bytes kH0)
  · exact (congrArg strOfNums k_eq1).trans (nums_bytes kH1)
  · exact (congrArg strOfNums k_eq2).trans (nums_bytes kH2)
theorem kT_size (k : Nat) (hk : k < 3) : (⟨(kT k).toArray⟩ : ByteArray).size ≤ 100 := by
  have : k = 0 ∨ k = 1 ∨ k = 2 := by omega
  rcases this with rfl | rfl | rfl <;> decide
theorem k_cell {W : World} {b : Nat} {f : Nat → List UInt8} (h : W.heap[b]? = some (.cells #[.string ⟨(f 0).toArray⟩, .string ⟨(f 1).toArray⟩, .string ⟨(f 2).toArray⟩] 9 (0, 0))) (k : Nat) (hk : k < 3) : W.cell? ⟨b, k, none⟩ = some (.string ⟨(f k).toArray⟩) := by
  have : k = 0 ∨ k = 1 ∨ k = 2 := by omega
  rcases this with rfl | rfl | rfl <;> simp [World.cell?, h]

set_option maxRecDepth 100000 in
set_option maxHeartbeats 3200000 in
theorem walkKnown (a0 : Int) (w0 : (Lit.int .u8 a0).wf = true) (w : World) :
    Calls Try.prog 7 #[.int .u8 a0] w fun e w' => e = .returned (.bool true) ∧ Below w.heap.size w w' := by
  obtain ⟨b00, b01⟩ := wf_u8_bd w0
  clear w0
  obtain ⟨k, hk⟩ : ∃ k : Nat, a0 % 3 = (k : Int) := ⟨(a0 % 3).toNat, by omega⟩
  have hk1 : k < 3 := by omega
  have hk2 : (k : Int) < 3 := by omega
  have hs := fun w => sha_any ⟨(kT k).toArray⟩ (by have := kT_size k hk1; omega) w
  have hh := fun w => hex_any (shaB (kT k)) (by rw [shaB_size]; omega) (by rw [shaB_size]; omega) w
  rw [k_eq k hk1] at hh
  obtain ⟨X, hX⟩ : ∃ X, X = shaB (kT k) := ⟨_, rfl⟩
  have hs' : ∀ w, Calls Try.prog 11 #[.string ⟨(kT k).toArray⟩] w fun e w' => e = .returned (.string X) ∧ Below w.heap.size w w' := fun w => by rw [hX]; exact hs w
  rw [← hX] at hh
  obtain ⟨T, hT⟩ : ∃ T, T = (⟨(kT k).toArray⟩ : ByteArray) := ⟨_, rfl⟩
  obtain ⟨H, hH⟩ : ∃ H, H = (⟨(kH k).toArray⟩ : ByteArray) := ⟨_, rfl⟩
  rw [← hT] at hs'
  rw [← hH] at hh
  have HS := Lib.hid hs'
  have HH := Lib.hid hh
  have HT := Lib.hid hT
  have HHE := Lib.hid hH
  clear hX hs hs' hh hT hH
  go_enter Try.func7, Try.ntmps7
  go_wp2_with fail
  obtain ⟨W0, hW0⟩ : ∃ W0, W0 = (w.alloc (.cells #[.string ⟨(kT 0).toArray⟩, .string ⟨(kT 1).toArray⟩, .string ⟨(kT 2).toArray⟩] 9)).alloc (.cells #[.string ⟨(kH 0).toArray⟩, .string ⟨(kH 1).toArray⟩, .string ⟨(kH 2).toArray⟩] 9) := ⟨_, rfl⟩
  have hT0 : W0.heap[w.heap.size]? = some (.cells #[.string ⟨(kT 0).toArray⟩, .string ⟨(kT 1).toArray⟩, .string ⟨(kT 2).toArray⟩] 9 (0, 0)) := by
    rw [hW0]; exact (Below.heap_alloc _ _ _ (by simp)).trans (heap_alloc_new _ _)
  have hH0 : W0.heap[w.heap.size + 1]? = some (.cells #[.string ⟨(kH 0).toArray⟩, .string ⟨(kH 1).toArray⟩, .string ⟨(kH 2).toArray⟩] 9 (0, 0)) := by
    rw [hW0]; have := heap_alloc_new (w.alloc (.cells #[.string ⟨(kT 0).toArray⟩, .string ⟨(kT 1).toArray⟩, .string ⟨(kT 2).toArray⟩] 9)) (.cells #[.string ⟨(kH 0).toArray⟩, .string ⟨(kH 1).toArray⟩, .string ⟨(kH 2).toArray⟩] 9); rwa [World.size_alloc] at this
  have hB0 : Below w.heap.size w W0 := by rw [hW0]; exact below_alloc' (below_alloc' (Below.refl _ _) _) _
  have hT1 := k_cell hT0 k hk1
  have hH1 := k_cell hH0 k hk1
  rw [← HT.out] at hT1
  rw [← HHE.out] at hH1
  have hz : w.heap.size + 1 < W0.heap.size := (Array.getElem?_eq_some_iff.1 hH0).1
  clear hT0 hH0
  have hpc := pconsts_any W0
  rw [hW0] at hpc
  refine hpc.mono ?_
  rw [← hW0]
  clear hpc hW0
  rintro e w1 ⟨v1, rfl, ho1, hB1⟩
  obtain ⟨o1, k1, rfl, hg1⟩ := own_shape ho1
  obtain ⟨g1, rfl⟩ := hg1 (by decide)
  clear hg1
  have c0 := consts_cell ho1 (Below.refl _ _) 0 (by decide) 1116352408 rfl
  have c1 := consts_cell ho1 (Below.refl _ _) 1 (by decide) 1899447441 rfl
  have c63 := consts_cell ho1 (Below.refl _ _) 63 (by decide) 3329325298 rfl
  have tT : ∀ W, Below w1.heap.size w1 W → W.cell? ⟨w.heap.size, k, none⟩ = some (.string T) := fun W hW => ((hW.cell (p := ⟨w.heap.size, k, none⟩) (by have := hB1.size; show w.heap.size < _; omega)).trans (hB1.cell (p := ⟨w.heap.size, k, none⟩) (by show w.heap.size < _; omega))).trans hT1
  have tH : ∀ W, Below w1.heap.size w1 W → W.cell? ⟨w.heap.size + 1, k, none⟩ = some (.string H) := fun W hW => ((hW.cell (p := ⟨w.heap.size + 1, k, none⟩) (by have := hB1.size; show w.heap.size + 1 < _; omega)).trans (hB1.cell (p := ⟨w.heap.size + 1, k, none⟩) (by show w.heap.size + 1 < _; omega))).trans hH1
  have hBB := below_trans' hB0 hB1
  clear ho1 hB0 hB1 hT1 hH1 hz
  go_wp2_with fail
  go_region_held3 (fun W => Below w1.heap.size w1 W) (first | exact (Below.refl _ _).drew | assumption) (first | (go_at_call 11; refine (HS.out _).mono ?_; rintro e w3 ⟨rfl, hbA⟩; have hS3 := below_trans' ‹Below w1.heap.size w1 _› hbA; clear hbA) | (go_at_call 17; refine (HH.out _).mono ?_; rintro e w3 ⟨rfl, hbA⟩; have hS3 := below_trans' ‹Below w1.heap.size w1 _› hbA; clear hbA) | (go_at_call 10; refine (awake_any _).mono ?_; rintro e w3 ⟨rfl, hbA⟩; have hS3 := below_trans' ‹Below w1.heap.size w1 _› hbA; clear hbA))
  all_goals (go_wp2; go_ret; exact ⟨rfl, below_trans' hBB ‹Below w1.heap.size w1 _›⟩)

end Go.Proofs.Ytembegffmodlhaa
