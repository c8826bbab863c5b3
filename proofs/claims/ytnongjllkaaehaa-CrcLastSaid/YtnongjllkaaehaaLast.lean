/- The walk of CrcLast. -/
import Derived.Test.YtnongjllkaaehaaE
import Derived.Test.YtnongjllkaaehaaK
import Derived.Deep.DeepCutAuto
namespace Go.Proofs.Ytnongjllkaaehaa
open Go.RowKit

theorem conv1 (W : World) (b c : Nat) (h0 : isByte (W.cell? ⟨b, 0, none⟩) = true) :
    (convert 22 9 (.slice (some ⟨b, 0, none⟩) 1 c)).run Try.prog W = .ok (.string (strOfNums [byteOf (W.cell? ⟨b, 0, none⟩)])) W :=
  conv_one 22 9 5 Try.underlying22 Try.underlying5 Try.underlying9 W b c h0
theorem lt_two (n : Nat) : n < n + 1 + 1 := by omega
attribute [local go_sem] conv1 isByte_mk byteOf_mk strOfNums_size

theorem bytes_one (x : Int) : (strOfNums [x]).data.toList = [UInt8.ofNat x.toNat] := rfl
theorem last_eq (s : List UInt8) (a b : Int) (ha0 : 0 ≤ a) (ha : a ≤ 255) (hb0 : 0 ≤ b) (hb : b ≤ 255) :
    (sumL (s ++ (strOfNums [a]).data.toList) == sumL (s ++ (strOfNums [b]).data.toList)) = (a == b) := by
  rw [bytes_one, bytes_one, sumL_eq, sumL_eq, Bool.eq_iff_iff, beq_iff_eq, beq_iff_eq]
  constructor
  · intro h
    have h1 := (sum_last s _ _).1 (by exact_mod_cast h)
    have h2 := congrArg UInt8.toNat h1
    rw [UInt8.toNat_ofNat', UInt8.toNat_ofNat'] at h2
    omega
  · rintro rfl; rfl
theorem zeros_ne : ∀ m, m < 9 → 1 ≤ m → (sumL (strOfNums (List.replicate m 0)).data.toList != 0) = true := by decide +kernel
theorem sum_nought : sumL [0] = 3523407757 := by decide +kernel

set_option maxHeartbeats 8000000 in
theorem walkLast (a0 : ByteArray) (a1 : Int) (a2 : Int) (a3 : Int) (_w0 : a0.size ≤ maxLen) (w1 : (Lit.int .u8 a1).wf = true) (w2 : (Lit.int .u8 a2).wf = true) (w3 : (Lit.int .u8 a3).wf = true) (w : World) :
    Calls Try.prog 4 #[.string a0, .int .u8 a1, .int .u8 a2, .int .u8 a3] w fun e w' => e = .returned (.bool true) ∧ Below w.heap.size w w' := by
  have b1 := wf_u8_bd w1
  have b2 := wf_u8_bd w2
  have b3 := wf_u8_bd w3
  obtain ⟨b30, b31⟩ := b3
  have hEq := last_eq a0.data.toList a1 a2 b1.1 b1.2 b2.1 b2.2
  clear w1 w2 w3 b1 b2
  by_cases hlen : a0.size ≤ 300
  · have hsz : ∀ x, (a0 ++ strOfNums [x]).size ≤ 140737488351232 := fun x => by rw [ByteArray.size_append, strOfNums_size]; simp; omega
    have HE := Lib.hid hEq
    clear hEq
    go_enter Try.func4, Try.ntmps4
    go_upto_region 3 with fail
    go_cut [9, 10] (fun x y wr => x = .int .u32 (sumL (a0.data.toList ++ (strOfNums [a1]).data.toList)) ∧ y = .int .u32 (sumL (a0.data.toList ++ (strOfNums [a2]).data.toList)) ∧ Below w.heap.size w wr)
    case first =>
      go_region_with (first | (go_at_call 8; refine (sum_any _ (hsz _) _).mono ?_; rintro e wA ⟨rfl, hbA⟩; have hcA0 := hbA.cell (p := ⟨w.heap.size, 0, none⟩); have hcA1 := hbA.cell (p := ⟨w.heap.size + 1, 0, none⟩); (try simp [lt_two] at hcA0); (try simp at hcA1); have hSA : Below w.heap.size w wA := below_trans' (by repeat first | assumption | exact Below.refl _ _ | apply below_drew' | apply below_alloc') hbA; clear hbA))
      all_goals (go_wp2_with fail; go_meet; exact ⟨rfl, rfl, by repeat first | assumption | exact Below.refl _ _ | apply below_drew' | apply below_alloc'⟩)
    case rest =>
      obtain ⟨rfl, rfl, hB⟩ := hcut
      have hEq := HE.out
      obtain ⟨m, hm⟩ : ∃ m : Nat, 1 + a3 % 8 = (m : Int) := ⟨(1 + a3 % 8).toNat, by omega⟩
      have hm1 : 1 ≤ m := by omega
      have hm2 : m < 9 := by omega
      have hmk : ∀ w : World, (Instr.makeSlice 22 (.int .i64 (1 + a3 % 8)) (.int .i64 (1 + a3 % 8))).run Try.prog w = .ok (.slice (some ⟨w.heap.size, 0, none⟩) m m) (w.alloc (.cells (madeCells #[.int .u8 0] m) 5)) := fun w => by
        rw [hm]
        exact run_make_row' (P := Try.prog) 22 5 (.int .u8 0) 1 Try.underlying22 (by kernel_rfl) rfl .i64 .i64 m (by omega) (by omega) w
      have hcv : ∀ w : World, (convert 22 9 (.slice (some ⟨w.heap.size, 0, none⟩) m m)).run Try.prog (w.alloc (.cells (madeCells #[.int .u8 0] m) 5)) = .ok (.string (strOfNums (List.replicate m 0))) (w.alloc (.cells (madeCells #[.int .u8 0] m) 5)) := fun w =>
        (Row.made w 5 .u8 m).string (P := Try.prog) 22 9 5 Try.underlying22 Try.underlying5 Try.underlying9 m m (by simp)
      obtain ⟨z, hz⟩ : ∃ z, z = strOfNums (List.replicate m 0) := ⟨_, rfl⟩
      have hzn := zeros_ne m hm2 hm1
      have hzs : z.size ≤ 140737488351232 := by rw [hz, strOfNums_size]; simp; omega
      rw [← hz] at hzn
      simp only [← hz] at hcv
      clear hz hm
      go_wp2_with fail
      refine (sum_any z hzs _).mono ?_
      rintro e wB ⟨rfl, hbB⟩
      go_wp2_with fail
      refine (sum_lit [0] (by decide) _ sum_nought _).mono ?_
      rintro e wC ⟨rfl, hbC⟩
      go_wp2_with fail
      refine (awake_any _).mono ?_
      rintro e wD ⟨rfl, hbD⟩
      go_wp2_with fail
      go_ret
      exact ⟨rfl, below_trans' (below_trans' (below_trans' (below_alloc' hB _) hbB) hbC) hbD⟩
  · have hlen' : 300 < a0.size := by omega
    clear hEq
    go_enter Try.func4, Try.ntmps4
    go_wp2_with (go_at_call 9; refine (awake_any _).mono ?_; rintro e wA ⟨rfl, hbA⟩)
    go_ret
    exact ⟨rfl, hbA⟩

end Go.Proofs.Ytnongjllkaaehaa
