/- Walks: numbers as bytes. -/
import Derived.Test.YtojmbbapcnfibaaC
namespace Go.Proofs.Ytojmbbapcnfibaa
open Go.RowKit

/-- The bytes of a number, the highest first. -/
def bigE (x : Int) (m j : Nat) : Int := x / 2 ^ (8 * (m - 1 - j)) % 256
def bigB (x : Int) (m : Nat) : List Int := (List.range m).map (bigE x m)
theorem bigB_length (x : Int) (m : Nat) : (bigB x m).length = m := by simp [bigB]

theorem set_upto {f : Nat → Int} {l : List Int} {k : Nat} {v : Int} (h : ∀ j, j < k → l.getD j 0 = f j) (hk : k < l.length) (hv : v = f k) (j : Nat) (hj : j < k + 1) : (l.set k v).getD j 0 = f j := by
  by_cases e : j = k
  · subst e; simp [List.getD_eq_getElem?_getD, hk, hv]
  · have := h j (by omega)
    rw [List.getD_eq_getElem?_getD] at this ⊢
    rw [List.getElem?_set_ne (by omega)]; exact this
theorem set_downto {f : Nat → Int} {l : List Int} {n k : Nat} {v : Int} (h : ∀ j, k < j → j < n → l.getD j 0 = f j) (hk : k < l.length) (hv : v = f k) (j : Nat) (hj : k ≤ j) (hn : j < n) : (l.set k v).getD j 0 = f j := by
  by_cases e : j = k
  · subst e; simp [List.getD_eq_getElem?_getD, hk, hv]
  · have := h j (by omega) hn
    rw [List.getD_eq_getElem?_getD] at this ⊢
    rw [List.getElem?_set_ne (by omega)]; exact this
theorem list_upto {f : Nat → Int} {l : List Int} {n : Nat} (h : ∀ j, j < n → l.getD j 0 = f j) (hn : l.length = n) : l = (List.range n).map f := by
  apply List.ext_getElem
  · simp [hn]
  · intro j h1 h2
    have := h j (by omega)
    rw [List.getD_eq_getElem?_getD, List.getElem?_eq_getElem h1] at this
    simpa using this
theorem shift_step (x : Int) (k : Nat) : x / 2 ^ (8 * k) / 256 = x / 2 ^ (8 * (k + 1)) := by
  rw [Int.ediv_ediv_of_nonneg (Int.le_of_lt (Int.pow_pos (by decide))), Nat.mul_add, Int.pow_add]; rfl

set_option maxHeartbeats 800000 in
theorem big_any (x : Int) (n : Nat) (hn : n ≤ 64) (w : World) :
    Calls Try.prog 16 #[.int .u64 x, .int .i64 n] w fun e w' => e = .returned (.string (strOfNums (bigB x n))) ∧ Below w.heap.size w w' := by
  have hmk := fun w => run_make_row' (P := Try.prog) 29 5 (.int .u8 0) 1 Try.underlying29 (by kernel_rfl) rfl .i64 .i64 n (by omega) (by omega) w
  go_enter Try.func16, Try.ntmps16
  go_wp2_with fail
  have hR0 := Row.made w 5 .u8 n
  have hB0 : Below w.heap.size w (w.alloc (.cells (madeCells #[.int .u8 0] n) 5)) := (Below.refl _ _).alloc (Nat.le_refl _) _
  clear hmk
  go_loopw [0, 6] (fun y i wr => ∃ (k : Nat) (l : List Int) (z : Int), k ≤ n ∧ z = x / 2 ^ (8 * k) ∧ y = .int .u64 z ∧ i = .int .i64 ((n : Int) - 1 - k) ∧ l.length = n ∧ (∀ j, n ≤ j + k → j < n → l.getD j 0 = bigE x n j) ∧ Row wr w.heap.size 5 .u8 l ∧ Below w.heap.size w wr) (fun _ i _ => (intOf i + 1).toNat)
  case atStart => exact ⟨0, _, x, by omega, by simp, rfl, by simp, by simp, fun j hj => by omega, hR0, hB0⟩
  case round =>
    obtain ⟨k, l, z, hk, hz, rfl, rfl, hl, hm, hR, hB⟩ := hrel
    have HM := Lib.hid hm
    have HL := Lib.hid hl
    have HZ := Lib.hid hz
    clear hm hl hR0 hB0 hz
    by_cases hlt : k < n
    · obtain ⟨i, hi⟩ : ∃ i : Nat, i = n - 1 - k := ⟨_, rfl⟩
      have hi' : (n : Int) - 1 - k = i := by omega
      have HI := Lib.hid hi
      have hil : i < n := by omega
      rw [hi']
      have hf := hR.frozen i
      have hc := hR.cell i (by rw [HL.out]; exact hil)
      have HI' := Lib.hid hi'
      clear hi hi' hlt
      go_wp2
      go_roundw
      case rel =>
        refine ⟨k + 1, l.set i _, _, by have := HI'.out; omega, rfl, ?_, ?_, by rw [List.length_set]; exact HL.out, ?_, hR.set i _, hB.setCell (p := ⟨w.heap.size, i, none⟩) (Nat.le_refl _) _⟩
        · rw [← shift_step, ← HZ.out]
        · have := HI'.out; go_num
        · intro j hj hjn
          have := HI.out; have := HI'.out
          exact set_downto (n := n) (k := i) (fun j h1 h2 => HM.out j (by omega) h2) (by rw [HL.out]; exact hil) (by unfold bigE; rw [HZ.out, show n - 1 - i = k by omega]) j (by omega) hjn
      case measure => simp [intOf]
    · obtain rfl : k = n := by omega
      have hs := hR.string (P := Try.prog) 29 9 5 Try.underlying29 Try.underlying5 Try.underlying9 k k HL.out
      go_wp2
      go_ret
      exact ⟨ret_str (by rw [list_upto (f := bigE x k) (fun j h => HM.out j (by omega) h) HL.out]; rfl), hB⟩

set_option maxHeartbeats 800000 in
theorem rbig_any (x : Int) (n : Nat) (hn : n ≤ 8) (w : World) :
    Calls Try.prog 19 #[.int .u64 x, .int .i64 n] w fun e w' => e = .returned (.string (strOfNums (bigB x n))) ∧ Below w.heap.size w w' := by
  have hmk := fun w => run_make_row' (P := Try.prog) 29 5 (.int .u8 0) 1 Try.underlying29 (by kernel_rfl) rfl .i64 .i64 n (by omega) (by omega) w
  go_enter Try.func19, Try.ntmps19
  go_wp2_with fail
  have hR0 := Row.made w 5 .u8 n
  have hB0 : Below w.heap.size w (w.alloc (.cells (madeCells #[.int .u8 0] n) 5)) := (Below.refl _ _).alloc (Nat.le_refl _) _
  clear hmk
  go_loopw [6] (fun i wr => ∃ (k : Nat) (l : List Int), k ≤ n ∧ i = .int .i64 k ∧ l.length = n ∧ (∀ j, j < k → l.getD j 0 = bigE x n j) ∧ Row wr w.heap.size 5 .u8 l ∧ Below w.heap.size w wr) (fun i _ => n - (intOf i).toNat)
  case atStart => exact ⟨0, _, by omega, rfl, by simp, fun j hj => by omega, hR0, hB0⟩
  case round =>
    obtain ⟨k, l, hk, rfl, hl, hm, hR, hB⟩ := hrel
    have HM := Lib.hid hm
    have HL := Lib.hid hl
    clear hm hl hR0 hB0
    by_cases hlt : k < n
    · have hf := hR.frozen k
      have hc := hR.cell k (by rw [HL.out]; exact hlt)
      have hs1 : (n : Int) - 1 - (k : Int) = ((n - 1 - k : Nat) : Int) := by omega
      have hs2 : ((n - 1 - k : Nat) : Int) < 8 := by omega
      have hs3 : bigE x n k = x / 2 ^ (8 * (n - 1 - k)) % 256 := rfl
      generalize n - 1 - k = e at hs1 hs2 hs3
      have HS3 := Lib.hid hs3
      clear hs3
      go_wp2
      go_roundw
      case rel =>
        refine ⟨k + 1, l.set k _, by omega, by go_num, by rw [List.length_set]; exact HL.out, ?_, hR.set k _, hB.setCell (p := ⟨w.heap.size, k, none⟩) (Nat.le_refl _) _⟩
        intro j hj
        exact set_upto HM.out (by rw [HL.out]; exact hlt) (by rw [HS3.out]) j hj
      case measure => simp [intOf]; omega
    · obtain rfl : k = n := by omega
      have hs := hR.string (P := Try.prog) 29 9 5 Try.underlying29 Try.underlying5 Try.underlying9 k k HL.out
      go_wp2
      go_ret
      exact ⟨ret_str (by rw [list_upto HM.out HL.out]; rfl), hB⟩

end Go.Proofs.Ytojmbbapcnfibaa
