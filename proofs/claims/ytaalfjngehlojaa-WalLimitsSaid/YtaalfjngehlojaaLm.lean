/- Walks: WalLimits. -/
import Derived.Test.YtaalfjngehlojaaAw
namespace Go.Proofs.Ytaalfjngehlojaa
open Go.RowKit

theorem packE_bad (x y : Int) (n : Nat) (h : mayB x = false ∨ mayB y = false) : packE x y n = 1 := by
  unfold packE
  rw [if_neg]
  rintro ⟨h1, h2⟩
  rcases h with h | h
  · rw [h] at h1; cases h1
  · rw [h] at h2; cases h2
/-- Packed, or refused for its length. -/
def PackedLen (k : Nat) (w : World) (e : Ending) (w' : World) : Prop :=
  ∃ o n c E, e = .returned (.tuple #[.slice o n c, .int .i64 E]) ∧ ((k ≤ 384 ∧ E = 0) ∨ (384 < k ∧ E = 6 ∧ n = 0)) ∧ Below w.heap.size w w'
theorem pack_len (x y : Int) (s : ByteArray) (k : Nat) (hs : s.size = k) (hk : k ≤ 14400) (hx : mayB x = true) (hy : mayB y = true) (w : World) : Calls Try.prog 8 #[.int .i64 x, .int .i64 y, .string s] w (PackedLen k w) := by
  by_cases h : k ≤ 384
  · refine (pack_good x y s (by omega) (by unfold packE; rw [if_pos ⟨hx, hy⟩, if_neg (by omega)]) w).mono ?_
    rintro e w' ⟨o, c, rfl, _, hB⟩
    exact ⟨o, _, c, 0, rfl, .inl ⟨h, rfl⟩, hB⟩
  · refine (pack_bad x y s (by omega) 6 (by unfold packE; rw [if_pos ⟨hx, hy⟩, if_pos (by omega)]) (by decide) w).mono ?_
    rintro e w' ⟨o, c, rfl, hB⟩
    exact ⟨o, 0, c, 6, rfl, .inr ⟨by omega, rfl, rfl⟩, hB⟩

/-- Noughts made. -/
theorem make_noughts (k : Nat) (hk : k ≤ 1000) : ∃ Z : ByteArray, Z.size = k ∧ (∀ w, (Instr.makeSlice 39 (.int .i64 (k : Int)) (.int .i64 (k : Int))).run Try.prog w = .ok (.slice (some ⟨w.heap.size, 0, none⟩) k k) (w.alloc (.cells (madeCells #[.int .u8 0] k) 5))) ∧
    ∀ w : World, (convert 39 9 (.slice (some ⟨w.heap.size, 0, none⟩) k k)).run Try.prog (w.alloc (.cells (madeCells #[.int .u8 0] k) 5)) = .ok (.string Z) (w.alloc (.cells (madeCells #[.int .u8 0] k) 5)) :=
  ⟨strOfNums (List.replicate k 0), by rw [strOfNums_size]; simp, fun w => run_make_row' (P := Try.prog) 39 5 (.int .u8 0) 1 Try.underlying39 (by kernel_rfl) rfl .i64 .i64 k (by omega) (by omega) w,
    fun w => (Row.made w 5 .u8 k).string (P := Try.prog) 39 9 5 Try.underlying39 Try.underlying5 Try.underlying9 k k (by simp)⟩

set_option maxHeartbeats 3200000 in
set_option maxRecDepth 100000 in
theorem walkLimits (a : Int) (b : Int) (wa : (Lit.int .u8 a).wf = true) (wb : (Lit.int .i64 b).wf = true) (w : World) :
    Calls Try.prog 6 #[.int .u8 a, .int .i64 b] w fun e w' => e = .returned (.bool true) ∧ Below w.heap.size w w' := by
  obtain ⟨ha0, ha1⟩ := wf_u8_bd wa
  obtain ⟨hb0, hb1⟩ := wf_i64_bd wb
  clear wa wb
  obtain ⟨k, hk⟩ : ∃ k : Nat, (k : Int) = 380 + a % 10 := ⟨(380 + a % 10).toNat, by omega⟩
  have hk1 : k ≤ 1000 := by omega
  have hk0 : 380 ≤ k := by omega
  obtain ⟨Z, hZ, hmk, hcv⟩ := make_noughts k hk1
  obtain ⟨Y, hY, hmk4, hcv4⟩ := make_noughts 400 (by omega)
  have HP := Lib.hid (fun w => pack_len 1 2147483647 Z k hZ (by omega) (by decide) (by decide) w)
  have HY := Lib.hid hY
  have HN := Lib.hid (fun w => get_none 1 1 [] (.slice none 0 0) w (by decide) ⟨none, 0, rfl, Nat.le_refl _, fun _ => rfl, fun a e _ => by cases e⟩ (by simp [getB]))
  clear hZ hY
  have he : 380 + a % 10 = (k : Int) := hk.symm
  clear hk
  have P1 : Hid (∀ x, mayB x = false → ∀ w, Calls Try.prog 8 #[.int .i64 x, .int .i64 1, .string ⟨#[]⟩] w (PackedNo 1 w)) := Lib.hid fun x hx w => pack_bad x 1 ⟨#[]⟩ (by decide) 1 (packE_bad _ _ _ (.inl hx)) (by decide) w
  have P2 : Hid (∀ x, mayB x = false → ∀ w, Calls Try.prog 8 #[.int .i64 1, .int .i64 x, .string ⟨#[]⟩] w (PackedNo 1 w)) := Lib.hid fun x hx w => pack_bad 1 x ⟨#[]⟩ (by decide) 1 (packE_bad _ _ _ (.inr hx)) (by decide) w
  have P3 : Hid (∀ x, mayB x = false → ∀ w, Calls Try.prog 8 #[.int .i64 x, .int .i64 x, .string Y] w (PackedNo 1 w)) := Lib.hid fun x hx w => pack_bad x x Y (by rw [HY.out]; omega) 1 (packE_bad _ _ _ (.inl hx)) (by decide) w
  have hmk5 : ∀ w, (Instr.makeSlice 39 (.int .i64 400) (.int .i64 400)).run Try.prog w = .ok (.slice (some ⟨w.heap.size, 0, none⟩) 400 400) (w.alloc (.cells (madeCells #[.int .u8 0] 400) 5)) := hmk4
  clear hmk4
  go_enter Try.func6, Try.ntmps6
  go_wp2_with fail
  refine (HP.out _).mono ?_
  rintro e w1 ⟨o1, n1, c1, E, rfl, hE, hB1⟩
  have hB0 := below_trans' (below_alloc' (Below.refl w.heap.size w) _) hB1
  clear hB1
  obtain ⟨x, hx, hxb⟩ : ∃ x, mayB x = false ∧ ((b < 1 ∧ x = b) ∨ (1 ≤ b ∧ b ≤ 2147483647 ∧ x = -b) ∨ (2147483647 < b ∧ x = b)) := by
    by_cases h1 : b < 1
    · exact ⟨b, by simp [mayB]; omega, .inl ⟨h1, rfl⟩⟩
    · by_cases h2 : b ≤ 2147483647
      · exact ⟨-b, by simp [mayB]; omega, .inr (.inl ⟨by omega, h2, rfl⟩)⟩
      · exact ⟨b, by simp [mayB]; omega, .inr (.inr ⟨by omega, rfl⟩)⟩
  have Q1 := Lib.hid (P1.out x hx)
  have Q2 := Lib.hid (P2.out x hx)
  have Q3 := Lib.hid (P3.out x hx)
  clear P1 P2 P3 hx
  rcases hxb with ⟨h1, rfl⟩ | ⟨h1, h2, rfl⟩ | ⟨h1, rfl⟩
  all_goals
    rcases hE with ⟨hk2, rfl⟩ | ⟨hk2, rfl, rfl⟩
  all_goals
    first
      | have hd : decide ((k : Int) ≤ 384) = true := by simp; omega
      | have hd : decide ((k : Int) ≤ 384) = false := by simp; omega
    go_wp2_with fail
    refine (Q1.out _).mono ?_
    rintro e w2 ⟨o2, c2, rfl, hB2⟩
    go_wp2_with fail
    refine (Q2.out _).mono ?_
    rintro e w3 ⟨o3, c3, rfl, hB3⟩
    go_wp2_with fail
    refine (Q3.out _).mono ?_
    rintro e w4 ⟨o4, c4, rfl, hB4⟩
    go_wp2_with fail
    refine (HN.out _).mono ?_
    rintro e w5 ⟨rfl, hB5⟩
    have hB6 := below_trans' (below_trans' (below_trans' (below_trans' hB0 hB2) hB3) (below_trans' (below_alloc' (Below.refl _ _) _) hB4)) hB5
    go_wp2_with (go_at_call 13; (with_reducible refine (err_any _ _).mono ?_); rintro e w6 ⟨rfl, rfl⟩)
    refine (awake_any _).mono ?_
    rintro e w7 ⟨rfl, hB7⟩
    go_wp2_with fail
    go_ret
    exact ⟨rfl, below_trans' hB6 hB7⟩

end Go.Proofs.Ytaalfjngehlojaa
