/- The walk of ShaPieces. -/
import Derived.Test.YtembegffmodlhaaSv
import Derived.Deep.RegionHeld3
namespace Go.Proofs.Ytembegffmodlhaa
open Go.RowKit

set_option maxHeartbeats 400000 in
theorem write_nil (s : ByteArray) (w : World) : Calls Try.prog 14 #[.pointer none, .string s] w fun e w' => e = .returned (.tuple #[]) ∧ Below w.heap.size w w' := by
  go_enter Try.func14, Try.ntmps14
  go_wp2_with fail
  refine bodyPost_ret (results_none rfl _ _ _) rfl ⟨rfl, below_alloc' (Below.refl _ _) _⟩
set_option maxHeartbeats 400000 in
theorem sum_nil (w : World) : Calls Try.prog 15 #[.pointer none] w fun e w' => e = .returned (.string ⟨#[]⟩) ∧ w = w' := by
  go_enter Try.func15, Try.ntmps15
  go_wp2_with fail
  go_ret
  exact ⟨rfl, rfl⟩
set_option maxHeartbeats 400000 in
theorem len_nil (w : World) : Calls Try.prog 16 #[.pointer none] w fun e w' => e = .returned (.int .i64 0) ∧ w = w' := by
  go_enter Try.func16, Try.ntmps16
  go_wp2_with fail
  go_ret
  exact ⟨rfl, rfl⟩
set_option maxHeartbeats 400000 in
theorem len_any (b : Nat) (l : List UInt8) (B : Nat) (n : Int) (v : Value) (w : World) (h : Held w B b l n v) : Calls Try.prog 16 #[.pointer (some ⟨b, 0, none⟩)] w fun e w' => e = .returned (.int .i64 n) ∧ w = w' := by
  have x := h.st.cellN (hashN_length _ _)
  clear h
  go_enter Try.func16, Try.ntmps16
  go_wp2_with fail
  go_ret
  exact ⟨rfl, rfl⟩
theorem Held.below {W W' : World} {B b : Nat} {l : List UInt8} {n : Int} {v : Value} (h : Held W B b l n v) (hB : Below W.heap.size W W') : Held W' B b l n v :=
  ⟨h.st.below hB h.st.lt, own_below h.own hB, h.le⟩

/-- What the walk is told of a slice of integers that came in. -/
def IsRow (k : IntKind) (w : World) (a : Option Addr) (len cap : Nat) (zs : List Int) : Prop :=
  (a = none ∧ len = 0 ∧ cap = 0 ∧ zs = []) ∨
  ∃ x, a = some x ∧ len ≤ cap ∧ cap ≤ maxLen ∧ zs.length = cap ∧ (∀ i, i < zs.length → w.cell? (x.add i) = some (.int k (zs.getD i 0))) ∧ ∀ n ∈ zs, (Lit.int k n).wf = true
theorem IsRow.at_ {w : World} {a : Option Addr} {len cap : Nat} {zs : List Int} (h : IsRow .u8 w a len cap zs) (i : Nat) (hi : i < len) :
    ∃ x z, a = some x ∧ len ≤ cap ∧ w.cell? (x.add i) = some (.int .u8 z) ∧ (x.add i).block < w.heap.size ∧ 0 ≤ z ∧ z ≤ 255 := by
  rcases h with ⟨_, rfl, _⟩ | ⟨x, rfl, hl, _, hz, hc, hw⟩
  · omega
  · have hc' := hc i (by omega)
    have hm : zs.getD i 0 ∈ zs := getD_mem zs i (by omega)
    obtain ⟨h0, h1⟩ := wf_u8_bd (hw _ hm)
    exact ⟨x, zs.getD i 0, rfl, hl, hc', World.block_lt_of_cell? _ _ hc', h0, h1⟩

set_option maxRecDepth 100000 in
set_option maxHeartbeats 3200000 in
theorem walkPieces1 (a0 : ByteArray) (a1 : Option Addr) (len1 cap1 : Nat) (z1 : List Int) (w : World) (h0 : a0.size ≤ 400) (h1 : len1 ≤ 20) (w1 : IsRow .u8 w a1 len1 cap1 z1) :
    Calls Try.prog 6 #[.string a0, .slice a1 len1 cap1] w fun e w' => e = .returned (.bool true) ∧ Below w.heap.size w w' := by
  have d0 : decide (400 < (a0.size : Int)) = false := decide_eq_false (by omega)
  have d1 : decide (20 < (len1 : Int)) = false := decide_eq_false (by omega)
  obtain ⟨l, hl⟩ : ∃ l, l = a0.data.toList := ⟨_, rfl⟩
  have hls : l.length = a0.size := by rw [hl]; rfl
  have HL := Lib.hid hl
  have HLS := Lib.hid hls
  have HW := Lib.hid w1
  clear w1 hl hls
  go_enter Try.func6, Try.ntmps6
  go_wp2_with fail
  refine (new_any _).mono ?_
  rintro e w2 ⟨b, v, rfl, hH, hB⟩
  have hHH : Held w2 w.heap.size b (l.take 0) ((0 : Nat) : Int) v := hH
  clear hH
  go_wp2_with fail
  go_loopw [6, 7, 8] (fun r n i wr => ∃ (j c : Nat) (v : Value), j ≤ len1 ∧ c ≤ a0.size ∧ i = .int .i64 j ∧ n = .int .i64 c ∧ r = .string ⟨(l.drop c).toArray⟩ ∧ Held wr w.heap.size b (l.take c) c v ∧ Below w.heap.size w wr) (fun _ _ i _ => len1 - (intOf i).toNat)
  case atStart => exact ⟨0, 0, v, by omega, by omega, rfl, rfl, by rw [HL.out]; rfl, hHH, hB⟩
  case round =>
    obtain ⟨j, c, v, hj, hc, rfl, rfl, rfl, hHj, hBj⟩ := hrel
    clear hHH hB
    obtain ⟨R, hR⟩ : ∃ R, R = (⟨(l.drop c).toArray⟩ : ByteArray) := ⟨_, rfl⟩
    obtain ⟨m, hm⟩ : ∃ m, m = a0.size - c := ⟨_, rfl⟩
    have hRs : R.size = m := by rw [hR]; show (l.drop c).toArray.size = m; rw [List.size_toArray, List.length_drop, HLS.out, hm]
    have hRd : R.data.toList = l.drop c := by rw [hR]
    rw [← hR]
    by_cases hjl : j < len1
    · obtain ⟨x, z, rfl, hcap, hcz, hxb, hz0, hz1⟩ := HW.out.at_ j hjl
      have hcz' : wr.cell? (x.add j) = some (.int .u8 z) := (hBj.cell hxb).trans hcz
      obtain ⟨kk, hkk⟩ : ∃ kk : Nat, z % ((m : Int) + 1) = (kk : Int) := ⟨(z % ((m : Int) + 1)).toNat, by have := Int.emod_nonneg z (show (m : Int) + 1 ≠ 0 by omega); omega⟩
      have hk1 : kk ≤ m := by have := Int.emod_lt_of_pos z (show (0 : Int) < (m : Int) + 1 by omega); omega
      obtain ⟨m1, hm1⟩ : ∃ m1, m1 = m + 1 := ⟨_, rfl⟩
      have em1 : (m : Int) + 1 = (m1 : Int) := by omega
      have hm1p : 1 ≤ m1 := by omega
      have hm1n : ¬ m1 = 0 := by omega
      have hmb : m ≤ 400 := by omega
      have hm1b : m1 ≤ 401 := by omega
      rw [em1] at hkk
      have hck : c + kk ≤ a0.size := by omega
      have hsl1 : ∀ w, (Instr.slice 9 (.string R) none (some (.int .i64 (kk : Int))) none).run Try.prog w = .ok (.string ⟨((l.drop c).take kk).toArray⟩) w := fun w => by
        rw [run_slice_string_h w 9 R Try.underlying9 .i64 (kk : Int) (by omega) (by omega)]
        congr 2
        apply ByteArray.ext
        apply Array.ext'
        rw [ByteArray.data_extract]
        simp [hRd]
      have hsl2 : ∀ w, (Instr.slice 9 (.string R) (some (.int .i64 (kk : Int))) none none).run Try.prog w = .ok (.string ⟨(l.drop (c + kk)).toArray⟩) w := fun w => by
        rw [run_slice_string_l w 9 R Try.underlying9 .i64 (kk : Int) (by omega) (by omega)]
        congr 2
        apply ByteArray.ext
        apply Array.ext'
        rw [ByteArray.data_extract]
        simp [hRd]
        exact List.take_of_length_le (by rw [List.length_drop, HLS.out]; omega)
      have hsl3 : ∀ w, (Instr.slice 9 (.string a0) none (some (.int .i64 ((c : Int) + (kk : Int)))) none).run Try.prog w = .ok (.string ⟨(l.take (c + kk)).toArray⟩) w := fun w => by
        rw [run_slice_string_h w 9 a0 Try.underlying9 .i64 ((c : Int) + (kk : Int)) (by omega) (by omega)]
        congr 2
        apply ByteArray.ext
        apply Array.ext'
        rw [ByteArray.data_extract, HL.out]
        have e : ((c : Int) + (kk : Int)).toNat = c + kk := by omega
        simp [e]
      obtain ⟨T, hT⟩ : ∃ T, T = (⟨((l.drop c).take kk).toArray⟩ : ByteArray) := ⟨_, rfl⟩
      obtain ⟨U, hU⟩ : ∃ U, U = (⟨(l.take (c + kk)).toArray⟩ : ByteArray) := ⟨_, rfl⟩
      have hTs : T.size = kk := by rw [hT]; show ((l.drop c).take kk).toArray.size = kk; rw [List.size_toArray, List.length_take, List.length_drop, HLS.out]; omega
      have hUs : U.size = c + kk := by rw [hU]; show (l.take (c + kk)).toArray.size = c + kk; rw [List.size_toArray, List.length_take, HLS.out]; omega
      simp only [← hT] at hsl1
      simp only [← hU] at hsl3
      have hWr := write_any (l.take c) T w.heap.size b c v wr (by rw [List.length_take]; omega) (by omega) (by omega) hHj
      rw [show l.take c ++ T.data.toList = l.take (c + kk) by rw [hT, List.take_add], hTs] at hWr
      have hSh := fun w => sha_any U (by omega) w
      rw [show U.data.toList = l.take (c + kk) by rw [hU]] at hSh
      obtain ⟨X, hX⟩ : ∃ X, X = shaB (l.take (c + kk)) := ⟨_, rfl⟩
      rw [← hX] at hSh
      have HXX := Lib.hid hX
      have HWR := Lib.hid hWr
      have HSH := Lib.hid hSh
      clear hm1 hm hRd hR hT hU hTs hUs hWr hSh hHj hX hcz
      go_wp2_with fail
      refine HWR.out.mono ?_
      rintro e w3 ⟨rfl, ⟨v3, hH3⟩, hB3⟩
      have hBj3 := hBj.trans hB3
      have hsz : w.heap.size ≤ w3.heap.size := hBj3.size
      have hSum : ∀ W, Below w3.heap.size w3 W → Calls Try.prog 15 #[.pointer (some ⟨b, 0, none⟩)] W fun e w' => e = .returned (.string X) ∧ Below W.heap.size W w' := fun W hW => by
        have := hH3.below hW
        rw [HXX.out]
        exact sum_any (l.take (c + kk)) w.heap.size b v3 W (by rw [List.length_take]; omega) (by
          rw [show (((l.take (c + kk)).length : Nat) : Int) = (c : Int) + (kk : Int) by rw [List.length_take, HLS.out]; omega]; exact this)
      have hLen : ∀ W, Below w3.heap.size w3 W → Calls Try.prog 16 #[.pointer (some ⟨b, 0, none⟩)] W fun e w' => e = .returned (.int .i64 ((c : Int) + (kk : Int))) ∧ W = w' := fun W hW => len_any b _ _ _ _ W (hH3.below hW)
      have HSUM := Lib.hid hSum
      have HLEN := Lib.hid hLen
      have HH3 := Lib.hid hH3
      clear hSum hLen hH3 hB3 HWR hBj
      go_wp2_with fail
      go_region_held3 (fun W => Below w3.heap.size w3 W) (first | exact (Below.refl _ _).drew | assumption) (first | (go_at_call 15; refine (HSUM.out _ ‹Below w3.heap.size w3 _›).mono ?_; rintro e w4 ⟨rfl, hbA⟩; have hS3 := below_trans' ‹Below w3.heap.size w3 _› hbA; clear hbA) | (go_at_call 11; refine (HSH.out _).mono ?_; rintro e w4 ⟨rfl, hbA⟩; have hS3 := below_trans' ‹Below w3.heap.size w3 _› hbA; clear hbA) | (go_at_call 16; refine (HLEN.out _ ‹Below w3.heap.size w3 _›).mono ?_; rintro e w4 ⟨rfl, rfl⟩))
      all_goals
        go_wp2_with fail
        go_roundw
      all_goals first
        | exact ⟨j + 1, c + kk, v3, by omega, hck, by go_num, by go_num, rfl, by rw [show (((c + kk : Nat)) : Int) = (c : Int) + (kk : Int) by omega]; exact HH3.out.below ‹Below w3.heap.size w3 _›, hBj3.trans (Below.mono ‹Below w3.heap.size w3 _› hsz)⟩
        | (simp [intOf]; omega)
    · have hWr := write_any (l.take c) R w.heap.size b c v wr (by rw [List.length_take]; omega) (by omega) (by omega) hHj
      rw [hRd, List.take_append_drop, hRs] at hWr
      have hSh := fun w => sha_any a0 (by omega) w
      rw [← HL.out] at hSh
      obtain ⟨X, hX⟩ : ∃ X, X = shaB l := ⟨_, rfl⟩
      simp only [← hX] at hSh
      have HXX := Lib.hid hX
      have HWR := Lib.hid hWr
      have HSH := Lib.hid hSh
      have hcm : (c : Int) + (m : Int) = (a0.size : Int) := by omega
      have HCM := Lib.hid hcm
      clear hm hRd hR hRs hWr hSh hHj hX hcm
      go_wp2_with fail
      refine HWR.out.mono ?_
      rintro e w3 ⟨rfl, ⟨v3, hH3⟩, hB3⟩
      rw [HCM.out] at hH3
      have hBj3 := hBj.trans hB3
      have HH3 := Lib.hid hH3
      clear hH3 hB3 HWR hBj
      go_wp2_with fail
      refine (write_nil _ _).mono ?_
      rintro e w4 ⟨rfl, hB4⟩
      have hH4 := HH3.out.below hB4
      have hB34 := hBj3.trans (hB4.mono hBj3.size)
      have HH4 := Lib.hid hH4
      have hSum := sum_any l w.heap.size b v3 w4 (by rw [HLS.out]; omega) (by rw [HLS.out]; exact hH4)
      rw [← HXX.out] at hSum
      have HSUM := Lib.hid hSum
      clear hH4 hB4 hBj3 hSum
      go_wp2_with fail
      refine HSUM.out.mono ?_
      rintro e w5 ⟨rfl, hB5⟩
      have hH5 := HH4.out.below hB5
      have hB35 := hB34.trans (hB5.mono hB34.size)
      have HH5 := Lib.hid hH5
      clear hH5 hB34 hB5 HSUM
      go_wp2_with fail
      refine (HSH.out _).mono ?_
      rintro e w6 ⟨rfl, hB6⟩
      have hH6 := HH5.out.below hB6
      have hB36 := hB35.trans (hB6.mono hB35.size)
      have HLEN := Lib.hid (len_any b _ _ _ _ w6 hH6)
      clear hH6 hB35 hB6
      go_wp2_with (first | (go_at_call 16; with_reducible refine Calls.mono HLEN.out ?_; rintro e w7 ⟨rfl, rfl⟩) | (go_at_call 15; refine (sum_nil _).mono ?_; rintro e w7 ⟨rfl, rfl⟩) | (go_at_call 16; refine (len_nil _).mono ?_; rintro e w7 ⟨rfl, rfl⟩) | (go_at_call 10; refine (awake_any _).mono ?_; rintro e w7 ⟨rfl, hB7⟩))
      go_ret
      exact ⟨rfl, hB36.trans (Below.mono ‹_› hB36.size)⟩

theorem walkPieces (a0 : ByteArray) (a1 : Option Addr) (len1 cap1 : Nat) (z1 : List Int) (w : World) (_w0 : a0.size ≤ maxLen) (w1 : IsRow .u8 w a1 len1 cap1 z1) :
    Calls Try.prog 6 #[.string a0, .slice a1 len1 cap1] w fun e w' => e = .returned (.bool true) ∧ Below w.heap.size w w' := by
  by_cases h0 : a0.size ≤ 400
  · by_cases h1 : len1 ≤ 20
    · exact walkPieces1 a0 a1 len1 cap1 z1 w h0 h1 w1
    · have d0 : decide (400 < (a0.size : Int)) = false := decide_eq_false (by omega)
      have d1 : decide (20 < (len1 : Int)) = true := decide_eq_true (by omega)
      clear w1
      go_enter Try.func6, Try.ntmps6
      go_wp2_with (go_at_call 10; refine (awake_any _).mono ?_; rintro e wA ⟨rfl, hbA⟩)
      go_ret
      exact ⟨rfl, hbA⟩
  · have d0 : decide (400 < (a0.size : Int)) = true := decide_eq_true (by omega)
    clear w1
    go_enter Try.func6, Try.ntmps6
    go_wp2_with (go_at_call 10; refine (awake_any _).mono ?_; rintro e wA ⟨rfl, hbA⟩)
    go_ret
    exact ⟨rfl, hbA⟩

end Go.Proofs.Ytembegffmodlhaa
