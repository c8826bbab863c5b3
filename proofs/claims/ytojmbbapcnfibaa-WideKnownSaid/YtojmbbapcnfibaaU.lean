/- Walks: the document's primes. -/
import Derived.Test.YtojmbbapcnfibaaE
namespace Go.Proofs.Ytojmbbapcnfibaa
open Go.RowKit

/-- The primes among the first numbers from two on. -/
def prL : Nat → List Int
  | 0 => []
  | k + 1 => if (prL k).all (fun q => decide (((k : Int) + 2) % q ≠ 0)) then prL k ++ [(k : Int) + 2] else prL k
theorem prL_succ (k : Nat) : prL (k + 1) = if (prL k).all (fun q => decide (((k : Int) + 2) % q ≠ 0)) then prL k ++ [(k : Int) + 2] else prL k := rfl
theorem prL_408 : (prL 408).length = 80 := by decide +kernel
theorem prL_len_succ (k : Nat) : (prL (k + 1)).length ≤ (prL k).length + 1 ∧ (prL k).length ≤ (prL (k + 1)).length := by
  rw [prL_succ]
  split <;> simp
theorem prL_mono (k d : Nat) : ∃ t, prL (k + d) = prL k ++ t := by
  induction d with
  | zero => exact ⟨[], by simp⟩
  | succ d ih =>
    obtain ⟨t, ht⟩ := ih
    show ∃ u, prL (k + d + 1) = prL k ++ u
    rw [prL_succ]
    split
    · exact ⟨t ++ [((k + d : Nat) : Int) + 2], by rw [ht, List.append_assoc]⟩
    · exact ⟨t, ht⟩
theorem prL_short (k : Nat) (hk : k ≤ 408) (h : (prL k).length < 80) : k < 408 := by
  rcases Nat.lt_or_ge k 408 with h' | h'
  · exact h'
  · obtain rfl : k = 408 := by omega
    rw [prL_408] at h
    omega
theorem prL_take (k n : Nat) (hk : k ≤ 408) (h : (prL k).length = n) : prL k = (prL 408).take n := by
  obtain ⟨t, ht⟩ := prL_mono k (408 - k)
  rw [show k + (408 - k) = 408 by omega] at ht
  rw [ht, ← h, List.take_left]
theorem prL_bd (k : Nat) : ∀ q ∈ prL k, 2 ≤ q ∧ q < (k : Int) + 2 := by
  induction k with
  | zero => intro q hq; cases hq
  | succ k ih =>
    intro q hq
    rw [prL_succ] at hq
    split at hq
    · rcases List.mem_append.1 hq with h | h
      · have := ih q h; omega
      · simp at h; omega
    · have := ih q hq; omega
theorem getD_mem (l : List Int) (j : Nat) (h : j < l.length) : l.getD j 0 ∈ l := by
  rw [List.getD_eq_getElem?_getD, List.getElem?_eq_getElem h]
  exact List.getElem_mem h
theorem own_shape {w : World} {base e n : Nat} {v : Value} {xs : List Value} (h : w.ownsRow base e 1 v n xs) : ∃ o c, v = .slice o n c ∧ (0 < n → ∃ g, o = some ⟨g, 0, none⟩) := by
  rcases h.2 with ⟨rfl, rfl⟩ | ⟨g, cap, cur, rfl, _⟩
  · exact ⟨none, 0, rfl, fun h => absurd h (by omega)⟩
  · exact ⟨_, cap, rfl, fun _ => ⟨g, rfl⟩⟩
theorem infoU64 : (Try.prog.info? 25).map (fun i => (i.zero, i.size, i.bytes)) = some (some (.int .u64 0), 1, 8) := by kernel_rfl

set_option maxHeartbeats 1600000 in
theorem primes_any (n : Nat) (hn : n ≤ 80) (w : World) :
    Calls Try.prog 17 #[.int .i64 n] w fun e w' => ∃ v, e = .returned v ∧ w'.ownsRow w.heap.size 25 1 v n (((prL 408).take n).map (Value.int .u64)) ∧ Below w.heap.size w w' := by
  obtain ⟨i0, hi, hz0, hz1, hz2⟩ := info_parts infoU64
  go_enter Try.func17, Try.ntmps17
  go_wp2_with fail
  go_loopw [3, 4] (fun v y wr => ∃ (k m : Nat), k ≤ 408 ∧ m ≤ n ∧ (prL k).length = m ∧ y = .int .u64 ((k : Int) + 2) ∧ wr.ownsRow w.heap.size 25 1 v m ((prL k).map (Value.int .u64)) ∧ Below w.heap.size w wr) (fun _ y _ => 500 - (intOf y).toNat)
  case atStart => exact ⟨0, 0, by omega, by omega, rfl, rfl, World.ownsRow_nil _ _ _ _, Below.refl _ _⟩
  case round =>
    obtain ⟨k, m, hk, hm, hlen, rfl, hown, hB⟩ := hrel
    obtain ⟨o, c, rfl, hg⟩ := own_shape hown
    have hs := hB.size
    by_cases hlt : m < n
    · have hk4 : k < 408 := prL_short k hk (by omega)
      have HLEN := Lib.hid hlen
      clear hlen
      go_wp2_with fail
      go_loop [5, 6] (fun b i => ∃ j : Nat, j ≤ m ∧ i = .int .i64 j ∧ b = .bool (((prL k).take j).all (fun q => decide (((k : Int) + 2) % q ≠ 0)))) (fun _ i => m - (intOf i).toNat)
      case atStart => exact ⟨0, by omega, rfl, rfl⟩
      case round =>
        obtain ⟨j, hj, rfl, rfl⟩ := hrel
        by_cases hjm : j < m
        · obtain ⟨g, rfl⟩ := hg (by omega)
          have hcell := hown.cellAt j (by omega)
          rw [List.getElem?_map, List.getElem?_eq_getElem (by rw [HLEN.out]; exact hjm)] at hcell
          have hbd := prL_bd k _ (getD_mem (prL k) j (by rw [HLEN.out]; exact hjm))
          have htk : (prL k).take (j + 1) = (prL k).take j ++ [(prL k).getD j 0] := by
            rw [List.take_succ_eq_append_getElem (by rw [HLEN.out]; exact hjm), List.getD_eq_getElem?_getD, List.getElem?_eq_getElem (by rw [HLEN.out]; exact hjm)]; rfl
          rw [show (prL k)[j]'(by rw [HLEN.out]; exact hjm) = (prL k).getD j 0 by rw [List.getD_eq_getElem?_getD, List.getElem?_eq_getElem (by rw [HLEN.out]; exact hjm)]; rfl] at hcell
          obtain ⟨y, hy⟩ : ∃ y, y = (prL k).getD j 0 := ⟨_, rfl⟩
          rw [← hy] at hcell hbd htk
          have h2 : 2 ≤ y := hbd.1
          have h3 : y ≤ 500 := by omega
          have HT := Lib.hid htk
          obtain ⟨b, hb⟩ : ∃ b, b = ((prL k).take j).all (fun q => decide (((k : Int) + 2) % q ≠ 0)) := ⟨_, rfl⟩
          rw [← hb]
          have HB : Hid (((prL k).take (j + 1)).all (fun q => decide (((k : Int) + 2) % q ≠ 0)) = (b && decide (((k : Int) + 2) % y ≠ 0))) := Lib.hid (by rw [htk, List.all_append, hb]; simp)
          clear hy hbd htk hb hown hB
          have hcell' : wr.cell? ⟨g, j, none⟩ = some (.int .u64 y) := by simpa using hcell
          clear hcell
          cases b
          · go_wp2_with fail
            go_round
            case rel => exact ⟨j + 1, by omega, by go_num, by rw [HB.out]; rfl⟩
            case measure => simp [intOf]; omega
          · go_wp2_with fail
            go_round
            case rel => exact ⟨j + 1, by omega, by go_num, by rw [HB.out]; by_cases h : ((k : Int) + 2) % y = 0 <;> simp [h]⟩
            case measure => simp [intOf]; omega
        · obtain rfl : j = m := by omega
          have hall : ((prL k).take j).all (fun q => decide (((k : Int) + 2) % q ≠ 0)) = (prL k).all (fun q => decide (((k : Int) + 2) % q ≠ 0)) := by rw [List.take_of_length_le (by rw [HLEN.out]; exact Nat.le_refl _)]
          rw [hall]
          obtain ⟨b, hb⟩ : ∃ b, b = (prL k).all (fun q => decide (((k : Int) + 2) % q ≠ 0)) := ⟨_, rfl⟩
          rw [← hb]
          have hnx : Hid (prL (k + 1) = if b then prL k ++ [(k : Int) + 2] else prL k) := Lib.hid (by rw [hb]; rfl)
          clear hall hb
          cases b
          · go_wp2_with fail
            go_roundw
            case rel => exact ⟨k + 1, j, by omega, hm, by rw [hnx.out]; exact HLEN.out, by go_num, by rw [hnx.out]; exact hown, hB⟩
            case measure => simp [intOf]; omega
          · go_wp2_with (at_builtin; refine wpList_append_own _ rfl _ _ 22 rfl w.heap.size 25 i0 (.int .u64 0) 1 8 Try.underlying22 hi hz0 hz1 hz2 rfl (by decide) _ _ _ rfl (hown.alloc _) ⟨wr.heap.size, 0, none⟩ 1 1 [.int .u64 ((k : Int) + 2)] rfl rfl ?c1 ?c2 ?c3 ?c4 ?c5 ?_)
            case c2 => simp [Value.oneCell']
            case c3 => unfold maxLen; omega
            case c4 => omega
            case c5 => first | omega | (simp; omega)
            intro v' w1 hown' hgrow _
            have hB' := (hB.alloc hs (.cells #[.int .u64 ((k : Int) + 2)] 25)).grown hgrow (by simp; omega) (fun j hj => (hown.lt j hj).1)
            clear hown hB hgrow
            go_wp2_with fail
            go_roundw
            case rel => exact ⟨k + 1, j + 1, by omega, by omega, by rw [hnx.out]; simp [HLEN.out], by go_num, by rw [hnx.out]; simpa using hown', hB'⟩
            case measure => simp [intOf]; omega
    · obtain rfl : m = n := by omega
      have HP := Lib.hid (prL_take k m hk hlen)
      clear hlen
      go_wp2_with fail
      go_ret
      exact ⟨_, rfl, by rw [← HP.out]; exact hown, hB⟩

end Go.Proofs.Ytojmbbapcnfibaa
