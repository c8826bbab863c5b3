/- Walks: the document's sums. -/
import Derived.Test.YtaalfjngehlojaaG
namespace Go.Proofs.Ytaalfjngehlojaa
open Go.RowKit

theorem bits_u8_bd (op : BinOp) (x y : Int) : 0 ≤ Go.bits op .u8 x y ∧ Go.bits op .u8 x y < 256 := by
  unfold Go.bits
  rw [IntKind.wrap_u8]
  omega
theorem getD_byte (s : ByteArray) (k : Nat) (h : k < s.size) : s.data.toList.getD k 0 = s[k] := by
  simp [List.getD_eq_getElem?_getD, h]; rfl

set_option maxRecDepth 100000 in
set_option maxHeartbeats 800000 in
theorem crc_any (s : ByteArray) (hs : s.size ≤ 140737488351232) (w : World) :
    Calls Try.prog 27 #[.string s] w fun e w' => e = .returned (.int .u32 (crcL s.data.toList)) ∧ Below w.heap.size w w' := by
  go_enter Try.func27, Try.ntmps27
  go_wp2_with fail
  refine (rtable_any _).mono ?_
  rintro e W ⟨tb, tc, rfl, h1, h2, hc1, hB2⟩
  go_wp2_with fail
  go_loop [4, 5] (fun n i => ∃ k : Nat, k ≤ s.size ∧ i = .int .i64 k ∧ n = .int .u32 ((s.data.toList.take k).foldl rnd8 4294967295) ∧ 0 ≤ (s.data.toList.take k).foldl rnd8 4294967295 ∧ (s.data.toList.take k).foldl rnd8 4294967295 < 4294967296) (fun _ i => s.size - (intOf i).toNat)
  case atStart => exact ⟨0, by omega, rfl, rfl, by simp, by simp⟩
  case round =>
    obtain ⟨k, hk, rfl, rfl, hn0, hn1⟩ := hrel
    by_cases hlt : k < s.size
    · have hsn := take_snoc (d := 0) s.data.toList k hlt rnd8 4294967295
      rw [getD_byte s k hlt] at hsn
      obtain ⟨c, hc⟩ : ∃ c, s[k] = c := ⟨_, rfl⟩
      obtain ⟨n, hn⟩ : ∃ n, n = (s.data.toList.take k).foldl rnd8 4294967295 := ⟨_, rfl⟩
      rw [hc] at hsn
      rw [← hn] at hsn hn0 hn1 ⊢
      have HS := Lib.hid hsn
      have hcb := c.toNat_lt
      clear hsn hn
      have b1 := bits_u8_bd .xor (n % 256) c.toNat
      have hd1 := hc1 (Go.bits .xor .u8 (n % 256) c.toNat).toNat (by omega)
      clear hc1
      go_wp2
      go_round
      case rel => exact ⟨k + 1, by omega, by go_num, by rw [HS.out]; rfl, by rw [HS.out]; exact (bits_u32_bd _ _ _).1, by rw [HS.out]; exact (bits_u32_bd _ _ _).2⟩
      case measure => simp [intOf]; omega
    · have : k = s.size := by omega
      subst this
      go_wp2
      go_ret
      exact ⟨ret_int (by rw [List.take_of_length_le (by simp)]; rfl), hB2⟩

/-- The bytes of a number, the lowest first. -/
def litF (x : Int) (j : Nat) : Int := x / 2 ^ (8 * j) % 256

theorem set_upto {f : Nat → Int} {l : List Int} {k : Nat} {v : Int} (h : ∀ j, j < k → l.getD j 0 = f j) (hk : k < l.length) (hv : v = f k) (j : Nat) (hj : j < k + 1) : (l.set k v).getD j 0 = f j := by
  by_cases e : j = k
  · subst e; simp [List.getD_eq_getElem?_getD, hk, hv]
  · have := h j (by omega)
    rw [List.getD_eq_getElem?_getD] at this ⊢
    rw [List.getElem?_set_ne (by omega)]; exact this
theorem list_upto {f : Nat → Int} {l : List Int} {n : Nat} (h : ∀ j, j < n → l.getD j 0 = f j) (hn : l.length = n) : l = (List.range n).map f := by
  apply List.ext_getElem
  · simp [hn]
  · intro j h1 h2
    have := h j (by omega)
    rw [List.getD_eq_getElem?_getD, List.getElem?_eq_getElem h1] at this
    simpa using this

set_option maxHeartbeats 800000 in
theorem little_any (x : Int) (n : Nat) (hn : n ≤ 8) (w : World) :
    Calls Try.prog 26 #[.int .u64 x, .int .i64 n] w fun e w' => e = .returned (.string (strOfNums ((List.range n).map (litF x)))) ∧ Below w.heap.size w w' := by
  have hmk := fun w => run_make_row' (P := Try.prog) 39 5 (.int .u8 0) 1 Try.underlying39 (by kernel_rfl) rfl .i64 .i64 n (by omega) (by omega) w
  go_enter Try.func26, Try.ntmps26
  go_wp2_with fail
  have hR0 := Row.made w 5 .u8 n
  have hB0 : Below w.heap.size w (w.alloc (.cells (madeCells #[.int .u8 0] n) 5)) := (Below.refl _ _).alloc (Nat.le_refl _) _
  clear hmk
  go_loopw [6] (fun i wr => ∃ (k : Nat) (l : List Int), k ≤ n ∧ i = .int .i64 k ∧ l.length = n ∧ (∀ j, j < k → l.getD j 0 = litF x j) ∧ Row wr w.heap.size 5 .u8 l ∧ Below w.heap.size w wr) (fun i _ => n - (intOf i).toNat)
  case atStart => exact ⟨0, _, by omega, rfl, by simp, fun j hj => by omega, hR0, hB0⟩
  case round =>
    obtain ⟨k, l, hk, rfl, hl, hm, hR, hB⟩ := hrel
    have HM := Lib.hid hm
    have HL := Lib.hid hl
    clear hm hl hR0 hB0
    by_cases hlt : k < n
    · have hf := hR.frozen k
      have hc := hR.cell k (by rw [HL.out]; exact hlt)
      go_wp2
      go_roundw
      case rel =>
        refine ⟨k + 1, l.set k _, by omega, by go_num, by rw [List.length_set]; exact HL.out, ?_, hR.set k _, hB.setCell (p := ⟨w.heap.size, k, none⟩) (Nat.le_refl _) _⟩
        intro j hj
        exact set_upto HM.out (by rw [HL.out]; exact hlt) (by unfold litF; rfl) j hj
      case measure => simp [intOf]; omega
    · obtain rfl : k = n := by omega
      have hs := hR.string (P := Try.prog) 39 9 5 Try.underlying39 Try.underlying5 Try.underlying9 k k HL.out
      go_wp2
      go_ret
      exact ⟨ret_str (by rw [list_upto HM.out HL.out]), hB⟩


theorem four_eq (n : Int) (h0 : 0 ≤ n) (h1 : n < 4294967296) : strOfNums ((List.range 4).map (litF n)) = four n := by
  unfold four
  congr 1
  show [litF n 0, litF n 1, litF n 2, litF n 3] = _
  unfold litF
  congr 1
  · simp
  congr 1
  congr 1
  congr 1
  show n / 16777216 % 256 = _
  omega

theorem crcL_bd (l : List UInt8) : 0 ≤ crcL l ∧ crcL l < 4294967296 := bits_u32_bd _ _ _

attribute [local go_sem] four_size
set_option maxHeartbeats 800000 in
theorem putcrc_any (s : ByteArray) (hs : s.size ≤ 140737488351232) (w : World) :
    Calls Try.prog 19 #[.string s] w fun e w' => e = .returned (.string (putB s)) ∧ Below w.heap.size w w' := by
  go_enter Try.func19, Try.ntmps19
  go_wp2_with fail
  refine (crc_any s hs _).mono ?_
  rintro e w1 ⟨rfl, hb1⟩
  have hbd := crcL_bd s.data.toList
  obtain ⟨n, hn⟩ : ∃ n, crcL s.data.toList = n := ⟨_, rfl⟩
  rw [hn] at hbd ⊢
  obtain ⟨hbd0, hbd1⟩ := hbd
  have HN := Lib.hid hn
  clear hn
  go_wp2_with fail
  refine (little_any n 4 (by omega) _).mono ?_
  rintro e w2 ⟨rfl, hb2⟩
  rw [four_eq n hbd0 hbd1]
  go_wp2
  go_ret
  exact ⟨by unfold putB; rw [← crcL_eq, HN.out]; rfl, below_trans' hb1 hb2⟩

end Go.Proofs.Ytaalfjngehlojaa
