/- Words for the document's hash. -/
import Derived.Test.YtembegffmodlhaaV
import Derived.Test.YtembegffmodlhaaSv
import Derived.StillTailTactics
namespace Go.Proofs.Ytembegffmodlhaa
open Go.RowKit

theorem strOfNums_append (a b : List Int) : strOfNums (a ++ b) = strOfNums a ++ strOfNums b := by
  apply ByteArray.ext
  simp [strOfNums]
/-- Noughts behind. -/
def zer (T : ByteArray) : Nat → ByteArray
  | 0 => T
  | k + 1 => zer T k ++ ⟨#[0]⟩
theorem zer_size (T : ByteArray) (k : Nat) : (zer T k).size = T.size + k := by
  induction k with
  | zero => rfl
  | succ k ih => show (zer T k ++ ⟨#[0]⟩).size = _; rw [ByteArray.size_append, ih]; rfl
theorem repeatL_snoc (k : Nat) : Lib.repeatL [0] (k + 1) = Lib.repeatL [0] k ++ [0] := by rw [Lib.repeatL_add, Lib.repeatL_one]
theorem zer_data (T : ByteArray) (k : Nat) : (zer T k).data.toList = T.data.toList ++ Lib.repeatL [0] k := by
  induction k with
  | zero => show T.data.toList = _ ++ []; simp
  | succ k ih =>
    show (zer T k ++ ⟨#[0]⟩).data.toList = _
    rw [repeatL_snoc, ← List.append_assoc, ← ih]
    simp
theorem padR_data (s : ByteArray) : (zer (s ++ ⟨#[128]⟩) (fillN s.size) ++ strOfNums (bigB (s.size * 8) 8)).data.toList = padL s.data.toList := by
  unfold padL
  rw [show s.data.toList.length = s.size from rfl, ByteArray.data_append, Array.toList_append, zer_data]
  simp
theorem bytes_bd (h : List Int) (l : List UInt8) (_h8 : ∀ x ∈ h, 0 ≤ x ∧ x < 4294967296) : ∀ x ∈ nextL h l, 0 ≤ x ∧ x < 4294967296 := by
  intro x hx
  unfold nextL sumsL at hx
  obtain ⟨i, hi, rfl⟩ := List.mem_iff_getElem.1 hx
  rw [List.getElem_zipWith]
  constructor <;> omega
theorem hashN_bd (l : List UInt8) (k : Nat) : ∀ x ∈ hashN l k, 0 ≤ x ∧ x < 4294967296 := by
  induction k with
  | zero => exact (by decide : ∀ x ∈ firstL, 0 ≤ x ∧ x < 4294967296)
  | succ k ih => exact bytes_bd _ _ ih
theorem or_add64 (x y : Int) (hx0 : 0 ≤ x) (hx : x % 2 ^ 8 = 0) (hx1 : x < 18446744073709551616) (hy0 : 0 ≤ y) (hy : y < 2 ^ 8) : Go.bits .or .u64 x y = x + y :=
  bits_join .u64 64 (by decide) (fun n h0 h1 => by simp [IntKind.wrap, IntKind.bits, IntKind.signed]; omega) 8 x y hx0 hx hx1 hy0 hy (by omega)
theorem or_step (v : Int) (c : UInt8) (h0 : 0 ≤ v) (h1 : v < 1099511627776) : Go.bits .or .u64 (IntKind.u64.wrap (v * 256)) c.toNat = v * 256 + c.toNat := by
  have c1 := c.toNat_lt
  have w64 : IntKind.u64.wrap (v * 256) = v * 256 := by simp [IntKind.wrap, IntKind.bits, IntKind.signed]; omega
  rw [w64, or_add64 _ _ (by omega) (by omega) (by omega) (by omega) (by omega)]
theorem wrap3 (a b c d : Int) : IntKind.u32.wrap (IntKind.u32.wrap (IntKind.u32.wrap (a + b) + c) + d) = (a + b + c + d) % 4294967296 := by
  rw [IntKind.wrap_u32, IntKind.wrap_u32, IntKind.wrap_u32]
  omega
theorem big_be4 (x : List UInt8) (j : Nat) (h : 4 * j + 4 ≤ x.length) : be4 x (4 * j) = bigF ((x.drop (4 * j)).take 4) % 4294967296 := by
  have hd : (x.drop (4 * j)).take 4 = [x.getD (4 * j) 0, x.getD (4 * j + 1) 0, x.getD (4 * j + 2) 0, x.getD (4 * j + 3) 0] := by
    apply List.ext_getElem
    · simp; omega
    · intro i h1 h2
      have hi : i < 4 := by simpa using h2
      rw [List.getElem_take, List.getElem_drop]
      have : i = 0 ∨ i = 1 ∨ i = 2 ∨ i = 3 := by omega
      rcases this with rfl | rfl | rfl | rfl <;> simp [List.getD_eq_getElem?_getD, *] <;> (rw [List.getElem?_eq_getElem (by omega)]; rfl)
  rw [hd]
  obtain ⟨a, ha⟩ : ∃ a, a = x.getD (4 * j) 0 := ⟨_, rfl⟩
  obtain ⟨b, hb⟩ : ∃ b, b = x.getD (4 * j + 1) 0 := ⟨_, rfl⟩
  obtain ⟨c, hc⟩ : ∃ c, c = x.getD (4 * j + 2) 0 := ⟨_, rfl⟩
  obtain ⟨d, hd'⟩ : ∃ d, d = x.getD (4 * j + 3) 0 := ⟨_, rfl⟩
  unfold be4
  rw [← ha, ← hb, ← hc, ← hd']
  have a1 := a.toNat_lt
  have b1 := b.toNat_lt
  have c1 := c.toNat_lt
  have d1 := d.toNat_lt
  show _ = (Go.bits .or .u64 (IntKind.u64.wrap (Go.bits .or .u64 (IntKind.u64.wrap (Go.bits .or .u64 (IntKind.u64.wrap (Go.bits .or .u64 (IntKind.u64.wrap (0 * 256)) a.toNat * 256)) b.toNat * 256)) c.toNat * 256)) d.toNat) % 4294967296
  have s1 := or_step 0 a (by omega) (by omega)
  have s2 := or_step (0 * 256 + a.toNat) b (by omega) (by omega)
  have s3 := or_step ((0 * 256 + a.toNat) * 256 + b.toNat) c (by omega) (by omega)
  have s4 := or_step (((0 * 256 + a.toNat) * 256 + b.toNat) * 256 + c.toNat) d (by omega) (by omega)
  rw [s1, s2, s3, s4]
  omega

/-- How long a text is. -/
def lenOf : Value → Nat
  | .string s => s.size
  | _ => 0

set_option maxHeartbeats 400000 in
theorem rrorQ (x : Int) (n : Nat) (h0 : 0 < n) (h1 : n < 32) (w : World) :
    Calls Try.prog 24 #[.int .u32 x, .int .i64 (n : Int)] w fun e w' => e = .returned (.int .u32 (rorI x n)) ∧ ∃ m, w' = w.drewN m := by
  obtain ⟨m, hm⟩ : ∃ m : Nat, m + n = 32 := ⟨32 - n, by omega⟩
  have hm1 : m ≤ 32 := by omega
  have hm2 : (32 : Int) - (n : Int) = (m : Int) := by omega
  have HM := Lib.hid hm
  clear hm
  go_enter Try.func24, Try.ntmps24
  go_wp2_with fail
  go_quiet (fail)
  go_wp2
  go_ret
  refine ⟨ret_int ?_, _, rfl⟩
  unfold rorI
  rw [show 32 - n = m by have := HM.out; omega, or_comm_u32]
theorem drewN_add (w : World) (a b : Nat) : (w.drewN a).drewN b = w.drewN (a + b) := by
  unfold World.drewN
  rw [Nat.add_assoc]
theorem rrorZ (x : Int) (n : Int) (h0 : 0 < n) (h1 : n < 32) (w : World) :
    Calls Try.prog 24 #[.int .u32 x, .int .i64 n] w fun e w' => e = .returned (.int .u32 (rorI x n.toNat)) ∧ ∃ m, w' = w.drewN m := by
  obtain ⟨m, rfl⟩ := Int.eq_ofNat_of_zero_le (show 0 ≤ n by omega)
  exact rrorQ x m (by omega) (by omega) w
theorem rrorD (x : Int) (n : Int) (h0 : 0 < n) (h1 : n < 32) (w : World) (a : Nat) :
    Calls Try.prog 24 #[.int .u32 x, .int .i64 n] (w.drewN a) fun e w' => e = .returned (.int .u32 (rorI x n.toNat)) ∧ ∃ m, w' = w.drewN m :=
  (rrorZ x n h0 h1 _).mono fun _ _ ⟨he, m, hm⟩ => ⟨he, a + m, by rw [hm, drewN_add]⟩

theorem rrorA (x : Int) (n : Int) (h0 : 0 < n) (h1 : n < 32) (w : World) (a m : Nat) :
    Calls Try.prog 24 #[.int .u32 x, .int .i64 n] (w.drewN (a + m)) fun e w' => e = .returned (.int .u32 (rorI x n.toNat)) ∧ ∃ k, w' = w.drewN (a + k) :=
  (rrorZ x n h0 h1 _).mono fun _ _ ⟨he, k, hk⟩ => ⟨he, m + k, by rw [hk, drewN_add, Nat.add_assoc]⟩

end Go.Proofs.Ytembegffmodlhaa
