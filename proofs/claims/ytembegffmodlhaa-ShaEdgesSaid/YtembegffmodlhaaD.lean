/- The plain numbers of the hashes of 32 bytes: what the code computes, said without the code. -/
import Derived.Laws.BitsLemmas
import Derived.Laws.BytesArg
namespace Go.Proofs.Ytembegffmodlhaa

/-- To the right, in a ring of 32. -/
def rorI (x : Int) (n : Nat) : Int := Go.bits .or .u32 (((x * 2 ^ (32 - n)) % 4294967296)) (x / 2 ^ n)

theorem wrap_u32 (n : Int) : IntKind.u32.wrap n = n % 4294967296 := by simp [IntKind.wrap, IntKind.bits, IntKind.signed]
theorem bits_u32_bd (op : BinOp) (x y : Int) : 0 ≤ Go.bits op .u32 x y ∧ Go.bits op .u32 x y < 4294967296 := by
  unfold Go.bits
  rw [wrap_u32]
  omega
theorem rorI_bd (x : Int) (n : Nat) : 0 ≤ rorI x n ∧ rorI x n < 4294967296 := bits_u32_bd _ _ _

/-- Values in a row. -/
def A32 (l : List Int) : Array Value := (l.map (Value.int .u32)).toArray
theorem A32_size (l : List Int) : (A32 l).size = l.length := by simp [A32]
/-- The numbers of all steps, as the code has them written out. -/
def constsL : List Int := [
  1116352408, 1899447441, 3049323471, 3921009573, 961987163, 1508970993, 2453635748, 2870763221,
  3624381080, 310598401, 607225278, 1426881987, 1925078388, 2162078206, 2614888103, 3248222580,
  3835390401, 4022224774, 264347078, 604807628, 770255983, 1249150122, 1555081692, 1996064986,
  2554220882, 2821834349, 2952996808, 3210313671, 3336571891, 3584528711, 113926993, 338241895,
  666307205, 773529912, 1294757372, 1396182291, 1695183700, 1986661051, 2177026350, 2456956037,
  2730485921, 2820302411, 3259730800, 3345764771, 3516065817, 3600352804, 4094571909, 275423344,
  430227734, 506948616, 659060556, 883997877, 958139571, 1322822218, 1537002063, 1747873779,
  1955562222, 2024104815, 2227730452, 2361852424, 2428436474, 2756734187, 3204031479, 3329325298]
/-- The first eight. -/
def firstL : List Int := [1779033703, 3144134277, 1013904242, 2773480762, 1359893119, 2600822924, 528734635, 1541459225]
/-- Bytes as a number, the highest first. -/
def bigF (l : List UInt8) : Int := l.foldl (fun x c => Go.bits .or .u64 (IntKind.u64.wrap (x * 256)) c.toNat) 0
/-- Four bytes as a number, the highest first. -/
def be4 (l : List UInt8) (k : Nat) : Int := (l.getD k 0).toNat * 16777216 + (l.getD (k + 1) 0).toNat * 65536 + (l.getD (k + 2) 0).toNat * 256 + (l.getD (k + 3) 0).toNat
/-- The next number of a block's row. -/
def nextW (l : List UInt8) (p : List Int) (k : Nat) : Int :=
  if k < 16 then be4 l (4 * k)
  else (p.getD (k - 16) 0 + Go.bits .xor .u32 (Go.bits .xor .u32 (rorI (p.getD (k - 15) 0) 7) (rorI (p.getD (k - 15) 0) 18)) (p.getD (k - 15) 0 / 8) + p.getD (k - 7) 0 +
    Go.bits .xor .u32 (Go.bits .xor .u32 (rorI (p.getD (k - 2) 0) 17) (rorI (p.getD (k - 2) 0) 19)) (p.getD (k - 2) 0 / 1024)) % 4294967296
/-- The first numbers of a block's row. -/
def rowP (l : List UInt8) : Nat → List Int
  | 0 => []
  | k + 1 => rowP l k ++ [nextW l (rowP l k) k]
theorem rowP_length (l : List UInt8) (k : Nat) : (rowP l k).length = k := by
  induction k with
  | zero => rfl
  | succ k ih => simp [rowP, ih]
/-- A row that is filled so far. -/
def fil (p : List Int) (n : Nat) : List Int := p ++ List.replicate (n - p.length) 0
theorem fil_length (p : List Int) (n : Nat) (h : p.length ≤ n) : (fil p n).length = n := by simp [fil]; omega
theorem fil_full (p : List Int) (n : Nat) (h : p.length = n) : fil p n = p := by simp [fil, h]
theorem fil_set (p : List Int) (n : Nat) (v : Int) (h : p.length < n) : (fil p n).set p.length v = fil (p ++ [v]) n := by
  unfold fil
  obtain ⟨m, hm⟩ : ∃ m, n - p.length = m + 1 := ⟨n - p.length - 1, by omega⟩
  rw [hm, List.replicate_succ, List.set_append_right _ _ (Nat.le_refl _), Nat.sub_self, List.set_cons_zero]
  have : n - (p ++ [v]).length = m := by simp; omega
  rw [this]; simp
theorem fil_get (p : List Int) (n j : Nat) (h : j < p.length) : (fil p n).getD j 0 = p.getD j 0 := by
  unfold fil
  rw [List.getD_eq_getElem?_getD, List.getD_eq_getElem?_getD, List.getElem?_append_left h]
theorem fil_zero (p : List Int) (n : Nat) : (fil p n).getD p.length 0 = 0 := by
  unfold fil
  rw [List.getD_eq_getElem?_getD, List.getElem?_append_right (Nat.le_refl _), List.getElem?_replicate]
  split <;> rfl
theorem fil_last (p : List Int) (n : Nat) (v u : Int) (h : p.length < n) : (fil (p ++ [v]) n).set p.length u = fil (p ++ [u]) n := by
  rw [← fil_set p n v h, ← fil_set p n u h, List.set_set]
theorem fil_nought (p : List Int) (n : Nat) (h : p.length < n) : fil (p ++ [0]) n = fil p n := by
  unfold fil
  obtain ⟨m, hm⟩ : ∃ m, n - p.length = m + 1 := ⟨n - p.length - 1, by omega⟩
  have : n - (p ++ [0]).length = m := by simp; omega
  rw [this, hm, List.replicate_succ]; simp
theorem fil_here (p : List Int) (n : Nat) (v : Int) : (fil (p ++ [v]) n).getD p.length 0 = v := by
  rw [fil_get _ _ _ (by simp), List.getD_eq_getElem?_getD, List.getElem?_append_right (Nat.le_refl _), Nat.sub_self]; rfl
/-- What is added in a step. -/
def uF (e f g h k w : Int) : Int :=
  h + Go.bits .xor .u32 (Go.bits .xor .u32 (rorI e 6) (rorI e 11)) (rorI e 25) +
    Go.bits .xor .u32 (Go.bits .and .u32 e f) (Go.bits .and .u32 (Go.bits .xor .u32 (if IntKind.u32.signed = true then -1 else IntKind.u32.max) e) g) + k + w
def vF (a b c : Int) : Int :=
  Go.bits .xor .u32 (Go.bits .xor .u32 (rorI a 2) (rorI a 13)) (rorI a 22) +
    Go.bits .xor .u32 (Go.bits .xor .u32 (Go.bits .and .u32 a b) (Go.bits .and .u32 a c)) (Go.bits .and .u32 b c)
/-- A step. -/
def stepL (st : List Int) (k w : Int) : List Int :=
  match st with
  | [a, b, c, d, e, f, g, h] => [((uF e f g h k w + vF a b c) % 4294967296), a, b, c, ((d + uF e f g h k w) % 4294967296), e, f, g]
  | _ => st
/-- Some steps. -/
def stepsL (st p : List Int) : Nat → List Int
  | 0 => st
  | n + 1 => stepL (stepsL st p n) (constsL.getD n 0) (p.getD n 0)
/-- Sums, number by number. -/
def sumsL (st x : List Int) : List Int := List.zipWith (fun a b => ((a + b) % 4294967296)) st x
/-- Behind a block. -/
def nextL (st : List Int) (l : List UInt8) : List Int := sumsL st (stepsL st (rowP l 64) 64)
theorem stepL_length (st : List Int) (k w : Int) (h : st.length = 8) : (stepL st k w).length = 8 := by
  match st, h with
  | [a, b, c, d, e, f, g, h], _ => rfl
theorem stepsL_length (st p : List Int) (n : Nat) (h : st.length = 8) : (stepsL st p n).length = 8 := by
  induction n with
  | zero => exact h
  | succ n ih => exact stepL_length _ _ _ ih
theorem nextL_length (st : List Int) (l : List UInt8) (h : st.length = 8) : (nextL st l).length = 8 := by
  simp [nextL, sumsL, stepsL_length, h]
theorem eight (l : List Int) (h : l.length = 8) : ∃ a b c d e f g i, l = [a, b, c, d, e, f, g, i] := by
  match l, h with
  | [a, b, c, d, e, f, g, i], _ => exact ⟨a, b, c, d, e, f, g, i, rfl⟩

end Go.Proofs.Ytembegffmodlhaa
