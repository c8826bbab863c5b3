/- The plain numbers of the hashes of 64 bytes: what the code computes, said without the code. -/
import Derived.Laws.BitsLemmas
import Derived.Laws.BytesArg
namespace Go.Proofs.Ytojmbbapcnfibaa

/-- To the right, in a ring of 64. -/
def rorI (x : Int) (n : Nat) : Int := Go.bits .or .u64 (IntKind.u64.wrap (x * 2 ^ (64 - n))) (x / 2 ^ n)

theorem wrap_u64 (n : Int) : IntKind.u64.wrap n = n % 18446744073709551616 := by simp [IntKind.wrap, IntKind.bits, IntKind.signed]
theorem bits_u64_bd (op : BinOp) (x y : Int) : 0 ≤ Go.bits op .u64 x y ∧ Go.bits op .u64 x y < 18446744073709551616 := by
  unfold Go.bits
  rw [wrap_u64]
  omega
theorem rorI_bd (x : Int) (n : Nat) : 0 ≤ rorI x n ∧ rorI x n < 18446744073709551616 := bits_u64_bd _ _ _

/-- Values in a row. -/
def A64 (l : List Int) : Array Value := (l.map (Value.int .u64)).toArray
theorem A64_size (l : List Int) : (A64 l).size = l.length := by simp [A64]
/-- The numbers of all steps, as the code has them written out. -/
def constsL : List Int := [
  4794697086780616226, 8158064640168781261, 13096744586834688815, 16840607885511220156,
  4131703408338449720, 6480981068601479193, 10538285296894168987, 12329834152419229976,
  15566598209576043074, 1334009975649890238, 2608012711638119052, 6128411473006802146,
  8268148722764581231, 9286055187155687089, 11230858885718282805, 13951009754708518548,
  16472876342353939154, 17275323862435702243, 1135362057144423861, 2597628984639134821,
  3308224258029322869, 5365058923640841347, 6679025012923562964, 8573033837759648693,
  10970295158949994411, 12119686244451234320, 12683024718118986047, 13788192230050041572,
  14330467153632333762, 15395433587784984357, 489312712824947311, 1452737877330783856,
  2861767655752347644, 3322285676063803686, 5560940570517711597, 5996557281743188959,
  7280758554555802590, 8532644243296465576, 9350256976987008742, 10552545826968843579,
  11727347734174303076, 12113106623233404929, 14000437183269869457, 14369950271660146224,
  15101387698204529176, 15463397548674623760, 17586052441742319658, 1182934255886127544,
  1847814050463011016, 2177327727835720531, 2830643537854262169, 3796741975233480872,
  4115178125766777443, 5681478168544905931, 6601373596472566643, 7507060721942968483,
  8399075790359081724, 8693463985226723168, 9568029438360202098, 10144078919501101548,
  10430055236837252648, 11840083180663258601, 13761210420658862357, 14299343276471374635,
  14566680578165727644, 15097957966210449927, 16922976911328602910, 17689382322260857208,
  500013540394364858, 748580250866718886, 1242879168328830382, 1977374033974150939,
  2944078676154940804, 3659926193048069267, 4368137639120453308, 4836135668995329356,
  5532061633213252278, 6448918945643986474, 6902733635092675308, 7801388544844847127]
/-- The first eight. -/
def firstL : List Int := [7640891576956012808, 13503953896175478587, 4354685564936845355, 11912009170470909681, 5840696475078001361, 11170449401992604703, 2270897969802886507, 6620516959819538809]
/-- Bytes as a number, the highest first. -/
def bigF (l : List UInt8) : Int := l.foldl (fun x c => Go.bits .or .u64 (IntKind.u64.wrap (x * 256)) c.toNat) 0
/-- The next number of a block's row. -/
def nextW (l : List UInt8) (p : List Int) (k : Nat) : Int :=
  if k < 16 then bigF ((l.drop (8 * k)).take 8)
  else IntKind.u64.wrap (IntKind.u64.wrap (IntKind.u64.wrap (p.getD (k - 16) 0 + Go.bits .xor .u64 (Go.bits .xor .u64 (rorI (p.getD (k - 15) 0) 1) (rorI (p.getD (k - 15) 0) 8)) (p.getD (k - 15) 0 / 128)) + p.getD (k - 7) 0) +
    Go.bits .xor .u64 (Go.bits .xor .u64 (rorI (p.getD (k - 2) 0) 19) (rorI (p.getD (k - 2) 0) 61)) (p.getD (k - 2) 0 / 64))
/-- The first numbers of a block's row. -/
def rowP (l : List UInt8) : Nat → List Int
  | 0 => []
  | k + 1 => rowP l k ++ [nextW l (rowP l k) k]
theorem rowP_length (l : List UInt8) (k : Nat) : (rowP l k).length = k := by
  induction k with
  | zero => rfl
  | succ k ih => simp [rowP, ih]
/-- A row that is filled so far. -/
def fil (p : List Int) (n : Nat) : List Int := p ++ List.replicate (n - p.length) 0
theorem fil_length (p : List Int) (n : Nat) (h : p.length ≤ n) : (fil p n).length = n := by simp [fil]; omega
theorem fil_full (p : List Int) (n : Nat) (h : p.length = n) : fil p n = p := by simp [fil, h]
theorem fil_set (p : List Int) (n : Nat) (v : Int) (h : p.length < n) : (fil p n).set p.length v = fil (p ++ [v]) n := by
  unfold fil
  obtain ⟨m, hm⟩ : ∃ m, n - p.length = m + 1 := ⟨n - p.length - 1, by omega⟩
  rw [hm, List.replicate_succ, List.set_append_right _ _ (Nat.le_refl _), Nat.sub_self, List.set_cons_zero]
  have : n - (p ++ [v]).length = m := by simp; omega
  rw [this]; simp
theorem fil_get (p : List Int) (n j : Nat) (h : j < p.length) : (fil p n).getD j 0 = p.getD j 0 := by
  unfold fil
  rw [List.getD_eq_getElem?_getD, List.getD_eq_getElem?_getD, List.getElem?_append_left h]
theorem fil_zero (p : List Int) (n : Nat) : (fil p n).getD p.length 0 = 0 := by
  unfold fil
  rw [List.getD_eq_getElem?_getD, List.getElem?_append_right (Nat.le_refl _), List.getElem?_replicate]
  split <;> rfl
theorem fil_last (p : List Int) (n : Nat) (v u : Int) (h : p.length < n) : (fil (p ++ [v]) n).set p.length u = fil (p ++ [u]) n := by
  rw [← fil_set p n v h, ← fil_set p n u h, List.set_set]
theorem fil_nought (p : List Int) (n : Nat) (h : p.length < n) : fil (p ++ [0]) n = fil p n := by
  unfold fil
  obtain ⟨m, hm⟩ : ∃ m, n - p.length = m + 1 := ⟨n - p.length - 1, by omega⟩
  have : n - (p ++ [0]).length = m := by simp; omega
  rw [this, hm, List.replicate_succ]; simp
theorem fil_here (p : List Int) (n : Nat) (v : Int) : (fil (p ++ [v]) n).getD p.length 0 = v := by
  rw [fil_get _ _ _ (by simp), List.getD_eq_getElem?_getD, List.getElem?_append_right (Nat.le_refl _), Nat.sub_self]; rfl
/-- What is added in a step. -/
def uF (e f g h k w : Int) : Int :=
  IntKind.u64.wrap (IntKind.u64.wrap (IntKind.u64.wrap (IntKind.u64.wrap (h + Go.bits .xor .u64 (Go.bits .xor .u64 (rorI e 14) (rorI e 18)) (rorI e 41)) +
    Go.bits .xor .u64 (Go.bits .and .u64 e f) (Go.bits .and .u64 (Go.bits .xor .u64 (if IntKind.u64.signed = true then -1 else IntKind.u64.max) e) g)) + k) + w)
def vF (a b c : Int) : Int :=
  IntKind.u64.wrap (Go.bits .xor .u64 (Go.bits .xor .u64 (rorI a 28) (rorI a 34)) (rorI a 39) +
    Go.bits .xor .u64 (Go.bits .xor .u64 (Go.bits .and .u64 a b) (Go.bits .and .u64 a c)) (Go.bits .and .u64 b c))
/-- A step. -/
def stepL (st : List Int) (k w : Int) : List Int :=
  match st with
  | [a, b, c, d, e, f, g, h] => [IntKind.u64.wrap (uF e f g h k w + vF a b c), a, b, c, IntKind.u64.wrap (d + uF e f g h k w), e, f, g]
  | _ => st
/-- Some steps. -/
def stepsL (st p : List Int) : Nat → List Int
  | 0 => st
  | n + 1 => stepL (stepsL st p n) (constsL.getD n 0) (p.getD n 0)
/-- Sums, number by number. -/
def sumsL (st x : List Int) : List Int := List.zipWith (fun a b => IntKind.u64.wrap (a + b)) st x
/-- Behind a block. -/
def nextL (st : List Int) (l : List UInt8) : List Int := sumsL st (stepsL st (rowP l 80) 80)
theorem stepL_length (st : List Int) (k w : Int) (h : st.length = 8) : (stepL st k w).length = 8 := by
  match st, h with
  | [a, b, c, d, e, f, g, h], _ => rfl
theorem stepsL_length (st p : List Int) (n : Nat) (h : st.length = 8) : (stepsL st p n).length = 8 := by
  induction n with
  | zero => exact h
  | succ n ih => exact stepL_length _ _ _ ih
theorem nextL_length (st : List Int) (l : List UInt8) (h : st.length = 8) : (nextL st l).length = 8 := by
  simp [nextL, sumsL, stepsL_length, h]
theorem eight (l : List Int) (h : l.length = 8) : ∃ a b c d e f g i, l = [a, b, c, d, e, f, g, i] := by
  match l, h with
  | [a, b, c, d, e, f, g, i], _ => exact ⟨a, b, c, d, e, f, g, i, rfl⟩

end Go.Proofs.Ytojmbbapcnfibaa
