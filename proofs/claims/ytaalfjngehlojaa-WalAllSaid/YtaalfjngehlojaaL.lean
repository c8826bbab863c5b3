/- The plain law of the sums: bit by bit they are linear, each step can be undone, and the document's byte is two halves. -/
import Derived.Test.YtaalfjngehlojaaD
namespace Go.Proofs.Ytaalfjngehlojaa

theorem bits_xor_u32 (a b : Nat) (ha : a < 4294967296) (hb : b < 4294967296) : Go.bits .xor .u32 (a : Int) (b : Int) = ((a ^^^ b : Nat) : Int) := by
  unfold Go.bits
  rw [IntKind.wrap_u32]
  have ea : BitVec.ofInt IntKind.u32.bits (a : Int) = BitVec.ofNat 32 a := BitVec.ofInt_natCast ..
  have eb : BitVec.ofInt IntKind.u32.bits (b : Int) = BitVec.ofNat 32 b := BitVec.ofInt_natCast ..
  have hx : a ^^^ b < 4294967296 := Nat.xor_lt_two_pow (n := 32) ha hb
  rw [ea, eb]
  show ((BitVec.ofNat 32 a ^^^ BitVec.ofNat 32 b).toNat : Int) % 4294967296 = _
  rw [BitVec.toNat_xor, BitVec.toNat_ofNat, BitVec.toNat_ofNat, Nat.mod_eq_of_lt ha, Nat.mod_eq_of_lt hb]
  omega
theorem bits_xor_u8 (a b : Nat) (ha : a < 256) (hb : b < 256) : Go.bits .xor .u8 (a : Int) (b : Int) = ((a ^^^ b : Nat) : Int) := by
  unfold Go.bits
  rw [IntKind.wrap_u8]
  have ea : BitVec.ofInt IntKind.u8.bits (a : Int) = BitVec.ofNat 8 a := BitVec.ofInt_natCast ..
  have eb : BitVec.ofInt IntKind.u8.bits (b : Int) = BitVec.ofNat 8 b := BitVec.ofInt_natCast ..
  have hx : a ^^^ b < 256 := Nat.xor_lt_two_pow (n := 8) ha hb
  rw [ea, eb]
  show ((BitVec.ofNat 8 a ^^^ BitVec.ofNat 8 b).toNat : Int) % 256 = _
  rw [BitVec.toNat_xor, BitVec.toNat_ofNat, BitVec.toNat_ofNat, Nat.mod_eq_of_lt ha, Nat.mod_eq_of_lt hb]
  omega

/-- The table of sixteen, in natural numbers. -/
def t16 (n : Nat) : Nat := (half16 n).toNat
def t256 (n : Nat) : Nat := (full256 n).toNat
theorem t16_bd : ∀ n, n < 16 → (half16 n = (t16 n : Int) ∧ t16 n < 4294967296) := by decide +kernel
theorem t16_lin : ∀ a, a < 16 → ∀ b, b < 16 → t16 (a ^^^ b) = t16 a ^^^ t16 b := by decide +kernel
theorem t16_top : ∀ a, a < 16 → ∀ b, b < 16 → t16 a / 268435456 = t16 b / 268435456 → a = b := by decide +kernel
theorem t256_bd : ∀ n, n < 256 → (full256 n = (t256 n : Int) ∧ t256 n < 4294967296) := by decide +kernel

def nibN (n : Nat) : Nat := (n / 16) ^^^ t16 (n % 16)
theorem nibN_lt (n : Nat) (h : n < 4294967296) : nibN n < 4294967296 :=
  Nat.xor_lt_two_pow (n := 32) (by omega) ((t16_bd (n % 16) (by omega)).2)
theorem nib_eq (n : Nat) (h : n < 4294967296) : nib (n : Int) = (nibN n : Int) := by
  have h1 : ((n : Int) % 16).toNat = n % 16 := by omega
  have h2 := t16_bd (n % 16) (by omega)
  unfold nib nibN
  rw [h1, h2.1, show (n : Int) / 16 = ((n / 16 : Nat) : Int) by omega, bits_xor_u32 _ _ (by omega) h2.2]

theorem xor_div16 (a b : Nat) : (a ^^^ b) / 16 = a / 16 ^^^ b / 16 := Nat.xor_div_two_pow (n := 4) ..
theorem xor_mod16 (a b : Nat) : (a ^^^ b) % 16 = a % 16 ^^^ b % 16 := Nat.xor_mod_two_pow (n := 4) ..
theorem xor4 (a b c d : Nat) : (a ^^^ b) ^^^ (c ^^^ d) = (a ^^^ c) ^^^ (b ^^^ d) := by
  rw [Nat.xor_assoc, Nat.xor_assoc, ← Nat.xor_assoc b c d, Nat.xor_comm b c, Nat.xor_assoc c b d]
theorem nibN_lin (a b : Nat) : nibN (a ^^^ b) = nibN a ^^^ nibN b := by
  unfold nibN
  rw [xor_div16, xor_mod16, t16_lin _ (by omega) _ (by omega), xor4]
theorem nibN_zero : nibN 0 = 0 := by decide +kernel
theorem xor_eq_zero {a b : Nat} (h : a ^^^ b = 0) : a = b := by
  have : (a ^^^ b) ^^^ b = b := by rw [h, Nat.zero_xor]
  rwa [Nat.xor_assoc, Nat.xor_self, Nat.xor_zero] at this
theorem nibN_inj0 (a : Nat) (ha : a < 4294967296) (h : nibN a = 0) : a = 0 := by
  have h1 := xor_eq_zero h
  have h2 : t16 (a % 16) / 268435456 = t16 0 / 268435456 := by
    rw [show t16 0 = 0 by decide +kernel]; omega
  have h3 := t16_top (a % 16) (by omega) 0 (by omega) h2
  rw [h3, show t16 0 = 0 by decide +kernel] at h1
  omega

def rndN (n : Nat) (c : UInt8) : Nat := nibN (nibN (n ^^^ c.toNat))
theorem xor_lt (n m : Nat) (h : n < 4294967296) (g : m < 4294967296) : n ^^^ m < 4294967296 := Nat.xor_lt_two_pow (n := 32) h g
theorem c_lt (c : UInt8) : c.toNat < 4294967296 := by have := c.toNat_lt; omega
theorem rndN_lt (n : Nat) (c : UInt8) (h : n < 4294967296) : rndN n c < 4294967296 := nibN_lt _ (nibN_lt _ (xor_lt _ _ h (c_lt c)))
theorem rnd_eq (n : Nat) (c : UInt8) (h : n < 4294967296) : rnd (n : Int) c = (rndN n c : Int) := by
  unfold rnd rndN
  rw [bits_xor_u32 _ _ h (c_lt c), nib_eq _ (xor_lt _ _ h (c_lt c)), nib_eq _ (nibN_lt _ (xor_lt _ _ h (c_lt c)))]
theorem fold_eq (l : List UInt8) (n : Nat) (h : n < 4294967296) : l.foldl rnd (n : Int) = ((l.foldl rndN n : Nat) : Int) ∧ l.foldl rndN n < 4294967296 := by
  induction l generalizing n with
  | nil => exact ⟨rfl, h⟩
  | cons c l ih => simp only [List.foldl_cons]; rw [rnd_eq n c h]; exact ih _ (rndN_lt n c h)
def ones : Nat := 4294967295
def sumN (l : List UInt8) : Nat := ones ^^^ l.foldl rndN ones
theorem sumN_lt (l : List UInt8) : sumN l < 4294967296 := xor_lt _ _ (by decide) (fold_eq l ones (by decide)).2
theorem sumL_eq (l : List UInt8) : sumL l = (sumN l : Int) := by
  have h := fold_eq l ones (by decide)
  unfold sumL sumN
  have e : (4294967295 : Int) = (ones : Int) := rfl
  rw [e, h.1, bits_xor_u32 _ _ (by decide) h.2]

/-! Linear. -/
theorem rndN_lin (a b : Nat) (x y : UInt8) : rndN a x ^^^ rndN b y = rndN (a ^^^ b) (x ^^^ y) := by
  unfold rndN
  rw [← nibN_lin, ← nibN_lin, xor4, UInt8.toNat_xor]
theorem fold_lin : ∀ (l m : List UInt8) (a b : Nat), l.length = m.length → l.foldl rndN a ^^^ m.foldl rndN b = (List.zipWith (· ^^^ ·) l m).foldl rndN (a ^^^ b)
  | [], [], _, _, _ => rfl
  | [], _ :: _, _, _, h => by simp at h
  | _ :: _, [], _, _, h => by simp at h
  | x :: l, y :: m, a, b, h => by
    simp only [List.foldl_cons, List.zipWith_cons_cons]
    rw [fold_lin l m _ _ (by simpa using h), rndN_lin]
theorem mix (l m k : List UInt8) (h1 : l.length = m.length) (h2 : m.length = k.length) :
    sumN l ^^^ sumN m ^^^ sumN k = sumN (List.zipWith (· ^^^ ·) (List.zipWith (· ^^^ ·) l m) k) := by
  unfold sumN
  rw [← Nat.xor_assoc, ← Nat.xor_assoc]
  have e := fold_lin (List.zipWith (· ^^^ ·) l m) k (ones ^^^ ones) ones (by simp [h1, h2])
  rw [← fold_lin l m ones ones h1] at e
  have e3 : ones ^^^ ones ^^^ ones = ones := by decide
  rw [e3] at e
  rw [← e]
  generalize l.foldl rndN ones = a
  generalize m.foldl rndN ones = b
  generalize k.foldl rndN ones = c
  rw [show ones ^^^ a ^^^ ones = (ones ^^^ ones) ^^^ a by rw [Nat.xor_assoc, Nat.xor_comm a ones, ← Nat.xor_assoc], Nat.xor_self, Nat.zero_xor]
  rw [Nat.xor_assoc a b ones, Nat.xor_comm b ones, ← Nat.xor_assoc a ones b, Nat.xor_comm a ones, Nat.xor_assoc ones a b, Nat.xor_assoc]

/-! The document's byte is two halves. -/
theorem nibN_nib (r : Nat) : r < 256 → nibN (nibN r) = t256 r := by
  have h : ∀ r, r < 256 → nibN (nibN r) = t256 r := by decide +kernel
  exact h r
theorem nibN_up (q : Nat) : nibN (16 * q) = q := by
  unfold nibN
  rw [show 16 * q / 16 = q by omega, show 16 * q % 16 = 0 by omega, show t16 0 = 0 by decide +kernel, Nat.xor_zero]
theorem split256 (m : Nat) : m = (256 * (m / 256)) ^^^ (m % 256) := by
  have h1 : 256 * (m / 256) + m % 256 = m := Nat.div_add_mod m 256
  have h2 : 2 ^ 8 * (m / 256) + m % 256 = 2 ^ 8 * (m / 256) ||| m % 256 := Nat.two_pow_add_eq_or_of_lt (by omega) _
  have h3 : 2 ^ 8 * (m / 256) ^^^ m % 256 = 2 ^ 8 * (m / 256) ||| m % 256 := by
    apply Nat.eq_of_testBit_eq
    intro i
    rw [Nat.testBit_xor, Nat.testBit_or, Nat.testBit_two_pow_mul]
    by_cases hi : i < 8
    · simp [show ¬ i ≥ 8 by omega]
    · have : (m % 256).testBit i = false := Nat.testBit_lt_two_pow (Nat.lt_of_lt_of_le (show m % 256 < 2 ^ 8 by omega) (Nat.pow_le_pow_right (by omega) (by omega)))
      simp [this]
  have e : 256 * (m / 256) = 2 ^ 8 * (m / 256) := rfl
  rw [e, h3, ← h2]
  exact h1.symm
theorem rnd8_eq (n : Nat) (c : UInt8) (h : n < 4294967296) : rnd8 (n : Int) c = (rndN n c : Int) := by
  have hc := c.toNat_lt
  have h8 : n % 256 ^^^ c.toNat < 256 := Nat.xor_lt_two_pow (n := 8) (by omega) (by omega)
  unfold rnd8
  rw [show (n : Int) % 256 = ((n % 256 : Nat) : Int) by omega, bits_xor_u8 _ _ (by omega) (by omega), Int.toNat_natCast, (t256_bd _ h8).1, show (n : Int) / 256 = ((n / 256 : Nat) : Int) by omega,
    bits_xor_u32 _ _ (by omega) (t256_bd _ h8).2]
  congr 1
  unfold rndN
  have e1 : (n ^^^ c.toNat) / 256 = n / 256 := by
    rw [show (n ^^^ c.toNat) / 256 = n / 256 ^^^ c.toNat / 256 from Nat.xor_div_two_pow (n := 8) .., show c.toNat / 256 = 0 by omega, Nat.xor_zero]
  have e2 : (n ^^^ c.toNat) % 256 = n % 256 ^^^ c.toNat := by
    rw [show (n ^^^ c.toNat) % 256 = n % 256 ^^^ c.toNat % 256 from Nat.xor_mod_two_pow (n := 8) .., show c.toNat % 256 = c.toNat by omega]
  rw [split256 (n ^^^ c.toNat), e1, e2, nibN_lin, nibN_lin, show 256 * (n / 256) = 16 * (16 * (n / 256)) by omega, nibN_up, nibN_up, nibN_nib _ h8]
theorem fold8_eq (l : List UInt8) (n : Nat) (h : n < 4294967296) : l.foldl rnd8 (n : Int) = ((l.foldl rndN n : Nat) : Int) := by
  induction l generalizing n with
  | nil => rfl
  | cons c l ih => simp only [List.foldl_cons]; rw [rnd8_eq n c h]; exact ih _ (rndN_lt n c h)
theorem crcL_eq (l : List UInt8) : crcL l = sumL l := by
  have e : (4294967295 : Int) = (ones : Int) := rfl
  unfold crcL sumL
  rw [e, fold8_eq l ones (by decide), (fold_eq l ones (by decide)).1]

/-! Each step can be undone. -/
theorem nibN_inj (a b : Nat) (ha : a < 4294967296) (hb : b < 4294967296) (h : nibN a = nibN b) : a = b :=
  xor_eq_zero (nibN_inj0 _ (xor_lt _ _ ha hb) (by rw [nibN_lin, h, Nat.xor_self]))
theorem rndN_inj (n m : Nat) (x y : UInt8) (hn : n < 4294967296) (hm : m < 4294967296) (h : rndN n x = rndN m y) : n ^^^ x.toNat = m ^^^ y.toNat :=
  nibN_inj _ _ (xor_lt _ _ hn (c_lt x)) (xor_lt _ _ hm (c_lt y)) (nibN_inj _ _ (nibN_lt _ (xor_lt _ _ hn (c_lt x))) (nibN_lt _ (xor_lt _ _ hm (c_lt y))) h)
theorem xor_left_cancel {a b c : Nat} (h : a ^^^ b = a ^^^ c) : b = c := by
  have : a ^^^ (a ^^^ b) = a ^^^ (a ^^^ c) := by rw [h]
  rwa [← Nat.xor_assoc, ← Nat.xor_assoc, Nat.xor_self, Nat.zero_xor, Nat.zero_xor] at this
theorem sum_last (l : List UInt8) (x y : UInt8) : sumN (l ++ [x]) = sumN (l ++ [y]) ↔ x = y := by
  constructor
  · intro h
    have h1 := xor_left_cancel h
    rw [List.foldl_append, List.foldl_append] at h1
    have hb := (fold_eq l ones (by decide)).2
    have h2 := rndN_inj _ _ x y hb hb h1
    exact UInt8.toNat_inj.1 (xor_left_cancel h2)
  · rintro rfl; rfl

end Go.Proofs.Ytaalfjngehlojaa
