/- The plain law of bursts: up to four bytes side by side that are turned are seen. -/
import Derived.Test.YtaalfjngehlojaaL
import Derived.Laws.BytesArg
namespace Go.Proofs.Ytaalfjngehlojaa

/-- A byte of nought. -/
def zst (n : Nat) : Nat := nibN (nibN n)
theorem zst_lin (a b : Nat) : zst (a ^^^ b) = zst a ^^^ zst b := by unfold zst; rw [nibN_lin, nibN_lin]
theorem zst_up (m : Nat) : zst (256 * m) = m := by
  unfold zst
  rw [show 256 * m = 16 * (16 * m) by omega, nibN_up, nibN_up]
theorem zst_zero : zst 0 = 0 := by decide +kernel
theorem zst_lt (n : Nat) (h : n < 4294967296) : zst n < 4294967296 := nibN_lt _ (nibN_lt _ h)
theorem zst_inj0 (a : Nat) (ha : a < 4294967296) (h : zst a = 0) : a = 0 := nibN_inj0 _ ha (nibN_inj0 _ (nibN_lt _ ha) h)
theorem rndN_zst (n : Nat) (c : UInt8) : rndN n c = zst (n ^^^ c.toNat) := rfl
/-- Some bytes of nought. -/
def zsts : Nat → Nat → Nat
  | 0, n => n
  | k + 1, n => zsts k (zst n)
theorem zsts_lt (k : Nat) : ∀ n, n < 4294967296 → zsts k n < 4294967296 := by
  induction k with
  | zero => exact fun _ h => h
  | succ k ih => exact fun n h => ih _ (zst_lt n h)
theorem zsts_lin (k : Nat) : ∀ a b, zsts k (a ^^^ b) = zsts k a ^^^ zsts k b := by
  induction k with
  | zero => exact fun _ _ => rfl
  | succ k ih => intro a b; show zsts k (zst (a ^^^ b)) = _; rw [zst_lin, ih]; rfl
theorem zsts_inj0 (k : Nat) : ∀ a, a < 4294967296 → zsts k a = 0 → a = 0 := by
  induction k with
  | zero => exact fun _ _ h => h
  | succ k ih => exact fun a ha h => zst_inj0 a ha (ih _ (zst_lt a ha) h)
theorem zsts_inj (k a b : Nat) (ha : a < 4294967296) (hb : b < 4294967296) (h : zsts k a = zsts k b) : a = b :=
  xor_eq_zero (zsts_inj0 k _ (xor_lt _ _ ha hb) (by rw [zsts_lin, h, Nat.xor_self]))
/-- Bytes as a number, the lowest first. -/
def num : List UInt8 → Nat
  | [] => 0
  | c :: l => c.toNat + 256 * num l
theorem add_xor (c m : Nat) (h : c < 256) : c + 256 * m = c ^^^ 256 * m := by
  have := split256 (c + 256 * m)
  rw [show (c + 256 * m) / 256 = m by omega, show (c + 256 * m) % 256 = c by omega] at this
  rw [Nat.xor_comm c]; exact this
theorem fold_num (l : List UInt8) : ∀ st, l.foldl rndN st = zsts l.length (st ^^^ num l) := by
  induction l with
  | nil => intro st; simp [num, zsts]
  | cons c l ih =>
    intro st
    simp only [List.foldl_cons, List.length_cons]
    rw [ih, rndN_zst]
    show _ = zsts l.length (zst (st ^^^ num (c :: l)))
    have h := c.toNat_lt
    rw [show num (c :: l) = c.toNat + 256 * num l from rfl, add_xor _ _ (by omega), ← Nat.xor_assoc, zst_lin (st ^^^ c.toNat), zst_up]
theorem num_four (a b c d : UInt8) : num [a, b, c, d] < 4294967296 := by
  have := a.toNat_lt; have := b.toNat_lt; have := c.toNat_lt; have := d.toNat_lt
  show a.toNat + 256 * (b.toNat + 256 * (c.toNat + 256 * (d.toNat + 256 * 0))) < _
  omega
theorem num_lt (l : List UInt8) (h : l.length ≤ 4) : num l < 4294967296 := by
  have key : ∀ (l : List UInt8), num l < 256 ^ l.length := by
    intro l
    induction l with
    | nil => simp [num]
    | cons c l ih =>
      have := c.toNat_lt
      show c.toNat + 256 * num l < 256 ^ (l.length + 1)
      rw [Nat.pow_succ]
      omega
  have h1 := key l
  have h2 : 256 ^ l.length ≤ 256 ^ 4 := Nat.pow_le_pow_right (by omega) h
  have e : 256 ^ 4 = 4294967296 := rfl
  omega
theorem num_zero (l : List UInt8) (h : num l = 0) : ∀ c ∈ l, c = 0 := by
  induction l with
  | nil => simp
  | cons c l ih =>
    have e : c.toNat + 256 * num l = 0 := h
    intro x hx
    rcases List.mem_cons.1 hx with rfl | hx
    · exact UInt8.toNat_inj.1 (by show x.toNat = 0; omega)
    · exact ih (by omega) x hx

/-- The bytes of a sum. -/
def fourL (n : Int) : List UInt8 := [UInt8.ofNat (n % 256).toNat, UInt8.ofNat (n / 256 % 256).toNat, UInt8.ofNat (n / 65536 % 256).toNat, UInt8.ofNat (n / 16777216).toNat]
theorem fourL_eq (n : Nat) (h : n < 4294967296) (a b c d : UInt8) : fourL (n : Int) = [a, b, c, d] ↔ num [a, b, c, d] = n := by
  have h1 := a.toNat_lt; have h2 := b.toNat_lt; have h3 := c.toNat_lt; have h4 := d.toNat_lt
  have e : num [a, b, c, d] = a.toNat + 256 * (b.toNat + 256 * (c.toNat + 256 * (d.toNat + 256 * 0))) := rfl
  rw [e]
  unfold fourL
  simp only [List.cons.injEq, and_true, ← UInt8.toNat_inj, UInt8.toNat_ofNat']
  omega
/-- What the fold of bytes with their sum is. -/
def res : Nat := zsts 4 ones
theorem tells_list (l m : List UInt8) (hm : m.length = 4) : fourL (sumL l) = m ↔ (l ++ m).foldl rndN ones = res := by
  obtain ⟨a, b, c, d, rfl⟩ : ∃ a b c d, m = [a, b, c, d] := by
    match m, hm with
    | [a, b, c, d], _ => exact ⟨a, b, c, d, rfl⟩
  have hs := sumN_lt l
  have hf := (fold_eq l ones (by decide)).2
  rw [sumL_eq, fourL_eq _ hs, List.foldl_append, fold_num]
  unfold sumN res
  constructor
  · intro h
    rw [h, ← Nat.xor_assoc, Nat.xor_comm _ ones, Nat.xor_assoc, Nat.xor_self, Nat.xor_zero]; rfl
  · intro h
    have h2 := zsts_inj 4 _ _ (xor_lt _ _ hf (num_four a b c d)) (by decide) h
    have h3 : l.foldl rndN ones ^^^ (l.foldl rndN ones ^^^ num [a, b, c, d]) = l.foldl rndN ones ^^^ ones := by rw [h2]
    rw [← Nat.xor_assoc, Nat.xor_self, Nat.zero_xor] at h3
    rw [h3, Nat.xor_comm]

theorem fold_zeros (k n : Nat) : (List.replicate k (0 : UInt8)).foldl rndN n = zsts k n := by
  induction k generalizing n with
  | zero => rfl
  | succ k ih =>
    simp only [List.replicate_succ, List.foldl_cons]
    rw [ih, rndN_zst]
    show zsts k (zst (n ^^^ 0)) = zsts k (zst n)
    rw [Nat.xor_zero]
theorem zsts_zero (k : Nat) : zsts k 0 = 0 := by
  induction k with
  | zero => rfl
  | succ k ih => show zsts k (zst 0) = 0; rw [zst_zero, ih]
/-- A burst of up to four bytes is seen. -/
theorem burst (k r : Nat) (m : List UInt8) (hm : m.length ≤ 4) :
    (List.replicate k (0 : UInt8) ++ m ++ List.replicate r 0).foldl rndN 0 = 0 ↔ ∀ c ∈ m, c = 0 := by
  rw [List.foldl_append, List.foldl_append, fold_zeros r, fold_zeros k, zsts_zero, fold_num, Nat.zero_xor]
  have hn := num_lt m hm
  constructor
  · intro h
    exact num_zero m (zsts_inj0 _ _ hn (zsts_inj0 _ _ (zsts_lt _ _ hn) h))
  · intro h
    have e : num m = 0 := by
      clear hn hm
      induction m with
      | nil => rfl
      | cons c l ih =>
        show c.toNat + 256 * num l = 0
        rw [ih (fun x hx => h x (List.mem_cons_of_mem _ hx)), h c (List.mem_cons_self ..)]; rfl
    rw [e, zsts_zero, zsts_zero]
theorem burst_seen (p e : List UInt8) (k r : Nat) (m : List UInt8) (hm : m.length ≤ 4) (he : e = List.replicate k (0 : UInt8) ++ m ++ List.replicate r 0) (hl : p.length = e.length)
    (hp : p.foldl rndN ones = res) : (List.zipWith (· ^^^ ·) p e).foldl rndN ones = res ↔ ∀ c ∈ m, c = 0 := by
  have h := fold_lin p e ones 0 hl
  rw [Nat.xor_zero, hp] at h
  rw [← h, ← burst k r m hm, ← he]
  constructor
  · intro h
    have h2 : res ^^^ (res ^^^ e.foldl rndN 0) = res ^^^ res := by rw [h]
    rwa [← Nat.xor_assoc, Nat.xor_self, Nat.zero_xor] at h2
  · intro h; rw [h, Nat.xor_zero]

end Go.Proofs.Ytaalfjngehlojaa
