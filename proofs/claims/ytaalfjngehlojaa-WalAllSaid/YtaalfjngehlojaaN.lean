/- Bytes that are turned one by one, and the law of bursts for them. -/
import Derived.Test.YtaalfjngehlojaaM
namespace Go.Proofs.Ytaalfjngehlojaa

/-- Some numbers of a list, turned by others, from a place on. -/
def turnI (l : List Int) (k : Nat) (zs : List Int) : Nat → List Int
  | 0 => l
  | m + 1 => (turnI l k zs m).set (k + m) (Go.bits .xor .u8 ((turnI l k zs m).getD (k + m) 0) (zs.getD m 0))
theorem turnI_length (l : List Int) (k : Nat) (zs : List Int) (m : Nat) : (turnI l k zs m).length = l.length := by
  induction m with
  | zero => rfl
  | succ m ih => simp [turnI, ih]
theorem turnI_get (l : List Int) (k : Nat) (zs : List Int) (m : Nat) (h : k + m ≤ l.length) (j : Nat) :
    (turnI l k zs m).getD j 0 = if k ≤ j ∧ j < k + m then Go.bits .xor .u8 (l.getD j 0) (zs.getD (j - k) 0) else l.getD j 0 := by
  induction m with
  | zero => rw [if_neg (by omega)]; rfl
  | succ m ih =>
    have ih := ih (by omega)
    unfold turnI
    by_cases e : j = k + m
    · subst e
      rw [if_pos (by omega), List.getD_eq_getElem?_getD, List.getElem?_set_self (by rw [turnI_length]; omega)]
      rw [if_neg (by omega)] at ih
      rw [ih]
      simp
    · rw [List.getD_eq_getElem?_getD, List.getElem?_set_ne (by omega), ← List.getD_eq_getElem?_getD, ih]
      by_cases hc : k ≤ j ∧ j < k + m
      · rw [if_pos hc, if_pos (by omega)]
      · rw [if_neg hc, if_neg (by omega)]
/-- The bytes by which they are turned. -/
def errL (n k : Nat) (zs : List Int) (m : Nat) : List UInt8 := List.replicate k (0 : UInt8) ++ (zs.take m).map (fun z => UInt8.ofNat z.toNat) ++ List.replicate (n - (k + m)) 0
theorem errL_length (n k : Nat) (zs : List Int) (m : Nat) (hz : m ≤ zs.length) (h : k + m ≤ n) : (errL n k zs m).length = n := by
  unfold errL; simp; omega
theorem errL_get (n k : Nat) (zs : List Int) (m : Nat) (hz : m ≤ zs.length) (h : k + m ≤ n) (j : Nat) (hj : j < n) :
    (errL n k zs m)[j]? = some (if k ≤ j ∧ j < k + m then UInt8.ofNat (zs.getD (j - k) 0).toNat else 0) := by
  unfold errL
  rw [List.append_assoc]
  by_cases h1 : j < k
  · rw [List.getElem?_append_left (by simpa using h1), if_neg (by omega)]
    simp [h1]
  · rw [List.getElem?_append_right (by simp; omega), List.length_replicate]
    by_cases h2 : j < k + m
    · rw [List.getElem?_append_left (by simp; omega), if_pos ⟨by omega, h2⟩, List.getElem?_map, List.getElem?_take_of_lt (by omega), List.getElem?_eq_getElem (by omega), List.getD_eq_getElem?_getD, List.getElem?_eq_getElem (by omega)]
      rfl
    · rw [List.getElem?_append_right (by simp; omega), if_neg (by omega), List.getElem?_replicate, if_pos]
      rw [List.length_map, List.length_take, Nat.min_eq_left hz]
      omega
theorem turned_bytes (p : List UInt8) (k : Nat) (zs : List Int) (m : Nat) (hz : m ≤ zs.length) (h : k + m ≤ p.length) (hb : ∀ j, j < m → 0 ≤ zs.getD j 0 ∧ zs.getD j 0 ≤ 255) :
    (strOfNums (turnI (p.map fun c => (c.toNat : Int)) k zs m)).data.toList = List.zipWith (· ^^^ ·) p (errL p.length k zs m) := by
  rw [strOfNums_data]
  apply List.ext_getElem
  · simp [turnI_length, errL_length _ _ _ _ hz h]
  · intro j h1 h2
    have hj : j < p.length := by simpa [turnI_length] using h1
    have hg := turnI_get (p.map fun c => (c.toNat : Int)) k zs m (by simpa using h) j
    have he := errL_get p.length k zs m hz h j hj
    rw [List.getElem_map, List.getElem_zipWith]
    rw [List.getElem?_eq_getElem (by rw [errL_length _ _ _ _ hz h]; exact hj)] at he
    rw [Option.some.inj he]
    rw [List.getD_eq_getElem?_getD, List.getElem?_eq_getElem (by rw [turnI_length]; simpa using hj)] at hg
    simp only [Option.getD_some] at hg
    rw [hg]
    have hpj : (p.map fun c => (c.toNat : Int)).getD j 0 = (p[j].toNat : Int) := by
      rw [List.getD_eq_getElem?_getD, List.getElem?_map, List.getElem?_eq_getElem hj]; rfl
    have hp := p[j].toNat_lt
    rw [hpj]
    by_cases hc : k ≤ j ∧ j < k + m
    · rw [if_pos hc, if_pos hc]
      obtain ⟨b0, b1⟩ := hb (j - k) (by omega)
      obtain ⟨z, hz⟩ := Int.eq_ofNat_of_zero_le b0
      rw [hz, bits_xor_u8 _ _ (by omega) (by omega), Int.toNat_natCast, Int.toNat_natCast]
      apply UInt8.toNat_inj.1
      rw [UInt8.toNat_ofNat', UInt8.toNat_xor, UInt8.toNat_ofNat', Nat.mod_eq_of_lt (a := z) (by omega)]
      exact Nat.mod_eq_of_lt (Nat.xor_lt_two_pow (n := 8) (by omega) (by omega))
    · rw [if_neg hc, if_neg hc, Int.toNat_natCast]
      apply UInt8.toNat_inj.1
      rw [UInt8.toNat_ofNat', UInt8.toNat_xor]
      rw [Nat.mod_eq_of_lt (by omega)]
      simp
theorem back_law (p : List UInt8) (k : Nat) (zs : List Int) (m : Nat) (hm : m ≤ 4) (hz : m ≤ zs.length) (h : k + m ≤ p.length) (hb : ∀ j, j < m → 0 ≤ zs.getD j 0 ∧ zs.getD j 0 ≤ 255)
    (hp : p.foldl rndN ones = res) :
    ((strOfNums (turnI (p.map fun c => (c.toNat : Int)) k zs m)).data.toList).foldl rndN ones = res ↔ ∀ j, j < m → zs.getD j 0 = 0 := by
  rw [turned_bytes p k zs m hz h hb, burst_seen p (errL p.length k zs m) k (p.length - (k + m)) ((zs.take m).map (fun z : Int => UInt8.ofNat z.toNat)) (by simp; omega) rfl (errL_length _ _ _ _ hz h).symm hp]
  constructor
  · intro hh j hj
    have h1 := hh (UInt8.ofNat (zs.getD j 0).toNat) (List.mem_map.2 ⟨zs.getD j 0, by
      rw [List.getD_eq_getElem?_getD, List.getElem?_eq_getElem (show j < zs.length by omega)]
      exact List.mem_of_getElem? (i := j) (by rw [List.getElem?_take_of_lt hj, List.getElem?_eq_getElem (show j < zs.length by omega)]; rfl), rfl⟩)
    have h2 := congrArg UInt8.toNat h1
    rw [UInt8.toNat_ofNat'] at h2
    have := hb j hj
    have e : (0 : UInt8).toNat = 0 := rfl
    omega
  · intro hh c hc
    obtain ⟨z, hz1, rfl⟩ := List.mem_map.1 hc
    obtain ⟨j, hj⟩ := List.getElem?_of_mem hz1
    have hjm : j < m := by
      have := (List.getElem?_eq_some_iff.1 hj).1
      simp at this; omega
    rw [List.getElem?_take_of_lt hjm] at hj
    have h1 := hh j hjm
    rw [List.getD_eq_getElem?_getD, hj] at h1
    simp at h1
    rw [h1]; rfl

end Go.Proofs.Ytaalfjngehlojaa
