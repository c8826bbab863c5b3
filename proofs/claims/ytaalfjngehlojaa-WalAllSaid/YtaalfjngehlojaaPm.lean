/- Plain: a byte turned is seen; texts of other numbers, fewer texts, texts of two packings. -/
import Derived.Test.YtaalfjngehlojaaPl
namespace Go.Proofs.Ytaalfjngehlojaa
open Go.RowKit

theorem put_list (s : ByteArray) : (putB s).data.toList = s.data.toList ++ fourL (sumL s.data.toList) := by
  unfold putB
  rw [ByteArray.data_append, Array.toList_append]
  rfl
theorem put_tells (s : ByteArray) : (putB s).data.toList.foldl rndN ones = res := by
  rw [put_list]
  exact (tells_list _ _ rfl).1 rfl

theorem one_apart (p q : List UInt8) (k : Nat) (hp : p.foldl rndN ones = res) (hq : q.foldl rndN ones = res) (hl : p.length = q.length) (h : ∀ j, j ≠ k → p[j]? = q[j]?) : p = q := by
  by_cases hk : k < p.length
  · have h1 := fold_lin p q ones ones hl
    rw [hp, hq, Nat.xor_self, Nat.xor_self] at h1
    have he : List.zipWith (· ^^^ ·) p q = List.replicate k (0 : UInt8) ++ [p[k] ^^^ q[k]] ++ List.replicate (p.length - (k + 1)) 0 := by
      apply List.ext_getElem
      · simp; omega
      · intro j g1 g2
        rw [List.getElem_zipWith]
        have g3 : j < p.length := by simp at g1; omega
        by_cases hj : j = k
        · subst hj
          rw [List.getElem_append_left (by simp), List.getElem_append_right (by simp)]
          simp
        · have := h j hj
          rw [List.getElem?_eq_getElem g3, List.getElem?_eq_getElem (by omega)] at this
          rw [Option.some.inj this, UInt8.xor_self]
          by_cases hjk : j < k
          · rw [List.getElem_append_left (by simp; omega), List.getElem_append_left (by simp; omega)]
            simp
          · rw [List.getElem_append_right (by simp; omega)]
            simp
    rw [he] at h1
    have h2 := (burst k (p.length - (k + 1)) [p[k] ^^^ q[k]] (by simp)).1 h1.symm _ (List.mem_singleton.2 rfl)
    have h3 : p[k] = q[k] := by
      have := congrArg (· ^^^ q[k]) h2
      simpa [UInt8.xor_assoc] using this
    apply List.ext_getElem hl
    intro j g1 g2
    by_cases hj : j = k
    · subst hj; exact h3
    · have := h j hj
      rw [List.getElem?_eq_getElem g1, List.getElem?_eq_getElem g2] at this
      exact Option.some.inj this
  · apply List.ext_getElem hl
    intro j g1 g2
    have := h j (by omega)
    rw [List.getElem?_eq_getElem g1, List.getElem?_eq_getElem g2] at this
    exact Option.some.inj this

/-- The numbers of bytes. -/
def numsB (z : ByteArray) : List Int := z.data.toList.map fun c => (c.toNat : Int)
theorem nums_str (z : ByteArray) : strOfNums (numsB z) = z := by
  unfold strOfNums numsB
  rw [List.map_map]
  apply ByteArray.ext
  apply Array.toList_inj.1
  show z.data.toList.map _ = _
  rw [List.map_congr_left (g := id) (fun c _ => by simp), List.map_id]
/-- With a byte turned. -/
def turnB (z : ByteArray) (j : Nat) (b : Int) : ByteArray := strOfNums ((numsB z).set j (Go.bits .xor .u8 ((numsB z).getD j 0) b))
theorem turn_other (z : ByteArray) (j i : Nat) (b : Int) (h : i ≠ j) : (turnB z j b).data.toList[i]? = z.data.toList[i]? := by
  have e := congrArg (fun s : ByteArray => s.data.toList[i]?) (nums_str z)
  simp only [strOfNums_data, List.getElem?_map] at e
  unfold turnB
  rw [strOfNums_data, List.getElem?_map, List.getElem?_set_ne (Ne.symm h)]
  exact e
theorem turn_size (z : ByteArray) (j : Nat) (b : Int) : (turnB z j b).data.toList.length = z.data.toList.length := by
  unfold turnB
  rw [strOfNums_data]
  simp [numsB]
theorem nums_get (z : ByteArray) (j : Nat) (h : j < z.size) : (numsB z).getD j 0 = (byteAt z j : Int) := by
  unfold numsB byteAt
  rw [List.getD_eq_getElem?_getD, List.getElem?_map, List.getD_eq_getElem?_getD, List.getElem?_eq_getElem (show j < z.data.toList.length from h)]
  rfl
theorem byteAt_lt (z : ByteArray) (j : Nat) : byteAt z j < 256 := by
  unfold byteAt; exact UInt8.toNat_lt _
theorem turn_zero (z : ByteArray) (j : Nat) (h : j < z.size) : turnB z j 0 = z := by
  unfold turnB
  have := byteAt_lt z j
  rw [nums_get z j h, show (0 : Int) = ((0 : Nat) : Int) from rfl, bits_xor_u8 _ _ this (by omega), Nat.xor_zero, ← nums_get z j h]
  rw [List.getD_eq_getElem?_getD, List.getElem?_eq_getElem (show j < (numsB z).length by simpa [numsB] using h)]
  simp only [Option.getD_some]
  rw [List.set_getElem_self, nums_str]
theorem turn_at (z : ByteArray) (j : Nat) (b : Int) (h : j < z.size) (h0 : 0 ≤ b) (h1 : b ≤ 255) : byteAt (turnB z j b) j = byteAt z j ^^^ b.toNat := by
  obtain ⟨c, rfl⟩ := Int.eq_ofNat_of_zero_le h0
  have h2 := byteAt_lt z j
  have e : byteAt (turnB z j c) j = (UInt8.ofNat (Go.bits .xor .u8 (byteAt z j : Int) (c : Int)).toNat).toNat := by
    rw [← nums_get z j h]
    unfold turnB byteAt
    rw [strOfNums_data, List.getD_eq_getElem?_getD, List.getElem?_map, List.getElem?_set_self (by simpa [numsB] using h)]
    rfl
  rw [e, bits_xor_u8 _ _ h2 (by omega), Int.toNat_natCast, Int.toNat_natCast, UInt8.toNat_ofNat', Nat.mod_eq_of_lt]
  exact Nat.xor_lt_two_pow (n := 8) (by omega) (by omega)

theorem text_tells (a b : Int) (s : ByteArray) (i : Nat) : (textB a b s i).data.toList.foldl rndN ones = res := put_tells _
/-- A text with a byte turned is no text. -/
theorem turn_text {a b a' b' : Int} {s s' : ByteArray} {i i' j : Nat} {y : Int} (hj : j < 64) (h0 : 0 ≤ y) (h1 : y ≤ 255) (h : turnB (textB a b s i) j y = textB a' b' s' i') : y = 0 := by
  have hz := textB_size a b s i
  have e := one_apart (textB a' b' s' i').data.toList (textB a b s i).data.toList j (text_tells _ _ _ _) (text_tells _ _ _ _) (by rw [← h, turn_size]) (fun k hk => by rw [← h]; exact turn_other _ _ _ _ hk)
  have e2 : textB a' b' s' i' = textB a b s i := ByteArray.ext (Array.toList_inj.1 e)
  have h2 := turn_at (textB a b s i) j y (by omega) h0 h1
  rw [h, e2] at h2
  have h3 : y.toNat = 0 := by
    have := xor_left_cancel (a := byteAt (textB a b s i) j) (b := 0) (c := y.toNat) (by rw [Nat.xor_zero]; exact h2)
    exact this.symm
  omega

theorem pack_get (a b : Int) (s : ByteArray) (more : List ByteArray) (h : packE a b s.size = 0) : getB (packL a b s ++ more) a b = some (s, manyN s.size) := by
  rw [(pack_ok h).1]
  exact (getB_iff _ _ _ _ _).2 ⟨h, rfl, more, rfl⟩

theorem first_text {a b : Int} {s : ByteArray} {more l : List ByteArray} (h : l = textsL a b s ++ more) (i : Nat) (hi : i < manyN s.size) : l[i]? = some (textB a b s i) := by
  rw [h, List.getElem?_append_left (by rw [textsL_length]; exact hi), textsL_get _ _ _ _ hi]

/-- Texts of other numbers say nothing. -/
theorem get_other (a b a' b' : Int) (s : ByteArray) (h : packE a b s.size = 0) (hne : a ≠ a' ∨ b ≠ b') : getB (packL a b s) a' b' = none := by
  obtain ⟨hp, ha, hb, _, _⟩ := pack_ok h
  rw [hp]
  cases hg : getB (textsL a b s) a' b' with
  | none => rfl
  | some r =>
    obtain ⟨s', n⟩ := r
    obtain ⟨h', _, more, hm⟩ := (getB_iff _ _ _ _ _).1 hg
    obtain ⟨_, ha', hb', _, _⟩ := pack_ok h'
    have e1 := textsL_get a b s 0 (manyN_pos _)
    have e2 := first_text hm 0 (manyN_pos _)
    rw [e1] at e2
    have := text_inj ha hb ha' hb' (Option.some.inj e2)
    omega
/-- Fewer texts say nothing. -/
theorem get_less (a b : Int) (s : ByteArray) (j : Nat) (h : packE a b s.size = 0) (hj : j < manyN s.size) : getB ((packL a b s).take j) a b = none := by
  obtain ⟨hp, ha, hb, _, h8⟩ := pack_ok h
  rw [hp]
  cases hg : getB ((textsL a b s).take j) a b with
  | none => rfl
  | some r =>
    obtain ⟨s', n⟩ := r
    obtain ⟨h', _, more, hm⟩ := (getB_iff _ _ _ _ _).1 hg
    obtain ⟨_, ha', hb', _, h8'⟩ := pack_ok h'
    have hl := congrArg List.length hm
    rw [List.length_append, List.length_take, textsL_length, textsL_length] at hl
    have h1 := manyN_pos s'.size
    have e1 := textsL_get a b s 0 (manyN_pos _)
    have e2 := first_text hm 0 (manyN_pos _)
    rw [List.getElem?_take_of_lt (by omega), e1] at e2
    have := text_inj ha hb ha' hb' (Option.some.inj e2)
    omega
/-- With a byte turned texts say nothing. -/
theorem get_odd (a b : Int) (s : ByteArray) (k j : Nat) (y : Int) (h : packE a b s.size = 0) (hk : k < manyN s.size) (hj : j < 64) (h0 : 0 ≤ y) (h1 : y ≤ 255) :
    (getB ((packL a b s).set k (turnB ((packL a b s).getD k ByteArray.empty) j y)) a b).isSome = decide (y = 0) := by
  have hp0 := pack_get a b s [] h
  obtain ⟨hp, ha, hb, _, h8⟩ := pack_ok h
  rw [List.append_nil] at hp0
  rw [hp] at hp0 ⊢
  have hg : (textsL a b s).getD k ByteArray.empty = textB a b s k := by rw [List.getD_eq_getElem?_getD, textsL_get _ _ _ _ hk]; rfl
  have hlen := textsL_length a b s
  rw [hg]
  by_cases hy : y = 0
  · subst hy
    have e : (textsL a b s).set k (turnB (textB a b s k) j 0) = textsL a b s := by
      rw [turn_zero _ _ (by rw [textB_size]; exact hj), ← hg, List.getD_eq_getElem?_getD, List.getElem?_eq_getElem (by omega)]
      simp
    rw [e, hp0]; rfl
  · rw [decide_eq_false hy]
    cases hgt : getB ((textsL a b s).set k (turnB (textB a b s k) j y)) a b with
    | none => rfl
    | some r =>
      exfalso
      obtain ⟨s', n⟩ := r
      obtain ⟨h', _, more, hm⟩ := (getB_iff _ _ _ _ _).1 hgt
      obtain ⟨_, ha', hb', _, h8'⟩ := pack_ok h'
      by_cases hks : k < manyN s'.size
      · have e2 := first_text hm k hks
        rw [List.getElem?_set_self (by omega)] at e2
        exact hy (turn_text hj h0 h1 (Option.some.inj e2))
      · have h1' := manyN_pos s'.size
        have e2 := first_text hm 0 h1'
        rw [List.getElem?_set_ne (by omega), textsL_get a b s 0 (manyN_pos _)] at e2
        have := text_inj ha hb ha' hb' (Option.some.inj e2)
        omega

/-- Of texts of two packings none is told but a whole one. -/
theorem get_torn (a b c : Int) (s : ByteArray) (mix : List ByteArray) (P : Nat → Prop) [DecidablePred P] (h : packE a b s.size = 0) (hc : mayB c = true) (hbc : b ≠ c)
    (h1 : ∀ i, i < manyN s.size → P i → mix[i]? = some (textB a b s i)) (h2 : ∀ i, i < manyN s.size → ¬ P i → ∃ t j, mix[i]? = some (textB a c t j)) :
    getB mix a b = if ∀ i, i < manyN s.size → P i then some (s, manyN s.size) else none := by
  obtain ⟨hp, ha, hb, _, h8⟩ := pack_ok h
  by_cases hall : ∀ i, i < manyN s.size → P i
  · rw [if_pos hall]
    refine (getB_iff _ _ _ _ _).2 ⟨h, rfl, mix.drop (manyN s.size), ?_⟩
    have : mix.take (manyN s.size) = textsL a b s := by
      apply List.ext_getElem?
      intro i
      by_cases hi : i < manyN s.size
      · rw [List.getElem?_take_of_lt hi, h1 i hi (hall i hi), textsL_get _ _ _ _ hi]
      · rw [List.getElem?_eq_none (by rw [List.length_take]; omega), List.getElem?_eq_none (by rw [textsL_length]; omega)]
    rw [← this, List.take_append_drop]
  · rw [if_neg hall]
    cases hg : getB mix a b with
    | none => rfl
    | some r =>
      exfalso
      obtain ⟨s', n⟩ := r
      obtain ⟨h', _, more, hm⟩ := (getB_iff _ _ _ _ _).1 hg
      obtain ⟨_, ha', hb', _, h8'⟩ := pack_ok h'
      have no : ∀ i, i < manyN s'.size → i < manyN s.size → ¬ P i → False := fun i hi hi' hn => by
        obtain ⟨t, j, ht⟩ := h2 i hi' hn
        have e := first_text hm i hi
        rw [ht] at e
        exact hbc (text_inj ha hc ha' hb' (Option.some.inj e)).2.1.symm
      have p0 : P 0 := by
        by_cases hP : P 0
        · exact hP
        · exact (no 0 (manyN_pos _) (manyN_pos _) hP).elim
      have e := first_text hm 0 (manyN_pos _)
      rw [h1 0 (manyN_pos _) p0] at e
      have := (text_inj ha hb ha' hb' (Option.some.inj e)).2.2
      refine hall fun i hi => ?_
      by_cases hP : P i
      · exact hP
      · exact (no i (by omega) hi hP).elim

end Go.Proofs.Ytaalfjngehlojaa
