/- Plain: what texts say is what was packed; texts of other numbers, or with a byte turned, say nothing. -/
import Derived.Test.YtaalfjngehlojaaT
import Derived.Test.YtaalfjngehlojaaN
namespace Go.Proofs.Ytaalfjngehlojaa
open Go.RowKit

theorem len_list (a : ByteArray) : a.data.toList.length = a.size := rfl
theorem byteAt_append (a b : ByteArray) (i : Nat) : byteAt (a ++ b) i = if i < a.size then byteAt a i else byteAt b (i - a.size) := by
  unfold byteAt
  rw [ByteArray.data_append, Array.toList_append, List.getD_eq_getElem?_getD]
  have hs := len_list a
  split
  · rw [List.getElem?_append_left (by omega), List.getD_eq_getElem?_getD]
  · rw [List.getElem?_append_right (by omega), List.getD_eq_getElem?_getD, hs]
theorem byteAt_litS (x : Int) (n j : Nat) (h : j < n) : byteAt (litS x n) j = (litF x j).toNat := by
  unfold byteAt litS
  rw [strOfNums_data, List.getD_eq_getElem?_getD, List.getElem?_map, List.getElem?_map, List.getElem?_range h]
  show (UInt8.ofNat (litF x j).toNat).toNat = _
  rw [UInt8.toNat_ofNat', Nat.mod_eq_of_lt]
  unfold litF
  omega

/-- The head of text i. -/
def headB (e q : Int) (s : ByteArray) (i : Nat) : ByteArray := litS e 4 ++ litS q 4 ++ litS i 1 ++ litS (manyN s.size : Nat) 1 ++ litS (partB s i).size 2
theorem headB_size (e q : Int) (s : ByteArray) (i : Nat) : (headB e q s i).size = 12 := by
  unfold headB
  simp only [ByteArray.size_append, litS_size]
/-- What stands behind. -/
def tailB (e q : Int) (s : ByteArray) (i : Nat) : ByteArray := noughtS (60 - (bodyB e q s i).size) ++ four (sumL (fullB e q s i).data.toList)
theorem textB_eq (e q : Int) (s : ByteArray) (i : Nat) : textB e q s i = headB e q s i ++ (partB s i ++ tailB e q s i) := by
  show bodyB e q s i ++ noughtS (60 - (bodyB e q s i).size) ++ four (sumL (fullB e q s i).data.toList) = _
  rw [show bodyB e q s i = headB e q s i ++ partB s i from rfl, ByteArray.append_assoc, ByteArray.append_assoc]
  rfl

theorem byte_head (e q : Int) (s : ByteArray) (i j : Nat) (h : j < 12) : byteAt (textB e q s i) j = byteAt (headB e q s i) j := by
  rw [textB_eq, byteAt_append, headB_size, if_pos h]
theorem byte_e (e q : Int) (s : ByteArray) (i j : Nat) (h : j < 4) : byteAt (textB e q s i) j = (litF e j).toNat := by
  rw [byte_head _ _ _ _ _ (by omega)]
  unfold headB
  rw [byteAt_append, if_pos (by simp only [ByteArray.size_append, litS_size]; omega), byteAt_append, if_pos (by simp only [ByteArray.size_append, litS_size]; omega), byteAt_append, if_pos (by simp only [ByteArray.size_append, litS_size]; omega), byteAt_append, if_pos (by simp only [litS_size]; omega), byteAt_litS _ _ _ h]
theorem byte_q (e q : Int) (s : ByteArray) (i j : Nat) (h : j < 4) : byteAt (textB e q s i) (4 + j) = (litF q j).toNat := by
  rw [byte_head _ _ _ _ _ (by omega)]
  unfold headB
  rw [byteAt_append, if_pos (by simp only [ByteArray.size_append, litS_size]; omega), byteAt_append, if_pos (by simp only [ByteArray.size_append, litS_size]; omega), byteAt_append, if_pos (by simp only [ByteArray.size_append, litS_size]; omega), byteAt_append, if_neg (by simp only [litS_size]; omega), litS_size, Nat.add_sub_cancel_left, byteAt_litS _ _ _ h]
theorem byte_i (e q : Int) (s : ByteArray) (i : Nat) : byteAt (textB e q s i) 8 = i % 256 := by
  rw [byte_head _ _ _ _ _ (by omega)]
  unfold headB
  rw [byteAt_append, if_pos (by simp only [ByteArray.size_append, litS_size]; omega), byteAt_append, if_pos (by simp only [ByteArray.size_append, litS_size]; omega), byteAt_append, if_neg (by simp only [ByteArray.size_append, litS_size]; omega)]
  simp only [ByteArray.size_append, litS_size]
  rw [byteAt_litS _ _ _ (by omega)]
  unfold litF
  simp
  omega
theorem byte_many (e q : Int) (s : ByteArray) (i : Nat) : byteAt (textB e q s i) 9 = manyN s.size % 256 := by
  rw [byte_head _ _ _ _ _ (by omega)]
  unfold headB
  rw [byteAt_append, if_pos (by simp only [ByteArray.size_append, litS_size]; omega), byteAt_append, if_neg (by simp only [ByteArray.size_append, litS_size]; omega)]
  simp only [ByteArray.size_append, litS_size]
  rw [byteAt_litS _ _ _ (by omega)]
  unfold litF
  simp
  omega
theorem byte_len (e q : Int) (s : ByteArray) (i : Nat) : byteAt (textB e q s i) 10 + byteAt (textB e q s i) 11 * 256 = (partB s i).size := by
  have hp := partB_size s i
  rw [byte_head _ _ _ _ _ (by omega), byte_head _ _ _ _ _ (by omega)]
  unfold headB
  rw [byteAt_append, if_neg (by simp only [ByteArray.size_append, litS_size]; omega), byteAt_append, if_neg (by simp only [ByteArray.size_append, litS_size]; omega)]
  simp only [ByteArray.size_append, litS_size]
  rw [byteAt_litS _ _ _ (by omega), byteAt_litS _ _ _ (by omega)]
  unfold litF
  simp
  omega

theorem extract_mid (a b c : ByteArray) (n m : Nat) (ha : a.size = n) (hb : n + b.size = m) : (a ++ (b ++ c)).extract n m = b := by
  apply ByteArray.ext
  apply Array.toList_inj.1
  rw [ByteArray.data_extract, Array.toList_extract, List.extract_eq_take_drop, ByteArray.data_append, ByteArray.data_append, Array.toList_append, Array.toList_append]
  have h1 : a.data.toList.length = n := by rw [← ha]; rfl
  have h2 : b.data.toList.length = m - n := by rw [len_list]; omega
  rw [List.drop_append_of_le_length (by omega), List.drop_eq_nil_of_le (by omega), List.nil_append, List.take_append_of_le_length (by omega), List.take_of_length_le (by omega)]
theorem cut_text (e q : Int) (s : ByteArray) (i : Nat) : cutB (textB e q s i) = partB s i := by
  unfold cutB
  have hp := partB_size s i
  rw [Nat.add_assoc, byte_len, Nat.min_eq_right (by omega), textB_eq]
  exact extract_mid _ _ _ _ _ (headB_size _ _ _ _) rfl

theorem join_range (e q : Int) (s : ByteArray) (k : Nat) : joinB ((List.range k).map (textB e q s)) = s.extract 0 (min s.size (48 * k)) := by
  induction k with
  | zero => simp [joinB]
  | succ k ih =>
    rw [List.range_succ, List.map_append, List.map_singleton, joinB_snoc, ih, cut_text]
    unfold partB
    apply ByteArray.ext
    apply Array.toList_inj.1
    have hs := len_list s
    simp only [ByteArray.data_append, ByteArray.data_extract, Array.toList_append, Array.toList_extract, List.extract_eq_take_drop, List.drop_zero, Nat.sub_zero]
    by_cases h : 48 * k ≤ s.size
    · rw [Nat.min_eq_right h, show min s.size (48 * (k + 1)) = 48 * k + (min s.size (48 * k + 48) - 48 * k) by omega, List.take_add]
    · rw [Nat.min_eq_left (by omega), Nat.min_eq_left (by omega), Nat.min_eq_left (by omega), List.drop_eq_nil_of_le (by omega), List.take_nil, List.append_nil]
theorem join_texts (e q : Int) (s : ByteArray) : joinB (textsL e q s) = s := by
  unfold textsL
  rw [join_range, Nat.min_eq_left (by unfold manyN; omega)]
  simp

theorem manyN_pos (n : Nat) : 1 ≤ manyN n := by unfold manyN; omega
theorem textsL_length (e q : Int) (s : ByteArray) : (textsL e q s).length = manyN s.size := by simp [textsL]
theorem textsL_get (e q : Int) (s : ByteArray) (i : Nat) (h : i < manyN s.size) : (textsL e q s)[i]? = some (textB e q s i) := by
  simp [textsL, h]
theorem pack_ok {x y : Int} {s : ByteArray} (h : packE x y s.size = 0) : packL x y s = textsL x y s ∧ mayB x = true ∧ mayB y = true ∧ s.size ≤ 384 ∧ manyN s.size ≤ 8 := by
  refine ⟨by unfold packL; rw [if_pos h], ?_⟩
  unfold packE at h
  split at h
  · rename_i hm
    split at h
    · cases h
    · exact ⟨hm.1, hm.2, by omega, by unfold manyN; omega⟩
  · cases h

theorem headN_of {l : List ByteArray} {z : ByteArray} (h : l[0]? = some z) : headN l = byteAt z 9 := by
  unfold headN
  rw [List.getD_eq_getElem?_getD, h]; rfl

/-- What texts tell, told anew. -/
theorem getB_iff (l : List ByteArray) (x y : Int) (s : ByteArray) (n : Nat) :
    getB l x y = some (s, n) ↔ packE x y s.size = 0 ∧ n = manyN s.size ∧ ∃ more, l = textsL x y s ++ more := by
  constructor
  · intro h
    unfold getB at h
    split at h
    · rename_i hc
      obtain ⟨h0, h1, h2, h3, h4, h5⟩ := hc
      simp only [Option.some.injEq, Prod.mk.injEq] at h
      obtain ⟨hs, hn⟩ := h
      rw [hs, hn] at h5
      rw [hs] at h4
      have hp := (pack_ok h4).1
      rw [hp] at h5
      have hl : (textsL x y s).length = n := by rw [h5, List.length_take]; omega
      rw [textsL_length] at hl
      refine ⟨h4, hl.symm, l.drop n, ?_⟩
      rw [h5, List.take_append_drop]
    · cases h
  · rintro ⟨h4, rfl, more, rfl⟩
    obtain ⟨hp, _, _, _, h8⟩ := pack_ok h4
    have hl := textsL_length x y s
    have h1 := manyN_pos s.size
    have hz : (textsL x y s ++ more)[0]? = some (textB x y s 0) := by
      rw [List.getElem?_append_left (by omega), textsL_get _ _ _ _ (by omega)]
    have hN : headN (textsL x y s ++ more) = manyN s.size := by
      rw [headN_of hz, byte_many]; omega
    have ht : (textsL x y s ++ more).take (manyN s.size) = textsL x y s := by
      rw [← hl, List.take_left']
      rfl
    unfold getB
    rw [hN, ht, join_texts, if_pos]
    refine ⟨fun e => ?_, ?_, by rw [List.length_append]; omega, fun z hz => ?_, h4, hp⟩
    · rw [e] at hz; cases hz
    · rw [List.getD_eq_getElem?_getD, hz]; exact textB_size _ _ _ _
    · unfold textsL at hz
      obtain ⟨i, _, rfl⟩ := List.mem_map.1 hz
      exact textB_size _ _ _ _

theorem lit_inj {a b : Int} (ha : mayB a = true) (hb : mayB b = true) (h : ∀ j, j < 4 → (litF a j).toNat = (litF b j).toNat) : a = b := by
  unfold mayB at ha hb
  simp only [Bool.and_eq_true, decide_eq_true_eq] at ha hb
  have h0 := h 0 (by omega); have h1 := h 1 (by omega); have h2 := h 2 (by omega); have h3 := h 3 (by omega)
  unfold litF at h0 h1 h2 h3
  simp at h0 h1 h2 h3
  omega
/-- A text is of one packing's numbers alone. -/
theorem text_inj {a b a' b' : Int} {s s' : ByteArray} {i i' : Nat} (ha : mayB a = true) (hb : mayB b = true) (ha' : mayB a' = true) (hb' : mayB b' = true) (h : textB a b s i = textB a' b' s' i') :
    a = a' ∧ b = b' ∧ manyN s.size % 256 = manyN s'.size % 256 := by
  refine ⟨lit_inj ha ha' (fun j hj => ?_), lit_inj hb hb' (fun j hj => ?_), ?_⟩
  · rw [← byte_e a b s i j hj, h, byte_e _ _ _ _ _ hj]
  · rw [← byte_q a b s i j hj, h, byte_q _ _ _ _ _ hj]
  · rw [← byte_many a b s i, h, byte_many]
end Go.Proofs.Ytaalfjngehlojaa
