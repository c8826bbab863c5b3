/- Walks: the document's example. -/
import Derived.Test.YtaalfjngehlojaaPm
import Derived.Test.YtaalfjngehlojaaV
namespace Go.Proofs.Ytaalfjngehlojaa
open Go.RowKit

theorem empty_mk : (⟨#[]⟩ : ByteArray) = ByteArray.empty := rfl

/-- What Pack gives, where it packs. -/
def PackedOk (x y : Int) (s : ByteArray) (w : World) (e : Ending) (w' : World) : Prop :=
  ∃ o c, e = .returned (.tuple #[.slice o (manyN s.size) c, .int .i64 0]) ∧ Strs w' (.slice o (manyN s.size) c) (packL x y s) ∧ Below w.heap.size w w'
/-- What Pack gives, where it does not. -/
def PackedNo (n : Int) (w : World) (e : Ending) (w' : World) : Prop :=
  ∃ o c, e = .returned (.tuple #[.slice o 0 c, .int .i64 n]) ∧ Below w.heap.size w w'

theorem pack_good (x y : Int) (s : ByteArray) (hs : s.size ≤ 14400) (h : packE x y s.size = 0) (w : World) : Calls Try.prog 8 #[.int .i64 x, .int .i64 y, .string s] w (PackedOk x y s w) := by
  refine (pack_any x y s hs w).mono ?_
  rintro e w' ⟨v, rfl, ht, hB⟩
  have hS := Texts.strs ht
  have hl : (packL x y s).length = manyN s.size := by rw [packL_length, if_pos h]
  obtain ⟨o, c, hv, _⟩ := hS.out
  rw [hl] at hv
  rw [hv] at hS
  exact ⟨o, c, by rw [h, hv], hS, hB⟩
theorem pack_bad (x y : Int) (s : ByteArray) (hs : s.size ≤ 14400) (n : Int) (h : packE x y s.size = n) (hn : n ≠ 0) (w : World) : Calls Try.prog 8 #[.int .i64 x, .int .i64 y, .string s] w (PackedNo n w) := by
  refine (pack_any x y s hs w).mono ?_
  rintro e w' ⟨v, rfl, ht, hB⟩
  have hS := Texts.strs ht
  have hl : (packL x y s).length = 0 := by rw [packL_length, if_neg (by rw [h]; exact hn)]
  obtain ⟨o, c, hv, _⟩ := hS.out
  rw [hl] at hv
  exact ⟨o, c, by rw [h, hv], hB⟩

/-- What Get gives. -/
theorem get_some (x y : Int) (l : List ByteArray) (v : Value) (s : ByteArray) (n : Nat) (w : World) (hl : l.length ≤ 300) (h : Strs w v l) (hg : getB l x y = some (s, n)) :
    Calls Try.prog 10 #[v, .int .i64 x, .int .i64 y] w fun e w' => e = .returned (.tuple #[.string s, .int .i64 (n : Nat), .bool true]) ∧ Below w.heap.size w w' := by
  have := get_any x y l v w hl h
  rw [hg] at this
  exact this
theorem get_none (x y : Int) (l : List ByteArray) (v : Value) (w : World) (hl : l.length ≤ 300) (h : Strs w v l) (hg : getB l x y = none) :
    Calls Try.prog 10 #[v, .int .i64 x, .int .i64 y] w fun e w' => e = .returned (.tuple #[.string ⟨#[]⟩, .int .i64 0, .bool false]) ∧ Below w.heap.size w w' := by
  have := get_any x y l v w hl h
  rw [hg] at this
  exact this

set_option maxHeartbeats 800000 in
theorem awake_any (w : World) : Calls Try.prog 7 #[] w fun e w' => e = .returned (.bool true) ∧ Below w.heap.size w w' := by
  have hP := fun w => pack_good 1 1 ⟨#[]⟩ (by decide) (by decide) w
  have hG : getB (packL 1 1 ⟨#[]⟩) 1 1 = some (⟨#[]⟩, 1) := by
    have := pack_get 1 1 ⟨#[]⟩ [] (by decide)
    rw [List.append_nil] at this
    exact this
  have hlen : (packL 1 1 ⟨#[]⟩).length = 1 := by rw [packL_length]; decide
  have HP := Lib.hid hP
  have HG := Lib.hid hG
  have HL := Lib.hid hlen
  clear hP hG hlen
  go_enter Try.func7, Try.ntmps7
  go_wp2_with fail
  refine (HP.out _).mono ?_
  rintro e w1 ⟨o, c, rfl, hS, hB1⟩
  have hm : (manyN (⟨#[]⟩ : ByteArray).size) = 1 := by decide
  rw [hm] at hS
  rw [hm]
  clear hm
  have hget := get_some 1 1 _ _ _ _ w1 (by rw [HL.out]; omega) hS HG.out
  clear hS
  go_wp2_with fail
  refine hget.mono ?_
  rintro e w2 ⟨rfl, hB2⟩
  clear hget
  go_wp2_with fail
  refine (err_any 0 _).mono ?_
  rintro e w3 ⟨rfl, rfl⟩
  go_wp2_with fail
  go_ret
  exact ⟨rfl, below_trans' hB1 hB2⟩

end Go.Proofs.Ytaalfjngehlojaa
