/- Plain: the texts of bytes; the walk of texts. -/
import Derived.Test.YtaalfjngehlojaaO
import Derived.Test.YtaalfjngehlojaaShelf
namespace Go.Proofs.Ytaalfjngehlojaa
open Go.RowKit

/-- How many texts. -/
def manyN (n : Nat) : Nat := max 1 ((n + 47) / 48)
/-- What text i says. -/
def partB (s : ByteArray) (i : Nat) : ByteArray := s.extract (48 * i) (min s.size (48 * i + 48))
/-- Noughts. -/
def noughtS (k : Nat) : ByteArray := ⟨(Lib.repeatL [0] k).toArray⟩
/-- Text i, but for the noughts and the sum. -/
def bodyB (e q : Int) (s : ByteArray) (i : Nat) : ByteArray := litS e 4 ++ litS q 4 ++ litS i 1 ++ litS (manyN s.size : Nat) 1 ++ litS (partB s i).size 2 ++ partB s i
/-- Text i, but for the sum. -/
def fullB (e q : Int) (s : ByteArray) (i : Nat) : ByteArray := bodyB e q s i ++ noughtS (60 - (bodyB e q s i).size)
/-- Text i. -/
def textB (e q : Int) (s : ByteArray) (i : Nat) : ByteArray := putB (fullB e q s i)
/-- The texts. -/
def textsL (e q : Int) (s : ByteArray) : List ByteArray := (List.range (manyN s.size)).map (textB e q s)

theorem noughtS_size (k : Nat) : (noughtS k).size = k := by
  show (Lib.repeatL [0] k).toArray.size = k
  rw [List.size_toArray, Lib.repeatL_length]
  simp
theorem partB_size (s : ByteArray) (i : Nat) : (partB s i).size ≤ 48 := by
  unfold partB
  rw [ByteArray.size_extract]
  omega
theorem bodyB_size (e q : Int) (s : ByteArray) (i : Nat) : (bodyB e q s i).size = 12 + (partB s i).size := by
  unfold bodyB
  simp only [ByteArray.size_append, litS_size]
theorem fullB_size (e q : Int) (s : ByteArray) (i : Nat) : (fullB e q s i).size = 60 := by
  unfold fullB
  have := partB_size s i
  rw [ByteArray.size_append, noughtS_size, bodyB_size]
  omega
theorem putB_size (s : ByteArray) : (putB s).size = s.size + 4 := by
  unfold putB
  rw [ByteArray.size_append, four_size]
theorem textB_size (e q : Int) (s : ByteArray) (i : Nat) : (textB e q s i).size = 64 := by
  unfold textB
  rw [putB_size, fullB_size]

set_option maxHeartbeats 400000 in
theorem texts_any (x y : Int) (s : ByteArray) (hs : s.size ≤ 14400) (w : World) :
    Calls Try.prog 16 #[.int .i64 x, .int .i64 y, .string s] w fun e w' => ∃ m p a b, e = .returned (.func (.func 22) #[] #[.pointer (some ⟨m, 0, none⟩), .pointer (some ⟨p, 0, none⟩), .pointer (some ⟨a, 0, none⟩), .pointer (some ⟨b, 0, none⟩)]) ∧
      m < w'.heap.size ∧ p < w'.heap.size ∧ a < w'.heap.size ∧ b < w'.heap.size ∧
      w'.cell? ⟨m, 0, none⟩ = some (.int .i64 (manyN s.size : Nat)) ∧ w'.cell? ⟨p, 0, none⟩ = some (.string s) ∧ w'.cell? ⟨a, 0, none⟩ = some (.int .i64 x) ∧ w'.cell? ⟨b, 0, none⟩ = some (.int .i64 y) ∧ Below w.heap.size w w' := by
  have hm : Hid (((manyN s.size : Nat) : Int) = max 1 (((s.size : Int) + 48 - 1) / 48)) := Lib.hid (by unfold manyN; omega)
  go_enter Try.func16, Try.ntmps16
  go_wp2_with fail
  go_ret
  refine ⟨_, _, _, _, rfl, by simp, by simp, by simp; omega, by simp, ?_, ?_, ?_, ?_, below_alloc' (below_alloc' (below_alloc' (below_alloc' (Below.refl _ _) _) _) _) _⟩
  · rw [hm.out, World.cell?_alloc_at _ _ _ _ (by simp)]; rfl
  · rw [World.cell?_alloc_past _ _ _ (by simp), World.cell?_alloc_at _ _ _ _ (by simp)]; rfl
  · rw [World.cell?_alloc_past _ _ _ (by simp; omega), World.cell?_alloc_past _ _ _ (by simp; omega), World.cell?_alloc_past _ _ _ (by simp), World.cell?_alloc_at _ _ _ _ (by simp)]; rfl
  · rw [World.cell?_alloc_past _ _ _ (by simp), World.cell?_alloc_past _ _ _ (by simp), World.cell?_alloc_at _ _ _ _ (by simp)]; rfl

end Go.Proofs.Ytaalfjngehlojaa
