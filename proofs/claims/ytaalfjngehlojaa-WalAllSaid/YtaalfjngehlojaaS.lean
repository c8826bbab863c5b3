/- Walks: Collect, Pack. -/
import Derived.Test.YtaalfjngehlojaaR
namespace Go.Proofs.Ytaalfjngehlojaa
open Go.RowKit

set_option maxHeartbeats 400000 in
theorem collect_any (m p a b : Nat) (x y : Int) (s : ByteArray) (hs : s.size ≤ 14400) (w : World) (hm : m < w.heap.size) (hp : p < w.heap.size) (ha : a < w.heap.size) (hb : b < w.heap.size)
    (xm : w.cell? ⟨m, 0, none⟩ = some (.int .i64 (manyN s.size : Nat))) (xp : w.cell? ⟨p, 0, none⟩ = some (.string s)) (xa : w.cell? ⟨a, 0, none⟩ = some (.int .i64 x)) (xb : w.cell? ⟨b, 0, none⟩ = some (.int .i64 y)) :
    Calls Try.prog 15 #[.func (.func 22) #[] #[.pointer (some ⟨m, 0, none⟩), .pointer (some ⟨p, 0, none⟩), .pointer (some ⟨a, 0, none⟩), .pointer (some ⟨b, 0, none⟩)]] w fun e w' =>
      ∃ v, e = .returned v ∧ w'.ownsRow w.heap.size 9 1 v (manyN s.size) ((textsL x y s).map Value.string) ∧ Below w.heap.size w w' := by
  have h := appendseq_any m p a b x y s hs w hm hp ha hb xm xp xa xb
  go_enter Try.func15, Try.ntmps15
  go_wp2_with fail
  refine h.mono ?_
  rintro e w1 ⟨v, rfl, ho, hB⟩
  go_wp2_with fail
  go_ret
  exact ⟨v, rfl, ho, hB⟩

theorem own_base {W : World} {B B' e n : Nat} {v : Value} {xs : List Value} (h : W.ownsRow B e 1 v n xs) (hb : B' ≤ B) : W.ownsRow B' e 1 v n xs := by
  rcases h with ⟨h1, h2 | ⟨g, cap, cur, hv, hB, rest⟩⟩
  · exact ⟨h1, .inl h2⟩
  · exact ⟨h1, .inr ⟨g, cap, cur, hv, Nat.le_trans hb hB, rest⟩⟩

/-- How Pack ends. -/
def packE (x y : Int) (n : Nat) : Int := if mayB x = true ∧ mayB y = true then (if 384 < n then 6 else 0) else 1
/-- What Pack gives. -/
def packL (x y : Int) (s : ByteArray) : List ByteArray := if packE x y s.size = 0 then textsL x y s else []

theorem packL_length (x y : Int) (s : ByteArray) : (packL x y s).length = if packE x y s.size = 0 then manyN s.size else 0 := by
  unfold packL
  split <;> simp [textsL]

theorem ok_two {v : Value} {a b : Int} (h : b = a) : Ending.returned (.tuple #[v, .int .i64 a]) = .returned (.tuple #[v, .int .i64 b]) := by rw [h]
/-- A slice of the texts. -/
def Texts (B : Nat) (v : Value) (l : List ByteArray) (W : World) : Prop := W.ownsRow B 9 1 v l.length (l.map Value.string)

def Packed (x y : Int) (s : ByteArray) (w : World) (e : Ending) (w' : World) : Prop :=
  ∃ v, e = .returned (.tuple #[v, .int .i64 (packE x y s.size)]) ∧ Texts w.heap.size v (packL x y s) w' ∧ Below w.heap.size w w'

set_option maxHeartbeats 1600000 in
theorem pack_any (x y : Int) (s : ByteArray) (hs : s.size ≤ 14400) (w : World) :
    Calls Try.prog 8 #[.int .i64 x, .int .i64 y, .string s] w (Packed x y s w) := by
  have hx := fun w => may_any x w
  have hy := fun w => may_any y w
  obtain ⟨p, hp⟩ : ∃ p, p = mayB x := ⟨_, rfl⟩
  obtain ⟨q, hq⟩ : ∃ q, q = mayB y := ⟨_, rfl⟩
  simp only [← hp] at hx
  simp only [← hq] at hy
  have HX := Lib.hid hx
  have HY := Lib.hid hy
  have HP := Lib.hid hp
  have HQ := Lib.hid hq
  clear hx hy hp hq
  have none_texts : ∀ W : World, packL x y s = [] → Texts w.heap.size (.slice none 0 0) (packL x y s) W := fun W h => by
    rw [h]
    exact ⟨rfl, .inl ⟨rfl, rfl⟩⟩
  have HN := Lib.hid none_texts
  clear none_texts
  go_enter Try.func8, Try.ntmps8
  go_wp2_with fail
  refine (HX.out _).mono ?_
  rintro e w1 ⟨rfl, rfl⟩
  cases p with
  | false =>
    go_wp2_with fail
    go_ret2
    have h : packE x y s.size = 1 := by unfold packE; rw [← HP.out]; simp
    exact ⟨_, ok_two h, HN.out _ (by unfold packL; rw [h]; rfl), Below.refl _ _⟩
  | true =>
    go_wp2_with fail
    refine (HY.out _).mono ?_
    rintro e w1 ⟨rfl, rfl⟩
    cases q with
    | false =>
      go_wp2_with fail
      go_ret2
      have h : packE x y s.size = 1 := by unfold packE; rw [← HP.out, ← HQ.out]; simp
      exact ⟨_, ok_two h, HN.out _ (by unfold packL; rw [h]; rfl), Below.refl _ _⟩
    | true =>
      by_cases hbig : 384 < s.size
      · go_wp2_with fail
        go_ret2
        have h : packE x y s.size = 6 := by unfold packE; rw [← HP.out, ← HQ.out]; simp [hbig]
        exact ⟨_, ok_two h, HN.out _ (by unfold packL; rw [h]; rfl), Below.refl _ _⟩
      · have ht := texts_any x y s hs
        go_wp2_with fail
        refine (ht _).mono ?_
        rintro e w1 ⟨m, p, a, b, rfl, hm, hp, ha, hb, xm, xp, xa, xb, hB1⟩
        have hc := collect_any m p a b x y s hs w1 hm hp ha hb xm xp xa xb
        clear ht
        go_wp2_with fail
        refine hc.mono ?_
        rintro e w2 ⟨v, rfl, ho, hB2⟩
        clear hc
        go_wp2_with fail
        go_ret2
        have h : packE x y s.size = 0 := by unfold packE; rw [← HP.out, ← HQ.out]; simp; omega
        refine ⟨_, ok_two h, ?_, below_trans' hB1 hB2⟩
        unfold packL
        rw [h, if_pos rfl]
        unfold Texts
        rw [show (textsL x y s).length = manyN s.size by simp [textsL]]
        exact own_base ho hB1.size

end Go.Proofs.Ytaalfjngehlojaa
