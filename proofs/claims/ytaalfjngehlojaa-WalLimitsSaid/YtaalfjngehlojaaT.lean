/- Plain: what texts say; the walk of Get. -/
import Derived.Test.YtaalfjngehlojaaS
namespace Go.Proofs.Ytaalfjngehlojaa
open Go.RowKit

/-- A byte of a text. -/
def byteAt (z : ByteArray) (i : Nat) : Nat := (z.data.toList.getD i 0).toNat
/-- What a text says. -/
def cutB (z : ByteArray) : ByteArray := z.extract 12 (min 60 (12 + byteAt z 10 + byteAt z 11 * 256))
/-- What texts say, one behind the other. -/
def joinB (l : List ByteArray) : ByteArray := l.foldl (fun s z => s ++ cutB z) ByteArray.empty
theorem joinB_snoc (l : List ByteArray) (z : ByteArray) : joinB (l ++ [z]) = joinB l ++ cutB z := by simp [joinB]
theorem cutB_size (z : ByteArray) : (cutB z).size ≤ 48 := by
  unfold cutB
  rw [ByteArray.size_extract]
  omega
theorem joinB_size (l : List ByteArray) : (joinB l).size ≤ 48 * l.length := by
  have : ∀ s : ByteArray, (l.foldl (fun s z => s ++ cutB z) s).size ≤ s.size + 48 * l.length := by
    induction l with
    | nil => simp
    | cons z l ih =>
      intro s
      have h1 := ih (s ++ cutB z)
      have h2 := cutB_size z
      rw [ByteArray.size_append] at h1
      rw [List.foldl_cons, List.length_cons]
      omega
  have h := this ByteArray.empty
  simpa [joinB] using h
/-- How many texts the first one tells of. -/
def headN (l : List ByteArray) : Nat := byteAt (l.getD 0 ByteArray.empty) 9
/-- What texts tell, if they tell. -/
def getB (l : List ByteArray) (x y : Int) : Option (ByteArray × Nat) :=
  if l ≠ [] ∧ (l.getD 0 ByteArray.empty).size = 64 ∧ headN l ≤ l.length ∧ (∀ z ∈ l.take (headN l), z.size = 64) ∧
    packE x y (joinB (l.take (headN l))).size = 0 ∧ packL x y (joinB (l.take (headN l))) = l.take (headN l)
  then some (joinB (l.take (headN l)), headN l) else none
/-- As Get hands it back. -/
def gotV : Option (ByteArray × Nat) → Value
  | some (s, n) => .tuple #[.string s, .int .i64 (n : Nat), .bool true]
  | none => .tuple #[.string ⟨#[]⟩, .int .i64 0, .bool false]

/-- A slice of strings, somewhere in a row. -/
structure Strs (W : World) (v : Value) (l : List ByteArray) : Prop where
  out : ∃ o c, v = .slice o l.length c ∧ l.length ≤ c ∧ (o = none → c = 0) ∧ (∀ a, o = some a → 0 < l.length → ∃ g f, a = ⟨g, f, none⟩ ∧ ∀ j, j < l.length → W.cell? ⟨g, f + j, none⟩ = some (.string (l.getD j ByteArray.empty)))

theorem Strs.below {W W' : World} {v : Value} {l : List ByteArray} (h : Strs W v l) (hB : Below W.heap.size W W') : Strs W' v l := by
  obtain ⟨o, c, rfl, hc, hn, ha⟩ := h.out
  refine ⟨o, c, rfl, hc, hn, fun a e h0 => ?_⟩
  obtain ⟨g, f, rfl, hj⟩ := ha a e h0
  refine ⟨g, f, rfl, fun j hjl => ?_⟩
  have := hj j hjl
  have hg : g < W.heap.size := by
    by_cases hg : g < W.heap.size
    · exact hg
    · rw [World.cell?, Array.getElem?_eq_none (show W.heap.size ≤ g by omega)] at this
      cases this
  exact (hB.cell (p := ⟨g, f + j, none⟩) hg).trans this

theorem Texts.strs {B : Nat} {v : Value} {l : List ByteArray} {W : World} (h : Texts B v l W) : Strs W v l := by
  rcases h with ⟨h1, ⟨rfl, h2⟩ | ⟨g, cap, cur, rfl, hb, hg, hnc, hcm, hcs, ht⟩⟩
  · have : l = [] := by simpa using h2
    subst this
    exact ⟨none, 0, rfl, Nat.le_refl _, fun _ => rfl, fun a e _ => by cases e⟩
  · refine ⟨some ⟨g, 0, none⟩, cap, rfl, hnc, (fun e => nomatch e), fun a e _ => ?_⟩
    cases e
    refine ⟨g, 0, rfl, fun j hj => ?_⟩
    rw [Nat.zero_add]
    have := (show W.ownsRow B 9 1 (.slice (some ⟨g, 0, none⟩) l.length cap) l.length (l.map Value.string) from ⟨h1, .inr ⟨g, cap, cur, rfl, hb, hg, hnc, hcm, hcs, ht⟩⟩).cellAt j (by simpa using hj)
    rw [this, List.getElem?_map, List.getElem?_eq_getElem hj, List.getD_eq_getElem?_getD, List.getElem?_eq_getElem hj]
    rfl

end Go.Proofs.Ytaalfjngehlojaa
