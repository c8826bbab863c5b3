/- Walks: whether two slices of texts are one; small facts for Get. -/
import Derived.Test.YtaalfjngehlojaaT
namespace Go.Proofs.Ytaalfjngehlojaa
open Go.RowKit

theorem Strs.take {W : World} {o : Option Addr} {m c : Nat} {l : List ByteArray} (h : Strs W (.slice o m c) l) (n : Nat) (hn : n ≤ l.length) : Strs W (.slice o n c) (l.take n) := by
  obtain ⟨o', c', e, hc, h0, ha⟩ := h.out
  cases e
  have hl : (l.take n).length = n := by rw [List.length_take]; omega
  refine ⟨o, c, by rw [hl], by omega, h0, fun a ea hp => ?_⟩
  obtain ⟨g, f, rfl, hj⟩ := ha a ea (by omega)
  refine ⟨g, f, rfl, fun j hjl => ?_⟩
  rw [hl] at hjl
  rw [hj j (by omega), List.getD_eq_getElem?_getD, List.getD_eq_getElem?_getD, List.getElem?_take_of_lt hjl]

theorem equal_any (v u : Value) (l m : List ByteArray) (w : World) (hv : Strs w v l) (hu : Strs w u m) (hl : l.length ≤ 1000) (hm : m.length ≤ 1000) :
    Calls Try.prog 20 #[v, u] w fun e w' => e = .returned (.bool (decide (l = m))) ∧ Below w.heap.size w w' := by
  obtain ⟨o1, c1, rfl, h1, h2, h3⟩ := hv.out
  obtain ⟨o2, c2, rfl, k1, k2, k3⟩ := hu.out
  by_cases hlm : l.length = m.length
  · by_cases hz : l.length = 0
    · rw [hz]
      refine (Try.slices_Equal_string_empty o1 o2 c1 m.length c2 w (by omega)).mono ?_
      rintro e w' ⟨rfl, rfl⟩
      have e1 : l = [] := List.eq_nil_of_length_eq_zero hz
      have e2 : m = [] := List.eq_nil_of_length_eq_zero (by omega)
      subst e1; subst e2
      exact ⟨by simp, Below.refl _ _⟩
    cases o1 with
    | none => have := h2 rfl; omega
    | some a1 =>
      cases o2 with
      | none => have := k2 rfl; omega
      | some a2 =>
        obtain ⟨g1, f1, rfl, hc1⟩ := h3 a1 rfl (by omega)
        obtain ⟨g2, f2, rfl, hc2⟩ := k3 a2 rfl (by omega)
        refine (Try.slices_Equal_string g1 f1 l.length c1 g2 f2 m.length c2 l m w (Nat.le_refl _) (Nat.le_refl _) (by omega) (by omega) hc1 hc2).mono ?_
        rintro e w' ⟨rfl, q, rfl⟩
        rw [List.take_length, List.take_length]
        exact ⟨rfl, below_drewN (Below.refl _ _) q⟩
  · refine (Try.slices_Equal_string_lens o1 o2 l.length c1 m.length c2 w hlm).mono ?_
    rintro e w' ⟨rfl, rfl⟩
    have : ¬ l = m := fun e => hlm (by rw [e])
    exact ⟨by simp [this], Below.refl _ _⟩

theorem wraps (i j r : Nat) (hi : i ≤ 255) (hj : j ≤ 255) (hr : r = min 60 (12 + i + j * 256)) (q : ByteArray) (hq : q.size = 64) :
    (12 ≤ r ∧ r ≤ 60 ∧ IntKind.i64.wrap (i : Int) = (i : Int) ∧ IntKind.i64.wrap (12 + (i : Int)) = 12 + (i : Int) ∧ IntKind.i64.wrap (j : Int) = (j : Int) ∧ IntKind.i64.wrap ((j : Int) * 256) = (j : Int) * 256 ∧
      min 60 (IntKind.i64.wrap (12 + (i : Int) + (j : Int) * 256)) = (r : Int)) ∧
    ∀ w, (Instr.slice 9 (.string q) (some (.int .i64 12)) (some (.int .i64 r)) none).run Try.prog w = .ok (.string (q.extract 12 r)) w := by
  refine ⟨⟨by omega, by omega, ?_, ?_, ?_, ?_, ?_⟩, fun w => ?_⟩
  · rw [IntKind.wrap_i64]; omega
  · rw [IntKind.wrap_i64]; omega
  · rw [IntKind.wrap_i64]; omega
  · rw [IntKind.wrap_i64]; omega
  · rw [IntKind.wrap_i64]; omega
  · have h1 := run_slice_string (P := Try.prog) w 9 q .i64 .i64 12 (r : Int) Try.underlying9 (by omega) (by omega) (by omega)
    rw [h1]
    congr 3

end Go.Proofs.Ytaalfjngehlojaa
