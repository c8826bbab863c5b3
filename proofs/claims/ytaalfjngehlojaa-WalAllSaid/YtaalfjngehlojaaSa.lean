/- Walks: the document's comparing of texts. -/
import Derived.Test.YtaalfjngehlojaaTo
namespace Go.Proofs.Ytaalfjngehlojaa
open Go.RowKit Go.Shelf

theorem getD_eq_all {l m : List ByteArray} (h : l.length = m.length) (ha : ∀ j, j < l.length → l.getD j ByteArray.empty = m.getD j ByteArray.empty) : l = m := by
  apply List.ext_getElem h
  intro j h1 h2
  have := ha j h1
  rw [List.getD_eq_getElem?_getD, List.getD_eq_getElem?_getD, List.getElem?_eq_getElem h1, List.getElem?_eq_getElem h2] at this
  exact this

set_option maxHeartbeats 1600000 in
theorem same_any (v u : Value) (l m : List ByteArray) (w : World) (hv : Strs w v l) (hu : Strs w u m) (hl : l.length ≤ 1000) (_hm : m.length ≤ 1000) :
    Calls Try.prog 12 #[v, u] w fun e w' => e = .returned (.bool (decide (l = m))) ∧ Below w.heap.size w w' := by
  obtain ⟨o1, c1, rfl, h1, h2, h3⟩ := hv.out
  obtain ⟨o2, c2, rfl, k1, k2, k3⟩ := hu.out
  by_cases hlm : l.length = m.length
  · rw [← hlm]
    rw [← hlm] at k1 k3
    obtain ⟨n, hn⟩ : ∃ n, n = l.length := ⟨_, rfl⟩
    rw [← hn]
    rw [← hn] at h1 h3 k1 k3 hl
    have cells : ∀ {o : Option Addr} {c : Nat} {p : List ByteArray}, n ≤ c → (o = none → c = 0) → (∀ a, o = some a → 0 < n → ∃ g f, a = ⟨g, f, none⟩ ∧ ∀ j, j < n → w.cell? ⟨g, f + j, none⟩ = some (.string (p.getD j ByteArray.empty))) → ∀ k W, k < n → Below w.heap.size w W → ∃ g f, o = some ⟨g, f, none⟩ ∧ W.cell? ⟨g, f + k, none⟩ = some (.string (p.getD k ByteArray.empty)) := by
      intro o c p hc hn h k W hk hB
      cases ho : o with
      | none => have := hn ho; omega
      | some a =>
        obtain ⟨g, f, rfl, hj⟩ := h a ho (by omega)
        have hcell := hj k hk
        refine ⟨g, f, rfl, ?_⟩
        have hg : g < w.heap.size := by
          by_cases hg : g < w.heap.size
          · exact hg
          · rw [World.cell?, Array.getElem?_eq_none (show w.heap.size ≤ g by omega)] at hcell
            cases hcell
        exact (hB.cell (p := ⟨g, f + k, none⟩) hg).trans hcell
    have H3 := Lib.hid (cells h1 h2 h3)
    have K3 := Lib.hid (cells k1 k2 k3)
    clear cells h2 k2
    have HN := Lib.hid hn
    have HLM := Lib.hid hlm
    clear h3 k3 hn hlm hv hu
    go_enter Try.func12, Try.ntmps12
    go_wp2_with fail
    go_loopw [5] (fun i wr => ∃ k : Nat, k ≤ n ∧ i = .int .i64 k ∧ (∀ j, j < k → l.getD j ByteArray.empty = m.getD j ByteArray.empty) ∧ Below w.heap.size w wr) (fun i _ => n - (intOf i).toNat)
    case atStart => exact ⟨0, by omega, rfl, fun j hj => by omega, Below.refl _ _⟩
    case round =>
      obtain ⟨k, hk, rfl, heq, hB⟩ := hrel
      have HEQ := Lib.hid heq
      clear heq
      by_cases hlt : k < n
      · obtain ⟨g1, f1, rfl, e1⟩ := H3.out k wr hlt hB
        obtain ⟨g2, f2, rfl, e2⟩ := K3.out k wr hlt hB
        obtain ⟨x, hx⟩ : ∃ x, x = l.getD k ByteArray.empty := ⟨_, rfl⟩
        obtain ⟨y, hy⟩ : ∃ y, y = m.getD k ByteArray.empty := ⟨_, rfl⟩
        rw [← hx] at e1
        rw [← hy] at e2
        have HX := Lib.hid hx
        have HY := Lib.hid hy
        clear hx hy H3 K3
        by_cases hxy : x = y
        · subst hxy
          go_wp2_with fail
          go_region
          all_goals go_wp2
          all_goals
            go_roundw
            case rel =>
              refine ⟨k + 1, by omega, by go_num, fun j hj => ?_, hB.drew⟩
              by_cases e : j = k
              · subst e
                rw [← HX.out, ← HY.out]
              · exact HEQ.out j (by omega)
            case measure => simp [intOf]; omega
        · have hb : decide (l = m) = false := decide_eq_false (fun e => hxy (by rw [HX.out, HY.out, e]))
          have HBB := Lib.hid hb
          have ht1 : (x.toList == y.toList) = false := by rw [toList_beq]; simp [hxy]
          have ht2 : (x.toList != y.toList) = true := by simp only [bne, ht1]; rfl
          have ht3 : ¬ x.toList = y.toList := fun e => by rw [e] at ht1; simp at ht1
          clear hb
          go_wp2_with fail
          go_region
          all_goals go_wp2
          all_goals
            go_ret
            exact ⟨ret_bool HBB.out.symm, hB.drew⟩
      · obtain rfl : n = k := by omega
        have hb : decide (l = m) = true := decide_eq_true (getD_eq_all HLM.out (fun j hj => HEQ.out j (by rw [HN.out]; exact hj)))
        have HBB := Lib.hid hb
        clear hb H3 K3
        go_wp2
        go_ret
        exact ⟨ret_bool HBB.out.symm, hB⟩
  · have hb : decide (l = m) = false := decide_eq_false (fun e => hlm (by rw [e]))
    rw [hb]
    obtain ⟨n, hn⟩ : ∃ n, n = l.length := ⟨_, rfl⟩
    obtain ⟨n2, hn2⟩ : ∃ n, n = m.length := ⟨_, rfl⟩
    rw [← hn, ← hn2]
    rw [← hn, ← hn2] at hlm
    have hb1 : ((n : Int) != (n2 : Int)) = true := by simp; omega
    clear hb h3 k3 hv hu hn hn2 hlm
    go_enter Try.func12, Try.ntmps12
    go_wp2_with fail
    go_ret
    exact ⟨rfl, Below.refl _ _⟩

end Go.Proofs.Ytaalfjngehlojaa
