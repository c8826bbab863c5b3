/- Walks: what an iterator gives, in a slice. -/
import Derived.Test.YtaalfjngehlojaaQ
namespace Go.Proofs.Ytaalfjngehlojaa
open Go.RowKit Go.Shelf
attribute [local go_sem] Oper.semAt_some

theorem one_cell {W : World} {p t : Nat} {v : Value} (h : W.heap[p]? = some (.cells #[v] t (0, 0))) : W.cell? ⟨p, 0, none⟩ = some v ∧ W.frozen? ⟨p, 0, none⟩ = false := by
  simp [World.cell?, World.frozen?, h]
theorem one_set {W : World} {p t : Nat} {v : Value} (h : W.heap[p]? = some (.cells #[v] t (0, 0))) (u : Value) : (W.setCell ⟨p, 0, none⟩ u).heap[p]? = some (.cells #[u] t (0, 0)) := by
  simp only [World.setCell, Array.getElem?_modify, h]
  simp
theorem own_other {w W : World} {B e n : Nat} {v : Value} {xs : List Value} (h : w.ownsRow B e 1 v n xs) (hk : ∀ r, v.ownBlock = some r → W.heap[r]? = w.heap[r]?) : W.ownsRow B e 1 v n xs := by
  rcases h with ⟨h1, ⟨rfl, h2⟩ | ⟨g, cap, cur, rfl, hb, hg, rest⟩⟩
  · exact ⟨h1, .inl ⟨rfl, h2⟩⟩
  · exact ⟨h1, .inr ⟨g, cap, cur, rfl, hb, (hk g (by simp [Value.ownBlock])).trans hg, rest⟩⟩
theorem own_shape {w : World} {base e n : Nat} {v : Value} {xs : List Value} (h : w.ownsRow base e 1 v n xs) : ∃ o c, v = .slice o n c ∧ (0 < n → ∃ g, o = some ⟨g, 0, none⟩) := by
  rcases h.2 with ⟨rfl, rfl⟩ | ⟨g, cap, cur, rfl, _⟩
  · exact ⟨none, 0, rfl, fun h => absurd h (by omega)⟩
  · exact ⟨_, cap, rfl, fun _ => ⟨g, rfl⟩⟩
theorem own_type {w : World} {B e n r : Nat} {v : Value} {xs : List Value} (h : w.ownsRow B e 1 v n xs) (hr : v.ownBlock = some r) : ∃ c, w.heap[r]? = some (.cells c e (0, 0)) := by
  rcases h.2 with ⟨rfl, _⟩ | ⟨g, cap, cur, rfl, _, hg, _⟩
  · simp [Value.ownBlock] at hr
  · obtain rfl : g = r := by simpa [Value.ownBlock] using hr
    exact ⟨cur, hg⟩

/-- Between two rounds. -/
structure Held (B p : Nat) (w : World) (l : List ByteArray) (W : World) : Prop where
  box : ∃ v, W.heap[p]? = some (.cells #[v] 22 (0, 0)) ∧ W.ownsRow B 9 1 v l.length (l.map Value.string)
  below : Below w.heap.size w W

theorem Held.from {p : Nat} {w : World} {n : Nat} (hn : w.heap.size ≤ n) : OwnFrom n (Held w.heap.size p w) := fun s A B row h hg hr => by
  obtain ⟨v, hv, ho⟩ := h.box
  have hc : ∀ {q : Nat} {c : Array Value} {t : TypeId}, A.heap[q]? = some (.cells c t (0, 0)) → B.heap[q]? = A.heap[q]? := fun {q c t} hq => by
    refine hg.block q (Array.getElem?_eq_some_iff.1 hq).1 (fun e => ?_)
    obtain ⟨_, o, ho, hn⟩ := hr q e.symm
    rw [hq] at ho
    cases ho
    cases hn
  refine ⟨⟨v, (hc hv).trans hv, own_other ho (fun r hr' => ?_)⟩, h.below.grown hg h.below.size (fun k e => Nat.le_trans hn (hr k e).1)⟩
  obtain ⟨c, hcc⟩ := own_type ho hr'
  exact hc hcc

theorem infoStr : (Try.prog.info? 9).map (fun i => (i.zero, i.size, i.bytes)) = some (some (.string ⟨#[]⟩), 1, 16) := by kernel_rfl

set_option maxRecDepth 100000 in
set_option maxHeartbeats 2000000 in
theorem appendseq_any (m p a b : Nat) (x y : Int) (s : ByteArray) (hs : s.size ≤ 14400) (w : World) (hm : m < w.heap.size) (hp : p < w.heap.size) (ha : a < w.heap.size) (hb : b < w.heap.size)
    (xm : w.cell? ⟨m, 0, none⟩ = some (.int .i64 (manyN s.size : Nat))) (xp : w.cell? ⟨p, 0, none⟩ = some (.string s)) (xa : w.cell? ⟨a, 0, none⟩ = some (.int .i64 x)) (xb : w.cell? ⟨b, 0, none⟩ = some (.int .i64 y)) :
    Calls Try.prog 21 #[.slice none 0 0, .func (.func 22) #[] #[.pointer (some ⟨m, 0, none⟩), .pointer (some ⟨p, 0, none⟩), .pointer (some ⟨a, 0, none⟩), .pointer (some ⟨b, 0, none⟩)]] w fun e w' =>
      ∃ v, e = .returned v ∧ w'.ownsRow w.heap.size 9 1 v (manyN s.size) ((textsL x y s).map Value.string) ∧ Below w.heap.size w w' := by
  obtain ⟨i0, hi, hz0, hz1, hz2⟩ := info_parts infoStr
  have hseq := iter_stops 4 (by decide) m p a b x y s hs w hm hp ha hb xm xp xa xb
  have hM2 : manyN s.size ≤ 300 := by unfold manyN; omega
  have hlen : (textsL x y s).length = manyN s.size := by simp [textsL]
  refine (callsIn_wide (n := 5)).1 ?_
  refine callsIn_of_wp_marks Try.func21 rfl trivial ?_ rfl
  simp only [Try.ntmps21, List.size_toArray, List.length_cons, List.length_nil, Nat.reduceAdd, Nat.reduceSub, Array.replicate_succ, Array.replicate_zero, List.push_toArray, List.append_toArray, List.nil_append, List.cons_append]
  gi_wp2_with fail
  have h0 : Held w.heap.size w.heap.size w [] (w.alloc (.cells #[.slice none 0 0] 22)) := ⟨⟨_, World.alloc_heap_new w _, rfl, .inl ⟨rfl, rfl⟩⟩, below_alloc' (Below.refl _ _) _⟩
  refine wpIn_rangeFunc_ownF (α := ByteArray) (n := 5) rfl (by decide) (gf := 22) (lb := #[.pointer (some ⟨m, 0, none⟩), .pointer (some ⟨p, 0, none⟩), .pointer (some ⟨a, 0, none⟩), .pointer (some ⟨b, 0, none⟩)]) rfl trivial (enters_of Try.func22 (by kernel_rfl) rfl)
    hseq (fun h k => Old.trans h k) (fun W l o o' hl _ _ _ => fun j hj => World.putObj_heap_other (by simp at hl; omega)) (below_alloc' (Below.refl _ _) _) (fun _ => rfl)
    (fun pre W => Held w.heap.size w.heap.size w pre W)
    (fun _ _ _ => False)
    (Held.from (by simp))
    (fun _ _ _ _ _ hs _ _ => hs)
    h0
    (fun z => { tmps := #[.slice none 0 0, .func (.func 22) #[] #[.pointer (some ⟨m, 0, none⟩), .pointer (some ⟨p, 0, none⟩), .pointer (some ⟨a, 0, none⟩), .pointer (some ⟨b, 0, none⟩)], .pointer (some ⟨w.heap.size, 0, none⟩), undef, .slice none 0 0, .string z, .func (.func 22) #[] #[.pointer (some ⟨m, 0, none⟩), .pointer (some ⟨p, 0, none⟩), .pointer (some ⟨a, 0, none⟩), .pointer (some ⟨b, 0, none⟩)], .string z, undef, undef, undef, undef, undef], defers := [] }) ?assign ?body ?done ?stop
  case assign =>
    intro l z W K hK
    gi_wp2
    exact hK
  case body =>
    rintro l pre z W ⟨⟨v, hv, ho⟩, hB⟩ hpl
    obtain ⟨xv, fv⟩ := one_cell hv
    have hlt := (Array.getElem?_eq_some_iff.1 hv).1
    have hne : some w.heap.size ≠ v.ownBlock := fun e => by
      obtain ⟨c, hc⟩ := own_type ho e.symm
      rw [hv] at hc
      cases hc
    have hbs := hB.size
    clear hseq
    gi_wp2_with (gi_at_builtin; refine wpListIn_append_own _ rfl _ _ 22 rfl w.heap.size 9 i0 (.string ⟨#[]⟩) 1 16 Try.underlying22 hi hz0 hz1 hz2 rfl (by decide) _ _ _ rfl (ho.alloc _) ⟨W.heap.size, 0, none⟩ 1 1 [.string z] rfl rfl (cell_one_new _ _ _) (by simp [Value.oneCell']) (by unfold maxLen; omega) (by omega) (by simp; omega) ?_; intro v' w3 hown' hg3 hnil3
                 have hv3 : w3.heap[w.heap.size]? = some (.cells #[v] 22 (0, 0)) := (hg3.block _ (by simp; omega) hne).trans ((Below.heap_alloc _ _ _ hlt).trans hv)
                 obtain ⟨xv3, fv3⟩ := one_cell hv3
                 obtain ⟨o', k', rfl, _⟩ := own_shape hown'
                 go_frame)
    have hB3 : Below w.heap.size w w3 := (hB.alloc hB.size _).grown hg3 (by simp; omega) (fun k e => (ho.lt k e).1)
    have hB4 : Below w.heap.size w (w3.setCell ⟨w.heap.size, 0, none⟩ (.slice o' (pre.length + 1) k')) := hB3.setCell (p := ⟨w.heap.size, 0, none⟩) (Nat.le_refl _) _
    refine ⟨?_, fun j hj => (hB4.block j hj).trans (hB.block j hj).symm, ⟨⟨_, one_set hv3 _, ?_⟩, hB4⟩⟩
    · refine (KeepsOthers.trans ?_ (KeepsOthers.setCell _ _ _))
      refine ⟨Nat.le_trans (by simp) hg3.size, fun k o hk hn => ?_⟩
      have hkl := (Array.getElem?_eq_some_iff.1 hk).1
      refine (hg3.block k (by simp; omega) (fun e => ?_)).trans ((Below.heap_alloc _ _ _ hkl).trans hk)
      obtain ⟨c, hc⟩ := own_type ho e.symm
      rw [hk] at hc
      cases hc
      cases hn
    · rw [List.length_append, List.map_append]
      refine own_other hown' (fun r hr => Below.heap_setCell _ _ _ _ (fun e => ?_))
      obtain ⟨c, hc⟩ := own_type hown' hr
      rw [show r = w.heap.size from e] at hc
      rw [hv3] at hc
      cases hc
  case done =>
    rintro D ys W hD rfl ⟨⟨v, hv, ho⟩, hB⟩ hK
    obtain ⟨xv, fv⟩ := one_cell hv
    rw [hlen] at ho
    gi_wp2_with fail
    refine ⟨by simp, .inl ⟨_, _, rfl, run_takeDeferred hK, ?_⟩⟩
    refine ⟨_, results_tmp rfl _ _ _, v, rfl, own_other ho (fun r hr => ?_), hB.trans (belowK_b (w := w) (Nat.le_refl _) W D _ _ (by simp at hD; omega) hK rfl rfl)⟩
    refine World.putObj_heap_other (fun e => ?_)
    obtain ⟨c, hc⟩ := own_type ho hr
    rw [show r = D from e] at hc
    rw [hK] at hc
    cases hc
  case stop =>
    rintro D c pre W _ _ h _
    exact h.elim

end Go.Proofs.Ytaalfjngehlojaa
