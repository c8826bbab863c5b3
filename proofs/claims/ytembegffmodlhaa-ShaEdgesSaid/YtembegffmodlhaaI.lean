/- Walks: the blocks of a state, as bytes come. -/
import Derived.Test.YtembegffmodlhaaE
import Derived.Test.YtembegffmodlhaaN
import Derived.Lib.AppendStr
import Derived.Deep.RegionLaw
import Derived.RangeFuncNested
import Derived.RangeFuncBound
import Derived.RangeFuncCalls
import Derived.RangeFuncLeaves
import Derived.Shelf.Abstract
import Derived.Shelf.RegionOpen
import Derived.OwnWalkIn
import Derived.TacticsInMore
import Derived.LoopNIn
import Derived.LoopIn
import Derived.Stop.RegionWithIn
namespace Go.Proofs.Ytembegffmodlhaa
open Go.RowKit Go.Shelf
attribute [local go_sem] Oper.semAt_some

/-- Block b is a state: eight numbers, what is left, how many came. -/
structure St (W : World) (b : Nat) (h : List Int) (v : Value) (n : Int) : Prop where
  mk :: (out : W.heap[b]? = some (.cells ((h.map (Value.int .u32)) ++ [v, .int .i64 n]).toArray 52 (0, 0)))
theorem St.lt {W : World} {b : Nat} {h : List Int} {v : Value} {n : Int} (s : St W b h v n) : b < W.heap.size := (Array.getElem?_eq_some_iff.1 s.out).1
theorem St.of_block {W W' : World} {b : Nat} {h : List Int} {v : Value} {n : Int} (s : St W b h v n) (e : W'.heap[b]? = W.heap[b]?) : St W' b h v n := ⟨e.trans s.out⟩
theorem St.below {B : Nat} {W W' : World} {b : Nat} {h : List Int} {v : Value} {n : Int} (s : St W b h v n) (hB : Below B W W') (hb : b < B) : St W' b h v n := s.of_block (hB.block b hb)
theorem St.drewN {W : World} {b : Nat} {h : List Int} {v : Value} {n : Int} (s : St W b h v n) (k : Nat) : St (W.drewN k) b h v n := ⟨s.out⟩
theorem St.drew {W : World} {b : Nat} {h : List Int} {v : Value} {n : Int} (s : St W b h v n) : St W.drew b h v n := ⟨s.out⟩
theorem St.other {W : World} {b : Nat} {h : List Int} {v : Value} {n : Int} (s : St W b h v n) {a : Addr} (ha : b ≠ a.block) (u : Value) : St (W.setCell a u) b h v n := s.of_block (Below.heap_setCell _ _ _ _ ha)
theorem St.grown {A B : World} {row : Option Nat} {b : Nat} {h : List Int} {v : Value} {n : Int} (s : St A b h v n) (hg : A.grownBy B row) (hr : row ≠ some b) : St B b h v n := s.of_block (hg.block b s.lt (fun e => hr e.symm))
theorem St.cell {W : World} {b : Nat} {h : List Int} {v : Value} {n : Int} (s : St W b h v n) (j : Nat) : W.cell? ⟨b, j, none⟩ = ((h.map (Value.int .u32)) ++ [v, .int .i64 n])[j]? := by
  simp [World.cell?, s.out]
theorem St.frozen {W : World} {b : Nat} {h : List Int} {v : Value} {n : Int} (s : St W b h v n) (j : Nat) : W.frozen? ⟨b, j, none⟩ = false := by
  simp [World.frozen?, s.out]
theorem St.setV {W : World} {b : Nat} {h : List Int} {v : Value} {n : Int} (s : St W b h v n) (h8 : h.length = 8) (u : Value) : St (W.setCell ⟨b, 8, none⟩ u) b h u n := by
  obtain ⟨a0, a1, a2, a3, a4, a5, a6, a7, rfl⟩ := eight h h8
  refine ⟨?_⟩
  have := s.out
  simp only [World.setCell, Array.getElem?_modify, this]
  simp
theorem St.setN {W : World} {b : Nat} {h : List Int} {v : Value} {n : Int} (s : St W b h v n) (h8 : h.length = 8) (m : Int) : St (W.setCell ⟨b, 9, none⟩ (.int .i64 m)) b h v m := by
  obtain ⟨a0, a1, a2, a3, a4, a5, a6, a7, rfl⟩ := eight h h8
  refine ⟨?_⟩
  have := s.out
  simp only [World.setCell, Array.getElem?_modify, this]
  simp
theorem St.setH {W : World} {b : Nat} {h : List Int} {v : Value} {n : Int} (s : St W b h v n) (j : Nat) (hj : j < h.length) (x : Int) : St (W.setCell ⟨b, j, none⟩ (.int .u32 x)) b (h.set j x) v n := by
  refine ⟨?_⟩
  have := s.out
  simp only [World.setCell, Array.getElem?_modify, this]
  simp [List.map_set, hj]
theorem St.cells8 {W : World} {b : Nat} {h : List Int} {v : Value} {n : Int} {a0 a1 a2 a3 a4 a5 a6 a7 : Int} (s : St W b h v n) (hl : h = [a0, a1, a2, a3, a4, a5, a6, a7]) :
    W.cell? ⟨b, 0, none⟩ = some (.int .u32 a0) ∧ W.cell? ⟨b, 1, none⟩ = some (.int .u32 a1) ∧ W.cell? ⟨b, 2, none⟩ = some (.int .u32 a2) ∧ W.cell? ⟨b, 3, none⟩ = some (.int .u32 a3) ∧ W.cell? ⟨b, 4, none⟩ = some (.int .u32 a4) ∧ W.cell? ⟨b, 5, none⟩ = some (.int .u32 a5) ∧ W.cell? ⟨b, 6, none⟩ = some (.int .u32 a6) ∧ W.cell? ⟨b, 7, none⟩ = some (.int .u32 a7) ∧ W.cell? ⟨b, 8, none⟩ = some v ∧ W.cell? ⟨b, 9, none⟩ = some (.int .i64 n) := by
  subst hl
  exact ⟨s.cell 0, s.cell 1, s.cell 2, s.cell 3, s.cell 4, s.cell 5, s.cell 6, s.cell 7, s.cell 8, s.cell 9⟩
theorem St.cellV {W : World} {b : Nat} {h : List Int} {v : Value} {n : Int} (s : St W b h v n) (h8 : h.length = 8) : W.cell? ⟨b, 8, none⟩ = some v := by
  obtain ⟨a0, a1, a2, a3, a4, a5, a6, a7, rfl⟩ := eight h h8
  exact s.cell 8
theorem St.cellN {W : World} {b : Nat} {h : List Int} {v : Value} {n : Int} (s : St W b h v n) (h8 : h.length = 8) : W.cell? ⟨b, 9, none⟩ = some (.int .i64 n) := by
  obtain ⟨a0, a1, a2, a3, a4, a5, a6, a7, rfl⟩ := eight h h8
  exact s.cell 9
theorem one_cell {W : World} {p t : Nat} {v : Value} (h : W.heap[p]? = some (.cells #[v] t (0, 0))) : W.cell? ⟨p, 0, none⟩ = some v ∧ W.frozen? ⟨p, 0, none⟩ = false := by
  simp [World.cell?, World.frozen?, h]
theorem one_set {W : World} {p t : Nat} {v : Value} (h : W.heap[p]? = some (.cells #[v] t (0, 0))) (u : Value) : (W.setCell ⟨p, 0, none⟩ u).heap[p]? = some (.cells #[u] t (0, 0)) := by
  simp only [World.setCell, Array.getElem?_modify, h]
  simp
theorem ne_of_type {W : World} {p q : Nat} {c d : Array Value} {t u : TypeId} {f g : Nat × Nat} (h : W.heap[p]? = some (.cells c t f)) (k : W.heap[q]? = some (.cells d u g)) (hn : t ≠ u) : p ≠ q := by
  rintro rfl
  rw [h] at k
  cases k
  exact hn rfl
theorem own_block {w : World} {B e n : Nat} {v : Value} {xs : List Value} (h : w.ownsRow B e 1 v n xs) (r : Nat) (hr : v.ownBlock = some r) : ∃ c, w.heap[r]? = some (.cells c e (0, 0)) := by
  rcases h.2 with ⟨rfl, _⟩ | ⟨g, cap, cur, rfl, hb, hg, _⟩
  · simp [Value.ownBlock] at hr
  · simp [Value.ownBlock] at hr
    subst hr
    exact ⟨_, hg⟩
theorem own_other {w W : World} {B e n : Nat} {v : Value} {xs : List Value} (h : w.ownsRow B e 1 v n xs) (hk : ∀ r, v.ownBlock = some r → W.heap[r]? = w.heap[r]?) : W.ownsRow B e 1 v n xs := by
  rcases h with ⟨h1, ⟨rfl, h2⟩ | ⟨g, cap, cur, rfl, hb, hg, rest⟩⟩
  · exact ⟨h1, .inl ⟨rfl, h2⟩⟩
  · exact ⟨h1, .inr ⟨g, cap, cur, rfl, hb, (hk g (by simp [Value.ownBlock])).trans hg, rest⟩⟩
theorem own_cut {w : World} {B e n c : Nat} {g : Nat} {xs : List Value} (h : w.ownsRow B e 1 (.slice (some ⟨g, 0, none⟩) n c) n xs) : w.ownsRow B e 1 (.slice (some ⟨g, 0, none⟩) 0 c) 0 [] := by
  rcases h.2 with ⟨h', _⟩ | ⟨g', cap, cur, hv, hb, hg, hnc, hcm, hcs, ht⟩
  · simp at h'
  · simp only [Value.slice.injEq, Option.some.injEq, Addr.mk.injEq, and_true, true_and] at hv
    obtain ⟨rfl, rfl⟩ := hv
    exact ⟨by simp, .inr ⟨g, c, cur, rfl, hb, hg, Nat.zero_le _, hcm, hcs, by simp⟩⟩

/-- A piece that comes to one end, whatever its way. -/
theorem wp_via {P : Program} {c : Code} {Q : Exit → Act → World → Prop} {a a' : Act} {w : World} (w' : World)
    (h : c.wp P (fun e x y => match e with | .normal => x = a' ∧ y = w' | _ => False) a w) (hq : Q .normal a' w') : c.wp P Q a w :=
  wp_mono h fun e x y he => by
    cases e with
    | normal => obtain ⟨rfl, rfl⟩ := he; exact hq
    | _ => exact he.elim
/-- append(.., s...), s a string, as a step of a region that draws its order. -/
theorem step_append_str {P : Program} {ops : Array Oper} {o : Oper} {a : Act} {w : World} {K : Act → World → Prop} {Q : Exit → Act → World → Prop} {E : Prop}
    (hg : o.guard = none) (sl x : Operand) (t u : TypeId) (hop : o.op = Op.call { callee := Callee.builtin Builtin.append, args := #[sl, x], argTypes := #[t, u] })
    (v : Value) (s : ByteArray) (hs : a.eval sl = v) (hx : a.eval x = .string s) (v' : Value) (w' : World) (hrun : (Builtin.append_ #[t, u] o.type #[v, .string s]).run P w = .ok v' w')
    (hK : K (a.put o.dst v') w') : if Region.wanted o (yielded ops a.tmps) = true then Oper.wp P o a w K Q else E := by
  have hw : Region.wanted o (yielded ops a.tmps) = true := by simp [Region.wanted, hg]
  rw [if_pos hw]
  unfold Oper.wp
  simp [execOp, hop, resolve, invoke, builtin, hs, hx, hrun, Result.andThen]
  exact hK

end Go.Proofs.Ytembegffmodlhaa
