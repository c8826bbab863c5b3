/- Walks: the document's numbers of four limbs. -/
import Derived.Test.YtojmbbapcnfibaaE
import Derived.Test.YtojmbbapcnfibaaR
import Derived.Test.YtojmbbapcnfibaaF
namespace Go.Proofs.Ytojmbbapcnfibaa
open Go.RowKit

theorem Row.new (W : World) (t : TypeId) (k : IntKind) (l : List Int) : Row (W.alloc (.cells (l.map (Value.int k)).toArray t)) W.heap.size t k l := ⟨heap_alloc_new _ _⟩
theorem addP_length (a b : List Int) (k : Nat) : (addP a b k).1.length = k := by
  induction k with
  | zero => rfl
  | succ k ih => simp [addP, ih]

set_option maxHeartbeats 800000 in
theorem add_any (a0 a1 a2 a3 b0 b1 b2 b3 r0 r1 r2 r3 c : Int) (h : addP [a0, a1, a2, a3] [b0, b1, b2, b3] 4 = ([r0, r1, r2, r3], c)) (w : World) :
    Calls Try.prog 31 #[.agg #[.int .u64 a0, .int .u64 a1, .int .u64 a2, .int .u64 a3], .agg #[.int .u64 b0, .int .u64 b1, .int .u64 b2, .int .u64 b3]] w fun e w' =>
      e = .returned (.tuple #[.agg #[.int .u64 r0, .int .u64 r1, .int .u64 r2, .int .u64 r3], .int .u64 c]) ∧ Below w.heap.size w w' := by
  have HH := Lib.hid h
  clear h
  go_enter Try.func31, Try.ntmps31
  go_wp2_with fail
  obtain ⟨W0, hW0⟩ : ∃ W0, W0 = (((w.alloc (.cells #[.int .u64 a0, .int .u64 a1, .int .u64 a2, .int .u64 a3] 42)).alloc (.cells #[.int .u64 b0, .int .u64 b1, .int .u64 b2, .int .u64 b3] 42)).alloc (.cells #[.int .u64 0, .int .u64 0, .int .u64 0, .int .u64 0] 42)).alloc (.cells #[.int .u64 0, .int .u64 0, .int .u64 0, .int .u64 0] 42) := ⟨_, rfl⟩
  have hra : Row W0 w.heap.size 42 .u64 [a0, a1, a2, a3] := by
    rw [hW0]; exact (((Row.new w 42 .u64 [a0, a1, a2, a3]).alloc _).alloc _).alloc _
  have hrb : Row W0 (w.heap.size + 1) 42 .u64 [b0, b1, b2, b3] := by
    rw [hW0]; have := (((Row.new (w.alloc (.cells #[.int .u64 a0, .int .u64 a1, .int .u64 a2, .int .u64 a3] 42)) 42 .u64 [b0, b1, b2, b3]).alloc (.cells #[.int .u64 0, .int .u64 0, .int .u64 0, .int .u64 0] 42)).alloc (.cells #[.int .u64 0, .int .u64 0, .int .u64 0, .int .u64 0] 42)); rw [World.size_alloc] at this; exact this
  have hrr : Row W0 (w.heap.size + 2) 42 .u64 [0, 0, 0, 0] := by
    rw [hW0]; have := (Row.new ((w.alloc (.cells #[.int .u64 a0, .int .u64 a1, .int .u64 a2, .int .u64 a3] 42)).alloc (.cells #[.int .u64 b0, .int .u64 b1, .int .u64 b2, .int .u64 b3] 42)) 42 .u64 [0, 0, 0, 0]).alloc (.cells #[.int .u64 0, .int .u64 0, .int .u64 0, .int .u64 0] 42); rw [World.size_alloc, World.size_alloc] at this; exact this
  have hro : Row W0 (w.heap.size + 3) 42 .u64 (fil [] 4) := by
    rw [hW0]; have := (Row.new (((w.alloc (.cells #[.int .u64 a0, .int .u64 a1, .int .u64 a2, .int .u64 a3] 42)).alloc (.cells #[.int .u64 b0, .int .u64 b1, .int .u64 b2, .int .u64 b3] 42)).alloc (.cells #[.int .u64 0, .int .u64 0, .int .u64 0, .int .u64 0] 42)) 42 .u64 [0, 0, 0, 0]); rw [World.size_alloc, World.size_alloc, World.size_alloc] at this; exact this
  have hB0 : Below w.heap.size w W0 := by
    rw [hW0]; exact below_alloc' (below_alloc' (below_alloc' (below_alloc' (Below.refl _ _) _) _) _) _
  rw [← hW0]
  clear hW0
  obtain ⟨la, hla⟩ : ∃ la, la = [a0, a1, a2, a3] := ⟨_, rfl⟩
  obtain ⟨lb, hlb⟩ : ∃ lb, lb = [b0, b1, b2, b3] := ⟨_, rfl⟩
  rw [← hla] at hra HH
  rw [← hlb] at hrb HH
  have hal : la.length = 4 := by rw [hla]; rfl
  have hbl : lb.length = 4 := by rw [hlb]; rfl
  clear hla hlb
  go_loopw [7, 8] (fun y i wr => ∃ k : Nat, k ≤ 4 ∧ i = .int .i64 k ∧ y = .int .u64 (addP la lb k).2 ∧ Row wr (w.heap.size + 3) 42 .u64 (fil (addP la lb k).1 4) ∧ Below (w.heap.size + 3) W0 wr) (fun _ i _ => 4 - (intOf i).toNat)
  case atStart => exact ⟨0, by omega, rfl, rfl, hro, Below.refl _ _⟩
  case round =>
    obtain ⟨k, hk, rfl, rfl, hR, hB⟩ := hrel
    clear hro
    have hpl := addP_length la lb k
    by_cases hlt : k < 4
    · have c1 := (hB.cell (p := ⟨w.heap.size, k, none⟩) (by simp)).trans (hra.cell k (by omega))
      have c2 := (hB.cell (p := ⟨w.heap.size + 1, k, none⟩) (by simp)).trans (hrb.cell k (by omega))
      have c3 := hR.cell k (by rw [fil_length _ _ (by omega)]; omega)
      have f3 := hR.frozen k
      have hset := fil_set (addP la lb k).1 4
      rw [hpl] at hset
      have hn : addP la lb (k + 1) = ((addP la lb k).1 ++ [IntKind.u64.wrap (IntKind.u64.wrap (la.getD k 0 + lb.getD k 0) + (addP la lb k).2)], if IntKind.u64.wrap (la.getD k 0 + lb.getD k 0) < la.getD k 0 ∨ IntKind.u64.wrap (IntKind.u64.wrap (la.getD k 0 + lb.getD k 0) + (addP la lb k).2) < IntKind.u64.wrap (la.getD k 0 + lb.getD k 0) then 1 else 0) := rfl
      obtain ⟨x, hx⟩ : ∃ x, x = la.getD k 0 := ⟨_, rfl⟩
      obtain ⟨y, hy⟩ : ∃ y, y = lb.getD k 0 := ⟨_, rfl⟩
      obtain ⟨p, hp⟩ : ∃ p, p = (addP la lb k).1 := ⟨_, rfl⟩
      obtain ⟨q, hq⟩ : ∃ q, q = (addP la lb k).2 := ⟨_, rfl⟩
      rw [← hx] at c1 hn
      rw [← hy] at c2 hn
      rw [← hp] at hset hn hR c3
      rw [← hq] at hn ⊢
      have HN := Lib.hid hn
      have HS := Lib.hid hset
      clear hx hy hp hq hn hset hpl
      have fin : ∀ (W : World) (m : Nat), W = (wr.drewN m).setCell ⟨w.heap.size + 3, k, none⟩ (.int .u64 (IntKind.u64.wrap (IntKind.u64.wrap (x + y) + q))) →
          Row W (w.heap.size + 3) 42 .u64 (fil (addP la lb (k + 1)).1 4) ∧ Below (w.heap.size + 3) W0 W := fun W m hW => by
        rw [hW, HN.out]
        refine ⟨?_, (below_drewN' hB m).setCell (p := ⟨w.heap.size + 3, k, none⟩) (Nat.le_refl _) _⟩
        rw [← HS.out _ (by omega)]
        exact (hR.drewN m).set k _
      have FIN := Lib.hid fin
      clear fin
      go_wp2_with fail
      go_quiet (fail)
      go_wp2
      all_goals go_roundw
      case rel => exact ⟨k + 1, by omega, by go_num, by rw [HN.out]; dsimp only; split <;> first | rfl | (exfalso; omega), (FIN.out _ nq rfl).1, (FIN.out _ nq rfl).2⟩
      case measure => simp [intOf]; omega
      all_goals (first | exact ⟨k + 1, by omega, by go_num, by rw [HN.out]; dsimp only; split <;> first | rfl | (exfalso; omega), (FIN.out _ nq rfl).1, (FIN.out _ nq rfl).2⟩ | (simp [intOf]; omega))
    · obtain rfl : k = 4 := by omega
      rw [HH.out] at hR ⊢
      replace hR : Row wr (w.heap.size + 3) 42 .u64 [r0, r1, r2, r3] := hR
      have hq := hrr.below hB (by omega)
      have x0 := hR.cell 0 (by simp)
      have x1 := hR.cell 1 (by simp)
      have x2 := hR.cell 2 (by simp)
      have x3 := hR.cell 3 (by simp)
      simp only [List.getD_cons_zero, List.getD_cons_succ] at x0 x1 x2 x3
      have f0 := hq.frozen 0
      have f1 := hq.frozen 1
      have f2 := hq.frozen 2
      have f3 := hq.frozen 3
      have g0 := hq.cell 0 (by simp)
      have g1 := hq.cell 1 (by simp)
      have g2 := hq.cell 2 (by simp)
      have g3 := hq.cell 3 (by simp)
      have hB' := hB0.trans (hB.mono (by omega))
      have hqs := (((hq.set 0 r0).set 1 r1).set 2 r2).set 3 r3
      go_wp2_with fail
      have z0 := hqs.cell 0 (by simp)
      have z1 := hqs.cell 1 (by simp)
      have z2 := hqs.cell 2 (by simp)
      have z3 := hqs.cell 3 (by simp)
      simp only [List.set_cons_zero, List.set_cons_succ, List.getD_cons_zero, List.getD_cons_succ] at z0 z1 z2 z3
      refine bodyPost_ret (v := .tuple #[.agg #[.int .u64 r0, .int .u64 r1, .int .u64 r2, .int .u64 r3], .int .u64 c]) ?_ rfl ⟨rfl, ?_⟩
      · simp [results, Try.results31, go_sem, z0, z1, z2, z3]
      exact (((hB'.setCell (p := ⟨w.heap.size + 2, 0, none⟩) (by simp) _).setCell (p := ⟨w.heap.size + 2, 1, none⟩) (by simp) _).setCell (p := ⟨w.heap.size + 2, 2, none⟩) (by simp) _).setCell (p := ⟨w.heap.size + 2, 3, none⟩) (by simp) _

end Go.Proofs.Ytojmbbapcnfibaa
