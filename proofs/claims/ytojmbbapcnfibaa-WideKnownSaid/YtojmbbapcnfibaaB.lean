/- Walks: tables of package wide. -/
import Derived.Test.YtojmbbapcnfibaaA
import Derived.Deep.WholeRow
import Derived.Deep.DeepCutAuto
namespace Go.Proofs.Ytojmbbapcnfibaa
open Go.RowKit

def Z80 : Array Value := A64 (List.replicate 80 0)
theorem zero51 (w : World) : (zeroValue 51).run Try.prog w = .ok (.agg Z80) w := by kernel_rfl
theorem size51 : (Try.prog.info? 51).map (·.size) = some 80 := by kernel_rfl
theorem size33 : (Try.prog.info? 33).map (·.size) = some 8 := by kernel_rfl

theorem wp_of_run {P : Program} {o : Oper} {a : Act} {w w' : World} {K : Act → World → Prop} {Q : Exit → Act → World → Prop} {v : Value} (h : (execOp a.eval o).run P w = .ok (.value v) w') (hK : K (a.put o.dst v) w') : o.wp P a w K Q := by
  unfold Oper.wp; rw [h]; exact hK
theorem A64_one (l : List Int) : (A64 l).all (·.oneCell') = true := by
  rw [Array.all_eq_true_iff_forall_mem]
  intro v hv
  obtain ⟨x, _, rfl⟩ := List.mem_map.1 (List.mem_toArray.1 hv)
  rfl

theorem wpList_store_rowA {P : Program} {ops : Array Oper} {rest : List Oper} {o : Oper} {a : Act} {w : World} {Q : Exit → Act → World → Prop} (hgd : o.guard = none) (ty : TypeId) (x y : Operand) (ho : o.op = .store ty x y)
    (b t : Nat) (c c' : Array Value) (hx : a.eval x = .pointer (some ⟨b, 0, none⟩)) (hy : a.eval y = .agg c') (hg : w.heap[b]? = some (.cells c t (0, 0)))
    (hi : (P.info? ty).map (·.size) = some c'.size) (hs : c.size = c'.size) (h1 : c'.all (·.oneCell') = true)
    (h : wpList P ops Q rest (a.put o.dst undef) (w.setRow b c')) : wpList P ops Q (o :: rest) a w :=
  wpList_plain hgd fun _ hK => by
    unfold Oper.wp execOp
    simp only [ho, hx, hy, Instr.storeAt, Instr.sureAddr, Sem.run_bind, Sem.run_pure, Result.andThen_ok, run_storeVar_row w b t ty c c' hg hi hs h1]
    exact hK _ _ h

set_option maxRecDepth 1000000 in
set_option maxHeartbeats 4000000 in
theorem consts_any (w : World) :
    Calls Try.prog 26 #[] w fun e w' => e = .returned (.agg (A64 constsL)) ∧ w' = w.alloc (.cells (A64 constsL) 51) := by
  have hz := zero51
  go_enter Try.func26, Try.ntmps26
  go_upto_region 1 with fail
  refine wp_region_lit ?_
  refine wpList_plain rfl (fun K hK => wp_of_run (v := .agg (A64 constsL)) (w' := w.alloc (.cells Z80 51)) (by kernel_rfl) (hK _ _ ?_))
  refine wpList_store_rowA rfl 51 (.tmp 0) (.tmp 1) rfl w.heap.size 51 Z80 (A64 constsL) rfl rfl (heap_alloc_last _ _) (by rw [size51, A64_size]; rfl) (by unfold Z80; rw [A64_size, A64_size]; rfl) (A64_one _) ?_
  rw [World.setRow_alloc_new]
  generalize hK : A64 constsL = K
  go_wp2
  subst hK
  exact bodyPost_ret (v := .agg (A64 constsL)) (results_cell_row (w := w.alloc (.cells (A64 constsL) 51)) rfl _ w.heap.size 51 (A64 constsL) (0, 0) _ rfl (heap_alloc_last _ _) Try.underlying51 rfl (by rw [size51, A64_size]; rfl)) rfl ⟨rfl, rfl⟩
set_option maxHeartbeats 400000 in
theorem first_any (w : World) :
    Calls Try.prog 13 #[] w fun e w' => e = .returned (.agg (A64 firstL)) ∧ w' = w.alloc (.cells (A64 firstL) 33) := by
  go_enter Try.func13, Try.ntmps13
  go_wp2
  refine bodyPost_ret (v := .agg (A64 firstL)) (results_cell_row (w := w.alloc (.cells (A64 firstL) 33)) rfl _ w.heap.size 33 (A64 firstL) (0, 0) _ rfl (heap_alloc_last _ _) Try.underlying33 rfl (by rw [size33, A64_size]; rfl)) rfl ⟨rfl, rfl⟩

end Go.Proofs.Ytojmbbapcnfibaa
