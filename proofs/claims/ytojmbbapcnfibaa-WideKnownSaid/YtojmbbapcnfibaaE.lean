/- Walks: behind a block. -/
import Derived.Test.YtojmbbapcnfibaaC
namespace Go.Proofs.Ytojmbbapcnfibaa
open Go.RowKit

theorem gate_store {P : Program} {ops : Array Oper} {rest : List Oper} {o : Oper} {a : Act} {w : World} {Q : Exit → Act → World → Prop} {ty : TypeId} {x y : Operand} (_ho : o.op = .store ty x y) (h : wpList P ops Q (o :: rest) a w) : wpList P ops Q (o :: rest) a w := h
theorem gate_load {P : Program} {ops : Array Oper} {rest : List Oper} {o : Oper} {a : Act} {w : World} {Q : Exit → Act → World → Prop} {ty : TypeId} {x : Operand} (_ho : o.op = .load ty x) (h : wpList P ops Q (o :: rest) a w) : wpList P ops Q (o :: rest) a w := h
theorem Row.setRow {W : World} {b t : Nat} {k : IntKind} {l : List Int} (h : Row W b t k l) (l' : List Int) : Row (W.setRow b (l'.map (Value.int k)).toArray) b t k l' :=
  ⟨setRow_heap W _ _ _ t _ h.out⟩
theorem Row.setRow_other {W : World} {b t : Nat} {k : IntKind} {l : List Int} (h : Row W b t k l) (g : Nat) (hg : b ≠ g) (c : Array Value) : Row (W.setRow g c) b t k l :=
  ⟨(Go.setRow_other W g b c hg).trans h.out⟩
theorem below_setRow {B : Nat} {w W : World} (h : Below B w W) (g : Nat) (hg : B ≤ g) (c : Array Value) : Below B w (W.setRow g c) :=
  h.trans ⟨rfl, rfl, rfl, by rw [size_setRow]; omega, fun k hk => Go.setRow_other W g k c (by omega)⟩

theorem quiet_add_left {P : Program} {f : FuncId} {args : Array Value} {w : World} {a n : Nat} {v : Value}
    (h : Calls P f args (w.drewN (a + n)) fun e w' => e = .returned v ∧ w.drewN (a + n) = w') :
    Calls P f args (w.drewN (a + n)) fun e w'' => e = .returned v ∧ ∃ m, w'' = w.drewN (a + m) :=
  h.mono fun _ _ ⟨he, hm⟩ => ⟨he, n, hm.symm⟩
theorem quiet_left {P : Program} {f : FuncId} {args : Array Value} {w : World} {n : Nat} {v : Value}
    (h : Calls P f args (w.drewN n) fun e w' => e = .returned v ∧ w.drewN n = w') : Calls P f args (w.drewN n) fun e w'' => e = .returned v ∧ ∃ m, w'' = w.drewN m :=
  h.mono fun _ _ ⟨he, hm⟩ => ⟨he, n, hm.symm⟩
theorem zip_get (l m : List Int) (j : Nat) (h1 : j < l.length) (h2 : j < m.length) : (sumsL l m).getD j 0 = IntKind.u64.wrap (l.getD j 0 + m.getD j 0) := by
  unfold sumsL
  rw [List.getD_eq_getElem?_getD, List.getD_eq_getElem?_getD, List.getD_eq_getElem?_getD, List.getElem?_eq_getElem h1, List.getElem?_eq_getElem h2, List.getElem?_eq_getElem (by simp; omega)]
  simp
def Z8 : Array Value := A64 (List.replicate 8 0)
set_option maxRecDepth 100000 in
set_option maxHeartbeats 1600000 in
theorem next_any (hl : List Int) (h8 : hl.length = 8) (s : ByteArray) (hs : s.size = 128) (w : World) :
    Calls Try.prog 15 #[.agg (A64 hl), .string s] w fun e w' => e = .returned (.agg (A64 (nextL hl s.data.toList))) ∧ Below w.heap.size w w' := by
  have hz := zero51
  go_enter Try.func15, Try.ntmps15
  go_wp2_with fail
  refine (consts_any _).mono ?_
  rintro e w1 ⟨rfl, rfl⟩
  go_wp2_with fail
  refine (row_any s hs _).mono ?_
  rintro e w2 ⟨rfl, hb2⟩
  have hpl := rowP_length s.data.toList 80
  obtain ⟨p, hp⟩ : ∃ p, p = rowP s.data.toList 80 := ⟨_, rfl⟩
  rw [← hp] at hpl
  have HPL := Lib.hid hpl
  have HP := Lib.hid hp
  simp only [← hp]
  clear hp hpl
  have hRh0 : Row w2 w.heap.size 33 .u64 hl := by
    refine ⟨(hb2.block _ (by simp <;> omega)).trans ?_⟩
    rw [Below.heap_alloc _ _ _ (by simp <;> omega), Below.heap_alloc _ _ _ (by simp <;> omega)]
    exact heap_alloc_new _ _
  have hRr0 : Row w2 (w.heap.size + 1) 33 .u64 [0, 0, 0, 0, 0, 0, 0, 0] := by
    refine ⟨(hb2.block _ (by simp <;> omega)).trans ?_⟩
    rw [Below.heap_alloc _ _ _ (by simp <;> omega)]
    have := heap_alloc_new (w.alloc (.cells (A64 hl) 33)) (.cells #[.int .u64 0, .int .u64 0, .int .u64 0, .int .u64 0, .int .u64 0, .int .u64 0, .int .u64 0, .int .u64 0] 33)
    rw [World.size_alloc] at this
    exact this
  have hB2 : Below w.heap.size w w2 := (below_alloc' (below_alloc' (below_alloc' (Below.refl _ _) _) _) _).trans (hb2.mono (by simp; omega))
  have hsz2 : w.heap.size + 2 < w2.heap.size := by have := hb2.size; simp at this; omega
  clear hb2
  go_upto_region 2 with (first
    | ((with_reducible refine gate_store (ty := 51) (x := .tmp 5) (y := .tmp 18) rfl ?_); refine wpList_store_rowA rfl 51 (.tmp 5) (.tmp 18) rfl w2.heap.size 51 Z80 (A64 constsL) rfl rfl (heap_alloc2_old _ _ _) (by rw [size51, A64_size]; rfl) (by unfold Z80; rw [A64_size, A64_size]; rfl) (A64_one _) ?_)
    | ((with_reducible refine gate_store (ty := 51) (x := .tmp 6) (y := .tmp 20) rfl ?_); refine wpList_store_rowA rfl 51 (.tmp 6) (.tmp 20) rfl (w2.heap.size + 1) 51 Z80 (A64 p) rfl rfl ((Go.setRow_other _ _ _ _ (by omega)).trans (heap_alloc2_new _ _ _)) (by rw [size51, A64_size, HPL.out]) (by unfold Z80; rw [A64_size, A64_size, HPL.out]; rfl) (A64_one _) ?_))
  obtain ⟨W3, hW3⟩ : ∃ W3, W3 = (((w2.alloc (.cells Z80 51)).alloc (.cells Z80 51)).setRow w2.heap.size (A64 constsL)).setRow (w2.heap.size + 1) (A64 p) := ⟨_, rfl⟩
  have hs3 : W3.heap.size = w2.heap.size + 2 := by rw [hW3]; simp
  have hB3 : Below w2.heap.size w2 W3 := by
    rw [hW3]
    exact below_setRow (below_setRow (below_alloc' (below_alloc' (Below.refl _ _) _) _) _ (Nat.le_refl _) _) _ (by omega) _
  have hRk : Row W3 w2.heap.size 51 .u64 constsL := by
    rw [hW3]
    exact ⟨(Go.setRow_other _ _ _ _ (by omega)).trans (setRow_heap _ _ _ _ 51 _ (heap_alloc2_old _ _ _))⟩
  have hRw : Row W3 (w2.heap.size + 1) 51 .u64 p := by
    rw [hW3]
    exact ⟨setRow_heap _ _ _ _ 51 _ ((Go.setRow_other _ _ _ _ (by omega)).trans (heap_alloc2_new _ _ _))⟩
  have hRh := hRh0.below hB3 hRh0.lt
  have hRr := hRr0.below hB3 hRr0.lt
  have hBW := below_trans' hB2 hB3
  rw [← hW3]
  clear hW3 hRh0 hRr0 hB2 hB3 hz
  refine wp_region_lit ?_
  refine wpList_load_row rfl 33 _ rfl w.heap.size rfl 33 (A64 hl) (0, 0) _ hRh.out Try.underlying33 rfl (by rw [size33, A64_size, h8]) ?_
  refine wpList_plain rfl (fun K hK => wp_of_run (v := .pointer (some ⟨W3.heap.size, 0, none⟩)) (w' := W3.alloc (.cells Z8 33)) (by kernel_rfl) (hK _ _ ?_))
  refine wpList_store_rowA rfl 33 (.tmp 7) (.tmp 21) rfl W3.heap.size 33 Z8 (A64 hl) rfl rfl (heap_alloc_new _ _) (by rw [size33, A64_size, h8]) (by unfold Z8; rw [A64_size, A64_size, h8]; rfl) (A64_one _) ?_
  have hb34 : Below W3.heap.size W3 ((W3.alloc (.cells Z8 33)).setRow W3.heap.size (A64 hl)) := below_setRow (below_alloc' (Below.refl _ _) _) _ (Nat.le_refl _) _
  have hRx : Row ((W3.alloc (.cells Z8 33)).setRow W3.heap.size (A64 hl)) W3.heap.size 33 .u64 hl := ⟨setRow_heap _ _ _ _ 33 _ (heap_alloc_new _ _)⟩
  generalize (W3.alloc (.cells Z8 33)).setRow W3.heap.size (A64 hl) = W4 at hb34 hRx ⊢
  have hRk4 := hRk.below hb34 hRk.lt
  have hRw4 := hRw.below hb34 hRw.lt
  have hRh4 := hRh.below hb34 hRh.lt
  have hRr4 := hRr.below hb34 hRr.lt
  have hBW4 := below_trans' hBW hb34
  obtain ⟨X, hX⟩ : ∃ X, X = W3.heap.size := ⟨_, rfl⟩
  obtain ⟨KB, hKB⟩ : ∃ KB, KB = w2.heap.size := ⟨_, rfl⟩
  rw [← hX] at hRx ⊢
  rw [← hKB] at hRk4 hRw4 hsz2 hs3 ⊢
  rw [← hX] at hs3
  have hXK : KB + 1 < X := by omega
  clear hRk hRw hRh hRr hBW hb34 hX hKB hs3
  refine wpList_nil ?_
  go_wp2_with fail
  obtain ⟨a0, b0, c0, d0, e0, f0, g0, i0, rfl⟩ := eight hl h8
  go_loopw [22] (fun t wr => ∃ (k : Nat) (a b c d e f g i : Int), k ≤ 80 ∧ t = .int .i64 k ∧ stepsL [a0, b0, c0, d0, e0, f0, g0, i0] p k = [a, b, c, d, e, f, g, i] ∧ Row wr X 33 .u64 [a, b, c, d, e, f, g, i] ∧ Below X W4 wr) (fun t _ => 80 - (intOf t).toNat)
  case atStart => exact ⟨0, a0, b0, c0, d0, e0, f0, g0, i0, by omega, rfl, rfl, hRx, Below.refl _ _⟩
  case round =>
    obtain ⟨k, a, b, c, d, e, f, g, i, hk, rfl, hst, hR, hB⟩ := hrel
    have HST := Lib.hid hst
    clear hst hRx
    by_cases hlt : k < 80
    · have x0 := hR.cell 0 (by simp)
      have x1 := hR.cell 1 (by simp)
      have x2 := hR.cell 2 (by simp)
      have x3 := hR.cell 3 (by simp)
      have x4 := hR.cell 4 (by simp)
      have x5 := hR.cell 5 (by simp)
      have x6 := hR.cell 6 (by simp)
      have x7 := hR.cell 7 (by simp)
      simp only [List.getD_cons_zero, List.getD_cons_succ] at x0 x1 x2 x3 x4 x5 x6 x7
      have ck := (hB.cell (p := ⟨KB, k, none⟩) (show KB < X by omega)).trans (hRk4.cell k hlt)
      have cw := (hB.cell (p := ⟨KB + 1, k, none⟩) hXK).trans (hRw4.cell k (by rw [HPL.out]; exact hlt))
      obtain ⟨kk, hkk⟩ : ∃ kk, kk = constsL.getD k 0 := ⟨_, rfl⟩
      obtain ⟨ww, hww⟩ : ∃ ww, ww = p.getD k 0 := ⟨_, rfl⟩
      rw [← hkk] at ck
      rw [← hww] at cw
      have HKW := Lib.hid (And.intro hkk hww)
      clear hkk hww
      go_wp2_with fail
      go_quiet (fail)
      go_wp2_with fail
      go_quiet ((go_at_call 28; exact quiet_add_left (rorZ _ _ (by decide) (by decide) _)))
      go_wp2_with (first | (go_at_call 28; refine (rorZ _ _ (by decide) (by decide) _).mono ?_; rintro e w1 ⟨rfl, rfl⟩) | ((with_reducible refine gate_store (ty := 33) (x := .tmp 7) (y := .tmp 98) rfl ?_); refine wpList_store_rowA rfl 33 (.tmp 7) (.tmp 98) rfl X 33 (A64 [a, b, c, d, e, f, g, i]) (A64 [IntKind.u64.wrap (uF e f g i kk ww + vF a b c), a, b, c, IntKind.u64.wrap (d + uF e f g i kk ww), e, f, g]) rfl rfl hR.out (by rw [size33, A64_size]; rfl) rfl (A64_one _) ?_))
      go_roundw
      case rel =>
        refine ⟨k + 1, _, _, _, _, _, _, _, _, by omega, by go_num, ?_, (hR.drewN _).setRow _, below_setRow (below_drewN' hB _) _ (Nat.le_refl _) _⟩
        show stepL (stepsL [a0, b0, c0, d0, e0, f0, g0, i0] p k) (constsL.getD k 0) (p.getD k 0) = _
        rw [HST.out, ← HKW.out.1, ← HKW.out.2]
        rfl
      case measure => simp [intOf]; omega
    · obtain rfl : k = 80 := by omega
      have hRh5 := hRh4.below hB (by omega)
      have hRr5 := hRr4.below hB (by omega)
      have hB5 : Below w.heap.size w wr := hBW4.trans (hB.mono (by omega))
      clear hRk4 hRw4 hRh4 hRr4 hBW4 hB
      go_wp2_with fail
      clear HPL
      go_loopw [100] (fun t wv => ∃ (m : Nat) (L : List Int), m ≤ 8 ∧ t = .int .i64 m ∧ L.length = 8 ∧ (∀ j, j < 8 → L.getD j 0 = if j < m then (sumsL [a0, b0, c0, d0, e0, f0, g0, i0] [a, b, c, d, e, f, g, i]).getD j 0 else [a0, b0, c0, d0, e0, f0, g0, i0].getD j 0) ∧ Row wv w.heap.size 33 .u64 L ∧ Row wv X 33 .u64 [a, b, c, d, e, f, g, i] ∧ Row wv (w.heap.size + 1) 33 .u64 [0, 0, 0, 0, 0, 0, 0, 0] ∧ Below w.heap.size w wv) (fun t _ => 8 - (intOf t).toNat)
      case atStart => exact ⟨0, [a0, b0, c0, d0, e0, f0, g0, i0], by omega, rfl, rfl, fun j _ => by rw [if_neg (by omega)], hRh5, hR, hRr5, hB5⟩
      case round =>
        obtain ⟨m, L, hm, rfl, hl, hL, hRL, hRX, hRR, hBv⟩ := hrel
        clear hRh5 hR hRr5 hB5
        have HL := Lib.hid hL
        have HLL := Lib.hid hl
        by_cases hml : m < 8
        · have ch := hRL.cell m (by omega)
          have fh := hRL.frozen m
          have cx := hRX.cell m (by simpa using hml)
          rw [hL m hml, if_neg (by omega)] at ch
          obtain ⟨u, hu⟩ : ∃ u, u = [a0, b0, c0, d0, e0, f0, g0, i0].getD m 0 := ⟨_, rfl⟩
          obtain ⟨v, hv⟩ : ∃ v, v = [a, b, c, d, e, f, g, i].getD m 0 := ⟨_, rfl⟩
          rw [← hu] at ch
          rw [← hv] at cx
          have hsum : (sumsL [a0, b0, c0, d0, e0, f0, g0, i0] [a, b, c, d, e, f, g, i]).getD m 0 = IntKind.u64.wrap (u + v) := by
            rw [hu, hv]
            exact zip_get _ _ m (by simpa using hml) (by simpa using hml)
          have HS := Lib.hid hsum
          clear hsum hu hv hL hl
          go_wp2_with fail
          go_region
          go_wp2
          go_roundw
          case rel =>
            refine ⟨m + 1, _, by omega, by go_num, by rw [List.length_set]; exact HLL.out, fun j hj => ?_, (hRL.set m (IntKind.u64.wrap (u + v))).drew, (hRX.other (show X ≠ w.heap.size by omega) _).drew, (hRR.other (show w.heap.size + 1 ≠ w.heap.size by omega) _).drew, (hBv.setCell (p := ⟨w.heap.size, m, none⟩) (Nat.le_refl _) _).drew⟩
            by_cases e1 : j = m
            · subst e1
              rw [if_pos (by omega), HS.out, List.getD_eq_getElem?_getD, List.getElem?_set_self (by rw [HLL.out]; exact hj)]; rfl
            · rw [List.getD_eq_getElem?_getD, List.getElem?_set_ne (by omega), ← List.getD_eq_getElem?_getD, HL.out j hj]
              by_cases e2 : j < m
              · rw [if_pos e2, if_pos (by omega)]
              · rw [if_neg e2, if_neg (by omega)]
          case measure => simp [intOf]; omega
        · have hfin : L = sumsL [a0, b0, c0, d0, e0, f0, g0, i0] [a, b, c, d, e, f, g, i] := by
            apply List.ext_getElem
            · rw [hl]; rfl
            · intro j h1 h2
              have := hL j (by omega)
              rw [if_pos (by omega), List.getD_eq_getElem?_getD, List.getD_eq_getElem?_getD, List.getElem?_eq_getElem h1, List.getElem?_eq_getElem h2] at this
              simpa using this
          have HFN := Lib.hid hfin
          clear hL hfin hl
          go_upto_region 16 with fail
          refine wp_region_lit ?_
          refine wpList_load_row rfl 33 _ rfl w.heap.size rfl 33 (A64 L) (0, 0) _ hRL.out Try.underlying33 rfl (by rw [size33, A64_size, HLL.out]) ?_
          refine wpList_store_rowA rfl 33 (.tmp 4) (.tmp 112) rfl (w.heap.size + 1) 33 _ (A64 L) rfl rfl hRR.out (by rw [size33, A64_size, HLL.out]) (by rw [A64_size, HLL.out]; rfl) (A64_one _) ?_
          have hR' : (wr.setRow (w.heap.size + 1) (A64 L)).heap[w.heap.size + 1]? = some (.cells (A64 L) 33 (0, 0)) := setRow_heap _ _ _ (A64 L) 33 _ hRR.out
          have hB' := below_setRow hBv (w.heap.size + 1) (by omega) (A64 L)
          generalize wr.setRow (w.heap.size + 1) (A64 L) = W9 at hR' hB' ⊢
          refine wpList_nil ?_
          go_wp2
          refine bodyPost_ret (v := .agg (A64 L)) (results_cell_row (w := W9) rfl _ (w.heap.size + 1) 33 (A64 L) (0, 0) _ rfl hR' Try.underlying33 rfl (by rw [size33, A64_size, HLL.out])) rfl ⟨?_, hB'⟩
          rw [HFN.out, ← HST.out, HP.out]
          rfl

end Go.Proofs.Ytojmbbapcnfibaa
