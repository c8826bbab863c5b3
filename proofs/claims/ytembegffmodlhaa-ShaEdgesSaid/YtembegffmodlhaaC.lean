/- Walks: the row of a block. -/
import Derived.Test.YtembegffmodlhaaB
namespace Go.Proofs.Ytembegffmodlhaa
open Go.RowKit

theorem bigF_snoc (l : List UInt8) (c : UInt8) : bigF (l ++ [c]) = Go.bits .or .u64 (IntKind.u64.wrap (bigF l * 256)) c.toNat := by
  simp [bigF, List.foldl_append]
theorem getD_byte (s : ByteArray) (k : Nat) (h : k < s.size) : s.data.toList.getD k 0 = s[k] := by
  simp [List.getD_eq_getElem?_getD, h]; rfl
theorem Row.of64 (W : World) : Row (W.alloc (.cells Z64 64)) W.heap.size 64 .u32 (fil [] 64) := by
  refine ⟨?_⟩
  rw [heap_alloc_new]
  rfl
theorem below_bytes {B : Nat} {w W : World} (h : Below B w W) (hB : B ≤ W.heap.size) (s : ByteArray) (e : TypeId) : Below B w (Lib.bytesWorld W e s) :=
  h.trans ⟨rfl, rfl, rfl, by rw [Lib.bytesWorld_size]; omega, fun k hk => Lib.bytesWorld_at_old _ _ _ _ (by omega)⟩
theorem Row.bytes {W : World} {b t : Nat} {k : IntKind} {l : List Int} (h : Row W b t k l) (s : ByteArray) (e : TypeId) : Row (Lib.bytesWorld W e s) b t k l :=
  ⟨(Lib.bytesWorld_at_old _ _ _ _ h.lt).trans h.out⟩

theorem or_add (i : Nat) (x y : Int) (hx0 : 0 ≤ x) (hx : x % 2 ^ i = 0) (hx1 : x < 4294967296) (hy0 : 0 ≤ y) (hy : y < 2 ^ i) (hy1 : y < 4294967296) : Go.bits .or .u32 x y = x + y :=
  bits_join .u32 32 (by decide) (fun n h0 h1 => by rw [IntKind.wrap_u32]; omega) i x y hx0 hx hx1 hy0 hy hy1
theorem be4_or (a b c d : Int) (a0 : 0 ≤ a) (a1 : a < 256) (b0 : 0 ≤ b) (b1 : b < 256) (c0 : 0 ≤ c) (c1 : c < 256) (d0 : 0 ≤ d) (d1 : d < 256) :
    Go.bits .or .u32 (Go.bits .or .u32 (Go.bits .or .u32 (a * 16777216) (b * 65536)) (c * 256)) d = a * 16777216 + b * 65536 + c * 256 + d := by
  rw [or_add 24 (a * 16777216) (b * 65536) (by omega) (by omega) (by omega) (by omega) (by omega) (by omega),
    or_add 16 _ (c * 256) (by omega) (by omega) (by omega) (by omega) (by omega) (by omega),
    or_add 8 _ d (by omega) (by omega) (by omega) (by omega) (by omega) (by omega)]

set_option maxRecDepth 100000 in
set_option maxHeartbeats 1600000 in
theorem row_any (s : ByteArray) (hs : s.size = 64) (w : World) :
    Calls Try.prog 36 #[.string s] w fun e w' => e = .returned (.agg (A32 (rowP s.data.toList 64))) ∧ Below w.heap.size w w' := by
  have hz := zero64
  have hs' : (s.size : Int) = 64 := by omega
  clear hs
  go_enter Try.func36, Try.ntmps36
  go_wp2_with fail
  have hR0 := Row.of64 w
  have hB0 : Below w.heap.size w (w.alloc (.cells Z64 64)) := (Below.refl _ _).alloc (Nat.le_refl _) _
  clear hz
  go_loopw [8] (fun i wr => ∃ k : Nat, k ≤ 64 ∧ i = .int .i64 k ∧ Row wr w.heap.size 64 .u32 (fil (rowP s.data.toList k) 64) ∧ Below w.heap.size w wr) (fun i _ => 64 - (intOf i).toNat)
  case atStart => exact ⟨0, by omega, rfl, hR0, hB0⟩
  case round =>
    obtain ⟨k, hk, rfl, hR, hB⟩ := hrel
    clear hR0 hB0
    by_cases hlt : k < 64
    · by_cases h16 : k < 16
      · have hp := rowP_length s.data.toList k
        have hset := fil_set (rowP s.data.toList k) 64 (be4 s.data.toList (4 * k)) (by omega)
        rw [hp] at hset
        have hfin : rowP s.data.toList (k + 1) = rowP s.data.toList k ++ [be4 s.data.toList (4 * k)] := by
          show _ ++ [nextW s.data.toList (rowP s.data.toList k) k] = _
          unfold nextW
          rw [if_pos h16]
        have ck := hR.cell k (by rw [fil_length _ _ (by omega)]; omega)
        have fk := hR.frozen k
        have hix : ∀ (j : Nat) (_ : j < 4) (w : World), (Instr.index 9 (.string s) (.int .i64 (4 * (k : Int) + j))).run Try.prog w = .ok (.int .u8 (s.data.toList.getD (4 * k + j) 0).toNat) w := fun j hj w => by
          have h1 := run_index_string (P := Try.prog) (w := w) 9 s .i64 (4 * (k : Int) + j) Try.underlying9
          rw [h1, dif_pos ⟨by omega, by omega⟩, getD_byte s (4 * k + j) (by omega)]
          have e : (4 * (k : Int) + j).toNat = 4 * k + j := by omega
          simp only [e]
        have i0 : ∀ w, (Instr.index 9 (.string s) (.int .i64 (4 * (k : Int)))).run Try.prog w = .ok (.int .u8 (s.data.toList.getD (4 * k + 0) 0).toNat) w := fun w => by have := hix 0 (by decide) w; simpa using this
        have i1 : ∀ w, (Instr.index 9 (.string s) (.int .i64 (4 * (k : Int) + 1))).run Try.prog w = .ok (.int .u8 (s.data.toList.getD (4 * k + 1) 0).toNat) w := fun w => hix 1 (by decide) w
        have i2 : ∀ w, (Instr.index 9 (.string s) (.int .i64 (4 * (k : Int) + 2))).run Try.prog w = .ok (.int .u8 (s.data.toList.getD (4 * k + 2) 0).toNat) w := fun w => hix 2 (by decide) w
        have i3 : ∀ w, (Instr.index 9 (.string s) (.int .i64 (4 * (k : Int) + 3))).run Try.prog w = .ok (.int .u8 (s.data.toList.getD (4 * k + 3) 0).toNat) w := fun w => hix 3 (by decide) w
        obtain ⟨x0, hx0⟩ : ∃ x, x = s.data.toList.getD (4 * k + 0) 0 := ⟨_, rfl⟩
        obtain ⟨x1, hx1⟩ : ∃ x, x = s.data.toList.getD (4 * k + 1) 0 := ⟨_, rfl⟩
        obtain ⟨x2, hx2⟩ : ∃ x, x = s.data.toList.getD (4 * k + 2) 0 := ⟨_, rfl⟩
        obtain ⟨x3, hx3⟩ : ∃ x, x = s.data.toList.getD (4 * k + 3) 0 := ⟨_, rfl⟩
        simp only [← hx0, ← hx1, ← hx2, ← hx3] at i0 i1 i2 i3
        have hv : be4 s.data.toList (4 * k) = Go.bits .or .u32 (Go.bits .or .u32 (Go.bits .or .u32 ((x0.toNat : Int) * 16777216) ((x1.toNat : Int) * 65536)) ((x2.toNat : Int) * 256)) (x3.toNat : Int) := by
          have := x0.toNat_lt; have := x1.toNat_lt; have := x2.toNat_lt; have := x3.toNat_lt
          rw [be4_or _ _ _ _ (by omega) (by omega) (by omega) (by omega) (by omega) (by omega) (by omega) (by omega), hx0, hx1, hx2, hx3]
          rfl
        have q0 := x0.toNat_lt
        have q1 := x1.toNat_lt
        have q2 := x2.toNat_lt
        have q3 := x3.toNat_lt
        have HF := Lib.hid hfin
        have HS := Lib.hid hset
        have HV := Lib.hid hv
        clear hp hset hfin hix hx0 hx1 hx2 hx3 hv
        have w4 : IntKind.i64.wrap (4 * (k : Int)) = 4 * (k : Int) := by rw [IntKind.wrap_i64]; omega
        have w5 : IntKind.i64.wrap (4 * (k : Int) + 1) = 4 * (k : Int) + 1 := by rw [IntKind.wrap_i64]; omega
        have w6 : IntKind.i64.wrap (4 * (k : Int) + 2) = 4 * (k : Int) + 2 := by rw [IntKind.wrap_i64]; omega
        have w7 : IntKind.i64.wrap (4 * (k : Int) + 3) = 4 * (k : Int) + 3 := by rw [IntKind.wrap_i64]; omega
        go_wp2_with fail
        go_region
        go_wp2
        go_roundw
        case rel =>
          refine ⟨k + 1, by omega, by go_num, ?_, (hB.setCell (p := ⟨w.heap.size, k, none⟩) (Nat.le_refl _) _).drew⟩
          rw [HF.out, ← HS.out, HV.out]
          exact (hR.set k _).drew
        case measure => simp [intOf]; omega
      · have hp := rowP_length s.data.toList k
        have hg : ∀ j, j < k → wr.cell? ⟨w.heap.size, j, none⟩ = some (.int .u32 ((rowP s.data.toList k).getD j 0)) := fun j hj => by
          rw [hR.cell j (by rw [fil_length _ _ (by omega)]; omega), fil_get _ _ _ (by omega)]
        have hfin : rowP s.data.toList (k + 1) = rowP s.data.toList k ++ [nextW s.data.toList (rowP s.data.toList k) k] := rfl
        have hset := fun v => fil_set (rowP s.data.toList k) 64 v (by omega)
        rw [hp] at hset
        have h16' : (16 : Int) ≤ (k : Int) := by omega
        unfold nextW at hfin
        rw [if_neg h16] at hfin
        have c15 := hg (k - 15) (by omega)
        have c2 := hg (k - 2) (by omega)
        have c16 := hg (k - 16) (by omega)
        have c7 := hg (k - 7) (by omega)
        have ck := hR.cell k (by rw [fil_length _ _ (by omega)]; omega)
        have fk := hR.frozen k
        obtain ⟨a, ha⟩ : ∃ a, a = (rowP s.data.toList k).getD (k - 15) 0 := ⟨_, rfl⟩
        obtain ⟨b, hb⟩ : ∃ b, b = (rowP s.data.toList k).getD (k - 2) 0 := ⟨_, rfl⟩
        obtain ⟨c, hc⟩ : ∃ c, c = (rowP s.data.toList k).getD (k - 16) 0 := ⟨_, rfl⟩
        obtain ⟨d, hd⟩ : ∃ d, d = (rowP s.data.toList k).getD (k - 7) 0 := ⟨_, rfl⟩
        rw [← ha] at c15 hfin
        rw [← hb] at c2 hfin
        rw [← hc] at c16 hfin
        rw [← hd] at c7 hfin
        have HF := Lib.hid hfin
        have HS := Lib.hid hset
        clear hg hp hset hfin ha hb hc hd h16
        go_wp2_with fail
        go_quiet (fail)
        go_wp2_with (go_at_call 37; refine (rorZ _ _ (by decide) (by decide) _).mono ?_; rintro e w1 ⟨rfl, rfl⟩)
        go_region
        go_wp2
        go_roundw
        case rel =>
          refine ⟨k + 1, by omega, by go_num, ?_, ((below_drewN' hB nq).setCell (p := ⟨w.heap.size, k, none⟩) (Nat.le_refl _) _).drew⟩
          rw [HF.out, ← HS.out]
          exact ((hR.drewN nq).set k _).drew
        case measure => simp [intOf]; omega
    · obtain rfl : k = 64 := by omega
      have hp := rowP_length s.data.toList 64
      rw [fil_full _ _ hp] at hR
      obtain ⟨p, hpp⟩ : ∃ p, p = rowP s.data.toList 64 := ⟨_, rfl⟩
      rw [← hpp] at hp hR
      have HP := Lib.hid hp
      have HPP := Lib.hid hpp
      clear hp hpp
      go_upto_region 11 with fail
      refine wp_region_lit ?_
      refine wpList_load_row rfl 64 _ rfl w.heap.size rfl 64 (A32 p) (0, 0) _ hR.out Try.underlying64 rfl (by rw [size64, A32_size, HP.out]) ?_
      refine wpList_store_rowA rfl 64 (.tmp 2) (.tmp 84) rfl w.heap.size 64 (A32 p) (A32 p) rfl rfl hR.out (by rw [size64, A32_size, HP.out]) rfl (A32_one _) ?_
      have hR' : (wr.setRow w.heap.size (A32 p)).heap[w.heap.size]? = some (.cells (A32 p) 64 (0, 0)) := setRow_heap wr _ (A32 p) (A32 p) 64 _ hR.out
      have hB' : Below w.heap.size w (wr.setRow w.heap.size (A32 p)) := hB.trans ⟨rfl, rfl, rfl, by rw [size_setRow]; omega, fun k hk => setRow_other wr _ _ _ (by omega)⟩
      generalize wr.setRow w.heap.size (A32 p) = W2 at hR' hB' ⊢
      refine wpList_nil ?_
      go_wp2
      refine bodyPost_ret (v := .agg (A32 p)) (results_cell_row (w := W2) rfl _ w.heap.size 64 (A32 p) (0, 0) _ rfl hR' Try.underlying64 rfl (by rw [size64, A32_size, HP.out])) rfl ⟨by rw [HPP.out], hB'⟩

end Go.Proofs.Ytembegffmodlhaa
