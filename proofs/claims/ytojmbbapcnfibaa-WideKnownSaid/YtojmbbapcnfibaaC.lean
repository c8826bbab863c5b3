/- Walks: the row of a block. -/
import Derived.Test.YtojmbbapcnfibaaB
namespace Go.Proofs.Ytojmbbapcnfibaa
open Go.RowKit

theorem bigF_snoc (l : List UInt8) (c : UInt8) : bigF (l ++ [c]) = Go.bits .or .u64 (IntKind.u64.wrap (bigF l * 256)) c.toNat := by
  simp [bigF, List.foldl_append]
theorem getD_byte (s : ByteArray) (k : Nat) (h : k < s.size) : s.data.toList.getD k 0 = s[k] := by
  simp [List.getD_eq_getElem?_getD, h]; rfl
theorem Row.of80 (W : World) : Row (W.alloc (.cells Z80 51)) W.heap.size 51 .u64 (fil [] 80) := by
  refine ⟨?_⟩
  rw [heap_alloc_new]
  rfl
theorem below_bytes {B : Nat} {w W : World} (h : Below B w W) (hB : B ≤ W.heap.size) (s : ByteArray) (e : TypeId) : Below B w (Lib.bytesWorld W e s) :=
  h.trans ⟨rfl, rfl, rfl, by rw [Lib.bytesWorld_size]; omega, fun k hk => Lib.bytesWorld_at_old _ _ _ _ (by omega)⟩
theorem Row.bytes {W : World} {b t : Nat} {k : IntKind} {l : List Int} (h : Row W b t k l) (s : ByteArray) (e : TypeId) : Row (Lib.bytesWorld W e s) b t k l :=
  ⟨(Lib.bytesWorld_at_old _ _ _ _ h.lt).trans h.out⟩

set_option maxRecDepth 100000 in
set_option maxHeartbeats 1600000 in
theorem row_any (s : ByteArray) (hs : s.size = 128) (w : World) :
    Calls Try.prog 27 #[.string s] w fun e w' => e = .returned (.agg (A64 (rowP s.data.toList 80))) ∧ Below w.heap.size w w' := by
  have hz := zero51
  have hconv := fun (w : World) (x : ByteArray) => Lib.run_convert_string_bytes (P := Try.prog) w 9 29 5 x Try.underlying9 Try.underlying29 Try.underlying5
  have hs' : (s.size : Int) = 128 := by omega
  clear hs
  go_enter Try.func27, Try.ntmps27
  go_wp2_with fail
  have hR0 := Row.of80 w
  have hB0 : Below w.heap.size w (w.alloc (.cells Z80 51)) := (Below.refl _ _).alloc (Nat.le_refl _) _
  clear hz
  go_loopw [10] (fun i wr => ∃ k : Nat, k ≤ 80 ∧ i = .int .i64 k ∧ Row wr w.heap.size 51 .u64 (fil (rowP s.data.toList k) 80) ∧ Below w.heap.size w wr) (fun i _ => 80 - (intOf i).toNat)
  case atStart => exact ⟨0, by omega, rfl, hR0, hB0⟩
  case round =>
    obtain ⟨k, hk, rfl, hR, hB⟩ := hrel
    clear hR0 hB0
    by_cases hlt : k < 80
    · by_cases h16 : k < 16
      · obtain ⟨wo, rfl⟩ : ∃ wo : World, wo = wr := ⟨_, rfl⟩
        obtain ⟨x, hx⟩ : ∃ x, x = s.extract (8 * k) (8 * k + 8) := ⟨_, rfl⟩
        have hx8 : x.size = 8 := by rw [hx, ByteArray.size_extract]; omega
        have hxl : x.data.toList = (s.data.toList.drop (8 * k)).take 8 := by
          rw [hx, ByteArray.data_extract]; simp
        have hsl : ∀ w, (Instr.slice 9 (.string s) (some (.int .i64 (8 * (k : Int)))) (some (.int .i64 (8 * (k : Int) + 8))) none).run Try.prog w = .ok (.string x) w := fun w => by
          have h1 := run_slice_string (P := Try.prog) w 9 s .i64 .i64 (8 * (k : Int)) (8 * (k : Int) + 8) Try.underlying9 (by omega) (by omega) (by omega)
          rw [h1, hx]
          congr 3 <;> omega
        have HX := Lib.hid hxl
        have hp := rowP_length s.data.toList k
        have HP := Lib.hid hp
        clear hx hxl hp
        go_wp2_with fail
        have hR1 := hR.bytes x 5
        have hB1 := below_bytes hB hB.size x 5
        have hcb : ∀ j, j < 8 → (Lib.bytesWorld wo 5 x).cell? ⟨wo.heap.size, j, none⟩ = some (.int .u8 (x.data.toList.getD j 0).toNat) := fun j hj => Lib.bytesWorld_cell _ _ _ _ (by omega)
        have hlt2 : wo.heap.size < (Lib.bytesWorld wo 5 x).heap.size := by rw [Lib.bytesWorld_size]; omega
        have hwo : w.heap.size < wo.heap.size := hR.lt
        generalize Lib.bytesWorld wo 5 x = W1 at hR1 hB1 hcb hlt2 ⊢
        generalize grownCap wo 8 0 5 = gc
        clear hR hB hsl hconv
        go_loopw [24] (fun j wr => ∃ m : Nat, m ≤ 8 ∧ j = .int .i64 m ∧ Row wr w.heap.size 51 .u64 (fil (rowP s.data.toList k ++ [bigF (x.data.toList.take m)]) 80) ∧ (∀ j, j < 8 → wr.cell? ⟨wo.heap.size, j, none⟩ = some (.int .u8 (x.data.toList.getD j 0).toNat)) ∧ Below w.heap.size w wr) (fun j _ => 8 - (intOf j).toNat)
        case atStart => exact ⟨0, by omega, rfl, by rw [show bigF (x.data.toList.take 0) = 0 from rfl, fil_nought _ _ (by rw [HP.out]; omega)]; exact hR1, hcb, hB1⟩
        case round =>
          obtain ⟨m, hm, rfl, hR2, hcx, hB2⟩ := hrel
          clear hcb hR1 hB1
          have HCX := Lib.hid hcx
          by_cases hml : m < 8
          · have hcm := hcx m hml
            have hw0 := hR2.cell k (by rw [fil_length _ _ (by rw [List.length_append, HP.out]; simp; omega)]; omega)
            have hfr := hR2.frozen k
            have e0 : (fil (rowP s.data.toList k ++ [bigF (x.data.toList.take m)]) 80).getD k 0 = bigF (x.data.toList.take m) := by
              have := fil_here (rowP s.data.toList k) 80 (bigF (x.data.toList.take m))
              rwa [HP.out] at this
            rw [e0] at hw0
            have htk : x.data.toList.take (m + 1) = x.data.toList.take m ++ [x.data.toList.getD m 0] := by
              rw [List.take_succ_eq_append_getElem (show m < x.data.toList.length from by have : x.data.toList.length = x.size := rfl; omega), List.getD_eq_getElem?_getD, List.getElem?_eq_getElem]; rfl
            obtain ⟨c, hc⟩ : ∃ c, c = x.data.toList.getD m 0 := ⟨_, rfl⟩
            obtain ⟨v, hv⟩ : ∃ v, v = bigF (x.data.toList.take m) := ⟨_, rfl⟩
            rw [← hc] at hcm htk
            rw [← hv] at hw0 hR2
            have hcb := c.toNat_lt
            have HE : Hid (bigF (x.data.toList.take (m + 1)) = Go.bits .or .u64 (IntKind.u64.wrap (v * 256)) c.toNat) := Lib.hid (by rw [htk, bigF_snoc, hv])
            clear hcx e0 htk hc hv
            go_wp2
            go_roundw
            case rel =>
              refine ⟨m + 1, by omega, by go_num, ?_, fun j hj => ?_, hB2.setCell (p := ⟨w.heap.size, k, none⟩) (Nat.le_refl _) _⟩
              · rw [HE.out]
                have := hR2.set k (Go.bits .or .u64 (IntKind.u64.wrap (v * 256)) c.toNat)
                have e := fil_last (rowP s.data.toList k) 80 v (Go.bits .or .u64 (IntKind.u64.wrap (v * 256)) c.toNat) (by rw [HP.out]; omega)
                rw [HP.out] at e
                rwa [e] at this
              · rw [World.cell?_setCell_other _ _ _ _ (by intro h; injection h with h1 _; omega)]; exact HCX.out j hj
            case measure => simp [intOf]; omega
          · obtain rfl : m = 8 := by omega
            have hfin : rowP s.data.toList (k + 1) = rowP s.data.toList k ++ [bigF (x.data.toList.take 8)] := by
              show _ ++ [nextW s.data.toList (rowP s.data.toList k) k] = _
              unfold nextW
              rw [if_pos h16, HX.out, List.take_take]; rfl
            rw [← hfin] at hR2
            clear hcx hfin
            go_wp2
            go_roundw
            case rel => exact ⟨k + 1, by omega, by go_num, hR2, hB2⟩
            case measure => simp [intOf]; omega
      · have hp := rowP_length s.data.toList k
        have hg : ∀ j, j < k → wr.cell? ⟨w.heap.size, j, none⟩ = some (.int .u64 ((rowP s.data.toList k).getD j 0)) := fun j hj => by
          rw [hR.cell j (by rw [fil_length _ _ (by omega)]; omega), fil_get _ _ _ (by omega)]
        have hfin : rowP s.data.toList (k + 1) = rowP s.data.toList k ++ [nextW s.data.toList (rowP s.data.toList k) k] := rfl
        have hset := fun v => fil_set (rowP s.data.toList k) 80 v (by omega)
        rw [hp] at hset
        have h16' : (16 : Int) ≤ (k : Int) := by omega
        unfold nextW at hfin
        rw [if_neg h16] at hfin
        have c15 := hg (k - 15) (by omega)
        have c2 := hg (k - 2) (by omega)
        have c16 := hg (k - 16) (by omega)
        have c7 := hg (k - 7) (by omega)
        have ck := hR.cell k (by rw [fil_length _ _ (by omega)]; omega)
        have fk := hR.frozen k
        obtain ⟨a, ha⟩ : ∃ a, a = (rowP s.data.toList k).getD (k - 15) 0 := ⟨_, rfl⟩
        obtain ⟨b, hb⟩ : ∃ b, b = (rowP s.data.toList k).getD (k - 2) 0 := ⟨_, rfl⟩
        obtain ⟨c, hc⟩ : ∃ c, c = (rowP s.data.toList k).getD (k - 16) 0 := ⟨_, rfl⟩
        obtain ⟨d, hd⟩ : ∃ d, d = (rowP s.data.toList k).getD (k - 7) 0 := ⟨_, rfl⟩
        rw [← ha] at c15 hfin
        rw [← hb] at c2 hfin
        rw [← hc] at c16 hfin
        rw [← hd] at c7 hfin
        have HF := Lib.hid hfin
        have HS := Lib.hid hset
        clear hg hp hset hfin ha hb hc hd h16
        go_wp2_with fail
        go_quiet (fail)
        go_wp2_with (go_at_call 28; refine (rorZ _ _ (by decide) (by decide) _).mono ?_; rintro e w1 ⟨rfl, rfl⟩)
        go_region
        go_wp2
        go_roundw
        case rel =>
          refine ⟨k + 1, by omega, by go_num, ?_, ((below_drewN' hB nq).setCell (p := ⟨w.heap.size, k, none⟩) (Nat.le_refl _) _).drew⟩
          rw [HF.out, ← HS.out]
          exact ((hR.drewN nq).set k _).drew
        case measure => simp [intOf]; omega
    · obtain rfl : k = 80 := by omega
      have hp := rowP_length s.data.toList 80
      rw [fil_full _ _ hp] at hR
      obtain ⟨p, hpp⟩ : ∃ p, p = rowP s.data.toList 80 := ⟨_, rfl⟩
      rw [← hpp] at hp hR
      have HP := Lib.hid hp
      have HPP := Lib.hid hpp
      clear hp hpp
      go_upto_region 15 with fail
      refine wp_region_lit ?_
      refine wpList_load_row rfl 51 _ rfl w.heap.size rfl 51 (A64 p) (0, 0) _ hR.out Try.underlying51 rfl (by rw [size51, A64_size, HP.out]) ?_
      refine wpList_store_rowA rfl 51 (.tmp 2) (.tmp 78) rfl w.heap.size 51 (A64 p) (A64 p) rfl rfl hR.out (by rw [size51, A64_size, HP.out]) rfl (A64_one _) ?_
      have hR' : (wr.setRow w.heap.size (A64 p)).heap[w.heap.size]? = some (.cells (A64 p) 51 (0, 0)) := setRow_heap wr _ (A64 p) (A64 p) 51 _ hR.out
      have hB' : Below w.heap.size w (wr.setRow w.heap.size (A64 p)) := hB.trans ⟨rfl, rfl, rfl, by rw [size_setRow]; omega, fun k hk => setRow_other wr _ _ _ (by omega)⟩
      generalize wr.setRow w.heap.size (A64 p) = W2 at hR' hB' ⊢
      refine wpList_nil ?_
      go_wp2
      refine bodyPost_ret (v := .agg (A64 p)) (results_cell_row (w := W2) rfl _ w.heap.size 51 (A64 p) (0, 0) _ rfl hR' Try.underlying51 rfl (by rw [size51, A64_size, HP.out])) rfl ⟨by rw [HPP.out], hB'⟩

end Go.Proofs.Ytojmbbapcnfibaa
