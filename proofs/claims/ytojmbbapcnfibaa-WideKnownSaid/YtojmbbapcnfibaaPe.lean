/- Walks: roots of the program's numbers of many limbs. -/
import Derived.Test.YtojmbbapcnfibaaPd
namespace Go.Proofs.Ytojmbbapcnfibaa
open Go.RowKit

theorem bits_u32_bd (op : BinOp) (x y : Int) : 0 ≤ Go.bits op .u32 x y ∧ Go.bits op .u32 x y < 4294967296 := by
  unfold Go.bits
  rw [IntKind.wrap_u32]
  omega
theorem Bd.of3 {a b c : Int} (ha : 0 ≤ a ∧ a < 4294967296) (hb : 0 ≤ b ∧ b < 4294967296) (hc : 0 ≤ c ∧ c < 4294967296) : Bd [a, b, c] := by
  intro j
  match j with
  | 0 => exact ha
  | 1 => exact hb
  | 2 => exact hc
  | j + 3 => exact ⟨by simp, by simp⟩
theorem bitL_ok {x : List Int} (h : Bd x) (hl : x.length = 3) (bit : Nat) : Bd (bitL x bit) ∧ (bitL x bit).length = 3 := by
  obtain ⟨b0, b1⟩ := bits_u32_bd .or (x.getD (bit / 32) 0) (2 ^ (bit % 32))
  exact ⟨h.set _ b0 b1, by unfold bitL; rw [List.length_set]; exact hl⟩
theorem rootL_ok (p : Int) (k : Nat) : Bd (rootL p k) ∧ (rootL p k).length = 3 := by
  induction k with
  | zero => exact ⟨Bd.of3 (by decide) (by decide) (by decide), rfl⟩
  | succ k ih =>
    show Bd (stepR _ _ _) ∧ (stepR _ _ _).length = 3
    unfold stepR
    split
    · exact bitL_ok ih.1 ih.2 _
    · exact ih
/-- A power, so far. -/
def powL (y : List Int) : Nat → List Int
  | 0 => y
  | j + 1 => prodL (powL y j) y
theorem powL_ok {y : List Int} (h : Bd y) (hl : y.length = 3) (j : Nat) : Bd (powL y j) ∧ (powL y j).length = 3 * (j + 1) := by
  induction j with
  | zero => exact ⟨h, hl⟩
  | succ j ih =>
    obtain ⟨h1, h2⟩ := outerP_bd ih.1 h (powL y j).length
    refine ⟨h1, ?_⟩
    show (outerP (powL y j) y (powL y j).length).length = _
    rw [h2, ih.2, hl]
    omega
theorem pow_mod32 (r : Nat) (h : r < 32) : (2 : Int) ^ r % 4294967296 = 2 ^ r := by
  have : ∀ r, r < 32 → (2 : Int) ^ r % 4294967296 = 2 ^ r := by decide
  exact this r h
theorem own_row {W : World} {g n : Nat} {B : Nat} {l : List Int} (h : Row W g 48 .u32 l) (hn : l.length = n) (hB : B ≤ g) (hm : n ≤ 1000) : W.ownsRow B 48 1 (.slice (some ⟨g, 0, none⟩) n n) n (l.map (Value.int .u32)) :=
  ⟨by simp [hn], .inr ⟨g, n, (l.map (Value.int .u32)).toArray, rfl, hB, h.out, Nat.le_refl _, by unfold maxLen; omega, by simp [hn], by rw [List.take_of_length_le (by simp [hn])]⟩⟩
theorem own_cell {W : World} {g n c : Nat} {B : Nat} {l : List Int} (h : W.ownsRow B 48 1 (.slice (some ⟨g, 0, none⟩) n c) n (l.map (Value.int .u32))) (j : Nat) (hj : j < n) : W.cell? ⟨g, j, none⟩ = some (.int .u32 (l.getD j 0)) := by
  have hl : l.length = n := by have := h.1; simpa using this
  rw [h.cellAt j (by omega), List.getElem?_map, List.getElem?_eq_getElem (by omega), List.getD_eq_getElem?_getD, List.getElem?_eq_getElem (by omega)]; rfl
theorem infoU32 : (Try.prog.info? 48).map (fun i => (i.zero, i.size, i.bytes)) = some (some (.int .u32 0), 1, 4) := by kernel_rfl

set_option maxRecDepth 100000 in
set_option maxHeartbeats 2000000 in
theorem proot_any (p : Int) (w : World) :
    Calls Try.prog 23 #[.int .u32 p, .int .i64 3] w fun e w' => e = .returned (.int .u64 (rootV p)) ∧ Below w.heap.size w w' := by
  obtain ⟨i0, hi, hz0, hz1, hz2⟩ := info_parts infoU32
  have hmk6 : ∀ w : World, (Instr.makeSlice 46 (.int .i64 6) (.int .i64 6)).run Try.prog w = .ok (.slice (some ⟨w.heap.size, 0, none⟩) 6 6) (w.alloc (.cells (madeCells #[.int .u32 0] 6) 48)) := fun w =>
    run_make_row' (P := Try.prog) 46 48 (.int .u32 0) 4 Try.underlying46 (by kernel_rfl) rfl .i64 .i64 6 (by omega) (by omega) w
  have hmk3 : ∀ w : World, (Instr.makeSlice 46 (.int .i64 3) (.int .i64 3)).run Try.prog w = .ok (.slice (some ⟨w.heap.size, 0, none⟩) 3 3) (w.alloc (.cells (madeCells #[.int .u32 0] 3) 48)) := fun w =>
    run_make_row' (P := Try.prog) 46 48 (.int .u32 0) 4 Try.underlying46 (by kernel_rfl) rfl .i64 .i64 3 (by omega) (by omega) w
  have hown6 : (w.alloc (.cells (madeCells #[.int .u32 0] 6) 48)).ownsRow w.heap.size 48 1 (.slice (some ⟨w.heap.size, 0, none⟩) 6 6) 6 ((List.replicate 6 0).map (Value.int .u32)) := own_row (Row.made w 48 .u32 6) rfl (Nat.le_refl _) (by decide)
  go_enter Try.func23, Try.ntmps23
  go_wp2_with (at_builtin; refine wpList_append_own _ rfl _ _ 46 rfl w.heap.size 48 i0 (.int .u32 0) 1 4 Try.underlying46 hi hz0 hz1 hz2 rfl (by decide) _ _ _ rfl (hown6.alloc _) ⟨w.heap.size + 1, 0, none⟩ 1 1 [.int .u32 p] rfl rfl ?c1 ?c2 ?c3 ?c4 ?c5 ?_)
  case c1 => have := cell_one_new (w.alloc (.cells (madeCells #[.int .u32 0] 6) 48)) (.int .u32 p) 48; rwa [World.size_alloc] at this
  case c2 => simp [Value.oneCell']
  case c3 => unfold maxLen; omega
  case c4 => omega
  case c5 => simp; omega
  intro v1 w1 hlim hgrow _
  obtain ⟨o1, cl, rfl, hg1⟩ := own_shape hlim
  obtain ⟨gl, rfl⟩ := hg1 (by decide)
  have hB1 : Below w.heap.size w w1 := (below_alloc' (below_alloc' (Below.refl _ _) _) _).grown hgrow (by simp; omega) (fun j hj => by cases hj; exact Nat.le_refl _)
  have hlim' : w1.ownsRow w.heap.size 48 1 (.slice (some ⟨gl, 0, none⟩) 7 cl) 7 ([0, 0, 0, 0, 0, 0, p].map (Value.int .u32)) := hlim
  have hx0 : (w1.alloc (.cells (madeCells #[.int .u32 0] 3) 48)).ownsRow w.heap.size 48 1 (.slice (some ⟨w1.heap.size, 0, none⟩) 3 3) 3 ((rootL p 0).map (Value.int .u32)) := own_row (Row.made w1 48 .u32 3) rfl hB1.size (by decide)
  have hlim2 := hlim'.alloc (.cells (madeCells #[.int .u32 0] 3) 48)
  have hB2 := below_alloc' hB1 (.cells (madeCells #[.int .u32 0] 3) 48)
  have hgx : w1.heap.size < (w1.alloc (.cells (madeCells #[.int .u32 0] 3) 48)).heap.size := by simp
  clear hlim hlim' hgrow hg1 hown6 hB1
  go_wp2_with fail
  clear hmk3 hmk6
  generalize w1.alloc (.cells (madeCells #[.int .u32 0] 3) 48) = W2 at hx0 hlim2 hB2 hgx ⊢
  generalize w1.heap.size = g0 at hx0 hgx ⊢
  go_loopw [6, 7] (fun v b wr => ∃ (k c g : Nat), k ≤ 71 ∧ b = .int .i64 (70 - (k : Int)) ∧ v = .slice (some ⟨g, 0, none⟩) 3 c ∧ wr.ownsRow w.heap.size 48 1 v 3 ((rootL p k).map (Value.int .u32)) ∧ wr.ownsRow w.heap.size 48 1 (.slice (some ⟨gl, 0, none⟩) 7 cl) 7 ([0, 0, 0, 0, 0, 0, p].map (Value.int .u32)) ∧ Below w.heap.size w wr) (fun _ b _ => (intOf b + 1).toNat)
  case atStart => exact ⟨0, 3, g0, by omega, rfl, rfl, hx0, hlim2, hB2⟩
  case round =>
    obtain ⟨k, c, g, hk, rfl, rfl, hx, hl, hB⟩ := hrel
    clear hx0 hlim2 hB2 hgx
    obtain ⟨bx, lx⟩ := rootL_ok p k
    have hst : rootL p (k + 1) = stepR p (rootL p k) (70 - k) := rfl
    by_cases hlt : k < 71
    · obtain ⟨b, hb⟩ : ∃ b : Nat, b = 70 - k := ⟨_, rfl⟩
      have eb : 70 - (k : Int) = (b : Int) := by omega
      have hb70 : b ≤ 70 := by omega
      rw [← hb] at hst
      rw [eb]
      obtain ⟨x, hxx⟩ : ∃ x, x = rootL p k := ⟨_, rfl⟩
      rw [← hxx] at hx bx lx hst
      obtain ⟨by0, ly⟩ := bitL_ok bx lx b
      obtain ⟨q, hq⟩ : ∃ q, q = b / 32 := ⟨_, rfl⟩
      obtain ⟨r, hr⟩ : ∃ r, r = b % 32 := ⟨_, rfl⟩
      have hq3 : q < 3 := by omega
      have hr32 : r < 32 := by omega
      have hclone := fun w h => Try.slices_Clone i0 (.int .u32 0) 1 4 hi hz0 hz1 hz2 rfl (by decide) (fun w => by kernel_rfl) g 0 3 c (x.map (Value.int .u32)) w (by rw [List.length_map, lx]) (by unfold maxLen; omega) (by omega) h (by
        intro u hu
        obtain ⟨z, _, rfl⟩ := List.mem_map.1 hu
        rfl)
      have hclone := hclone wr (fun j u hu => by
        rw [Nat.zero_add]
        have hj : j < 3 := by
          have := (List.getElem?_eq_some_iff.1 hu).1
          simpa [lx] using this
        rw [hx.cellAt j (by omega)]; exact hu)
      have HCL := Lib.hid hclone
      have HX := Lib.hid hx
      have HL := Lib.hid hl
      have HST := Lib.hid hst
      have HBB := Lib.hid hb
      have HXX := Lib.hid hxx
      have hBs := hB.size
      clear hclone hst hb eb hxx hx hl
      go_wp2_with fail
      refine HCL.out.mono ?_
      rintro e w3 ⟨v3, rfl, ho3, _, hB3⟩
      obtain ⟨o3, c3, rfl, hg3⟩ := own_shape ho3
      obtain ⟨g3, rfl⟩ := hg3 (by decide)
      have hy0 := own_cell ho3 q (by omega)
      have fy0 := ho3.frozenAt q
      obtain ⟨u, hu⟩ : ∃ u, u = x.getD q 0 := ⟨_, rfl⟩
      have hub := bx q
      rw [← hu] at hy0 hub
      obtain ⟨u0, u1⟩ := hub
      have eq1 : (b : Int) / 32 = (q : Int) := by omega
      have eq2 : Int.tdiv (b : Int) 32 = (q : Int) := by rw [Int.tdiv_eq_ediv_of_nonneg (by omega)]; omega
      have eq3 : (b : Int) % 32 = (r : Int) := by omega
      have eq4 : Int.tmod (b : Int) 32 = (r : Int) := by rw [Int.tmod_eq_emod_of_nonneg (by omega)]; omega
      have HO3 := Lib.hid ho3
      have HU := Lib.hid hu
      have HQ := Lib.hid hq
      have HR := Lib.hid hr
      clear ho3 hu hq hr hg3
      have hBs3 := hB3.size
      go_wp2_with fail
      go_region
      obtain ⟨Y, hY⟩ : ∃ Y, Y = bitL x b := ⟨_, rfl⟩
      rw [← hY] at by0 ly
      have hYs : Y.map (Value.int .u32) = (x.map (Value.int .u32)).set q (.int .u32 (Go.bits .or .u32 u (2 ^ r % 4294967296))) := by
        rw [hY]
        unfold bitL
        rw [List.map_set, ← HQ.out, ← HR.out, ← HU.out, pow_mod32 r hr32]
      have hO5 := (HO3.out.stored q (.int .u32 (Go.bits .or .u32 u (2 ^ r % 4294967296)))).1.drew
      rw [← hYs] at hO5
      have hB5 : Below wr.heap.size wr (w3.setCell ⟨g3, q, none⟩ (.int .u32 (Go.bits .or .u32 u (2 ^ r % 4294967296)))).drew := (hB3.setCell (p := ⟨g3, q, none⟩) (HO3.out.lt g3 rfl).1 _).drew
      generalize (w3.setCell ⟨g3, q, none⟩ (.int .u32 (Go.bits .or .u32 u (2 ^ r % 4294967296)))).drew = W5 at hO5 hB5 ⊢
      have HYE := Lib.hid hY
      have hgl : gl < W5.heap.size := by have := (HL.out.lt gl rfl).2; have := hB5.size; omega
      have hg3 : g3 < W5.heap.size := (hO5.lt g3 rfl).2
      have HO5 := Lib.hid hO5
      have hc5 : ∀ i, i < 3 → W5.cell? ⟨g3, i, none⟩ = some (.int .u32 ((powL Y 0).getD i 0)) := fun i hi => own_cell hO5 i hi
      have HC5 := Lib.hid hc5
      clear hY hYs hO5 hB3 hy0 fy0 eq1 eq2 eq3 eq4 u0 u1 hBs3 hc5
      go_wp2_with fail
      go_loopw [9, 36] (fun v t wv => ∃ (j nn gn cn : Nat), j ≤ 2 ∧ t = .int .i64 j ∧ nn = 3 * (j + 1) ∧ v = .slice (some ⟨gn, 0, none⟩) nn cn ∧ gn < wv.heap.size ∧ (∀ i, i < nn → wv.cell? ⟨gn, i, none⟩ = some (.int .u32 ((powL Y j).getD i 0))) ∧ Below W5.heap.size W5 wv) (fun _ t _ => 2 - (intOf t).toNat)
      case atStart => exact ⟨0, 3, g3, c3, by omega, rfl, rfl, rfl, hg3, HC5.out, Below.refl _ _⟩
      case round =>
        obtain ⟨j, nn, gn, cn, hj, rfl, hnn, rfl, hgn, hcn, hBj⟩ := hrel
        obtain ⟨bj, lj⟩ := powL_ok by0 ly j
        rw [← hnn] at lj
        by_cases hjl : j < 2
        · have HPR := Lib.hid (product_any (powL Y j) Y nn 3 cn c3 gn g3 lj ly (by omega) (by decide) bj by0 wr hcn (fun i hi => (hBj.cell (p := ⟨g3, i, none⟩) hg3).trans (HC5.out i hi)) hgn (by have := hBj.size; omega))
          have HNN := Lib.hid hnn
          have hBjs := hBj.size
          clear hnn hcn bj lj
          go_wp2_with fail
          refine HPR.out.mono ?_
          rintro e w7 ⟨rfl, hr7, hB7⟩
          have hB57 := hBj.trans (hB7.mono hBjs)
          have hc7 : ∀ i, i < nn + 3 → w7.cell? ⟨wr.heap.size, i, none⟩ = some (.int .u32 ((powL Y (j + 1)).getD i 0)) := fun i hi => hr7.cell i (by
            have := (powL_ok by0 ly (j + 1)).2
            show i < (powL Y (j + 1)).length
            rw [this]
            have := HNN.out
            omega)
          have hl7 := hr7.lt
          have HC7 := Lib.hid hc7
          clear hr7 hB7 HPR hBj hc7
          go_wp2_with fail
          go_roundw
          case rel => exact ⟨j + 1, nn + 3, wr.heap.size, nn + 3, by omega, by go_num, by have := HNN.out; omega, rfl, hl7, HC7.out, hB57⟩
          case measure => simp [intOf]; omega
        · obtain rfl : j = 2 := by omega
          obtain rfl : nn = 9 := hnn
          have hcm := compared_any (powL Y 2) [0, 0, 0, 0, 0, 0, p] 9 7 cn cl gn gl lj rfl (by decide) (by decide) wr hcn (fun i hi => by
            rw [(hBj.cell (p := ⟨gl, i, none⟩) hgl)]
            exact own_cell (own_below HL.out hB5) i hi)
          obtain ⟨R, hR⟩ : ∃ R, R = cmpL (powL Y 2) [0, 0, 0, 0, 0, 0, p] 9 := ⟨_, rfl⟩
          rw [← hR] at hcm
          have hB9 := hB.trans ((below_trans' hB5 hBj).mono hBs)
          have hstR : rootL p (k + 1) = if R ≤ 0 then Y else x := by
            rw [HST.out, hR, HYE.out]
            rfl
          have hx9 := own_below (own_below HX.out hB5) hBj
          have hl9 := own_below (own_below HL.out hB5) hBj
          have hy9 := own_mono (own_below HO5.out hBj) hBs
          have HCM := Lib.hid hcm
          have HSR := Lib.hid hstR
          have HX9 := Lib.hid hx9
          have HL9 := Lib.hid hl9
          have HY9 := Lib.hid hy9
          have HB9 := Lib.hid hB9
          have eb : 70 - ((k + 1 : Nat) : Int) = (b : Int) - 1 := by have := HBB.out; omega
          have HEB := Lib.hid eb
          clear hcm hR hstR hx9 hl9 hy9 hB9 hcn hBj hB bj lj eb
          by_cases hR0 : R ≤ 0
          · go_wp2_with fail
            refine HCM.out.mono ?_
            rintro e w9 ⟨rfl, rfl⟩
            go_wp2_with fail
            go_roundw
            case rel => exact ⟨k + 1, c3, g3, by omega, by rw [HEB.out], rfl, by rw [HSR.out, if_pos hR0]; exact HY9.out, HL9.out, HB9.out⟩
            case measure => simp [intOf]
          · go_wp2_with fail
            refine HCM.out.mono ?_
            rintro e w9 ⟨rfl, rfl⟩
            go_wp2_with fail
            go_roundw
            case rel => exact ⟨k + 1, c, g, by omega, by rw [HEB.out], rfl, by rw [HSR.out, if_neg (by omega)]; exact HX9.out, HL9.out, HB9.out⟩
            case measure => simp [intOf]
    · obtain rfl : k = 71 := by omega
      have h0 := own_cell hx 0 (by decide)
      have h1 := own_cell hx 1 (by decide)
      obtain ⟨a, ha⟩ : ∃ a, a = (rootL p 71).getD 0 0 := ⟨_, rfl⟩
      obtain ⟨b, hb⟩ : ∃ b, b = (rootL p 71).getD 1 0 := ⟨_, rfl⟩
      have ba := bx 0
      have bb := bx 1
      rw [← ha] at h0 ba
      rw [← hb] at h1 bb
      obtain ⟨a0, a1⟩ := ba
      obtain ⟨b0, b1⟩ := bb
      have hv : rootV p = Go.bits .or .u64 (b * 4294967296) a := by
        rw [ha, hb]
        unfold rootV
        match rootL p 71, lx with
        | [x, y, z], _ => rfl
      have HV := Lib.hid hv
      clear ha hb hv hx hl hst bx lx
      go_wp2_with fail
      go_quiet (fail)
      go_wp2_with fail
      go_ret
      exact ⟨ret_int HV.out.symm, below_drewN' hB _⟩

end Go.Proofs.Ytojmbbapcnfibaa
