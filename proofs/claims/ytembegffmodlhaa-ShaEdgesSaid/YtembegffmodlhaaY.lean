/- Walks: the document's hash. -/
import Derived.Test.YtembegffmodlhaaX
namespace Go.Proofs.Ytembegffmodlhaa
open Go.RowKit

set_option maxRecDepth 100000 in
set_option maxHeartbeats 4000000 in
theorem rwide_any (s : ByteArray) (hs : s.size ≤ 1000) (w : World) :
    Calls Try.prog 12 #[.string s] w fun e w' => e = .returned (.string (shaB s.data.toList)) ∧ Below w.heap.size w w' := by
  obtain ⟨i0, hi, hz0, hz1, hz2⟩ := info_parts infoU32
  have hpad := Lib.hid (padR_data s)
  have hpadS : (padL s.data.toList).length = s.size + 1 + fillN s.size + 8 := padL_length _
  have hblk := blocks64 s.size
  have HBLK := Lib.hid hblk
  have HPS := Lib.hid hpadS
  clear hblk hpadS
  go_enter Try.func12, Try.ntmps12
  go_wp2_with fail
  refine (rconsts_any _).mono ?_
  rintro e W1 ⟨v3, rfl, hk1, hB1⟩
  obtain ⟨o3, k3, rfl, hg3⟩ := own_shape hk1
  obtain ⟨g3, rfl⟩ := hg3 (by decide)
  clear hg3
  obtain ⟨cL, hcL⟩ : ∃ cL, cL = constsL := ⟨_, rfl⟩
  have hcl : cL.length = 64 := by rw [hcL]; rfl
  rw [← hcL] at hk1
  have HCL := Lib.hid hcl
  have HcL := Lib.hid hcL
  clear hcl hcL
  go_wp2_with fail
  refine (primes_any 8 (by decide) _).mono ?_
  rintro e W2 ⟨v4, rfl, hp2, hB2⟩
  obtain ⟨o4, k4, rfl, hg4⟩ := own_shape hp2
  obtain ⟨g4, rfl⟩ := hg4 (by decide)
  clear hg4
  have hk2 := own_below hk1 hB2
  have hB2' := below_trans' hB1 hB2
  have hpl : ((prL 408).take 8).length = 8 := by rw [List.length_take, prL_408]; rfl
  have hrf := roots_first
  have hpg : ∀ i, i < 8 → ((prL 408).take 8).getD i 0 = (prL 408).getD i 0 := fun i hi => by
    rw [List.getD_eq_getElem?_getD, List.getElem?_take_of_lt hi, ← List.getD_eq_getElem?_getD]
  have hrf' : ∀ i, i < 8 → ((rootP [0, ((prL 408).take 8).getD i 0, 0, 0] false 70).x).getD 0 0 % 4294967296 = firstL.getD i 0 := fun i hi => by rw [hpg i hi]; exact hrf i hi
  obtain ⟨pL, hpL⟩ : ∃ pL, pL = (prL 408).take 8 := ⟨_, rfl⟩
  obtain ⟨fL, hfL⟩ : ∃ fL, fL = firstL := ⟨_, rfl⟩
  rw [← hpL] at hp2 hpl hrf'
  rw [← hfL] at hrf'
  have hfl : fL.length = 8 := by rw [hfL]; rfl
  have HPL := Lib.hid hpl
  have HRF := Lib.hid hrf'
  have HFL := Lib.hid hfl
  have HfL := Lib.hid hfL
  clear hpl hrf hpg hrf' hpL hfL hfl hk1 hB1 hB2
  go_wp2_with fail
  go_loopw [5, 6] (fun v i wr => ∃ k : Nat, k ≤ 8 ∧ i = .int .i64 k ∧ wr.ownsRow W2.heap.size 24 1 v k ((fL.take k).map (Value.int .u32)) ∧ Below W2.heap.size W2 wr) (fun _ i _ => 8 - (intOf i).toNat)
  case atStart => exact ⟨0, by omega, rfl, World.ownsRow_nil _ _ _ _, Below.refl _ _⟩
  case round =>
    obtain ⟨k, hk, rfl, hown, hB⟩ := hrel
    obtain ⟨o, c, rfl, hg⟩ := own_shape hown
    have hs1 := hB.size
    by_cases hlt : k < 8
    · skip
      have hcell := (own_below hp2 hB).cellAt k (by omega)
      rw [List.getElem?_map, List.getElem?_eq_getElem (by rw [HPL.out]; exact hlt), show pL[k]'(by rw [HPL.out]; exact hlt) = pL.getD k 0 by rw [List.getD_eq_getElem?_getD, List.getElem?_eq_getElem (by rw [HPL.out]; exact hlt)]; rfl] at hcell
      have hrt := HRF.out k hlt
      obtain ⟨y, hy⟩ : ∃ y, y = pL.getD k 0 := ⟨_, rfl⟩
      rw [← hy] at hcell hrt
      have hcell' : wr.cell? ⟨g4, k, none⟩ = some (.int .u64 y) := by simpa using hcell
      obtain ⟨r0, r1, r2, r3, hr⟩ := four _ (rootP_length [0, y, 0, 0] false 70).1
      rw [hr] at hrt
      have HT : Hid ((fL.take (k + 1)).map (Value.int .u32) = (fL.take k).map (Value.int .u32) ++ [.int .u32 (r0 % 4294967296)]) := Lib.hid (by
        have h80 : k < fL.length := by rw [HFL.out]; exact hlt
        rw [List.take_succ_eq_append_getElem h80, List.map_append, show fL[k] = r0 % 4294967296 by
          have : fL.getD k 0 = fL[k] := by rw [List.getD_eq_getElem?_getD, List.getElem?_eq_getElem h80]; rfl
          rw [← this, ← hrt]; rfl]
        rfl)
      have hix := idx42 r0 r1 r2 r3
      have HRU := Lib.hid (root_any 0 y 0 0 2 false (by decide) r0 r1 r2 r3 hr)
      clear hcell hrt hy hr
      go_wp2_with fail
      refine (HRU.out _).mono ?_
      rintro e w1 ⟨rfl, hb1⟩
      have hown1 := own_below hown hb1
      have hB1 := hB.trans (hb1.mono hs1)
      have hs2 := hB1.size
      clear hown hB hb1 hcell' hs1 HRU
      go_wp2_with (at_builtin; refine wpList_append_own _ rfl _ _ 22 rfl W2.heap.size 24 i0 (.int .u32 0) 1 4 Try.underlying22 hi hz0 hz1 hz2 rfl (by decide) _ _ _ rfl (hown1.alloc _) ⟨w1.heap.size, 0, none⟩ 1 1 [.int .u32 (r0 % 4294967296)] rfl rfl ?c1 ?c2 ?c3 ?c4 ?c5 ?_)
      case c1 => exact cell_one_new _ _ _
      case c2 => simp [Value.oneCell']
      case c3 => unfold maxLen; omega
      case c4 => omega
      case c5 => first | omega | (simp; omega)
      intro v' w2 hown' hgrow _
      have hB' := (hB1.alloc hs2 (.cells #[.int .u32 (r0 % 4294967296)] 24)).grown hgrow (by simp; omega) (fun j hj => (hown1.lt j hj).1)
      clear hown1 hB1 hgrow
      go_wp2_with fail
      go_roundw
      case rel => exact ⟨k + 1, by omega, by go_num, by rw [HT.out, List.map_take]; exact hown', hB'⟩
      case measure => simp [intOf]; omega
    · obtain rfl : k = 8 := by omega
      obtain ⟨g5, rfl⟩ := hg (by decide)
      clear hg
      rw [List.take_of_length_le (Nat.le_of_eq HFL.out)] at hown
      clear hp2
      have hT : (s ++ ⟨#[128]⟩ : ByteArray).size = s.size + 1 := by rw [ByteArray.size_append]; rfl
      obtain ⟨T, hTe⟩ : ∃ T, T = s ++ ⟨#[128]⟩ := ⟨_, rfl⟩
      rw [← hTe] at hT hpad
      have HT := Lib.hid hTe
      clear hTe
      go_wp2_with fail
      go_loop [0] (fun x => ∃ j : Nat, j ≤ fillN s.size ∧ x = .string (zer T j)) (fun x => 2000 - lenOf x)
      case atStart => exact ⟨0, by omega, by rw [← HT.out]; rfl⟩
      case round =>
        obtain ⟨j, hj, rfl⟩ := hrel
        have hzs := zer_size T j
        rw [hT] at hzs
        obtain ⟨Z, hZ⟩ : ∃ Z, Z = zer T j := ⟨_, rfl⟩
        obtain ⟨n1, hn1⟩ : ∃ n1, n1 = Z.size := ⟨_, rfl⟩
        have hn2 : n1 = s.size + 1 + j := by rw [hn1, hZ]; exact hzs
        have hzz : Z.size = n1 := hn1.symm
        rw [← hZ]
        have HZ := Lib.hid hZ
        have HN2 := Lib.hid hn2
        have hn3 : n1 ≤ 1500 := by unfold fillN at hj; omega
        by_cases hlt : j < fillN s.size
        · skip
          have hb : ((n1 : Int) % 64 != 56) = true := by
            have : (n1 : Int) % 64 ≠ 56 := by unfold fillN at hlt; omega
            simpa using this
          have hZ1 : Hid (zer T (j + 1) = Z ++ ⟨#[0]⟩) := Lib.hid (by rw [hZ]; rfl)
          have hZ2 : Hid ((Z ++ ⟨#[0]⟩ : ByteArray).size = n1 + 1) := Lib.hid (by rw [ByteArray.size_append, hzz]; rfl)
          clear hzs hZ hn1 hn2 hT
          go_wp2_with fail
          go_round
          case rel => exact ⟨j + 1, by omega, by rw [hZ1.out]⟩
          case measure => simp only [lenOf]; rw [hZ2.out, hzz]; omega
        · obtain rfl : j = fillN s.size := by omega
          have hb : ((n1 : Int) % 64 != 56) = false := by
            have : (n1 : Int) % 64 = 56 := by unfold fillN at hn2; omega
            simp [this]
          clear hzs hZ hn1 hn2 hT
          go_wp2_with fail
          refine (rbig_any (s.size * 8) 8 (by decide) _).mono ?_
          rintro e w6 ⟨rfl, hb6⟩
          have hb9 : (strOfNums (bigB (s.size * 8) 8)).size = 8 := by rw [strOfNums_size, bigB_length]
          have h6 := own_below hown hb6
          have hB6 := hB.trans (hb6.mono hs1)
          obtain ⟨B1, hB1'⟩ : ∃ B1, B1 = strOfNums (bigB (s.size * 8) 8) := ⟨_, rfl⟩
          rw [← hB1'] at hb9 ⊢
          obtain ⟨P, hP⟩ : ∃ P, P = Z ++ B1 := ⟨_, rfl⟩
          have HPP : Hid (P.data.toList = padL s.data.toList) := Lib.hid (by rw [hP, HZ.out, hB1']; exact hpad.out)
          have HP := Lib.hid hP
          obtain ⟨m, hm⟩ : ∃ m, m = (padL s.data.toList).length / 64 := ⟨_, rfl⟩
          have hPs : P.size = 64 * m := by
            show P.data.toList.length = _
            rw [HPP.out, hm, HPS.out]
            have := HBLK.out
            omega
          have hm2 : m ≤ 100 := by rw [hm, HPS.out]; unfold fillN; omega
          have HM := Lib.hid hm
          clear hown hB hb6 hs1 hP hB1' hm hk hj hlt hb
          go_wp2_with fail
          rw [← HP.out]
          have h60 : w6.ownsRow W2.heap.size 24 1 (.slice (some ⟨g5, 0, none⟩) 8 c) 8 ((hashN P.data.toList 0).map (Value.int .u32)) := by
            show w6.ownsRow W2.heap.size 24 1 (.slice (some ⟨g5, 0, none⟩) 8 c) 8 (firstL.map (Value.int .u32))
            rw [← HfL.out]; exact h6
          clear h6 HP hb9 HZ hzz hn3
          go_loopw [8] (fun i wr => ∃ k : Nat, k ≤ m ∧ i = .int .i64 (64 * k) ∧ wr.ownsRow W2.heap.size 24 1 (.slice (some ⟨g5, 0, none⟩) 8 c) 8 ((hashN P.data.toList k).map (Value.int .u32)) ∧ Below W2.heap.size W2 wr) (fun i _ => 64 * m - (intOf i).toNat)
          case atStart => exact ⟨0, by omega, rfl, h60, hB6⟩
          case round =>
            obtain ⟨k, hk, rfl, hh, hB⟩ := hrel
            clear h60 hB6
            by_cases hlt : k < m
            · obtain ⟨wo, rfl⟩ : ∃ wo : World, wo = wr := ⟨_, rfl⟩
              obtain ⟨x, hx⟩ : ∃ x, x = blkL P.data.toList k := ⟨_, rfl⟩
              have hbs : x.length = 64 := by rw [hx]; exact blkL_length _ _ (by show 64 * k + 64 ≤ P.size; omega)
              have hsl : ∀ (j : Nat) (_ : j < 16) (w : World), (Instr.slice 9 (.string P) (some (.int .i64 (64 * (k : Int) + 4 * (j : Int)))) (some (.int .i64 (64 * (k : Int) + 4 * (j : Int) + 4))) none).run Try.prog w = .ok (.string ⟨((x.drop (4 * j)).take 4).toArray⟩) w := fun j hj w => by
                have h1 := run_slice_string (P := Try.prog) w 9 P .i64 .i64 (64 * (k : Int) + 4 * (j : Int)) (64 * (k : Int) + 4 * (j : Int) + 4) Try.underlying9 (by omega) (by omega) (by omega)
                rw [h1]
                congr 2
                apply ByteArray.ext
                apply Array.ext'
                rw [ByteArray.data_extract]
                have e1 : (64 * (k : Int) + 4 * (j : Int)).toNat = 64 * k + 4 * j := by omega
                have e2 : (64 * (k : Int) + 4 * (j : Int) + 4).toNat = 64 * k + 4 * j + 4 := by omega
                rw [e1, e2, hx]
                show (P.data.extract (64 * k + 4 * j) (64 * k + 4 * j + 4)).toList = ((blkL P.data.toList k).drop (4 * j)).take 4
                unfold blkL
                rw [Array.toList_extract, List.extract_eq_take_drop, List.drop_take, List.take_take, List.drop_drop]
                congr 1
                omega
              have hhs : Hid (hashN P.data.toList (k + 1) = nextL (hashN P.data.toList k) x) := Lib.hid (by rw [hx]; rfl)
              have HXB := Lib.hid hbs
              have HSL := Lib.hid hsl
              clear hsl hx hbs
              have hs0 := hB.size
              go_wp2_with fail
              go_loopw [9, 10] (fun v i wr => ∃ j : Nat, j ≤ 16 ∧ i = .int .i64 j ∧ wr.ownsRow wo.heap.size 24 1 v j ((rowP x j).map (Value.int .u32)) ∧ Below wo.heap.size wo wr) (fun _ i _ => 16 - (intOf i).toNat)
              case atStart => exact ⟨0, by omega, rfl, World.ownsRow_nil _ _ _ _, Below.refl _ _⟩
              case round =>
                obtain ⟨j, hj, rfl, hwn, hBo⟩ := hrel
                obtain ⟨o9, c9, rfl, hg9⟩ := own_shape hwn
                have hs1 := hBo.size
                by_cases hjl : j < 16
                · skip
                  have hsl := HSL.out j hjl
                  obtain ⟨y, hy⟩ : ∃ y, y = (⟨((x.drop (4 * j)).take 4).toArray⟩ : ByteArray) := ⟨_, rfl⟩
                  have hy8 : y.size = 4 := by
                    rw [hy]; show ((x.drop (4 * j)).take 4).toArray.size = 4
                    rw [List.size_toArray, List.length_take, List.length_drop, HXB.out]; omega
                  have HR : Hid ((rowP x (j + 1)).map (Value.int .u32) = (rowP x j).map (Value.int .u32) ++ [.int .u32 (bigF y.data.toList % 4294967296)]) := Lib.hid (by
                    show (rowP x j ++ [nextW x (rowP x j) j]).map (Value.int .u32) = _
                    unfold nextW
                    rw [if_pos hjl, hy, List.map_append, big_be4 x j (by rw [HXB.out]; omega)]
                    rfl)
                  rw [← hy] at hsl
                  have hyz : y.size ≤ 1000 := by omega
                  clear hy hy8
                  go_wp2_with fail
                  refine (rbigS_any y hyz _).mono ?_
                  rintro e w7 ⟨rfl, rfl⟩
                  go_wp2_with (at_builtin; refine wpList_append_own _ rfl _ _ 22 rfl wo.heap.size 24 i0 (.int .u32 0) 1 4 Try.underlying22 hi hz0 hz1 hz2 rfl (by decide) _ _ _ rfl (hwn.alloc _) ⟨wr.heap.size, 0, none⟩ 1 1 [.int .u32 (bigF y.data.toList % 4294967296)] rfl rfl ?d1 ?d2 ?d3 ?d4 ?d5 ?_)
                  case d1 => exact cell_one_new _ _ _
                  case d2 => simp [Value.oneCell']
                  case d3 => unfold maxLen; omega
                  case d4 => omega
                  case d5 => first | omega | (simp; omega)
                  intro v' w8 hwn' hgrow _
                  have hBo' := (hBo.alloc hs1 (.cells #[.int .u32 (bigF y.data.toList % 4294967296)] 24)).grown hgrow (by simp; omega) (fun j hj => (hwn.lt j hj).1)
                  clear hwn hBo hgrow
                  go_wp2_with fail
                  go_roundw
                  case rel => exact ⟨j + 1, by omega, by go_num, by rw [HR.out]; exact hwn', hBo'⟩
                  case measure => simp [intOf]; omega
                · obtain rfl : j = 16 := by omega
                  clear hg9
                  go_wp2_with fail
                  go_loopw [9, 11] (fun v i wr => ∃ j : Nat, 16 ≤ j ∧ j ≤ 64 ∧ i = .int .i64 j ∧ wr.ownsRow wo.heap.size 24 1 v j ((rowP x j).map (Value.int .u32)) ∧ Below wo.heap.size wo wr) (fun _ i _ => 64 - (intOf i).toNat)
                  case atStart => exact ⟨16, by omega, by omega, rfl, hwn, hBo⟩
                  case round =>
                    obtain ⟨j, hj16, hj, rfl, hwn, hBo⟩ := hrel
                    obtain ⟨o9, c9, rfl, hg9⟩ := own_shape hwn
                    obtain ⟨g9, rfl⟩ := hg9 (by omega)
                    clear hg9
                    have hs1 := hBo.size
                    by_cases hjl : j < 64
                    · skip
                      have hcell : ∀ i, i < j → ∀ W, Below wr.heap.size wr W → W.cell? ⟨g9, i, none⟩ = some (.int .u32 ((rowP x j).getD i 0)) := fun i hi W hW => by
                        have hl := rowP_length x j
                        rw [(own_below hwn hW).cellAt i (by omega), List.getElem?_map, List.getElem?_eq_getElem (by rw [hl]; exact hi), List.getD_eq_getElem?_getD, List.getElem?_eq_getElem (by rw [hl]; exact hi)]; rfl
                      obtain ⟨a, ha⟩ : ∃ a, a = (rowP x j).getD (j - 15) 0 := ⟨_, rfl⟩
                      obtain ⟨b, hb⟩ : ∃ b, b = (rowP x j).getD (j - 2) 0 := ⟨_, rfl⟩
                      obtain ⟨c16, hc16⟩ : ∃ c16, c16 = (rowP x j).getD (j - 16) 0 := ⟨_, rfl⟩
                      obtain ⟨c7, hc7⟩ : ∃ c7, c7 = (rowP x j).getD (j - 7) 0 := ⟨_, rfl⟩
                      have HR : Hid ((rowP x (j + 1)).map (Value.int .u32) = (rowP x j).map (Value.int .u32) ++ [.int .u32 (IntKind.u32.wrap (IntKind.u32.wrap (IntKind.u32.wrap (c16 + Go.bits .xor .u32 (Go.bits .xor .u32 (rorI a 7) (rorI a 18)) (a / 8)) + c7) + Go.bits .xor .u32 (Go.bits .xor .u32 (rorI b 17) (rorI b 19)) (b / 1024)))]) := Lib.hid (by
                        show (rowP x j ++ [nextW x (rowP x j) j]).map (Value.int .u32) = _
                        unfold nextW
                        rw [if_neg (by omega), ← ha, ← hb, ← hc16, ← hc7, List.map_append, wrap3]
                        rfl)
                      have hj15 : (16 : Int) ≤ (j : Int) := by omega
                      obtain ⟨i15, hi15⟩ : ∃ i : Nat, i = j - 15 := ⟨_, rfl⟩
                      obtain ⟨i2, hi2⟩ : ∃ i : Nat, i = j - 2 := ⟨_, rfl⟩
                      obtain ⟨i16, hi16⟩ : ∃ i : Nat, i = j - 16 := ⟨_, rfl⟩
                      obtain ⟨i7, hi7⟩ : ∃ i : Nat, i = j - 7 := ⟨_, rfl⟩
                      have e15 : (j : Int) - 15 = i15 := by omega
                      have e2 : (j : Int) - 2 = i2 := by omega
                      have e16 : (j : Int) - 16 = i16 := by omega
                      have e7 : (j : Int) - 7 = i7 := by omega
                      have b15 : i15 < j := by omega
                      have b2 : i2 < j := by omega
                      have b16 : i16 < j := by omega
                      have b7 : i7 < j := by omega
                      have w16 : IntKind.i64.wrap (i16 : Int) = i16 := by rw [IntKind.wrap_i64]; omega
                      have w7 : IntKind.i64.wrap (i7 : Int) = i7 := by rw [IntKind.wrap_i64]; omega
                      have k15 := hcell i15 b15 wr (Below.refl _ _)
                      have k2 := hcell i2 b2 wr (Below.refl _ _)
                      have k16 := hcell i16 b16
                      have k7 := hcell i7 b7
                      rw [hi15, ← ha, ← hi15] at k15
                      rw [hi2, ← hb, ← hi2] at k2
                      simp only [hi16, ← hc16] at k16
                      simp only [← hi16] at k16
                      simp only [hi7, ← hc7] at k7
                      simp only [← hi7] at k7
                      have K16 := Lib.hid k16
                      have K7 := Lib.hid k7
                      clear hcell ha hb hc16 hc7 hi15 hi2 hi16 hi7 k16 k7
                      go_wp2_with fail
                      go_quiet (fail)
                      go_wp2_with fail
                      refine (rrorZ _ _ (by decide) (by decide) _).mono ?_
                      rintro e w1 ⟨rfl, m1, rfl⟩
                      go_wp2_with fail
                      refine (rrorZ _ _ (by decide) (by decide) _).mono ?_
                      rintro e w1 ⟨rfl, m2, rfl⟩
                      go_wp2_with fail
                      refine (rrorZ _ _ (by decide) (by decide) _).mono ?_
                      rintro e w1 ⟨rfl, m3, rfl⟩
                      go_wp2_with fail
                      refine (rrorZ _ _ (by decide) (by decide) _).mono ?_
                      rintro e w1 ⟨rfl, m4, rfl⟩
                      have hBn := below_drewN' (below_drewN' (Below.refl wr.heap.size wr) (nq + m1 + m2 + m3)) m4
                      obtain ⟨W4, hW4⟩ : ∃ W4, W4 = (wr.drewN (nq + m1 + m2 + m3)).drewN m4 := ⟨_, rfl⟩
                      rw [← hW4] at hBn ⊢
                      have k16 := K16.out W4 hBn
                      have k7 := K7.out W4 hBn
                      have hwn4 := own_below hwn hBn
                      have hBo4 := below_trans' hBo hBn
                      have hs4 := hBo4.size
                      clear hW4 hBn hwn hBo k15 k2 hs1
                      obtain ⟨val, hval⟩ : ∃ val, val = IntKind.u32.wrap (IntKind.u32.wrap (IntKind.u32.wrap (c16 + Go.bits .xor .u32 (Go.bits .xor .u32 (rorI a 7) (rorI a 18)) (a / 8)) + c7) + Go.bits .xor .u32 (Go.bits .xor .u32 (rorI b 17) (rorI b 19)) (b / 1024)) := ⟨_, rfl⟩
                      rw [← hval] at HR
                      have HV := Lib.hid hval
                      have hnews : ∀ (t : Nat) (u : Value), [Value.int .u32 val][t]? = some u → (W4.alloc (.cells #[.int .u32 val] 24)).drew.cell? ((⟨W4.heap.size, 0, none⟩ : Addr).add t) = some u :=
                        World.news_of_block (w := (W4.alloc (.cells #[.int .u32 val] 24)).drew) (heap_alloc_new W4 _)
                      have hownD := (hwn4.alloc (.cells #[.int .u32 val] 24)).drew
                      have hone : ∀ u ∈ [Value.int .u32 val], u.oneCell' = true := by simp [Value.oneCell']
                      have hbase : wo.heap.size ≤ (W4.alloc (.cells #[.int .u32 val] 24)).drew.heap.size := by simp; omega
                      have s1 := Lib.hid hnews
                      have s2 := Lib.hid hownD
                      have s3 := Lib.hid hone
                      have s4 := Lib.hid hbase
                      have hB1 := (hBo4.alloc hs4 (.cells #[.int .u32 val] 24)).drew
                      have s5 := Lib.hid hB1
                      have s6 := Lib.hid hwn4
                      clear hnews hownD hone hbase hB1 hwn4 hBo4
                      subst hval
                      go_upto_region 27 with fail
                      go_region_law (refine step_append_lies _ rfl (.tmp 114) (.tmp 130) 22 rfl wo.heap.size 24 i0 (.int .u32 0) 1 4 Try.underlying22 hi hz0 hz1 hz2 rfl (by decide) (.slice (some ⟨g9, 0, none⟩) j c9) j _ (by simp [Act.eval]) s2.out ⟨W4.heap.size, 0, none⟩ 1 1 _ (by simp [Act.eval]) rfl s1.out s3.out (by decide) (by unfold maxLen; omega) (by omega) s4.out _ rfl ?_; intro g' cap' w2 hown2 hgrow2 hor2 hlt2)
                      all_goals
                        have hB2 := s5.out.grown hgrow2 s4.out (fun t ht => (s6.out.lt t ht).1)
                        clear hgrow2 hor2 hlt2
                        go_wp2_with fail
                        go_roundw
                      all_goals first
                        | exact ⟨j + 1, by omega, by omega, by go_num, by rw [HR.out]; exact hown2, hB2⟩
                        | (simp [intOf]; omega)
                        | ((repeat apply Exists.intro); exact ⟨⟨j + 1, by omega, by omega, by go_num, by rw [HR.out]; exact hown2, hB2⟩, rfl⟩)
                    · obtain rfl : j = 64 := by omega
                      obtain ⟨hl, hhl⟩ : ∃ hl, hl = hashN P.data.toList k := ⟨_, rfl⟩
                      have hl8 : hl.length = 8 := by rw [hhl]; exact hashN_length _ _
                      have hh1 := own_below hh hBo
                      rw [← hhl] at hh1
                      have HHL := Lib.hid hhl
                      have HL8 := Lib.hid hl8
                      clear hhl hl8
                      have hv0 : (wr.alloc (.cells #[] 24)).ownsRow wr.heap.size 24 1 (.slice (some ⟨wr.heap.size, 0, none⟩) 0 0) 0 [] :=
                        ⟨by simp, .inr ⟨wr.heap.size, 0, #[], rfl, Nat.le_refl _, heap_alloc_new _ _, Nat.le_refl _, by unfold maxLen; omega, by simp, by simp⟩⟩
                      have HH1 := Lib.hid hh1
                      clear hh1
                      go_wp2_with (at_builtin; refine wpList_append_own _ rfl _ _ 22 rfl wr.heap.size 24 i0 (.int .u32 0) 1 4 Try.underlying22 hi hz0 hz1 hz2 rfl (by decide) _ _ _ rfl hv0 ⟨g5, 0, none⟩ 8 c (hl.map (Value.int .u32)) rfl ?e0 ?e1 ?e2 ?e3 ?e4 ?e5 ?_)
                      case e0 => rw [List.length_map, HL8.out]
                      case e1 => exact (HH1.out.alloc _).cells rfl
                      case e2 =>
                        intro u hu
                        obtain ⟨z, _, rfl⟩ := List.mem_map.1 hu
                        rfl
                      case e3 => unfold maxLen; omega
                      case e4 => omega
                      case e5 => simp
                      intro v' w9 hv' hgrow _
                      have hB9 : Below wr.heap.size wr w9 := (below_alloc' (Below.refl wr.heap.size wr) (.cells #[] 24)).grown hgrow (by simp) (fun j hj => by cases hj; exact Nat.le_refl _)
                      obtain ⟨v1, cv, rfl, hgv⟩ := own_shape hv'
                      obtain ⟨gv, rfl⟩ := hgv (by decide)
                      clear hgv
                      have hg5 : g5 < wr.heap.size := (HH1.out.lt g5 rfl).2
                      have hgv5 : gv ≠ g5 := by have := (hv'.lt gv rfl).1; omega
                      have hwn9 := own_below hwn hB9
                      have hh9 := own_below HH1.out hB9
                      have hBo9 := below_trans' hBo hB9
                      have hk9 := own_below hk2 (hB.trans (hBo9.mono hs0))
                      have hcv : ∀ j, j < 8 → w9.cell? ⟨gv, j, none⟩ = some (.int .u32 (hl.getD j 0)) := fun j hj => by
                        rw [hv'.cellAt j (by omega), List.getElem?_map, List.getElem?_eq_getElem (by rw [HL8.out]; exact hj), List.getD_eq_getElem?_getD, List.getElem?_eq_getElem (by rw [HL8.out]; exact hj)]; rfl
                      have hB9s := hB9.size
                      clear hv0 hgrow HH1 hwn hBo hB9 hs1 hv'
                      obtain ⟨pw, hpw⟩ : ∃ pw, pw = rowP x 64 := ⟨_, rfl⟩
                      have hpl : pw.length = 64 := by rw [hpw]; exact rowP_length _ _
                      rw [← hpw] at hwn9
                      have HPW := Lib.hid hpw
                      have HPWL := Lib.hid hpl
                      clear hpw hpl
                      go_wp2_with fail
                      go_loopw [16, 17] (fun v t wr => ∃ (n g cp : Nat), n ≤ 64 ∧ t = .int .i64 n ∧ v = .slice (some ⟨g, 0, none⟩) 8 cp ∧ g < wr.heap.size ∧ g ≠ g5 ∧ (∀ j, j < 8 → wr.cell? ⟨g, j, none⟩ = some (.int .u32 ((stepsL hl pw n).getD j 0))) ∧ Below w9.heap.size w9 wr) (fun _ t _ => 64 - (intOf t).toNat)
                      case atStart => exact ⟨0, gv, cv, by omega, rfl, rfl, World.block_lt_of_cell? _ _ (hcv 0 (by decide)), hgv5, hcv, Below.refl _ _⟩
                      case round =>
                        obtain ⟨n, g, cp, hn, rfl, rfl, hgl, hg5', hv, hB6⟩ := hrel
                        have hs6 := hB6.size
                        by_cases hnl : n < 64
                        · skip
                          obtain ⟨a, b, c', d, e, f, g', i, hst⟩ := eight _ (stepsL_length hl pw n HL8.out)
                          have x0 := hv 0 (by decide)
                          have x1 := hv 1 (by decide)
                          have x2 := hv 2 (by decide)
                          have x3 := hv 3 (by decide)
                          have x4 := hv 4 (by decide)
                          have x5 := hv 5 (by decide)
                          have x6 := hv 6 (by decide)
                          have x7 := hv 7 (by decide)
                          rw [hst] at x0 x1 x2 x3 x4 x5 x6 x7
                          simp only [List.getD_cons_zero, List.getD_cons_succ] at x0 x1 x2 x3 x4 x5 x6 x7
                          have ck := (own_below hk9 hB6).cellAt n (by omega)
                          rw [List.getElem?_map, List.getElem?_eq_getElem (by rw [HCL.out]; exact hnl), show cL[n]'(by rw [HCL.out]; exact hnl) = cL.getD n 0 by rw [List.getD_eq_getElem?_getD, List.getElem?_eq_getElem (by rw [HCL.out]; exact hnl)]; rfl] at ck
                          have cw := (own_below hwn9 hB6).cellAt n (by omega)
                          rw [List.getElem?_map, List.getElem?_eq_getElem (by rw [HPWL.out]; exact hnl), show pw[n]'(by rw [HPWL.out]; exact hnl) = pw.getD n 0 by rw [List.getD_eq_getElem?_getD, List.getElem?_eq_getElem (by rw [HPWL.out]; exact hnl)]; rfl] at cw
                          obtain ⟨kk, hkk⟩ : ∃ kk, kk = cL.getD n 0 := ⟨_, rfl⟩
                          obtain ⟨ww, hww⟩ : ∃ ww, ww = pw.getD n 0 := ⟨_, rfl⟩
                          rw [← hkk] at ck
                          rw [← hww] at cw
                          have ck' : wr.cell? ⟨g3, n, none⟩ = some (.int .u32 kk) := by simpa using ck
                          have cw' : wr.cell? ⟨g9, n, none⟩ = some (.int .u32 ww) := by simpa using cw
                          have HST : Hid (stepsL hl pw (n + 1) = stepL [a, b, c', d, e, f, g', i] kk ww) := Lib.hid (by
                            rw [← hst, hkk, hww, HcL.out]; rfl)
                          clear hst hkk hww ck cw hv hwn9 hh9 hk9
                          go_wp2_with fail
                          go_quiet (fail)
                          rename Nat => q1
                          go_wp2_with fail
                          go_quiet ((go_at_call 24; exact rrorA _ _ (by decide) (by decide) _ _ _))
                          rename Nat => q2
                          go_wp2_with fail
                          go_quiet ((go_at_call 24; exact rrorA _ _ (by decide) (by decide) _ _ _))
                          rename Nat => q3
                          go_wp2_with fail
                          have hB7 := below_drewN' (below_drewN' hB6 (q1 + q2)) q3
                          obtain ⟨W5, hW5⟩ : ∃ W5, W5 = (wr.drewN (q1 + q2)).drewN q3 := ⟨_, rfl⟩
                          have y0 : W5.cell? ⟨g, 0, none⟩ = some (.int .u32 a) := by rw [hW5]; exact x0
                          have y1 : W5.cell? ⟨g, 1, none⟩ = some (.int .u32 b) := by rw [hW5]; exact x1
                          have y2 : W5.cell? ⟨g, 2, none⟩ = some (.int .u32 c') := by rw [hW5]; exact x2
                          have y3 : W5.cell? ⟨g, 3, none⟩ = some (.int .u32 d) := by rw [hW5]; exact x3
                          have y4 : W5.cell? ⟨g, 4, none⟩ = some (.int .u32 e) := by rw [hW5]; exact x4
                          have y5 : W5.cell? ⟨g, 5, none⟩ = some (.int .u32 f) := by rw [hW5]; exact x5
                          have y6 : W5.cell? ⟨g, 6, none⟩ = some (.int .u32 g') := by rw [hW5]; exact x6
                          rw [← hW5] at hB7 ⊢
                          clear hW5 x0 x1 x2 x3 x4 x5 x6 x7 ck' cw' hB6
                          go_still_tail 26, (by kernel_rfl)
                          change wpList _ _ _ _ _ W5.drew
                          replace hB7 := hB7.drew
                          generalize W5.drew = W6 at hB7 ⊢
                          clear y0 y1 y2 y3 y4 y5 y6
                          go_wp2_with fail
                          go_roundw
                          case rel =>
                            refine ⟨n + 1, W6.heap.size, 8, by omega, by go_num, rfl, by simp, by have := hB7.size; have := hB9s; omega, ?_, below_alloc' hB7 _⟩
                            intro j hj
                            rw [HST.out]
                            have : j = 0 ∨ j = 1 ∨ j = 2 ∨ j = 3 ∨ j = 4 ∨ j = 5 ∨ j = 6 ∨ j = 7 := by omega
                            rcases this with rfl | rfl | rfl | rfl | rfl | rfl | rfl | rfl <;> exact World.cell?_alloc_new _ _ _ _
                          case measure => simp [intOf]; omega
                        · obtain rfl : n = 64 := by omega
                          have hsl8 : (stepsL hl pw 64).length = 8 := stepsL_length hl pw 64 HL8.out
                          obtain ⟨xs, hxs⟩ : ∃ xs, xs = stepsL hl pw 64 := ⟨_, rfl⟩
                          rw [← hxs] at hv hsl8
                          have hh6 := own_below hh9 hB6
                          have hBW6 := hB.trans ((below_trans' hBo9 hB6).mono hs0)
                          have HXS := Lib.hid hxs
                          have HX8 := Lib.hid hsl8
                          clear hxs hsl8 hh9 hwn9 hk9
                          go_wp2_with fail
                          go_loopw [22] (fun t wv => ∃ (r : Nat) (L : List Int), r ≤ 8 ∧ t = .int .i64 r ∧ L.length = 8 ∧ (∀ j, j < 8 → L.getD j 0 = if j < r then (sumsL hl xs).getD j 0 else hl.getD j 0) ∧ wv.ownsRow W2.heap.size 24 1 (.slice (some ⟨g5, 0, none⟩) 8 c) 8 (L.map (Value.int .u32)) ∧ (∀ j, j < 8 → wv.cell? ⟨g, j, none⟩ = some (.int .u32 (xs.getD j 0))) ∧ Below W2.heap.size W2 wv) (fun t _ => 8 - (intOf t).toNat)
                          case atStart => exact ⟨0, hl, by omega, rfl, HL8.out, fun j _ => by rw [if_neg (by omega)], hh6, hv, hBW6⟩
                          case round =>
                            obtain ⟨r, L, hr, rfl, hLl, hL, hRL, hRX, hBv⟩ := hrel
                            clear hh6 hv hBW6
                            have HL := Lib.hid hL
                            have HLL := Lib.hid hLl
                            by_cases hrl : r < 8
                            · skip
                              have ch := hRL.cellAt r (by omega)
                              have fh := hRL.frozenAt r
                              have cx := hRX r hrl
                              have hLr := hL r hrl
                              rw [if_neg (by omega)] at hLr
                              rw [List.getElem?_map, List.getElem?_eq_getElem (by rw [HLL.out]; exact hrl), show L[r]'(by rw [HLL.out]; exact hrl) = L.getD r 0 by rw [List.getD_eq_getElem?_getD, List.getElem?_eq_getElem (by rw [HLL.out]; exact hrl)]; rfl, hLr] at ch
                              obtain ⟨u, hu⟩ : ∃ u, u = hl.getD r 0 := ⟨_, rfl⟩
                              obtain ⟨v, hv⟩ : ∃ v, v = xs.getD r 0 := ⟨_, rfl⟩
                              rw [← hu] at ch
                              rw [← hv] at cx
                              have ch' : wr.cell? ⟨g5, r, none⟩ = some (.int .u32 u) := by simpa using ch
                              have hsum : (sumsL hl xs).getD r 0 = (u + v) % 4294967296 := by
                                rw [hu, hv]
                                exact zip_get _ _ r (by rw [HL8.out]; exact hrl) (by rw [HX8.out]; exact hrl)
                              have HS := Lib.hid hsum
                              have hst5 := hRL.stored r (.int .u32 ((u + v) % 4294967296))
                              have HST5 := Lib.hid hst5
                              have HRX := Lib.hid hRX
                              clear hsum hu hv hL hLl hLr ch hst5 hRX
                              go_wp2_with fail
                              go_region
                              go_wp2
                              go_roundw
                              case rel =>
                                refine ⟨r + 1, L.set r ((u + v) % 4294967296), by omega, by go_num, by rw [List.length_set]; exact HLL.out, fun j hj => ?_, ?_, fun j hj => ?_, ?_⟩
                                · by_cases e1 : j = r
                                  · subst e1
                                    rw [if_pos (by omega), HS.out, List.getD_eq_getElem?_getD, List.getElem?_set_self (by rw [HLL.out]; exact hj)]; rfl
                                  · rw [List.getD_eq_getElem?_getD, List.getElem?_set_ne (by omega), ← List.getD_eq_getElem?_getD, HL.out j hj]
                                    by_cases e2 : j < r
                                    · rw [if_pos e2, if_pos (by omega)]
                                    · rw [if_neg e2, if_neg (by omega)]
                                · rw [List.map_set]; exact HST5.out.1.drew
                                · refine Eq.trans ?_ (HRX.out j hj)
                                  exact World.cell?_of_block (Below.heap_setCell _ _ _ _ hg5')
                                · exact (hBv.setCell (p := ⟨g5, r, none⟩) (hRL.lt g5 rfl).1 _).drew
                              case measure => simp [intOf]; omega
                            · have hfin : L = sumsL hl xs := by
                                apply List.ext_getElem
                                · rw [HLL.out]; unfold sumsL; rw [List.length_zipWith, HL8.out, HX8.out]; rfl
                                · intro j h1 h2
                                  have := hL j (by omega)
                                  rw [if_pos (by omega), List.getD_eq_getElem?_getD, List.getD_eq_getElem?_getD, List.getElem?_eq_getElem h1, List.getElem?_eq_getElem h2] at this
                                  simpa using this
                              have hfin2 : Hid (L = hashN P.data.toList (k + 1)) := Lib.hid (by
                                rw [hfin, hhs.out, ← HHL.out, HXS.out, HPW.out]; rfl)
                              clear hL hfin hLl
                              go_wp2_with fail
                              go_roundw
                              case rel => exact ⟨k + 1, by omega, by go_num, by rw [← hfin2.out]; exact hRL, hBv⟩
                              case measure => simp [intOf]; omega
            · obtain rfl : k = m := by omega
              have hfl := hashN_length P.data.toList k
              have hbd := hashN_bd P.data.toList k
              obtain ⟨hl, hhl⟩ : ∃ hl, hl = hashN P.data.toList k := ⟨_, rfl⟩
              rw [← hhl] at hh hfl hbd
              have hW : Hid (shaB s.data.toList = strOfNums (outL hl)) := Lib.hid (by
                rw [hhl]; unfold shaB; rw [← HPP.out, HM.out, HPP.out])
              have HBD := Lib.hid hbd
              have HFL8 := Lib.hid hfl
              clear hfl hhl hbd
              go_wp2_with fail
              go_loopw [23, 24] (fun o t wv => ∃ j : Nat, j ≤ 8 ∧ t = .int .i64 j ∧ o = .string (strOfNums (outL (hl.take j))) ∧ Below wr.heap.size wr wv) (fun _ t _ => 8 - (intOf t).toNat)
              case atStart => exact ⟨0, by omega, rfl, rfl, Below.refl _ _⟩
              case round =>
                obtain ⟨wo, hwo⟩ : ∃ wo : World, wo = wr := ⟨_, rfl⟩
                obtain ⟨j, hj, rfl, rfl, hBr⟩ := hrel
                by_cases hjl : j < 8
                · have ch := (own_below hh hBr).cellAt j (by omega)
                  rw [List.getElem?_map, List.getElem?_eq_getElem (by rw [HFL8.out]; exact hjl), show hl[j]'(by rw [HFL8.out]; exact hjl) = hl.getD j 0 by rw [List.getD_eq_getElem?_getD, List.getElem?_eq_getElem (by rw [HFL8.out]; exact hjl)]; rfl] at ch
                  have htk : hl.take (j + 1) = hl.take j ++ [hl.getD j 0] := by
                    rw [List.take_succ_eq_append_getElem (by rw [HFL8.out]; exact hjl), List.getD_eq_getElem?_getD, List.getElem?_eq_getElem]; rfl
                  obtain ⟨v, hv⟩ : ∃ v, v = hl.getD j 0 := ⟨_, rfl⟩
                  rw [← hv] at htk ch
                  have hvb := HBD.out _ (getD_mem hl j (by rw [HFL8.out]; exact hjl))
                  rw [← hv] at hvb
                  obtain ⟨hvb0, hvb1⟩ := hvb
                  have ch' : wr.cell? ⟨g5, j, none⟩ = some (.int .u32 v) := by simpa using ch
                  have hso : (strOfNums (outL (hl.take j))).size ≤ 64 := by rw [strOfNums_size, outL_length, List.length_take]; omega
                  have hsn : Hid (strOfNums (outL (hl.take (j + 1))) = strOfNums (outL (hl.take j)) ++ strOfNums (bigB v 4)) := Lib.hid (by rw [htk, outL_snoc, strOfNums_append])
                  have hsb : (strOfNums (bigB v 4)).size = 4 := by rw [strOfNums_size, bigB_length]
                  obtain ⟨o, ho⟩ : ∃ o, o = strOfNums (outL (hl.take j)) := ⟨_, rfl⟩
                  rw [← ho] at hso hsn ⊢
                  clear hv htk ho ch
                  go_wp2_with fail
                  refine (rbig_any v 4 (by decide) _).mono ?_
                  rintro e w8 ⟨rfl, hb8⟩
                  have hBr8 := below_trans' hBr hb8
                  go_wp2_with fail
                  go_roundw
                  case rel => exact ⟨j + 1, by omega, by go_num, by rw [hsn.out], hBr8⟩
                  case measure => simp [intOf]; omega
                · obtain rfl : j = 8 := by omega
                  go_wp2_with fail
                  go_ret
                  refine ⟨ret_str ?_, ?_⟩
                  · rw [hW.out, List.take_of_length_le (Nat.le_of_eq HFL8.out)]
                  · exact below_trans' hB2' (hB.trans (hBr.mono hB.size))

end Go.Proofs.Ytembegffmodlhaa
