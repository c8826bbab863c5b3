/- Walks: the document's hash. -/
import Derived.Test.YtojmbbapcnfibaaX
import Derived.StillTailTactics
namespace Go.Proofs.Ytojmbbapcnfibaa
open Go.RowKit

/-- How long a text is. -/
def lenOf : Value → Nat
  | .string s => s.size
  | _ => 0

set_option maxHeartbeats 400000 in
theorem rrorQ (x : Int) (n : Nat) (h0 : 0 < n) (h1 : n < 64) (w : World) :
    Calls Try.prog 21 #[.int .u64 x, .int .i64 (n : Int)] w fun e w' => e = .returned (.int .u64 (rorI x n)) ∧ ∃ m, w' = w.drewN m := by
  obtain ⟨m, hm⟩ : ∃ m : Nat, m + n = 64 := ⟨64 - n, by omega⟩
  have hm1 : m ≤ 64 := by omega
  have hm2 : (64 : Int) - (n : Int) = (m : Int) := by omega
  have HM := Lib.hid hm
  clear hm
  go_enter Try.func21, Try.ntmps21
  go_wp2_with fail
  go_quiet (fail)
  go_wp2
  go_ret
  refine ⟨ret_int ?_, _, rfl⟩
  unfold rorI
  rw [show 64 - n = m by have := HM.out; omega, or_comm_u64]
theorem drewN_add (w : World) (a b : Nat) : (w.drewN a).drewN b = w.drewN (a + b) := by
  unfold World.drewN
  rw [Nat.add_assoc]
theorem rrorZ (x : Int) (n : Int) (h0 : 0 < n) (h1 : n < 64) (w : World) :
    Calls Try.prog 21 #[.int .u64 x, .int .i64 n] w fun e w' => e = .returned (.int .u64 (rorI x n.toNat)) ∧ ∃ m, w' = w.drewN m := by
  obtain ⟨m, rfl⟩ := Int.eq_ofNat_of_zero_le (show 0 ≤ n by omega)
  exact rrorQ x m (by omega) (by omega) w
theorem rrorD (x : Int) (n : Int) (h0 : 0 < n) (h1 : n < 64) (w : World) (a : Nat) :
    Calls Try.prog 21 #[.int .u64 x, .int .i64 n] (w.drewN a) fun e w' => e = .returned (.int .u64 (rorI x n.toNat)) ∧ ∃ m, w' = w.drewN m :=
  (rrorZ x n h0 h1 _).mono fun _ _ ⟨he, m, hm⟩ => ⟨he, a + m, by rw [hm, drewN_add]⟩

theorem rrorA (x : Int) (n : Int) (h0 : 0 < n) (h1 : n < 64) (w : World) (a m : Nat) :
    Calls Try.prog 21 #[.int .u64 x, .int .i64 n] (w.drewN (a + m)) fun e w' => e = .returned (.int .u64 (rorI x n.toNat)) ∧ ∃ k, w' = w.drewN (a + k) :=
  (rrorZ x n h0 h1 _).mono fun _ _ ⟨he, k, hk⟩ => ⟨he, m + k, by rw [hk, drewN_add, Nat.add_assoc]⟩

set_option maxRecDepth 100000 in
set_option maxHeartbeats 4000000 in
theorem rwide_any (s : ByteArray) (hs : s.size ≤ 1000) (w : World) :
    Calls Try.prog 11 #[.string s] w fun e w' => e = .returned (.string (wideS s)) ∧ Below w.heap.size w w' := by
  obtain ⟨i0, hi, hz0, hz1, hz2⟩ := info_parts infoU64
  have hpad := Lib.hid (padR_eq s hs)
  have hpadS : (padL s.data.toList).size = s.size + 1 + fillN s.size + 16 := padL_size _
  have hblk := blkN_mul s.size
  have HBLK := Lib.hid hblk
  have HPS := Lib.hid hpadS
  clear hblk hpadS
  go_enter Try.func11, Try.ntmps11
  go_wp2_with fail
  refine (rconsts_any _).mono ?_
  rintro e W1 ⟨v3, rfl, hk1, hB1⟩
  obtain ⟨o3, k3, rfl, hg3⟩ := own_shape hk1
  obtain ⟨g3, rfl⟩ := hg3 (by decide)
  clear hg3
  obtain ⟨cL, hcL⟩ : ∃ cL, cL = constsL := ⟨_, rfl⟩
  have hcl : cL.length = 80 := by rw [hcL]; rfl
  rw [← hcL] at hk1
  have HCL := Lib.hid hcl
  have HcL := Lib.hid hcL
  clear hcl hcL
  go_wp2_with fail
  refine (primes_any 8 (by decide) _).mono ?_
  rintro e W2 ⟨v4, rfl, hp2, hB2⟩
  obtain ⟨o4, k4, rfl, hg4⟩ := own_shape hp2
  obtain ⟨g4, rfl⟩ := hg4 (by decide)
  clear hg4
  have hk2 := own_below hk1 hB2
  have hB2' := below_trans' hB1 hB2
  have hpl : ((prL 408).take 8).length = 8 := by rw [List.length_take, prL_408]; rfl
  have hrf := roots_first
  have hpg : ∀ i, i < 8 → ((prL 408).take 8).getD i 0 = (prL 408).getD i 0 := fun i hi => by
    rw [List.getD_eq_getElem?_getD, List.getElem?_take_of_lt hi, ← List.getD_eq_getElem?_getD]
  have hrf' : ∀ i, i < 8 → ((rootP [0, 0, ((prL 408).take 8).getD i 0, 0] false 70).x).getD 0 0 = firstL.getD i 0 := fun i hi => by rw [hpg i hi]; exact hrf i hi
  obtain ⟨pL, hpL⟩ : ∃ pL, pL = (prL 408).take 8 := ⟨_, rfl⟩
  obtain ⟨fL, hfL⟩ : ∃ fL, fL = firstL := ⟨_, rfl⟩
  rw [← hpL] at hp2 hpl hrf'
  rw [← hfL] at hrf'
  have hfl : fL.length = 8 := by rw [hfL]; rfl
  have HPL := Lib.hid hpl
  have HRF := Lib.hid hrf'
  have HFL := Lib.hid hfl
  have HfL := Lib.hid hfL
  clear hpl hrf hpg hrf' hpL hfL hfl hk1 hB1 hB2
  go_wp2_with fail
  go_loopw [5, 6] (fun v i wr => ∃ k : Nat, k ≤ 8 ∧ i = .int .i64 k ∧ wr.ownsRow W2.heap.size 25 1 v k ((fL.take k).map (Value.int .u64)) ∧ Below W2.heap.size W2 wr) (fun _ i _ => 8 - (intOf i).toNat)
  case atStart => exact ⟨0, by omega, rfl, World.ownsRow_nil _ _ _ _, Below.refl _ _⟩
  case round =>
    obtain ⟨k, hk, rfl, hown, hB⟩ := hrel
    obtain ⟨o, c, rfl, hg⟩ := own_shape hown
    have hs1 := hB.size
    by_cases hlt : k < 8
    · skip
      have hcell := (own_below hp2 hB).cellAt k (by omega)
      rw [List.getElem?_map, List.getElem?_eq_getElem (by rw [HPL.out]; exact hlt), show pL[k]'(by rw [HPL.out]; exact hlt) = pL.getD k 0 by rw [List.getD_eq_getElem?_getD, List.getElem?_eq_getElem (by rw [HPL.out]; exact hlt)]; rfl] at hcell
      have hrt := HRF.out k hlt
      obtain ⟨y, hy⟩ : ∃ y, y = pL.getD k 0 := ⟨_, rfl⟩
      rw [← hy] at hcell hrt
      have hcell' : wr.cell? ⟨g4, k, none⟩ = some (.int .u64 y) := by simpa using hcell
      obtain ⟨r0, r1, r2, r3, hr⟩ := four _ (rootP_length [0, 0, y, 0] false 70).1
      rw [hr] at hrt
      have HT : Hid ((fL.take (k + 1)).map (Value.int .u64) = (fL.take k).map (Value.int .u64) ++ [.int .u64 r0]) := Lib.hid (by
        have h80 : k < fL.length := by rw [HFL.out]; exact hlt
        rw [List.take_succ_eq_append_getElem h80, List.map_append, show fL[k] = r0 by
          have : fL.getD k 0 = fL[k] := by rw [List.getD_eq_getElem?_getD, List.getElem?_eq_getElem h80]; rfl
          rw [← this, ← hrt]; rfl]
        rfl)
      have hix := idx42 r0 r1 r2 r3
      have HRU := Lib.hid (root_any 0 0 y 0 2 false (by decide) r0 r1 r2 r3 hr)
      clear hcell hrt hy hr
      go_wp2_with fail
      refine (HRU.out _).mono ?_
      rintro e w1 ⟨rfl, hb1⟩
      have hown1 := own_below hown hb1
      have hB1 := hB.trans (hb1.mono hs1)
      have hs2 := hB1.size
      clear hown hB hb1 hcell' hs1 HRU
      go_wp2_with (at_builtin; refine wpList_append_own _ rfl _ _ 22 rfl W2.heap.size 25 i0 (.int .u64 0) 1 8 Try.underlying22 hi hz0 hz1 hz2 rfl (by decide) _ _ _ rfl (hown1.alloc _) ⟨w1.heap.size, 0, none⟩ 1 1 [.int .u64 r0] rfl rfl ?c1 ?c2 ?c3 ?c4 ?c5 ?_)
      case c1 => exact cell_one_new _ _ _
      case c2 => simp [Value.oneCell']
      case c3 => unfold maxLen; omega
      case c4 => omega
      case c5 => first | omega | (simp; omega)
      intro v' w2 hown' hgrow _
      have hB' := (hB1.alloc hs2 (.cells #[.int .u64 r0] 25)).grown hgrow (by simp; omega) (fun j hj => (hown1.lt j hj).1)
      clear hown1 hB1 hgrow
      go_wp2_with fail
      go_roundw
      case rel => exact ⟨k + 1, by omega, by go_num, by rw [HT.out, List.map_take]; exact hown', hB'⟩
      case measure => simp [intOf]; omega
    · obtain rfl : k = 8 := by omega
      obtain ⟨g5, rfl⟩ := hg (by decide)
      clear hg
      rw [List.take_of_length_le (Nat.le_of_eq HFL.out)] at hown
      clear hp2
      have hT : (s ++ ⟨#[128]⟩ : ByteArray).size = s.size + 1 := by rw [ByteArray.size_append]; rfl
      obtain ⟨T, hTe⟩ : ∃ T, T = s ++ ⟨#[128]⟩ := ⟨_, rfl⟩
      rw [← hTe] at hT hpad
      have HT := Lib.hid hTe
      clear hTe
      go_wp2_with fail
      go_loop [0] (fun x => ∃ j : Nat, j ≤ fillN s.size ∧ x = .string (zer T j)) (fun x => 2000 - lenOf x)
      case atStart => exact ⟨0, by omega, by rw [← HT.out]; rfl⟩
      case round =>
        obtain ⟨j, hj, rfl⟩ := hrel
        have hzs := zer_size T j
        rw [hT] at hzs
        obtain ⟨Z, hZ⟩ : ∃ Z, Z = zer T j := ⟨_, rfl⟩
        obtain ⟨n1, hn1⟩ : ∃ n1, n1 = Z.size := ⟨_, rfl⟩
        have hn2 : n1 = s.size + 1 + j := by rw [hn1, hZ]; exact hzs
        have hzz : Z.size = n1 := hn1.symm
        rw [← hZ]
        have HZ := Lib.hid hZ
        have HN2 := Lib.hid hn2
        have hn3 : n1 ≤ 1500 := by unfold fillN at hj; omega
        by_cases hlt : j < fillN s.size
        · skip
          have hb : ((n1 : Int) % 128 != 112) = true := by
            have : (n1 : Int) % 128 ≠ 112 := by unfold fillN at hlt; omega
            simpa using this
          have hZ1 : Hid (zer T (j + 1) = Z ++ ⟨#[0]⟩) := Lib.hid (by rw [hZ]; rfl)
          have hZ2 : Hid ((Z ++ ⟨#[0]⟩ : ByteArray).size = n1 + 1) := Lib.hid (by rw [ByteArray.size_append, hzz]; rfl)
          clear hzs hZ hn1 hn2 hT
          go_wp2_with fail
          go_round
          case rel => exact ⟨j + 1, by omega, by rw [hZ1.out]⟩
          case measure => simp only [lenOf]; rw [hZ2.out, hzz]; omega
        · obtain rfl : j = fillN s.size := by omega
          have hb : ((n1 : Int) % 128 != 112) = false := by
            have : (n1 : Int) % 128 = 112 := by unfold fillN at hn2; omega
            simp [this]
          clear hzs hZ hn1 hn2 hT
          go_wp2_with fail
          refine (rbig_any 0 8 (by decide) _).mono ?_
          rintro e w5 ⟨rfl, hb5⟩
          have hb8 : (strOfNums (bigB 0 8)).size = 8 := by rw [strOfNums_size, bigB_length]
          have h5 := own_below hown hb5
          have hB5 := hB.trans (hb5.mono hs1)
          have hs5 := hB5.size
          obtain ⟨B0, hB0⟩ : ∃ B0, B0 = strOfNums (bigB 0 8) := ⟨_, rfl⟩
          rw [← hB0] at hb8 ⊢
          have HB0 := Lib.hid hB0
          have hz0 : (Z ++ B0).size = n1 + 8 := by rw [ByteArray.size_append, hzz, hb8]
          clear hown hB hb5 hs1 hB0
          go_wp2_with fail
          refine (rbig_any (s.size * 8) 8 (by decide) _).mono ?_
          rintro e w6 ⟨rfl, hb6⟩
          have hb9 : (strOfNums (bigB (s.size * 8) 8)).size = 8 := by rw [strOfNums_size, bigB_length]
          have h6 := own_below h5 hb6
          have hB6 := hB5.trans (hb6.mono hs5)
          obtain ⟨B1, hB1'⟩ : ∃ B1, B1 = strOfNums (bigB (s.size * 8) 8) := ⟨_, rfl⟩
          rw [← hB1'] at hb9 ⊢
          obtain ⟨P, hP⟩ : ∃ P, P = Z ++ B0 ++ B1 := ⟨_, rfl⟩
          have HPP : Hid (P = padL s.data.toList) := Lib.hid (by rw [hP, HZ.out, HB0.out, hB1']; exact hpad.out)
          have HP := Lib.hid hP
          have hPs : P.size = 128 * blkN s.size := by rw [HPP.out, HPS.out]; exact HBLK.out
          have hm2 : blkN s.size ≤ 100 := by unfold blkN fillN; omega
          obtain ⟨m, hm⟩ : ∃ m, m = blkN s.size := ⟨_, rfl⟩
          rw [← hm] at hPs hm2
          have HM := Lib.hid hm
          clear h5 hB5 hb6 hs5 hP hB1' hm hk hj hlt hb
          go_wp2_with fail
          rw [← HP.out]
          have h60 : w6.ownsRow W2.heap.size 25 1 (.slice (some ⟨g5, 0, none⟩) 8 c) 8 ((hashL (blks P 0)).map (Value.int .u64)) := by
            show w6.ownsRow W2.heap.size 25 1 (.slice (some ⟨g5, 0, none⟩) 8 c) 8 (firstL.map (Value.int .u64))
            rw [← HfL.out]; exact h6
          clear h6 HP hz0 hb8 hb9 HZ hzz hn3 HB0
          go_loopw [8] (fun i wr => ∃ k : Nat, k ≤ m ∧ i = .int .i64 (128 * k) ∧ wr.ownsRow W2.heap.size 25 1 (.slice (some ⟨g5, 0, none⟩) 8 c) 8 ((hashL (blks P k)).map (Value.int .u64)) ∧ Below W2.heap.size W2 wr) (fun i _ => 128 * m - (intOf i).toNat)
          case atStart => exact ⟨0, by omega, rfl, h60, hB6⟩
          case round =>
            obtain ⟨k, hk, rfl, hh, hB⟩ := hrel
            clear h60 hB6
            by_cases hlt : k < m
            · obtain ⟨wo, rfl⟩ : ∃ wo : World, wo = wr := ⟨_, rfl⟩
              have hbv := blk_val P m k hPs hlt
              have hbs : (blk P k).1.size = 128 := (blk P k).2
              have hsl : ∀ (j : Nat) (_ : j < 16) (w : World), (Instr.slice 9 (.string P) (some (.int .i64 (128 * (k : Int) + 8 * (j : Int)))) (some (.int .i64 (128 * (k : Int) + 8 * (j : Int) + 8))) none).run Try.prog w = .ok (.string ((blk P k).1.extract (8 * j) (8 * j + 8))) w := fun j hj w => by
                have h1 := run_slice_string (P := Try.prog) w 9 P .i64 .i64 (128 * (k : Int) + 8 * (j : Int)) (128 * (k : Int) + 8 * (j : Int) + 8) Try.underlying9 (by omega) (by omega) (by omega)
                rw [h1, hbv]
                congr 2
                rw [ByteArray.extract_extract]
                congr 1 <;> omega
              have HSL := Lib.hid hsl
              obtain ⟨x, hx⟩ : ∃ x, x = (blk P k).1 := ⟨_, rfl⟩
              have hhs : Hid (hashL (blks P (k + 1)) = nextL (hashL (blks P k)) x.data.toList) := Lib.hid (by rw [blks_succ, hashL_snoc, hx])
              simp only [← hx] at hsl hbs
              have HXB := Lib.hid hbs
              have HSL := Lib.hid hsl
              clear hsl hbv hx hbs
              have hs0 := hB.size
              go_wp2_with fail
              go_loopw [9, 10] (fun v i wr => ∃ j : Nat, j ≤ 16 ∧ i = .int .i64 j ∧ wr.ownsRow wo.heap.size 25 1 v j ((rowP x.data.toList j).map (Value.int .u64)) ∧ Below wo.heap.size wo wr) (fun _ i _ => 16 - (intOf i).toNat)
              case atStart => exact ⟨0, by omega, rfl, World.ownsRow_nil _ _ _ _, Below.refl _ _⟩
              case round =>
                obtain ⟨j, hj, rfl, hwn, hBo⟩ := hrel
                obtain ⟨o9, c9, rfl, hg9⟩ := own_shape hwn
                have hs1 := hBo.size
                by_cases hjl : j < 16
                · skip
                  have hsl := HSL.out j hjl
                  obtain ⟨y, hy⟩ : ∃ y, y = x.extract (8 * j) (8 * j + 8) := ⟨_, rfl⟩
                  have hy8 : y.size = 8 := by rw [hy, ByteArray.size_extract, HXB.out]; omega
                  have HR : Hid ((rowP x.data.toList (j + 1)).map (Value.int .u64) = (rowP x.data.toList j).map (Value.int .u64) ++ [.int .u64 (bigF y.data.toList)]) := Lib.hid (by
                    show (rowP x.data.toList j ++ [nextW x.data.toList (rowP x.data.toList j) j]).map (Value.int .u64) = _
                    unfold nextW
                    rw [if_pos hjl, hy, List.map_append, ByteArray.data_extract]
                    simp)
                  rw [← hy] at hsl
                  have hyz : y.size ≤ 1000 := by omega
                  clear hy hy8
                  go_wp2_with fail
                  refine (rbigS_any y hyz _).mono ?_
                  rintro e w7 ⟨rfl, rfl⟩
                  go_wp2_with (at_builtin; refine wpList_append_own _ rfl _ _ 22 rfl wo.heap.size 25 i0 (.int .u64 0) 1 8 Try.underlying22 hi hz0 hz1 hz2 rfl (by decide) _ _ _ rfl (hwn.alloc _) ⟨wr.heap.size, 0, none⟩ 1 1 [.int .u64 (bigF y.data.toList)] rfl rfl ?d1 ?d2 ?d3 ?d4 ?d5 ?_)
                  case d1 => exact cell_one_new _ _ _
                  case d2 => simp [Value.oneCell']
                  case d3 => unfold maxLen; omega
                  case d4 => omega
                  case d5 => first | omega | (simp; omega)
                  intro v' w8 hwn' hgrow _
                  have hBo' := (hBo.alloc hs1 (.cells #[.int .u64 (bigF y.data.toList)] 25)).grown hgrow (by simp; omega) (fun j hj => (hwn.lt j hj).1)
                  clear hwn hBo hgrow
                  go_wp2_with fail
                  go_roundw
                  case rel => exact ⟨j + 1, by omega, by go_num, by rw [HR.out]; exact hwn', hBo'⟩
                  case measure => simp [intOf]; omega
                · obtain rfl : j = 16 := by omega
                  clear hg9
                  go_wp2_with fail
                  go_loopw [9, 11] (fun v i wr => ∃ j : Nat, 16 ≤ j ∧ j ≤ 80 ∧ i = .int .i64 j ∧ wr.ownsRow wo.heap.size 25 1 v j ((rowP x.data.toList j).map (Value.int .u64)) ∧ Below wo.heap.size wo wr) (fun _ i _ => 80 - (intOf i).toNat)
                  case atStart => exact ⟨16, by omega, by omega, rfl, hwn, hBo⟩
                  case round =>
                    obtain ⟨j, hj16, hj, rfl, hwn, hBo⟩ := hrel
                    obtain ⟨o9, c9, rfl, hg9⟩ := own_shape hwn
                    obtain ⟨g9, rfl⟩ := hg9 (by omega)
                    clear hg9
                    have hs1 := hBo.size
                    by_cases hjl : j < 80
                    · skip
                      have hcell : ∀ i, i < j → ∀ W, Below wr.heap.size wr W → W.cell? ⟨g9, i, none⟩ = some (.int .u64 ((rowP x.data.toList j).getD i 0)) := fun i hi W hW => by
                        have hl := rowP_length x.data.toList j
                        rw [(own_below hwn hW).cellAt i (by omega), List.getElem?_map, List.getElem?_eq_getElem (by rw [hl]; exact hi), List.getD_eq_getElem?_getD, List.getElem?_eq_getElem (by rw [hl]; exact hi)]; rfl
                      obtain ⟨a, ha⟩ : ∃ a, a = (rowP x.data.toList j).getD (j - 15) 0 := ⟨_, rfl⟩
                      obtain ⟨b, hb⟩ : ∃ b, b = (rowP x.data.toList j).getD (j - 2) 0 := ⟨_, rfl⟩
                      obtain ⟨c16, hc16⟩ : ∃ c16, c16 = (rowP x.data.toList j).getD (j - 16) 0 := ⟨_, rfl⟩
                      obtain ⟨c7, hc7⟩ : ∃ c7, c7 = (rowP x.data.toList j).getD (j - 7) 0 := ⟨_, rfl⟩
                      have HR : Hid ((rowP x.data.toList (j + 1)).map (Value.int .u64) = (rowP x.data.toList j).map (Value.int .u64) ++ [.int .u64 (IntKind.u64.wrap (IntKind.u64.wrap (IntKind.u64.wrap (c16 + Go.bits .xor .u64 (Go.bits .xor .u64 (rorI a 1) (rorI a 8)) (a / 128)) + c7) + Go.bits .xor .u64 (Go.bits .xor .u64 (rorI b 19) (rorI b 61)) (b / 64)))]) := Lib.hid (by
                        show (rowP x.data.toList j ++ [nextW x.data.toList (rowP x.data.toList j) j]).map (Value.int .u64) = _
                        unfold nextW
                        rw [if_neg (by omega), ← ha, ← hb, ← hc16, ← hc7, List.map_append]
                        rfl)
                      have hj15 : (16 : Int) ≤ (j : Int) := by omega
                      obtain ⟨i15, hi15⟩ : ∃ i : Nat, i = j - 15 := ⟨_, rfl⟩
                      obtain ⟨i2, hi2⟩ : ∃ i : Nat, i = j - 2 := ⟨_, rfl⟩
                      obtain ⟨i16, hi16⟩ : ∃ i : Nat, i = j - 16 := ⟨_, rfl⟩
                      obtain ⟨i7, hi7⟩ : ∃ i : Nat, i = j - 7 := ⟨_, rfl⟩
                      have e15 : (j : Int) - 15 = i15 := by omega
                      have e2 : (j : Int) - 2 = i2 := by omega
                      have e16 : (j : Int) - 16 = i16 := by omega
                      have e7 : (j : Int) - 7 = i7 := by omega
                      have b15 : i15 < j := by omega
                      have b2 : i2 < j := by omega
                      have b16 : i16 < j := by omega
                      have b7 : i7 < j := by omega
                      have w16 : IntKind.i64.wrap (i16 : Int) = i16 := by rw [IntKind.wrap_i64]; omega
                      have w7 : IntKind.i64.wrap (i7 : Int) = i7 := by rw [IntKind.wrap_i64]; omega
                      have k15 := hcell i15 b15 wr (Below.refl _ _)
                      have k2 := hcell i2 b2 wr (Below.refl _ _)
                      have k16 := hcell i16 b16
                      have k7 := hcell i7 b7
                      rw [hi15, ← ha, ← hi15] at k15
                      rw [hi2, ← hb, ← hi2] at k2
                      simp only [hi16, ← hc16] at k16
                      simp only [← hi16] at k16
                      simp only [hi7, ← hc7] at k7
                      simp only [← hi7] at k7
                      have K16 := Lib.hid k16
                      have K7 := Lib.hid k7
                      clear hcell ha hb hc16 hc7 hi15 hi2 hi16 hi7 k16 k7
                      go_wp2_with fail
                      go_quiet (fail)
                      go_wp2_with fail
                      refine (rrorZ _ _ (by decide) (by decide) _).mono ?_
                      rintro e w1 ⟨rfl, m1, rfl⟩
                      go_wp2_with fail
                      refine (rrorZ _ _ (by decide) (by decide) _).mono ?_
                      rintro e w1 ⟨rfl, m2, rfl⟩
                      go_wp2_with fail
                      refine (rrorZ _ _ (by decide) (by decide) _).mono ?_
                      rintro e w1 ⟨rfl, m3, rfl⟩
                      go_wp2_with fail
                      refine (rrorZ _ _ (by decide) (by decide) _).mono ?_
                      rintro e w1 ⟨rfl, m4, rfl⟩
                      have hBn := below_drewN' (below_drewN' (Below.refl wr.heap.size wr) (nq + m1 + m2 + m3)) m4
                      obtain ⟨W4, hW4⟩ : ∃ W4, W4 = (wr.drewN (nq + m1 + m2 + m3)).drewN m4 := ⟨_, rfl⟩
                      rw [← hW4] at hBn ⊢
                      have k16 := K16.out W4 hBn
                      have k7 := K7.out W4 hBn
                      have hwn4 := own_below hwn hBn
                      have hBo4 := below_trans' hBo hBn
                      have hs4 := hBo4.size
                      clear hW4 hBn hwn hBo k15 k2 hs1
                      obtain ⟨val, hval⟩ : ∃ val, val = IntKind.u64.wrap (IntKind.u64.wrap (IntKind.u64.wrap (c16 + Go.bits .xor .u64 (Go.bits .xor .u64 (rorI a 1) (rorI a 8)) (a / 128)) + c7) + Go.bits .xor .u64 (Go.bits .xor .u64 (rorI b 19) (rorI b 61)) (b / 64)) := ⟨_, rfl⟩
                      rw [← hval] at HR
                      have HV := Lib.hid hval
                      have hnews : ∀ (t : Nat) (u : Value), [Value.int .u64 val][t]? = some u → (W4.alloc (.cells #[.int .u64 val] 25)).drew.cell? ((⟨W4.heap.size, 0, none⟩ : Addr).add t) = some u :=
                        World.news_of_block (w := (W4.alloc (.cells #[.int .u64 val] 25)).drew) (heap_alloc_new W4 _)
                      have hownD := (hwn4.alloc (.cells #[.int .u64 val] 25)).drew
                      have hone : ∀ u ∈ [Value.int .u64 val], u.oneCell' = true := by simp [Value.oneCell']
                      have hbase : wo.heap.size ≤ (W4.alloc (.cells #[.int .u64 val] 25)).drew.heap.size := by simp; omega
                      have s1 := Lib.hid hnews
                      have s2 := Lib.hid hownD
                      have s3 := Lib.hid hone
                      have s4 := Lib.hid hbase
                      have hB1 := (hBo4.alloc hs4 (.cells #[.int .u64 val] 25)).drew
                      have s5 := Lib.hid hB1
                      have s6 := Lib.hid hwn4
                      clear hnews hownD hone hbase hB1 hwn4 hBo4
                      subst hval
                      go_upto_region 27 with fail
                      go_region_law (refine step_append_lies _ rfl (.tmp 114) (.tmp 130) 22 rfl wo.heap.size 25 i0 (.int .u64 0) 1 8 Try.underlying22 hi hz0 hz1 hz2 rfl (by decide) (.slice (some ⟨g9, 0, none⟩) j c9) j _ (by simp [Act.eval]) s2.out ⟨W4.heap.size, 0, none⟩ 1 1 _ (by simp [Act.eval]) rfl s1.out s3.out (by decide) (by unfold maxLen; omega) (by omega) s4.out _ rfl ?_; intro g' cap' w2 hown2 hgrow2 hor2 hlt2)
                      all_goals
                        have hB2 := s5.out.grown hgrow2 s4.out (fun t ht => (s6.out.lt t ht).1)
                        clear hgrow2 hor2 hlt2
                        go_wp2_with fail
                        go_roundw
                      all_goals first
                        | exact ⟨j + 1, by omega, by omega, by go_num, by rw [HR.out]; exact hown2, hB2⟩
                        | (simp [intOf]; omega)
                        | ((repeat apply Exists.intro); exact ⟨⟨j + 1, by omega, by omega, by go_num, by rw [HR.out]; exact hown2, hB2⟩, rfl⟩)
                    · obtain rfl : j = 80 := by omega
                      obtain ⟨hl, hhl⟩ : ∃ hl, hl = hashL (blks P k) := ⟨_, rfl⟩
                      have hl8 : hl.length = 8 := by rw [hhl]; exact hashL_length _
                      have hh1 := own_below hh hBo
                      rw [← hhl] at hh1
                      have HHL := Lib.hid hhl
                      have HL8 := Lib.hid hl8
                      clear hhl hl8
                      have hv0 : (wr.alloc (.cells #[] 25)).ownsRow wr.heap.size 25 1 (.slice (some ⟨wr.heap.size, 0, none⟩) 0 0) 0 [] :=
                        ⟨by simp, .inr ⟨wr.heap.size, 0, #[], rfl, Nat.le_refl _, heap_alloc_new _ _, Nat.le_refl _, by unfold maxLen; omega, by simp, by simp⟩⟩
                      have HH1 := Lib.hid hh1
                      clear hh1
                      go_wp2_with (at_builtin; refine wpList_append_own _ rfl _ _ 22 rfl wr.heap.size 25 i0 (.int .u64 0) 1 8 Try.underlying22 hi hz0 hz1 hz2 rfl (by decide) _ _ _ rfl hv0 ⟨g5, 0, none⟩ 8 c (hl.map (Value.int .u64)) rfl ?e0 ?e1 ?e2 ?e3 ?e4 ?e5 ?_)
                      case e0 => rw [List.length_map, HL8.out]
                      case e1 => exact (HH1.out.alloc _).cells rfl
                      case e2 =>
                        intro u hu
                        obtain ⟨z, _, rfl⟩ := List.mem_map.1 hu
                        rfl
                      case e3 => unfold maxLen; omega
                      case e4 => omega
                      case e5 => simp
                      intro v' w9 hv' hgrow _
                      have hB9 : Below wr.heap.size wr w9 := (below_alloc' (Below.refl wr.heap.size wr) (.cells #[] 25)).grown hgrow (by simp) (fun j hj => by cases hj; exact Nat.le_refl _)
                      obtain ⟨v1, cv, rfl, hgv⟩ := own_shape hv'
                      obtain ⟨gv, rfl⟩ := hgv (by decide)
                      clear hgv
                      have hg5 : g5 < wr.heap.size := (HH1.out.lt g5 rfl).2
                      have hgv5 : gv ≠ g5 := by have := (hv'.lt gv rfl).1; omega
                      have hwn9 := own_below hwn hB9
                      have hh9 := own_below HH1.out hB9
                      have hBo9 := below_trans' hBo hB9
                      have hk9 := own_below hk2 (hB.trans (hBo9.mono hs0))
                      have hcv : ∀ j, j < 8 → w9.cell? ⟨gv, j, none⟩ = some (.int .u64 (hl.getD j 0)) := fun j hj => by
                        rw [hv'.cellAt j (by omega), List.getElem?_map, List.getElem?_eq_getElem (by rw [HL8.out]; exact hj), List.getD_eq_getElem?_getD, List.getElem?_eq_getElem (by rw [HL8.out]; exact hj)]; rfl
                      have hB9s := hB9.size
                      clear hv0 hgrow HH1 hwn hBo hB9 hs1 hv'
                      obtain ⟨pw, hpw⟩ : ∃ pw, pw = rowP x.data.toList 80 := ⟨_, rfl⟩
                      have hpl : pw.length = 80 := by rw [hpw]; exact rowP_length _ _
                      rw [← hpw] at hwn9
                      have HPW := Lib.hid hpw
                      have HPWL := Lib.hid hpl
                      clear hpw hpl
                      go_wp2_with fail
                      go_loopw [16, 17] (fun v t wr => ∃ (n g cp : Nat), n ≤ 80 ∧ t = .int .i64 n ∧ v = .slice (some ⟨g, 0, none⟩) 8 cp ∧ g < wr.heap.size ∧ g ≠ g5 ∧ (∀ j, j < 8 → wr.cell? ⟨g, j, none⟩ = some (.int .u64 ((stepsL hl pw n).getD j 0))) ∧ Below w9.heap.size w9 wr) (fun _ t _ => 80 - (intOf t).toNat)
                      case atStart => exact ⟨0, gv, cv, by omega, rfl, rfl, World.block_lt_of_cell? _ _ (hcv 0 (by decide)), hgv5, hcv, Below.refl _ _⟩
                      case round =>
                        obtain ⟨n, g, cp, hn, rfl, rfl, hgl, hg5', hv, hB6⟩ := hrel
                        have hs6 := hB6.size
                        by_cases hnl : n < 80
                        · skip
                          obtain ⟨a, b, c', d, e, f, g', i, hst⟩ := eight _ (stepsL_length hl pw n HL8.out)
                          have x0 := hv 0 (by decide)
                          have x1 := hv 1 (by decide)
                          have x2 := hv 2 (by decide)
                          have x3 := hv 3 (by decide)
                          have x4 := hv 4 (by decide)
                          have x5 := hv 5 (by decide)
                          have x6 := hv 6 (by decide)
                          have x7 := hv 7 (by decide)
                          rw [hst] at x0 x1 x2 x3 x4 x5 x6 x7
                          simp only [List.getD_cons_zero, List.getD_cons_succ] at x0 x1 x2 x3 x4 x5 x6 x7
                          have ck := (own_below hk9 hB6).cellAt n (by omega)
                          rw [List.getElem?_map, List.getElem?_eq_getElem (by rw [HCL.out]; exact hnl), show cL[n]'(by rw [HCL.out]; exact hnl) = cL.getD n 0 by rw [List.getD_eq_getElem?_getD, List.getElem?_eq_getElem (by rw [HCL.out]; exact hnl)]; rfl] at ck
                          have cw := (own_below hwn9 hB6).cellAt n (by omega)
                          rw [List.getElem?_map, List.getElem?_eq_getElem (by rw [HPWL.out]; exact hnl), show pw[n]'(by rw [HPWL.out]; exact hnl) = pw.getD n 0 by rw [List.getD_eq_getElem?_getD, List.getElem?_eq_getElem (by rw [HPWL.out]; exact hnl)]; rfl] at cw
                          obtain ⟨kk, hkk⟩ : ∃ kk, kk = cL.getD n 0 := ⟨_, rfl⟩
                          obtain ⟨ww, hww⟩ : ∃ ww, ww = pw.getD n 0 := ⟨_, rfl⟩
                          rw [← hkk] at ck
                          rw [← hww] at cw
                          have ck' : wr.cell? ⟨g3, n, none⟩ = some (.int .u64 kk) := by simpa using ck
                          have cw' : wr.cell? ⟨g9, n, none⟩ = some (.int .u64 ww) := by simpa using cw
                          have HST : Hid (stepsL hl pw (n + 1) = stepL [a, b, c', d, e, f, g', i] kk ww) := Lib.hid (by
                            rw [← hst, hkk, hww, HcL.out]; rfl)
                          clear hst hkk hww ck cw hv hwn9 hh9 hk9
                          go_wp2_with fail
                          go_quiet (fail)
                          rename Nat => q1
                          go_wp2_with fail
                          go_quiet ((go_at_call 21; exact rrorA _ _ (by decide) (by decide) _ _ _))
                          rename Nat => q2
                          go_wp2_with fail
                          go_quiet ((go_at_call 21; exact rrorA _ _ (by decide) (by decide) _ _ _))
                          rename Nat => q3
                          go_wp2_with fail
                          have hB7 := below_drewN' (below_drewN' hB6 (q1 + q2)) q3
                          obtain ⟨W5, hW5⟩ : ∃ W5, W5 = (wr.drewN (q1 + q2)).drewN q3 := ⟨_, rfl⟩
                          have y0 : W5.cell? ⟨g, 0, none⟩ = some (.int .u64 a) := by rw [hW5]; exact x0
                          have y1 : W5.cell? ⟨g, 1, none⟩ = some (.int .u64 b) := by rw [hW5]; exact x1
                          have y2 : W5.cell? ⟨g, 2, none⟩ = some (.int .u64 c') := by rw [hW5]; exact x2
                          have y3 : W5.cell? ⟨g, 3, none⟩ = some (.int .u64 d) := by rw [hW5]; exact x3
                          have y4 : W5.cell? ⟨g, 4, none⟩ = some (.int .u64 e) := by rw [hW5]; exact x4
                          have y5 : W5.cell? ⟨g, 5, none⟩ = some (.int .u64 f) := by rw [hW5]; exact x5
                          have y6 : W5.cell? ⟨g, 6, none⟩ = some (.int .u64 g') := by rw [hW5]; exact x6
                          rw [← hW5] at hB7 ⊢
                          clear hW5 x0 x1 x2 x3 x4 x5 x6 x7 ck' cw' hB6
                          go_still_tail 26, (by kernel_rfl)
                          change wpList _ _ _ _ _ W5.drew
                          replace hB7 := hB7.drew
                          generalize W5.drew = W6 at hB7 ⊢
                          clear y0 y1 y2 y3 y4 y5 y6
                          go_wp2_with fail
                          go_roundw
                          case rel =>
                            refine ⟨n + 1, W6.heap.size, 8, by omega, by go_num, rfl, by simp, by have := hB7.size; have := hB9s; omega, ?_, below_alloc' hB7 _⟩
                            intro j hj
                            rw [HST.out]
                            have : j = 0 ∨ j = 1 ∨ j = 2 ∨ j = 3 ∨ j = 4 ∨ j = 5 ∨ j = 6 ∨ j = 7 := by omega
                            rcases this with rfl | rfl | rfl | rfl | rfl | rfl | rfl | rfl <;> exact World.cell?_alloc_new _ _ _ _
                          case measure => simp [intOf]; omega
                        · obtain rfl : n = 80 := by omega
                          have hsl8 : (stepsL hl pw 80).length = 8 := stepsL_length hl pw 80 HL8.out
                          obtain ⟨xs, hxs⟩ : ∃ xs, xs = stepsL hl pw 80 := ⟨_, rfl⟩
                          rw [← hxs] at hv hsl8
                          have hh6 := own_below hh9 hB6
                          have hBW6 := hB.trans ((below_trans' hBo9 hB6).mono hs0)
                          have HXS := Lib.hid hxs
                          have HX8 := Lib.hid hsl8
                          clear hxs hsl8 hh9 hwn9 hk9
                          go_wp2_with fail
                          go_loopw [22] (fun t wv => ∃ (r : Nat) (L : List Int), r ≤ 8 ∧ t = .int .i64 r ∧ L.length = 8 ∧ (∀ j, j < 8 → L.getD j 0 = if j < r then (sumsL hl xs).getD j 0 else hl.getD j 0) ∧ wv.ownsRow W2.heap.size 25 1 (.slice (some ⟨g5, 0, none⟩) 8 c) 8 (L.map (Value.int .u64)) ∧ (∀ j, j < 8 → wv.cell? ⟨g, j, none⟩ = some (.int .u64 (xs.getD j 0))) ∧ Below W2.heap.size W2 wv) (fun t _ => 8 - (intOf t).toNat)
                          case atStart => exact ⟨0, hl, by omega, rfl, HL8.out, fun j _ => by rw [if_neg (by omega)], hh6, hv, hBW6⟩
                          case round =>
                            obtain ⟨r, L, hr, rfl, hLl, hL, hRL, hRX, hBv⟩ := hrel
                            clear hh6 hv hBW6
                            have HL := Lib.hid hL
                            have HLL := Lib.hid hLl
                            by_cases hrl : r < 8
                            · skip
                              have ch := hRL.cellAt r (by omega)
                              have fh := hRL.frozenAt r
                              have cx := hRX r hrl
                              have hLr := hL r hrl
                              rw [if_neg (by omega)] at hLr
                              rw [List.getElem?_map, List.getElem?_eq_getElem (by rw [HLL.out]; exact hrl), show L[r]'(by rw [HLL.out]; exact hrl) = L.getD r 0 by rw [List.getD_eq_getElem?_getD, List.getElem?_eq_getElem (by rw [HLL.out]; exact hrl)]; rfl, hLr] at ch
                              obtain ⟨u, hu⟩ : ∃ u, u = hl.getD r 0 := ⟨_, rfl⟩
                              obtain ⟨v, hv⟩ : ∃ v, v = xs.getD r 0 := ⟨_, rfl⟩
                              rw [← hu] at ch
                              rw [← hv] at cx
                              have ch' : wr.cell? ⟨g5, r, none⟩ = some (.int .u64 u) := by simpa using ch
                              have hsum : (sumsL hl xs).getD r 0 = IntKind.u64.wrap (u + v) := by
                                rw [hu, hv]
                                exact zip_get _ _ r (by rw [HL8.out]; exact hrl) (by rw [HX8.out]; exact hrl)
                              have HS := Lib.hid hsum
                              have hst5 := hRL.stored r (.int .u64 (IntKind.u64.wrap (u + v)))
                              have HST5 := Lib.hid hst5
                              have HRX := Lib.hid hRX
                              clear hsum hu hv hL hLl hLr ch hst5 hRX
                              go_wp2_with fail
                              go_region
                              go_wp2
                              go_roundw
                              case rel =>
                                refine ⟨r + 1, L.set r (IntKind.u64.wrap (u + v)), by omega, by go_num, by rw [List.length_set]; exact HLL.out, fun j hj => ?_, ?_, fun j hj => ?_, ?_⟩
                                · by_cases e1 : j = r
                                  · subst e1
                                    rw [if_pos (by omega), HS.out, List.getD_eq_getElem?_getD, List.getElem?_set_self (by rw [HLL.out]; exact hj)]; rfl
                                  · rw [List.getD_eq_getElem?_getD, List.getElem?_set_ne (by omega), ← List.getD_eq_getElem?_getD, HL.out j hj]
                                    by_cases e2 : j < r
                                    · rw [if_pos e2, if_pos (by omega)]
                                    · rw [if_neg e2, if_neg (by omega)]
                                · rw [List.map_set]; exact HST5.out.1.drew
                                · refine Eq.trans ?_ (HRX.out j hj)
                                  exact World.cell?_of_block (Below.heap_setCell _ _ _ _ hg5')
                                · exact (hBv.setCell (p := ⟨g5, r, none⟩) (hRL.lt g5 rfl).1 _).drew
                              case measure => simp [intOf]; omega
                            · have hfin : L = sumsL hl xs := by
                                apply List.ext_getElem
                                · rw [HLL.out]; unfold sumsL; rw [List.length_zipWith, HL8.out, HX8.out]; rfl
                                · intro j h1 h2
                                  have := hL j (by omega)
                                  rw [if_pos (by omega), List.getD_eq_getElem?_getD, List.getD_eq_getElem?_getD, List.getElem?_eq_getElem h1, List.getElem?_eq_getElem h2] at this
                                  simpa using this
                              have hfin2 : Hid (L = hashL (blks P (k + 1))) := Lib.hid (by
                                rw [hfin, hhs.out, ← HHL.out, HXS.out, HPW.out]; rfl)
                              clear hL hfin hLl
                              go_wp2_with fail
                              go_roundw
                              case rel => exact ⟨k + 1, by omega, by go_num, by rw [← hfin2.out]; exact hRL, hBv⟩
                              case measure => simp [intOf]; omega
            · obtain rfl : k = m := by omega
              have hfl := hashL_length (blks P k)
              obtain ⟨hl, hhl⟩ : ∃ hl, hl = hashL (blks P k) := ⟨_, rfl⟩
              rw [← hhl] at hh hfl
              have hW : Hid (wideS s = outS hl) := Lib.hid (by
                rw [hhl]; unfold wideS; rw [← HPP.out, ← HM.out])
              have HFL8 := Lib.hid hfl
              clear hfl hhl
              go_wp2_with fail
              go_loopw [23, 24] (fun o t wv => ∃ j : Nat, j ≤ 8 ∧ t = .int .i64 j ∧ o = .string (outS (hl.take j)) ∧ Below wr.heap.size wr wv) (fun _ t _ => 8 - (intOf t).toNat)
              case atStart => exact ⟨0, by omega, rfl, rfl, Below.refl _ _⟩
              case round =>
                obtain ⟨wo, hwo⟩ : ∃ wo : World, wo = wr := ⟨_, rfl⟩
                obtain ⟨j, hj, rfl, rfl, hBr⟩ := hrel
                by_cases hjl : j < 8
                · have ch := (own_below hh hBr).cellAt j (by omega)
                  rw [List.getElem?_map, List.getElem?_eq_getElem (by rw [HFL8.out]; exact hjl), show hl[j]'(by rw [HFL8.out]; exact hjl) = hl.getD j 0 by rw [List.getD_eq_getElem?_getD, List.getElem?_eq_getElem (by rw [HFL8.out]; exact hjl)]; rfl] at ch
                  have htk : hl.take (j + 1) = hl.take j ++ [hl.getD j 0] := by
                    rw [List.take_succ_eq_append_getElem (by rw [HFL8.out]; exact hjl), List.getD_eq_getElem?_getD, List.getElem?_eq_getElem]; rfl
                  obtain ⟨v, hv⟩ : ∃ v, v = hl.getD j 0 := ⟨_, rfl⟩
                  rw [← hv] at htk ch
                  have ch' : wr.cell? ⟨g5, j, none⟩ = some (.int .u64 v) := by simpa using ch
                  have hso : (outS (hl.take j)).size ≤ 64 := by rw [outS_size, List.length_take]; omega
                  have hsn : Hid (outS (hl.take (j + 1)) = outS (hl.take j) ++ strOfNums (bigB v 8)) := Lib.hid (by rw [htk, outS_snoc])
                  have hsb : (strOfNums (bigB v 8)).size = 8 := by rw [strOfNums_size, bigB_length]
                  obtain ⟨o, ho⟩ : ∃ o, o = outS (hl.take j) := ⟨_, rfl⟩
                  rw [← ho] at hso hsn ⊢
                  clear hv htk ho ch
                  go_wp2_with fail
                  refine (rbig_any v 8 (by decide) _).mono ?_
                  rintro e w8 ⟨rfl, hb8⟩
                  have hBr8 := below_trans' hBr hb8
                  go_wp2_with fail
                  go_roundw
                  case rel => exact ⟨j + 1, by omega, by go_num, by rw [hsn.out], hBr8⟩
                  case measure => simp [intOf]; omega
                · obtain rfl : j = 8 := by omega
                  go_wp2_with fail
                  go_ret
                  refine ⟨ret_str ?_, ?_⟩
                  · rw [hW.out, List.take_of_length_le (Nat.le_of_eq HFL8.out)]
                  · exact below_trans' hB2' (hB.trans (hBr.mono hB.size))

end Go.Proofs.Ytojmbbapcnfibaa
