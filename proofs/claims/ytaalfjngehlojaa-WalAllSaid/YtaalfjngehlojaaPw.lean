/- Walks: the document's packing. -/
import Derived.Test.YtaalfjngehlojaaSa
import Derived.Deep.DeepCutAuto
namespace Go.Proofs.Ytaalfjngehlojaa
open Go.RowKit Go.Shelf
attribute [local go_sem] litS_size

theorem noughts_eq (k : Nat) : strOfNums (List.replicate k 0) = noughtS k := by
  have e : ∀ k, Lib.repeatL [0] k = List.replicate k (0 : UInt8) := fun k => by
    induction k with
    | zero => rfl
    | succ k ih => rw [List.replicate_succ, ← ih]; rfl
  unfold noughtS
  rw [e]
  apply ByteArray.ext
  apply Array.toList_inj.1
  rw [strOfNums_data]
  simp
theorem make_noughtS (k : Nat) (hk : k ≤ 1000) : (∀ w, (Instr.makeSlice 39 (.int .i64 (k : Int)) (.int .i64 (k : Int))).run Try.prog w = .ok (.slice (some ⟨w.heap.size, 0, none⟩) k k) (w.alloc (.cells (madeCells #[.int .u8 0] k) 5))) ∧
    ∀ w : World, (convert 39 9 (.slice (some ⟨w.heap.size, 0, none⟩) k k)).run Try.prog (w.alloc (.cells (madeCells #[.int .u8 0] k) 5)) = .ok (.string (noughtS k)) (w.alloc (.cells (madeCells #[.int .u8 0] k) 5)) :=
  ⟨fun w => run_make_row' (P := Try.prog) 39 5 (.int .u8 0) 1 Try.underlying39 (by kernel_rfl) rfl .i64 .i64 k (by omega) (by omega) w,
    fun w => by rw [← noughts_eq]; exact (Row.made w 5 .u8 k).string (P := Try.prog) 39 9 5 Try.underlying39 Try.underlying5 Try.underlying9 k k (by simp)⟩

/-- Two bytes made. -/
theorem make_two (a b : Int) (W : World) : (convert 39 9 (.slice (some ⟨W.heap.size, 0, none⟩) 2 2)).run Try.prog (W.alloc (.cells #[.int .u8 a, .int .u8 b] 5)) = .ok (.string (strOfNums [a, b])) (W.alloc (.cells #[.int .u8 a, .int .u8 b] 5)) :=
  Row.string (P := Try.prog) (l := [a, b]) ⟨heap_alloc_new W _⟩ 39 9 5 Try.underlying39 Try.underlying5 Try.underlying9 2 2 rfl

theorem rg_two {v : Value} {a b : Int} (h : b = a) : Ending.returned (.agg #[v, .int .i64 a]) = .returned (.agg #[v, .int .i64 b]) := by rw [h]
theorem two_born {W W' : World} {a b : Int} (h : Below (W.alloc (.cells #[.int .u8 a, .int .u8 b] 5)).heap.size (W.alloc (.cells #[.int .u8 a, .int .u8 b] 5)) W') : Row W' W.heap.size 5 .u8 [a, b] :=
  (show Row (W.alloc (.cells #[.int .u8 a, .int .u8 b] 5)) W.heap.size 5 .u8 [a, b] from ⟨heap_alloc_new W _⟩).below h (by simp)
theorem two_bornD {W W' : World} {a b : Int} (h : Below (W.alloc (.cells #[.int .u8 a, .int .u8 b] 5)).drew.heap.size (W.alloc (.cells #[.int .u8 a, .int .u8 b] 5)).drew W') : Row W' W.heap.size 5 .u8 [a, b] :=
  (show Row (W.alloc (.cells #[.int .u8 a, .int .u8 b] 5)).drew W.heap.size 5 .u8 [a, b] from ⟨heap_alloc_new W _⟩).below h (by simp)
theorem two_carry {W W' : World} {B : Nat} {l : List Int} (hr : Row W B 5 .u8 l) (h : Below W.heap.size W W') : Row W' B 5 .u8 l := hr.below h hr.lt
theorem two_conv {W : World} {B : Nat} {a b : Int} {D : ByteArray} (hr : Row W B 5 .u8 [a, b]) (hD : D = strOfNums [a, b]) : (convert 39 9 (.slice (some ⟨B, 0, none⟩) 2 2)).run Try.prog W = .ok (.string D) W := by
  rw [hD]; exact hr.string (P := Try.prog) 39 9 5 Try.underlying39 Try.underlying5 Try.underlying9 2 2 rfl
theorem two_lits (a b : Int) (ha : 0 ≤ a ∧ a < 256) (hb : 0 ≤ b ∧ b < 256) : strOfNums [a, b] = litS a 1 ++ litS b 1 := by
  have e : ∀ a : Int, 0 ≤ a ∧ a < 256 → litF a 0 = a := fun a h => by
    unfold litF
    simp
    omega
  apply ByteArray.ext
  apply Array.toList_inj.1
  unfold litS
  rw [ByteArray.data_append, Array.toList_append, strOfNums_data, strOfNums_data, strOfNums_data]
  show _ = [UInt8.ofNat (litF a 0).toNat] ++ [UInt8.ofNat (litF b 0).toNat]
  rw [e a ha, e b hb]
  rfl
/-- The document's packing, handed back. -/
def RPacked (x y : Int) (s : ByteArray) (w : World) (e : Ending) (w' : World) : Prop :=
  ∃ v, e = .returned (.agg #[v, .int .i64 (packE x y s.size)]) ∧ Texts w.heap.size v (packL x y s) w' ∧ Below w.heap.size w w'

set_option maxHeartbeats 4000000 in
theorem rpack_any (x y : Int) (s : ByteArray) (hs : s.size ≤ 14400) (w : World) :
    Calls Try.prog 9 #[.int .i64 x, .int .i64 y, .string s] w (RPacked x y s w) := by
  have hx := fun w => number_any x w
  have hy := fun w => number_any y w
  obtain ⟨p, hp⟩ : ∃ p, p = mayB x := ⟨_, rfl⟩
  obtain ⟨q, hq⟩ : ∃ q, q = mayB y := ⟨_, rfl⟩
  simp only [← hp] at hx
  simp only [← hq] at hy
  have HX := Lib.hid hx
  have HY := Lib.hid hy
  have HP := Lib.hid hp
  have HQ := Lib.hid hq
  clear hx hy hp hq
  have none_texts : ∀ W : World, packL x y s = [] → Texts w.heap.size (.slice none 0 0) (packL x y s) W := fun W h => by
    rw [h]
    exact ⟨rfl, .inl ⟨rfl, rfl⟩⟩
  have HN := Lib.hid none_texts
  clear none_texts
  go_enter Try.func9, Try.ntmps9
  go_wp2_with fail
  refine (HX.out _).mono ?_
  rintro e w1 ⟨rfl, rfl⟩
  cases p with
  | false =>
    go_wp2_with fail
    have h : packE x y s.size = 1 := by unfold packE; rw [← HP.out]; simp
    refine bodyPost_ret (v := .agg #[.slice none 0 0, .int .i64 1]) (by simp [results, Try.results9, go_sem]) rfl ⟨_, rg_two h, HN.out _ (by unfold packL; rw [h]; rfl), below_alloc' (Below.refl _ _) _⟩
  | true =>
    go_wp2_with fail
    refine (HY.out _).mono ?_
    rintro e w1 ⟨rfl, rfl⟩
    cases q with
    | false =>
      go_wp2_with fail
      have h : packE x y s.size = 1 := by unfold packE; rw [← HP.out, ← HQ.out]; simp
      refine bodyPost_ret (v := .agg #[.slice none 0 0, .int .i64 1]) (by simp [results, Try.results9, go_sem]) rfl ⟨_, rg_two h, HN.out _ (by unfold packL; rw [h]; rfl), below_alloc' (Below.refl _ _) _⟩
    | true =>
      by_cases hbig : 384 < s.size
      · go_wp2_with fail
        have h : packE x y s.size = 6 := by unfold packE; rw [← HP.out, ← HQ.out]; simp [hbig]
        refine bodyPost_ret (v := .agg #[.slice none 0 0, .int .i64 6]) (by simp [results, Try.results9, go_sem]) rfl ⟨_, rg_two h, HN.out _ (by unfold packL; rw [h]; rfl), below_alloc' (Below.refl _ _) _⟩
      · have h : packE x y s.size = 0 := by unfold packE; rw [← HP.out, ← HQ.out]; simp; omega
        have hxb : 1 ≤ x ∧ x ≤ 2147483647 := by have := HP.out; unfold mayB at this; simpa using this.symm
        have hyb : 1 ≤ y ∧ y ≤ 2147483647 := by have := HQ.out; unfold mayB at this; simpa using this.symm
        obtain ⟨hx1, hx2⟩ := hxb
        obtain ⟨hy1, hy2⟩ := hyb
        obtain ⟨M, hM⟩ : ∃ M : Nat, M = manyN s.size := ⟨_, rfl⟩
        have hmany : max 1 (((s.size : Int) + 47) / 48) = (M : Int) := by rw [hM]; unfold manyN; omega
        have hM1 : 1 ≤ M := by rw [hM]; exact manyN_pos _
        have hM8 : M ≤ 8 := by rw [hM]; unfold manyN; omega
        have HM := Lib.hid hM
        have HE := Lib.hid h
        clear h hM
        obtain ⟨i0, hi, hz0, hz1, hz2⟩ := info_parts infoStr
        go_wp2_with fail
        obtain ⟨W1, hW1⟩ : ∃ W, W = w.alloc (.cells #[.slice none 0 0, .int .i64 0] 28) := ⟨_, rfl⟩
        have hBW1 : Below w.heap.size w W1 := by rw [hW1]; exact below_alloc' (Below.refl _ _) _
        have hblk : W1.heap[w.heap.size]? = some (.cells #[.slice none 0 0, .int .i64 0] 28 (0, 0)) := by rw [hW1]; exact heap_alloc_new w _
        have hlt1 : w.heap.size < W1.heap.size := by rw [hW1]; simp
        rw [← hW1]
        clear hW1
        go_loopw [8, 9, 10, 11] (fun out i pp tt wr => ∃ k : Nat, k ≤ M ∧ i = .int .i64 k ∧ wr.ownsRow W1.heap.size 9 1 out k (((List.range k).map (textB x y s)).map Value.string) ∧ Below W1.heap.size W1 wr) (fun _ i _ _ _ => M - (intOf i).toNat)
        case atStart => exact ⟨0, by omega, rfl, World.ownsRow_nil _ _ _ _, Below.refl _ _⟩
        case round =>
          obtain ⟨k, hk, rfl, hown, hB⟩ := hrel
          by_cases hlt : k < M
          · have hbs := hB.size
            have hk48 : k * 48 ≤ s.size := by have := HM.out; unfold manyN at this; omega
            have hsl : ∀ w, (Instr.slice 9 (.string s) (some (.int .i64 (48 * (k : Int)))) (some (.int .i64 (min (s.size : Int) (48 * (k : Int) + 48)))) none).run Try.prog w = .ok (.string (partB s k)) w := fun w => by
              have h1 := run_slice_string (P := Try.prog) w 9 s .i64 .i64 (48 * (k : Int)) (min (s.size : Int) (48 * (k : Int) + 48)) Try.underlying9 (by omega) (by omega) (by omega)
              rw [h1]
              unfold partB
              congr 3 <;> omega
            obtain ⟨T, hT⟩ : ∃ T, T = partB s k := ⟨_, rfl⟩
            have hT2 := partB_size s k
            simp only [← hT] at hsl
            rw [← hT] at hT2
            have HT := Lib.hid hT
            have HBW := Lib.hid hB
            have HSL := Lib.hid hsl
            clear hT hB hblk
            have CX := Lib.hid (fun w => rlittle_any x 4 (by omega) w)
            have CY := Lib.hid (fun w => rlittle_any y 4 (by omega) w)
            have CT := Lib.hid (fun w => rlittle_any (T.size : Int) 2 (by omega) w)
            go_upto_region 11 with fail
            clear hsl HSL
            have hw1 : IntKind.u64.wrap x = x := by rw [IntKind.wrap_u64]; omega
            have hw2 : IntKind.u64.wrap y = y := by rw [IntKind.wrap_u64]; omega
            have hw3 : IntKind.u64.wrap (T.size : Int) = (T.size : Int) := by rw [IntKind.wrap_u64]; omega
            have hw4 : IntKind.u8.wrap (k : Int) = (k : Int) := by rw [IntKind.wrap_u8]; omega
            have hw5 : IntKind.u8.wrap (M : Int) = (M : Int) := by rw [IntKind.wrap_u8]; omega
            obtain ⟨D, hD⟩ : ∃ D, D = strOfNums [(k : Int), (M : Int)] := ⟨_, rfl⟩
            have hD2 : D.size = 2 := by rw [hD, strOfNums_size]; rfl
            have hm2 : ∀ W : World, (convert 39 9 (.slice (some ⟨W.heap.size, 0, none⟩) 2 2)).run Try.prog (W.alloc (.cells #[.int .u8 (k : Int), .int .u8 (M : Int)] 5)) = .ok (.string D) (W.alloc (.cells #[.int .u8 (k : Int), .int .u8 (M : Int)] 5)) := fun W => two_conv ⟨heap_alloc_new W _⟩ hD
            have hm3 : ∀ W : World, (convert 39 9 (.slice (some ⟨W.heap.size, 0, none⟩) 2 2)).run Try.prog (W.alloc (.cells #[.int .u8 (k : Int), .int .u8 (M : Int)] 5)).drew = .ok (.string D) (W.alloc (.cells #[.int .u8 (k : Int), .int .u8 (M : Int)] 5)).drew := fun W => two_conv ⟨heap_alloc_new W _⟩ hD
            have hv4 : ¬ (9223372036854775807 < 12 + T.size) := by omega
            have HD := Lib.hid hD
            clear hD
            go_cut [11] (fun t W => t = .string (litS x 4 ++ litS y 4 ++ D ++ litS T.size 2 ++ T) ∧ Below wr.heap.size wr W)
            case first =>
              go_region_law ((go_simp; first | (go_at_call 18; (with_reducible refine Calls.mono (CX.out _) ?_); rintro e w3 ⟨rfl, hbA⟩; (first | (have hrow := two_carry (by assumption) hbA; have hcv := two_conv hrow HD.out) | (have hrow := two_bornD hbA; have hcv := two_conv hrow HD.out) | (have hrow := two_born hbA; have hcv := two_conv hrow HD.out) | skip); have hS3 : Below wr.heap.size wr w3 := below_trans' (by first | assumption | exact below_drew' (Below.refl _ _) | exact below_alloc' (by assumption) _ | exact below_drew' (below_alloc' (Below.refl _ _) _) | exact below_alloc' (below_drew' (Below.refl _ _)) _) hbA; clear hbA; go_simp) | (go_at_call 18; (with_reducible refine Calls.mono (CY.out _) ?_); rintro e w3 ⟨rfl, hbA⟩; (first | (have hrow := two_carry (by assumption) hbA; have hcv := two_conv hrow HD.out) | (have hrow := two_bornD hbA; have hcv := two_conv hrow HD.out) | (have hrow := two_born hbA; have hcv := two_conv hrow HD.out) | skip); have hS3 : Below wr.heap.size wr w3 := below_trans' (by first | assumption | exact below_drew' (Below.refl _ _) | exact below_alloc' (by assumption) _ | exact below_drew' (below_alloc' (Below.refl _ _) _) | exact below_alloc' (below_drew' (Below.refl _ _)) _) hbA; clear hbA; go_simp) | (go_at_call 18; (with_reducible refine Calls.mono (CT.out _) ?_); rintro e w3 ⟨rfl, hbA⟩; (first | (have hrow := two_carry (by assumption) hbA; have hcv := two_conv hrow HD.out) | (have hrow := two_bornD hbA; have hcv := two_conv hrow HD.out) | (have hrow := two_born hbA; have hcv := two_conv hrow HD.out) | skip); have hS3 : Below wr.heap.size wr w3 := below_trans' (by first | assumption | exact below_drew' (Below.refl _ _) | exact below_alloc' (by assumption) _ | exact below_drew' (below_alloc' (Below.refl _ _) _) | exact below_alloc' (below_drew' (Below.refl _ _)) _) hbA; clear hbA; go_simp)))
              all_goals (go_wp2_with fail; go_meet; exact ⟨rfl, (by first | assumption | exact below_drew' (Below.refl _ _) | exact below_alloc' (by assumption) _ | exact below_drew' (below_alloc' (Below.refl _ _) _) | exact below_alloc' (below_drew' (Below.refl _ _)) _)⟩)
            case rest =>
              obtain ⟨rfl, hbc⟩ := hcut
              obtain ⟨B, hBd⟩ : ∃ B, B = litS x 4 ++ litS y 4 ++ D ++ litS T.size 2 ++ T := ⟨_, rfl⟩
              have hBs : B.size = 12 + T.size := by rw [hBd]; simp only [ByteArray.size_append, litS_size, hD2]
              have HBd : Hid (B = bodyB x y s k) := Lib.hid (by
                rw [hBd, HD.out, two_lits _ _ (by omega) (by omega), HT.out, HM.out]
                unfold bodyB
                rw [← ByteArray.append_assoc (a := litS x 4 ++ litS y 4)])
              rw [← hBd]
              obtain ⟨c, hc⟩ : ∃ c : Nat, c = 60 - B.size := ⟨_, rfl⟩
              have hc2 : (60 : Int) - (12 + (T.size : Int)) = (c : Int) := by omega
              obtain ⟨hmk, hcz⟩ := make_noughtS c (by omega)
              obtain ⟨R, hR⟩ : ∃ R, R = noughtS c := ⟨_, rfl⟩
              have hRs : R.size = c := by rw [hR]; exact noughtS_size c
              rw [← hR] at hcz
              have hput := fun w => putcrc_any (B ++ R) (by rw [ByteArray.size_append]; omega) w
              obtain ⟨X, hX⟩ : ∃ X, X = putB (B ++ R) := ⟨_, rfl⟩
              simp only [← hX] at hput
              have HP2 := Lib.hid hput
              have HX2 : Hid (X = textB x y s k) := Lib.hid (by rw [hX, hR, hc, HBd.out]; rfl)
              clear hBd hc hR hX hput hm2 hm3 CX CY CT hw1 hw2 hw3 hw4 hw5
              have HS := Lib.hid (textsL_succ x y s k)
              have hB1 : Below W1.heap.size W1 wc := below_trans' HBW.out hbc
              go_wp2_with fail
              refine (HP2.out _).mono ?_
              rintro e w4 ⟨rfl, hB4⟩
              have hbc4 : Below wr.heap.size wr w4 := below_trans' (below_alloc' hbc _) hB4
              have hB5 : Below W1.heap.size W1 w4 := below_trans' HBW.out hbc4
              have hs5 := hB5.size
              have hown5 : w4.ownsRow W1.heap.size 9 1 u8 k (((List.range k).map (textB x y s)).map Value.string) := own_other hown (fun r hr => hbc4.block r (hown.lt r hr).2)
              clear hown hmk hcz hc2
              go_wp2_with (at_builtin; refine wpList_append_own _ rfl _ _ 22 rfl W1.heap.size 9 i0 (.string ⟨#[]⟩) 1 16 Try.underlying22 hi hz0 hz1 hz2 rfl (by decide) _ _ _ rfl (hown5.alloc _) ⟨w4.heap.size, 0, none⟩ 1 1 [.string X] rfl rfl (cell_one_new _ _ _) (by simp [Value.oneCell']) (by unfold maxLen; omega) (by omega) (by simp; omega) ?_)
              intro v' w6 hown' hgrow _
              have hB6 := (hB5.alloc hs5 (.cells #[.string X] 9)).grown hgrow (by simp; omega) (fun j hj => (hown5.lt j hj).1)
              have HO : Hid (w6.ownsRow W1.heap.size 9 1 v' (k + 1) (((List.range (k + 1)).map (textB x y s)).map Value.string)) := Lib.hid (by rw [HS.out, ← HX2.out]; simpa using hown')
              clear hown5 hown' hgrow
              go_wp2_with fail
              go_roundw
              case rel => exact ⟨k + 1, by omega, by go_num, HO.out, hB6⟩
              case measure => simp [intOf]; omega
          · obtain rfl : M = k := by omega
            have hlt6 : w.heap.size < wr.heap.size := by have := hB.size; omega
            have hb0 := (hB.block w.heap.size hlt1).trans hblk
            obtain ⟨o8, c8, rfl, _⟩ := own_shape hown
            have HOW := Lib.hid hown
            have HBW := Lib.hid hB
            clear hown hB
            have c0 : wr.cell? ⟨w.heap.size, 0, none⟩ = some (.slice none 0 0) := by simp [World.cell?, hb0]
            have c1 : wr.cell? ⟨w.heap.size, 1, none⟩ = some (.int .i64 0) := by simp [World.cell?, hb0]
            have f0 : wr.frozen? ⟨w.heap.size, 0, none⟩ = false := by simp [World.frozen?, hb0]
            have f1 : wr.frozen? ⟨w.heap.size, 1, none⟩ = false := by simp [World.frozen?, hb0]
            clear hb0 hblk
            go_wp2_with fail
            have hlen : (textsL x y s).length = M := by rw [textsL_length]; exact HM.out.symm
            have hpl : packL x y s = textsL x y s := by unfold packL; rw [if_pos HE.out]
            refine bodyPost_ret (v := .agg #[.slice o8 M c8, .int .i64 0]) (by simp [results, Try.results9, go_sem, c0, c1]) rfl ⟨_, rg_two HE.out, ?_, ?_⟩
            · have h1 : wr.ownsRow w.heap.size 9 1 (.slice o8 M c8) M ((textsL x y s).map Value.string) := by
                have := own_base HOW.out hBW1.size
                unfold textsL
                rw [← HM.out]
                exact this
              unfold Texts
              rw [hpl, hlen]
              refine own_other h1 (fun r hr => ?_)
              have hne : r ≠ w.heap.size := by have := (HOW.out.lt r hr).1; omega
              rw [Below.heap_setCell _ _ _ _ hne, Below.heap_setCell _ _ _ _ hne]
            · exact (((below_trans' hBW1 HBW.out).setCell (p := ⟨w.heap.size, 0, none⟩) (Nat.le_refl _) _).setCell (p := ⟨w.heap.size, 1, none⟩) (Nat.le_refl _) _)

end Go.Proofs.Ytaalfjngehlojaa
