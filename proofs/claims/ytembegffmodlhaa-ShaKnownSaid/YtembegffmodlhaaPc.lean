/- Walks: the program's numbers of all steps. -/
import Derived.Test.YtembegffmodlhaaX
import Derived.WalkMore
namespace Go.Proofs.Ytembegffmodlhaa
open Go.RowKit

/-- Is a cube above p times 2 to the power of 96? -/
def abv (x p : Nat) : Bool := decide (p * 4294967296 * 18446744073709551616 < x * x * x)

theorem cube_split (x : Nat) : x * x * x = (x * x / 18446744073709551616 * x + x * x % 18446744073709551616 * x / 18446744073709551616) * 18446744073709551616 + x * x % 18446744073709551616 * x % 18446744073709551616 := by
  obtain ⟨q, hq⟩ : ∃ q, q = x * x / 18446744073709551616 := ⟨_, rfl⟩
  obtain ⟨r, hr⟩ : ∃ r, r = x * x % 18446744073709551616 := ⟨_, rfl⟩
  have h : x * x = q * 18446744073709551616 + r := by omega
  rw [← hq, ← hr, h, Nat.add_mul, Nat.add_mul]
  have h2 : q * 18446744073709551616 * x = q * x * 18446744073709551616 := by rw [Nat.mul_right_comm]
  rw [h2]
  generalize q * x = u
  generalize r * x = v
  omega
theorem abv_yes (x p L H b : Nat) (hL : p * 4294967296 = L) (hc : x * x * x = H * 18446744073709551616 + b) (h : L < H ∨ L = H ∧ 0 < b) : abv x p = true := by
  unfold abv
  rw [hc, hL, decide_eq_true_eq]
  rcases h with h | ⟨h, h2⟩ <;> omega
theorem abv_no (x p L H b : Nat) (hL : p * 4294967296 = L) (hb : b < 18446744073709551616) (hc : x * x * x = H * 18446744073709551616 + b) (h : H < L ∨ L = H ∧ b = 0) : abv x p = false := by
  unfold abv
  rw [hc, hL, decide_eq_false_iff_not]
  rcases h with h | ⟨h, h2⟩ <;> omega

set_option maxHeartbeats 800000 in
theorem above_any (x p : Nat) (hx : x < 137438953472) (hp : p < 1000) (w : World) :
    Calls Try.prog 29 #[.int .u64 x, .int .i64 3, .int .u64 p] w fun e w' => e = .returned (.bool (abv x p)) ∧ w = w' := by
  have hxx : x * x ≤ 137438953471 * 137438953471 := Nat.mul_le_mul (by omega) (by omega)
  have hc := cube_split x
  have hm1 := fun w => Try.bits_Mul64 x x (by omega) (by omega) w
  have hm2 := fun w => Try.bits_Mul64 (x * x % 18446744073709551616) x (by omega) (by omega) w
  obtain ⟨h, hh⟩ : ∃ h, h = x * x / 18446744073709551616 := ⟨_, rfl⟩
  obtain ⟨lo, hlo⟩ : ∃ lo, lo = x * x % 18446744073709551616 := ⟨_, rfl⟩
  have hh1 : h ≤ 1024 := by omega
  rw [← hh, ← hlo] at hc
  simp only [← hh, ← hlo] at hm1 hm2
  have hlo1 : lo < 18446744073709551616 := by omega
  have hlx : lo * x ≤ 18446744073709551615 * 137438953471 := Nat.mul_le_mul (by omega) (by omega)
  have hhx : h * x ≤ 1024 * 137438953471 := Nat.mul_le_mul (by omega) (by omega)
  obtain ⟨a, ha⟩ : ∃ a, a = lo * x / 18446744073709551616 := ⟨_, rfl⟩
  obtain ⟨b, hb⟩ : ∃ b, b = lo * x % 18446744073709551616 := ⟨_, rfl⟩
  have ha1 : a ≤ 137438953471 := by omega
  have hb1 : b < 18446744073709551616 := by omega
  rw [← ha, ← hb] at hc
  simp only [← ha, ← hb] at hm2
  obtain ⟨t, ht⟩ : ∃ t, t = h * x := ⟨_, rfl⟩
  obtain ⟨H, hH⟩ : ∃ H, H = t + a := ⟨_, rfl⟩
  have ht1 : t ≤ 140737488354304 := by omega
  have hH1 : H ≤ 281474976710656 := by omega
  have et : (h : Int) * (x : Int) = (t : Int) := by rw [ht]; push_cast; rfl
  have eH : (t : Int) + (a : Int) = (H : Int) := by omega
  obtain ⟨L, hL⟩ : ∃ L, L = p * 4294967296 := ⟨_, rfl⟩
  have eL : (p : Int) * 4294967296 = (L : Int) := by omega
  have hL1 : L ≤ 4294967296000 := by omega
  have hyes := abv_yes x p L H b hL.symm (by rw [hH, ht]; exact hc)
  have hno := abv_no x p L H b hL.symm hb1 (by rw [hH, ht]; exact hc)
  have HM1 := Lib.hid hm1
  have HM2 := Lib.hid hm2
  have HY := Lib.hid hyes
  have HN := Lib.hid hno
  clear hxx hc hm1 hm2 hh hlo hlx hhx ha hb ht hH hL hyes hno
  have hcase : L < H ∨ (L = H ∧ 0 < b) ∨ (L = H ∧ b = 0) ∨ H < L := by omega
  rcases hcase with h1 | ⟨h1, h2⟩ | ⟨h1, h2⟩ | h1
  · have hres := HY.out (.inl h1)
    have d1 : decide (L < H) = true := decide_eq_true h1
    have HRES := Lib.hid hres
    clear hres
    go_enter Try.func29, Try.ntmps29
    go_wp2_with (first | (go_at_call 44; with_reducible refine Calls.mono (HM1.out _) ?_; rintro e w1 ⟨rfl, rfl⟩) | (go_at_call 44; with_reducible refine Calls.mono (HM2.out _) ?_; rintro e w1 ⟨rfl, rfl⟩))
    go_ret
    exact ⟨ret_bool HRES.out.symm, rfl⟩
  · obtain rfl : L = H := h1
    have hres := HY.out (.inr ⟨rfl, h2⟩)
    have d3 : decide (0 < b) = true := decide_eq_true h2
    have HRES := Lib.hid hres
    clear hres
    go_enter Try.func29, Try.ntmps29
    go_wp2_with (first | (go_at_call 44; with_reducible refine Calls.mono (HM1.out _) ?_; rintro e w1 ⟨rfl, rfl⟩) | (go_at_call 44; with_reducible refine Calls.mono (HM2.out _) ?_; rintro e w1 ⟨rfl, rfl⟩))
    go_ret
    exact ⟨ret_bool HRES.out.symm, rfl⟩
  · obtain rfl : L = H := h1
    have hres := HN.out (.inr ⟨rfl, h2⟩)
    obtain rfl : b = 0 := h2
    have HRES := Lib.hid hres
    clear hres
    go_enter Try.func29, Try.ntmps29
    go_wp2_with (first | (go_at_call 44; with_reducible refine Calls.mono (HM1.out _) ?_; rintro e w1 ⟨rfl, rfl⟩) | (go_at_call 44; with_reducible refine Calls.mono (HM2.out _) ?_; rintro e w1 ⟨rfl, rfl⟩))
    go_ret
    exact ⟨ret_bool HRES.out.symm, rfl⟩
  · have hres := HN.out (.inl h1)
    have d1 : decide (L < H) = false := decide_eq_false (by omega)
    have d2 : ((H : Int) == (L : Int)) = false := by simp; omega
    have HRES := Lib.hid hres
    clear hres
    go_enter Try.func29, Try.ntmps29
    go_wp2_with (first | (go_at_call 44; with_reducible refine Calls.mono (HM1.out _) ?_; rintro e w1 ⟨rfl, rfl⟩) | (go_at_call 44; with_reducible refine Calls.mono (HM2.out _) ?_; rintro e w1 ⟨rfl, rfl⟩))
    go_ret
    exact ⟨ret_bool HRES.out.symm, rfl⟩

/-- A root, after some bits. -/
def rootS (p : Nat) : Nat → Nat
  | 0 => 0
  | k + 1 => if abv (rootS p k ||| 68719476736 / 2 ^ k) p then rootS p k else rootS p k ||| 68719476736 / 2 ^ k
theorem bit_bd (k : Nat) (h : k < 37) : 0 < 68719476736 / 2 ^ k ∧ 68719476736 / 2 ^ k < 2 ^ 37 := by
  have : ∀ k, k < 37 → 0 < 68719476736 / 2 ^ k ∧ 68719476736 / 2 ^ k < 2 ^ 37 := by decide
  exact this k h
theorem rootS_bd (p k : Nat) (hk : k ≤ 37) : rootS p k < 2 ^ 37 := by
  induction k with
  | zero => exact (by decide : 0 < 2 ^ 37)
  | succ k ih =>
    unfold rootS
    have h := ih (by omega)
    split
    · exact h
    · exact Nat.or_lt_two_pow h (bit_bd k (by omega)).2
theorem or_nat (a b : Nat) (ha : a < 2 ^ 37) (hb : b < 2 ^ 37) : Go.bits .or .u64 (a : Int) (b : Int) = ((a ||| b : Nat) : Int) :=
  (bits_nat .u64 37 (by decide) (fun n h0 h1 => by simp [IntKind.wrap, IntKind.bits, IntKind.signed]; omega) a b ha hb).2

set_option maxHeartbeats 800000 in
theorem proot_any (p : Nat) (hp : p < 1000) (w : World) :
    Calls Try.prog 19 #[.int .u64 p, .int .i64 3] w fun e w' => e = .returned (.int .u32 ((rootS p 37 : Int) % 4294967296)) ∧ w = w' := by
  obtain ⟨R, hR⟩ : ∃ R, R = rootS p 37 := ⟨_, rfl⟩
  rw [← hR]
  have HR := Lib.hid hR
  clear hR
  go_enter Try.func19, Try.ntmps19
  go_wp2_with fail
  go_loop [5, 6] (fun x b => ∃ k : Nat, k ≤ 37 ∧ x = .int .u64 (rootS p k) ∧ b = .int .u64 ((68719476736 / 2 ^ k : Nat) : Int)) (fun _ b => (intOf b).toNat)
  case atStart => exact ⟨0, by omega, rfl, rfl⟩
  case round =>
    obtain ⟨k, hk, rfl, rfl⟩ := hrel
    by_cases hlt : k < 37
    · obtain ⟨b1, b2⟩ := bit_bd k hlt
      have hx := rootS_bd p k hk
      have hn : rootS p (k + 1) = if abv (rootS p k ||| 68719476736 / 2 ^ k) p then rootS p k else rootS p k ||| 68719476736 / 2 ^ k := rfl
      have hy := Nat.or_lt_two_pow hx b2
      have ho := or_nat _ _ hx b2
      have hb : 68719476736 / 2 ^ (k + 1) = 68719476736 / 2 ^ k / 2 := by rw [Nat.pow_succ, Nat.div_div_eq_div_mul]
      obtain ⟨x, hx'⟩ : ∃ x, x = rootS p k := ⟨_, rfl⟩
      obtain ⟨B, hB⟩ : ∃ B, B = 68719476736 / 2 ^ k := ⟨_, rfl⟩
      rw [← hx', ← hB] at hn hy ho
      rw [← hx'] at hx ⊢
      rw [← hB] at b1 b2 hb ⊢
      obtain ⟨y, hy'⟩ : ∃ y, y = x ||| B := ⟨_, rfl⟩
      rw [← hy'] at hn hy ho
      have hyx : y < 137438953472 := hy
      have hBi : B < 137438953472 := b2
      have hxi : x < 137438953472 := hx
      obtain ⟨B2, hB2⟩ : ∃ B2, B2 = B / 2 := ⟨_, rfl⟩
      have eB : (B : Int) / 2 = (B2 : Int) := by omega
      have hB3 : B2 < B := by omega
      rw [← hB2] at hb
      have HB := Lib.hid hb
      have HN := Lib.hid hn
      have HA := Lib.hid (above_any y p hyx hp)
      clear hx' hB hy' hb hn hy hx b2 hB2
      by_cases hab : abv y p = true
      · have HA' : Hid (∀ w, Calls Try.prog 29 #[.int .u64 y, .int .i64 3, .int .u64 p] w fun e w' => e = .returned (.bool true) ∧ w = w') := Lib.hid (fun w => by rw [← hab]; exact HA.out w)
        have HN2 : Hid (rootS p (k + 1) = x) := Lib.hid (by rw [HN.out, if_pos hab])
        clear hab HA
        go_wp2_with fail
        refine (HA'.out _).mono ?_
        rintro e w1 ⟨rfl, rfl⟩
        go_wp2_with fail
        go_round
        case rel => exact ⟨k + 1, by omega, by rw [HN2.out], by rw [HB.out]⟩
        case measure => simp [intOf]; omega
      · have hab' : abv y p = false := by simpa using hab
        have HA' : Hid (∀ w, Calls Try.prog 29 #[.int .u64 y, .int .i64 3, .int .u64 p] w fun e w' => e = .returned (.bool false) ∧ w = w') := Lib.hid (fun w => by rw [← hab']; exact HA.out w)
        have HN2 : Hid (rootS p (k + 1) = y) := Lib.hid (by rw [HN.out, if_neg hab])
        clear hab hab' HA
        go_wp2_with fail
        refine (HA'.out _).mono ?_
        rintro e w1 ⟨rfl, rfl⟩
        go_wp2_with fail
        go_round
        case rel => exact ⟨k + 1, by omega, by rw [HN2.out], by rw [HB.out]⟩
        case measure => simp [intOf]; omega
    · obtain rfl : k = 37 := by omega
      have hz : ((68719476736 / 2 ^ 37 : Nat) : Int) = 0 := rfl
      have hx := HR.out
      rw [hz, ← hx]
      clear hx hz hlt
      go_wp2_with fail
      go_ret
      exact ⟨rfl, rfl⟩

theorem all_false {l : List Int} {f : Int → Bool} (j : Nat) (h : j < l.length) (hf : f (l.getD j 0) = false) : l.all f = false := by
  rw [List.all_eq_false]
  refine ⟨l.getD j 0, getD_mem l j h, by simpa using hf⟩

set_option maxHeartbeats 1600000 in
theorem pprimes_any (n : Nat) (hn : n ≤ 80) (w : World) :
    Calls Try.prog 18 #[.int .i64 n] w fun e w' => ∃ v, e = .returned v ∧ w'.ownsRow w.heap.size 40 1 v n (((prL 408).take n).map (Value.int .u64)) ∧ Below w.heap.size w w' := by
  obtain ⟨i0, hi, hz0, hz1, hz2⟩ := info_parts infoU64
  go_enter Try.func18, Try.ntmps18
  go_wp2_with fail
  go_step3
  go_wp2_with fail
  go_step3
  go_wp2_with fail
  go_loopw [3, 4] (fun v y wr => ∃ (k m : Nat), k ≤ 408 ∧ m ≤ n ∧ (prL k).length = m ∧ y = .int .u64 ((k : Int) + 2) ∧ wr.ownsRow w.heap.size 40 1 v m ((prL k).map (Value.int .u64)) ∧ Below w.heap.size w wr) (fun _ y _ => 500 - (intOf y).toNat)
  case atStart => exact ⟨0, 0, by omega, by omega, rfl, rfl, World.ownsRow_nil _ _ _ _, Below.refl _ _⟩
  case round =>
    obtain ⟨k, m, hk, hm, hlen, rfl, hown, hB⟩ := hrel
    obtain ⟨o, c, rfl, hg⟩ := own_shape hown
    have hs := hB.size
    by_cases hlt : m < n
    · have hk4 : k < 408 := prL_short k hk (by omega)
      have HLEN := Lib.hid hlen
      clear hlen
      go_wp2_with fail
      go_loop [15] (fun i => ∃ j : Nat, j ≤ m ∧ i = .int .i64 j ∧ ((prL k).take j).all (fun q => decide (((k : Int) + 2) % q ≠ 0)) = true) (fun i => m - (intOf i).toNat)
      case atStart => exact ⟨0, by omega, rfl, rfl⟩
      case round =>
        obtain ⟨j, hj, rfl, hall⟩ := hrel
        by_cases hjm : j < m
        · obtain ⟨g, rfl⟩ := hg (by omega)
          have hcell := hown.cellAt j (by omega)
          rw [List.getElem?_map, List.getElem?_eq_getElem (by rw [HLEN.out]; exact hjm)] at hcell
          have hbd := prL_bd k _ (getD_mem (prL k) j (by rw [HLEN.out]; exact hjm))
          have htk : (prL k).take (j + 1) = (prL k).take j ++ [(prL k).getD j 0] := by
            rw [List.take_succ_eq_append_getElem (by rw [HLEN.out]; exact hjm), List.getD_eq_getElem?_getD, List.getElem?_eq_getElem (by rw [HLEN.out]; exact hjm)]; rfl
          rw [show (prL k)[j]'(by rw [HLEN.out]; exact hjm) = (prL k).getD j 0 by rw [List.getD_eq_getElem?_getD, List.getElem?_eq_getElem (by rw [HLEN.out]; exact hjm)]; rfl] at hcell
          have hno : ((k : Int) + 2) % (prL k).getD j 0 = 0 → prL (k + 1) = prL k := fun h => by
            rw [prL_succ, if_neg (by rw [all_false j (by rw [HLEN.out]; exact hjm) (decide_eq_false (fun hn => hn h))]; decide)]
          obtain ⟨y, hy⟩ : ∃ y, y = (prL k).getD j 0 := ⟨_, rfl⟩
          rw [← hy] at hcell hbd htk hno
          have h2 : 2 ≤ y := hbd.1
          have h3 : y ≤ 500 := by omega
          have HT : Hid (((k : Int) + 2) % y ≠ 0 → ((prL k).take (j + 1)).all (fun q => decide (((k : Int) + 2) % q ≠ 0)) = true) := Lib.hid (fun h => by rw [htk, List.all_append, hall]; simp [h])
          have HNO := Lib.hid hno
          have HO := Lib.hid hown
          have HBB := Lib.hid hB
          clear hy hbd htk hown hB hno hall
          have hcell' : wr.cell? ⟨g, j, none⟩ = some (.int .u64 y) := by simpa using hcell
          clear hcell
          by_cases hz : ((k : Int) + 2) % y = 0
          · have hz' : (((k : Int) + 2) % y == 0) = true := by simpa using hz
            have hnx := Lib.hid (HNO.out hz)
            clear hz
            go_wp2_with fail
            go_roundw
            case rel => exact ⟨k + 1, m, by omega, hm, by rw [hnx.out]; exact HLEN.out, by go_num, by rw [hnx.out]; exact HO.out, HBB.out⟩
            case measure => simp [intOf]; omega
          · have hz' : (((k : Int) + 2) % y == 0) = false := by simpa using hz
            have hT := Lib.hid (HT.out hz)
            clear hz
            go_wp2_with fail
            go_round
            case rel => exact ⟨j + 1, by omega, by go_num, hT.out⟩
            case measure => simp [intOf]; omega
        · obtain rfl : j = m := by omega
          have hnx : Hid (prL (k + 1) = prL k ++ [(k : Int) + 2]) := Lib.hid (by
            rw [prL_succ, if_pos]
            rwa [List.take_of_length_le (by rw [HLEN.out]; exact Nat.le_refl _)] at hall)
          clear hall
          go_wp2_with (at_builtin; refine wpList_append_own _ rfl _ _ 38 rfl w.heap.size 40 i0 (.int .u64 0) 1 8 Try.underlying38 hi hz0 hz1 hz2 rfl (by decide) _ _ _ rfl (hown.alloc _) ⟨wr.heap.size, 0, none⟩ 1 1 [.int .u64 ((k : Int) + 2)] rfl rfl ?c1 ?c2 ?c3 ?c4 ?c5 ?_)
          case c2 => simp [Value.oneCell']
          case c3 => unfold maxLen; omega
          case c4 => omega
          case c5 => first | omega | (simp; omega)
          intro v' w1 hown' hgrow _
          have hB' := (hB.alloc hs (.cells #[.int .u64 ((k : Int) + 2)] 40)).grown hgrow (by simp; omega) (fun j hj => (hown.lt j hj).1)
          clear hown hB hgrow
          go_wp2_with fail
          go_roundw
          case rel => exact ⟨k + 1, j + 1, by omega, by omega, by rw [hnx.out]; simp [HLEN.out], by go_num, by rw [hnx.out]; simpa using hown', hB'⟩
          case measure => simp [intOf]; omega
    · obtain rfl : m = n := by omega
      have HP := Lib.hid (prL_take k m hk hlen)
      clear hlen
      go_wp2_with fail
      try rw [Exit.noGoto_ret]
      go_ret
      exact ⟨_, rfl, by rw [← HP.out]; exact hown, hB⟩

theorem proots : ∀ i, i < 64 → ((rootS ((prL 408).getD i 0).toNat 37 : Nat) : Int) % 4294967296 = constsL.getD i 0 := by decide +kernel
set_option maxHeartbeats 1600000 in
theorem pconsts_any (w : World) :
    Calls Try.prog 8 #[] w fun e w' => ∃ v, e = .returned v ∧ w'.ownsRow w.heap.size 24 1 v 64 (constsL.map (Value.int .u32)) ∧ Below w.heap.size w w' := by
  obtain ⟨i0, hi, hz0, hz1, hz2⟩ := info_parts infoU32
  go_enter Try.func8, Try.ntmps8
  go_wp2_with fail
  refine (pprimes_any 64 (by decide) _).mono ?_
  rintro e W0 ⟨vp, rfl, hP, hB0⟩
  obtain ⟨op, cp, rfl, hg⟩ := own_shape hP
  obtain ⟨g, rfl⟩ := hg (by decide)
  clear hg
  have hpl : ((prL 408).take 64).length = 64 := by rw [List.length_take, prL_408]; rfl
  have hrw : ∀ i, i < 64 → ((rootS (((prL 408).take 64).getD i 0).toNat 37 : Nat) : Int) % 4294967296 = constsL.getD i 0 := fun i hi => by
    have hpg : ((prL 408).take 64).getD i 0 = (prL 408).getD i 0 := by rw [List.getD_eq_getElem?_getD, List.getElem?_take_of_lt hi, ← List.getD_eq_getElem?_getD]
    rw [hpg]; exact proots i hi
  have hpb : ∀ q ∈ (prL 408).take 64, 2 ≤ q ∧ q < 410 := fun q hq => by have := prL_bd 408 q (List.mem_of_mem_take hq); omega
  have hcl : constsL.length = 64 := rfl
  obtain ⟨pL, hpL⟩ : ∃ pL, pL = (prL 408).take 64 := ⟨_, rfl⟩
  obtain ⟨cL, hcL⟩ : ∃ cL, cL = constsL := ⟨_, rfl⟩
  rw [← hpL] at hP hpl hrw hpb
  rw [← hcL] at hrw hcl
  have HPL := Lib.hid hpl
  have HPB := Lib.hid hpb
  have HRW := Lib.hid hrw
  have HCL := Lib.hid hcl
  have HcL := Lib.hid hcL
  clear hpl hpL hrw hcl hcL hpb
  go_wp2_with fail
  go_loopw [1, 6] (fun v i wr => ∃ k : Nat, k ≤ 64 ∧ i = .int .i64 k ∧ wr.ownsRow W0.heap.size 24 1 v k ((cL.take k).map (Value.int .u32)) ∧ Below W0.heap.size W0 wr) (fun _ i _ => 64 - (intOf i).toNat)
  case atStart => exact ⟨0, by omega, rfl, World.ownsRow_nil _ _ _ _, Below.refl _ _⟩
  case round =>
    obtain ⟨k, hk, rfl, hown, hB⟩ := hrel
    obtain ⟨o, c, rfl, hg⟩ := own_shape hown
    have hs := hB.size
    by_cases hlt : k < 64
    · have hcell := (own_below hP hB).cellAt k (by omega)
      rw [List.getElem?_map, List.getElem?_eq_getElem (by rw [HPL.out]; exact hlt), show pL[k]'(by rw [HPL.out]; exact hlt) = pL.getD k 0 by rw [List.getD_eq_getElem?_getD, List.getElem?_eq_getElem (by rw [HPL.out]; exact hlt)]; rfl] at hcell
      have hrt := HRW.out k hlt
      have hyb := HPB.out _ (getD_mem pL k (by rw [HPL.out]; exact hlt))
      obtain ⟨z, hz⟩ : ∃ z : Nat, (z : Int) = pL.getD k 0 := ⟨(pL.getD k 0).toNat, by omega⟩
      rw [← hz] at hcell hrt hyb
      have hcell' : wr.cell? ⟨g, k, none⟩ = some (.int .u64 z) := by simpa using hcell
      rw [Int.toNat_natCast] at hrt
      have HRU := Lib.hid (proot_any z (by omega))
      obtain ⟨r0, hr0⟩ : ∃ r0, r0 = rootS z 37 := ⟨_, rfl⟩
      rw [← hr0] at hrt HRU
      have HT : Hid ((cL.take (k + 1)).map (Value.int .u32) = (cL.take k).map (Value.int .u32) ++ [.int .u32 ((r0 : Int) % 4294967296)]) := Lib.hid (by
        have h80 : k < cL.length := by rw [HCL.out]; exact hlt
        rw [List.take_succ_eq_append_getElem h80, List.map_append, show cL[k] = (r0 : Int) % 4294967296 by
          have : cL.getD k 0 = cL[k] := by rw [List.getD_eq_getElem?_getD, List.getElem?_eq_getElem h80]; rfl
          rw [← this, ← hrt]]
        rfl)
      clear hcell hrt hz hr0
      go_wp2_with fail
      refine (HRU.out _).mono ?_
      rintro e w1 ⟨rfl, rfl⟩
      clear hcell'
      go_wp2_with (at_builtin; refine wpList_append_own _ rfl _ _ 22 rfl W0.heap.size 24 i0 (.int .u32 0) 1 4 Try.underlying22 hi hz0 hz1 hz2 rfl (by decide) _ _ _ rfl (hown.alloc _) ⟨wr.heap.size, 0, none⟩ 1 1 [.int .u32 ((r0 : Int) % 4294967296)] rfl rfl ?c1 ?c2 ?c3 ?c4 ?c5 ?_)
      case c1 => exact cell_one_new _ _ _
      case c2 => simp [Value.oneCell']
      case c3 => unfold maxLen; omega
      case c4 => omega
      case c5 => first | omega | (simp; omega)
      intro v' w2 hown' hgrow _
      have hB' := (hB.alloc hs (.cells #[.int .u32 ((r0 : Int) % 4294967296)] 24)).grown hgrow (by simp; omega) (fun j hj => (hown.lt j hj).1)
      clear hown hB hgrow
      go_wp2_with fail
      go_roundw
      case rel => exact ⟨k + 1, by omega, by go_num, by rw [HT.out, List.map_take]; exact hown', hB'⟩
      case measure => simp [intOf]; omega
    · obtain rfl : k = 64 := by omega
      go_wp2_with fail
      go_ret
      exact ⟨_, rfl, by rw [← HcL.out, ← List.take_of_length_le (Nat.le_of_eq HCL.out)]; exact own_mono hown hB0.size, below_trans' hB0 hB⟩


end Go.Proofs.Ytembegffmodlhaa
