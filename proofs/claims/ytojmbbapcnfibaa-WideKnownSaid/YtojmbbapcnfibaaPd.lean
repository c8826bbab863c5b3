/- Walks: comparisons and roots of the program's numbers of many limbs. -/
import Derived.Test.YtojmbbapcnfibaaPb
import Derived.Test.YtojmbbapcnfibaaShelf
import Derived.Test.YtojmbbapcnfibaaV
namespace Go.Proofs.Ytojmbbapcnfibaa
open Go.RowKit

set_option maxHeartbeats 400000 in
theorem at_any (l : List Int) (n c g i : Nat) (hl : l.length = n) (_hn : n ≤ 100) (_hi : i ≤ 100) (w : World) (ha : ∀ j, j < n → w.cell? ⟨g, j, none⟩ = some (.int .u32 (l.getD j 0))) :
    Calls Try.prog 46 #[.slice (some ⟨g, 0, none⟩) n c, .int .i64 i] w fun e w' => e = .returned (.int .u32 (l.getD i 0)) ∧ w = w' := by
  by_cases h : i < n
  · have hc := ha i h
    obtain ⟨x, hx⟩ : ∃ x, x = l.getD i 0 := ⟨_, rfl⟩
    rw [← hx] at hc ⊢
    clear ha hx hl
    go_enter Try.func46, Try.ntmps46
    go_wp2_with fail
    go_ret
    exact ⟨rfl, rfl⟩
  · have hx : l.getD i 0 = 0 := by rw [List.getD_eq_getElem?_getD, List.getElem?_eq_none (by omega)]; rfl
    rw [hx]
    clear ha hx hl
    go_enter Try.func46, Try.ntmps46
    go_wp2_with fail
    go_ret
    exact ⟨rfl, rfl⟩

theorem cmpL_eq {a b : List Int} {n : Nat} (h : a.getD n 0 = b.getD n 0) : cmpL a b (n + 1) = cmpL a b n := by
  show (if _ then _ else _) = _
  rw [if_pos h]
theorem cmpL_lt {a b : List Int} {n : Nat} (h : a.getD n 0 < b.getD n 0) : cmpL a b (n + 1) = -1 := by
  show (if _ then _ else _) = _
  rw [if_neg (by omega), if_pos h]
theorem cmpL_gt {a b : List Int} {n : Nat} (h : b.getD n 0 < a.getD n 0) : cmpL a b (n + 1) = 1 := by
  show (if _ then _ else _) = _
  rw [if_neg (by omega), if_neg (by omega)]

set_option maxHeartbeats 1600000 in
theorem compared_any (la lb : List Int) (na nb ca cb ga gb : Nat) (hla : la.length = na) (hlb : lb.length = nb) (hna : na ≤ 40) (hab : nb ≤ na) (w : World)
    (ha : ∀ j, j < na → w.cell? ⟨ga, j, none⟩ = some (.int .u32 (la.getD j 0))) (hb : ∀ j, j < nb → w.cell? ⟨gb, j, none⟩ = some (.int .u32 (lb.getD j 0))) :
    Calls Try.prog 37 #[.slice (some ⟨ga, 0, none⟩) na ca, .slice (some ⟨gb, 0, none⟩) nb cb] w fun e w' => e = .returned (.int .i64 (cmpL la lb na)) ∧ w = w' := by
  have HA := Lib.hid (fun i hi => at_any la na ca ga i hla (by omega) hi w ha)
  have HB := Lib.hid (fun i hi => at_any lb nb cb gb i hlb (by omega) hi w hb)
  have hab' : (nb : Int) ≤ (na : Int) := by omega
  obtain ⟨R, hR⟩ : ∃ R, R = cmpL la lb na := ⟨_, rfl⟩
  rw [← hR]
  have HR := Lib.hid hR
  clear ha hb hla hlb hR
  go_enter Try.func37, Try.ntmps37
  go_wp2_with fail
  go_loop [7] (fun i => ∃ k : Nat, k ≤ na ∧ i = .int .i64 ((k : Int) - 1) ∧ R = cmpL la lb k) (fun i => (intOf i + 1).toNat)
  case atStart => exact ⟨na, by omega, by rw [Int.max_eq_left hab'], HR.out⟩
  case round =>
    obtain ⟨k, hk, rfl, hP⟩ := hrel
    cases k with
    | zero =>
      have HP := Lib.hid hP
      clear hP
      go_wp2_with fail
      go_ret
      exact ⟨ret_int (by rw [HP.out]; rfl), rfl⟩
    | succ k =>
      have e1 : ((k + 1 : Nat) : Int) - 1 = (k : Int) := by omega
      rw [e1]
      have h1 := HA.out k (by omega)
      have h2 := HB.out k (by omega)
      have heq := cmpL_eq (a := la) (b := lb) (n := k)
      have hlt := cmpL_lt (a := la) (b := lb) (n := k)
      have hgt := cmpL_gt (a := la) (b := lb) (n := k)
      obtain ⟨x, hx⟩ : ∃ x, x = la.getD k 0 := ⟨_, rfl⟩
      obtain ⟨y, hy⟩ : ∃ y, y = lb.getD k 0 := ⟨_, rfl⟩
      rw [← hx] at h1 heq hlt hgt
      rw [← hy] at h2 heq hlt hgt
      have H1 := Lib.hid h1
      have H2 := Lib.hid h2
      have HEQ := Lib.hid heq
      have HLT := Lib.hid hlt
      have HGT := Lib.hid hgt
      have HP := Lib.hid hP
      have hk' : k ≤ 39 := by omega
      clear h1 h2 heq hlt hgt hP hx hy e1
      rcases Int.lt_trichotomy x y with h | h | h
      · have hne : (x != y) = true := by simp; omega
        have hne2 : (x == y) = false := by simp; omega
        go_wp2_with (first | (go_at_call 46; with_reducible refine Calls.mono H1.out ?_; rintro e w1 ⟨rfl, rfl⟩) | (go_at_call 46; with_reducible refine Calls.mono H2.out ?_; rintro e w1 ⟨rfl, rfl⟩))
        go_ret
        exact ⟨ret_int (by rw [HP.out, HLT.out h]), rfl⟩
      · subst h
        go_wp2_with (first | (go_at_call 46; with_reducible refine Calls.mono H1.out ?_; rintro e w1 ⟨rfl, rfl⟩) | (go_at_call 46; with_reducible refine Calls.mono H2.out ?_; rintro e w1 ⟨rfl, rfl⟩))
        go_round
        case rel => exact ⟨k, by omega, by go_num, by rw [HP.out, HEQ.out (by trivial)]⟩
        case measure => simp [intOf]
      · have hne : (x != y) = true := by simp; omega
        have hne2 : (x == y) = false := by simp; omega
        have hn : decide (x < y) = false := decide_eq_false (by omega)
        go_wp2_with (first | (go_at_call 46; with_reducible refine Calls.mono H1.out ?_; rintro e w1 ⟨rfl, rfl⟩) | (go_at_call 46; with_reducible refine Calls.mono H2.out ?_; rintro e w1 ⟨rfl, rfl⟩))
        go_ret
        exact ⟨ret_int (by rw [HP.out, HGT.out h]), rfl⟩

end Go.Proofs.Ytojmbbapcnfibaa
