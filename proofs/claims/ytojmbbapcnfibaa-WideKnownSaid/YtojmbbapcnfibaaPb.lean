/- Walks: products and comparisons of the program's numbers of many limbs. -/
import Derived.Test.YtojmbbapcnfibaaPa
import Derived.Test.YtojmbbapcnfibaaQ
namespace Go.Proofs.Ytojmbbapcnfibaa
open Go.RowKit

/-- Limbs. -/
def Bd (l : List Int) : Prop := ∀ j, 0 ≤ l.getD j 0 ∧ l.getD j 0 < 4294967296
theorem Bd.set {l : List Int} (h : Bd l) (i : Nat) {v : Int} (h0 : 0 ≤ v) (h1 : v < 4294967296) : Bd (l.set i v) := by
  intro j
  by_cases e : i = j
  · subst e
    by_cases hi : i < l.length
    · rw [List.getD_eq_getElem?_getD, List.getElem?_set_self hi]; exact ⟨h0, h1⟩
    · rw [List.set_eq_of_length_le (by omega)]; exact h i
  · rw [List.getD_eq_getElem?_getD, List.getElem?_set_ne e, ← List.getD_eq_getElem?_getD]; exact h j
theorem Bd.zeros (n : Nat) : Bd (List.replicate n 0) := by
  intro j
  rw [List.getD_eq_getElem?_getD, List.getElem?_replicate]
  split <;> simp
theorem mul_bd {x y : Int} (hx0 : 0 ≤ x) (hx : x < 4294967296) (hy0 : 0 ≤ y) (hy : y < 4294967296) : 0 ≤ x * y ∧ x * y ≤ 18446744065119617025 := by
  have h1 := Int.mul_le_mul (a := x) (b := y) (c := 4294967295) (d := 4294967295) (by omega) (by omega) hy0 (by omega)
  have h2 := Int.mul_nonneg hx0 hy0
  omega
theorem innerP_bd {o b : List Int} {x : Int} (ho : Bd o) (hb : Bd b) (hx0 : 0 ≤ x) (hx : x < 4294967296) (i k : Nat) :
    Bd (innerP o i x b k).1 ∧ 0 ≤ (innerP o i x b k).2 ∧ (innerP o i x b k).2 < 4294967296 ∧ (innerP o i x b k).1.length = o.length := by
  induction k with
  | zero => exact ⟨ho, (by decide : (0 : Int) ≤ 0), (by decide : (0 : Int) < 4294967296), rfl⟩
  | succ k ih =>
    obtain ⟨h1, h2, h3, h4⟩ := ih
    obtain ⟨q0, q1⟩ := h1 (i + k)
    obtain ⟨m0, m1⟩ := mul_bd hx0 hx (hb k).1 (hb k).2
    show Bd ((innerP o i x b k).1.set _ _) ∧ 0 ≤ (_ / _ : Int) ∧ (_ / _ : Int) < _ ∧ ((innerP o i x b k).1.set _ _).length = _
    generalize x * b.getD k 0 = t at m0 m1 ⊢
    exact ⟨h1.set _ (by omega) (by omega), by omega, by omega, by rw [List.length_set]; exact h4⟩
theorem outerP_bd {a b : List Int} (ha : Bd a) (hb : Bd b) (i : Nat) : Bd (outerP a b i) ∧ (outerP a b i).length = a.length + b.length := by
  induction i with
  | zero => exact ⟨Bd.zeros _, by simp [outerP]⟩
  | succ i ih =>
    obtain ⟨h1, h2, h3, h4⟩ := innerP_bd ih.1 hb (ha i).1 (ha i).2 i b.length
    show Bd ((innerP (outerP a b i) i (a.getD i 0) b b.length).1.set _ _) ∧ ((innerP (outerP a b i) i (a.getD i 0) b b.length).1.set _ _).length = _
    exact ⟨h1.set _ (by omega) (by omega), by rw [List.length_set, h4, ih.2]⟩
theorem innerP_succ (o : List Int) (i : Nat) (x : Int) (b : List Int) (k : Nat) : innerP o i x b (k + 1) = ((innerP o i x b k).1.set (i + k) ((x * b.getD k 0 + (innerP o i x b k).1.getD (i + k) 0 + (innerP o i x b k).2) % 4294967296), (x * b.getD k 0 + (innerP o i x b k).1.getD (i + k) 0 + (innerP o i x b k).2) / 4294967296) := rfl
theorem outerP_succ (a b : List Int) (i : Nat) : outerP a b (i + 1) = (innerP (outerP a b i) i (a.getD i 0) b b.length).1.set (i + b.length) ((innerP (outerP a b i) i (a.getD i 0) b b.length).2 % 4294967296) := rfl

set_option maxHeartbeats 1600000 in
theorem product_any (la lb : List Int) (na nb ca cb ga gb : Nat) (hla : la.length = na) (hlb : lb.length = nb) (hna : na ≤ 20) (hnb : nb ≤ 20) (hA : Bd la) (hB : Bd lb) (w : World)
    (ha : ∀ j, j < na → w.cell? ⟨ga, j, none⟩ = some (.int .u32 (la.getD j 0))) (hb : ∀ j, j < nb → w.cell? ⟨gb, j, none⟩ = some (.int .u32 (lb.getD j 0))) (hga : ga < w.heap.size) (hgb : gb < w.heap.size) :
    Calls Try.prog 36 #[.slice (some ⟨ga, 0, none⟩) na ca, .slice (some ⟨gb, 0, none⟩) nb cb] w fun e w' => e = .returned (.slice (some ⟨w.heap.size, 0, none⟩) (na + nb) (na + nb)) ∧ Row w' w.heap.size 48 .u32 (prodL la lb) ∧ Below w.heap.size w w' := by
  obtain ⟨n, hn⟩ : ∃ n, n = na + nb := ⟨_, rfl⟩
  have en : (na : Int) + (nb : Int) = (n : Int) := by omega
  have hn1 : n ≤ 40 := by omega
  have hmk : ∀ w : World, (Instr.makeSlice 46 (.int .i64 (n : Int)) (.int .i64 (n : Int))).run Try.prog w = .ok (.slice (some ⟨w.heap.size, 0, none⟩) n n) (w.alloc (.cells (madeCells #[.int .u32 0] n) 48)) := fun w =>
    run_make_row' (P := Try.prog) 46 48 (.int .u32 0) 4 Try.underlying46 (by kernel_rfl) rfl .i64 .i64 n (by omega) (by omega) w
  rw [← hn]
  have HA := Lib.hid ha
  have HBB := Lib.hid hb
  have HLA := Lib.hid hla
  have HLB := Lib.hid hlb
  have HN := Lib.hid hn
  have hprod : prodL la lb = outerP la lb na := by unfold prodL; rw [hla]
  have HP := Lib.hid hprod
  clear ha hb hla hlb hn hprod
  go_enter Try.func36, Try.ntmps36
  go_wp2_with fail
  have hR0 : Row (w.alloc (.cells (madeCells #[.int .u32 0] n) 48)) w.heap.size 48 .u32 (outerP la lb 0) := by
    have := Row.made w 48 .u32 n
    rw [HN.out, ← HLA.out, ← HLB.out] at this ⊢
    exact this
  have hB0 : Below w.heap.size w (w.alloc (.cells (madeCells #[.int .u32 0] n) 48)) := below_alloc' (Below.refl _ _) _
  clear hmk
  generalize w.alloc (.cells (madeCells #[.int .u32 0] n) 48) = W0 at hR0 hB0 ⊢
  obtain ⟨g, hg⟩ : ∃ g, g = w.heap.size := ⟨_, rfl⟩
  have hgg : w.heap.size ≤ g := by omega
  rw [← hg] at hR0 ⊢
  have HG := Lib.hid hg
  clear hg
  go_loopw [20] (fun t wr => ∃ i : Nat, i ≤ na ∧ t = .int .i64 i ∧ Row wr g 48 .u32 (outerP la lb i) ∧ Below w.heap.size w wr) (fun t _ => na - (intOf t).toNat)
  case atStart => exact ⟨0, by omega, rfl, hR0, hB0⟩
  case round =>
    obtain ⟨i, hi, rfl, hR, hBi⟩ := hrel
    clear hR0 hB0
    obtain ⟨obd, oln⟩ := outerP_bd hA hB i
    have hsucc := outerP_succ la lb i
    obtain ⟨o, ho⟩ : ∃ o, o = outerP la lb i := ⟨_, rfl⟩
    rw [← ho] at hR obd oln hsucc
    have HO := Lib.hid ho
    have HOL : Hid (o.length = n) := Lib.hid (by rw [oln, HLA.out, HLB.out, HN.out])
    clear ho oln
    by_cases hlt : i < na
    · obtain ⟨x, hx⟩ : ∃ x, x = la.getD i 0 := ⟨_, rfl⟩
      have hcx : wr.cell? ⟨ga, i, none⟩ = some (.int .u32 x) := by rw [hx]; exact (hBi.cell (p := ⟨ga, i, none⟩) hga).trans (HA.out i hlt)
      have hxb := hA i
      rw [← hx] at hxb hsucc
      obtain ⟨hx0, hx1⟩ := hxb
      rw [HLB.out] at hsucc
      have HSU := Lib.hid hsucc
      clear hx hsucc
      go_wp2_with fail
      go_loopw [8, 27] (fun c t wv => ∃ k : Nat, k ≤ nb ∧ t = .int .i64 k ∧ c = .int .u64 (innerP o i x lb k).2 ∧ Row wv g 48 .u32 (innerP o i x lb k).1 ∧ Below w.heap.size w wv) (fun _ t _ => nb - (intOf t).toNat)
      case atStart => exact ⟨0, by omega, rfl, rfl, hR, hBi⟩
      case round =>
        obtain ⟨k, hk, rfl, rfl, hRk, hBk⟩ := hrel
        clear hR hBi hcx
        obtain ⟨ib, c0, c1, il⟩ := innerP_bd obd hB hx0 hx1 i k
        have hin := innerP_succ o i x lb k
        obtain ⟨O, hO⟩ : ∃ O, O = (innerP o i x lb k).1 := ⟨_, rfl⟩
        obtain ⟨c, hc⟩ : ∃ c, c = (innerP o i x lb k).2 := ⟨_, rfl⟩
        rw [← hO] at hRk ib il hin
        rw [← hc] at c0 c1 hin ⊢
        have HOO := Lib.hid hO
        have HC := Lib.hid hc
        rw [HOL.out] at il
        have HIL := Lib.hid il
        clear hO hc il
        by_cases hkl : k < nb
        · have hik : i + k < n := by have := HN.out; omega
          have hcy := (hBk.cell (p := ⟨gb, k, none⟩) hgb).trans (HBB.out k hkl)
          have hco := hRk.cell (i + k) (by rw [HIL.out]; exact hik)
          have hfo := hRk.frozen (i + k)
          obtain ⟨y, hy⟩ : ∃ y, y = lb.getD k 0 := ⟨_, rfl⟩
          obtain ⟨u, hu⟩ : ∃ u, u = O.getD (i + k) 0 := ⟨_, rfl⟩
          have hyb := hB k
          have hub := ib (i + k)
          rw [← hy] at hcy hyb hin
          rw [← hu] at hco hub hin
          obtain ⟨y0, y1⟩ := hyb
          obtain ⟨u0, u1⟩ := hub
          obtain ⟨t0, t1⟩ := mul_bd hx0 hx1 y0 y1
          obtain ⟨t, ht⟩ : ∃ t, x * y = t := ⟨_, rfl⟩
          rw [ht] at t0 t1 hin
          obtain ⟨ik, hikk⟩ : ∃ ik : Nat, ik = i + k := ⟨_, rfl⟩
          have eik : (i : Int) + (k : Int) = (ik : Int) := by omega
          rw [← hikk] at hik hco hfo hin
          have HIN := Lib.hid hin
          clear hy hu hin hikk
          go_wp2_with fail
          go_roundw
          case rel => exact ⟨k + 1, by omega, by go_num, by rw [HIN.out], by rw [HIN.out]; exact hRk.set ik _, hBk.setCell (p := ⟨g, ik, none⟩) hgg _⟩
          case measure => simp [intOf]; omega
        · obtain rfl : k = nb := by omega
          have hik : i + k < n := by have := HN.out; omega
          have hfo := hRk.frozen (i + k)
          have hco := hRk.cell (i + k) (by rw [HIL.out]; exact hik)
          obtain ⟨ik, hikk⟩ : ∃ ik : Nat, ik = i + k := ⟨_, rfl⟩
          have eik : (i : Int) + (k : Int) = (ik : Int) := by omega
          rw [← hikk] at hik hco hfo
          have HIK := Lib.hid hikk
          clear hikk
          go_wp2_with fail
          go_roundw
          case rel => exact ⟨i + 1, by omega, by go_num, by rw [HSU.out, ← HOO.out, ← HC.out, ← HIK.out, Int.emod_eq_of_lt c0 c1]; exact hRk.set ik _, hBk.setCell (p := ⟨g, ik, none⟩) hgg _⟩
          case measure => simp [intOf]; omega
    · obtain rfl : i = na := by omega
      rw [HO.out, ← HP.out] at hR
      clear hsucc
      go_wp2_with fail
      go_ret
      exact ⟨by rw [HG.out]; rfl, by rw [← HG.out]; exact hR, hBi⟩

end Go.Proofs.Ytojmbbapcnfibaa
