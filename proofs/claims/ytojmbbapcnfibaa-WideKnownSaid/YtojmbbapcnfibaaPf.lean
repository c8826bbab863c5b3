/- Walks: the program's primes and its table. -/
import Derived.Test.YtojmbbapcnfibaaPe
import Derived.Test.YtojmbbapcnfibaaRp
namespace Go.Proofs.Ytojmbbapcnfibaa
open Go.RowKit

set_option maxHeartbeats 400000 in
theorem clos_any (p q : Int) (c : Nat) (hp0 : 0 ≤ p) (hp1 : p ≤ 1000) (hq0 : 2 ≤ q) (hq1 : q ≤ 1000) (w : World) (hc : w.cell? ⟨c, 0, none⟩ = some (.int .u32 p)) :
    Calls Try.prog 34 #[.int .u32 q, .pointer (some ⟨c, 0, none⟩)] w fun e w' => e = .returned (.bool (p % q == 0)) ∧ w = w' := by
  go_enter Try.func34, Try.ntmps34
  go_wp2_with fail
  go_ret
  exact ⟨rfl, rfl⟩

/-- Some number goes into p. -/
def goesB (p : Int) (l : List Int) : Bool := !(l.all fun q => decide (p % q ≠ 0))
/-- A place, if there is one. -/
def FoundAt (p : Int) (l : List Int) (w : World) (e : Ending) (w' : World) : Prop := ∃ r : Int, e = .returned (.int .i64 r) ∧ decide (0 ≤ r) = goesB p l ∧ w = w'

theorem goes_yes {p : Int} {l : List Int} (j : Nat) (h : j < l.length) (hq : p % l.getD j 0 = 0) : goesB p l = true := by
  unfold goesB
  have : (l.all fun q => decide (p % q ≠ 0)) = false := by
    rw [List.all_eq_false]
    exact ⟨l.getD j 0, getD_mem l j h, by simpa using hq⟩
  rw [this]; rfl
theorem goes_no {p : Int} {l : List Int} (h : (l.all fun q => decide (p % q ≠ 0)) = true) : goesB p l = false := by
  unfold goesB
  rw [h]; rfl

set_option maxHeartbeats 800000 in
theorem index_any (p : Int) (l : List Int) (m : Nat) (o : Option Addr) (k c : Nat) (hl : l.length = m) (hm : m ≤ 1000) (hp0 : 0 ≤ p) (hp1 : p ≤ 1000) (hbd : ∀ j, j < m → 2 ≤ l.getD j 0 ∧ l.getD j 0 ≤ 1000) (w : World)
    (ho : 0 < m → ∃ g, o = some ⟨g, 0, none⟩ ∧ ∀ j, j < m → w.cell? ⟨g, j, none⟩ = some (.int .u32 (l.getD j 0))) (hc : w.cell? ⟨c, 0, none⟩ = some (.int .u32 p)) :
    Calls Try.prog 45 #[.slice o m k, .func (.func 34) #[] #[.pointer (some ⟨c, 0, none⟩)]] w (FoundAt p l w) := by
  have HO := Lib.hid ho
  have HBD := Lib.hid hbd
  have HL := Lib.hid hl
  have HC := Lib.hid (fun q h0 h1 => clos_any p q c hp0 hp1 h0 h1 w hc)
  clear ho hbd hl hc
  go_enter Try.func45, Try.ntmps45
  go_wp2_with fail
  go_loop [8] (fun i => ∃ j : Nat, j ≤ m ∧ i = .int .i64 j ∧ ((l.take j).all fun q => decide (p % q ≠ 0)) = true) (fun i => m - (intOf i).toNat)
  case atStart => exact ⟨0, by omega, rfl, rfl⟩
  case round =>
    obtain ⟨j, hj, rfl, hall⟩ := hrel
    by_cases hjm : j < m
    · obtain ⟨g, rfl, hcell⟩ := HO.out (by omega)
      have hcj := hcell j hjm
      obtain ⟨q0, q1⟩ := HBD.out j hjm
      have htk : l.take (j + 1) = l.take j ++ [l.getD j 0] := by
        rw [List.take_succ_eq_append_getElem (by rw [HL.out]; exact hjm), List.getD_eq_getElem?_getD, List.getElem?_eq_getElem (by rw [HL.out]; exact hjm)]; rfl
      have hyes := goes_yes (p := p) j (by rw [HL.out]; exact hjm)
      obtain ⟨q, hq⟩ : ∃ q, q = l.getD j 0 := ⟨_, rfl⟩
      rw [← hq] at hcj q0 q1 htk hyes
      have hcl := HC.out q q0 q1
      have HT : Hid (p % q ≠ 0 → ((l.take (j + 1)).all fun q => decide (p % q ≠ 0)) = true) := Lib.hid (fun h => by rw [htk, List.all_append, hall]; simp [h])
      have HY := Lib.hid hyes
      clear hcell htk hq hall hyes
      by_cases hz : p % q = 0
      · have hb : (p % q == 0) = true := by simpa using hz
        rw [hb] at hcl
        have HCL := Lib.hid hcl
        have HG := Lib.hid (HY.out hz)
        clear hz hb hcl
        go_wp2_with fail
        refine HCL.out.mono ?_
        rintro e w1 ⟨rfl, rfl⟩
        go_wp2_with fail
        go_ret
        exact ⟨_, rfl, by rw [HG.out]; exact decide_eq_true (by omega), rfl⟩
      · have hb : (p % q == 0) = false := by simpa using hz
        rw [hb] at hcl
        have HCL := Lib.hid hcl
        have HG := Lib.hid (HT.out hz)
        clear hz hb hcl
        go_wp2_with fail
        refine HCL.out.mono ?_
        rintro e w1 ⟨rfl, rfl⟩
        go_wp2_with fail
        go_round
        case rel => exact ⟨j + 1, by omega, by go_num, HG.out⟩
        case measure => simp [intOf]; omega
    · obtain rfl : j = m := by omega
      have HG : Hid (goesB p l = false) := Lib.hid (goes_no (by rwa [List.take_of_length_le (by rw [HL.out]; exact Nat.le_refl _)] at hall))
      clear hall
      go_wp2_with fail
      go_ret
      exact ⟨_, rfl, by rw [HG.out]; rfl, rfl⟩

set_option maxHeartbeats 800000 in
theorem contains_any (p : Int) (l : List Int) (m : Nat) (o : Option Addr) (k c : Nat) (hl : l.length = m) (hm : m ≤ 1000) (hp0 : 0 ≤ p) (hp1 : p ≤ 1000) (hbd : ∀ j, j < m → 2 ≤ l.getD j 0 ∧ l.getD j 0 ≤ 1000) (w : World)
    (ho : 0 < m → ∃ g, o = some ⟨g, 0, none⟩ ∧ ∀ j, j < m → w.cell? ⟨g, j, none⟩ = some (.int .u32 (l.getD j 0))) (hc : w.cell? ⟨c, 0, none⟩ = some (.int .u32 p)) :
    Calls Try.prog 33 #[.slice o m k, .func (.func 34) #[] #[.pointer (some ⟨c, 0, none⟩)]] w fun e w' => e = .returned (.bool (goesB p l)) ∧ w = w' := by
  have HI := Lib.hid (index_any p l m o k c hl hm hp0 hp1 hbd w ho hc)
  clear hl hm hbd ho hc
  obtain ⟨b, hb⟩ : ∃ b, b = goesB p l := ⟨_, rfl⟩
  have HB := Lib.hid hb
  rw [← hb]
  clear hb
  go_enter Try.func33, Try.ntmps33
  go_wp2_with fail
  refine HI.out.mono ?_
  rintro e w1 ⟨r, rfl, hr, rfl⟩
  rw [← HB.out] at hr
  go_wp2_with fail
  go_ret
  exact ⟨ret_bool (by first | exact hr | simp), rfl⟩

/-- The number in a cell that a pointer leads to. -/
def numAt (v : Value) (w : World) : Nat :=
  match v with
  | .pointer (some a) => match w.cell? a with
    | some (.int _ x) => x.toNat
    | _ => 0
  | _ => 0

set_option maxHeartbeats 1600000 in
theorem pprimes_any (n : Nat) (hn : n ≤ 80) (w : World) :
    Calls Try.prog 22 #[.int .i64 n] w fun e w' => ∃ v, e = .returned v ∧ w'.ownsRow w.heap.size 48 1 v n (((prL 408).take n).map (Value.int .u32)) ∧ Below w.heap.size w w' := by
  obtain ⟨i0, hi, hz0, hz1, hz2⟩ := info_parts infoU32
  go_enter Try.func22, Try.ntmps22
  go_wp2_with fail
  have hc0 : (w.alloc (.cells #[.int .u32 2] 48)).heap[w.heap.size]? = some (.cells #[.int .u32 2] 48 (0, 0)) := heap_alloc_new _ _
  have hB0 : Below w.heap.size w (w.alloc (.cells #[.int .u32 2] 48)) := below_alloc' (Below.refl _ _) _
  generalize w.alloc (.cells #[.int .u32 2] 48) = W0 at hc0 hB0 ⊢
  go_loopw [3, 4] (fun v y wr => ∃ (k m c : Nat), k ≤ 408 ∧ m ≤ n ∧ (prL k).length = m ∧ y = .pointer (some ⟨c, 0, none⟩) ∧ w.heap.size ≤ c ∧ v.ownBlock ≠ some c ∧ wr.heap[c]? = some (.cells #[.int .u32 ((k : Int) + 2)] 48 (0, 0)) ∧ wr.ownsRow w.heap.size 48 1 v m ((prL k).map (Value.int .u32)) ∧ Below w.heap.size w wr) (fun _ y wr => 500 - numAt y wr)
  case atStart => exact ⟨0, 0, w.heap.size, by omega, by omega, rfl, rfl, Nat.le_refl _, by simp [Value.ownBlock], hc0, World.ownsRow_nil _ _ _ _, hB0⟩
  case round =>
    obtain ⟨k, m, c, hk, hm, hlen, rfl, hcw, hvc, hcb, hown, hB⟩ := hrel
    obtain ⟨o, cv, rfl, hg⟩ := own_shape hown
    have hs := hB.size
    clear hc0 hB0
    obtain ⟨xc, fc⟩ : wr.cell? ⟨c, 0, none⟩ = some (.int .u32 ((k : Int) + 2)) ∧ wr.frozen? ⟨c, 0, none⟩ = false := by simp [World.cell?, World.frozen?, hcb]
    have hclt := (Array.getElem?_eq_some_iff.1 hcb).1
    by_cases hlt : m < n
    · have hk4 : k < 408 := prL_short k hk (by omega)
      have hcon := contains_any ((k : Int) + 2) (prL k) m o cv c hlen (by omega) (by omega) (by omega) (fun j hj => by
        have := prL_bd k _ (getD_mem (prL k) j (by rw [hlen]; exact hj)); omega) wr (fun h => by
          obtain ⟨g, rfl⟩ := hg h
          exact ⟨g, rfl, fun j hj => own_cell hown j hj⟩) xc
      have hnx : prL (k + 1) = if goesB ((k : Int) + 2) (prL k) then prL k else prL k ++ [(k : Int) + 2] := by
        rw [prL_succ]
        unfold goesB
        cases (prL k).all (fun q => decide (((k : Int) + 2) % q ≠ 0)) <;> rfl
      obtain ⟨b, hb⟩ : ∃ b, b = goesB ((k : Int) + 2) (prL k) := ⟨_, rfl⟩
      rw [← hb] at hcon hnx
      have HLEN := Lib.hid hlen
      have HCON := Lib.hid hcon
      have HNX := Lib.hid hnx
      have HCB := Lib.hid hcb
      clear hlen hcon hnx hb hg hcb
      cases b
      · go_wp2_with fail
        refine HCON.out.mono ?_
        rintro e w1 ⟨rfl, rfl⟩
        go_wp2_with (at_builtin; refine wpList_append_own_at _ rfl _ _ 46 rfl w.heap.size 48 i0 (.int .u32 0) 1 4 Try.underlying46 hi hz0 hz1 hz2 rfl (by decide) _ _ _ rfl (hown.alloc _) ⟨wr.heap.size, 0, none⟩ 1 1 [.int .u32 ((k : Int) + 2)] rfl rfl ?c1 ?c2 ?c3 ?c4 ?c5 ?_)
        case c1 => exact cell_one_new _ _ _
        case c2 => simp [Value.oneCell']
        case c3 => unfold maxLen; omega
        case c4 => omega
        case c5 => first | omega | (simp; omega)
        intro v' w1 hown' hgrow _ _
        have hB1 := (hB.alloc hs (.cells #[.int .u32 ((k : Int) + 2)] 48)).grown hgrow (by simp; omega) (fun j hj => (hown.lt j hj).1)
        have hcb1 : w1.heap[c]? = some (.cells #[.int .u32 ((k : Int) + 2)] 48 (0, 0)) := (hgrow.block c (by simp; omega) (fun e => hvc e.symm)).trans ((Below.heap_alloc _ _ _ hclt).trans HCB.out)
        obtain ⟨xc1, fc1⟩ : w1.cell? ⟨c, 0, none⟩ = some (.int .u32 ((k : Int) + 2)) ∧ w1.frozen? ⟨c, 0, none⟩ = false := by simp [World.cell?, World.frozen?, hcb1]
        have HO1 := Lib.hid hown'
        have hs1 := hB1.size
        clear hown hB hgrow hown' xc fc hcb1
        go_wp2_with fail
        go_roundw
        case rel =>
          have e1 : ((k + 1 : Nat) : Int) + 2 = (k : Int) + 2 + 1 := by omega
          refine ⟨k + 1, m + 1, w1.heap.size, by omega, by omega, ?_, rfl, hs1, ?_, ?_, ?_, ?_⟩
          · rw [HNX.out]; simp [HLEN.out]
          · intro e
            have := (HO1.out.lt _ e).2
            omega
          · rw [e1]
            first | exact heap_alloc_new _ _ | skip
          · rw [HNX.out]
            first | (simpa using HO1.out.alloc _) | skip
          · first | exact below_alloc' hB1 _ | skip
        case measure =>
          have xc : wr.cell? ⟨c, 0, none⟩ = some (.int .u32 ((k : Int) + 2)) := by simp [World.cell?, HCB.out]
          simp [numAt, xc]
          omega
      · go_wp2_with fail
        refine HCON.out.mono ?_
        rintro e w1 ⟨rfl, rfl⟩
        go_wp2_with fail
        go_roundw
        case rel =>
          have e1 : ((k + 1 : Nat) : Int) + 2 = (k : Int) + 2 + 1 := by omega
          refine ⟨k + 1, m, wr.heap.size, by omega, by omega, ?_, rfl, hs, ?_, ?_, ?_, ?_⟩
          · rw [HNX.out]; exact HLEN.out
          · intro e
            have := (hown.lt _ e).2
            omega
          · rw [e1]
            exact heap_alloc_new _ _
          · rw [HNX.out]
            exact hown.alloc _
          · exact below_alloc' hB _
        case measure =>
          simp [numAt, xc]
          omega
    · obtain rfl : m = n := by omega
      have HP := Lib.hid (prL_take k m hk hlen)
      clear hlen
      go_wp2_with fail
      go_ret
      exact ⟨_, rfl, by rw [← HP.out]; exact hown, hB⟩

set_option maxHeartbeats 1600000 in
theorem proots_any (w : World) :
    Calls Try.prog 12 #[.int .i64 80, .int .i64 3] w fun e w' => ∃ v, e = .returned v ∧ w'.ownsRow w.heap.size 25 1 v 80 (constsL.map (Value.int .u64)) ∧ Below w.heap.size w w' := by
  obtain ⟨i0, hi, hz0, hz1, hz2⟩ := info_parts infoU64
  go_enter Try.func12, Try.ntmps12
  go_wp2_with fail
  refine (pprimes_any 80 (by decide) _).mono ?_
  rintro e W0 ⟨vp, rfl, hP, hB0⟩
  obtain ⟨op, cp, rfl, hg⟩ := own_shape hP
  obtain ⟨g, rfl⟩ := hg (by decide)
  clear hg
  have hpl : ((prL 408).take 80).length = 80 := by rw [List.length_take, prL_408]; rfl
  have hpt : (prL 408).take 80 = prL 408 := List.take_of_length_le (by rw [prL_408]; exact Nat.le_refl _)
  rw [hpt] at hP hpl
  have hrw := roots_prog
  have hcl : constsL.length = 80 := rfl
  obtain ⟨pL, hpL⟩ : ∃ pL, pL = prL 408 := ⟨_, rfl⟩
  obtain ⟨cL, hcL⟩ : ∃ cL, cL = constsL := ⟨_, rfl⟩
  rw [← hpL] at hP hpl hrw
  rw [← hcL] at hrw hcl
  have HPL := Lib.hid hpl
  have HRW := Lib.hid hrw
  have HCL := Lib.hid hcl
  have HcL := Lib.hid hcL
  clear hpl hpt hpL hrw hcl hcL
  go_wp2_with fail
  go_loopw [5, 11] (fun v i wr => ∃ k : Nat, k ≤ 80 ∧ i = .int .i64 k ∧ wr.ownsRow W0.heap.size 25 1 v k ((cL.take k).map (Value.int .u64)) ∧ Below W0.heap.size W0 wr) (fun _ i _ => 80 - (intOf i).toNat)
  case atStart => exact ⟨0, by omega, rfl, World.ownsRow_nil _ _ _ _, Below.refl _ _⟩
  case round =>
    obtain ⟨k, hk, rfl, hown, hB⟩ := hrel
    obtain ⟨o, c, rfl, hg⟩ := own_shape hown
    have hs := hB.size
    by_cases hlt : k < 80
    · have hcell := (own_below hP hB).cellAt k (by omega)
      rw [List.getElem?_map, List.getElem?_eq_getElem (by rw [HPL.out]; exact hlt), show pL[k]'(by rw [HPL.out]; exact hlt) = pL.getD k 0 by rw [List.getD_eq_getElem?_getD, List.getElem?_eq_getElem (by rw [HPL.out]; exact hlt)]; rfl] at hcell
      have hrt := HRW.out k hlt
      obtain ⟨y, hy⟩ : ∃ y, y = pL.getD k 0 := ⟨_, rfl⟩
      rw [← hy] at hcell hrt
      have hcell' : wr.cell? ⟨g, k, none⟩ = some (.int .u32 y) := by simpa using hcell
      obtain ⟨r0, hr⟩ : ∃ r0, r0 = rootV y := ⟨_, rfl⟩
      rw [← hr] at hrt
      have HT : Hid ((cL.take (k + 1)).map (Value.int .u64) = (cL.take k).map (Value.int .u64) ++ [.int .u64 r0]) := Lib.hid (by
        have h80 : k < cL.length := by rw [HCL.out]; exact hlt
        rw [List.take_succ_eq_append_getElem h80, List.map_append, show cL[k] = r0 by
          have : cL.getD k 0 = cL[k] := by rw [List.getD_eq_getElem?_getD, List.getElem?_eq_getElem h80]; rfl
          rw [← this, ← hrt]]
        rfl)
      have hroot := fun w => proot_any y w
      rw [← hr] at hroot
      have HRU := Lib.hid hroot
      clear hroot
      clear hcell hrt hy hr
      go_wp2_with fail
      refine (HRU.out _).mono ?_
      rintro e w1 ⟨rfl, hb1⟩
      have hown1 := own_below hown hb1
      have hB1 := hB.trans (hb1.mono hs)
      have hs1 := hB1.size
      clear hown hB hb1 hcell' hs HRU
      go_wp2_with (at_builtin; refine wpList_append_own _ rfl _ _ 22 rfl W0.heap.size 25 i0 (.int .u64 0) 1 8 Try.underlying22 hi hz0 hz1 hz2 rfl (by decide) _ _ _ rfl (hown1.alloc _) ⟨w1.heap.size, 0, none⟩ 1 1 [.int .u64 r0] rfl rfl ?c1 ?c2 ?c3 ?c4 ?c5 ?_)
      case c1 => exact cell_one_new _ _ _
      case c2 => simp [Value.oneCell']
      case c3 => unfold maxLen; omega
      case c4 => omega
      case c5 => first | omega | (simp; omega)
      intro v' w2 hown' hgrow _
      have hB' := (hB1.alloc hs1 (.cells #[.int .u64 r0] 25)).grown hgrow (by simp; omega) (fun j hj => (hown1.lt j hj).1)
      clear hown1 hB1 hgrow
      go_wp2_with fail
      go_roundw
      case rel => exact ⟨k + 1, by omega, by go_num, by rw [HT.out, List.map_take]; exact hown', hB'⟩
      case measure => simp [intOf]; omega
    · obtain rfl : k = 80 := by omega
      go_wp2_with fail
      go_ret
      exact ⟨_, rfl, by rw [← HcL.out, ← List.take_of_length_le (Nat.le_of_eq HCL.out)]; exact own_mono hown hB0.size, below_trans' hB0 hB⟩

set_option maxHeartbeats 400000 in
theorem pconsts_any (w : World) :
    Calls Try.prog 6 #[] w fun e w' => ∃ v, e = .returned v ∧ w'.ownsRow w.heap.size 25 1 v 80 (constsL.map (Value.int .u64)) ∧ Below w.heap.size w w' := by
  obtain ⟨L, hL⟩ : ∃ L, L = constsL.map (Value.int .u64) := ⟨_, rfl⟩
  have HR := Lib.hid (proots_any w)
  rw [← hL] at HR ⊢
  clear hL
  go_enter Try.func6, Try.ntmps6
  go_wp2_with fail
  refine HR.out.mono ?_
  rintro e w1 ⟨v, rfl, ho, hB⟩
  have HO := Lib.hid ho
  clear ho
  go_wp2_with fail
  go_ret
  exact ⟨_, rfl, HO.out, hB⟩

end Go.Proofs.Ytojmbbapcnfibaa
