/- Walks: the iterator over the texts. -/
import Derived.Test.YtaalfjngehlojaaP
import Derived.RangeFuncNested
import Derived.RangeFuncBound
import Derived.RangeFuncCalls
import Derived.RangeFuncLeaves
import Derived.Shelf.Abstract
import Derived.Shelf.RegionOpen
import Derived.OwnWalkIn
import Derived.TacticsInMore
import Derived.LoopNIn
import Derived.LoopIn
namespace Go.Proofs.Ytaalfjngehlojaa
open Go.RowKit Go.Shelf
attribute [local go_sem] Oper.semAt_some litS_size

/-- What lay there before is as it was. -/
def Old (n : Nat) (A B : World) : Prop := ∀ j, j < n → B.heap[j]? = A.heap[j]?
theorem Old.cell {n : Nat} {A B : World} (h : Old n A B) {p : Nat} (hp : p < n) : B.cell? ⟨p, 0, none⟩ = A.cell? ⟨p, 0, none⟩ := by
  have := h p hp
  simp only [World.cell?, this]
theorem Old.refl (n : Nat) (A : World) : Old n A A := fun _ _ => rfl
theorem Old.trans {n : Nat} {A B C : World} (h : Old n A B) (k : Old n B C) : Old n A C := fun j hj => (k j hj).trans (h j hj)
theorem Old.size {n : Nat} {A B : World} (h : Old n A B) (hn : n ≤ A.heap.size) : n ≤ B.heap.size := by
  by_cases h0 : n = 0
  · omega
  · have h1 := h (n - 1) (by omega)
    rw [Array.getElem?_eq_getElem (show n - 1 < A.heap.size by omega)] at h1
    have := (Array.getElem?_eq_some_iff.1 h1).1
    omega
theorem Old.below {n : Nat} {A B : World} (h : Below A.heap.size A B) (hn : n ≤ A.heap.size) : Old n A B := fun j hj => h.block j (by omega)
theorem grown_below (W W' : World) (h : Below W.heap.size W W') : W.grownBy W' none := ⟨h.os, h.tape, h.output, h.size, fun j hj _ => h.block j hj⟩

theorem textsL_succ (e q : Int) (s : ByteArray) (k : Nat) : (List.range (k + 1)).map (textB e q s) = (List.range k).map (textB e q s) ++ [textB e q s k] := by simp [List.range_succ]

set_option maxHeartbeats 4000000 in
/-- The iterator. -/
theorem iter_any (n : Nat) (hn : 2 ≤ n) (l N0 m p a b : Nat) (x y : Int) (s : ByteArray) (hs : s.size ≤ 14400) (hm : m < N0) (hp : p < N0) (ha : a < N0) (hb : b < N0) (J Jx : List ByteArray → World → Prop)
    (hY : ∀ pre z W, J pre W → pre.length < manyN s.size → YieldAt Fence.wide (n - 1) Try.prog l #[.string z] W fun e W' =>
      (e = .returned (.bool true) ∧ J (pre ++ [z]) W' ∧ Old N0 W W') ∨ (e = .returned (.bool false) ∧ Jx (pre ++ [z]) W'))
    (W : World) (hN : N0 ≤ W.heap.size) (hJ : AbidesFrom W.heap.size J)
    (xm : W.cell? ⟨m, 0, none⟩ = some (.int .i64 (manyN s.size : Nat))) (xp : W.cell? ⟨p, 0, none⟩ = some (.string s)) (xa : W.cell? ⟨a, 0, none⟩ = some (.int .i64 x)) (xb : W.cell? ⟨b, 0, none⟩ = some (.int .i64 y)) (h0 : J [] W) :
    CallsIn Fence.wide n Try.prog 22 #[.func (.yield l) #[] #[], .pointer (some ⟨m, 0, none⟩), .pointer (some ⟨p, 0, none⟩), .pointer (some ⟨a, 0, none⟩), .pointer (some ⟨b, 0, none⟩)] W fun e W' => (∃ v, e = .returned v) ∧
      ((∃ ys, ys = textsL x y s ∧ J ys W') ∨ (∃ pre, pre <+: textsL x y s ∧ Jx pre W')) := by
  have HY := Lib.hid hY
  have HJ := Lib.hid hJ
  clear hY hJ
  refine callsIn_of_wp Try.func22 rfl trivial ?_ rfl
  simp only [Try.ntmps22, List.size_toArray, List.length_cons, List.length_nil, Nat.reduceAdd, Nat.reduceSub, Array.replicate_succ, Array.replicate_zero, List.push_toArray, List.append_toArray, List.nil_append, List.cons_append]
  obtain ⟨M, hM⟩ : ∃ M, M = manyN s.size := ⟨_, rfl⟩
  have hM2 : M ≤ 300 := by rw [hM]; unfold manyN; omega
  rw [← hM] at xm
  have HM := Lib.hid hM
  clear hM
  gi_wp2
  gi_loopw [10] (fun i wr => ∃ k : Nat, k ≤ M ∧ i = .int .i64 k ∧ J ((List.range k).map (textB x y s)) wr ∧ Old N0 W wr) (fun i _ => M - (intOf i).toNat)
  case atStart => exact ⟨0, by omega, rfl, h0, Old.refl _ _⟩
  case round =>
    obtain ⟨k, hk, rfl, hJ, ho⟩ := hrel
    have hsz := ho.size hN
    have ym := (ho.cell hm).trans xm
    have yp := (ho.cell hp).trans xp
    have ya := (ho.cell ha).trans xa
    have yb := (ho.cell hb).trans xb
    by_cases hlt : k < M
    · have hk48 : k * 48 ≤ s.size := by have := HM.out; unfold manyN at this; omega
      have hsl : ∀ w, (Instr.slice 9 (.string s) (some (.int .i64 ((k : Int) * 48))) (some (.int .i64 (min (s.size : Int) (((k : Int) + 1) * 48)))) none).run Try.prog w = .ok (.string (partB s k)) w := fun w => by
        have h1 := run_slice_string (P := Try.prog) w 9 s .i64 .i64 ((k : Int) * 48) (min (s.size : Int) (((k : Int) + 1) * 48)) Try.underlying9 (by omega) (by omega) (by omega)
        rw [h1]
        unfold partB
        congr 3 <;> omega
      obtain ⟨T, hT⟩ : ∃ T, T = partB s k := ⟨_, rfl⟩
      have hT2 := partB_size s k
      simp only [← hT] at hsl
      rw [← hT] at hT2
      have HT := Lib.hid hT
      have hT3 : ¬ (9223372036854775807 < 12 + T.size) := by omega
      have zm : ∀ V, Below wr.heap.size wr V → V.cell? ⟨m, 0, none⟩ = some (.int .i64 M) := fun V hV => (hV.cell (p := ⟨m, 0, none⟩) (show m < wr.heap.size by omega)).trans ym
      have zp : ∀ V, Below wr.heap.size wr V → V.cell? ⟨p, 0, none⟩ = some (.string s) := fun V hV => (hV.cell (p := ⟨p, 0, none⟩) (show p < wr.heap.size by omega)).trans yp
      have za : ∀ V, Below wr.heap.size wr V → V.cell? ⟨a, 0, none⟩ = some (.int .i64 x) := fun V hV => (hV.cell (p := ⟨a, 0, none⟩) (show a < wr.heap.size by omega)).trans ya
      have zb : ∀ V, Below wr.heap.size wr V → V.cell? ⟨b, 0, none⟩ = some (.int .i64 y) := fun V hV => (hV.cell (p := ⟨b, 0, none⟩) (show b < wr.heap.size by omega)).trans yb
      have HJ2 := Lib.hid hJ
      have HO := Lib.hid ho
      have HZ := Lib.hid hsz
      have hself : Below wr.heap.size wr wr.drew := (Below.refl _ _).drew
      clear hT hJ ho hsz h0 xm xp xa xb
      have CX := Lib.hid (fun w => plittle_any x 4 (by omega) w)
      have CY := Lib.hid (fun w => plittle_any y 4 (by omega) w)
      have CK := Lib.hid (fun w => plittle_any (k : Int) 1 (by omega) w)
      have CM := Lib.hid (fun w => plittle_any (M : Int) 1 (by omega) w)
      have CT := Lib.hid (fun w => plittle_any (T.size : Int) 2 (by omega) w)
      gi_wp2_with fail
      refine wpIn_wide.2 ?_
      go_region_held3 (fun V => Below wr.heap.size wr V) (first | exact (Below.refl _ _).drew | assumption) (first | (go_at_call 23; first | ((with_reducible refine Calls.mono (CX.out _) ?_); rintro e w3 ⟨rfl, hbA⟩; have hS3 := below_trans' (h := (by assumption : Below wr.heap.size wr _)) hbA; clear hbA) | ((with_reducible refine Calls.mono (CY.out _) ?_); rintro e w3 ⟨rfl, hbA⟩; have hS3 := below_trans' (h := (by assumption : Below wr.heap.size wr _)) hbA; clear hbA) | ((with_reducible refine Calls.mono (CK.out _) ?_); rintro e w3 ⟨rfl, hbA⟩; have hS3 := below_trans' (h := (by assumption : Below wr.heap.size wr _)) hbA; clear hbA) | ((with_reducible refine Calls.mono (CM.out _) ?_); rintro e w3 ⟨rfl, hbA⟩; have hS3 := below_trans' (h := (by assumption : Below wr.heap.size wr _)) hbA; clear hbA) | ((with_reducible refine Calls.mono (CT.out _) ?_); rintro e w3 ⟨rfl, hbA⟩; have hS3 := below_trans' (h := (by assumption : Below wr.heap.size wr _)) hbA; clear hbA)))
      obtain ⟨B, hB⟩ : ∃ B, B = litS x 4 ++ litS y 4 ++ litS k 1 ++ litS M 1 ++ litS T.size 2 ++ T := ⟨_, rfl⟩
      have hBs : B.size = 12 + T.size := by rw [hB]; simp only [ByteArray.size_append, litS_size]
      have HB : Hid (B = bodyB x y s k) := Lib.hid (by rw [hB, HT.out, HM.out]; rfl)
      rw [← hB]
      obtain ⟨c, hc⟩ : ∃ c : Nat, c = 60 - B.size := ⟨_, rfl⟩
      have hc2 : (60 : Int) - (12 + (T.size : Int)) = (c : Int) := by omega
      have hrep := fun w => Try.strings_Repeat ⟨#[0]⟩ c w (by omega) (by show 1 * _ ≤ _; omega)
      have hN1 : (⟨(Lib.repeatL [0] c).toArray⟩ : ByteArray).size = c := noughtS_size c
      obtain ⟨R, hR⟩ : ∃ R, R = noughtS c := ⟨_, rfl⟩
      have HR := Lib.hid hR
      have hrep2 : ∀ w, Calls Try.prog 25 #[.string ⟨#[0]⟩, .int .i64 c] w fun e w' => e = .returned (.string R) ∧ Below w.heap.size w w' := by rw [hR]; exact hrep
      have hRs : R.size = c := by rw [hR]; exact hN1
      have HRep := Lib.hid hrep2
      have hput := fun w => put_any (B ++ R) (by rw [ByteArray.size_append]; omega) w
      obtain ⟨X, hX⟩ : ∃ X, X = putB (B ++ R) := ⟨_, rfl⟩
      simp only [← hX] at hput
      have HP := Lib.hid hput
      have HX : Hid (X = textB x y s k) := Lib.hid (by rw [hX, HR.out, hc, HB.out]; rfl)
      have HC := Lib.hid hc
      clear hB hc hR hX hrep hrep2 hput hN1 zm zp za zb CX CY CK CM CT ym yp ya yb hsl hself
      gi_wp2_with fail
      refine ⟨trivial, fun _ => by omega, callsIn_wide.2 ((HRep.out _).mono ?_)⟩
      rintro e w4 ⟨rfl, hb4⟩
      have hB4 := below_trans' ‹Below wr.heap.size wr w3› hb4
      gi_wp2_with fail
      refine ⟨trivial, fun _ => by omega, callsIn_wide.2 ((HP.out _).mono ?_)⟩
      rintro e w5 ⟨rfl, hb5⟩
      have hB5 := below_trans' hB4 hb5
      have hJ5 := HJ.out _ _ _ none HJ2.out (grown_below _ _ hB5) (fun r hr => by cases hr)
      have ho5 := HO.out.trans (Old.below hB5 (by have := HZ.out; omega))
      have hz5 := hB5.size
      obtain ⟨fn, tmps, assign, body, hy, hR⟩ := HY.out _ X _ hJ5 (by rw [List.length_map, List.length_range, ← HM.out]; exact hlt)
      gi_wp2_with fail
      refine ⟨fun _ => by omega, hR.mono ?_⟩
      rintro e w6 (⟨rfl, hJ6, hk6⟩ | ⟨rfl, hJx6⟩)
      · gi_wp2_with fail
        go_roundw
        case rel => exact ⟨k + 1, by omega, by go_num, by rw [textsL_succ, ← HX.out]; exact hJ6, ho5.trans hk6⟩
        case measure => simp [intOf]; omega
      · gi_wp2_with fail
        refine bodyPost_ret (results_none rfl _ _ _) rfl ?_
        refine ⟨⟨_, rfl⟩, .inr ⟨(List.range k).map (textB x y s) ++ [X], ?_, hJx6⟩⟩
        rw [HX.out, ← textsL_succ]
        unfold textsL
        rw [← HM.out]
        exact ⟨((List.range M).map (textB x y s)).drop (k + 1), by rw [show (List.range (k + 1)).map (textB x y s) = ((List.range M).map (textB x y s)).take (k + 1) from by rw [← List.map_take, List.take_range, Nat.min_eq_left (by omega)], List.take_append_drop]⟩
    · obtain rfl : k = M := by omega
      gi_wp2
      go_end0
      exact ⟨⟨_, rfl⟩, .inl ⟨_, by rw [HM.out]; rfl, hJ⟩⟩

theorem iter_stops (n : Nat) (hn : 2 ≤ n) (m p a b : Nat) (x y : Int) (s : ByteArray) (hs : s.size ≤ 14400) (w : World) (hm : m < w.heap.size) (hp : p < w.heap.size) (ha : a < w.heap.size) (hb : b < w.heap.size)
    (xm : w.cell? ⟨m, 0, none⟩ = some (.int .i64 (manyN s.size : Nat))) (xp : w.cell? ⟨p, 0, none⟩ = some (.string s)) (xa : w.cell? ⟨a, 0, none⟩ = some (.int .i64 x)) (xb : w.cell? ⟨b, 0, none⟩ = some (.int .i64 y)) :
    SeqStopsK Fence.wide n Try.prog 22 #[.pointer (some ⟨m, 0, none⟩), .pointer (some ⟨p, 0, none⟩), .pointer (some ⟨a, 0, none⟩), .pointer (some ⟨b, 0, none⟩)] (fun z : ByteArray => #[.string z]) (Old w.heap.size) (fun ys => ys = textsL x y s) (fun pre => pre <+: textsL x y s) (manyN s.size) w :=
  fun l J Jx W hW hJ _ hY h0 => iter_any n hn l w.heap.size m p a b x y s hs hm hp ha hb J Jx hY W hW.size hJ ((hW.cell (p := ⟨m, 0, none⟩) hm).trans xm) ((hW.cell (p := ⟨p, 0, none⟩) hp).trans xp) ((hW.cell (p := ⟨a, 0, none⟩) ha).trans xa) ((hW.cell (p := ⟨b, 0, none⟩) hb).trans xb) h0

end Go.Proofs.Ytaalfjngehlojaa
