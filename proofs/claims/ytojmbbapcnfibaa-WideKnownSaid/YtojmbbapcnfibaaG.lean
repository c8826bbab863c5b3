/- Walks: blocks. -/
import Derived.Test.YtojmbbapcnfibaaE
import Derived.Test.YtojmbbapcnfibaaF
import Derived.Test.YtojmbbapcnfibaaShelf
import Derived.RangeFuncNested
import Derived.RangeFuncBound
import Derived.RangeFuncCalls
import Derived.RangeFuncLeaves
import Derived.Shelf.Abstract
import Derived.Shelf.RegionOpen
import Derived.OwnWalkIn
import Derived.TacticsInMore
import Derived.LoopNIn
import Derived.LoopIn
namespace Go.Proofs.Ytojmbbapcnfibaa
open Go.RowKit Go.Shelf

/-- How many noughts. -/
def fillN (n : Nat) : Nat := (367 - n % 128) % 128
/-- Filled up. -/
def padL (l : List UInt8) : ByteArray := ⟨(l ++ [128]).toArray⟩ ++ ⟨(Lib.repeatL [0] (fillN l.length)).toArray⟩ ++ strOfNums (bigB (l.length * 8) 16)

set_option maxHeartbeats 800000 in
theorem blocks_any (s : ByteArray) (hs : s.size ≤ 1000) (w : World) :
    Calls Try.prog 14 #[.string s] w fun e w' => ∃ p, e = .returned (.func (.func 25) #[] #[.pointer (some ⟨p, 0, none⟩)]) ∧ w.heap.size ≤ p ∧ p < w'.heap.size ∧ w'.cell? ⟨p, 0, none⟩ = some (.string (padL s.data.toList)) ∧ Below w.heap.size w w' := by
  have hf : (s.data.toList.length : Int) = s.size := rfl
  have hf2 : (367 - (s.size : Int) % 128) % 128 = (fillN s.size : Int) := by unfold fillN; omega
  have hf3 : fillN s.size < 128 := by unfold fillN; omega
  have hrep := fun w => Try.strings_Repeat ⟨#[0]⟩ (fillN s.size) w (by omega) (by show 1 * _ ≤ _; omega)
  have hbig := fun w => big_any ((s.size : Int) * 8) 16 (by omega) w
  go_enter Try.func14, Try.ntmps14
  go_wp2_with fail
  refine (hrep _).mono ?_
  rintro e w1 ⟨rfl, hb1⟩
  have hR : (⟨(Lib.repeatL [0] (fillN s.size)).toArray⟩ : ByteArray).size ≤ 128 := by
    show (Lib.repeatL [0] (fillN s.size)).toArray.size ≤ 128
    rw [List.size_toArray, Lib.repeatL_length]; simp; omega
  obtain ⟨R, hR2⟩ : ∃ R, R = (⟨(Lib.repeatL [0] (fillN s.size)).toArray⟩ : ByteArray) := ⟨_, rfl⟩
  rw [← hR2] at hR ⊢
  have hsd : (s ++ ⟨#[128]⟩ : ByteArray).size = s.size + 1 := by rw [ByteArray.size_append]; rfl
  have hs1 : s ++ ⟨#[128]⟩ = ⟨(s.data.toList ++ [128]).toArray⟩ := by
    apply ByteArray.ext; apply Array.ext'; simp
  obtain ⟨T, hT⟩ : ∃ T, T = s ++ ⟨#[128]⟩ := ⟨_, rfl⟩
  rw [← hT] at hsd hs1 ⊢
  have HR := Lib.hid hR2
  have HT := Lib.hid hs1
  clear hR2 hrep hT hs1
  go_wp2_with fail
  refine (hbig _).mono ?_
  rintro e w2 ⟨rfl, hb2⟩
  have hB := below_trans' hb1 hb2
  have hG : (strOfNums (bigB (s.size * 8) 16)).size = 16 := by rw [strOfNums_size, bigB_length]
  have HP : Hid (padL s.data.toList = T ++ R ++ strOfNums (bigB (s.size * 8) 16)) := Lib.hid (by rw [HT.out, HR.out]; rfl)
  obtain ⟨G, hG2⟩ : ∃ G, G = strOfNums (bigB (s.size * 8) 16) := ⟨_, rfl⟩
  rw [← hG2] at hG HP ⊢
  have hTR : (T ++ R).size ≤ s.size + 129 := by rw [ByteArray.size_append]; omega
  clear hbig hG2
  go_wp2_with fail
  go_ret
  exact ⟨w2.heap.size, rfl, hB.size, by simp, by rw [HP.out]; exact World.cell?_alloc_new w2 _ 9 0, below_alloc' hB _⟩

attribute [local go_sem] Oper.semAt_some

/-- The block at k. -/
abbrev Blk := { x : ByteArray // x.size = 128 }
def blk (s : ByteArray) (k : Nat) : Blk := if h : (s.extract (128 * k) (128 * k + 128)).size = 128 then ⟨_, h⟩ else ⟨strOfNums (List.replicate 128 0), by rw [strOfNums_size, List.length_replicate]⟩
theorem blk_val (s : ByteArray) (m k : Nat) (hs : s.size = 128 * m) (h : k < m) : (blk s k).1 = s.extract (128 * k) (128 * k + 128) := by
  have : (s.extract (128 * k) (128 * k + 128)).size = 128 := by rw [ByteArray.size_extract]; omega
  unfold blk
  rw [dif_pos this]
def blks (s : ByteArray) (m : Nat) : List Blk := (List.range m).map (blk s)
theorem blks_succ (s : ByteArray) (k : Nat) : blks s (k + 1) = blks s k ++ [blk s k] := by simp [blks, List.range_succ]
theorem blks_length (s : ByteArray) (k : Nat) : (blks s k).length = k := by simp [blks]

/-- Block p is as it was. -/
def Same (p : Nat) (W W' : World) : Prop := W'.heap[p]? = W.heap[p]?
theorem Same.cell {p : Nat} {W W' : World} (h : Same p W W') (j : Nat) : W'.cell? ⟨p, j, none⟩ = W.cell? ⟨p, j, none⟩ := by
  unfold Same at h
  simp only [World.cell?, h]
theorem sameK_t {p : Nat} {A B C : World} (h : Same p A B) (k : Same p B C) : Same p A C := Eq.trans k h
theorem sameK_b {p n : Nat} (hp : p < n) (W : World) (l : Nat) (o o' : Obj) (hl : n ≤ l) (_ : W.heap[l]? = some o) (_ : o.isCells = false) (_ : o.isWalk = false) : Same p W (W.putObj l o') :=
  World.putObj_heap_other (by omega)

set_option maxHeartbeats 1600000 in
/-- The iterator. -/
theorem iter_any (F : Fence) (n : Nat) (hF : F.fn 25) (hro : F.round = none) (hn : 1 ≤ n) (l Bn m : Nat) (s : ByteArray) (hs : s.size = 128 * m) (hm : m ≤ 100000) (J Jx : List Blk → World → Prop)
    (hY : ∀ pre x W, J pre W → pre.length < m → YieldAt F (n - 1) Try.prog l #[.string x.1] W fun e W' =>
      (e = .returned (.bool true) ∧ J (pre ++ [x]) W' ∧ Same Bn W W') ∨ (e = .returned (.bool false) ∧ Jx (pre ++ [x]) W'))
    (W : World) (hBn : W.cell? ⟨Bn, 0, none⟩ = some (.string s)) (h0 : J [] W) :
    CallsIn F n Try.prog 25 #[.func (.yield l) #[] #[], .pointer (some ⟨Bn, 0, none⟩)] W fun e W' => (∃ v, e = .returned v) ∧
      ((∃ ys, ys = blks s m ∧ J ys W') ∨ (∃ pre, pre <+: blks s m ∧ Jx pre W')) := by
  refine callsIn_of_wp Try.func25 rfl hF ?_ hro
  simp only [Try.ntmps25, List.size_toArray, List.length_cons, List.length_nil, Nat.reduceAdd, Nat.reduceSub, Array.replicate_succ, Array.replicate_zero, List.push_toArray, List.append_toArray, List.nil_append, List.cons_append]
  gi_wp2
  gi_loopw [3] (fun i wr => ∃ k : Nat, k ≤ m ∧ i = .int .i64 (128 * k) ∧ J (blks s k) wr ∧ wr.cell? ⟨Bn, 0, none⟩ = some (.string s)) (fun i _ => 128 * m - (intOf i).toNat)
  case atStart => exact ⟨0, by omega, by simp, h0, hBn⟩
  case round =>
    obtain ⟨k, hk, rfl, hJ, hc⟩ := hrel
    by_cases hlt : k < m
    · obtain ⟨fn, tmps, assign, body, hy, hR⟩ := hY (blks s k) (blk s k) wr hJ (by rw [blks_length]; exact hlt)
      have hsl : ∀ w, (Instr.slice 9 (.string s) (some (.int .i64 (128 * (k : Int)))) (some (.int .i64 (128 * (k : Int) + 128))) none).run Try.prog w = .ok (.string (blk s k).1) w := fun w => by
        have h1 := run_slice_string (P := Try.prog) w 9 s .i64 .i64 (128 * (k : Int)) (128 * (k : Int) + 128) Try.underlying9 (by omega) (by omega) (by omega)
        rw [h1, blk_val s m k hs hlt]
        congr 3 <;> omega
      gi_wp2
      refine hR.mono ?_
      rintro e W3 (⟨rfl, hJ3, hk3⟩ | ⟨rfl, hJx3⟩)
      · have hc3 : W3.cell? ⟨Bn, 0, none⟩ = some (.string s) := (hk3.cell 0).trans hc
        gi_wp2
        go_roundw
        case rel => exact ⟨k + 1, by omega, by go_num, by rw [blks_succ]; exact hJ3, hc3⟩
        case measure => simp [intOf]; omega
      · gi_wp2
        refine bodyPost_ret (results_none rfl _ _ _) rfl ?_
        refine ⟨⟨_, rfl⟩, .inr ⟨blks s k ++ [blk s k], ?_, hJx3⟩⟩
        rw [← blks_succ]
        exact ⟨(blks s m).drop (k + 1), by rw [show blks s (k + 1) = (blks s m).take (k + 1) from by unfold blks; rw [← List.map_take, List.take_range, Nat.min_eq_left (by omega)], List.take_append_drop]⟩
    · obtain rfl : k = m := by omega
      gi_wp2
      go_end0
      exact ⟨⟨_, rfl⟩, .inl ⟨_, rfl, hJ⟩⟩
theorem iter_stops (F : Fence) (n : Nat) (hF : F.fn 25) (hro : F.round = none) (hn : 1 ≤ n) (Bn m : Nat) (s : ByteArray) (hs : s.size = 128 * m) (hm : m ≤ 100000) (w : World) (hlw : Bn < w.heap.size)
    (hBn : w.cell? ⟨Bn, 0, none⟩ = some (.string s)) :
    SeqStopsK F n Try.prog 25 #[.pointer (some ⟨Bn, 0, none⟩)] (fun x : Blk => #[.string x.1]) (Same Bn) (fun ys => ys = blks s m) (fun pre => pre <+: blks s m) m w :=
  fun l J Jx W hW _ _ hY h0 => iter_any F n hF hro hn l Bn m s hs hm J Jx hY W ((hW.cell (p := ⟨Bn, 0, none⟩) hlw).trans hBn) h0

end Go.Proofs.Ytojmbbapcnfibaa
