/- Walks: the document's bytes as a number; its hex. -/
import Derived.Test.YtojmbbapcnfibaaC
import Derived.Test.YtojmbbapcnfibaaU
import Derived.Deep.AppendLies
import Derived.Deep.RegionLaw
namespace Go.Proofs.Ytojmbbapcnfibaa
open Go.RowKit

theorem bigF_take (l : List UInt8) (k : Nat) (h : k < l.length) : bigF (l.take (k + 1)) = Go.bits .or .u64 (IntKind.u64.wrap (bigF (l.take k) * 256)) (l.getD k 0).toNat := by
  rw [List.take_succ_eq_append_getElem h, bigF_snoc, List.getD_eq_getElem?_getD, List.getElem?_eq_getElem h]; rfl

set_option maxHeartbeats 800000 in
theorem rbigS_any (s : ByteArray) (hs : s.size ≤ 1000) (w : World) :
    Calls Try.prog 20 #[.string s] w fun e w' => e = .returned (.int .u64 (bigF s.data.toList)) ∧ w = w' := by
  go_enter Try.func20, Try.ntmps20
  go_wp2_with fail
  go_loop [3, 4] (fun n i => ∃ k : Nat, k ≤ s.size ∧ i = .int .i64 k ∧ n = .int .u64 (bigF (s.data.toList.take k))) (fun _ i => s.size - (intOf i).toNat)
  case atStart => exact ⟨0, by omega, rfl, rfl⟩
  case round =>
    obtain ⟨k, hk, rfl, rfl⟩ := hrel
    by_cases hlt : k < s.size
    · have hsn := bigF_take s.data.toList k hlt
      rw [getD_byte s k hlt] at hsn
      obtain ⟨c, hc⟩ : ∃ c, s[k] = c := ⟨_, rfl⟩
      rw [hc] at hsn
      obtain ⟨n, hn⟩ : ∃ n, n = bigF (s.data.toList.take k) := ⟨_, rfl⟩
      rw [← hn] at hsn ⊢
      have HS := Lib.hid hsn
      have hcb := c.toNat_lt
      clear hsn hn
      go_wp2_with fail
      go_round
      case rel => exact ⟨k + 1, by omega, by go_num, by rw [HS.out]⟩
      case measure => simp [intOf]; omega
    · obtain rfl : k = s.size := by omega
      go_wp2_with fail
      go_ret
      exact ⟨ret_int (by rw [List.take_of_length_le (by simp)]), rfl⟩

/-- The letters. -/
def hexl : List UInt8 := [48, 49, 50, 51, 52, 53, 54, 55, 56, 57, 97, 98, 99, 100, 101, 102]
def hexD (i : Int) : Int := (hexl.getD i.toNat 0).toNat
def hexL (l : List UInt8) : List Int := l.flatMap (fun c => [hexD ((c.toNat : Int) / 16), hexD ((c.toNat : Int) % 16)])
theorem hexL_snoc (l : List UInt8) (c : UInt8) : hexL (l ++ [c]) = hexL l ++ [hexD ((c.toNat : Int) / 16), hexD ((c.toNat : Int) % 16)] := by simp [hexL]
theorem hexL_length (l : List UInt8) : (hexL l).length = 2 * l.length := by
  induction l with
  | nil => rfl
  | cons c l ih => simp [hexL] at ih ⊢; omega
theorem infoU8 : (Try.prog.info? 5).map (fun i => (i.zero, i.size, i.bytes)) = some (some (.int .u8 0), 1, 1) := by kernel_rfl
theorem idxhex (x : Int) (h0 : 0 ≤ x) (h1 : x < 16) (w : World) : (Instr.index 9 (.string ⟨#[48, 49, 50, 51, 52, 53, 54, 55, 56, 57, 97, 98, 99, 100, 101, 102]⟩) (.int .u8 x)).run Try.prog w = .ok (.int .u8 (hexD x)) w := by
  obtain ⟨n, rfl⟩ := Int.eq_ofNat_of_zero_le h0
  have : n = 0 ∨ n = 1 ∨ n = 2 ∨ n = 3 ∨ n = 4 ∨ n = 5 ∨ n = 6 ∨ n = 7 ∨ n = 8 ∨ n = 9 ∨ n = 10 ∨ n = 11 ∨ n = 12 ∨ n = 13 ∨ n = 14 ∨ n = 15 := by omega
  rcases this with rfl | rfl | rfl | rfl | rfl | rfl | rfl | rfl | rfl | rfl | rfl | rfl | rfl | rfl | rfl | rfl <;> (show _ = _; kernel_rfl)

set_option maxRecDepth 100000 in
set_option maxHeartbeats 1600000 in
theorem hex_any (s : ByteArray) (hs : s.size ≤ 1000) (hs0 : 0 < s.size) (w : World) :
    Calls Try.prog 7 #[.string s] w fun e w' => e = .returned (.string (strOfNums (hexL s.data.toList))) ∧ Below w.heap.size w w' := by
  obtain ⟨i0, hi, hz0, hz1, hz2⟩ := info_parts infoU8
  go_enter Try.func7, Try.ntmps7
  go_wp2_with fail
  go_loopw [4, 5] (fun v i wr => ∃ k : Nat, k ≤ s.size ∧ i = .int .i64 k ∧ wr.ownsRow w.heap.size 5 1 v (2 * k) ((hexL (s.data.toList.take k)).map (Value.int .u8)) ∧ Below w.heap.size w wr) (fun _ i _ => s.size - (intOf i).toNat)
  case atStart => exact ⟨0, by omega, rfl, World.ownsRow_nil _ _ _ _, Below.refl _ _⟩
  case round =>
    obtain ⟨k, hk, rfl, hown, hB⟩ := hrel
    obtain ⟨o, c, rfl, hg⟩ := own_shape hown
    have hsz := hB.size
    by_cases hlt : k < s.size
    · have htk : s.data.toList.take (k + 1) = s.data.toList.take k ++ [s[k]] := by
        rw [← getD_byte s k hlt, List.take_succ_eq_append_getElem (show k < s.data.toList.length from hlt), List.getD_eq_getElem?_getD, List.getElem?_eq_getElem]; rfl
      obtain ⟨x, hx⟩ : ∃ x, s[k] = x := ⟨_, rfl⟩
      rw [hx] at htk
      have hxb := x.toNat_lt
      have HT : Hid ((hexL (s.data.toList.take (k + 1))).map (Value.int .u8) = (hexL (s.data.toList.take k)).map (Value.int .u8) ++ [.int .u8 (hexD ((x.toNat : Int) / 16)), .int .u8 (hexD ((x.toNat : Int) % 16))]) := Lib.hid (by rw [htk, hexL_snoc, List.map_append]; rfl)
      have h1 := idxhex ((x.toNat : Int) / 16) (by omega) (by omega)
      have h2 := idxhex ((x.toNat : Int) % 16) (by omega) (by omega)
      have hand : Go.bits .and .u8 (x.toNat : Int) 15 = (x.toNat : Int) % 16 := u8_and15 _ (by omega) (by omega)
      clear htk
      go_upto_region 6 with fail
      have hnews : ∀ (j : Nat) (u : Value), [Value.int .u8 (hexD ((x.toNat : Int) / 16)), Value.int .u8 (hexD ((x.toNat : Int) % 16))][j]? = some u → (wr.alloc (.cells #[.int .u8 (hexD ((x.toNat : Int) / 16)), .int .u8 (hexD ((x.toNat : Int) % 16))] 5)).drew.cell? ((⟨wr.heap.size, 0, none⟩ : Addr).add j) = some u :=
        World.news_of_block (w := (wr.alloc (.cells #[.int .u8 (hexD ((x.toNat : Int) / 16)), .int .u8 (hexD ((x.toNat : Int) % 16))] 5)).drew) (heap_alloc_new wr _)
      have hownD := (hown.alloc (.cells #[.int .u8 (hexD ((x.toNat : Int) / 16)), .int .u8 (hexD ((x.toNat : Int) % 16))] 5)).drew
      have hone : ∀ u ∈ [Value.int .u8 (hexD ((x.toNat : Int) / 16)), Value.int .u8 (hexD ((x.toNat : Int) % 16))], u.oneCell' = true := by simp [Value.oneCell']
      have hbase : w.heap.size ≤ (wr.alloc (.cells #[.int .u8 (hexD ((x.toNat : Int) / 16)), .int .u8 (hexD ((x.toNat : Int) % 16))] 5)).drew.heap.size := by simp; omega
      have s1 := Lib.hid hnews
      have s2 := Lib.hid hownD
      have s3 := Lib.hid hone
      have s4 := Lib.hid hbase
      have hB1 := (hB.alloc hsz (.cells #[.int .u8 (hexD ((x.toNat : Int) / 16)), .int .u8 (hexD ((x.toNat : Int) % 16))] 5)).drew
      have s5 := Lib.hid hB1
      have s6 := Lib.hid hown
      clear hnews hownD hone hbase hB1 hown hg
      go_region_law (refine step_append_lies _ rfl (.tmp 12) (.tmp 25) 29 rfl w.heap.size 5 i0 (.int .u8 0) 1 1 Try.underlying29 hi hz0 hz1 hz2 rfl (by decide) (.slice o (2 * k) c) (2 * k) _ (by simp [Act.eval]) s2.out ⟨wr.heap.size, 0, none⟩ 2 2 _ (by simp [Act.eval]) rfl s1.out s3.out (by decide) (by unfold maxLen; omega) (by omega) s4.out _ rfl ?_; intro g' cap' w2 hown2 hgrow2 hor2 hlt2)
      all_goals
        have hB2 := s5.out.grown hgrow2 s4.out (fun j hj => (s6.out.lt j hj).1)
        clear hgrow2 hor2 hlt2
        go_wp2_with fail
        go_roundw
      all_goals first
        | exact ⟨k + 1, by omega, by go_num, by rw [HT.out]; exact hown2, hB2⟩
        | (simp [intOf]; omega)
    · obtain rfl : k = s.size := by omega
      have hlen : (hexL (s.data.toList.take s.size)).length = 2 * s.size := by rw [hexL_length, List.length_take]; simp
      have hcv : (convert 29 9 (.slice o (2 * s.size) c)).run Try.prog wr = .ok (.string (strOfNums (hexL s.data.toList))) wr := by
        have htt : s.data.toList.take s.size = s.data.toList := List.take_of_length_le (by simp)
        rw [htt] at hown hlen
        · obtain ⟨g, rfl⟩ := hg (by omega)
          refine run_convert_bytes_arg (P := Try.prog) wr 29 5 Try.underlying29 Try.underlying5 g 0 (2 * s.size) c _ hlen (fun i hi => ?_) 9 Try.underlying9
          rw [Nat.zero_add, hown.cellAt i (by omega), List.getElem?_map, List.getElem?_eq_getElem (by omega), List.getD_eq_getElem?_getD, List.getElem?_eq_getElem (by omega)]
          rfl
      clear hlen
      go_wp2_with fail
      go_ret
      exact ⟨rfl, hB⟩

end Go.Proofs.Ytojmbbapcnfibaa
