/- Walks: WalAll. -/
import Derived.Test.YtaalfjngehlojaaGw
namespace Go.Proofs.Ytaalfjngehlojaa
open Go.RowKit Go.Shelf

/-- What Pack gives, whatever it is. -/
def PackedAny (l : List ByteArray) (p : Nat) (E : Int) (w : World) (e : Ending) (w' : World) : Prop :=
  ∃ o c, e = .returned (.tuple #[.slice o p c, .int .i64 E]) ∧ Strs w' (.slice o p c) l ∧ Below w.heap.size w w'
theorem pack_all (x y : Int) (s : ByteArray) (hs : s.size ≤ 14400) (w : World) : Calls Try.prog 8 #[.int .i64 x, .int .i64 y, .string s] w (PackedAny (packL x y s) (packL x y s).length (packE x y s.size) w) := by
  refine (pack_any x y s hs w).mono ?_
  rintro e w' ⟨v, rfl, ht, hB⟩
  have hS := Texts.strs ht
  obtain ⟨o, c, hv, _⟩ := hS.out
  rw [hv] at hS
  exact ⟨o, c, by rw [hv], hS, hB⟩
/-- What the document's packing gives, whatever it is. -/
def RPackedAny (l : List ByteArray) (p : Nat) (E : Int) (w : World) (e : Ending) (w' : World) : Prop :=
  ∃ o c, e = .returned (.agg #[.slice o p c, .int .i64 E]) ∧ Strs w' (.slice o p c) l ∧ Below w.heap.size w w'
theorem rpack_all (x y : Int) (s : ByteArray) (hs : s.size ≤ 14400) (w : World) : Calls Try.prog 9 #[.int .i64 x, .int .i64 y, .string s] w (RPackedAny (packL x y s) (packL x y s).length (packE x y s.size) w) := by
  refine (rpack_any x y s hs w).mono ?_
  rintro e w' ⟨v, rfl, ht, hB⟩
  have hS := Texts.strs ht
  obtain ⟨o, c, hv, _⟩ := hS.out
  rw [hv] at hS
  exact ⟨o, c, by rw [hv], hS, hB⟩
theorem got_parts (g : Option (ByteArray × Nat)) : ∃ S N K, gotV g = .tuple #[.string S, .int .i64 N, .bool K] ∧ gotA g = .agg #[.string S, .int .i64 N, .bool K] := by
  cases g with
  | none => exact ⟨_, _, _, rfl, rfl⟩
  | some r => obtain ⟨s, n⟩ := r; exact ⟨_, _, _, rfl, rfl⟩

set_option maxRecDepth 100000 in
set_option maxHeartbeats 8000000 in
theorem walkAll (x y : Int) (s : ByteArray) (o3 : Option Addr) (m3 c3 : Nat) (l : List ByteArray) (w : World) (hs : s.size ≤ maxLen) (hm3 : m3 ≤ maxLen) (hL : Strs w (.slice o3 m3 c3) l) :
    Calls Try.prog 3 #[.int .i64 x, .int .i64 y, .string s, .slice o3 m3 c3] w fun e w' => e = .returned (.bool true) ∧ Below w.heap.size w w' := by
  unfold maxLen at hs hm3
  have HL := Lib.hid hL
  clear hL
  by_cases hs3 : 600 < s.size
  · go_enter Try.func3, Try.ntmps3
    go_wp2_with (go_at_call 7; (with_reducible refine (awake_any _).mono ?_); rintro e w1 ⟨rfl, hB1⟩)
    go_ret
    exact ⟨rfl, hB1⟩
  by_cases hm20 : 20 < m3
  · go_enter Try.func3, Try.ntmps3
    go_wp2_with (go_at_call 7; (with_reducible refine (awake_any _).mono ?_); rintro e w1 ⟨rfl, hB1⟩)
    go_ret
    exact ⟨rfl, hB1⟩
  have hlen : l.length = m3 := by obtain ⟨_, _, e, _⟩ := HL.out.out; cases e; rfl
  have HLen := Lib.hid hlen
  clear hlen
  go_enter Try.func3, Try.ntmps3
  go_wp2_with fail
  go_loop [9] (fun i => ∃ k : Nat, k ≤ m3 ∧ i = .int .i64 k) (fun i => m3 - (intOf i).toNat)
  case atStart => exact ⟨0, by omega, rfl⟩
  case round =>
    obtain ⟨k, hk, rfl⟩ := hrel
    by_cases hlt : k < m3
    · obtain ⟨g, f, rfl, _, _, _, hcell⟩ := HL.out.cells (by omega)
      have hc := hcell k hlt
      obtain ⟨t, ht⟩ : ∃ t, t = l.getD k ByteArray.empty := ⟨_, rfl⟩
      rw [← ht] at hc
      clear ht hcell
      by_cases h100 : 100 < t.size
      · go_wp2_with (go_at_call 7; (with_reducible refine (awake_any _).mono ?_); rintro e w1 ⟨rfl, hB1⟩)
        go_ret
        exact ⟨rfl, hB1⟩
      · go_wp2_with fail
        go_round
        case rel => exact ⟨k + 1, by omega, by go_num⟩
        case measure => simp [intOf]; omega
    · obtain rfl : m3 = k := by omega
      have P1 := Lib.hid (fun w => pack_all x y s (by omega) w)
      have P2 := Lib.hid (fun w => rpack_all x y s (by omega) w)
      have hpl : (packL x y s).length ≤ 1000 := packL_short x y s (by omega)
      obtain ⟨S, N, K, hgv, hga⟩ := got_parts (getB l x y)
      have G1 : Hid (∀ W, Below w.heap.size w W → Calls Try.prog 10 #[.slice o3 m3 c3, .int .i64 x, .int .i64 y] W fun e w' => e = .returned (.tuple #[.string S, .int .i64 N, .bool K]) ∧ Below W.heap.size W w') :=
        Lib.hid fun W hW => by rw [← hgv]; exact get_any x y l _ W (by rw [HLen.out]; omega) (HL.out.below hW)
      have G2 : Hid (∀ W, Below w.heap.size w W → Calls Try.prog 11 #[.slice o3 m3 c3, .int .i64 x, .int .i64 y] W fun e w' => e = .returned (.agg #[.string S, .int .i64 N, .bool K]) ∧ Below W.heap.size W w') :=
        Lib.hid fun W hW => by rw [← hga]; exact rget_any x y l _ W (by rw [HLen.out]; omega) (HL.out.below hW)
      obtain ⟨E, hE⟩ : ∃ E, E = packE x y s.size := ⟨_, rfl⟩
      obtain ⟨L, hLd⟩ : ∃ L, L = packL x y s := ⟨_, rfl⟩
      obtain ⟨p, hp⟩ : ∃ p, p = L.length := ⟨_, rfl⟩
      rw [← hE, ← hLd, ← hp] at P1 P2
      rw [← hLd, ← hp] at hpl
      have HP := Lib.hid hp
      clear hE hLd hp hgv hga
      go_wp2_with fail
      refine (P1.out _).mono ?_
      rintro e w1 ⟨o1, c1, rfl, hS1, hB1⟩
      have HS1 := Lib.hid hS1
      clear hS1
      go_wp2_with fail
      refine (P2.out _).mono ?_
      rintro e w2 ⟨o2, c2, rfl, hS2, hB2⟩
      have HS2 := Lib.hid hS2
      clear hS2
      go_upto_region 10 with fail
      obtain ⟨WB, hWB⟩ : ∃ W, W = w2.alloc (.cells #[.slice o2 p c2, .int .i64 E] 28) := ⟨_, rfl⟩
      obtain ⟨b12, hb12⟩ : ∃ b, b = w2.heap.size := ⟨_, rfl⟩
      have hBB : Below w2.heap.size w2 WB := by rw [hWB]; exact below_alloc' (Below.refl _ _) _
      have hblk12 : WB.heap[b12]? = some (.cells #[.slice o2 p c2, .int .i64 E] 28 (0, 0)) := by rw [hWB, hb12]; exact heap_alloc_new w2 _
      rw [← hWB, ← hb12]
      have hB3 := below_trans' (below_trans' hB1 hB2) hBB
      have HS1B := Lib.hid ((HS1.out.below hB2).below hBB)
      have HS2B := Lib.hid (HS2.out.below hBB)
      have HBLK := Lib.hid hblk12
      clear hWB hb12 hBB hblk12 HS1 HS2 hB1 hB2
      go_wp2_with fail
      refine (G1.out _ hB3).mono ?_
      rintro e w3 ⟨rfl, hB4⟩
      have hB5 := below_trans' hB3 hB4
      go_wp2_with fail
      refine (G2.out _ hB5).mono ?_
      rintro e w4 ⟨rfl, hB6⟩
      go_upto_region 12 with fail
      obtain ⟨WC, hWC⟩ : ∃ W, W = w4.alloc (.cells #[.string S, .int .i64 N, .bool K] 33) := ⟨_, rfl⟩
      obtain ⟨b16, hb16⟩ : ∃ b, b = w4.heap.size := ⟨_, rfl⟩
      have hBC : Below w4.heap.size w4 WC := by rw [hWC]; exact below_alloc' (Below.refl _ _) _
      have hblk16 : WC.heap[b16]? = some (.cells #[.string S, .int .i64 N, .bool K] 33 (0, 0)) := by rw [hWC, hb16]; exact heap_alloc_new w4 _
      rw [← hWC, ← hb16]
      have hBBC : Below WB.heap.size WB WC := below_trans' (below_trans' hB4 hB6) hBC
      have hBwC := below_trans' hB3 hBBC
      have hl12 : b12 < WB.heap.size := (Array.getElem?_eq_some_iff.1 HBLK.out).1
      have hblk12 := (hBBC.block b12 hl12).trans HBLK.out
      have hl12 : b12 < WC.heap.size := (Array.getElem?_eq_some_iff.1 hblk12).1
      have hl16 : b16 < WC.heap.size := (Array.getElem?_eq_some_iff.1 hblk16).1
      have K0 : ∀ V, Below WC.heap.size WC V → V.cell? ⟨b12, 0, none⟩ = some (.slice o2 p c2) := fun V hV => (hV.cell (p := ⟨b12, 0, none⟩) hl12).trans (by simp [World.cell?, hblk12])
      have K1 : ∀ V, Below WC.heap.size WC V → V.cell? ⟨b12, 1, none⟩ = some (.int .i64 E) := fun V hV => (hV.cell (p := ⟨b12, 1, none⟩) hl12).trans (by simp [World.cell?, hblk12])
      have K2 : ∀ V, Below WC.heap.size WC V → V.cell? ⟨b16, 0, none⟩ = some (.string S) := fun V hV => (hV.cell (p := ⟨b16, 0, none⟩) hl16).trans (by simp [World.cell?, hblk16])
      have K3 : ∀ V, Below WC.heap.size WC V → V.cell? ⟨b16, 1, none⟩ = some (.int .i64 N) := fun V hV => (hV.cell (p := ⟨b16, 1, none⟩) hl16).trans (by simp [World.cell?, hblk16])
      have K4 : ∀ V, Below WC.heap.size WC V → V.cell? ⟨b16, 2, none⟩ = some (.bool K) := fun V hV => (hV.cell (p := ⟨b16, 2, none⟩) hl16).trans (by simp [World.cell?, hblk16])
      have CS : Hid (∀ V, Below WC.heap.size WC V → Calls Try.prog 12 #[.slice o1 p c1, .slice o2 p c2] V fun e w' => e = .returned (.bool true) ∧ Below V.heap.size V w') := Lib.hid fun V hV => by
        have := same_any _ _ L L V ((HS1B.out.below hBBC).below hV) ((HS2B.out.below hBBC).below hV) (by rw [← HP.out]; exact hpl) (by rw [← HP.out]; exact hpl)
        simpa using this
      have HBwC := Lib.hid hBwC
      have hes : (S.toList == S.toList) = true := by simp
      clear hblk12 hblk16 HBLK hWC hb16 hBC hBBC hBwC hB3 hB4 hB5 hB6 G1 G2 P1 P2 HS1B HS2B hl12 hl16
      go_region_held3 (fun V => Below WC.heap.size WC V) (first | exact (Below.refl _ _).drew | assumption) (first | (go_at_call 12; (with_reducible refine Calls.mono (CS.out _ (by assumption)) ?_); rintro e w8 ⟨rfl, hbA⟩; have hS3 := below_trans' (h := (by assumption : Below WC.heap.size WC _)) hbA; clear hbA) | (go_at_call 13; (with_reducible refine Calls.mono (err_any _ _) ?_); rintro e w8 ⟨rfl, rfl⟩) | (go_at_call 7; (with_reducible refine Calls.mono (awake_any _) ?_); rintro e w8 ⟨rfl, hbA⟩; have hS3 := below_trans' (h := (by assumption : Below WC.heap.size WC _)) hbA; clear hbA))
      clear K0 K1 K2 K3 K4
      go_wp2_with fail
      go_ret
      exact ⟨rfl, below_trans' HBwC.out (by assumption)⟩

end Go.Proofs.Ytaalfjngehlojaa
