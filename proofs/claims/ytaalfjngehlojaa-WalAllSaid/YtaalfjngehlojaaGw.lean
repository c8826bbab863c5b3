/- Walks: the document's telling. -/
import Derived.Test.YtaalfjngehlojaaPw
namespace Go.Proofs.Ytaalfjngehlojaa
open Go.RowKit Go.Shelf

theorem or_add (a b : Nat) (ha : a < 256) (hb : b < 256) : Go.bits .or .i64 (a : Int) ((b : Int) * 256) = (a : Int) + (b : Int) * 256 := by
  unfold Go.bits
  rw [IntKind.wrap_i64]
  have ea : BitVec.ofInt IntKind.i64.bits (a : Int) = BitVec.ofNat 64 a := BitVec.ofInt_natCast ..
  have eb : BitVec.ofInt IntKind.i64.bits ((b : Int) * 256) = BitVec.ofNat 64 (b * 256) := by
    rw [show ((b : Int) * 256) = ((b * 256 : Nat) : Int) by omega]; exact BitVec.ofInt_natCast ..
  have ho : a ||| b * 256 = a + b * 256 := by
    have := Nat.shiftLeft_add_eq_or_of_lt (i := 8) (b := a) (by omega) b
    rw [Nat.shiftLeft_eq] at this
    rw [Nat.or_comm, ← this]
    omega
  rw [ea, eb]
  have e : (BitVec.ofNat 64 a ||| BitVec.ofNat 64 (b * 256)).toNat = a + b * 256 := by
    rw [BitVec.toNat_or, BitVec.toNat_ofNat, BitVec.toNat_ofNat, Nat.mod_eq_of_lt (by omega), Nat.mod_eq_of_lt (by omega), ho]
  show (((BitVec.ofNat 64 a ||| BitVec.ofNat 64 (b * 256)).toNat : Int) + 9223372036854775808) % 18446744073709551616 - 9223372036854775808 = _
  rw [e]
  omega

/-- As the document hands it back. -/
def gotA : Option (ByteArray × Nat) → Value
  | some (s, n) => .agg #[.string s, .int .i64 (n : Nat), .bool true]
  | none => .agg #[.string ⟨#[]⟩, .int .i64 0, .bool false]
theorem getB_many {l : List ByteArray} {x y : Int} (h : headN l < 1 ∨ 8 < headN l) : getB l x y = none := by
  cases hg : getB l x y with
  | none => rfl
  | some r =>
    obtain ⟨s, n⟩ := r
    have hn : n = headN l := by
      unfold getB at hg
      split at hg
      · simp only [Option.some.injEq, Prod.mk.injEq] at hg
        exact hg.2.symm
      · cases hg
    obtain ⟨h', hm, _⟩ := (getB_iff _ _ _ _ _).1 hg
    have := (pack_ok h').2.2.2.2
    have := manyN_pos s.size
    omega

theorem rwraps (i j : Nat) (hi : i ≤ 255) (hj : j ≤ 255) : IntKind.i64.wrap (i : Int) = (i : Int) ∧ IntKind.i64.wrap (j : Int) = (j : Int) ∧ IntKind.i64.wrap ((j : Int) * 256) = (j : Int) * 256 := by
  refine ⟨?_, ?_, ?_⟩
  · rw [IntKind.wrap_i64]; omega
  · rw [IntKind.wrap_i64]; omega
  · rw [IntKind.wrap_i64]; omega

set_option maxHeartbeats 4000000 in
theorem rget_any (x y : Int) (l : List ByteArray) (v : Value) (w : World) (hl : l.length ≤ 300) (h : Strs w v l) :
    Calls Try.prog 11 #[v, .int .i64 x, .int .i64 y] w fun e w' => e = .returned (gotA (getB l x y)) ∧ Below w.heap.size w w' := by
  obtain ⟨o, c, rfl, hc, hn, ha⟩ := h.out
  by_cases h0 : l = []
  · subst h0
    have hg : getB [] x y = none := by simp [getB]
    rw [hg]
    go_enter Try.func11, Try.ntmps11
    go_wp2_with fail
    exact bodyPost_ret (v := .agg #[.string ⟨#[]⟩, .int .i64 0, .bool false]) (by simp [results, Try.results11, go_sem]) rfl ⟨rfl, below_alloc' (Below.refl _ _) _⟩
  have hlen : 1 ≤ l.length := by
    cases l with
    | nil => exact absurd rfl h0
    | cons => simp
  obtain ⟨a, rfl⟩ : ∃ a, o = some a := by
    cases o with
    | none => have := hn rfl; omega
    | some a => exact ⟨a, rfl⟩
  obtain ⟨g, f, rfl, hcell⟩ := ha a rfl hlen
  have hc0 := hcell 0 (by omega)
  rw [Nat.add_zero] at hc0
  have hgl : g < w.heap.size := by
    by_cases hg : g < w.heap.size
    · exact hg
    · rw [World.cell?, Array.getElem?_eq_none (show w.heap.size ≤ g by omega)] at hc0
      cases hc0
  obtain ⟨z, hz⟩ : ∃ z, z = l.getD 0 ByteArray.empty := ⟨_, rfl⟩
  rw [← hz] at hc0
  obtain ⟨m, hm⟩ : ∃ m, m = l.length := ⟨_, rfl⟩
  by_cases hz64 : z.size = 64
  · rw [← hm]
    rw [← hm] at hlen hc hl
    have hb1 : ((m : Int) == 0) = false := by simp; omega
    have hb2 : ((z.size : Int) != 64) = false := by simp; omega
    have HZ := Lib.hid hz
    have HM := Lib.hid hm
    have HC := Lib.hid hcell
    have H0 := Lib.hid h0
    obtain ⟨n, hn9⟩ : ∃ n, n = (z[9]'(by omega)).toNat := ⟨_, rfl⟩
    have hn1 : n ≤ 255 := by rw [hn9]; have := (z[9]'(by omega)).toNat_lt; omega
    have h9 : (z[9]'(by omega)).toNat = n := hn9.symm
    have hw9 : wrap64 (n : Int) = (n : Int) := by unfold wrap64; omega
    have HN : Hid (headN l = n) := Lib.hid (by unfold headN byteAt; rw [← hz, getD_byte z 9 (by omega), h9])
    have HStr : Hid (∀ W, Below w.heap.size w W → n ≤ m → Strs W (.slice (some ⟨g, f, none⟩) n c) (l.take n)) := Lib.hid fun W hW hnm => ((by rw [← hm] at h; exact h : Strs w (.slice (some ⟨g, f, none⟩) m c) l).below hW).take n (by omega)
    clear hz hm hcell h0 hn h ha hn9
    by_cases hrange : n < 1 ∨ m < n ∨ 8 < n
    · have hg : getB l x y = none := by
        rcases hrange with h1 | h1 | h1
        · exact getB_many (.inl (by rw [HN.out]; exact h1))
        · unfold getB; rw [if_neg]; rintro ⟨_, _, h2, _⟩; rw [HN.out, ← HM.out] at h2; omega
        · exact getB_many (.inr (by rw [HN.out]; exact h1))
      rw [hg]
      clear hg
      rcases hrange with h1 | h1 | h1
      · go_enter Try.func11, Try.ntmps11
        go_wp2_with fail
        exact bodyPost_ret (v := .agg #[.string ⟨#[]⟩, .int .i64 0, .bool false]) (by simp [results, Try.results11, go_sem]) rfl ⟨rfl, below_alloc' (Below.refl _ _) _⟩
      · by_cases h2 : n < 1
        · omega
        · go_enter Try.func11, Try.ntmps11
          go_wp2_with fail
          exact bodyPost_ret (v := .agg #[.string ⟨#[]⟩, .int .i64 0, .bool false]) (by simp [results, Try.results11, go_sem]) rfl ⟨rfl, below_alloc' (Below.refl _ _) _⟩
      · by_cases h2 : m < n
        · go_enter Try.func11, Try.ntmps11
          go_wp2_with fail
          exact bodyPost_ret (v := .agg #[.string ⟨#[]⟩, .int .i64 0, .bool false]) (by simp [results, Try.results11, go_sem]) rfl ⟨rfl, below_alloc' (Below.refl _ _) _⟩
        · go_enter Try.func11, Try.ntmps11
          go_wp2_with fail
          exact bodyPost_ret (v := .agg #[.string ⟨#[]⟩, .int .i64 0, .bool false]) (by simp [results, Try.results11, go_sem]) rfl ⟨rfl, below_alloc' (Below.refl _ _) _⟩
    · have hr1 : 1 ≤ n := by omega
      have hr2 : n ≤ m := by omega
      have hr3 : n ≤ 8 := by omega
      have hnc : n ≤ c := by omega
      clear hrange
      have hb5 : decide (n < 1) = false := by simp; omega
      have hb6 : decide (m < n) = false := by simp; omega
      have hb7 : decide (8 < n) = false := by simp; omega
      have hb8 : decide ((n : Int) < 1) = false := by simp; omega
      have hb9 : decide ((8 : Int) < (n : Int)) = false := by simp; omega
      go_enter Try.func11, Try.ntmps11
      go_wp2_with fail
      obtain ⟨W1, hW1⟩ : ∃ W, W = w.alloc (.cells #[.string ⟨#[]⟩, .int .i64 0, .bool false] 33) := ⟨_, rfl⟩
      have hBW1 : Below w.heap.size w W1 := by rw [hW1]; exact below_alloc' (Below.refl _ _) _
      have hblk : W1.heap[w.heap.size]? = some (.cells #[.string ⟨#[]⟩, .int .i64 0, .bool false] 33 (0, 0)) := by rw [hW1]; exact heap_alloc_new w _
      have hlt1 : w.heap.size < W1.heap.size := by rw [hW1]; simp
      rw [← hW1]
      clear hW1
      have HBLK := Lib.hid hblk
      clear hblk
      go_loopw [8, 9, 10] (fun s i nn wr => ∃ k : Nat, k ≤ n ∧ i = .int .i64 k ∧ s = .string (joinB (l.take k)) ∧ (∀ z ∈ l.take k, z.size = 64) ∧ Below W1.heap.size W1 wr) (fun _ i _ _ => n - (intOf i).toNat)
      case atStart => exact ⟨0, by omega, rfl, rfl, by simp, Below.refl _ _⟩
      case round =>
        obtain ⟨k, hk, rfl, rfl, hall, hB⟩ := hrel
        have HA := Lib.hid hall
        clear hall
        have hBw := below_trans' hBW1 hB
        have hb0 := (hB.block w.heap.size hlt1).trans HBLK.out
        have q0 : wr.cell? ⟨w.heap.size, 0, none⟩ = some (.string ⟨#[]⟩) := by simp [World.cell?, hb0]
        have q1 : wr.cell? ⟨w.heap.size, 1, none⟩ = some (.int .i64 0) := by simp [World.cell?, hb0]
        have q2 : wr.cell? ⟨w.heap.size, 2, none⟩ = some (.bool false) := by simp [World.cell?, hb0]
        have f0 : wr.frozen? ⟨w.heap.size, 0, none⟩ = false := by simp [World.frozen?, hb0]
        have f1 : wr.frozen? ⟨w.heap.size, 1, none⟩ = false := by simp [World.frozen?, hb0]
        have f2 : wr.frozen? ⟨w.heap.size, 2, none⟩ = false := by simp [World.frozen?, hb0]
        clear hb0
        by_cases hlt : k < n
        · have hkl : k < l.length := by rw [← HM.out]; omega
          have hck := (hBw.cell (p := ⟨g, f + k, none⟩) hgl).trans (HC.out k hkl)
          obtain ⟨q, hq⟩ : ∃ q, q = l.getD k ByteArray.empty := ⟨_, rfl⟩
          rw [← hq] at hck
          have htk : l.take (k + 1) = l.take k ++ [q] := by
            rw [List.take_succ_eq_append_getElem hkl, hq, List.getD_eq_getElem?_getD, List.getElem?_eq_getElem hkl]; rfl
          have HT := Lib.hid htk
          obtain ⟨S, hS⟩ : ∃ S, S = joinB (l.take k) := ⟨_, rfl⟩
          have hS2 : S.size ≤ 48 * 300 := by rw [hS]; have := joinB_size (l.take k); rw [List.length_take] at this; omega
          rw [← hS]
          have HS := Lib.hid hS
          clear hq htk hS hkl
          by_cases hq64 : q.size = 64
          · clear q0 q1 q2 f0 f1 f2
            have hb3 : ((q.size : Int) != 64) = false := by simp; omega
            obtain ⟨i, hi⟩ : ∃ i, i = (q[10]'(by omega)).toNat := ⟨_, rfl⟩
            have hi1 : i ≤ 255 := by rw [hi]; have := (q[10]'(by omega)).toNat_lt; omega
            have hi2 : (q[10]'(by omega)).toNat = i := hi.symm
            obtain ⟨j, hj⟩ : ∃ j, j = (q[11]'(by omega)).toNat := ⟨_, rfl⟩
            have hj1 : j ≤ 255 := by rw [hj]; have := (q[11]'(by omega)).toNat_lt; omega
            have hj2 : (q[11]'(by omega)).toNat = j := hj.symm
            have HCut : Hid (cutB q = q.extract 12 (min 60 (12 + i + j * 256))) := Lib.hid (by unfold cutB byteAt; rw [getD_byte q 10 (by omega), getD_byte q 11 (by omega), hi2, hj2])
            have ⟨hv1, hv2, hv3⟩ := rwraps i j hi1 hj1
            have hor := or_add i j (by omega) (by omega)
            have hck2 : ∀ V, Below wr.heap.size wr V → V.cell? ⟨g, f + k, none⟩ = some (.string q) := fun V hV => (hV.cell (p := ⟨g, f + k, none⟩) (by have := hBw.size; show g < wr.heap.size; omega)).trans hck
            clear hi hj
            have hkm1 : (0 : Int) ≤ (k : Int) := by omega
            have hkm2 : (k : Int) < (m : Int) := by omega
            obtain ⟨r, hr⟩ : ∃ r, r = min (i + j * 256) 48 := ⟨_, rfl⟩
            have hr0 : r ≤ 48 := by omega
            have hv5 : min ((i : Int) + (j : Int) * 256) 48 = (r : Int) := by omega
            have hv7 : ¬ (9223372036854775807 < S.size + (cutB q).size) := by have := cutB_size q; omega
            obtain ⟨T, hT⟩ : ∃ T, T = cutB q := ⟨_, rfl⟩
            have hsl : ∀ w, (Instr.slice 9 (.string q) (some (.int .i64 12)) (some (.int .i64 (12 + (r : Int)))) none).run Try.prog w = .ok (.string T) w := fun w => by
              have h1 := run_slice_string (P := Try.prog) w 9 q .i64 .i64 12 (12 + (r : Int)) Try.underlying9 (by omega) (by omega) (by omega)
              rw [h1, hT, HCut.out]
              congr 3
              omega
            rw [← hT] at hv7
            have HT2 := Lib.hid hT
            clear hT hr
            go_upto_region 12 with fail
            go_region_held3 (fun V => Below wr.heap.size wr V) (first | exact (Below.refl _ _).drew | assumption) (fail)
            all_goals
              clear hor hv1 hv2 hv3
              go_wp2_with fail
              go_roundw
              case rel => exact ⟨k + 1, by omega, by go_num, by rw [HT.out, joinB_snoc, ← HS.out, ← HT2.out], by rw [HT.out]; exact all_snoc HA.out hq64, hB.drew⟩
              case measure => simp [intOf]; omega
          · have hg : getB l x y = none := by
              unfold getB
              rw [if_neg]
              rintro ⟨_, _, _, h4, _⟩
              refine hq64 (h4 q ?_)
              rw [HN.out]
              have : q ∈ l.take (k + 1) := by rw [HT.out]; simp
              exact List.take_subset_take_left l (by omega) this
            have hb3 : ((q.size : Int) != 64) = true := by simp; omega
            have HG := Lib.hid hg
            clear hg
            go_wp2_with fail
            refine bodyPost_ret (v := .agg #[.string ⟨#[]⟩, .int .i64 0, .bool false]) (by simp [results, Try.results11, go_sem, q0, q1, q2]) rfl ⟨by rw [HG.out]; rfl, ?_⟩
            exact ((hBw.setCell (p := ⟨w.heap.size, 0, none⟩) (Nat.le_refl _) _).setCell (p := ⟨w.heap.size, 1, none⟩) (Nat.le_refl _) _).setCell (p := ⟨w.heap.size, 2, none⟩) (Nat.le_refl _) _
        · obtain rfl : k = n := by omega
          have hP := fun w => rpack_any x y (joinB (l.take k)) (by have := joinB_size (l.take k); rw [List.length_take] at this; omega) w
          obtain ⟨S, hS⟩ : ∃ S, S = joinB (l.take k) := ⟨_, rfl⟩
          rw [← hS] at hP
          rw [← hS]
          have hS2 : S.size ≤ 14400 := by rw [hS]; have := joinB_size (l.take k); rw [List.length_take] at this; omega
          have HS := Lib.hid hS
          have HP := Lib.hid hP
          have HG := Lib.hid (getB_eq x y H0.out (by rw [← HZ.out]; exact hz64) HN.out (by rw [← HM.out]; exact hr2) HA.out)
          obtain ⟨E, hE⟩ : ∃ E, E = packE x y S.size := ⟨_, rfl⟩
          have HE := Lib.hid hE
          have HBw := Lib.hid hBw
          have Q0 := Lib.hid q0
          have Q1 := Lib.hid q1
          have Q2 := Lib.hid q2
          have F0 := Lib.hid f0
          have F1 := Lib.hid f1
          have F2 := Lib.hid f2
          clear hS hP hE hB hBw q0 q1 q2 f0 f1 f2
          go_wp2_with fail
          refine (HP.out _).mono ?_
          rintro e w2 ⟨u, rfl, ht, hB2⟩
          rw [← HE.out]
          have hBw2 := below_trans' HBw.out hB2
          have hStr := Texts.strs ht
          obtain ⟨o8, c8, hu, hc8, _⟩ := hStr.out
          subst hu
          obtain ⟨p, hp⟩ : ∃ p, p = (packL x y S).length := ⟨_, rfl⟩
          rw [← hp] at hStr hc8
          rw [← hp]
          have HSt := Lib.hid hStr
          have HPp := Lib.hid hp
          clear hStr hp ht
          go_upto_region 15 with fail
          obtain ⟨WB, hWB⟩ : ∃ W, W = w2.alloc (.cells #[.slice o8 p c8, .int .i64 E] 28) := ⟨_, rfl⟩
          obtain ⟨b11, hb11⟩ : ∃ b, b = w2.heap.size := ⟨_, rfl⟩
          have hBB : Below w2.heap.size w2 WB := by rw [hWB]; exact below_alloc' (Below.refl _ _) _
          have hblk : WB.heap[b11]? = some (.cells #[.slice o8 p c8, .int .i64 E] 28 (0, 0)) := by rw [hWB, hb11]; exact heap_alloc_new w2 _
          have hb11l : b11 < WB.heap.size := by rw [hWB, hb11]; simp
          rw [← hWB, ← hb11]
          have hwl : w.heap.size < wr.heap.size := by
            have := Q0.out
            by_cases hg : w.heap.size < wr.heap.size
            · exact hg
            · rw [World.cell?, Array.getElem?_eq_none (show wr.heap.size ≤ w.heap.size by omega)] at this
              cases this
          have hwb : w.heap.size < WB.heap.size := by have := hB2.size; have := hBB.size; omega
          have hBr : Below wr.heap.size wr WB := below_trans' hB2 hBB
          have hBwB := below_trans' hBw2 hBB
          have KE : ∀ V, Below WB.heap.size WB V → V.cell? ⟨b11, 1, none⟩ = some (.int .i64 E) := fun V hV => (hV.cell (p := ⟨b11, 1, none⟩) hb11l).trans (by simp [World.cell?, hblk])
          have KS : ∀ V, Below WB.heap.size WB V → V.cell? ⟨b11, 0, none⟩ = some (.slice o8 p c8) := fun V hV => (hV.cell (p := ⟨b11, 0, none⟩) hb11l).trans (by simp [World.cell?, hblk])
          have K0 : ∀ V, Below WB.heap.size WB V → V.cell? ⟨w.heap.size, 0, none⟩ = some (.string ⟨#[]⟩) := fun V hV => (hV.cell (p := ⟨w.heap.size, 0, none⟩) hwb).trans ((hBr.cell (p := ⟨w.heap.size, 0, none⟩) hwl).trans Q0.out)
          have K1 : ∀ V, Below WB.heap.size WB V → V.cell? ⟨w.heap.size, 1, none⟩ = some (.int .i64 0) := fun V hV => (hV.cell (p := ⟨w.heap.size, 1, none⟩) hwb).trans ((hBr.cell (p := ⟨w.heap.size, 1, none⟩) hwl).trans Q1.out)
          have K2 : ∀ V, Below WB.heap.size WB V → V.cell? ⟨w.heap.size, 2, none⟩ = some (.bool false) := fun V hV => (hV.cell (p := ⟨w.heap.size, 2, none⟩) hwb).trans ((hBr.cell (p := ⟨w.heap.size, 2, none⟩) hwl).trans Q2.out)
          have L0 : ∀ V, Below WB.heap.size WB V → V.frozen? ⟨w.heap.size, 0, none⟩ = false := fun V hV => (hV.frozen (p := ⟨w.heap.size, 0, none⟩) hwb).trans ((hBr.frozen (p := ⟨w.heap.size, 0, none⟩) hwl).trans F0.out)
          have L1 : ∀ V, Below WB.heap.size WB V → V.frozen? ⟨w.heap.size, 1, none⟩ = false := fun V hV => (hV.frozen (p := ⟨w.heap.size, 1, none⟩) hwb).trans ((hBr.frozen (p := ⟨w.heap.size, 1, none⟩) hwl).trans F1.out)
          have L2 : ∀ V, Below WB.heap.size WB V → V.frozen? ⟨w.heap.size, 2, none⟩ = false := fun V hV => (hV.frozen (p := ⟨w.heap.size, 2, none⟩) hwb).trans ((hBr.frozen (p := ⟨w.heap.size, 2, none⟩) hwl).trans F2.out)
          have fin : ∀ V, Below WB.heap.size WB V → ∀ a b c, Below w.heap.size w (((V.setCell ⟨w.heap.size, 0, none⟩ a).setCell ⟨w.heap.size, 1, none⟩ b).setCell ⟨w.heap.size, 2, none⟩ c) := fun V hV a b c =>
            (((below_trans' hBwB hV).setCell (p := ⟨w.heap.size, 0, none⟩) (Nat.le_refl _) _).setCell (p := ⟨w.heap.size, 1, none⟩) (Nat.le_refl _) _).setCell (p := ⟨w.heap.size, 2, none⟩) (Nat.le_refl _) _
          have FIN := Lib.hid fin
          have HSB := Lib.hid (HSt.out.below hBB)
          have HBWB := Lib.hid hBwB
          clear fin hblk hb11 hWB hBw2 hBB hBr hBwB Q0 Q1 Q2 F0 F1 F2 hB2
          by_cases hE0 : E = 0
          · have hb4 : (E != 0) = false := by simp [hE0]
            obtain ⟨t, ht2⟩ : ∃ t, t = decide (packL x y S = l.take k) := ⟨_, rfl⟩
            have hQ : ∀ V, Below WB.heap.size WB V → Calls Try.prog 12 #[.slice o8 p c8, .slice (some ⟨g, f, none⟩) k c] V fun e w' => e = .returned (.bool t) ∧ Below V.heap.size V w' := fun V hV => by
              have := same_any _ _ (packL x y S) (l.take k) V (HSB.out.below hV) (HStr.out V (below_trans' HBWB.out hV) hr2) (packL_short x y S hS2) (by rw [List.length_take]; omega)
              rw [ht2]
              exact this
            have HQ := Lib.hid hQ
            have HT := Lib.hid ht2
            have HE0 := Lib.hid hE0
            clear hQ ht2 hE0
            go_region_held3 (fun V => Below WB.heap.size WB V) (first | exact (Below.refl _ _).drew | assumption) ((go_at_call 12; (with_reducible refine Calls.mono (HQ.out _ (by assumption)) ?_); rintro e w3 ⟨rfl, hbA⟩; have hS3 := below_trans' (h := (by assumption : Below WB.heap.size WB _)) hbA; clear hbA))
            have hV : Below WB.heap.size WB w3 := by first | assumption | exact (Below.refl _ _).drew
            have q0 := K0 _ hV
            have q1 := K1 _ hV
            have q2 := K2 _ hV
            have f0 := L0 _ hV
            have f1 := L1 _ hV
            have f2 := L2 _ hV
            clear K0 K1 K2 L0 L1 L2 KE KS
            cases t with
            | true =>
              go_wp2_with fail
              have h : packL x y S = l.take k := of_decide_eq_true HT.out.symm
              have hG : getB l x y = some (S, k) := by rw [HG.out, ← HS.out, if_pos ⟨by rw [← HE.out]; exact HE0.out, h⟩]
              exact bodyPost_ret (v := .agg #[.string S, .int .i64 (k : Int), .bool true]) (by simp [results, Try.results11, go_sem, q0, q1, q2]) rfl ⟨by rw [hG]; rfl, FIN.out _ hV _ _ _⟩
            | false =>
              go_wp2_with fail
              have h : ¬ packL x y S = l.take k := of_decide_eq_false HT.out.symm
              have hG : getB l x y = none := by rw [HG.out, ← HS.out, if_neg (fun h2 => h h2.2)]
              exact bodyPost_ret (v := .agg #[.string ⟨#[]⟩, .int .i64 0, .bool false]) (by simp [results, Try.results11, go_sem, q0, q1, q2]) rfl ⟨by rw [hG]; rfl, FIN.out _ hV _ _ _⟩
          · have hb4 : (E != 0) = true := by simp [hE0]
            have hG : getB l x y = none := by rw [HG.out, ← HS.out, if_neg (fun h2 => hE0 (by rw [HE.out]; exact h2.1))]
            have HGN := Lib.hid hG
            clear hG
            have hE1 : E = 1 ∨ E = 6 := by
              rw [HE.out]
              unfold packE
              split
              · split
                · exact .inr rfl
                · rename_i h1 h2; exact absurd (show E = 0 by rw [HE.out]; unfold packE; rw [if_pos h1, if_neg h2]) hE0
              · exact .inl rfl
            have ke := KE WB (Below.refl _ _)
            have q0 := K0 WB (Below.refl _ _)
            have q1 := K1 WB (Below.refl _ _)
            have q2 := K2 WB (Below.refl _ _)
            have f0 := L0 WB (Below.refl _ _)
            have f1 := L1 WB (Below.refl _ _)
            have f2 := L2 WB (Below.refl _ _)
            have hV : Below WB.heap.size WB WB.drew := (Below.refl _ _).drew
            clear hE0 KE KS K0 K1 K2 L0 L1 L2
            rcases hE1 with rfl | rfl
            all_goals go_region
            all_goals
              go_wp2_with fail
              exact bodyPost_ret (v := .agg #[.string ⟨#[]⟩, .int .i64 0, .bool false]) (by simp [results, Try.results11, go_sem, q0, q1, q2]) rfl ⟨by rw [HGN.out]; rfl, FIN.out _ hV _ _ _⟩
  · have hg : getB l x y = none := by unfold getB; rw [if_neg]; rintro ⟨_, h1, _⟩; rw [← hz] at h1; exact hz64 h1
    rw [hg, ← hm]
    rw [← hm] at hlen hc hl
    have hb1 : ((m : Int) == 0) = false := by simp; omega
    have hb2 : ((z.size : Int) != 64) = true := by simp; omega
    clear hz hg hm ha hcell
    go_enter Try.func11, Try.ntmps11
    go_wp2_with fail
    exact bodyPost_ret (v := .agg #[.string ⟨#[]⟩, .int .i64 0, .bool false]) (by simp [results, Try.results11, go_sem]) rfl ⟨rfl, below_alloc' (Below.refl _ _) _⟩

end Go.Proofs.Ytaalfjngehlojaa
