/- Walks: Get. -/
import Derived.Test.YtaalfjngehlojaaU
namespace Go.Proofs.Ytaalfjngehlojaa
open Go.RowKit

theorem all_snoc {l : List ByteArray} {q : ByteArray} (h : ∀ z ∈ l, z.size = 64) (hq : q.size = 64) : ∀ z ∈ l ++ [q], z.size = 64 := fun z hz => by
  rcases List.mem_append.1 hz with h1 | h1
  · exact h z h1
  · rw [List.mem_singleton.1 h1]; exact hq

theorem getB_eq {l : List ByteArray} {n : Nat} (x y : Int) (h0 : l ≠ []) (h64 : (l.getD 0 ByteArray.empty).size = 64) (hn : headN l = n) (hnl : n ≤ l.length) (hall : ∀ z ∈ l.take n, z.size = 64) :
    getB l x y = if packE x y (joinB (l.take n)).size = 0 ∧ packL x y (joinB (l.take n)) = l.take n then some (joinB (l.take n), n) else none := by
  subst hn
  unfold getB
  by_cases h : packE x y (joinB (l.take (headN l))).size = 0 ∧ packL x y (joinB (l.take (headN l))) = l.take (headN l)
  · rw [if_pos ⟨h0, h64, hnl, hall, h.1, h.2⟩, if_pos h]
  · rw [if_neg (fun k => h ⟨k.2.2.2.2.1, k.2.2.2.2.2⟩), if_neg h]
theorem packL_short (x y : Int) (s : ByteArray) (hs : s.size ≤ 14400) : (packL x y s).length ≤ 1000 := by
  rw [packL_length]
  split
  · unfold manyN; omega
  · omega

set_option maxHeartbeats 1600000 in
theorem get_any (x y : Int) (l : List ByteArray) (v : Value) (w : World) (hl : l.length ≤ 300) (h : Strs w v l) :
    Calls Try.prog 10 #[v, .int .i64 x, .int .i64 y] w fun e w' => e = .returned (gotV (getB l x y)) ∧ Below w.heap.size w w' := by
  obtain ⟨o, c, rfl, hc, hn, ha⟩ := h.out
  by_cases h0 : l = []
  · subst h0
    have hg : getB [] x y = none := by simp [getB]
    rw [hg]
    go_enter Try.func10, Try.ntmps10
    go_wp2_with fail
    go_ret3
    exact ⟨rfl, Below.refl _ _⟩
  have hlen : 1 ≤ l.length := by
    cases l with
    | nil => exact absurd rfl h0
    | cons => simp
  obtain ⟨a, rfl⟩ : ∃ a, o = some a := by
    cases o with
    | none => have := hn rfl; omega
    | some a => exact ⟨a, rfl⟩
  obtain ⟨g, f, rfl, hcell⟩ := ha a rfl hlen
  have hc0 := hcell 0 (by omega)
  rw [Nat.add_zero] at hc0
  obtain ⟨z, hz⟩ : ∃ z, z = l.getD 0 ByteArray.empty := ⟨_, rfl⟩
  rw [← hz] at hc0
  obtain ⟨m, hm⟩ : ∃ m, m = l.length := ⟨_, rfl⟩
  by_cases hz64 : z.size = 64
  · rw [← hm]
    rw [← hm] at hlen hc hl
    have hb1 : ((m : Int) == 0) = false := by simp; omega
    have hb2 : ((z.size : Int) != 64) = false := by simp; omega
    have HZ := Lib.hid hz
    have HM := Lib.hid hm
    have HC := Lib.hid hcell
    have H0 := Lib.hid h0
    obtain ⟨n, hn9⟩ : ∃ n, n = (z[9]'(by omega)).toNat := ⟨_, rfl⟩
    have hn1 : n ≤ 255 := by rw [hn9]; have := (z[9]'(by omega)).toNat_lt; omega
    have h9 : (z[9]'(by omega)).toNat = n := hn9.symm
    have hw9 : wrap64 (n : Int) = (n : Int) := by unfold wrap64; omega
    have HN : Hid (headN l = n) := Lib.hid (by unfold headN byteAt; rw [← hz, getD_byte z 9 (by omega), h9])
    have HStr : Hid (∀ W, Below w.heap.size w W → n ≤ m → Strs W (.slice (some ⟨g, f, none⟩) n c) (l.take n)) := Lib.hid fun W hW hnm => ((by rw [← hm] at h; exact h : Strs w (.slice (some ⟨g, f, none⟩) m c) l).below hW).take n (by omega)
    clear hz hm hcell h0 hn h ha hn9
    by_cases hnm : n ≤ m
    · have hnc : n ≤ c := by omega
      have hb5 : decide (m < n) = false := by simp; omega
      go_enter Try.func10, Try.ntmps10
      go_wp2_with fail
      go_loopw [6, 7, 36] (fun s nn i wr => ∃ k : Nat, k ≤ n ∧ i = .int .i64 k ∧ nn = .int .i64 n ∧ s = .string (joinB (l.take k)) ∧ (∀ z ∈ l.take k, z.size = 64) ∧ Below w.heap.size w wr) (fun _ _ i _ => n - (intOf i).toNat)
      case atStart => exact ⟨0, by omega, rfl, rfl, rfl, by simp, Below.refl _ _⟩
      case round =>
        obtain ⟨k, hk, rfl, rfl, rfl, hall, hB⟩ := hrel
        have HA := Lib.hid hall
        clear hall
        by_cases hlt : k < n
        · have hgl : g < w.heap.size := by
            by_cases hg : g < w.heap.size
            · exact hg
            · rw [World.cell?, Array.getElem?_eq_none (show w.heap.size ≤ g by omega)] at hc0
              cases hc0
          have hkl : k < l.length := by rw [← HM.out]; omega
          have hck := (hB.cell (p := ⟨g, f + k, none⟩) hgl).trans (HC.out k hkl)
          obtain ⟨q, hq⟩ : ∃ q, q = l.getD k ByteArray.empty := ⟨_, rfl⟩
          rw [← hq] at hck
          have HQ := Lib.hid hq
          have htk : l.take (k + 1) = l.take k ++ [q] := by
            rw [List.take_succ_eq_append_getElem hkl, hq, List.getD_eq_getElem?_getD, List.getElem?_eq_getElem hkl]; rfl
          have HT := Lib.hid htk
          obtain ⟨S, hS⟩ : ∃ S, S = joinB (l.take k) := ⟨_, rfl⟩
          have hS2 : S.size ≤ 48 * 300 := by rw [hS]; have := joinB_size (l.take k); rw [List.length_take] at this; omega
          rw [← hS]
          have HS := Lib.hid hS
          clear hq htk hS hkl
          by_cases hq64 : q.size = 64
          · have hb3 : ((q.size : Int) != 64) = false := by simp; omega
            obtain ⟨i, hi⟩ : ∃ i, i = (q[10]'(by omega)).toNat := ⟨_, rfl⟩
            have hi1 : i ≤ 255 := by rw [hi]; have := (q[10]'(by omega)).toNat_lt; omega
            have hi2 : (q[10]'(by omega)).toNat = i := hi.symm
            have hi3 : wrap64 (i : Int) = (i : Int) := by unfold wrap64; omega
            obtain ⟨j, hj⟩ : ∃ j, j = (q[11]'(by omega)).toNat := ⟨_, rfl⟩
            have hj1 : j ≤ 255 := by rw [hj]; have := (q[11]'(by omega)).toNat_lt; omega
            have hj2 : (q[11]'(by omega)).toNat = j := hj.symm
            have hj3 : wrap64 (j : Int) = (j : Int) := by unfold wrap64; omega
            have HCut : Hid (cutB q = q.extract 12 (min 60 (12 + i + j * 256))) := Lib.hid (by unfold cutB byteAt; rw [getD_byte q 10 (by omega), getD_byte q 11 (by omega), hi2, hj2])
            obtain ⟨r, hr⟩ : ∃ r, r = min 60 (12 + i + j * 256) := ⟨_, rfl⟩
            rw [← hr] at HCut
            have hT2 := cutB_size q
            obtain ⟨T, hT⟩ : ∃ T, T = cutB q := ⟨_, rfl⟩
            rw [← hT] at hT2
            have hv6 : q.extract 12 r = T := by rw [hT, HCut.out]
            have HT2 := Lib.hid hT
            have hv7 : ¬ (9223372036854775807 < S.size + T.size) := by omega
            have hsl := (wraps i j r hi1 hj1 hr q hq64).2
            have ⟨hr1, hr2, hv1, hv2, hv3, hv4, hv5⟩ := (wraps i j r hi1 hj1 hr q hq64).1
            rw [hv6] at hsl
            clear hi hj hr hT hv6 hi3 hj3
            go_wp2_with fail
            go_region_held3 (fun _ => True) (trivial) (fail)
            all_goals
              go_wp2_with fail
              go_roundw
              case rel => exact ⟨k + 1, by omega, by go_num, rfl, by rw [HT.out, joinB_snoc, ← HS.out, ← HT2.out], by rw [HT.out]; exact all_snoc HA.out hq64, hB.drew⟩
              case measure => simp [intOf]; omega
          · have hg : getB l x y = none := by
              unfold getB
              rw [if_neg]
              rintro ⟨_, _, _, h4, _⟩
              refine hq64 (h4 q ?_)
              rw [HN.out]
              have : q ∈ l.take (k + 1) := by rw [HT.out]; simp
              exact List.take_subset_take_left l (by omega) this
            have hb3 : ((q.size : Int) != 64) = true := by simp; omega
            have HG := Lib.hid hg
            clear hg
            go_wp2_with fail
            go_ret3
            exact ⟨by rw [HG.out]; rfl, hB⟩
        · obtain rfl : k = n := by omega
          have hP := fun w => pack_any x y (joinB (l.take k)) (by have := joinB_size (l.take k); rw [List.length_take] at this; omega) w
          obtain ⟨S, hS⟩ : ∃ S, S = joinB (l.take k) := ⟨_, rfl⟩
          rw [← hS] at hP
          rw [← hS]
          have HS := Lib.hid hS
          have HP := Lib.hid hP
          obtain ⟨E, hE⟩ : ∃ E, E = packE x y S.size := ⟨_, rfl⟩
          have HE := Lib.hid hE
          have HB := Lib.hid hB
          clear hS hP hE hB
          go_wp2_with fail
          refine (HP.out _).mono ?_
          rintro e w1 ⟨u, rfl, ht, hB1⟩
          rw [← HE.out]
          have hB2 := below_trans' HB.out hB1
          have HG := Lib.hid (getB_eq x y H0.out (by rw [← HZ.out]; exact hz64) HN.out (by rw [← HM.out]; exact hnm) HA.out)
          by_cases hE0 : E = 0
          · have hb4 : (E != 0) = false := by simp [hE0]
            have hS2 : S.size ≤ 14400 := by rw [HS.out]; have := joinB_size (l.take k); rw [List.length_take] at this; omega
            have hQ := equal_any u (.slice (some ⟨g, f, none⟩) k c) (packL x y S) (l.take k) w1 (Texts.strs ht) (HStr.out w1 hB2 hnm) (packL_short x y S hS2) (by rw [List.length_take]; omega)
            obtain ⟨t, ht2⟩ : ∃ t, t = decide (packL x y S = l.take k) := ⟨_, rfl⟩
            rw [← ht2] at hQ
            have HQ := Lib.hid hQ
            have HT := Lib.hid ht2
            clear hQ ht2 ht
            have HE0 := Lib.hid hE0
            clear hE0
            go_wp2_with fail
            refine HQ.out.mono ?_
            rintro e w2 ⟨rfl, hB3⟩
            cases t with
            | true =>
              go_wp2_with fail
              go_ret3
              have h : packL x y S = l.take k := of_decide_eq_true HT.out.symm
              refine ⟨?_, below_trans' hB2 hB3⟩
              rw [HG.out, ← HS.out, if_pos ⟨by rw [← HE.out]; exact HE0.out, h⟩]
              rfl
            | false =>
              go_wp2_with fail
              go_ret3
              have h : ¬ packL x y S = l.take k := of_decide_eq_false HT.out.symm
              refine ⟨?_, below_trans' hB2 hB3⟩
              rw [HG.out, ← HS.out, if_neg (fun h2 => h h2.2)]
              rfl
          · have hb4 : (E != 0) = true := by simp [hE0]
            have HE0 := Lib.hid hE0
            clear hE0
            go_wp2_with fail
            go_ret3
            refine ⟨?_, hB2⟩
            rw [HG.out, ← HS.out, if_neg (fun h2 => HE0.out (by rw [HE.out]; exact h2.1))]
            rfl
    · have hg : getB l x y = none := by unfold getB; rw [if_neg]; rintro ⟨_, _, h2, _⟩; rw [HN.out, ← HM.out] at h2; exact hnm h2
      rw [hg]
      clear hg
      go_enter Try.func10, Try.ntmps10
      go_wp2_with fail
      go_ret3
      exact ⟨rfl, Below.refl _ _⟩
  · have hg : getB l x y = none := by unfold getB; rw [if_neg]; rintro ⟨_, h1, _⟩; rw [← hz] at h1; exact hz64 h1
    rw [hg, ← hm]
    rw [← hm] at hlen hc hl
    have hb1 : ((m : Int) == 0) = false := by simp; omega
    have hb2 : ((z.size : Int) != 64) = true := by simp; omega
    clear hz hg hm ha hcell
    go_enter Try.func10, Try.ntmps10
    go_wp2_with fail
    go_ret3
    exact ⟨rfl, Below.refl _ _⟩

end Go.Proofs.Ytaalfjngehlojaa
