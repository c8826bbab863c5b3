/- Walks: WalTorn. -/
import Derived.Test.YtaalfjngehlojaaAw
namespace Go.Proofs.Ytaalfjngehlojaa
open Go.RowKit

/-- A slice of truths, somewhere in a row. -/
structure Bools (W : World) (v : Value) (n : Nat) (B : Nat → Bool) : Prop where
  out : ∃ o c, v = .slice o n c ∧ n ≤ c ∧ c ≤ 9223372036854775807 ∧ (o = none → c = 0) ∧ (∀ a, o = some a → 0 < n → ∃ g f, a = ⟨g, f, none⟩ ∧ ∀ j, j < n → W.cell? ⟨g, f + j, none⟩ = some (.bool (B j)))

/-- Whether the i-th is of the first packing. -/
def tkB (n1 n2 L : Nat) (B : Nat → Bool) (i : Nat) : Bool := decide (n2 ≤ i) || ((decide (L ≤ i) || B i) && decide (i < n1))
/-- The i-th. -/
def mixAt (l m : List ByteArray) (L : Nat) (B : Nat → Bool) (i : Nat) : ByteArray := if tkB l.length m.length L B i then l.getD i ByteArray.empty else m.getD i ByteArray.empty
/-- So many of them. -/
def mixL (l m : List ByteArray) (L : Nat) (B : Nat → Bool) (k : Nat) : List ByteArray := (List.range k).map (mixAt l m L B)
def wholeB (n1 n2 L : Nat) (B : Nat → Bool) (k : Nat) : Bool := (List.range k).all fun i => tkB n1 n2 L B i || decide (n1 ≤ i)
def otherB (n1 n2 L : Nat) (B : Nat → Bool) (k : Nat) : Bool := (List.range k).all fun i => !tkB n1 n2 L B i || decide (n2 ≤ i)
theorem mixL_length (l m : List ByteArray) (L : Nat) (B : Nat → Bool) (k : Nat) : (mixL l m L B k).length = k := by simp [mixL]
theorem mixL_succ (l m : List ByteArray) (L : Nat) (B : Nat → Bool) (k : Nat) : mixL l m L B (k + 1) = mixL l m L B k ++ [mixAt l m L B k] := by simp [mixL, List.range_succ]
theorem wholeB_succ (n1 n2 L : Nat) (B : Nat → Bool) (k : Nat) : wholeB n1 n2 L B (k + 1) = (wholeB n1 n2 L B k && (tkB n1 n2 L B k || decide (n1 ≤ k))) := by simp [wholeB, List.range_succ]
theorem otherB_succ (n1 n2 L : Nat) (B : Nat → Bool) (k : Nat) : otherB n1 n2 L B (k + 1) = (otherB n1 n2 L B k && (!tkB n1 n2 L B k || decide (n2 ≤ k))) := by simp [otherB, List.range_succ]

theorem mixL_get (l m : List ByteArray) (L : Nat) (B : Nat → Bool) (k i : Nat) (h : i < k) : (mixL l m L B k)[i]? = some (mixAt l m L B i) := by simp [mixL, h]

/-- What Get answers of the mixture, by the first packing's numbers. -/
theorem torn_one (a b c : Int) (s t : ByteArray) (L : Nat) (B : Nat → Bool) (h : packE a b s.size = 0) (h' : packE a c t.size = 0) (hbc : b ≠ c) :
    getB (mixL (packL a b s) (packL a c t) L B (max (manyN s.size) (manyN t.size))) a b = if wholeB (manyN s.size) (manyN t.size) L B (max (manyN s.size) (manyN t.size)) = true then some (s, manyN s.size) else none := by
  obtain ⟨hp, ha, hb, _, h8⟩ := pack_ok h
  obtain ⟨hp', _, hc, _, _⟩ := pack_ok h'
  rw [get_torn a b c s _ (fun i => tkB (manyN s.size) (manyN t.size) L B i = true) h hc hbc]
  · congr 1
    unfold wholeB
    simp only [List.all_eq_true, List.mem_range, Bool.or_eq_true, decide_eq_true_eq, eq_iff_iff]
    constructor
    · intro hh i hi
      by_cases hin : i < manyN s.size
      · exact .inl (hh i hin)
      · exact .inr (by omega)
    · intro hh i hi
      rcases hh i (by omega) with h1 | h1
      · exact h1
      · omega
  · intro i hi ht
    rw [mixL_get _ _ _ _ _ _ (by omega)]
    unfold mixAt
    rw [hp, hp', textsL_length, textsL_length, if_pos ht, List.getD_eq_getElem?_getD, textsL_get _ _ _ _ hi]
    rfl
  · intro i hi ht
    refine ⟨t, i, ?_⟩
    rw [mixL_get _ _ _ _ _ _ (by omega)]
    unfold mixAt
    have hit : i < manyN t.size := by
      unfold tkB at ht
      simp at ht
      omega
    rw [hp, hp', textsL_length, textsL_length, if_neg ht, List.getD_eq_getElem?_getD, textsL_get _ _ _ _ hit]
    rfl
theorem torn_two (a b c : Int) (s t : ByteArray) (L : Nat) (B : Nat → Bool) (h : packE a b s.size = 0) (h' : packE a c t.size = 0) (hbc : b ≠ c) :
    getB (mixL (packL a b s) (packL a c t) L B (max (manyN s.size) (manyN t.size))) a c = if otherB (manyN s.size) (manyN t.size) L B (max (manyN s.size) (manyN t.size)) = true then some (t, manyN t.size) else none := by
  obtain ⟨hp, ha, hb, _, h8⟩ := pack_ok h
  obtain ⟨hp', _, hc, _, _⟩ := pack_ok h'
  rw [get_torn a c b t _ (fun i => ¬ tkB (manyN s.size) (manyN t.size) L B i = true) h' hb (Ne.symm hbc)]
  · congr 1
    unfold otherB
    simp only [List.all_eq_true, List.mem_range, Bool.or_eq_true, decide_eq_true_eq, eq_iff_iff, Bool.not_eq_true', Bool.not_eq_true]
    constructor
    · intro hh i hi
      by_cases hin : i < manyN t.size
      · exact .inl (hh i hin)
      · exact .inr (by omega)
    · intro hh i hi
      rcases hh i (by omega) with h1 | h1
      · exact h1
      · omega
  · intro i hi ht
    rw [mixL_get _ _ _ _ _ _ (by omega)]
    unfold mixAt
    rw [hp, hp', textsL_length, textsL_length, if_neg ht, List.getD_eq_getElem?_getD, textsL_get _ _ _ _ hi]
    rfl
  · intro i hi ht
    have ht := Classical.not_not.1 ht
    refine ⟨s, i, ?_⟩
    rw [mixL_get _ _ _ _ _ _ (by omega)]
    unfold mixAt
    have his : i < manyN s.size := by
      unfold tkB at ht
      simp at ht
      omega
    rw [hp, hp', textsL_length, textsL_length, if_pos ht, List.getD_eq_getElem?_getD, textsL_get _ _ _ _ his]
    rfl

/-- What Get hands back where it tells s if t. -/
def GotIf (t : Bool) (s : ByteArray) (w : World) (e : Ending) (w' : World) : Prop :=
  ∃ x n, e = .returned (.tuple #[.string x, .int .i64 n, .bool t]) ∧ (t = true → x = s) ∧ Below w.heap.size w w'
theorem get_if (x y : Int) (l : List ByteArray) (v : Value) (s : ByteArray) (n : Nat) (t : Bool) (w : World) (hl : l.length ≤ 300) (h : Strs w v l) (hg : getB l x y = if t = true then some (s, n) else none) :
    Calls Try.prog 10 #[v, .int .i64 x, .int .i64 y] w (GotIf t s w) := by
  cases t with
  | true =>
    refine (get_some x y l v s n w hl h hg).mono ?_
    rintro e w' ⟨rfl, hB⟩
    exact ⟨_, _, rfl, fun _ => rfl, hB⟩
  | false =>
    refine (get_none x y l v w hl h hg).mono ?_
    rintro e w' ⟨rfl, hB⟩
    exact ⟨_, _, rfl, (fun h => by cases h), hB⟩

theorem Strs.cells {W : World} {o : Option Addr} {n c : Nat} {l : List ByteArray} (h : Strs W (.slice o n c) l) (hn : 0 < n) : ∃ g f, o = some ⟨g, f, none⟩ ∧ n ≤ c ∧ g < W.heap.size ∧ l.length = n ∧ ∀ j, j < n → W.cell? ⟨g, f + j, none⟩ = some (.string (l.getD j ByteArray.empty)) := by
  obtain ⟨o', c', e, hc, h0, ha⟩ := h.out
  cases e
  obtain ⟨a, rfl⟩ : ∃ a, o = some a := by
    cases o with
    | none => have := h0 rfl; omega
    | some a => exact ⟨a, rfl⟩
  obtain ⟨g, f, rfl, hj⟩ := ha a rfl hn
  refine ⟨g, f, rfl, hc, ?_, rfl, hj⟩
  have := hj 0 hn
  by_cases hg : g < W.heap.size
  · exact hg
  · rw [World.cell?, Array.getElem?_eq_none (show W.heap.size ≤ g by omega)] at this
    cases this

set_option maxRecDepth 100000 in
set_option maxHeartbeats 8000000 in
theorem walkTorn (s t : ByteArray) (e q r : Int) (v : Value) (L : Nat) (B : Nat → Bool) (w : World) (hs : s.size ≤ maxLen) (ht : t.size ≤ maxLen) (he : (Lit.int .u16 e).wf = true) (hq : (Lit.int .u16 q).wf = true) (hr : (Lit.int .u16 r).wf = true) (hv : Bools w v L B) :
    Calls Try.prog 5 #[.string s, .string t, .int .u16 e, .int .u16 q, .int .u16 r, v] w fun e w' => e = .returned (.bool true) ∧ Below w.heap.size w w' := by
  unfold maxLen at hs ht
  obtain ⟨he0, he1⟩ := wf_u16_bd he
  obtain ⟨hq0, hq1⟩ := wf_u16_bd hq
  obtain ⟨hr0, hr1⟩ := wf_u16_bd hr
  clear he hq hr
  obtain ⟨o5, c5, rfl, hL, hc5, ho5, ha5⟩ := hv.out
  by_cases hs3 : 384 < s.size
  · clear ha5 ho5 hv
    go_enter Try.func5, Try.ntmps5
    go_wp2_with (go_at_call 7; (with_reducible refine (awake_any _).mono ?_); rintro e w1 ⟨rfl, hB1⟩)
    go_ret
    exact ⟨rfl, hB1⟩
  by_cases ht3 : 384 < t.size
  · clear ha5 ho5 hv
    go_enter Try.func5, Try.ntmps5
    go_wp2_with (go_at_call 7; (with_reducible refine (awake_any _).mono ?_); rintro e w1 ⟨rfl, hB1⟩)
    go_ret
    exact ⟨rfl, hB1⟩
  have hE1 : packE (1 + e) (1 + q) s.size = 0 := by unfold packE mayB; rw [if_pos ⟨by simp; omega, by simp; omega⟩, if_neg hs3]
  have hE2 : packE (1 + e) (2 + q + r) t.size = 0 := by unfold packE mayB; rw [if_pos ⟨by simp; omega, by simp; omega⟩, if_neg ht3]
  have hone := torn_one (1 + e) (1 + q) (2 + q + r) s t L B hE1 hE2 (by omega)
  have htwo := torn_two (1 + e) (1 + q) (2 + q + r) s t L B hE1 hE2 (by omega)
  have P1 := Lib.hid (fun w => pack_good (1 + e) (1 + q) s (by omega) hE1 w)
  have P2 := Lib.hid (fun w => pack_good (1 + e) (2 + q + r) t (by omega) hE2 w)
  obtain ⟨n1, hn1⟩ : ∃ n, n = manyN s.size := ⟨_, rfl⟩
  obtain ⟨n2, hn2⟩ : ∃ n, n = manyN t.size := ⟨_, rfl⟩
  have h11 : 1 ≤ n1 := by rw [hn1]; exact manyN_pos _
  have h12 : 1 ≤ n2 := by rw [hn2]; exact manyN_pos _
  have h81 : n1 ≤ 8 := by rw [hn1]; exact (pack_ok hE1).2.2.2.2
  have h82 : n2 ≤ 8 := by rw [hn2]; exact (pack_ok hE2).2.2.2.2
  rw [← hn1, ← hn2] at hone htwo
  have H1 := Lib.hid hone
  have H2 := Lib.hid htwo
  have HE1 := Lib.hid hE1
  have HE2 := Lib.hid hE2
  have N1 := Lib.hid hn1
  have N2 := Lib.hid hn2
  have HV := Lib.hid hv
  clear hone htwo hE1 hE2 hn1 hn2 hv ha5 ho5
  obtain ⟨i0, hi, hz0, hz1, hz2⟩ := info_parts infoStr
  go_enter Try.func5, Try.ntmps5
  go_wp2_with fail
  refine (P1.out _).mono ?_
  rintro e w1 ⟨o1, c1, rfl, hS1, hB1⟩
  rw [← N1.out] at hS1 ⊢
  go_wp2_with fail
  refine (P2.out _).mono ?_
  rintro e w2 ⟨o2, c2, rfl, hS2, hB2⟩
  rw [← N2.out] at hS2 ⊢
  have hS1 := hS1.below hB2
  have hB12 := below_trans' hB1 hB2
  obtain ⟨g1, f1, rfl, hnc1, hg1, hl1, hcl1⟩ := hS1.cells h11
  obtain ⟨g2, f2, rfl, hnc2, hg2, hl2, hcl2⟩ := hS2.cells h12
  clear hS1 hS2 hB1 hB2
  obtain ⟨l, hl⟩ : ∃ l, l = packL (1 + e) (1 + q) s := ⟨_, rfl⟩
  obtain ⟨m, hm⟩ : ∃ m, m = packL (1 + e) (2 + q + r) t := ⟨_, rfl⟩
  rw [← hl] at hl1 hcl1
  rw [← hm] at hl2 hcl2
  have HL := Lib.hid hl
  have HM := Lib.hid hm
  have HL1 := Lib.hid hl1
  have HL2 := Lib.hid hl2
  have HC1 := Lib.hid hcl1
  have HC2 := Lib.hid hcl2
  obtain ⟨N, hN⟩ : ∃ N : Nat, N = max n1 n2 := ⟨_, rfl⟩
  have hN2 : max (n1 : Int) (n2 : Int) = (N : Int) := by omega
  have hN3 : n1 ≤ N ∧ n2 ≤ N ∧ N ≤ 8 := by omega
  obtain ⟨hN4, hN5, hN6⟩ := hN3
  have HN := Lib.hid hN
  have HB12 := Lib.hid hB12
  clear hl hm hl1 hl2 hcl1 hcl2 hN hB12
  go_wp2_with (go_at_call 13; (with_reducible refine (err_any _ _).mono ?_); rintro e w6 ⟨rfl, rfl⟩)
  go_loopw [20, 21, 22, 23, 24] (fun mix wh ot i fi wr => ∃ k : Nat, k ≤ N ∧ i = .int .i64 k ∧ wr.ownsRow w2.heap.size 9 1 mix k ((mixL l m L B k).map Value.string) ∧ wh = .bool (wholeB n1 n2 L B k) ∧ ot = .bool (otherB n1 n2 L B k) ∧ Below w2.heap.size w2 wr) (fun _ _ _ i _ _ => N - (intOf i).toNat)
  case atStart => exact ⟨0, by omega, rfl, World.ownsRow_nil _ _ _ _, rfl, rfl, Below.refl _ _⟩
  case round =>
    obtain ⟨k, hk, rfl, hown, rfl, rfl, hB⟩ := hrel
    by_cases hlt : k < N
    · have hbs := hB.size
      obtain ⟨wb, hwb⟩ : ∃ b, b = wholeB n1 n2 L B k := ⟨_, rfl⟩
      obtain ⟨ob, hob⟩ : ∃ b, b = otherB n1 n2 L B k := ⟨_, rfl⟩
      rw [← hwb, ← hob]
      have HWB := Lib.hid hwb
      have HOB := Lib.hid hob
      have HX := Lib.hid (mixL_succ l m L B k)
      have HWS := Lib.hid (wholeB_succ n1 n2 L B k)
      have HOS := Lib.hid (otherB_succ n1 n2 L B k)
      have HBW := Lib.hid hB
      clear hwb hob
      have hfirst : L ≤ k ∨ (k < L ∧ B k = true) ∨ (k < L ∧ B k = false) := by
        by_cases h : L ≤ k
        · exact .inl h
        · cases hb : B k
          · exact .inr (.inr ⟨by omega, rfl⟩)
          · exact .inr (.inl ⟨by omega, rfl⟩)
      have hwhich : n2 ≤ k ∧ k < n1 ∨ k < n2 ∧ k < n1 ∨ k < n2 ∧ n1 ≤ k := by omega
      have hcz : k < n1 → wr.cell? ⟨g1, f1 + k, none⟩ = some (.string (l.getD k ByteArray.empty)) := fun h => (hB.cell (p := ⟨g1, f1 + k, none⟩) hg1).trans (HC1.out k h)
      have hcy : k < n2 → wr.cell? ⟨g2, f2 + k, none⟩ = some (.string (m.getD k ByteArray.empty)) := fun h => (hB.cell (p := ⟨g2, f2 + k, none⟩) hg2).trans (HC2.out k h)
      have hTK : tkB n1 n2 L B k = (decide (n2 ≤ k) || ((decide (L ≤ k) || B k) && decide (k < n1))) := rfl
      have hMA : mixAt l m L B k = if tkB n1 n2 L B k then l.getD k ByteArray.empty else m.getD k ByteArray.empty := by unfold mixAt; rw [HL1.out, HL2.out]
      have hFirst : k < L → ∃ g5 f5, o5 = some ⟨g5, f5, none⟩ ∧ wr.cell? ⟨g5, f5 + k, none⟩ = some (.bool (B k)) := fun h => by
        obtain ⟨o', c', e, h1, _, h3, h4⟩ := HV.out.out
        cases e
        cases ho : o5 with
        | none => have := h3 ho; omega
        | some a =>
          obtain ⟨g, f, rfl, hj⟩ := h4 a ho (by omega)
          refine ⟨g, f, rfl, ?_⟩
          have hc := hj k h
          have hg : g < w.heap.size := by
            by_cases hg : g < w.heap.size
            · exact hg
            · rw [World.cell?, Array.getElem?_eq_none (show w.heap.size ≤ g by omega)] at hc
              cases hc
          exact ((below_trans' HB12.out hB).cell (p := ⟨g, f + k, none⟩) hg).trans hc
      clear hB
      rcases hfirst with hf | ⟨hf, hf2⟩ | ⟨hf, hf2⟩
      all_goals try (obtain ⟨g5, f5, rfl, h5⟩ := hFirst hf; rw [hf2] at h5 hTK; clear hf2)
      all_goals rcases hwhich with ⟨h1, h2⟩ | ⟨h1, h2⟩ | ⟨h1, h2⟩
      all_goals obtain ⟨tb, htb⟩ : ∃ tb, tb = tkB n1 n2 L B k := ⟨_, rfl⟩
      all_goals cases tb
      all_goals try (exfalso; rw [hTK] at htb; simp at htb; omega)
      all_goals first
        | skip
          rw [← htb, if_pos rfl] at hMA
          have hz := hcz (by assumption)
          obtain ⟨z, hzz⟩ : ∃ z, z = l.getD k ByteArray.empty := ⟨_, rfl⟩
          rw [← hzz] at hz hMA
          have HT := Lib.hid htb.symm
          have HMA := Lib.hid hMA
          clear hcz hcy hFirst hTK hMA htb hzz
          go_wp2_with (at_builtin; refine wpList_append_own _ rfl _ _ 22 rfl w2.heap.size 9 i0 (.string ⟨#[]⟩) 1 16 Try.underlying22 hi hz0 hz1 hz2 rfl (by decide) _ _ _ rfl (hown.alloc _) ⟨wr.heap.size, 0, none⟩ 1 1 [.string z] rfl rfl (cell_one_new _ _ _) (by simp [Value.oneCell']) (by unfold maxLen; omega) (by omega) (by simp; omega) ?_)
          intro v' w3 hown' hgrow _
          have hB' := (HBW.out.alloc hbs (.cells #[.string z] 9)).grown hgrow (by simp; omega) (fun j hj => (hown.lt j hj).1)
          have hown2 : w3.ownsRow w2.heap.size 9 1 v' (k + 1) ((mixL l m L B (k + 1)).map Value.string) := by rw [HX.out, HMA.out, List.map_append]; exact hown'
          clear hown hown' hgrow
          have HO := Lib.hid hown2
          clear hown2
          have w1f := HWS.out
          have o1f := HOS.out
          rw [HT.out, ← HWB.out] at w1f
          rw [HT.out, ← HOB.out] at o1f
          have HWF := Lib.hid w1f
          have HOF := Lib.hid o1f
          clear w1f o1f
          cases ob
          all_goals
            go_wp2_with fail
            go_roundw
            case rel => exact ⟨k + 1, by omega, by go_num, HO.out, by rw [HWF.out]; first | rfl | (simp; done) | (simp; omega), by rw [HOF.out]; first | rfl | (simp; done) | (simp; omega), hB'⟩
            case measure => simp [intOf]; omega
        | skip
          rw [← htb, if_neg (by decide)] at hMA
          have hz := hcy (by assumption)
          obtain ⟨z, hzz⟩ : ∃ z, z = m.getD k ByteArray.empty := ⟨_, rfl⟩
          rw [← hzz] at hz hMA
          have HT := Lib.hid htb.symm
          have HMA := Lib.hid hMA
          clear hcz hcy hFirst hTK hMA htb hzz
          go_wp2_with (at_builtin; refine wpList_append_own _ rfl _ _ 22 rfl w2.heap.size 9 i0 (.string ⟨#[]⟩) 1 16 Try.underlying22 hi hz0 hz1 hz2 rfl (by decide) _ _ _ rfl (hown.alloc _) ⟨wr.heap.size, 0, none⟩ 1 1 [.string z] rfl rfl (cell_one_new _ _ _) (by simp [Value.oneCell']) (by unfold maxLen; omega) (by omega) (by simp; omega) ?_)
          intro v' w3 hown' hgrow _
          have hB' := (HBW.out.alloc hbs (.cells #[.string z] 9)).grown hgrow (by simp; omega) (fun j hj => (hown.lt j hj).1)
          have hown2 : w3.ownsRow w2.heap.size 9 1 v' (k + 1) ((mixL l m L B (k + 1)).map Value.string) := by rw [HX.out, HMA.out, List.map_append]; exact hown'
          clear hown hown' hgrow
          have HO := Lib.hid hown2
          clear hown2
          have w1f := HWS.out
          have o1f := HOS.out
          rw [HT.out, ← HWB.out] at w1f
          rw [HT.out, ← HOB.out] at o1f
          have HWF := Lib.hid w1f
          have HOF := Lib.hid o1f
          clear w1f o1f
          cases wb
          all_goals
            go_wp2_with fail
            go_roundw
            case rel => exact ⟨k + 1, by omega, by go_num, HO.out, by rw [HWF.out]; first | rfl | (simp; done) | (simp; omega), by rw [HOF.out]; first | rfl | (simp; done) | (simp; omega), hB'⟩
            case measure => simp [intOf]; omega
    · obtain rfl : k = N := by omega
      have hML := mixL_length l m L B k
      have hlen : (mixL l m L B k).length ≤ 300 := by omega
      have hS : Strs wr _ (mixL l m L B k) := Texts.strs (show Texts w2.heap.size _ _ wr by unfold Texts; rw [hML]; exact hown)
      have g1f : getB (mixL l m L B k) (1 + e) (1 + q) = if wholeB n1 n2 L B k = true then some (s, n1) else none := by rw [HL.out, HM.out, HN.out]; exact H1.out
      have g2f : getB (mixL l m L B k) (1 + e) (2 + q + r) = if otherB n1 n2 L B k = true then some (t, n2) else none := by rw [HL.out, HM.out, HN.out]; exact H2.out
      obtain ⟨wb, hwb⟩ : ∃ b, b = wholeB n1 n2 L B k := ⟨_, rfl⟩
      obtain ⟨ob, hob⟩ : ∃ b, b = otherB n1 n2 L B k := ⟨_, rfl⟩
      rw [← hwb] at g1f
      rw [← hob] at g2f
      rw [← hwb, ← hob]
      have C1 := Lib.hid (fun v W (hW : Strs W v (mixL l m L B k)) => get_if (1 + e) (1 + q) _ v s n1 wb W hlen hW g1f)
      have C2 := Lib.hid (fun v W (hW : Strs W v (mixL l m L B k)) => get_if (1 + e) (2 + q + r) _ v t n2 ob W hlen hW g2f)
      have HS := Lib.hid hS
      have HBW := Lib.hid (below_trans' HB12.out hB)
      clear hS hML hlen hown g1f g2f hwb hob hB
      go_wp2_with fail
      refine (C1.out _ _ HS.out).mono ?_
      rintro e w3 ⟨x1, n3, rfl, hx1, hB3⟩
      have HS2 := Lib.hid (HS.out.below hB3)
      have HX1 := Lib.hid hx1
      clear hx1
      go_wp2_with fail
      refine (C2.out _ _ HS2.out).mono ?_
      rintro e w4 ⟨x2, n4, rfl, hx2, hB4⟩
      have hB5 := below_trans' (below_trans' HBW.out hB3) hB4
      have hx1 := HX1.out
      clear HX1
      cases wb
      all_goals cases ob
      all_goals
        simp only [Bool.false_eq_true, false_implies, forall_const] at hx1 hx2
        try (subst hx1)
        try (subst hx2)
        go_wp2_with (go_at_call 7; (with_reducible refine (awake_any _).mono ?_); rintro e w9 ⟨rfl, hB9⟩)
        go_ret
        exact ⟨rfl, below_trans' hB5 hB9⟩

end Go.Proofs.Ytaalfjngehlojaa
