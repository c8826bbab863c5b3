/- Walks: WalBack. -/
import Derived.Test.YtaalfjngehlojaaTo
import Derived.Laws.AppendOwnNone
import Derived.Lib.AtoiErrMem
namespace Go.Proofs.Ytaalfjngehlojaa
open Go.RowKit

/-- append, of texts that lie somewhere, none or more. -/
theorem append_strs {w : World} {ops : Array Oper} {rest : List Oper} {o : Oper} {a : Act} {Q : Exit → Act → World → Prop} (hgd : o.guard = none) (s x : Operand)
    (ho : o.op = .call { callee := .builtin .append, args := #[s, x], argTypes := #[22, 22] }) (base : Nat)
    (v : Value) (L : List ByteArray) (hs : a.eval s = v) (hown : Texts base v L w)
    (A : Option Addr) (m c : Nat) (l : List ByteArray) (hx : a.eval x = .slice A m c) (hS : Strs w (.slice A m c) l) (hn : L.length + m ≤ 1000) (hbase : base ≤ w.heap.size)
    (h : ∀ v' w', Texts base v' (L ++ l) w' → w.grownBy w' v.ownBlock → wpList Try.prog ops Q rest (a.put o.dst v') w') : wpList Try.prog ops Q (o :: rest) a w := by
  obtain ⟨i0, hi, hz0, hz1, hz2⟩ := info_parts infoStr
  obtain ⟨o', c', e, hc, h0, ha⟩ := hS.out
  cases e
  have hlen : (L ++ l).length = L.length + l.length := List.length_append
  cases A with
  | none =>
    have hc0 := h0 rfl
    subst hc0
    have hl : l = [] := List.eq_nil_of_length_eq_zero (by omega)
    subst hl
    refine wpList_append_own_none hgd s x 22 ho base 9 i0 1 Try.underlying22 hi v L.length _ hs hown hx (h v w ?_ ⟨rfl, rfl, rfl, Nat.le_refl _, fun _ _ _ => rfl⟩)
    rw [List.append_nil]; exact hown
  | some ad =>
    refine wpList_append_own _ hgd s x 22 ho base 9 i0 (.string ⟨#[]⟩) 1 16 Try.underlying22 hi hz0 hz1 hz2 rfl (by decide) v L.length _ hs hown ad l.length c (l.map Value.string) hx (by simp) ?_ ?_ (by unfold maxLen; omega) (by omega) hbase ?_
    · intro j u hj
      rw [List.getElem?_map] at hj
      obtain ⟨b, hb, rfl⟩ := Option.map_eq_some_iff.1 hj
      have hjl := (List.getElem?_eq_some_iff.1 hb).1
      obtain ⟨g, f, rfl, hcell⟩ := ha ad rfl (by omega)
      have := hcell j hjl
      rw [List.getD_eq_getElem?_getD, hb] at this
      rw [Go.WideShapes.add_plain]
      exact this
    · intro u hu
      obtain ⟨b, _, rfl⟩ := List.mem_map.1 hu
      rfl
    · intro v' w' h2 h3 _
      refine h v' w' ?_ h3
      unfold Texts
      rw [hlen, List.map_append]
      exact h2

theorem texts_empty (w : World) : Texts w.heap.size (.slice (some ⟨w.heap.size, 0, none⟩) 0 0) [] (w.alloc (.cells #[] 9)) := by
  refine ⟨rfl, .inr ⟨w.heap.size, 0, #[], rfl, Nat.le_refl _, heap_alloc_new w _, Nat.le_refl _, by unfold maxLen; omega, rfl, rfl⟩⟩

theorem Texts.below {B : Nat} {v : Value} {l : List ByteArray} {W W' : World} (h : Texts B v l W) (hB : Below W.heap.size W W') : Texts B v l W' := by
  rcases h with ⟨h1, ⟨rfl, h2⟩ | ⟨g, cap, cur, rfl, hb, hg, rest⟩⟩
  · exact ⟨h1, .inl ⟨rfl, h2⟩⟩
  · exact ⟨h1, .inr ⟨g, cap, cur, rfl, hb, (hB.block g (Array.getElem?_eq_some_iff.1 hg).1).trans hg, rest⟩⟩

/-- A row of bytes of the call's own. -/
structure Byts (W : World) (b : Nat) (l : List Int) : Prop where
  cell : ∀ j, j < l.length → W.cell? ⟨b, j, none⟩ = some (.int .u8 (l.getD j 0))
  frozen : ∀ j, j < l.length → W.frozen? ⟨b, j, none⟩ = false
theorem Byts.set {W : World} {b : Nat} {l : List Int} (h : Byts W b l) (i : Nat) (hi : i < l.length) (v : Int) : Byts (W.setCell ⟨b, i, none⟩ (.int .u8 v)) b (l.set i v) := by
  refine ⟨fun j hj => ?_, fun j hj => ?_⟩
  · rw [List.length_set] at hj
    by_cases e : j = i
    · subst e
      rw [World.cell?_setCell_same _ _ _ (h.cell j hj)]
      simp [List.getD_eq_getElem?_getD, hj]
    · rw [World.cell?_setCell_other _ _ _ _ (by intro he; injection he with _ h2; omega), h.cell j hj, List.getD_eq_getElem?_getD, List.getD_eq_getElem?_getD, List.getElem?_set_ne (by omega)]
  · rw [List.length_set] at hj
    rw [World.frozen?_setCell]; exact h.frozen j hj
theorem Byts.drew {W : World} {b : Nat} {l : List Int} (h : Byts W b l) : Byts W.drew b l := ⟨h.cell, h.frozen⟩
theorem Byts.made (w : World) (s : ByteArray) : Byts (Lib.bytesWorld w 5 s) w.heap.size (s.data.toList.map fun c => (c.toNat : Int)) := by
  refine ⟨fun j hj => ?_, fun j hj => ?_⟩
  · have hj' : j < s.size := by simpa using hj
    rw [Lib.bytesWorld_cell w 5 s j hj']
    rw [List.getD_eq_getElem?_getD, List.getD_eq_getElem?_getD, List.getElem?_map, List.getElem?_eq_getElem (show j < s.data.toList.length from hj')]
    rfl
  · have hj' : j < s.size := by simpa using hj
    simp [World.frozen?, Lib.bytesWorld_at_new, Lib.bytesCells]
    omega
theorem Byts.string {P : Program} {W : World} {b : Nat} {l : List Int} (h : Byts W b l) (src dst e : TypeId) (hs : P.underlying src = some (.slice e)) (he : P.underlying e = some (.int .u8)) (hd : P.underlying dst = some .string) (n cap : Nat) (hn : l.length = n) :
    (convert src dst (.slice (some ⟨b, 0, none⟩) n cap)).run P W = .ok (.string (strOfNums l)) W :=
  run_convert_bytes_arg W src e hs he b 0 n cap l hn (fun i hi => by rw [Nat.zero_add]; exact h.cell i (by omega)) dst hd

/-- A row of texts of the call's own. -/
structure TRow (W : World) (b : Nat) (l : List ByteArray) : Prop where
  cell : ∀ j, j < l.length → W.cell? ⟨b, j, none⟩ = some (.string (l.getD j ByteArray.empty))
  frozen : ∀ j, W.frozen? ⟨b, j, none⟩ = false
theorem Texts.row {B : Nat} {v : Value} {l : List ByteArray} {W : World} (h : Texts B v l W) (n : Nat) (hl : l.length = n) (hn : 0 < n) : ∃ b c, v = .slice (some ⟨b, 0, none⟩) n c ∧ n ≤ c ∧ B ≤ b ∧ b < W.heap.size ∧ TRow W b l := by
  have hS := Texts.strs h
  rcases h with ⟨h1, ⟨rfl, h2⟩ | ⟨g, cap, cur, rfl, hb, hg, hnc, rest⟩⟩
  · omega
  · obtain ⟨o', c', e, _, _, ha⟩ := hS.out
    cases e
    obtain ⟨g', f', e, hc⟩ := ha _ rfl (by omega)
    cases e
    refine ⟨g, cap, by rw [hl], by omega, hb, (Array.getElem?_eq_some_iff.1 hg).1, fun j hj => ?_, fun j => ?_⟩
    · have := hc j hj
      rwa [Nat.zero_add] at this
    · simp [World.frozen?, hg]
theorem TRow.below {B : Nat} {W W' : World} {b : Nat} {l : List ByteArray} (h : TRow W b l) (hB : Below B W W') (hb : b < B) : TRow W' b l :=
  ⟨fun j hj => (hB.cell (p := ⟨b, j, none⟩) hb).trans (h.cell j hj), fun j => (hB.frozen (p := ⟨b, j, none⟩) hb).trans (h.frozen j)⟩
theorem TRow.other {W : World} {b : Nat} {l : List ByteArray} (h : TRow W b l) {a : Addr} (ha : b ≠ a.block) (v : Value) : TRow (W.setCell a v) b l :=
  ⟨fun j hj => (World.cell?_setCell_other _ _ _ _ (fun e => ha (by rw [e]))).trans (h.cell j hj), fun j => by rw [World.frozen?_setCell]; exact h.frozen j⟩
theorem TRow.set {W : World} {b : Nat} {l : List ByteArray} (h : TRow W b l) (k : Nat) (hk : k < l.length) (z : ByteArray) : TRow (W.setCell ⟨b, k, none⟩ (.string z)) b (l.set k z) := by
  refine ⟨fun j hj => ?_, fun j => by rw [World.frozen?_setCell]; exact h.frozen j⟩
  rw [List.length_set] at hj
  by_cases e : j = k
  · subst e
    rw [World.cell?_setCell_same _ _ _ (h.cell j hj), List.getD_eq_getElem?_getD, List.getElem?_set_self hj]
    rfl
  · rw [World.cell?_setCell_other _ _ _ _ (by intro he; injection he with _ h2; omega), h.cell j hj, List.getD_eq_getElem?_getD, List.getD_eq_getElem?_getD, List.getElem?_set_ne (by omega)]
theorem TRow.strs {W : World} {b : Nat} {l : List ByteArray} (h : TRow W b l) (n c : Nat) (hl : l.length = n) (hc : n ≤ c) : Strs W (.slice (some ⟨b, 0, none⟩) n c) l :=
  ⟨some ⟨b, 0, none⟩, c, by rw [hl], by omega, (fun e => nomatch e), fun a e _ => by cases e; exact ⟨b, 0, rfl, fun j hj => by rw [Nat.zero_add]; exact h.cell j hj⟩⟩

/-- Whether Get tells. -/
def GotIs (t : Bool) (w : World) (e : Ending) (w' : World) : Prop := ∃ x n, e = .returned (.tuple #[.string x, .int .i64 n, .bool t]) ∧ Below w.heap.size w w'
theorem get_is (x y : Int) (l : List ByteArray) (v : Value) (t : Bool) (w : World) (hl : l.length ≤ 300) (h : Strs w v l) (hg : (getB l x y).isSome = t) : Calls Try.prog 10 #[v, .int .i64 x, .int .i64 y] w (GotIs t w) := by
  refine (get_any x y l v w hl h).mono ?_
  rintro e w' ⟨rfl, hB⟩
  cases hgb : getB l x y with
  | none => rw [hgb] at hg; subst hg; exact ⟨_, _, rfl, hB⟩
  | some r => obtain ⟨s, n⟩ := r; rw [hgb] at hg; subst hg; exact ⟨_, _, rfl, hB⟩

set_option maxRecDepth 100000 in
set_option maxHeartbeats 8000000 in
theorem walkBack (e q : Int) (s : ByteArray) (o3 : Option Addr) (m3 c3 : Nat) (M : List ByteArray) (x y z : Int) (w : World) (he : (Lit.int .u16 e).wf = true) (hq : (Lit.int .u16 q).wf = true) (hs : s.size ≤ maxLen) (hm3 : m3 ≤ maxLen) (hM : Strs w (.slice o3 m3 c3) M)
    (hx : (Lit.int .u16 x).wf = true) (hy : (Lit.int .u8 y).wf = true) (hz : (Lit.int .u8 z).wf = true) :
    Calls Try.prog 4 #[.int .u16 e, .int .u16 q, .string s, .slice o3 m3 c3, .int .u16 x, .int .u8 y, .int .u8 z] w fun e w' => e = .returned (.bool true) ∧ Below w.heap.size w w' := by
  unfold maxLen at hs hm3
  obtain ⟨he0, he1⟩ := wf_u16_bd he
  obtain ⟨hq0, hq1⟩ := wf_u16_bd hq
  obtain ⟨hx0, hx1⟩ := wf_u16_bd hx
  obtain ⟨hy0', hy1⟩ := wf_u8_bd hy
  obtain ⟨hz0, hz1⟩ := wf_u8_bd hz
  clear he hq hx hy hz
  have HM := Lib.hid hM
  clear hM
  by_cases hs3 : 384 < s.size
  · go_enter Try.func4, Try.ntmps4
    go_wp2_with (go_at_call 7; (with_reducible refine (awake_any _).mono ?_); rintro e w1 ⟨rfl, hB1⟩)
    go_ret
    exact ⟨rfl, hB1⟩
  by_cases hm5 : 5 < m3
  · go_enter Try.func4, Try.ntmps4
    go_wp2_with (go_at_call 7; (with_reducible refine (awake_any _).mono ?_); rintro e w1 ⟨rfl, hB1⟩)
    go_ret
    exact ⟨rfl, hB1⟩
  have hE1 : packE (1 + e) (1 + q) s.size = 0 := by unfold packE mayB; rw [if_pos ⟨by simp; omega, by simp; omega⟩, if_neg hs3]
  have P1 := Lib.hid (fun w => pack_good (1 + e) (1 + q) s (by omega) hE1 w)
  obtain ⟨n1, hn1⟩ : ∃ n, n = manyN s.size := ⟨_, rfl⟩
  have h11 : 1 ≤ n1 := by rw [hn1]; exact manyN_pos _
  have h81 : n1 ≤ 8 := by rw [hn1]; exact (pack_ok hE1).2.2.2.2
  have hmany : max 1 (((s.size : Int) + 47) / 48) = (n1 : Int) := by rw [hn1]; unfold manyN; omega
  have HE1 := Lib.hid hE1
  have N1 := Lib.hid hn1
  clear hE1 hn1
  obtain ⟨J, hJ, hJ1⟩ : ∃ J : Nat, z % (n1 : Int) = (J : Int) ∧ J < n1 := ⟨(z % (n1 : Int)).toNat, by have := Int.emod_nonneg z (show (n1 : Int) ≠ 0 by omega); omega, by have := Int.emod_nonneg z (show (n1 : Int) ≠ 0 by omega); have := Int.emod_lt_of_pos z (show (0 : Int) < n1 by omega); omega⟩
  obtain ⟨K, hK, hK1⟩ : ∃ K : Nat, x % (n1 : Int) = (K : Int) ∧ K < n1 := ⟨(x % (n1 : Int)).toNat, by have := Int.emod_nonneg x (show (n1 : Int) ≠ 0 by omega); omega, by have := Int.emod_nonneg x (show (n1 : Int) ≠ 0 by omega); have := Int.emod_lt_of_pos x (show (0 : Int) < n1 by omega); omega⟩
  obtain ⟨X, hX, hX1⟩ : ∃ X : Nat, x / 8 % 64 = (X : Int) ∧ X < 64 := ⟨(x / 8 % 64).toNat, by omega, by omega⟩
  have HJ := Lib.hid hJ
  have HK := Lib.hid hK
  have HX := Lib.hid hX
  clear hJ hK hX
  go_enter Try.func4, Try.ntmps4
  go_wp2_with fail
  refine (P1.out _).mono ?_
  rintro e w1 ⟨o1, c1, rfl, hS1, hB1⟩
  rw [← N1.out] at hS1 ⊢
  obtain ⟨g1, f1, rfl, hnc1, hg1, hl1, hcl1⟩ := hS1.cells h11
  obtain ⟨l, hl⟩ : ∃ l, l = packL (1 + e) (1 + q) s := ⟨_, rfl⟩
  rw [← hl] at hl1 hcl1 hS1
  have HL := Lib.hid hl
  have HL1 := Lib.hid hl1
  have HC1 := Lib.hid hcl1
  have HS1 := Lib.hid hS1
  clear hl hl1 hcl1 hS1
  have h64 : ∀ j, j < n1 → (l.getD j ByteArray.empty).size = 64 := fun j hj => by
    rw [HL.out, (pack_ok HE1.out).1, List.getD_eq_getElem?_getD, textsL_get _ _ _ _ (by rw [← N1.out]; exact hj)]
    exact textB_size _ _ _ _
  have H64 := Lib.hid h64
  clear h64
  go_wp2_with (go_at_call 13; (with_reducible refine (err_any _ _).mono ?_); rintro e w6 ⟨rfl, rfl⟩)
  go_loop [19] (fun i => ∃ k : Nat, k ≤ n1 ∧ i = .int .i64 k) (fun i => n1 - (intOf i).toNat)
  case atStart => exact ⟨0, by omega, rfl⟩
  case round =>
    obtain ⟨k, hk, rfl⟩ := hrel
    by_cases hlt : k < n1
    · have hc := HC1.out k hlt
      obtain ⟨t, ht⟩ : ∃ t, t = l.getD k ByteArray.empty := ⟨_, rfl⟩
      rw [← ht] at hc
      have ht64 : ((t.size : Int) != 64) = false := by rw [ht, H64.out k hlt]; rfl
      clear ht
      go_wp2_with fail
      go_round
      case rel => exact ⟨k + 1, by omega, by go_num⟩
      case measure => simp [intOf]; omega
    · obtain rfl : n1 = k := by omega
      have hSM := HM.out.below hB1
      have hla : l.length + m3 ≤ 1000 := by rw [HL1.out]; omega
      have hla0 : ([] : List ByteArray).length + n1 ≤ 1000 := by simp; omega
      have hw0 : Strs (w1.alloc (.cells #[] 9)) (.slice (some ⟨g1, f1, none⟩) n1 c1) l := HS1.out.below (below_alloc' (Below.refl _ _) _)
      have HW0 := Lib.hid hw0
      have HSM := Lib.hid hSM
      have HLA := Lib.hid hla
      have HLA0 := Lib.hid hla0
      have HT0 := Lib.hid (texts_empty w1)
      clear hw0 hSM hla hla0
      go_wp2_with (first | (at_builtin; refine append_strs rfl _ _ rfl w1.heap.size _ [] rfl HT0.out _ _ _ l rfl HW0.out HLA0.out (by simp) ?_; intro v1 w2 ht1 hgr1; have hB2 : Below w1.heap.size w1 w2 := (below_alloc' (Below.refl _ _) (.cells #[] 9)).grown hgr1 (by simp) (fun j hj => by cases hj; simp); rw [List.nil_append] at ht1; have HSM2 := Lib.hid (HSM.out.below hB2); have HT1 := Lib.hid ht1; clear ht1) | (at_builtin; refine append_strs rfl _ _ rfl w1.heap.size _ l rfl HT1.out _ _ _ M rfl HSM2.out HLA.out hB2.size ?_; intro v2 w3 ht2 hgr2))
      have hB3 : Below w1.heap.size w1 w3 := hB2.grown hgr2 hB2.size (fun j hj => (World.ownsRow.lt HT1.out j hj).1)
      have hMl : M.length ≤ 5 := by obtain ⟨_, _, e, _⟩ := HM.out.out; cases e; omega
      have hget := get_some (1 + e) (1 + q) (l ++ M) v2 s n1 w3 (by rw [List.length_append, HL1.out]; omega) (Texts.strs ht2) (by rw [HL.out, N1.out]; exact pack_get _ _ _ _ HE1.out)
      have G1 : Hid (∀ x' y' : Int, (1 + e ≠ x' ∨ 1 + q ≠ y') → ∀ W, Below w1.heap.size w1 W → Calls Try.prog 10 #[.slice (some ⟨g1, f1, none⟩) n1 c1, .int .i64 x', .int .i64 y'] W fun e w' => e = .returned (.tuple #[.string ⟨#[]⟩, .int .i64 0, .bool false]) ∧ Below W.heap.size W w') :=
        Lib.hid fun x' y' hne W hW => get_none x' y' l _ W (by rw [HL1.out]; omega) (HS1.out.below hW) (by rw [HL.out]; exact get_other _ _ _ _ s HE1.out hne)
      have G2 : Hid (∀ W, Below w1.heap.size w1 W → Calls Try.prog 10 #[.slice (some ⟨g1, f1, none⟩) J c1, .int .i64 (1 + e), .int .i64 (1 + q)] W fun e w' => e = .returned (.tuple #[.string ⟨#[]⟩, .int .i64 0, .bool false]) ∧ Below W.heap.size W w') :=
        Lib.hid fun W hW => get_none (1 + e) (1 + q) (l.take J) _ W (by rw [List.length_take, HL1.out]; omega) ((HS1.out.below hW).take J (by rw [HL1.out]; omega)) (by rw [HL.out]; exact get_less _ _ s J HE1.out (by rw [← N1.out]; exact hJ1))
      have HG := Lib.hid hget
      clear hget hMl ht2 hgr1 hgr2 HSM2 HT1 HSM HT0 HLA HLA0 HW0 hB2
      refine HG.out.mono ?_
      rintro e w4 ⟨rfl, hB4⟩
      have hB4 := below_trans' hB3 hB4
      go_wp2_with fail
      refine (G1.out _ _ (by omega) _ hB4).mono ?_
      rintro e w5 ⟨rfl, hB5⟩
      have hB5 := below_trans' hB4 hB5
      go_wp2_with fail
      refine (G1.out _ _ (by omega) _ hB5).mono ?_
      rintro e w6 ⟨rfl, hB6⟩
      have hB6 := below_trans' hB5 hB6
      have hJ := HJ.out
      go_wp2_with fail
      refine (G2.out _ hB6).mono ?_
      rintro e w7 ⟨rfl, hB7⟩
      have hB7 := below_trans' hB6 hB7
      have hw7 : Strs (w7.alloc (.cells #[] 9)) (.slice (some ⟨g1, f1, none⟩) n1 c1) l := HS1.out.below (below_alloc' hB7 _)
      have HW7 := Lib.hid hw7
      have HT7 := Lib.hid (texts_empty w7)
      have HLA7 : Hid (([] : List ByteArray).length + n1 ≤ 1000) := Lib.hid (by simp; omega)
      clear hw7 hJ G1 G2 HG hB3 hB4 hB5 hB6
      go_upto_region 17 with (at_builtin; refine append_strs rfl _ _ rfl w7.heap.size _ [] rfl HT7.out _ _ _ l rfl HW7.out HLA7.out (by simp) ?_; intro v8 w8 ht8 hgr8; rw [List.nil_append] at ht8; obtain ⟨b8, c8, rfl, hc8, hb8, hbw8, hrow8⟩ := Texts.row ht8 n1 HL1.out (by omega); go_frame)
      have hB8 : Below w1.heap.size w1 w8 := below_trans' hB7 ((below_alloc' (Below.refl _ _) (.cells #[] 9)).grown hgr8 (by simp) (fun j hj => by cases hj; simp))
      have hb7 := hB7.size
      clear hgr8 ht8 HW7 HT7 HLA7
      have hK := HK.out
      have hcK := hrow8.cell K (by rw [HL1.out]; exact hK1)
      obtain ⟨Z, hZ⟩ : ∃ Z, Z = l.getD K ByteArray.empty := ⟨_, rfl⟩
      rw [← hZ] at hcK
      have hZ64 : Z.size = 64 := by rw [hZ]; exact H64.out K hK1
      have hconv : ∀ w : World, (convert 9 39 (.string Z)).run Try.prog w = .ok (.slice (some ⟨w.heap.size, 0, none⟩) 64 (grownCap w 64 0 5)) (Lib.bytesWorld w 5 Z) := fun w => by
        have := Lib.run_convert_string_bytes (P := Try.prog) w 9 39 5 Z Try.underlying9 Try.underlying39 Try.underlying5
        rw [hZ64] at this
        exact this
      have HZ := Lib.hid hZ
      have HZ64 := Lib.hid hZ64
      have HR8 := Lib.hid hrow8
      clear hZ hZ64 hrow8
      go_upto_region 19 with fail
      clear hconv hcK hK
      have hby := Byts.made w8 Z
      have hBW := Lib.bytesWorld_below w8 5 Z
      have hrow9 := HR8.out.below hBW hbw8
      have hBc : 64 ≤ grownCap w8 64 0 5 := grownCap_ge _ _ _ _
      obtain ⟨W0, hW0⟩ : ∃ W, W = Lib.bytesWorld w8 5 Z := ⟨_, rfl⟩
      obtain ⟨gc, hgc⟩ : ∃ c, c = grownCap w8 64 0 5 := ⟨_, rfl⟩
      obtain ⟨b9, hb9⟩ : ∃ b, b = w8.heap.size := ⟨_, rfl⟩
      rw [← hgc] at hBc
      rw [← hW0, ← hb9] at hby
      rw [← hW0] at hBW hrow9
      rw [← hW0, ← hgc, ← hb9]
      have hK := HK.out
      simp only [hK]
      clear hK
      have hby : Byts W0 b9 (numsB Z) := hby
      have hnl : (numsB Z).length = 64 := by unfold numsB; rw [List.length_map]; exact HZ64.out
      have hXc := hby.cell X (by rw [hnl]; exact hX1)
      have hXf := hby.frozen X (by rw [hnl]; exact hX1)
      have hby2 := hby.set X (by rw [hnl]; exact hX1) (Go.bits .xor .u8 ((numsB Z).getD X 0) y)
      have hcs := hby2.string (P := Try.prog) 39 9 5 Try.underlying39 Try.underlying5 Try.underlying9 64 gc (by rw [List.length_set]; exact hnl)
      rw [show strOfNums ((numsB Z).set X (Go.bits .xor .u8 ((numsB Z).getD X 0) y)) = turnB Z X y from rfl] at hcs
      obtain ⟨y0, hy0⟩ : ∃ y0, y0 = (numsB Z).getD X 0 := ⟨_, rfl⟩
      obtain ⟨Z2, hZ2⟩ : ∃ Z2, Z2 = turnB Z X y := ⟨_, rfl⟩
      rw [← hy0] at hXc hcs
      rw [← hZ2] at hcs
      have hrow10 := hrow9.other (a := ⟨b9, X, none⟩) (by show b8 ≠ b9; omega) (.int .u8 (Go.bits .xor .u8 y0 y))
      have hcK := hrow10.cell K (by rw [HL1.out]; exact hK1)
      have hfK := hrow10.frozen K
      have hrow11 := hrow10.set K (by rw [HL1.out]; exact hK1) Z2
      have hB9 : Below w1.heap.size w1 ((W0.setCell ⟨b9, X, none⟩ (.int .u8 (Go.bits .xor .u8 y0 y))).setCell ⟨b8, K, none⟩ (.string Z2)) :=
        ((below_trans' hB8 hBW).setCell (p := ⟨b9, X, none⟩) (by show w1.heap.size ≤ b9; have := hB8.size; omega) _).setCell (p := ⟨b8, K, none⟩) (by show w1.heap.size ≤ b8; omega) _
      have hS11 := hrow11.strs n1 c8 (by rw [List.length_set]; exact HL1.out) hc8
      have hodd : (getB (l.set K Z2) (1 + e) (1 + q)).isSome = decide (y = 0) := by
        rw [hZ2, HZ.out, HL.out]
        exact get_odd _ _ s K X y HE1.out (by rw [← N1.out]; exact hK1) hX1 hy0' hy1
      have hget := get_is (1 + e) (1 + q) _ _ _ _ (by rw [List.length_set, HL1.out]; omega) hS11 hodd
      have HG := Lib.hid hget
      have HB9 := Lib.hid hB9
      have hXe := HX.out
      clear hget hS11 hodd hrow11 hrow10 hrow9 hZ2 hy0 hnl hby hby2 hB9 hW0 hgc HR8 hB7 hb9 hBW
      go_wp2_with fail
      refine HG.out.mono ?_
      rintro e w12 ⟨x1, n12, rfl, hB12⟩
      have hB13 := below_trans' (below_trans' hB1 HB9.out) hB12
      by_cases hy : y = 0
      · have hyd : decide (y = 0) = true := by simp [hy]
        have hyb : (y == 0) = true := by simp [hy]
        rw [hyd]
        clear hyd hy HG hcs hXc hcK hXe HB9
        go_wp2_with (go_at_call 7; (with_reducible refine (awake_any _).mono ?_); rintro e w9 ⟨rfl, hB9⟩)
        go_ret
        exact ⟨rfl, below_trans' hB13 hB9⟩
      · have hyd : decide (y = 0) = false := by simp [hy]
        have hyb : (y == 0) = false := by simp [hy]
        rw [hyd]
        clear hyd hy HG hcs hXc hcK hXe HB9
        go_wp2_with (go_at_call 7; (with_reducible refine (awake_any _).mono ?_); rintro e w9 ⟨rfl, hB9⟩)
        go_ret
        exact ⟨rfl, below_trans' hB13 hB9⟩

end Go.Proofs.Ytaalfjngehlojaa
