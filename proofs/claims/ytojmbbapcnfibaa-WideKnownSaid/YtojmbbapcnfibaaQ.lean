/- Walks: sums, shifts and comparisons of the document's numbers. -/
import Derived.Test.YtojmbbapcnfibaaP
namespace Go.Proofs.Ytojmbbapcnfibaa
open Go.RowKit

theorem four (l : List Int) (h : l.length = 4) : ∃ a b c d, l = [a, b, c, d] := by
  match l, h with
  | [a, b, c, d], _ => exact ⟨a, b, c, d, rfl⟩
theorem addL_length (a b : List Int) : (addL a b).length = 4 := addP_length a b 4
abbrev V4 (a b c d : Int) : Value := .agg #[.int .u64 a, .int .u64 b, .int .u64 c, .int .u64 d]
theorem Row.four {W : World} {B t : Nat} {k : IntKind} {a b c d : Int} (h : Row W B t k [a, b, c, d]) :
    W.cell? ⟨B, 0, none⟩ = some (.int k a) ∧ W.cell? ⟨B, 1, none⟩ = some (.int k b) ∧ W.cell? ⟨B, 2, none⟩ = some (.int k c) ∧ W.cell? ⟨B, 3, none⟩ = some (.int k d) :=
  ⟨h.cell 0 (by simp), h.cell 1 (by simp), h.cell 2 (by simp), h.cell 3 (by simp)⟩
theorem Row.fourF {W : World} {B t : Nat} {k : IntKind} {l : List Int} (h : Row W B t k l) :
    W.frozen? ⟨B, 0, none⟩ = false ∧ W.frozen? ⟨B, 1, none⟩ = false ∧ W.frozen? ⟨B, 2, none⟩ = false ∧ W.frozen? ⟨B, 3, none⟩ = false :=
  ⟨h.frozen 0, h.frozen 1, h.frozen 2, h.frozen 3⟩
theorem below_set4 {B : Nat} {w W : World} (h : Below B w W) (b : Nat) (hb : B ≤ b) (v0 v1 v2 v3 : Value) :
    Below B w ((((W.setCell ⟨b, 0, none⟩ v0).setCell ⟨b, 1, none⟩ v1).setCell ⟨b, 2, none⟩ v2).setCell ⟨b, 3, none⟩ v3) :=
  (((h.setCell (p := ⟨b, 0, none⟩) hb _).setCell (p := ⟨b, 1, none⟩) hb _).setCell (p := ⟨b, 2, none⟩) hb _).setCell (p := ⟨b, 3, none⟩) hb _
theorem Row.set4 {W : World} {b t : Nat} {k : IntKind} {x0 x1 x2 x3 : Int} (h : Row W b t k [x0, x1, x2, x3]) (v0 v1 v2 v3 : Int) :
    Row ((((W.setCell ⟨b, 0, none⟩ (.int k v0)).setCell ⟨b, 1, none⟩ (.int k v1)).setCell ⟨b, 2, none⟩ (.int k v2)).setCell ⟨b, 3, none⟩ (.int k v3)) b t k [v0, v1, v2, v3] :=
  (((h.set 0 v0).set 1 v1).set 2 v2).set 3 v3
theorem add_all (a0 a1 a2 a3 b0 b1 b2 b3 r0 r1 r2 r3 : Int) (h : addL [a0, a1, a2, a3] [b0, b1, b2, b3] = [r0, r1, r2, r3]) (w : World) :
    Calls Try.prog 31 #[V4 a0 a1 a2 a3, V4 b0 b1 b2 b3] w fun e w' => ∃ c, e = .returned (.tuple #[V4 r0 r1 r2 r3, .int .u64 c]) ∧ Below w.heap.size w w' :=
  (add_any a0 a1 a2 a3 b0 b1 b2 b3 r0 r1 r2 r3 (addP [a0, a1, a2, a3] [b0, b1, b2, b3] 4).2 (Prod.ext h rfl) w).mono fun _ _ ⟨h1, h2⟩ => ⟨_, h1, h2⟩

theorem rows1 (w : World) (t : TypeId) (k : IntKind) (a : List Int) :
    Row (w.alloc (.cells (a.map (Value.int k)).toArray t)) w.heap.size t k a ∧ Below w.heap.size w (w.alloc (.cells (a.map (Value.int k)).toArray t)) ∧ (w.alloc (.cells (a.map (Value.int k)).toArray t)).heap.size = w.heap.size + 1 :=
  ⟨Row.new _ _ _ _, below_alloc' (Below.refl _ _) _, World.size_alloc _ _⟩
theorem rows2 (w : World) (t u : TypeId) (k : IntKind) (a b : List Int) (W : World) (hW : W = (w.alloc (.cells (a.map (Value.int k)).toArray t)).alloc (.cells (b.map (Value.int k)).toArray u)) :
    Row W w.heap.size t k a ∧ Row W (w.heap.size + 1) u k b ∧ Below w.heap.size w W ∧ W.heap.size = w.heap.size + 2 := by
  obtain ⟨h1, h2, h3⟩ := rows1 w t k a
  obtain ⟨k1, k2, k3⟩ := rows1 (w.alloc (.cells (a.map (Value.int k)).toArray t)) u k b
  subst hW
  rw [h3] at k1
  exact ⟨h1.below k2 h1.lt, k1, below_trans' h2 k2, by rw [k3, h3]⟩
theorem rows3 (w : World) (t u v : TypeId) (k : IntKind) (a b c : List Int) (W : World) (hW : W = ((w.alloc (.cells (a.map (Value.int k)).toArray t)).alloc (.cells (b.map (Value.int k)).toArray u)).alloc (.cells (c.map (Value.int k)).toArray v)) :
    Row W w.heap.size t k a ∧ Row W (w.heap.size + 1) u k b ∧ Row W (w.heap.size + 2) v k c ∧ Below w.heap.size w W ∧ W.heap.size = w.heap.size + 3 := by
  obtain ⟨h1, h2, h3, h4⟩ := rows2 w t u k a b _ rfl
  obtain ⟨k1, k2, k3⟩ := rows1 ((w.alloc (.cells (a.map (Value.int k)).toArray t)).alloc (.cells (b.map (Value.int k)).toArray u)) v k c
  subst hW
  rw [h4] at k1
  exact ⟨h1.below k2 h1.lt, h2.below k2 h2.lt, k1, below_trans' h3 k2, by rw [k3, h4]⟩
theorem rows4 (w : World) (t u v x : TypeId) (k : IntKind) (a b c d : List Int) (W : World) (hW : W = (((w.alloc (.cells (a.map (Value.int k)).toArray t)).alloc (.cells (b.map (Value.int k)).toArray u)).alloc (.cells (c.map (Value.int k)).toArray v)).alloc (.cells (d.map (Value.int k)).toArray x)) :
    Row W w.heap.size t k a ∧ Row W (w.heap.size + 1) u k b ∧ Row W (w.heap.size + 2) v k c ∧ Row W (w.heap.size + 3) x k d ∧ Below w.heap.size w W ∧ W.heap.size = w.heap.size + 4 := by
  obtain ⟨h1, h2, h3, h4, h5⟩ := rows3 w t u v k a b c _ rfl
  obtain ⟨k1, k2, k3⟩ := rows1 (((w.alloc (.cells (a.map (Value.int k)).toArray t)).alloc (.cells (b.map (Value.int k)).toArray u)).alloc (.cells (c.map (Value.int k)).toArray v)) x k d
  subst hW
  rw [h5] at k1
  exact ⟨h1.below k2 h1.lt, h2.below k2 h2.lt, h3.below k2 h3.lt, k1, below_trans' h4 k2, by rw [k3, h5]⟩

set_option maxHeartbeats 800000 in
theorem rsum_any (a0 a1 a2 a3 b0 b1 b2 b3 c0 c1 c2 c3 r0 r1 r2 r3 : Int) (h : sumF [a0, a1, a2, a3] [b0, b1, b2, b3] [c0, c1, c2, c3] = [r0, r1, r2, r3]) (w : World) :
    Calls Try.prog 29 #[V4 a0 a1 a2 a3, V4 b0 b1 b2 b3, V4 c0 c1 c2 c3] w fun e w' => e = .returned (V4 r0 r1 r2 r3) ∧ Below w.heap.size w w' := by
  obtain ⟨s0, s1, s2, s3, hs⟩ := four (addL [a0, a1, a2, a3] [b0, b1, b2, b3]) (addL_length _ _)
  have h2 : addL [s0, s1, s2, s3] [c0, c1, c2, c3] = [r0, r1, r2, r3] := by rw [← hs]; exact h
  have H1 := Lib.hid hs
  have H2 := Lib.hid h2
  clear h h2 hs
  go_enter Try.func29, Try.ntmps29
  go_wp2_with fail
  obtain ⟨W0, hW0⟩ : ∃ W0, W0 = (((w.alloc (.cells #[.int .u64 a0, .int .u64 a1, .int .u64 a2, .int .u64 a3] 42)).alloc (.cells #[.int .u64 b0, .int .u64 b1, .int .u64 b2, .int .u64 b3] 42)).alloc (.cells #[.int .u64 c0, .int .u64 c1, .int .u64 c2, .int .u64 c3] 42)).alloc (.cells #[.int .u64 0, .int .u64 0, .int .u64 0, .int .u64 0] 42) := ⟨_, rfl⟩
  obtain ⟨_, _, hc, hr, hB0, hz⟩ := rows4 w 42 42 42 42 .u64 [a0, a1, a2, a3] [b0, b1, b2, b3] [c0, c1, c2, c3] [0, 0, 0, 0] W0 hW0
  rw [← hW0]
  clear hW0
  refine (add_all a0 a1 a2 a3 b0 b1 b2 b3 s0 s1 s2 s3 H1.out _).mono ?_
  rintro e w1 ⟨c, rfl, hb1⟩
  have hc1 := hc.below hb1 hc.lt
  have hr1 := hr.below hb1 hr.lt
  have hB1 := below_trans' hB0 hb1
  have hz1 : w.heap.size + 4 ≤ w1.heap.size := by have := hb1.size; omega
  clear hc hr hb1 hB0 hz
  obtain ⟨q0, q1, q2, q3⟩ := (hc1.alloc (.cells #[.int .u64 s0, .int .u64 s1, .int .u64 s2, .int .u64 s3] 42)).four
  go_wp2_with fail
  refine (add_all s0 s1 s2 s3 c0 c1 c2 c3 r0 r1 r2 r3 H2.out _).mono ?_
  rintro e w2 ⟨c', rfl, hb2⟩
  have hr2 := (hr1.alloc (.cells #[.int .u64 s0, .int .u64 s1, .int .u64 s2, .int .u64 s3] 42)).below hb2 (by simp; omega)
  have hB2 := below_trans' (below_alloc' hB1 _) hb2
  have hz2 : w.heap.size + 4 ≤ w2.heap.size := by have := hb2.size; simp at this; omega
  clear hc1 hr1 hb2 hB1 q0 q1 q2 q3
  have hr3 := hr2.alloc (.cells #[.int .u64 r0, .int .u64 r1, .int .u64 r2, .int .u64 r3] 42)
  have hB3 := below_alloc' hB2 (.cells #[.int .u64 r0, .int .u64 r1, .int .u64 r2, .int .u64 r3] 42)
  obtain ⟨g0, g1, g2, g3⟩ := hr3.four
  obtain ⟨f0, f1, f2, f3⟩ := hr3.fourF
  go_wp2_with fail
  have hqs := hr3.set4 r0 r1 r2 r3
  obtain ⟨z0, z1, z2, z3⟩ := hqs.four
  refine bodyPost_ret (v := V4 r0 r1 r2 r3) ?_ rfl ⟨rfl, below_set4 hB3 (w.heap.size + 3) (Nat.le_add_right _ _) _ _ _ _⟩
  simp [results, Try.results29, go_sem, z0, z1, z2, z3]

set_option maxHeartbeats 800000 in
theorem less_any (a0 a1 a2 a3 b0 b1 b2 b3 : Int) (w : World) :
    Calls Try.prog 32 #[V4 a0 a1 a2 a3, V4 b0 b1 b2 b3] w fun e w' => e = .returned (.bool (lessP [a0, a1, a2, a3] [b0, b1, b2, b3] 4)) ∧ Below w.heap.size w w' := by
  obtain ⟨la, hla⟩ : ∃ la, la = [a0, a1, a2, a3] := ⟨_, rfl⟩
  obtain ⟨lb, hlb⟩ : ∃ lb, lb = [b0, b1, b2, b3] := ⟨_, rfl⟩
  have hal : la.length = 4 := by rw [hla]; rfl
  have hbl : lb.length = 4 := by rw [hlb]; rfl
  rw [← hla, ← hlb]
  have HA := Lib.hid hla
  have HBB := Lib.hid hlb
  clear hla hlb
  go_enter Try.func32, Try.ntmps32
  go_wp2_with fail
  obtain ⟨W0, hW0⟩ : ∃ W0, W0 = (w.alloc (.cells #[.int .u64 a0, .int .u64 a1, .int .u64 a2, .int .u64 a3] 42)).alloc (.cells #[.int .u64 b0, .int .u64 b1, .int .u64 b2, .int .u64 b3] 42) := ⟨_, rfl⟩
  obtain ⟨ha, hb, hB0, hz⟩ := rows2 w 42 42 .u64 [a0, a1, a2, a3] [b0, b1, b2, b3] W0 hW0
  rw [← hW0]
  clear hW0 hz
  rw [← HA.out] at ha
  rw [← HBB.out] at hb
  go_loopw [5] (fun i wr => ∃ k : Nat, k ≤ 4 ∧ i = .int .i64 ((k : Int) - 1) ∧ lessP la lb 4 = lessP la lb k ∧ Row wr w.heap.size 42 .u64 la ∧ Row wr (w.heap.size + 1) 42 .u64 lb ∧ Below w.heap.size w wr) (fun i _ => (intOf i + 1).toNat)
  case atStart => exact ⟨4, by omega, rfl, rfl, ha, hb, hB0⟩
  case round =>
    obtain ⟨k, hk, rfl, hP, hra, hrb, hB⟩ := hrel
    clear ha hb hB0
    cases k with
    | zero =>
      go_wp2_with fail
      go_ret
      exact ⟨ret_bool (by rw [hP]; rfl), hB⟩
    | succ k =>
      have e : ((k + 1 : Nat) : Int) - 1 = k := by omega
      rw [e]
      have hk4 : k < 4 := by omega
      have c1 := hra.cell k (by omega)
      have c2 := hrb.cell k (by omega)
      have hn : lessP la lb (k + 1) = if la.getD k 0 = lb.getD k 0 then lessP la lb k else decide (la.getD k 0 < lb.getD k 0) := rfl
      obtain ⟨x, hx⟩ : ∃ x, x = la.getD k 0 := ⟨_, rfl⟩
      obtain ⟨y, hy⟩ : ∃ y, y = lb.getD k 0 := ⟨_, rfl⟩
      rw [← hx] at c1 hn
      rw [← hy] at c2 hn
      rw [hn] at hP
      have HP := Lib.hid hP
      clear hx hy hn hP e
      go_wp2_with fail
      go_quiet (fail)
      by_cases hxy : x = y
      · subst hxy
        have hP : lessP la lb 4 = lessP la lb k := by rw [HP.out, if_pos rfl]
        go_wp2_with fail
        go_roundw
        case rel => exact ⟨k, by omega, by go_num, hP, hra.drewN _, hrb.drewN _, below_drewN' hB _⟩
        case measure => simp [intOf]
      · have hP : Hid (lessP la lb 4 = decide (x < y)) := Lib.hid (by rw [HP.out, if_neg hxy])
        go_wp2_with fail
        go_quiet (fail)
        go_wp2_with fail
        go_ret
        exact ⟨ret_bool (by rw [hP.out]), below_drewN' (below_drewN' hB _) _⟩

/-- Where a number is shifted. -/
theorem upE_first (a : List Int) (n i : Nat) (h : i = n / 64) : upE a n i = IntKind.u64.wrap (a.getD 0 0 * 2 ^ (n % 64)) := by
  unfold upE
  rw [if_neg (by omega), if_pos h]
theorem upE_next (a : List Int) (n i : Nat) (h : n / 64 < i) : upE a n i = Go.bits .or .u64 (IntKind.u64.wrap (a.getD (i - n / 64) 0 * 2 ^ (n % 64))) (a.getD (i - n / 64 - 1) 0 / 2 / 2 ^ (63 - n % 64)) := by
  unfold upE
  rw [if_neg (by omega), if_neg (by omega)]

set_option maxHeartbeats 800000 in
theorem up_any (a0 a1 a2 a3 r0 r1 r2 r3 : Int) (n : Nat) (hn : n < 256) (h : upL [a0, a1, a2, a3] n = [r0, r1, r2, r3]) (w : World) :
    Calls Try.prog 30 #[V4 a0 a1 a2 a3, .int .i64 n] w fun e w' => e = .returned (V4 r0 r1 r2 r3) ∧ Below w.heap.size w w' := by
  have H := Lib.hid h
  clear h
  obtain ⟨q, hq⟩ : ∃ q, q = n / 64 := ⟨_, rfl⟩
  obtain ⟨r, hr⟩ : ∃ r, r = n % 64 := ⟨_, rfl⟩
  have hq' : (n : Int) / 64 = q := by omega
  have hr' : (n : Int) % 64 = r := by omega
  have hq4 : q < 4 := by omega
  have hr4 : r < 64 := by omega
  have HN := Lib.hid (And.intro hq hr)
  clear hq hr
  go_enter Try.func30, Try.ntmps30
  go_wp2_with fail
  obtain ⟨W0, hW0⟩ : ∃ W0, W0 = ((w.alloc (.cells #[.int .u64 a0, .int .u64 a1, .int .u64 a2, .int .u64 a3] 42)).alloc (.cells #[.int .u64 0, .int .u64 0, .int .u64 0, .int .u64 0] 42)).alloc (.cells #[.int .u64 0, .int .u64 0, .int .u64 0, .int .u64 0] 42) := ⟨_, rfl⟩
  obtain ⟨ha, hres, hout, hB0, hz⟩ := rows3 w 42 42 42 .u64 [a0, a1, a2, a3] [0, 0, 0, 0] [0, 0, 0, 0] W0 hW0
  rw [← hW0]
  clear hW0 hz
  obtain ⟨la, hla⟩ : ∃ la, la = [a0, a1, a2, a3] := ⟨_, rfl⟩
  rw [← hla] at ha H
  have hal : la.length = 4 := by rw [hla]; rfl
  clear hla
  go_loopw [6] (fun i wr => ∃ (t : Nat) (L : List Int), q ≤ t ∧ t ≤ 4 ∧ i = .int .i64 t ∧ L.length = 4 ∧ (∀ j, j < t → L.getD j 0 = upE la n j) ∧ Row wr (w.heap.size + 2) 42 .u64 L ∧ Below (w.heap.size + 2) W0 wr) (fun i _ => 4 - (intOf i).toNat)
  case atStart =>
    refine ⟨q, [0, 0, 0, 0], Nat.le_refl _, by omega, rfl, rfl, fun j hj => ?_, hout, Below.refl _ _⟩
    unfold upE
    rw [if_pos (by have := HN.out.1; omega)]
    have : j = 0 ∨ j = 1 ∨ j = 2 ∨ j = 3 := by omega
    rcases this with rfl | rfl | rfl | rfl <;> rfl
  case round =>
    obtain ⟨t, L, ht1, ht2, rfl, hL, hup, hR, hB⟩ := hrel
    clear hout
    have HU := Lib.hid hup
    have HLL := Lib.hid hL
    clear hup
    by_cases hlt : t < 4
    · obtain ⟨kk, hkk⟩ : ∃ kk : Nat, kk = t - q := ⟨_, rfl⟩
      have hk' : (t : Int) - q = kk := by omega
      have hk4 : kk < 4 := by omega
      have HK := Lib.hid hkk
      have ha' := ha.below hB (by omega)
      have c1 := ha'.cell kk (by omega)
      have c2 := hR.cell t (by omega)
      have f2 := hR.frozen t
      obtain ⟨x, hx⟩ : ∃ x, x = la.getD kk 0 := ⟨_, rfl⟩
      rw [← hx] at c1
      have HX := Lib.hid hx
      clear hkk hx hL
      by_cases hk0 : kk = 0
      · subst hk0
        have hv : Hid (upE la n t = IntKind.u64.wrap (x * 2 ^ r)) := Lib.hid (by rw [upE_first _ _ _ (by have := HN.out.1; have := HK.out; omega), ← HN.out.2, HX.out])
        go_wp2_with fail
        go_roundw
        case rel => exact ⟨t + 1, _, by omega, by omega, by go_num, by rw [List.length_set]; exact HLL.out, set_upto HU.out (by rw [HLL.out]; exact hlt) hv.out.symm, hR.set t _, hB.setCell (p := ⟨w.heap.size + 2, t, none⟩) (Nat.le_refl _) _⟩
        case measure => simp [intOf]; omega
      · obtain ⟨k1, hk1⟩ : ∃ k1 : Nat, kk = k1 + 1 := ⟨kk - 1, by omega⟩
        have hk1' : (kk : Int) - 1 = k1 := by omega
        obtain ⟨e, he⟩ : ∃ e : Nat, e = 63 - r := ⟨_, rfl⟩
        have he' : (63 : Int) - r = e := by omega
        have he4 : e < 64 := by omega
        have d1 := ha'.cell k1 (by omega)
        obtain ⟨y, hy⟩ : ∃ y, y = la.getD k1 0 := ⟨_, rfl⟩
        rw [← hy] at d1
        have hv : Hid (upE la n t = Go.bits .or .u64 (IntKind.u64.wrap (x * 2 ^ r)) (y / 2 / 2 ^ e)) := Lib.hid (by
          have h1 := HN.out.1
          have h2 := HK.out
          rw [upE_next _ _ _ (by omega), ← HN.out.2, HX.out, hy, he, show t - n / 64 = kk by omega, show kk - 1 = k1 by omega])
        have hk0' : (0 : Int) < kk := by omega
        have hk14 : k1 < 4 := by omega
        have D1 : (wr.setCell ⟨w.heap.size + 2, t, none⟩ (.int .u64 (IntKind.u64.wrap (x * 2 ^ r)))).cell? ⟨w.heap.size, k1, none⟩ = some (.int .u64 y) := by
          rw [World.cell?_setCell_other _ _ _ _ (by intro h; injection h with h1 _; omega)]; exact d1
        clear hk1 he hy
        go_wp2_with fail
        go_region
        go_wp2_with fail
        go_roundw
        case rel =>
          refine ⟨t + 1, _, by omega, by omega, by go_num, by rw [List.length_set, List.length_set]; exact HLL.out, ?_, ((hR.set t _).set t _).drew, ((hB.setCell (p := ⟨w.heap.size + 2, t, none⟩) (Nat.le_refl _) _).setCell (p := ⟨w.heap.size + 2, t, none⟩) (Nat.le_refl _) _).drew⟩
          rw [List.set_set]
          exact set_upto HU.out (by rw [HLL.out]; exact hlt) hv.out.symm
        case measure => simp [intOf]; omega
    · obtain rfl : t = 4 := by omega
      have e : L = [r0, r1, r2, r3] := by
        rw [← H.out]
        exact list_upto HU.out HLL.out
      subst e
      have hq := hres.below hB (by omega)
      obtain ⟨x0, x1, x2, x3⟩ := hR.four
      obtain ⟨g0, g1, g2, g3⟩ := hq.four
      obtain ⟨f0, f1, f2, f3⟩ := hq.fourF
      have hB' := hB0.trans (hB.mono (by omega))
      clear HU hL HLL
      go_wp2_with fail
      obtain ⟨z0, z1, z2, z3⟩ := (hq.set4 r0 r1 r2 r3).four
      refine bodyPost_ret (v := V4 r0 r1 r2 r3) ?_ rfl ⟨rfl, below_set4 hB' (w.heap.size + 1) (Nat.le_add_right _ _) _ _ _ _⟩
      simp [results, Try.results30, go_sem, z0, z1, z2, z3]

end Go.Proofs.Ytojmbbapcnfibaa
