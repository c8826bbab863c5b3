/- Walks: the document's roots. -/
import Derived.Test.YtojmbbapcnfibaaQ
import Derived.Deep.RegionLaw
namespace Go.Proofs.Ytojmbbapcnfibaa
open Go.RowKit

theorem sumF_length (a b c : List Int) : (sumF a b c).length = 4 := addL_length _ _
theorem upL_length (a : List Int) (n : Nat) : (upL a n).length = 4 := by simp [upL]
theorem rootP_length (a : List Int) (three : Bool) (k : Nat) : (rootP a three k).x.length = 4 ∧ (rootP a three k).sq.length = 4 ∧ (rootP a three k).cu.length = 4 := by
  induction k with
  | zero => exact ⟨rfl, rfl, rfl⟩
  | succ k ih =>
    show (rootStep a three (rootP a three k) (69 - k)).x.length = 4 ∧ (rootStep a three (rootP a three k) (69 - k)).sq.length = 4 ∧ (rootStep a three (rootP a three k) (69 - k)).cu.length = 4
    unfold rootStep
    generalize lessP a (if three then rootCu (rootP a three k) (69 - k) else rootSq (rootP a three k) (69 - k)) 4 = b
    cases b
    · exact ⟨(List.length_set ..).trans ih.1, addL_length _ _, addL_length _ _⟩
    · exact ih
theorem cond4 {W0 : World} {B t : Nat} {k : IntKind} {a b c d : Int} (h : Row W0 B t k [a, b, c, d]) :
    (∀ W, Below W0.heap.size W0 W → W.cell? ⟨B, 0, none⟩ = some (.int k a)) ∧ (∀ W, Below W0.heap.size W0 W → W.cell? ⟨B, 1, none⟩ = some (.int k b)) ∧
    (∀ W, Below W0.heap.size W0 W → W.cell? ⟨B, 2, none⟩ = some (.int k c)) ∧ (∀ W, Below W0.heap.size W0 W → W.cell? ⟨B, 3, none⟩ = some (.int k d)) :=
  ⟨fun _ hW => (h.below hW h.lt).four.1, fun _ hW => (h.below hW h.lt).four.2.1, fun _ hW => (h.below hW h.lt).four.2.2.1, fun _ hW => (h.below hW h.lt).four.2.2.2⟩

/-- A row of noughts that the region itself has made. -/
structure Fresh (W : World) (B : Nat) : Prop where
  row : Row W B 42 .u64 [0, 0, 0, 0]
theorem Row.born {W W' : World} (h : Below (W.alloc (.cells #[.int .u64 0, .int .u64 0, .int .u64 0, .int .u64 0] 42)).heap.size (W.alloc (.cells #[.int .u64 0, .int .u64 0, .int .u64 0, .int .u64 0] 42)) W') : Row W' W.heap.size 42 .u64 [0, 0, 0, 0] :=
  (Row.new W 42 .u64 [0, 0, 0, 0]).below h (Row.new W 42 .u64 [0, 0, 0, 0]).lt
theorem Row.bornD {W W' : World} (h : Below (W.alloc (.cells #[.int .u64 0, .int .u64 0, .int .u64 0, .int .u64 0] 42)).drew.heap.size (W.alloc (.cells #[.int .u64 0, .int .u64 0, .int .u64 0, .int .u64 0] 42)).drew W') : Row W' W.heap.size 42 .u64 [0, 0, 0, 0] :=
  ((Row.new W 42 .u64 [0, 0, 0, 0]).drew).below h ((Row.new W 42 .u64 [0, 0, 0, 0]).drew).lt
theorem Row.carry {W W' : World} {B : Nat} (hr : Row W B 42 .u64 [0, 0, 0, 0]) (h : Below W.heap.size W W') : Row W' B 42 .u64 [0, 0, 0, 0] := hr.below h hr.lt

theorem Row.other4 {W : World} {b c t : Nat} {k : IntKind} {l : List Int} (h : Row W b t k l) (hn : b ≠ c) (v0 v1 v2 v3 : Value) :
    Row ((((W.setCell ⟨c, 0, none⟩ v0).setCell ⟨c, 1, none⟩ v1).setCell ⟨c, 2, none⟩ v2).setCell ⟨c, 3, none⟩ v3) b t k l :=
  (((h.other (a := ⟨c, 0, none⟩) hn v0).other (a := ⟨c, 1, none⟩) hn v1).other (a := ⟨c, 2, none⟩) hn v2).other (a := ⟨c, 3, none⟩) hn v3
theorem cond4F {W0 : World} {B t : Nat} {k : IntKind} {l : List Int} (h : Row W0 B t k l) :
    (∀ W, Below W0.heap.size W0 W → W.frozen? ⟨B, 0, none⟩ = false) ∧ (∀ W, Below W0.heap.size W0 W → W.frozen? ⟨B, 1, none⟩ = false) ∧
    (∀ W, Below W0.heap.size W0 W → W.frozen? ⟨B, 2, none⟩ = false) ∧ (∀ W, Below W0.heap.size W0 W → W.frozen? ⟨B, 3, none⟩ = false) :=
  ⟨fun _ hW => (h.below hW h.lt).fourF.1, fun _ hW => (h.below hW h.lt).fourF.2.1, fun _ hW => (h.below hW h.lt).fourF.2.2.1, fun _ hW => (h.below hW h.lt).fourF.2.2.2⟩

/-- Three times. -/
def cubeI (c p q : List Int) : Nat → List Int
  | 0 => c
  | k + 1 => sumF (cubeI c p q k) p q
theorem cubeI_length (c p q : List Int) (h : c.length = 4) (k : Nat) : (cubeI c p q k).length = 4 := by
  cases k with
  | zero => exact h
  | succ k => exact sumF_length _ _ _

theorem rootSq_eq (s : RootS) (i : Nat) {X Q U V S : List Int} (hx : s.x = X) (hq : s.sq = Q) (hu : upL X (i + 1) = U) (hv : upL [1, 0, 0, 0] (2 * i) = V) (hs : sumF Q U V = S) : rootSq s i = S := by
  subst hx hq hu hv hs; rfl
theorem rootCu_eq (s : RootS) (i : Nat) {X Q C P M O D E : List Int} (hx : s.x = X) (hq : s.sq = Q) (hc : s.cu = C) (hp : upL Q i = P) (hm : upL X (2 * i) = M) (hd : cubeI C P M 3 = D) (ho : upL [1, 0, 0, 0] (3 * i) = O) (he : addL D O = E) : rootCu s i = E := by
  subst hx hq hc hp hm hd ho he; rfl
theorem rootStep_eq (a : List Int) (three : Bool) (s : RootS) (i : Nat) {X S E : List Int} (hx : s.x = X) (h1 : rootSq s i = S) (h2 : rootCu s i = E) (P : List Int) (hP : (if three then E else S) = P) :
    rootStep a three s i = if lessP a P 4 then s else ⟨X.set (i / 64) (Go.bits .or .u64 (X.getD (i / 64) 0) (IntKind.u64.wrap (2 ^ (i % 64)))), S, E⟩ := by
  subst hx h1 h2 hP; rfl
theorem rootP_next (a : List Int) (three : Bool) (s : RootS) (i : Nat) (hi : i < 70) (h : rootP a three (70 - (i + 1)) = s) : rootP a three (70 - i) = rootStep a three s i := by
  subst h
  obtain ⟨m, rfl⟩ : ∃ m, i = 69 - m := ⟨69 - i, by omega⟩
  by_cases hm : m ≤ 69
  · rw [show 70 - (69 - m) = m + 1 by omega, show 70 - (69 - m + 1) = m by omega]; rfl
  · rw [show 70 - (69 - m) = 69 + 1 by omega, show 70 - (69 - m + 1) = 69 by omega, show 69 - m = 0 by omega]; rfl

set_option maxHeartbeats 1600000 in
theorem root_any (a0 a1 a2 a3 : Int) (pw : Int) (three : Bool) (h3 : three = decide (pw = 3)) (r0 r1 r2 r3 : Int) (h : (rootP [a0, a1, a2, a3] three 70).x = [r0, r1, r2, r3]) (w : World) :
    Calls Try.prog 18 #[V4 a0 a1 a2 a3, .int .i64 pw] w fun e w' => e = .returned (V4 r0 r1 r2 r3) ∧ Below w.heap.size w w' := by
  have H := Lib.hid h
  have H3 := Lib.hid h3
  clear h h3
  go_enter Try.func18, Try.ntmps18
  go_wp2_with fail
  obtain ⟨W1, hW1⟩ : ∃ W1, W1 = ((w.alloc (.cells #[.int .u64 a0, .int .u64 a1, .int .u64 a2, .int .u64 a3] 42)).alloc (.cells #[.int .u64 0, .int .u64 0, .int .u64 0, .int .u64 0] 42)).alloc (.cells #[.int .u64 0, .int .u64 0, .int .u64 0, .int .u64 0] 42) := ⟨_, rfl⟩
  obtain ⟨ha1, hres1, hx1, hB1, hz1⟩ := rows3 w 42 42 42 .u64 [a0, a1, a2, a3] [0, 0, 0, 0] [0, 0, 0, 0] W1 hW1
  rw [← hW1]
  obtain ⟨W0, hW0⟩ : ∃ W0, W0 = ((W1.alloc (.cells #[.int .u64 0, .int .u64 0, .int .u64 0, .int .u64 0] 42)).alloc (.cells #[.int .u64 0, .int .u64 0, .int .u64 0, .int .u64 0] 42)).alloc (.cells #[.int .u64 1, .int .u64 0, .int .u64 0, .int .u64 0] 42) := ⟨_, rfl⟩
  obtain ⟨hsq0, hcu0, hone0, hB2, hz2⟩ := rows3 W1 42 42 42 .u64 [0, 0, 0, 0] [0, 0, 0, 0] [1, 0, 0, 0] W0 hW0
  rw [hz1] at hsq0 hcu0 hone0
  replace hcu0 : Row W0 (w.heap.size + 4) 42 .u64 [0, 0, 0, 0] := hcu0
  replace hone0 : Row W0 (w.heap.size + 5) 42 .u64 [1, 0, 0, 0] := hone0
  have ha0 := ha1.below hB2 ha1.lt
  have hres0 := hres1.below hB2 hres1.lt
  have hx0 := hx1.below hB2 hx1.lt
  have hB0 := below_trans' hB1 hB2
  have hz0 : W0.heap.size = w.heap.size + 6 := by omega
  rw [← hW0]
  clear hW0 hW1 ha1 hres1 hx1 hB1 hB2 hz1 hz2 W1
  go_loopw [9] (fun i wr => ∃ (k : Nat) (s : RootS), k ≤ 70 ∧ i = .int .i64 ((k : Int) - 1) ∧ rootP [a0, a1, a2, a3] three (70 - k) = s ∧ Row wr w.heap.size 42 .u64 [a0, a1, a2, a3] ∧ Row wr (w.heap.size + 1) 42 .u64 [0, 0, 0, 0] ∧ Row wr (w.heap.size + 2) 42 .u64 s.x ∧ Row wr (w.heap.size + 3) 42 .u64 s.sq ∧ Row wr (w.heap.size + 4) 42 .u64 s.cu ∧ Row wr (w.heap.size + 5) 42 .u64 [1, 0, 0, 0] ∧ Below w.heap.size w wr) (fun i _ => (intOf i + 1).toNat)
  case atStart => exact ⟨70, ⟨[0, 0, 0, 0], [0, 0, 0, 0], [0, 0, 0, 0]⟩, by omega, rfl, rfl, ha0, hres0, hx0, hsq0, hcu0, hone0, hB0⟩
  case round =>
    obtain ⟨k, s, hk, rfl, hs, ha, hres, hx, hsq, hcu, hone, hB⟩ := hrel
    clear ha0 hres0 hx0 hsq0 hcu0 hone0 hB0 hz0 W0
    obtain ⟨l1, l2, l3⟩ := rootP_length [a0, a1, a2, a3] three (70 - k)
    rw [hs] at l1 l2 l3
    obtain ⟨x0, x1, x2, x3, hxs⟩ := four s.x l1
    obtain ⟨q0, q1, q2, q3, hqs⟩ := four s.sq l2
    obtain ⟨c0, c1, c2, c3, hcs⟩ := four s.cu l3
    rw [hxs] at hx
    rw [hqs] at hsq
    rw [hcs] at hcu
    have HS := Lib.hid hs
    have HXS := Lib.hid hxs
    have HQS := Lib.hid hqs
    have HCS := Lib.hid hcs
    clear hs hxs hqs hcs l1 l2 l3
    cases k with
    | zero =>
      have e : [x0, x1, x2, x3] = [r0, r1, r2, r3] := by rw [← HXS.out, ← HS.out]; exact H.out
      rw [e] at hx
      obtain ⟨z0, z1, z2, z3⟩ := hx.four
      obtain ⟨g0, g1, g2, g3⟩ := hres.four
      obtain ⟨f0, f1, f2, f3⟩ := hres.fourF
      clear e hsq hcu hone ha HXS HQS HCS HS
      go_wp2_with fail
      obtain ⟨k0, k1, k2, k3⟩ := (hres.set4 r0 r1 r2 r3).four
      refine bodyPost_ret (v := V4 r0 r1 r2 r3) ?_ rfl ⟨rfl, below_set4 hB (w.heap.size + 1) (Nat.le_add_right _ _) _ _ _ _⟩
      simp [results, Try.results18, go_sem, k0, k1, k2, k3]
    | succ i =>
      have e : ((i + 1 : Nat) : Int) - 1 = i := by omega
      rw [e]
      clear e
      obtain ⟨i1, hi1⟩ : ∃ i1 : Nat, i1 = i + 1 := ⟨_, rfl⟩
      obtain ⟨i2, hi2⟩ : ∃ i2 : Nat, i2 = 2 * i := ⟨_, rfl⟩
      obtain ⟨i3, hi3⟩ : ∃ i3 : Nat, i3 = 3 * i := ⟨_, rfl⟩
      have hi1' : (i : Int) + 1 = i1 := by omega
      have hi2' : 2 * (i : Int) = i2 := by omega
      have hi3' : 3 * (i : Int) = i3 := by omega
      have b1 : i1 < 256 := by omega
      have b2 : i2 < 256 := by omega
      have b3 : i3 < 256 := by omega
      have b0 : i < 70 := by omega
      have HI := Lib.hid (And.intro hi1 (And.intro hi2 hi3))
      clear hi1 hi2 hi3
      have w1 : IntKind.i64.wrap (i1 : Int) = i1 := by rw [IntKind.wrap_i64]; omega
      have w2 : IntKind.i64.wrap (i2 : Int) = i2 := by rw [IntKind.wrap_i64]; omega
      have w3 : IntKind.i64.wrap (i3 : Int) = i3 := by rw [IntKind.wrap_i64]; omega
      obtain ⟨u0, u1, u2, u3, hu⟩ := four (upL [x0, x1, x2, x3] i1) (upL_length _ _)
      obtain ⟨v0, v1, v2, v3, hv⟩ := four (upL [1, 0, 0, 0] i2) (upL_length _ _)
      obtain ⟨s0, s1, s2, s3, hsu⟩ := four (sumF [q0, q1, q2, q3] [u0, u1, u2, u3] [v0, v1, v2, v3]) (sumF_length _ _ _)
      have HU := Lib.hid (up_any x0 x1 x2 x3 u0 u1 u2 u3 i1 b1 hu)
      have HV := Lib.hid (up_any 1 0 0 0 v0 v1 v2 v3 i2 b2 hv)
      have HSU := Lib.hid (rsum_any q0 q1 q2 q3 u0 u1 u2 u3 v0 v1 v2 v3 s0 s1 s2 s3 hsu)
      have HE1 := Lib.hid (And.intro hu (And.intro hv hsu))
      clear hu hv hsu
      obtain ⟨y0, y1, y2, y3⟩ := cond4 hx
      obtain ⟨y4, y5, y6, y7⟩ := cond4 hsq
      obtain ⟨y8, y9, y10, y11⟩ := cond4 hone
      go_upto_region 6 with fail
      go_cut [10] (fun p W => ∃ B, p = .pointer (some ⟨B, 0, none⟩) ∧ wr.heap.size ≤ B ∧ Row W B 42 .u64 [s0, s1, s2, s3] ∧ Below wr.heap.size wr W)
      case first =>
        go_region_held3 (fun W => Below wr.heap.size wr W) (first | exact (Below.refl _ _).drew | assumption | exact below_alloc' (by assumption) _ | exact below_set4 (by assumption) _ (by first | exact Nat.le_refl _ | exact Below.size (by assumption)) _ _ _ _) (first | (go_at_call 30; with_reducible refine Calls.mono (HU.out _) ?_; rintro e wA ⟨rfl, hbA⟩; (first | (have hrow := Row.carry (by assumption) hbA; obtain ⟨g0, g1, g2, g3⟩ := hrow.four; obtain ⟨f0, f1, f2, f3⟩ := hrow.fourF; have hrw := hrow.lt) | (have hrow := Row.bornD hbA; obtain ⟨g0, g1, g2, g3⟩ := hrow.four; obtain ⟨f0, f1, f2, f3⟩ := hrow.fourF; have hrw := hrow.lt) | (have hrow := Row.born hbA; obtain ⟨g0, g1, g2, g3⟩ := hrow.four; obtain ⟨f0, f1, f2, f3⟩ := hrow.fourF; have hrw := hrow.lt) | skip); have hbA' := below_trans' (by assumption) hbA; clear hbA) | (go_at_call 30; with_reducible refine Calls.mono (HV.out _) ?_; rintro e wA ⟨rfl, hbA⟩; (first | (have hrow := Row.carry (by assumption) hbA; obtain ⟨g0, g1, g2, g3⟩ := hrow.four; obtain ⟨f0, f1, f2, f3⟩ := hrow.fourF; have hrw := hrow.lt) | (have hrow := Row.bornD hbA; obtain ⟨g0, g1, g2, g3⟩ := hrow.four; obtain ⟨f0, f1, f2, f3⟩ := hrow.fourF; have hrw := hrow.lt) | (have hrow := Row.born hbA; obtain ⟨g0, g1, g2, g3⟩ := hrow.four; obtain ⟨f0, f1, f2, f3⟩ := hrow.fourF; have hrw := hrow.lt) | skip); have hbA' := below_trans' (by assumption) hbA; clear hbA) | (go_at_call 29; with_reducible refine Calls.mono (HSU.out _) ?_; rintro e wA ⟨rfl, hbA⟩; (first | (have hrow := Row.carry (by assumption) hbA; obtain ⟨g0, g1, g2, g3⟩ := hrow.four; obtain ⟨f0, f1, f2, f3⟩ := hrow.fourF; have hrw := hrow.lt) | (have hrow := Row.bornD hbA; obtain ⟨g0, g1, g2, g3⟩ := hrow.four; obtain ⟨f0, f1, f2, f3⟩ := hrow.fourF; have hrw := hrow.lt) | (have hrow := Row.born hbA; obtain ⟨g0, g1, g2, g3⟩ := hrow.four; obtain ⟨f0, f1, f2, f3⟩ := hrow.fourF; have hrw := hrow.lt) | skip); have hbA' := below_trans' (by assumption) hbA; clear hbA))
        all_goals (go_wp2_with fail; go_meet; first | exact ⟨_, rfl, Below.size (by assumption), Row.new _ 42 .u64 [s0, s1, s2, s3], by assumption⟩ | exact ⟨_, rfl, by first | exact Nat.le_refl _ | exact Below.size (by assumption), Row.set4 (by assumption) s0 s1 s2 s3, by assumption⟩)
      case rest =>
        obtain ⟨B10, rfl, hB10, hr10, hbc⟩ := hcut
        clear HU HV HSU y0 y1 y2 y3 y4 y5 y6 y7 y8 y9 y10 y11
        have hcu1 := hcu.below hbc hcu.lt
        obtain ⟨z0, z1, z2, z3⟩ := hcu1.four
        go_wp2_with fail
        have hB11 : Row (wc.alloc (.cells #[.int .u64 c0, .int .u64 c1, .int .u64 c2, .int .u64 c3] 42)) wc.heap.size 42 .u64 (cubeI [c0, c1, c2, c3] [] [] 0) := Row.new wc 42 .u64 [c0, c1, c2, c3]
        have hr10' := hr10.alloc (.cells #[.int .u64 c0, .int .u64 c1, .int .u64 c2, .int .u64 c3] 42)
        have hbc' := below_alloc' hbc (.cells #[.int .u64 c0, .int .u64 c1, .int .u64 c2, .int .u64 c3] 42)
        obtain ⟨p0, p1, p2, p3, hp⟩ := four (upL [q0, q1, q2, q3] i) (upL_length _ _)
        obtain ⟨m0, m1, m2, m3, hm⟩ := four (upL [x0, x1, x2, x3] i2) (upL_length _ _)
        have HPU := Lib.hid (up_any q0 q1 q2 q3 p0 p1 p2 p3 i (by omega) hp)
        have HMU := Lib.hid (up_any x0 x1 x2 x3 m0 m1 m2 m3 i2 b2 hm)
        have HE2 := Lib.hid (And.intro hp hm)
        have h11 : wr.heap.size ≤ wc.heap.size := hbc.size
        have h1011 : B10 < wc.heap.size := hr10.lt
        generalize wc.heap.size = B11 at hB11 h11 h1011 ⊢
        generalize wc.alloc (.cells #[.int .u64 c0, .int .u64 c1, .int .u64 c2, .int .u64 c3] 42) = W7 at hB11 hr10' hbc' ⊢
        clear hcu1 z0 z1 z2 z3 hr10 hbc hp hm
        obtain ⟨wo, rfl⟩ : ∃ wo : World, wo = wr := ⟨_, rfl⟩
        go_loopw [12] (fun y wv => ∃ j : Nat, j ≤ 3 ∧ y = .int .i64 j ∧ Row wv B11 42 .u64 (cubeI [c0, c1, c2, c3] [p0, p1, p2, p3] [m0, m1, m2, m3] j) ∧ Row wv B10 42 .u64 [s0, s1, s2, s3] ∧ Below wo.heap.size wo wv) (fun y _ => 3 - (intOf y).toNat)
        case atStart => exact ⟨0, by omega, rfl, hB11, hr10', hbc'⟩
        case round =>
          obtain ⟨j, hj, rfl, hr11, hr10, hbv⟩ := hrel
          clear hB11 hr10' hbc'
          obtain ⟨d0, d1, d2, d3, hd⟩ := four (cubeI [c0, c1, c2, c3] [p0, p1, p2, p3] [m0, m1, m2, m3] j) (cubeI_length _ _ _ rfl _)
          rw [hd] at hr11
          have HD := Lib.hid hd
          clear hd
          by_cases hlt : j < 3
          · obtain ⟨n0, n1, n2, n3, hn⟩ := four (sumF [d0, d1, d2, d3] [p0, p1, p2, p3] [m0, m1, m2, m3]) (sumF_length _ _ _)
            have HNU := Lib.hid (rsum_any d0 d1 d2 d3 p0 p1 p2 p3 m0 m1 m2 m3 n0 n1 n2 n3 hn)
            have HE3 : Hid (cubeI [c0, c1, c2, c3] [p0, p1, p2, p3] [m0, m1, m2, m3] (j + 1) = [n0, n1, n2, n3]) := Lib.hid (by show sumF _ _ _ = _; rw [HD.out]; exact hn)
            clear hn
            obtain ⟨y0, y1, y2, y3⟩ := cond4 hx
            obtain ⟨y4, y5, y6, y7⟩ := cond4 hsq
            obtain ⟨y8, y9, y10, y11⟩ := cond4 hr11
            obtain ⟨y12, y13, y14, y15⟩ := cond4F hr11
            have hself : Below wr.heap.size wr wr.drew := (Below.refl _ _).drew
            have hselfo : Below wo.heap.size wo wr.drew := hbv.drew
            clear ha hres hone hB H HS HXS HQS HCS HE1 HE2 HI hcu HD
            go_wp2_with fail
            go_region_law ((go_simp; first | (go_at_call 30; with_reducible refine Calls.mono (HPU.out _) ?_; rintro e wA ⟨rfl, hbA⟩; have hbA' := below_trans' (h := (by assumption : Below wo.heap.size wo _)) hbA; have hbB := below_trans' (h := (by assumption : Below wr.heap.size wr _)) hbA; clear hbA; go_simp) | (go_at_call 30; with_reducible refine Calls.mono (HMU.out _) ?_; rintro e wA ⟨rfl, hbA⟩; have hbA' := below_trans' (h := (by assumption : Below wo.heap.size wo _)) hbA; have hbB := below_trans' (h := (by assumption : Below wr.heap.size wr _)) hbA; clear hbA; go_simp) | (go_at_call 29; with_reducible refine Calls.mono (HNU.out _) ?_; rintro e wA ⟨rfl, hbA⟩; have hbA' := below_trans' (h := (by assumption : Below wo.heap.size wo _)) hbA; have hbB := below_trans' (h := (by assumption : Below wr.heap.size wr _)) hbA; clear hbA; go_simp)))
            all_goals (go_wp2_with fail; go_roundw)
            all_goals first
              | exact ⟨j + 1, by omega, by go_num, by rw [HE3.out]; exact Row.set4 (hr11.below (by assumption) hr11.lt) n0 n1 n2 n3, Row.other4 (hr10.below (by assumption) hr10.lt) (Nat.ne_of_lt h1011) _ _ _ _, below_set4 (by assumption) B11 (by assumption) _ _ _ _⟩
              | (simp [intOf]; omega)
          · obtain rfl : j = 3 := by omega
            obtain ⟨o0, o1, o2, o3, ho⟩ := four (upL [1, 0, 0, 0] i3) (upL_length _ _)
            obtain ⟨e0, e1, e2, e3, he⟩ := four (addL [d0, d1, d2, d3] [o0, o1, o2, o3]) (addL_length _ _)
            have HOU := Lib.hid (up_any 1 0 0 0 o0 o1 o2 o3 i3 b3 ho)
            have HEU := Lib.hid (add_all d0 d1 d2 d3 o0 o1 o2 o3 e0 e1 e2 e3 he)
            have HE4 := Lib.hid (And.intro ho he)
            clear ho he
            go_upto_region 12 with fail
            go_cut [] (fun W => Row W B11 42 .u64 [e0, e1, e2, e3] ∧ Row W B10 42 .u64 [s0, s1, s2, s3] ∧ Below wo.heap.size wo W)
            case first =>
              obtain ⟨y0, y1, y2, y3⟩ := cond4 hone
              obtain ⟨y8, y9, y10, y11⟩ := cond4 hr11
              obtain ⟨y12, y13, y14, y15⟩ := cond4F hr11
              have hself : Below wr.heap.size wr wr.drew := (Below.refl _ _).drew
              have hselfo : Below wo.heap.size wo wr.drew := hbv.drew
              clear ha hres hx hsq hB H HS HXS HQS HCS HE1 HE2 HI hcu HD HE4
              go_region_law ((go_simp; first | (go_at_call 30; with_reducible refine Calls.mono (HOU.out _) ?_; rintro e wA ⟨rfl, hbA⟩; have hbA' := below_trans' (h := (by assumption : Below wo.heap.size wo _)) hbA; have hbB := below_trans' (h := (by assumption : Below wr.heap.size wr _)) hbA; clear hbA; go_simp) | (go_at_call 31; with_reducible refine Calls.mono (HEU.out _) ?_; rintro e wA ⟨_, rfl, hbA⟩; have hbA' := below_trans' (h := (by assumption : Below wo.heap.size wo _)) hbA; have hbB := below_trans' (h := (by assumption : Below wr.heap.size wr _)) hbA; clear hbA; go_simp)))
              all_goals (go_wp2_with fail; go_meet; exact ⟨Row.set4 (hr11.below (by assumption) hr11.lt) e0 e1 e2 e3, Row.other4 (hr10.below (by assumption) hr10.lt) (Nat.ne_of_lt h1011) _ _ _ _, below_set4 (by assumption) B11 (by assumption) _ _ _ _⟩)
            case rest =>
              obtain ⟨hr11', hr10', hbv'⟩ := hcut
              clear hr11 hr10 hbv HOU HEU
              obtain ⟨z0, z1, z2, z3⟩ := hr10'.four
              obtain ⟨z4, z5, z6, z7⟩ := (hr11'.alloc (.cells #[.int .u64 s0, .int .u64 s1, .int .u64 s2, .int .u64 s3] 42)).four
              by_cases hpw : pw = 3
              · have h3 : three = true := by rw [H3.out]; exact decide_eq_true hpw
                obtain rfl : pw = 3 := hpw
                go_upto_region 16 with fail
                obtain ⟨W9, hW9⟩ : ∃ W9, W9 = wc.alloc (.cells #[.int .u64 e0, .int .u64 e1, .int .u64 e2, .int .u64 e3] 42) := ⟨_, rfl⟩
                have hP : Row W9 wc.heap.size 42 .u64 [e0, e1, e2, e3] := by rw [hW9]; exact Row.new wc 42 .u64 [e0, e1, e2, e3]
                have hb9 : Below wc.heap.size wc W9 := by rw [hW9]; exact below_alloc' (Below.refl _ _) _
                rw [← hW9]
                have hbv9 := below_trans' hbv' hb9
                have h11'' := hr11'.below hb9 hr11'.lt
                have h10'' := hr10'.below hb9 hr10'.lt
                have ha9 := ha.below hbv9 ha.lt
                clear hW9 hb9 z0 z1 z2 z3 z4 z5 z6 z7
                obtain ⟨z0, z1, z2, z3⟩ := ha9.four
                obtain ⟨z4, z5, z6, z7⟩ := hP.four
                have hst : Hid (rootP [a0, a1, a2, a3] three (70 - i) = if lessP [a0, a1, a2, a3] [e0, e1, e2, e3] 4 then s else ⟨[x0, x1, x2, x3].set (i / 64) (Go.bits .or .u64 ([x0, x1, x2, x3].getD (i / 64) 0) (IntKind.u64.wrap (2 ^ (i % 64)))), [s0, s1, s2, s3], [e0, e1, e2, e3]⟩) := Lib.hid (by
                  rw [rootP_next _ _ _ _ b0 HS.out]
                  have e1' : rootSq s i = [s0, s1, s2, s3] := rootSq_eq s i HXS.out HQS.out (HI.out.1 ▸ HE1.out.1) (HI.out.2.1 ▸ HE1.out.2.1) HE1.out.2.2
                  have e2' : rootCu s i = [e0, e1, e2, e3] := rootCu_eq s i HXS.out HQS.out HCS.out HE2.out.1 (HI.out.2.1 ▸ HE2.out.2) HD.out (HI.out.2.2 ▸ HE4.out.1) HE4.out.2
                  exact rootStep_eq _ _ s i HXS.out e1' e2' _ (by rw [h3]; rfl))
                have H3' := Lib.hid h3
                clear h3
                go_wp2_with fail
                refine (less_any a0 a1 a2 a3 e0 e1 e2 e3 _).mono ?_
                rintro e wL ⟨rfl, hbL⟩
                obtain ⟨lb, hlb⟩ : ∃ lb, lb = lessP [a0, a1, a2, a3] [e0, e1, e2, e3] 4 := ⟨_, rfl⟩
                rw [← hlb] at hst ⊢
                have hbo := below_trans' hbv9 hbL
                have g11 := h11''.below hbL h11''.lt
                have g10 := h10''.below hbL h10''.lt
                have ga := ha.below hbo ha.lt
                have gres := hres.below hbo hres.lt
                have gx := hx.below hbo hx.lt
                have gsq := hsq.below hbo hsq.lt
                have gcu := hcu.below hbo hcu.lt
                have gone := hone.below hbo hone.lt
                have gB : Below w.heap.size w wL := below_trans' hB hbo
                clear hbL h11'' h10'' hlb z0 z1 z2 z3 z4 z5 z6 z7 ha9 hP hbv9 hr11' hr10' hbv' hbo
                cases lb
                · have hst' : Hid (rootP [a0, a1, a2, a3] three (70 - i) = ⟨[x0, x1, x2, x3].set (i / 64) (Go.bits .or .u64 ([x0, x1, x2, x3].getD (i / 64) 0) (IntKind.u64.wrap (2 ^ (i % 64)))), [s0, s1, s2, s3], [e0, e1, e2, e3]⟩) := Lib.hid (by rw [hst.out]; rfl)
                  clear hst
                  obtain ⟨q, hq⟩ : ∃ q, q = i / 64 := ⟨_, rfl⟩
                  obtain ⟨r, hr⟩ : ∃ r, r = i % 64 := ⟨_, rfl⟩
                  have hq' : (i : Int) / 64 = q := by omega
                  have hr' : (i : Int) % 64 = r := by omega
                  have hq4 : q < 4 := by omega
                  have hr4 : r < 64 := by omega
                  rw [← hq, ← hr] at hst'
                  have cx := gx.cell q hq4
                  have fx := gx.frozen q
                  obtain ⟨xq, hxq⟩ : ∃ xq, xq = [x0, x1, x2, x3].getD q 0 := ⟨_, rfl⟩
                  rw [← hxq] at cx hst'
                  clear hq hr hxq
                  have l1 := hx.lt
                  have l2 := hsq.lt
                  have l3 := hcu.lt
                  obtain ⟨V, hV⟩ : ∃ V, V = Go.bits .or .u64 xq (IntKind.u64.wrap (2 ^ r)) := ⟨_, rfl⟩
                  have G10 := g10.other (a := ⟨w.heap.size + 2, q, none⟩) (by show B10 ≠ w.heap.size + 2; omega) (.int .u64 V)
                  have Gsq := gsq.other (a := ⟨w.heap.size + 2, q, none⟩) (by show w.heap.size + 3 ≠ w.heap.size + 2; omega) (.int .u64 V)
                  have G11 := (g11.other (a := ⟨w.heap.size + 2, q, none⟩) (by show B11 ≠ w.heap.size + 2; omega) (.int .u64 V)).other4 (c := w.heap.size + 3) (by omega) (.int .u64 s0) (.int .u64 s1) (.int .u64 s2) (.int .u64 s3)
                  have Gcu := (gcu.other (a := ⟨w.heap.size + 2, q, none⟩) (by show w.heap.size + 4 ≠ w.heap.size + 2; omega) (.int .u64 V)).other4 (c := w.heap.size + 3) (by omega) (.int .u64 s0) (.int .u64 s1) (.int .u64 s2) (.int .u64 s3)
                  obtain ⟨z0, z1, z2, z3⟩ := G10.four
                  obtain ⟨z4, z5, z6, z7⟩ := Gsq.four
                  obtain ⟨f4, f5, f6, f7⟩ := Gsq.fourF
                  obtain ⟨z8, z9, z10, z11⟩ := G11.four
                  obtain ⟨z12, z13, z14, z15⟩ := Gcu.four
                  obtain ⟨f12, f13, f14, f15⟩ := Gcu.fourF
                  subst hV
                  go_wp2_with fail
                  go_region
                  go_wp2_with fail
                  go_roundw
                  case rel =>
                    have keep : ∀ {b t : Nat} {l : List Int}, Row wL b t .u64 l → b < w.heap.size + 2 ∨ b = w.heap.size + 5 → Row ((((((((wL.setCell ⟨w.heap.size + 2, q, none⟩ (.int .u64 (Go.bits .or .u64 xq (IntKind.u64.wrap (2 ^ r))))).setCell ⟨w.heap.size + 3, 0, none⟩ (.int .u64 s0)).setCell ⟨w.heap.size + 3, 1, none⟩ (.int .u64 s1)).setCell ⟨w.heap.size + 3, 2, none⟩ (.int .u64 s2)).setCell ⟨w.heap.size + 3, 3, none⟩ (.int .u64 s3)).setCell ⟨w.heap.size + 4, 0, none⟩ (.int .u64 e0)).setCell ⟨w.heap.size + 4, 1, none⟩ (.int .u64 e1)).setCell ⟨w.heap.size + 4, 2, none⟩ (.int .u64 e2) |>.setCell ⟨w.heap.size + 4, 3, none⟩ (.int .u64 e3)).drew b t .u64 l :=
                      fun {b t l} h hb => ((((h.other (a := ⟨w.heap.size + 2, q, none⟩) (by show b ≠ w.heap.size + 2; omega) _).other4 (c := w.heap.size + 3) (by omega) _ _ _ _).other4 (c := w.heap.size + 4) (by omega) _ _ _ _).drew)
                    exact ⟨i, ⟨[x0, x1, x2, x3].set q (Go.bits .or .u64 xq (IntKind.u64.wrap (2 ^ r))), [s0, s1, s2, s3], [e0, e1, e2, e3]⟩, by omega, by go_num, hst'.out, keep ga (by omega), keep gres (by omega),
                      (((gx.set q _).other4 (c := w.heap.size + 3) (by omega) _ _ _ _).other4 (c := w.heap.size + 4) (by omega) _ _ _ _).drew,
                      ((Gsq.set4 s0 s1 s2 s3).other4 (c := w.heap.size + 4) (by omega) _ _ _ _).drew, (Gcu.set4 e0 e1 e2 e3).drew, keep gone (by omega),
                      (below_set4 (below_set4 (gB.setCell (p := ⟨w.heap.size + 2, q, none⟩) (Nat.le_add_right _ _) _) (w.heap.size + 3) (Nat.le_add_right _ _) _ _ _ _) (w.heap.size + 4) (Nat.le_add_right _ _) _ _ _ _).drew⟩
                  case measure => simp [intOf]
                · have hst' : Hid (rootP [a0, a1, a2, a3] three (70 - i) = s) := Lib.hid (by rw [hst.out]; rfl)
                  clear hst
                  rw [← HXS.out] at gx
                  rw [← HQS.out] at gsq
                  rw [← HCS.out] at gcu
                  go_wp2_with fail
                  go_roundw
                  case rel =>
                    exact ⟨i, s, by omega, by go_num, hst'.out, ga, gres, gx, gsq, gcu, gone, gB⟩
                  case measure => simp [intOf]
              · have h3 : three = false := by rw [H3.out]; exact decide_eq_false hpw
                go_upto_region 16 with fail
                obtain ⟨W9, hW9⟩ : ∃ W9, W9 = wc.alloc (.cells #[.int .u64 s0, .int .u64 s1, .int .u64 s2, .int .u64 s3] 42) := ⟨_, rfl⟩
                have hP : Row W9 wc.heap.size 42 .u64 [s0, s1, s2, s3] := by rw [hW9]; exact Row.new wc 42 .u64 [s0, s1, s2, s3]
                have hb9 : Below wc.heap.size wc W9 := by rw [hW9]; exact below_alloc' (Below.refl _ _) _
                rw [← hW9]
                have hbv9 := below_trans' hbv' hb9
                have h11'' := hr11'.below hb9 hr11'.lt
                have h10'' := hr10'.below hb9 hr10'.lt
                have ha9 := ha.below hbv9 ha.lt
                clear hW9 hb9 z0 z1 z2 z3 z4 z5 z6 z7
                obtain ⟨z0, z1, z2, z3⟩ := ha9.four
                obtain ⟨z4, z5, z6, z7⟩ := hP.four
                have hst : Hid (rootP [a0, a1, a2, a3] three (70 - i) = if lessP [a0, a1, a2, a3] [s0, s1, s2, s3] 4 then s else ⟨[x0, x1, x2, x3].set (i / 64) (Go.bits .or .u64 ([x0, x1, x2, x3].getD (i / 64) 0) (IntKind.u64.wrap (2 ^ (i % 64)))), [s0, s1, s2, s3], [e0, e1, e2, e3]⟩) := Lib.hid (by
                  rw [rootP_next _ _ _ _ b0 HS.out]
                  have e1' : rootSq s i = [s0, s1, s2, s3] := rootSq_eq s i HXS.out HQS.out (HI.out.1 ▸ HE1.out.1) (HI.out.2.1 ▸ HE1.out.2.1) HE1.out.2.2
                  have e2' : rootCu s i = [e0, e1, e2, e3] := rootCu_eq s i HXS.out HQS.out HCS.out HE2.out.1 (HI.out.2.1 ▸ HE2.out.2) HD.out (HI.out.2.2 ▸ HE4.out.1) HE4.out.2
                  exact rootStep_eq _ _ s i HXS.out e1' e2' _ (by rw [h3]; rfl))
                have H3' := Lib.hid h3
                clear h3
                go_wp2_with fail
                refine (less_any a0 a1 a2 a3 s0 s1 s2 s3 _).mono ?_
                rintro e wL ⟨rfl, hbL⟩
                obtain ⟨lb, hlb⟩ : ∃ lb, lb = lessP [a0, a1, a2, a3] [s0, s1, s2, s3] 4 := ⟨_, rfl⟩
                rw [← hlb] at hst ⊢
                have hbo := below_trans' hbv9 hbL
                have g11 := h11''.below hbL h11''.lt
                have g10 := h10''.below hbL h10''.lt
                have ga := ha.below hbo ha.lt
                have gres := hres.below hbo hres.lt
                have gx := hx.below hbo hx.lt
                have gsq := hsq.below hbo hsq.lt
                have gcu := hcu.below hbo hcu.lt
                have gone := hone.below hbo hone.lt
                have gB : Below w.heap.size w wL := below_trans' hB hbo
                clear hbL h11'' h10'' hlb z0 z1 z2 z3 z4 z5 z6 z7 ha9 hP hbv9 hr11' hr10' hbv' hbo
                cases lb
                · have hst' : Hid (rootP [a0, a1, a2, a3] three (70 - i) = ⟨[x0, x1, x2, x3].set (i / 64) (Go.bits .or .u64 ([x0, x1, x2, x3].getD (i / 64) 0) (IntKind.u64.wrap (2 ^ (i % 64)))), [s0, s1, s2, s3], [e0, e1, e2, e3]⟩) := Lib.hid (by rw [hst.out]; rfl)
                  clear hst
                  obtain ⟨q, hq⟩ : ∃ q, q = i / 64 := ⟨_, rfl⟩
                  obtain ⟨r, hr⟩ : ∃ r, r = i % 64 := ⟨_, rfl⟩
                  have hq' : (i : Int) / 64 = q := by omega
                  have hr' : (i : Int) % 64 = r := by omega
                  have hq4 : q < 4 := by omega
                  have hr4 : r < 64 := by omega
                  rw [← hq, ← hr] at hst'
                  have cx := gx.cell q hq4
                  have fx := gx.frozen q
                  obtain ⟨xq, hxq⟩ : ∃ xq, xq = [x0, x1, x2, x3].getD q 0 := ⟨_, rfl⟩
                  rw [← hxq] at cx hst'
                  clear hq hr hxq
                  have l1 := hx.lt
                  have l2 := hsq.lt
                  have l3 := hcu.lt
                  obtain ⟨V, hV⟩ : ∃ V, V = Go.bits .or .u64 xq (IntKind.u64.wrap (2 ^ r)) := ⟨_, rfl⟩
                  have G10 := g10.other (a := ⟨w.heap.size + 2, q, none⟩) (by show B10 ≠ w.heap.size + 2; omega) (.int .u64 V)
                  have Gsq := gsq.other (a := ⟨w.heap.size + 2, q, none⟩) (by show w.heap.size + 3 ≠ w.heap.size + 2; omega) (.int .u64 V)
                  have G11 := (g11.other (a := ⟨w.heap.size + 2, q, none⟩) (by show B11 ≠ w.heap.size + 2; omega) (.int .u64 V)).other4 (c := w.heap.size + 3) (by omega) (.int .u64 s0) (.int .u64 s1) (.int .u64 s2) (.int .u64 s3)
                  have Gcu := (gcu.other (a := ⟨w.heap.size + 2, q, none⟩) (by show w.heap.size + 4 ≠ w.heap.size + 2; omega) (.int .u64 V)).other4 (c := w.heap.size + 3) (by omega) (.int .u64 s0) (.int .u64 s1) (.int .u64 s2) (.int .u64 s3)
                  obtain ⟨z0, z1, z2, z3⟩ := G10.four
                  obtain ⟨z4, z5, z6, z7⟩ := Gsq.four
                  obtain ⟨f4, f5, f6, f7⟩ := Gsq.fourF
                  obtain ⟨z8, z9, z10, z11⟩ := G11.four
                  obtain ⟨z12, z13, z14, z15⟩ := Gcu.four
                  obtain ⟨f12, f13, f14, f15⟩ := Gcu.fourF
                  subst hV
                  go_wp2_with fail
                  go_region
                  go_wp2_with fail
                  go_roundw
                  case rel =>
                    have keep : ∀ {b t : Nat} {l : List Int}, Row wL b t .u64 l → b < w.heap.size + 2 ∨ b = w.heap.size + 5 → Row ((((((((wL.setCell ⟨w.heap.size + 2, q, none⟩ (.int .u64 (Go.bits .or .u64 xq (IntKind.u64.wrap (2 ^ r))))).setCell ⟨w.heap.size + 3, 0, none⟩ (.int .u64 s0)).setCell ⟨w.heap.size + 3, 1, none⟩ (.int .u64 s1)).setCell ⟨w.heap.size + 3, 2, none⟩ (.int .u64 s2)).setCell ⟨w.heap.size + 3, 3, none⟩ (.int .u64 s3)).setCell ⟨w.heap.size + 4, 0, none⟩ (.int .u64 e0)).setCell ⟨w.heap.size + 4, 1, none⟩ (.int .u64 e1)).setCell ⟨w.heap.size + 4, 2, none⟩ (.int .u64 e2) |>.setCell ⟨w.heap.size + 4, 3, none⟩ (.int .u64 e3)).drew b t .u64 l :=
                      fun {b t l} h hb => ((((h.other (a := ⟨w.heap.size + 2, q, none⟩) (by show b ≠ w.heap.size + 2; omega) _).other4 (c := w.heap.size + 3) (by omega) _ _ _ _).other4 (c := w.heap.size + 4) (by omega) _ _ _ _).drew)
                    exact ⟨i, ⟨[x0, x1, x2, x3].set q (Go.bits .or .u64 xq (IntKind.u64.wrap (2 ^ r))), [s0, s1, s2, s3], [e0, e1, e2, e3]⟩, by omega, by go_num, hst'.out, keep ga (by omega), keep gres (by omega),
                      (((gx.set q _).other4 (c := w.heap.size + 3) (by omega) _ _ _ _).other4 (c := w.heap.size + 4) (by omega) _ _ _ _).drew,
                      ((Gsq.set4 s0 s1 s2 s3).other4 (c := w.heap.size + 4) (by omega) _ _ _ _).drew, (Gcu.set4 e0 e1 e2 e3).drew, keep gone (by omega),
                      (below_set4 (below_set4 (gB.setCell (p := ⟨w.heap.size + 2, q, none⟩) (Nat.le_add_right _ _) _) (w.heap.size + 3) (Nat.le_add_right _ _) _ _ _ _) (w.heap.size + 4) (Nat.le_add_right _ _) _ _ _ _).drew⟩
                  case measure => simp [intOf]
                · have hst' : Hid (rootP [a0, a1, a2, a3] three (70 - i) = s) := Lib.hid (by rw [hst.out]; rfl)
                  clear hst
                  rw [← HXS.out] at gx
                  rw [← HQS.out] at gsq
                  rw [← HCS.out] at gcu
                  go_wp2_with fail
                  go_roundw
                  case rel =>
                    exact ⟨i, s, by omega, by go_num, hst'.out, ga, gres, gx, gsq, gcu, gone, gB⟩
                  case measure => simp [intOf]

end Go.Proofs.Ytojmbbapcnfibaa
