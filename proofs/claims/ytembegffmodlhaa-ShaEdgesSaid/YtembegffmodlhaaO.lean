/- Walks: bytes come to a state (Write). -/
import Derived.Test.YtembegffmodlhaaM
namespace Go.Proofs.Ytembegffmodlhaa
open Go.RowKit Go.Shelf
attribute [local go_sem] Oper.semAt_some

/-- Block b holds what some bytes leave. -/
structure Held (W : World) (B b : Nat) (l : List UInt8) (n : Int) (v : Value) : Prop where
  st : St W b (hashN l (l.length / 64)) v n
  own : W.ownsRow B 5 1 v (l.length % 64) ((numsB (restL l l.length)).map (Value.int .u8))
  le : B ≤ b

theorem grown_set {W W' : World} {b : Nat} (h : W.grownBy W' (some b)) (j : Nat) (u : Value) : W.grownBy (W'.setCell ⟨b, j, none⟩ u) (some b) :=
  ⟨h.os, h.tape, h.output, by simpa using h.size, fun i hi hne => (Below.heap_setCell _ _ _ _ (fun e => hne (by rw [e]))).trans (h.block i hi hne)⟩
theorem grown_below {W W' : World} (row : Option Nat) (h : Below W.heap.size W.drew W') : W.grownBy W' row := ⟨h.os, h.tape, h.output, h.size, fun j hj _ => h.block j hj⟩
theorem St.set8 {W : World} {b : Nat} {v : Value} {n : Int} {a0 a1 a2 a3 a4 a5 a6 a7 : Int} (s : St W b [a0, a1, a2, a3, a4, a5, a6, a7] v n) (b0 b1 b2 b3 b4 b5 b6 b7 : Int) :
    St ((((((((W.setCell ⟨b, 0, none⟩ (.int .u32 b0)).setCell ⟨b, 1, none⟩ (.int .u32 b1)).setCell ⟨b, 2, none⟩ (.int .u32 b2)).setCell ⟨b, 3, none⟩ (.int .u32 b3)).setCell ⟨b, 4, none⟩ (.int .u32 b4)).setCell ⟨b, 5, none⟩ (.int .u32 b5)).setCell ⟨b, 6, none⟩ (.int .u32 b6)).setCell ⟨b, 7, none⟩ (.int .u32 b7)) b [b0, b1, b2, b3, b4, b5, b6, b7] v n :=
  (((((((s.setH 0 (by simp) b0).setH 1 (by simp) b1).setH 2 (by simp) b2).setH 3 (by simp) b3).setH 4 (by simp) b4).setH 5 (by simp) b5).setH 6 (by simp) b6).setH 7 (by simp) b7

set_option maxRecDepth 100000 in
set_option maxHeartbeats 2000000 in
theorem write_any (l : List UInt8) (s : ByteArray) (B b : Nat) (n : Int) (v : Value) (w : World) (hlen : l.length + s.size ≤ 10000) (hn0 : 0 ≤ n) (hn1 : n ≤ 10000) (hH : Held w B b l n v) :
    Calls Try.prog 14 #[.pointer (some ⟨b, 0, none⟩), .string s] w fun e w' => e = .returned (.tuple #[]) ∧ (∃ v', Held w' B b (l ++ s.data.toList) (n + s.size) v') ∧ Below B w w' := by
  obtain ⟨hS, hO, hBb⟩ := hH
  obtain ⟨L, hL⟩ : ∃ L, L = l ++ s.data.toList := ⟨_, rfl⟩
  have hLl : L.length = l.length + s.size := by rw [hL, List.length_append]; rfl
  have hLd : L.drop l.length = s.data.toList := by rw [hL, List.drop_left]
  have hh : hashN l (l.length / 64) = hashN L (l.length / 64) := by rw [hL, hashN_append l _ _ (by omega)]
  have hre : restL l l.length = restL L l.length := by rw [hL, restL_append l _ _ (Nat.le_refl _)]
  rw [← hL]
  rw [hh] at hS
  rw [hre] at hO
  have H8 := Lib.hid (hashN_length L (l.length / 64))
  have HL := Lib.hid hLl
  have HLD := Lib.hid hLd
  obtain ⟨c0, hc0⟩ : ∃ c0, c0 = l.length := ⟨_, rfl⟩
  rw [← hc0] at hS hO hlen H8 HLD HL
  have hbw := hS.lt
  have xn := hS.cellN H8.out
  have fn := hS.frozen 9
  have HS := Lib.hid hS
  have HO := Lib.hid hO
  have HC := Lib.hid hc0
  clear hS hO hLl hLd hh hre hL hc0
  refine (callsIn_wide (n := 5)).1 ?_
  refine callsIn_of_wp_marks Try.func14 rfl trivial ?_ rfl
  simp only [Try.ntmps14, List.size_toArray, List.length_cons, List.length_nil, Nat.reduceAdd, Nat.reduceSub, Array.replicate_succ, Array.replicate_zero, List.push_toArray, List.append_toArray, List.nil_append, List.cons_append]
  gi_wp2_with fail
  refine ⟨trivial, callsIn_wide.2 ((blocks_any _ _ _).mono ?_)⟩
  rintro e w2 ⟨rfl, hw2⟩
  obtain ⟨w1, hw1⟩ : ∃ w1, w1 = (w.setCell ⟨b, 9, none⟩ (.int .i64 (n + s.size))).alloc (.cells #[.pointer (some ⟨b, 0, none⟩)] 31) := ⟨_, rfl⟩
  rw [← hw1] at hw2 ⊢
  have hz1 : w1.heap.size = w.heap.size + 1 := by rw [hw1]; simp
  have hX1 : w1.heap[w.heap.size]? = some (.cells #[.pointer (some ⟨b, 0, none⟩)] 31 (0, 0)) := by
    rw [hw1]; have := heap_alloc_new (w.setCell ⟨b, 9, none⟩ (.int .i64 (n + s.size))) (.cells #[.pointer (some ⟨b, 0, none⟩)] 31); rwa [World.size_setCell] at this
  have hS1 : St w1 b (hashN L (c0 / 64)) v (n + s.size) := by
    rw [hw1]; exact (HS.out.setN H8.out _).of_block (Below.heap_alloc _ _ _ (by simpa using hbw))
  have hgb : ∀ r, v.ownBlock = some r → r ≠ b := fun r hr => by
    obtain ⟨cc, hcc⟩ := own_block HO.out r hr
    exact ne_of_type hcc HS.out.out (by decide)
  have hO1 : w1.ownsRow B 5 1 v (c0 % 64) ((numsB (restL L c0)).map (Value.int .u8)) := own_other HO.out (fun r hr => by
    rw [hw1, Below.heap_alloc _ _ _ (by have := (HO.out.lt r hr).2; simpa using this)]
    exact Below.heap_setCell _ _ _ _ (hgb r hr))
  have hB1 : Below B w w1 := by
    rw [hw1]; exact ((Below.refl B w).setCell (p := ⟨b, 9, none⟩) hBb _).alloc (by simp; omega) _
  have hz2 : w2.heap.size = w.heap.size + 3 := by rw [hw2]; simp [hz1]
  have hB2' : Below w1.heap.size w1 w2 := by rw [hw2]; exact below_alloc' (below_alloc' (Below.refl _ _) _) _
  have hq2 : w2.heap[w1.heap.size]? = some (.cells #[.pointer (some ⟨b, 0, none⟩)] 31 (0, 0)) := by
    rw [hw2]; exact (Below.heap_alloc _ _ _ (by simp)).trans (heap_alloc_new _ _)
  have hp2 : w2.heap[w1.heap.size + 1]? = some (.cells #[.string ⟨(L.drop c0).toArray⟩] 9 (0, 0)) := by
    rw [hw2, HLD.out]; have := heap_alloc_new (w1.alloc (.cells #[.pointer (some ⟨b, 0, none⟩)] 31)) (.cells #[.string s] 9); rwa [World.size_alloc] at this
  have hX2 : w2.heap[w.heap.size]? = some (.cells #[.pointer (some ⟨b, 0, none⟩)] 31 (0, 0)) := (hB2'.block _ (by omega)).trans hX1
  have hS2 := hS1.below hB2' (by omega)
  have hO2 := own_below hO1 hB2'
  have hB2 : Below B w w2 := hB1.trans (hB2'.mono (by omega))
  rw [hz1] at hp2 hq2 ⊢
  have hI : Inv w B b w.heap.size ⟨b, 0, none⟩ L (n + s.size) (c0 / 64) w2 := ⟨⟨v, hS2⟩, hB2, hX2⟩
  clear hw2 hw1 hX1 hS1 hO1 hB1 hB2' hX2 hB2 hgb xn fn
  gi_wp2_with fail
  refine range_st (n := 5) (by decide) rfl rfl L c0 (n + s.size) (by have := HL.out; omega) (by have := HL.out; omega) hBb (by omega) (by omega) hp2 hq2 v hS2 hO2 hI
    (fun x => { tmps := #[.pointer (some ⟨b, 0, none⟩), .string s, .pointer (some ⟨w.heap.size, 0, none⟩), undef, .string x, .pointer (some ⟨b, 0, none⟩), .bool false, .pointer (some ⟨b, 0, none⟩), .pointer (some ⟨b, 0, none⟩), .pointer (some ⟨b, 9, none⟩), .int .i64 n, .string s, .int .i64 s.size, .int .i64 (n + s.size), .pointer (some ⟨b, 0, none⟩), .pointer (some ⟨b, 9, none⟩), .pointer (some ⟨b, 0, none⟩), .string s, .func (.func 34) #[] #[.pointer (some ⟨w.heap.size + 1 + 1, 0, none⟩), .pointer (some ⟨w.heap.size + 1, 0, none⟩)], .string x, undef, undef, undef, undef, undef, undef, undef, undef, undef], defers := [] }) ?assign ?body ?done
  case assign =>
    intro l x W K hK
    gi_wp2
    exact hK
  case body =>
    intro lp k W hk1 hk2 hi
    obtain ⟨⟨v', hs⟩, _, hx⟩ := id hi
    obtain ⟨a, b', c, d, e, f, g, i, hl⟩ := eight (hashN L k) (hashN_length _ _)
    obtain ⟨a1, b1, c1, d1, e1, f1, g1, i1, hl1⟩ := eight (hashN L (k + 1)) (hashN_length _ _)
    have hn := next_any [a, b', c, d, e, f, g, i] rfl ⟨(blkL L k).toArray⟩ (by
      show (blkL L k).toArray.size = 64
      rw [List.size_toArray]
      exact blkL_length L k (by have := HL.out; omega))
    rw [show nextL [a, b', c, d, e, f, g, i] (⟨(blkL L k).toArray⟩ : ByteArray).data.toList = [a1, b1, c1, d1, e1, f1, g1, i1] by rw [← hl, ← hl1]; rfl] at hn
    obtain ⟨x, hx'⟩ : ∃ x, x = (⟨(blkL L k).toArray⟩ : ByteArray) := ⟨_, rfl⟩
    rw [← hx'] at hn ⊢
    have hsl : St W b [a, b', c, d, e, f, g, i] v' (n + s.size) := by rw [← hl]; exact hs
    obtain ⟨x0, x1, x2, x3, x4, x5, x6, x7, _, _⟩ := hsl.cells8 rfl
    obtain ⟨xX, fX⟩ := one_cell hx
    have HN : Hid (∀ w, Calls Try.prog 27 #[.agg #[.int .u32 a, .int .u32 b', .int .u32 c, .int .u32 d, .int .u32 e, .int .u32 f, .int .u32 g, .int .u32 i], .string x] w fun e w' => e = .returned (.agg #[.int .u32 a1, .int .u32 b1, .int .u32 c1, .int .u32 d1, .int .u32 e1, .int .u32 f1, .int .u32 g1, .int .u32 i1]) ∧ Below w.heap.size w w') := Lib.hid hn
    have HSL := Lib.hid hsl
    have HL0 := Lib.hid hl
    have HL1 := Lib.hid hl1
    have HX := Lib.hid hx
    have hXb : w.heap.size ≠ b := ne_of_type hx hs.out (by decide)
    have HSS := Lib.hid hs
    clear hi hs hx hl hl1 hn hx' hsl hp2 hq2 hS2 hO2 hI
    gi_wp2_with fail
    gi_region_with (refine ⟨trivial, CallsIn.inRound lp (callsIn_wide.2 ((HN.out _).mono ?_))⟩; rintro e3 W3 ⟨rfl, hb3⟩; have hS3 := HSL.out.drew.below hb3 (by simpa using HSL.out.lt); obtain ⟨y0, y1, y2, y3, y4, y5, y6, y7, _, _⟩ := hS3.cells8 rfl; have f0 := hS3.frozen 0; have f1 := hS3.frozen 1; have f2 := hS3.frozen 2; have f3 := hS3.frozen 3; have f4 := hS3.frozen 4; have f5 := hS3.frozen 5; have f6 := hS3.frozen 6; have f7 := hS3.frozen 7; have xX3 := (one_cell ((hb3.block w.heap.size (by simpa using (Array.getElem?_eq_some_iff.1 HX.out).1)).trans HX.out)).1)
    all_goals
      refine ⟨rfl, ?_, ?_⟩
      · exact grown_set (grown_set (grown_set (grown_set (grown_set (grown_set (grown_set (grown_set (grown_below (some b) hb3) 0 _) 1 _) 2 _) 3 _) 4 _) 5 _) 6 _) 7 _
      · intro v hv
        obtain ⟨rfl, _⟩ := hv.unique HSS.out (hashN_length _ _) (hashN_length _ _)
        rw [HL1.out]
        exact hS3.set8 _ _ _ _ _ _ _ _
  case done =>
    intro D v' W hD hi hs ho hK
    have HI := Lib.hid hi
    have HSS := Lib.hid hs
    have HOO := Lib.hid ho
    have HK := Lib.hid hK
    clear hi hs ho hK hp2 hq2 hS2 hO2 hI
    gi_wp2_with fail
    refine ⟨by simp, .inl ⟨_, _, rfl, run_takeDeferred HK.out, ?_⟩⟩
    have hDb := ne_of_loop HSS.out.out HK.out rfl
    have hDX := ne_of_loop HI.out.box HK.out rfl
    have hDB : B ≤ D := by omega
    have hDW := (Array.getElem?_eq_some_iff.1 HK.out).1
    refine ⟨_, results_none rfl _ _ _, rfl, ⟨v', ?_, ?_, hBb⟩, (HI.out.put D hDB hDW hDb hDX _).below⟩
    · exact HSS.out.of_block (World.putObj_heap_other hDb)
    · exact own_other HOO.out (fun r hr => by
        obtain ⟨cc, hcc⟩ := own_block HOO.out r hr
        exact World.putObj_heap_other (ne_of_loop hcc HK.out rfl))

end Go.Proofs.Ytembegffmodlhaa
