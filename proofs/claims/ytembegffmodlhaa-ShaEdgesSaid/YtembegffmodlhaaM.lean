/- Walks: bytes come to a state. -/
import Derived.Test.YtembegffmodlhaaJ
import Derived.Test.YtembegffmodlhaaV
import Derived.RangeFuncWrites
namespace Go.Proofs.Ytembegffmodlhaa
open Go.RowKit Go.Shelf
attribute [local go_sem] Oper.semAt_some

theorem St.unique {W : World} {b : Nat} {h h' : List Int} {v v' : Value} {n n' : Int} (s : St W b h v n) (s' : St W b h' v' n') (h8 : h.length = 8) (h8' : h'.length = 8) : v = v' ∧ n = n' := by
  have a := s.cellV h8
  have c := s.cellN h8
  rw [s'.cellV h8'] at a
  rw [s'.cellN h8'] at c
  injection a with a
  injection c with c
  injection c with _ c
  exact ⟨a.symm, c.symm⟩

set_option maxHeartbeats 400000 in
theorem blocks_any (t : Addr) (s : ByteArray) (w : World) :
    Calls Try.prog 26 #[.pointer (some t), .string s] w fun e w' => e = .returned (.func (.func 34) #[] #[.pointer (some ⟨w.heap.size + 1, 0, none⟩), .pointer (some ⟨w.heap.size, 0, none⟩)]) ∧
      w' = (w.alloc (.cells #[.pointer (some t)] 31)).alloc (.cells #[.string s] 9) := by
  go_enter Try.func26, Try.ntmps26
  go_wp2
  go_ret
  exact ⟨rfl, rfl⟩

/-- What goes through the rounds. -/
structure Inv (w : World) (B b X : Nat) (t : Addr) (L : List UInt8) (N : Int) (k : Nat) (W : World) : Prop where
  st : ∃ v, St W b (hashN L k) v N
  below : Below B w W
  box : W.heap[X]? = some (.cells #[.pointer (some t)] 31 (0, 0))

theorem Inv.put {w : World} {B b X : Nat} {t : Addr} {L : List UInt8} {N : Int} {k : Nat} {W : World} (hi : Inv w B b X t L N k W) (l : Nat) (hl : B ≤ l) (hlt : l < W.heap.size) (hb : b ≠ l) (hX : X ≠ l) (o : Obj) : Inv w B b X t L N k (W.putObj l o) := by
  obtain ⟨⟨v, hs⟩, hB, hx⟩ := hi
  exact ⟨⟨v, hs.of_block (World.putObj_heap_other hb)⟩, hB.trans ((Below.refl B W).grown (grownBy_putObj' W l o) (by omega) (fun k e => by cases e; exact hl)), (World.putObj_heap_other hX).trans hx⟩
theorem ne_of_loop {W : World} {b l : Nat} {c : Array Value} {t : TypeId} {f : Nat × Nat} {o : Obj} (h : W.heap[b]? = some (.cells c t f)) (k : W.heap[l]? = some o) (ho : o.isCells = false) : b ≠ l := by
  rintro rfl
  rw [h] at k
  cases k
  cases ho
/-- The loop over a state's blocks. -/
theorem range_st {g : Operand} {ps : Array Tmp} {assign body : Code} {Q : Exit → Act → World → Prop} {a : Act} {w w0 : World} {n : Nat} (h1 : 2 ≤ n) {p q b B X : Nat} {t : Addr}
    (hg : a.eval g = .func (.func 34) #[] #[.pointer (some ⟨p, 0, none⟩), .pointer (some ⟨q, 0, none⟩)]) (hps : ps.size = 1)
    (L : List UInt8) (c0 : Nat) (N : Int) (hL : L.length ≤ 10000) (hc0 : c0 ≤ L.length) (hBb : B ≤ b) (hBp : B ≤ p) (hBw : B ≤ w.heap.size)
    (hp : w.heap[p]? = some (.cells #[.string ⟨(L.drop c0).toArray⟩] 9 (0, 0))) (hq : w.heap[q]? = some (.cells #[.pointer (some ⟨b, 0, none⟩)] 31 (0, 0)))
    (v : Value) (hS : St w b (hashN L (c0 / 64)) v N) (ho : w.ownsRow B 5 1 v (c0 % 64) ((numsB (restL L c0)).map (Value.int .u8))) (hI : Inv w0 B b X t L N (c0 / 64) w)
    (a₁ : ByteArray → Act)
    (hassign : ∀ (l : Nat) (x : ByteArray) (W : World) (K : Act → World → Prop), K (a₁ x) W →
      assign.wpIn (Fence.wide.inRound l) (n - 1 - 1) Try.prog (Exit.then K (fun _ _ _ => False)) { tmps := (ps.zip #[.string x]).foldl (fun t (p, v) => t.setIfInBounds p v) a.tmps, defers := [] } W)
    (hbody : ∀ (l k : Nat) (W : World), c0 / 64 ≤ k → k < L.length / 64 → Inv w0 B b X t L N k W →
      body.wpIn (Fence.wide.inRound l) (n - 1 - 1) Try.prog (fun e _ W' => e = .normal ∧ W.grownBy W' (some b) ∧ ∀ v, St W b (hashN L k) v N → St W' b (hashN L (k + 1)) v N) (a₁ ⟨(blkL L k).toArray⟩) W)
    (hdone : ∀ (D : Nat) (v : Value) (W : World), w.heap.size ≤ D → Inv w0 B b X t L N (L.length / 64) W → St W b (hashN L (L.length / 64)) v N → W.ownsRow B 5 1 v (L.length % 64) ((numsB (restL L L.length)).map (Value.int .u8)) →
      W.heap[D]? = some (.deferred (some [])) → Q .normal { a with defers := { target := .collected D, args := #[] } :: a.defers } W) :
    (Code.rangeFunc g ps assign body).wpIn Fence.wide n Try.prog Q a w := by
  refine wpIn_rangeFunc ?_
  intro fn hfn
  have hro : Fence.wide.round = none := rfl
  rw [hro]
  obtain ⟨rec, hrec⟩ : ∃ rec : LoopState → Option Code → Loop, rec = fun st pe => { state := st, pending := pe, fn, tmps := a.tmps, params := ps, assign, body, defers := w.heap.size } := ⟨_, rfl⟩
  obtain ⟨W1, hW1⟩ : ∃ W1, (w.alloc (.deferred (some []))).alloc (.loop (rec .ready none)) = W1 := ⟨_, rfl⟩
  have hL1 : W1.heap[w.heap.size + 1]? = some (.loop (rec .ready none)) := by
    rw [← hW1]; have := World.alloc_heap_new (w.alloc (.deferred (some []))) (.loop (rec .ready none)); rwa [World.size_alloc] at this
  have hK1 : W1.heap[w.heap.size]? = some (.deferred (some [])) := by
    rw [← hW1]; exact (Below.heap_alloc _ _ _ (by simp)).trans (World.alloc_heap_new w _)
  have hB1 : Below w.heap.size w W1 := by rw [← hW1]; exact below_alloc' (below_alloc' (Below.refl _ _) _) _
  have hold : ∀ j, j < w.heap.size → W1.heap[j]? = w.heap[j]? := fun j hj => hB1.block j hj
  have hS1 := hS.of_block (hold b hS.lt)
  have hI1 : Inv w0 B b X t L N (c0 / 64) W1 := ⟨⟨v, hS1⟩, hI.below.trans (hB1.mono hBw), (hold X (Array.getElem?_eq_some_iff.1 hI.box).1).trans hI.box⟩
  refine ⟨w.heap.size + 1, [{ target := .collected w.heap.size, args := #[] }], W1, { target := .fn (.func 34) #[.pointer (some ⟨p, 0, none⟩), .pointer (some ⟨q, 0, none⟩)], args := #[.func (.yield (w.heap.size + 1)) #[] #[]] }, W1, 34,
    #[.func (.yield (w.heap.size + 1)) #[] #[]] ++ #[.pointer (some ⟨p, 0, none⟩), .pointer (some ⟨q, 0, none⟩)], W1, ?_, ?_, ?_, ?_, fun _ => by omega, ?_⟩
  · rw [← hW1, hrec]; exact run_enterLoop_outer _ _ _ _ _
  · simp only [resolve, hg]
    simp [go_sem]
  · intro f' _; trivial
  · simp [invoke, go_sem]
  · refine (iter34 (n - 1) (w.heap.size + 1) ?_ B b p q L c0 N hL hc0 hBb hBp
      (fun j W => Inv w0 B b X t L N (c0 / 64 + j) W ∧ W.heap[w.heap.size + 1]? = some (.loop (rec .ready none)) ∧ W.heap[w.heap.size]? = some (.deferred (some []))) ?_ ?_ ?_
      W1 ((hold p (Array.getElem?_eq_some_iff.1 hp).1).trans hp) ((hold q (Array.getElem?_eq_some_iff.1 hq).1).trans hq) _ v (hashN_length _ _) hS1 (own_below ho hB1) ⟨hI1, hL1, hK1⟩).mono ?_
    · omega
    · rintro j A A' row ⟨hi, hl, hk⟩ hg' hr
      obtain ⟨⟨u, hs⟩, hb', hx⟩ := hi
      have hne : ∀ (i : Nat) (o : Obj), A.heap[i]? = some o → o.isCells = false → A'.heap[i]? = some o := fun i o ho hc => (hg'.block i (Array.getElem?_eq_some_iff.1 ho).1 (fun e => by
        obtain ⟨_, c, t, hct, _⟩ := hr i e.symm
        rw [ho] at hct; cases hct; cases hc)).trans ho
      refine ⟨⟨⟨u, hs.grown hg' (fun e => ?_)⟩, hb'.grown hg' (by have := (Array.getElem?_eq_some_iff.1 hk).1; omega) (fun r e => (hr r e).1), (hg'.block X (Array.getElem?_eq_some_iff.1 hx).1 (fun e => ?_)).trans hx⟩, hne _ _ hl rfl, hne _ _ hk rfl⟩
      · obtain ⟨_, c, t, hct, h52, _⟩ := hr b e
        exact ne_of_type hs.out hct (Ne.symm h52) rfl
      · obtain ⟨_, c, t, hct, _, h31⟩ := hr X e.symm
        exact ne_of_type hx hct (Ne.symm h31) rfl
    · rintro j A u ⟨hi, hl, hk⟩
      obtain ⟨⟨v, hs⟩, hb', hx⟩ := hi
      exact ⟨⟨⟨u, hs.setV (hashN_length _ _) u⟩, hb'.setCell (p := ⟨b, 8, none⟩) hBb _, (Below.heap_setCell _ _ _ _ (ne_of_type hx hs.out (by decide))).trans hx⟩,
        (Below.heap_setCell _ _ _ _ (Ne.symm (ne_of_loop hs.out hl rfl))).trans hl, (Below.heap_setCell _ _ _ _ (Ne.symm (ne_of_loop hs.out hk rfl))).trans hk⟩
    · rintro j W ⟨hi, hl, hk⟩ hj
      obtain ⟨⟨v0, hs0⟩, hb0, hx0⟩ := id hi
      have hlt : w.heap.size + 1 < W.heap.size := (Array.getElem?_eq_some_iff.1 hl).1
      have hbl := ne_of_loop hs0.out hl rfl
      have hXl := ne_of_loop hx0 hl rfl
      have hy := run_yield (P := Try.prog) (args := #[.string ⟨(blkL L (c0 / 64 + j)).toArray⟩]) hl (by rw [hrec]; simp [hps])
      rw [hrec] at hy
      refine ⟨fn, _, assign, body, hy, roundIn_of_wpIn hfn (hassign _ _ W _ ⟨_, run_beginRound hl (by rw [hrec]), ?_⟩)⟩
      have hl2 : (W.putObj (w.heap.size + 1) (.loop { rec .ready none with state := .busy })).heap[w.heap.size + 1]? = some (.loop { rec .ready none with state := .busy }) := World.putObj_heap_same hlt
      have hi2 := hi.put (w.heap.size + 1) (by omega) hlt hbl hXl (.loop { rec .ready none with state := .busy })
      refine wpIn_mono (hbody _ (c0 / 64 + j) _ (by omega) hj hi2) ?_
      rintro e a3 W3 ⟨rfl, hg3, hst3⟩
      have hs2 : St (W.putObj (w.heap.size + 1) (.loop { rec .ready none with state := .busy })) b (hashN L (c0 / 64 + j)) v0 N := hs0.of_block (World.putObj_heap_other hbl)
      have hs3 := hst3 v0 hs2
      have hl3 : W3.heap[w.heap.size + 1]? = some (.loop { rec .ready none with state := .busy }) := (hg3.block _ (Array.getElem?_eq_some_iff.1 hl2).1 (fun e => hbl (by cases e; rfl))).trans hl2
      have hlt3 := (Array.getElem?_eq_some_iff.1 hl3).1
      have hr := run_endRound (P := Try.prog) none hl3
      rw [hrec] at hr
      have hX3 : W3.heap[X]? = some (.cells #[.pointer (some t)] 31 (0, 0)) := (hg3.block X (Array.getElem?_eq_some_iff.1 hi2.box).1 (fun e => ne_of_type hi2.box hs2.out (by decide) (by cases e; rfl))).trans hi2.box
      have hi3 : Inv w0 B b X t L N (c0 / 64 + j + 1) W3 := ⟨⟨v0, hs3⟩, hi2.below.grown hg3 (by simp; omega) (fun k e => by cases e; exact hBb), hX3⟩
      have hk3 : W3.heap[w.heap.size]? = some (.deferred (some [])) := by
        have h2 : (W.putObj (w.heap.size + 1) (.loop { rec .ready none with state := .busy })).heap[w.heap.size]? = some (.deferred (some [])) := (World.putObj_heap_other (by omega)).trans hk
        exact (hg3.block _ (Array.getElem?_eq_some_iff.1 h2).1 (fun e => ne_of_loop hs2.out h2 rfl (by cases e; rfl))).trans h2
      refine ⟨_, _, hr, rfl, ⟨?_, ?_, ?_⟩, ?_, ?_⟩
      · exact hi3.put (w.heap.size + 1) (by omega) hlt3 hbl hXl _
      · rw [hrec]; exact World.putObj_heap_same hlt3
      · exact (World.putObj_heap_other (by omega)).trans hk3
      · have ga := grownBy_putObj' W (w.heap.size + 1) (.loop { rec .ready none with state := .busy })
        refine ⟨?_, ?_, ?_, ?_, fun i hi' hne => ?_⟩
        · exact hg3.os.trans ga.os
        · exact hg3.tape.trans ga.tape
        · exact hg3.output.trans ga.output
        · exact Nat.le_trans (Nat.le_trans ga.size hg3.size) (grownBy_putObj' W3 _ _).size
        · by_cases e : i = w.heap.size + 1
          · subst e
            rw [World.putObj_heap_same hlt3, hl, hrec]
            rfl
          · rw [World.putObj_heap_other e, hg3.block i (by simpa using hi') hne, World.putObj_heap_other e]
      · intro h' v' n' hs' h8'
        obtain ⟨rfl, rfl⟩ := hs'.unique hs0 h8' (hashN_length _ _)
        exact ⟨_, hashN_length _ _, hs3.of_block (World.putObj_heap_other hbl)⟩
    · rintro e W2 ⟨⟨u, rfl⟩, ⟨hi, hl, hk⟩, h', v', h8', hs', ho'⟩
      rw [show c0 / 64 + (L.length / 64 - c0 / 64) = L.length / 64 by have : c0 / 64 ≤ L.length / 64 := Nat.div_le_div_right hc0; omega] at hi
      obtain ⟨⟨v0, hs0⟩, hb0, hx0⟩ := id hi
      obtain ⟨rfl, _⟩ := hs'.unique hs0 h8' (hashN_length _ _)
      have hbl := ne_of_loop hs0.out hl rfl
      have hXl := ne_of_loop hx0 hl rfl
      have hlt := (Array.getElem?_eq_some_iff.1 hl).1
      exact ⟨none, _, by have := run_endLoop (P := Try.prog) hl (by rw [hrec]; simp); rw [hrec] at this; exact this,
        hdone _ v' _ (Nat.le_refl _) (hi.put _ (by omega) hlt hbl hXl _) (hs0.of_block (World.putObj_heap_other hbl)) (own_other ho' (fun r hr => by
          obtain ⟨cc, hcc⟩ := own_block ho' r hr
          exact World.putObj_heap_other (ne_of_loop hcc hl rfl))) ((World.putObj_heap_other (by omega)).trans hk)⟩

end Go.Proofs.Ytembegffmodlhaa
