/- Walks: the iterator over the blocks that come up. -/
import Derived.Test.YtembegffmodlhaaI
import Derived.Test.YtembegffmodlhaaU
import Derived.Sort.CutIn
namespace Go.Proofs.Ytembegffmodlhaa
open Go.RowKit Go.Shelf
attribute [local go_sem] Oper.semAt_some

/-- What the body of the loop keeps. -/
def Kept (b : Nat) (A B : World) : Prop := A.grownBy B (some b) ∧ ∀ h v n, St A b h v n → h.length = 8 → ∃ h', h'.length = 8 ∧ St B b h' v n
/-- How long a string in a cell is. -/
def lenAt : Option Value → Nat
  | some (.string s) => s.size
  | _ => 0

set_option maxHeartbeats 1600000 in
theorem iter34 (n l : Nat) (hn : 1 ≤ n) (B b p q : Nat) (L : List UInt8) (c0 : Nat) (N : Int) (hL : L.length ≤ 10000) (hc0 : c0 ≤ L.length) (hBb : B ≤ b) (hBp : B ≤ p) (J : Nat → World → Prop)
    (hJ1 : ∀ j A A' row, J j A → A.grownBy A' row → (∀ r, row = some r → B ≤ r ∧ ∃ c t, A.heap[r]? = some (.cells c t (0, 0)) ∧ t ≠ 52 ∧ t ≠ 31) → J j A')
    (hJ2 : ∀ j A u, J j A → J j (A.setCell ⟨b, 8, none⟩ u))
    (hY : ∀ j W, J j W → c0 / 64 + j < L.length / 64 → YieldAt Fence.wide (n - 1) Try.prog l #[.string ⟨(blkL L (c0 / 64 + j)).toArray⟩] W fun e W' => e = .returned (.bool true) ∧ J (j + 1) W' ∧ Kept b W W')
    (W : World) (hp : W.heap[p]? = some (.cells #[.string ⟨(L.drop c0).toArray⟩] 9 (0, 0))) (hq : W.heap[q]? = some (.cells #[.pointer (some ⟨b, 0, none⟩)] 31 (0, 0)))
    (h : List Int) (v : Value) (h8 : h.length = 8) (hS : St W b h v N) (ho : W.ownsRow B 5 1 v (c0 % 64) ((numsB (restL L c0)).map (Value.int .u8))) (h0 : J 0 W) :
    CallsIn Fence.wide n Try.prog 34 #[.func (.yield l) #[] #[], .pointer (some ⟨p, 0, none⟩), .pointer (some ⟨q, 0, none⟩)] W fun e W' =>
      (∃ v, e = .returned v) ∧ J (L.length / 64 - c0 / 64) W' ∧ ∃ h v, h.length = 8 ∧ St W' b h v N ∧ W'.ownsRow B 5 1 v (L.length % 64) ((numsB (restL L L.length)).map (Value.int .u8)) := by
  obtain ⟨i0, hi, hz0, hz1, hz2⟩ := info_parts (show (Try.prog.info? 5).map (fun i => (i.zero, i.size, i.bytes)) = some (some (.int .u8 0), 1, 1) by kernel_rfl)
  have H1 := Lib.hid hJ1
  have H2 := Lib.hid hJ2
  have HY := Lib.hid hY
  clear hJ1 hJ2 hY
  refine callsIn_of_wp Try.func34 rfl trivial ?_ rfl
  simp only [Try.ntmps34, List.size_toArray, List.length_cons, List.length_nil, Nat.reduceAdd, Nat.reduceSub, Array.replicate_succ, Array.replicate_zero, List.push_toArray, List.append_toArray, List.nil_append, List.cons_append]
  gi_wp2_with fail
  gi_loopw [] (fun wr => ∃ (c : Nat) (h : List Int) (v : Value), c0 ≤ c ∧ c ≤ L.length ∧ h.length = 8 ∧ wr.heap[p]? = some (.cells #[.string ⟨(L.drop c).toArray⟩] 9 (0, 0)) ∧ wr.heap[q]? = some (.cells #[.pointer (some ⟨b, 0, none⟩)] 31 (0, 0)) ∧ St wr b h v N ∧ wr.ownsRow B 5 1 v (c % 64) ((numsB (restL L c)).map (Value.int .u8)) ∧ J (c / 64 - c0 / 64) wr) (fun wr => lenAt (wr.cell? ⟨p, 0, none⟩))
  case atStart => exact ⟨c0, h, v, Nat.le_refl _, hc0, h8, hp, hq, hS, ho, by rw [Nat.sub_self]; exact h0⟩
  case round =>
    obtain ⟨c, h, v, hc1, hc2, h8, hp, hq, hS, ho, hJ⟩ := hrel
    obtain ⟨o, k, rfl, hg⟩ := own_shape ho
    obtain ⟨xp, fp⟩ := one_cell hp
    obtain ⟨xq, fq⟩ := one_cell hq
    have xb := hS.cellV h8
    have fb := hS.frozen 8
    have hs := (show ((⟨(L.drop c).toArray⟩ : ByteArray).size = L.length - c) from by show (L.drop c).toArray.size = _; simp)
    obtain ⟨S, hSe⟩ : ∃ S, S = (⟨(L.drop c).toArray⟩ : ByteArray) := ⟨_, rfl⟩
    rw [← hSe] at xp hs
    have HSe := Lib.hid hSe
    have H8 := Lib.hid h8
    obtain ⟨r, hr⟩ : ∃ r, r = c % 64 := ⟨_, rfl⟩
    have hr64 : r < 64 := by omega
    rw [← hr] at ho xb
    obtain ⟨m, hm⟩ : ∃ m, m = L.length - c := ⟨_, rfl⟩
    rw [← hm] at hs
    have HR := Lib.hid hr
    have HM := Lib.hid hm
    have hm2 : m ≤ 10000 := by omega
    by_cases hlt : c < L.length
    · have hm1 : 1 ≤ m := by omega
      have he : S.toList.isEmpty = false := by
        rw [ByteArray.toList_eq]
        have : S.data.toList.length = m := hs
        cases hd : S.data.toList with
        | nil => rw [hd] at this; simp at this; omega
        | cons x y => rfl
      obtain ⟨nn, hn1, hn2, hn3, hn4⟩ : ∃ nn : Nat, 1 ≤ nn ∧ nn ≤ m ∧ r + nn ≤ 64 ∧ ((m : Int) ≤ 64 - (r : Int) ∧ nn = m ∨ ((64 : Int) - (r : Int) < (m : Int) ∧ (64 : Int) - (r : Int) = (nn : Int))) := by
        rcases Nat.lt_or_ge (64 - r) m with h | h
        · exact ⟨64 - r, by omega, by omega, by omega, .inr ⟨by omega, by omega⟩⟩
        · exact ⟨m, by omega, by omega, by omega, .inl ⟨by omega, rfl⟩⟩
      have hcn : c + nn ≤ L.length := by omega
      have hd : S.data.toList = L.drop c := by rw [hSe]
      have hsl1 : ∀ w, (Instr.slice 9 (.string S) none (some (.int .i64 (nn : Int))) none).run Try.prog w = .ok (.string ⟨((L.drop c).take nn).toArray⟩) w := fun w => by
        rw [run_slice_string_h w 9 S Try.underlying9 .i64 (nn : Int) (by omega) (by omega)]
        congr 2
        apply ByteArray.ext
        apply Array.ext'
        rw [ByteArray.data_extract]
        simp [hd]
      have hsl2 : ∀ w, (Instr.slice 9 (.string S) (some (.int .i64 (nn : Int))) none none).run Try.prog w = .ok (.string ⟨(L.drop (c + nn)).toArray⟩) w := fun w => by
        rw [run_slice_string_l w 9 S Try.underlying9 .i64 (nn : Int) (by omega) (by omega)]
        congr 2
        apply ByteArray.ext
        apply Array.ext'
        rw [ByteArray.data_extract]
        simp [hd]
        exact List.take_of_length_le (by rw [List.length_drop]; omega)
      obtain ⟨T, hT⟩ : ∃ T, T = (⟨((L.drop c).take nn).toArray⟩ : ByteArray) := ⟨_, rfl⟩
      obtain ⟨S2, hS2⟩ : ∃ S2, S2 = (⟨(L.drop (c + nn)).toArray⟩ : ByteArray) := ⟨_, rfl⟩
      have hTs : T.size = nn := by rw [hT]; show ((L.drop c).take nn).toArray.size = _; simp; omega
      simp only [← hT] at hsl1
      simp only [← hS2] at hsl2
      -- the append
      obtain ⟨v', w2, hrun, ho2, hg2, _⟩ := Lib.run_append_own_string (P := Try.prog) wr.drew.drew B 29 9 29 5 i0 Try.underlying29 Try.underlying9 hi hz0 hz1 hz2 (.slice o r k) r _ ho.drew.drew T (by unfold maxLen; omega) (by omega) (by have := hS.lt; simp; omega)
      rw [hTs] at ho2
      have hsc : Lib.strCells T = (numsB ((L.drop c).take nn)).map (Value.int .u8) := by rw [hT, strCells_bytes]
      rw [hsc, ← List.map_append, ← numsB_append] at ho2
      obtain ⟨o', k', rfl, hg'⟩ := own_shape ho2
      obtain ⟨g', rfl⟩ := hg' (by omega)
      obtain ⟨X, hX⟩ : ∃ X, X = restL L c ++ (L.drop c).take nn := ⟨_, rfl⟩
      rw [← hX] at ho2
      have HX := Lib.hid hX
      have hown := own_block ho
      have hpn : (Value.slice o r k).ownBlock ≠ some p := fun e => by
        obtain ⟨cc, hcc⟩ := hown p e
        exact ne_of_type hcc hp (by decide) rfl
      have hqn : (Value.slice o r k).ownBlock ≠ some q := fun e => by
        obtain ⟨cc, hcc⟩ := hown q e
        exact ne_of_type hcc hq (by decide) rfl
      have hbn : (Value.slice o r k).ownBlock ≠ some b := fun e => by
        obtain ⟨cc, hcc⟩ := hown b e
        exact ne_of_type hcc hS.out (by decide) rfl
      have hp2 : w2.heap[p]? = some (.cells #[.string S] 9 (0, 0)) := (hg2.block p (Array.getElem?_eq_some_iff.1 hp).1 (fun e => hpn e.symm)).trans (by rw [hSe]; exact hp)
      have hq2 := (hg2.block q (Array.getElem?_eq_some_iff.1 hq).1 (fun e => hqn e.symm)).trans hq
      have hS2' := hS.drew.drew.grown hg2 hbn
      have hJ2 : J (c / 64 - c0 / 64) w2 := H1.out _ _ _ _ hJ (World.grownBy.trans (b := wr.drew.drew) ⟨rfl, rfl, rfl, Nat.le_refl _, fun _ _ _ => rfl⟩ hg2) (fun r hr => by
        obtain ⟨cc, hcc⟩ := hown r hr
        exact ⟨(ho.lt r hr).1, cc, 5, hcc, by decide, by decide⟩)
      have hr2 : Hid (if r + nn < 64 then c + nn = L.length else (c + nn) % 64 = 0) := Lib.hid (by
        have := HR.out; have := HM.out
        split <;> rcases hn4 with ⟨_, e⟩ | ⟨_, e⟩ <;> omega)
      obtain ⟨xp2, fp2⟩ := one_cell hp2
      obtain ⟨xq2, fq2⟩ := one_cell hq2
      have xb2 := hS2'.cellV h8
      have fb2 := hS2'.frozen 8
      have hpb : p ≠ b := ne_of_type hp hS.out (by decide)
      have hqb : q ≠ b := ne_of_type hq hS.out (by decide)
      have hqp : q ≠ p := ne_of_type hq hp (by decide)
      have hgp : g' ≠ p := by
        obtain ⟨cc, hcc⟩ := own_block ho2 g' rfl
        exact ne_of_type hcc hp2 (by decide)
      have hgb : g' ≠ b := by
        obtain ⟨cc, hcc⟩ := own_block ho2 g' rfl
        exact ne_of_type hcc hS2'.out (by decide)
      obtain ⟨W3, hW3⟩ : ∃ W3, W3 = (w2.setCell ⟨b, 8, none⟩ (.slice (some ⟨g', 0, none⟩) (r + nn) k')).setCell ⟨p, 0, none⟩ (.string S2) := ⟨_, rfl⟩
      have hp3 : W3.heap[p]? = some (.cells #[.string S2] 9 (0, 0)) := by
        rw [hW3]; exact one_set ((Below.heap_setCell _ _ _ _ hpb).trans hp2) _
      have hq3 : W3.heap[q]? = some (.cells #[.pointer (some ⟨b, 0, none⟩)] 31 (0, 0)) := by
        rw [hW3]; exact (Below.heap_setCell _ _ _ _ hqp).trans ((Below.heap_setCell _ _ _ _ hqb).trans hq2)
      have hS3 : St W3 b h (.slice (some ⟨g', 0, none⟩) (r + nn) k') N := by
        rw [hW3]; exact (hS2'.setV h8 _).other (a := ⟨p, 0, none⟩) (Ne.symm hpb) _
      have ho3 : W3.ownsRow B 5 1 (.slice (some ⟨g', 0, none⟩) (r + nn) k') (r + nn) ((numsB X).map (Value.int .u8)) := by
        rw [hW3]
        exact own_other ho2 (fun r hr => by
          simp only [Value.ownBlock, Option.some.injEq] at hr
          subst hr
          rw [Below.heap_setCell _ _ _ _ hgp, Below.heap_setCell _ _ _ _ hgb])
      have hJ3 : J (c / 64 - c0 / 64) W3 := by
        rw [hW3]
        exact H1.out _ _ _ (some p) (H2.out _ _ _ hJ2) ⟨rfl, rfl, rfl, by simp, fun j hj hne => Below.heap_setCell _ _ _ _ (fun e => hne (by rw [e]))⟩ (fun r hr => by
          cases hr
          exact ⟨hBp, _, 9, (Below.heap_setCell _ _ _ _ hpb).trans hp2, by decide, by decide⟩)
      have HP3 := Lib.hid hp3
      have HQ3 := Lib.hid hq3
      have HS3 := Lib.hid hS3
      have HO3 := Lib.hid ho3
      have HJ3 := Lib.hid hJ3
      have HW3 := Lib.hid hW3
      have HCN := Lib.hid hcn
      have HTE := Lib.hid hT
      have HS2 := Lib.hid hS2
      clear hSe h8 hr hm hg hlt hS ho hp2 hq2 hS2' ho2 hJ2 hg' hown hsc hX hp3 hq3 hS3 ho3 hJ3 hW3 hpn hqn hbn hg2 hp hq hcn hT hS2 hd hJ hTs
      rcases hn4 with ⟨hle, rfl⟩ | ⟨hlt, e⟩
      all_goals
        gi_wp2_with fail
        refine wpIn_wide.2 ?_
        apply wp_via wr.drew
        · go_region
          all_goals exact ⟨rfl, rfl⟩
        gi_wp2_with fail
        refine wpIn_wide.2 ?_
        apply wp_via (w2.setCell ⟨b, 8, none⟩ (.slice (some ⟨g', 0, none⟩) (r + nn) k'))
        · go_region_law (refine step_append_str rfl (.tmp 21) (.tmp 24) 29 9 rfl (.slice o r k) T (by simp [Act.eval, Act.put]) (by simp [Act.eval, Act.put]) _ w2 hrun ?_)
          all_goals exact ⟨rfl, rfl⟩
        obtain ⟨xp3, fp3⟩ := one_cell HP3.out
        obtain ⟨xq3, fq3⟩ := one_cell HQ3.out
        have xb3 := HS3.out.cellV H8.out
        have fb3 := HS3.out.frozen 8
        gi_upto_region 4 with fail
        rw [← HW3.out]
        clear xp2 fp2 xq2 fq2 xb2 fb2 hrun HW3
        by_cases hrn : r + nn < 64
        · first
            | (exfalso; omega)
            | (have hcl := hr2.out
               rw [if_pos hrn] at hcl
               gi_wp2_with fail
               refine bodyPost_ret (results_none rfl _ _ _) rfl ⟨⟨_, rfl⟩, ?_, h, _, H8.out, HS3.out, ?_⟩
               · have := HR.out
                 rw [show L.length / 64 - c0 / 64 = c / 64 - c0 / 64 by omega]
                 exact HJ3.out
               · have := HR.out
                 rw [show L.length % 64 = r + nn by omega, ← hcl, restL_more L c nn (by omega), ← HX.out]
                 exact HO3.out)
        · have hcl := hr2.out
          rw [if_neg hrn] at hcl
          have h64 : r + nn = 64 := by omega
          have hgo := HO3.out
          rw [h64] at hgo xb3
          have hcv : (convert 29 9 (.slice (some ⟨g', 0, none⟩) 64 k')).run Try.prog W3 = .ok (.string ⟨(blkL L (c / 64)).toArray⟩) W3 := by
            have hx64 : (numsB X).length = 64 := by have := hgo.1; simpa using this
            have hb : blkL L (c / 64) = X := by rw [HX.out]; exact restL_full L c nn (by have := HR.out; omega)
            rw [hb, ← strOfNums_bytes]
            exact run_convert_bytes_arg (P := Try.prog) W3 29 5 Try.underlying29 Try.underlying5 g' 0 64 k' _ hx64 (fun i hi => by
              rw [Nat.zero_add, hgo.cellAt i (by omega), List.getElem?_map, List.getElem?_eq_getElem (by omega), List.getD_eq_getElem?_getD, List.getElem?_eq_getElem (by omega)]
              rfl) 9 Try.underlying9
          have HGO := Lib.hid hgo
          have HS64 : Hid (St W3 b h (.slice (some ⟨g', 0, none⟩) 64 k') N) := Lib.hid (by rw [← h64]; exact HS3.out)
          obtain ⟨Z, hZ⟩ : ∃ Z, Z = (⟨(blkL L (c / 64)).toArray⟩ : ByteArray) := ⟨_, rfl⟩
          rw [← hZ] at hcv
          have HZ := Lib.hid hZ
          have H64 := Lib.hid h64
          have HCL := Lib.hid hcl
          clear hgo hZ hcl HS3 HO3 h64
          gi_wp2_with fail
          refine wpIn_wide.2 ?_
          apply wp_via (W3.drew.setCell ⟨b, 8, none⟩ (.slice (some ⟨g', 0, none⟩) 0 k'))
          · go_region
            all_goals exact ⟨rfl, rfl⟩
          have hg3 : W3.grownBy (W3.drew.setCell ⟨b, 8, none⟩ (.slice (some ⟨g', 0, none⟩) 0 k')) (some b) := ⟨rfl, rfl, rfl, by simp, fun j hj hne => Below.heap_setCell _ _ _ _ (fun e => hne (by rw [e]))⟩
          have hp4 := (Below.heap_setCell W3.drew ⟨b, 8, none⟩ (.slice (some ⟨g', 0, none⟩) 0 k') p hpb).trans HP3.out
          have hq4 := (Below.heap_setCell W3.drew ⟨b, 8, none⟩ (.slice (some ⟨g', 0, none⟩) 0 k') q hqb).trans HQ3.out
          have hS4 := HS64.out.drew.setV H8.out (.slice (some ⟨g', 0, none⟩) 0 k')
          have ho4 : (W3.drew.setCell ⟨b, 8, none⟩ (.slice (some ⟨g', 0, none⟩) 0 k')).ownsRow B 5 1 (.slice (some ⟨g', 0, none⟩) 0 k') 0 [] :=
            own_other (own_cut HGO.out) (fun r hr => by
              simp only [Value.ownBlock, Option.some.injEq] at hr
              subst hr
              exact Below.heap_setCell _ _ _ _ hgb)
          have hJ4 : J (c / 64 - c0 / 64) (W3.drew.setCell ⟨b, 8, none⟩ (.slice (some ⟨g', 0, none⟩) 0 k')) :=
            H2.out _ _ _ (H1.out _ _ _ none HJ3.out ⟨rfl, rfl, rfl, Nat.le_refl _, fun _ _ _ => rfl⟩ (fun r hr => by cases hr))
          generalize W3.drew.setCell ⟨b, 8, none⟩ (.slice (some ⟨g', 0, none⟩) 0 k') = W4 at hp4 hq4 hS4 ho4 hJ4 ⊢
          have hHR := HR.out
          obtain ⟨fn, tmps, assign, body, hy, hR⟩ := HY.out (c / 64 - c0 / 64) W4 hJ4 (by have := HCL.out; have := HCN.out; have := H64.out; omega)
          rw [show c0 / 64 + (c / 64 - c0 / 64) = c / 64 by omega, ← HZ.out] at hy
          have HP4 := Lib.hid hp4
          have HQ4 := Lib.hid hq4
          have HS4 := Lib.hid hS4
          have HO4 := Lib.hid ho4
          clear hp4 hq4 hS4 ho4 hJ4 hg3 hHR xp3 fp3 xq3 fq3 xb3 fb3 hcv HP3 HQ3 HJ3 HS64 HGO
          gi_wp2_with fail
          refine hR.mono ?_
          rintro e5 W5 ⟨rfl, hJ5, hk5⟩
          gi_wp2_with fail
          obtain ⟨hg5, hst5⟩ := hk5
          obtain ⟨h5, h58, hS5⟩ := hst5 _ _ _ HS4.out H8.out
          have hp5 := (hg5.block p (Array.getElem?_eq_some_iff.1 HP4.out).1 (fun e => hpb (by cases e; rfl))).trans HP4.out
          have hq5 := (hg5.block q (Array.getElem?_eq_some_iff.1 HQ4.out).1 (fun e => hqb (by cases e; rfl))).trans HQ4.out
          have h1 := HCN.out
          have h2 := H64.out
          have h3 := HR.out
          have h4 := HM.out
          refine ⟨⟨c + nn, h5, _, by omega, by omega, h58, by rw [hp5, HS2.out], hq5, hS5, ?_, ?_⟩, ?_⟩
          · rw [restL_nil L (c + nn) (by omega), show (c + nn) % 64 = 0 by omega]
            exact own_other HO4.out (fun r hr => by
              simp only [Value.ownBlock, Option.some.injEq] at hr
              subst hr
              exact hg5.block g' (HO4.out.lt g' rfl).2 (fun e => hgb (by cases e; rfl)))
          · rw [show (c + nn) / 64 - c0 / 64 = c / 64 - c0 / 64 + 1 by omega]
            exact hJ5
          · rw [xp, (one_cell hp5).1]
            show S2.size < S.size
            rw [HS2.out, hs]
            show (L.drop (c + nn)).toArray.size < _
            rw [List.size_toArray, List.length_drop]
            omega
    · have hm1 : m = 0 := by omega
      have he : S.toList.isEmpty = true := by
        rw [ByteArray.toList_eq]
        have : S.data.toList.length = m := hs
        cases hd : S.data.toList with
        | nil => rfl
        | cons x y => rw [hd] at this; simp at this; omega
      have hS0 : S.toList = [] := by simpa using he
      have hcl : c = L.length := by omega
      have HS := Lib.hid hS
      have HO := Lib.hid ho
      have HJ := Lib.hid hJ
      have HCL := Lib.hid hcl
      clear hSe h8 hr hm hg hlt hS ho hp hq hm1 hs hJ hcl
      gi_wp2_with fail
      go_end0
      refine ⟨⟨_, rfl⟩, ?_, h, _, H8.out, HS.out, ?_⟩
      · rw [← HCL.out]; exact HJ.out
      · rw [← HCL.out, ← HR.out]; exact HO.out

end Go.Proofs.Ytembegffmodlhaa
