/- The walk of CrcBack. -/
import Derived.Test.YtnongjllkaaehaaF
import Derived.Test.YtnongjllkaaehaaN
import Derived.Deep.DeepCutAuto
namespace Go.Proofs.Ytnongjllkaaehaa
open Go.RowKit

/-- What the walk is told of a slice of numbers that came in. -/
def IsRow (k : IntKind) (w : World) (a : Option Addr) (len cap : Nat) (zs : List Int) : Prop :=
  (a = none ∧ len = 0 ∧ cap = 0 ∧ zs = []) ∨
  ∃ x, a = some x ∧ len ≤ cap ∧ cap ≤ maxLen ∧ zs.length = cap ∧ (∀ i, i < zs.length → w.cell? (x.add i) = some (.int k (zs.getD i 0))) ∧ ∀ n ∈ zs, (Lit.int k n).wf = true

/-- A row of bytes of the call's own. -/
structure Byts (W : World) (b : Nat) (l : List Int) : Prop where
  cell : ∀ j, j < l.length → W.cell? ⟨b, j, none⟩ = some (.int .u8 (l.getD j 0))
  frozen : ∀ j, j < l.length → W.frozen? ⟨b, j, none⟩ = false
theorem Byts.set {W : World} {b : Nat} {l : List Int} (h : Byts W b l) (i : Nat) (hi : i < l.length) (v : Int) : Byts (W.setCell ⟨b, i, none⟩ (.int .u8 v)) b (l.set i v) := by
  refine ⟨fun j hj => ?_, fun j hj => ?_⟩
  · rw [List.length_set] at hj
    by_cases e : j = i
    · subst e
      rw [World.cell?_setCell_same _ _ _ (h.cell j hj)]
      simp [List.getD_eq_getElem?_getD, hj]
    · rw [World.cell?_setCell_other _ _ _ _ (by intro he; injection he with _ h2; omega), h.cell j hj, List.getD_eq_getElem?_getD, List.getD_eq_getElem?_getD, List.getElem?_set_ne (by omega)]
  · rw [List.length_set] at hj
    rw [World.frozen?_setCell]; exact h.frozen j hj
theorem Byts.drew {W : World} {b : Nat} {l : List Int} (h : Byts W b l) : Byts W.drew b l := ⟨h.cell, h.frozen⟩
theorem Byts.made (w : World) (s : ByteArray) : Byts (Lib.bytesWorld w 5 s) w.heap.size (s.data.toList.map fun c => (c.toNat : Int)) := by
  refine ⟨fun j hj => ?_, fun j hj => ?_⟩
  · have hj' : j < s.size := by simpa using hj
    rw [Lib.bytesWorld_cell w 5 s j hj']
    rw [List.getD_eq_getElem?_getD, List.getD_eq_getElem?_getD, List.getElem?_map, List.getElem?_eq_getElem (show j < s.data.toList.length from hj')]
    rfl
  · have hj' : j < s.size := by simpa using hj
    simp [World.frozen?, Lib.bytesWorld_at_new, Lib.bytesCells]
    omega
theorem Byts.string {P : Program} {W : World} {b : Nat} {l : List Int} (h : Byts W b l) (src dst e : TypeId) (hs : P.underlying src = some (.slice e)) (he : P.underlying e = some (.int .u8)) (hd : P.underlying dst = some .string) (n cap : Nat) (hn : l.length = n) :
    (convert src dst (.slice (some ⟨b, 0, none⟩) n cap)).run P W = .ok (.string (strOfNums l)) W :=
  run_convert_bytes_arg W src e hs he b 0 n cap l hn (fun i hi => by rw [Nat.zero_add]; exact h.cell i (by omega)) dst hd

theorem fourL_data (n : Int) : (four n).data.toList = fourL n := rfl
theorem body_data (s : ByteArray) : (body s).data.toList = s.data.toList.take (s.size - 4) := by
  unfold body
  rw [ByteArray.data_extract]; simp
theorem tells_fold (s : ByteArray) (h4 : 4 ≤ s.size) : Tells s ↔ s.data.toList.foldl rndN ones = res := by
  have hl : s.data.toList.length = s.size := rfl
  have e : s.data.toList = s.data.toList.take (s.size - 4) ++ s.data.toList.drop (s.size - 4) := (List.take_append_drop ..).symm
  have h := tells_list (s.data.toList.take (s.size - 4)) (s.data.toList.drop (s.size - 4)) (by rw [List.length_drop]; omega)
  rw [← e] at h
  rw [← h]
  unfold Tells
  constructor
  · rintro ⟨_, h⟩
    have h1 := congrArg (fun b : ByteArray => b.data.toList) h
    simp only [putB] at h1
    rw [ByteArray.data_append, Array.toList_append, fourL_data, body_data] at h1
    have h2 := h1.trans e
    rwa [List.append_right_inj] at h2
  · intro h
    refine ⟨h4, ByteArray.ext (Array.toList_inj.1 ?_)⟩
    unfold putB
    rw [ByteArray.data_append, Array.toList_append, fourL_data, body_data, h]
    exact e.symm


/-- Whether any of some numbers is not nought. -/
def anyN (zs : List Int) (m : Nat) : Bool := (zs.take m).any (· != 0)
theorem anyN_succ (zs : List Int) (m : Nat) (h : m < zs.length) : anyN zs (m + 1) = (anyN zs m || zs.getD m 0 != 0) := by
  unfold anyN
  rw [List.take_succ_eq_append_getElem h, List.any_append, List.getD_eq_getElem?_getD, List.getElem?_eq_getElem h]
  simp
theorem anyN_false (zs : List Int) (m : Nat) (hm : m ≤ zs.length) : anyN zs m = false ↔ ∀ j, j < m → zs.getD j 0 = 0 := by
  induction m with
  | zero => simp [anyN]
  | succ m ih =>
    rw [anyN_succ zs m (by omega), Bool.or_eq_false_iff, ih (by omega)]
    constructor
    · rintro ⟨h1, h2⟩ j hj
      by_cases e : j = m
      · subst e; simpa using h2
      · exact h1 j (by omega)
    · intro h
      exact ⟨fun j hj => h j (by omega), by rw [h m (by omega)]; rfl⟩

set_option maxHeartbeats 1600000 in
theorem walkBack1 (a0 : ByteArray) (a1 : Nat) (a2 : Option Addr) (len2 cap2 : Nat) (z2 : List Int) (w : World) (h0 : a0.size ≤ 500) (_h1 : a1 ≤ 65535) (hz : len2 ≤ z2.length) (hbd : ∀ j, j < len2 → 0 ≤ z2.getD j 0 ∧ z2.getD j 0 ≤ 255)
    (hlen : (len2 : Int) ≤ 9223372036854775807)
    (b off : Nat) (ha : 0 < len2 → a2 = some ⟨b, off, none⟩ ∧ b < w.heap.size) (hcells : ∀ j, j < len2 → w.cell? ⟨b, off + j, none⟩ = some (.int .u8 (z2.getD j 0))) :
    Calls Try.prog 7 #[.string a0, .int .u16 a1, .slice a2 len2 cap2] w fun e w' => e = .returned (.bool true) ∧ Below w.heap.size w w' := by
  have hz0 : a0.size ≤ 140737488351232 := by omega
  obtain ⟨p, hp⟩ : ∃ p, p = putB a0 := ⟨_, rfl⟩
  have hps : p.size = a0.size + 4 := by rw [hp]; unfold putB; rw [ByteArray.size_append, four_size]
  have hbp : body p = a0 := by
    rw [hp]
    apply ByteArray.ext
    apply Array.toList_inj.1
    rw [body_data]
    have : (putB a0).size = a0.size + 4 := by rw [← hp]; exact hps
    rw [this]
    unfold putB
    rw [ByteArray.data_append, Array.toList_append]
    simp
  have htp : Tells p := ⟨by omega, by rw [hbp]; exact hp.symm⟩
  have hput := put_any a0 hz0
  rw [← hp] at hput
  have hget := fun w => (get_any p (by omega) w).1 htp
  rw [hbp] at hget
  have hconv := fun w => Lib.run_convert_string_bytes (P := Try.prog) w 9 22 5 p Try.underlying9 Try.underlying22 Try.underlying5
  have hfold := (tells_fold p (by omega)).1 htp
  have e0 : (a0.toList == a0.toList) = true := by simp
  have HP := Lib.hid hput
  have HG := Lib.hid hget
  clear hput hget hp hbp htp
  have d0 : decide (500 < (a0.size : Int)) = false := decide_eq_false (by omega)
  have hps' : (p.size : Int) = (a0.size : Int) + 4 := by omega
  obtain ⟨K, hK, hKlt⟩ : ∃ K : Nat, (a1 : Int) % ((a0.size : Int) + 4) = (K : Int) ∧ K < a0.size + 4 := ⟨a1 % (a0.size + 4), by simp, Nat.mod_lt _ (by omega)⟩
  have HK := Lib.hid hK
  clear hK
  have HA := Lib.hid ha
  have HC := Lib.hid hcells
  have HBD := Lib.hid hbd
  have HF := Lib.hid hfold
  clear ha hcells hbd hfold
  go_enter Try.func7, Try.ntmps7
  go_wp2_with fail
  refine (HP.out _).mono ?_
  rintro e w1 ⟨rfl, hb1⟩
  go_wp2_with fail
  refine (HG.out _).mono ?_
  rintro e w2 ⟨rfl, hb2⟩
  go_wp2_with fail
  have hby := Byts.made w2 p
  have hB : Below w.heap.size w (Lib.bytesWorld w2 5 p) := below_trans' (below_trans' hb1 hb2) ⟨rfl, rfl, rfl, by rw [Lib.bytesWorld_size]; omega, fun k hk => Lib.bytesWorld_at_old _ _ _ _ hk⟩
  have hw2 : w.heap.size ≤ w2.heap.size := (below_trans' hb1 hb2).size
  have hpl : (p.data.toList.map fun c => (c.toNat : Int)).length = a0.size + 4 := by simpa using hps
  clear hb1 hb2 hconv
  have hK := HK.out
  simp only [hK]
  clear hK
  generalize Lib.bytesWorld w2 5 p = W0 at hby hB ⊢
  generalize hB0 : w2.heap.size = B at hby hw2 ⊢
  generalize grownCap w2 (a0.size + 4) 0 5 = gc
  clear hB0
  go_loopw [12, 13] (fun od i wr => ∃ k : Nat, k ≤ len2 ∧ k ≤ 4 ∧ K + k ≤ a0.size + 4 ∧ i = .int .i64 k ∧ od = .bool (anyN z2 k) ∧ Byts wr B (turnI (p.data.toList.map fun c => (c.toNat : Int)) K z2 k) ∧ Below w.heap.size w wr) (fun _ i _ => 4 - (intOf i).toNat)
  case atStart => exact ⟨0, by omega, by omega, by omega, rfl, rfl, hby, hB⟩
  case round =>
    obtain ⟨k, hk1, hk2, hk3, rfl, rfl, hBy, hBl⟩ := hrel
    clear hby hB
    have HBy := Lib.hid hBy
    have HAS := Lib.hid (anyN_succ z2 k)
    have HAF := Lib.hid (anyN_false z2 k (by omega))
    obtain ⟨o, ho⟩ : ∃ o, anyN z2 k = o := ⟨_, rfl⟩
    have HO := Lib.hid ho
    rw [ho]
    clear ho hBy
    by_cases hgo : k < len2 ∧ k < 4 ∧ K + k < a0.size + 4
    · obtain ⟨g1, g2, g3⟩ := hgo
      obtain ⟨rfl, hbl⟩ := HA.out (by omega)
      have i1 : decide ((k : Int) < (len2 : Int)) = true := decide_eq_true (by omega)
      have i2 : decide ((k : Int) < 4) = true := decide_eq_true (by omega)
      have i3 : decide ((K : Int) + (k : Int) < (a0.size : Int) + 4) = true := decide_eq_true (by omega)
      have hcb := HBy.out.cell (K + k) (by rw [turnI_length, hpl]; omega)
      have hfb := HBy.out.frozen (K + k) (by rw [turnI_length, hpl]; omega)
      have hca := (hBl.cell (p := ⟨b, off + k, none⟩) hbl).trans (HC.out k g1)
      obtain ⟨x, hx⟩ : ∃ x, x = (turnI (p.data.toList.map fun c => (c.toNat : Int)) K z2 k).getD (K + k) 0 := ⟨_, rfl⟩
      obtain ⟨z, hzz⟩ : ∃ z, z = z2.getD k 0 := ⟨_, rfl⟩
      rw [← hx] at hcb
      rw [← hzz] at hca
      have HX := Lib.hid hx
      have HZ := Lib.hid hzz
      clear hx hzz
      cases o
      · go_wp2_with fail
        go_region
        go_wp2
        go_roundw
        case rel =>
          refine ⟨k + 1, by omega, by omega, by omega, by go_num, ?_, ?_, (hBl.setCell (p := ⟨B, K + k, none⟩) hw2 _).drew⟩
          · rw [HAS.out (by omega), HO.out]; first | rfl | (rw [HZ.out]; rfl)
          · rw [HX.out, HZ.out]
            exact (HBy.out.set (K + k) (by rw [turnI_length, hpl]; omega) _).drew
        case measure => simp [intOf]; omega
      · go_wp2_with fail
        go_region
        go_wp2
        go_roundw
        case rel =>
          refine ⟨k + 1, by omega, by omega, by omega, by go_num, ?_, ?_, (hBl.setCell (p := ⟨B, K + k, none⟩) hw2 _).drew⟩
          · rw [HAS.out (by omega), HO.out]; first | rfl | (rw [HZ.out]; rfl)
          · rw [HX.out, HZ.out]
            exact (HBy.out.set (K + k) (by rw [turnI_length, hpl]; omega) _).drew
        case measure => simp [intOf]; omega
    · obtain ⟨q, hq⟩ : ∃ q, q = strOfNums (turnI (p.data.toList.map fun c => (c.toNat : Int)) K z2 k) := ⟨_, rfl⟩
      have hql : (turnI (p.data.toList.map fun c => (c.toNat : Int)) K z2 k).length = a0.size + 4 := by rw [turnI_length, hpl]
      have hqs : q.size = a0.size + 4 := by rw [hq, strOfNums_size, hql]
      have hTq : Tells q ↔ o = false := by
        rw [tells_fold q (by omega), hq, back_law p.data.toList K z2 k hk2 (by omega) (by have : p.data.toList.length = p.size := rfl; omega) (fun j hj => HBD.out j (by omega)) HF.out, ← HAF.out, HO.out]
      have hG : ∃ x, ∀ w, Calls Try.prog 12 #[.string q] w fun e w' => e = .returned (.tuple #[.string x, .bool (!o)]) ∧ Below w.heap.size w w' := by
        cases o
        · exact ⟨body q, fun w => (get_any q (by omega) w).1 (hTq.2 rfl)⟩
        · exact ⟨ByteArray.empty, fun w => (get_any q (by omega) w).2 (fun h => by have := hTq.1 h; cases this)⟩
      obtain ⟨x, hG⟩ := hG
      have HG2 := Lib.hid hG
      have hS := HBy.out.string (P := Try.prog) 22 9 5 Try.underlying22 Try.underlying5 Try.underlying9 (a0.size + 4) gc hql
      rw [← hq] at hS
      have hsl : ∀ w, (Instr.slice 9 (.string p) none (some (.int .i64 3)) none).run Try.prog w = .ok (.string (p.extract 0 3)) w := fun w => run_slice_string_hi 9 Try.underlying9 p 3 (by omega) w
      have hp3 : (p.extract 0 3).size < 4 := by rw [ByteArray.size_extract]; omega
      obtain ⟨r, hr⟩ : ∃ r, r = p.extract 0 3 := ⟨_, rfl⟩
      simp only [← hr] at hsl hp3
      clear hq hql hTq hG hr
      have hex : (k = len2 ∨ k < len2 ∧ k = 4) ∨ (k < len2 ∧ k < 4 ∧ K + k = a0.size + 4) := by omega
      clear hgo
      rcases hex with (he | ⟨he1, he2⟩) | ⟨he1, he2, he3⟩
      · have i1 : (len2 : Int) ≤ (k : Int) := by omega
        clear he
        have hS' := hS
        go_wp2_with fail
        refine (HG2.out _).mono ?_
        rintro e w3 ⟨rfl, hb3⟩
        go_wp2_with fail
        refine (get_short r hp3 _).mono ?_
        rintro e w4 ⟨rfl, hb4⟩
        have hbz := below_trans' (below_trans' hBl hb3) hb4
        clear hb3 hb4 hBl
        cases o
        all_goals
          go_wp2_with fail
          refine (awake_any _).mono ?_
          rintro e w5 ⟨rfl, hb5⟩
          go_wp2_with fail
          go_ret
          exact ⟨rfl, below_trans' hbz hb5⟩
      · have i1 : (k : Int) < (len2 : Int) := by omega
        have i2 : (4 : Int) ≤ (k : Int) := by omega
        clear he1 he2
        have hS' := hS
        go_wp2_with fail
        refine (HG2.out _).mono ?_
        rintro e w3 ⟨rfl, hb3⟩
        go_wp2_with fail
        refine (get_short r hp3 _).mono ?_
        rintro e w4 ⟨rfl, hb4⟩
        have hbz := below_trans' (below_trans' hBl hb3) hb4
        clear hb3 hb4 hBl
        cases o
        all_goals
          go_wp2_with fail
          refine (awake_any _).mono ?_
          rintro e w5 ⟨rfl, hb5⟩
          go_wp2_with fail
          go_ret
          exact ⟨rfl, below_trans' hbz hb5⟩
      · have i1 : (k : Int) < (len2 : Int) := by omega
        have i2 : (k : Int) < 4 := by omega
        have i3 : (a0.size : Int) + 4 ≤ (K : Int) + (k : Int) := by omega
        clear he1 he2 he3
        have hS' := hS
        go_wp2_with fail
        refine (HG2.out _).mono ?_
        rintro e w3 ⟨rfl, hb3⟩
        go_wp2_with fail
        refine (get_short r hp3 _).mono ?_
        rintro e w4 ⟨rfl, hb4⟩
        have hbz := below_trans' (below_trans' hBl hb3) hb4
        clear hb3 hb4 hBl
        cases o
        all_goals
          go_wp2_with fail
          refine (awake_any _).mono ?_
          rintro e w5 ⟨rfl, hb5⟩
          go_wp2_with fail
          go_ret
          exact ⟨rfl, below_trans' hbz hb5⟩

set_option maxHeartbeats 800000 in
theorem walkBack (a0 : ByteArray) (a1 : Int) (a2 : Option Addr) (len2 cap2 : Nat) (z2 : List Int) (w : World) (_w0 : a0.size ≤ maxLen) (w1 : (Lit.int .u16 a1).wf = true) (w2 : IsRow .u8 w a2 len2 cap2 z2) :
    Calls Try.prog 7 #[.string a0, .int .u16 a1, .slice a2 len2 cap2] w fun e w' => e = .returned (.bool true) ∧ Below w.heap.size w w' := by
  obtain ⟨b0, b1⟩ := wf_u16_bd w1
  obtain ⟨A, rfl⟩ := Int.eq_ofNat_of_zero_le b0
  by_cases h0 : a0.size ≤ 500
  · rcases w2 with ⟨rfl, rfl, rfl, rfl⟩ | ⟨x, rfl, hl, hm, hzl, hcell, hwf⟩
    · exact walkBack1 a0 A none 0 0 [] w h0 (by omega) (by simp) (fun j hj => by omega) (by omega) 0 0 (fun h => by omega) (fun j hj => by omega)
    · have hbd : ∀ j, j < len2 → 0 ≤ z2.getD j 0 ∧ z2.getD j 0 ≤ 255 := fun j hj => by
        refine wf_u8_bd (hwf _ ?_)
        rw [List.getD_eq_getElem?_getD, List.getElem?_eq_getElem (show j < z2.length by omega)]
        exact List.getElem_mem _
      have hlen : (len2 : Int) ≤ 9223372036854775807 := by unfold maxLen at hm; omega
      by_cases hp : 0 < len2
      · obtain ⟨b, off, rfl, hlt⟩ : ∃ b off, x = ⟨b, off, none⟩ ∧ b < w.heap.size := by
          have h1 := hcell 0 (by omega)
          have h2 := World.block_lt_of_cell? w _ h1
          obtain ⟨b, off, spot⟩ := x
          cases spot with
          | none => exact ⟨b, off, rfl, by simpa [Addr.add] using h2⟩
          | some s =>
            exfalso
            simp [Addr.add, World.cell?] at h1
            split at h1 <;> simp at h1
        exact walkBack1 a0 A _ len2 cap2 z2 w h0 (by omega) (by omega) hbd hlen b off (fun _ => ⟨rfl, hlt⟩) (fun j hj => by
          have := hcell j (by omega)
          rwa [Addr.add_lit] at this)
      · obtain rfl : len2 = 0 := by omega
        exact walkBack1 a0 A _ 0 cap2 z2 w h0 (by omega) (by omega) (fun j hj => by omega) (by omega) 0 0 (fun h => by omega) (fun j hj => by omega)
  · have d0 : decide (500 < (a0.size : Int)) = true := decide_eq_true (by omega)
    clear w2
    go_enter Try.func7, Try.ntmps7
    go_wp2_with (go_at_call 9; refine (awake_any _).mono ?_; rintro e wA ⟨rfl, hbA⟩)
    go_ret
    exact ⟨rfl, hbA⟩

end Go.Proofs.Ytnongjllkaaehaa
