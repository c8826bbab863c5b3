/- The walk of CrcMix. -/
import Derived.Test.YtnongjllkaaehaaE
import Derived.Test.YtnongjllkaaehaaK
namespace Go.Proofs.Ytnongjllkaaehaa
open Go.RowKit

theorem min2_int (k k' : IntKind) (x y : Int) : Builtin.min2 (.int k x) (.int k' y) = pure (.int k (if y < x then y else x)) := by simp only [Builtin.min2]
theorem min_four (ats : Array TypeId) (ty : TypeId) (a b c d : Value) : Builtin.min_ ats ty #[a, b, c, d] = (Builtin.min2 a b >>= fun s => Builtin.min2 s c >>= fun s => Builtin.min2 s d >>= fun s => pure s) := by simp only [Builtin.min_, List.foldlM_cons, List.foldlM_nil]
theorem run_min_four (P : Program) (w : World) (ats : Array TypeId) (ty : TypeId) (k : IntKind) (a b c d n : Nat) (h : n = min (min (min a b) c) d) :
    (Builtin.min_ ats ty #[.int k (a : Int), .int k (b : Int), .int k (c : Int), .int k (d : Int)]).run P w = .ok (.int k (n : Int)) w := by
  rw [min_four]
  simp only [min2_int, pure_bind, Sem.run_pure]
  congr 2
  subst h
  repeat' split
  all_goals omega

theorem set_upto {f : Nat → Int} {l : List Int} {k : Nat} {v : Int} (h : ∀ j, j < k → l.getD j 0 = f j) (hk : k < l.length) (hv : v = f k) (j : Nat) (hj : j < k + 1) : (l.set k v).getD j 0 = f j := by
  by_cases e : j = k
  · subst e; simp [List.getD_eq_getElem?_getD, hk, hv]
  · have := h j (by omega)
    rw [List.getD_eq_getElem?_getD] at this ⊢
    rw [List.getElem?_set_ne (by omega)]; exact this
theorem getD_byte (s : ByteArray) (k : Nat) (h : k < s.size) : s.data.toList.getD k 0 = s[k] := by
  simp [List.getD_eq_getElem?_getD, h]; rfl
/-- A byte of the mixed text. -/
def mixB (a b c : ByteArray) (j : Nat) : Int := Go.bits .xor .u8 (Go.bits .xor .u8 (a.data.toList.getD j 0).toNat (b.data.toList.getD j 0).toNat) (c.data.toList.getD j 0).toNat

theorem mixed (a b c : ByteArray) (k : Nat) (l : List Int) (hl : l.length = k) (h : ∀ j, j < k → l.getD j 0 = mixB a b c j) (ha : k ≤ a.size) (hb : k ≤ b.size) (hc : k ≤ c.size) :
    Go.bits .xor .u32 (Go.bits .xor .u32 (sumL (a.data.toList.take k)) (sumL (b.data.toList.take k))) (sumL (c.data.toList.take k)) = sumL (strOfNums l).data.toList := by
  have ha' : k ≤ a.data.toList.length := ha
  have hb' : k ≤ b.data.toList.length := hb
  have hc' : k ≤ c.data.toList.length := hc
  have e : (strOfNums l).data.toList = List.zipWith (· ^^^ ·) (List.zipWith (· ^^^ ·) (a.data.toList.take k) (b.data.toList.take k)) (c.data.toList.take k) := by
    rw [strOfNums_data]
    apply List.ext_getElem
    · simp [hl]; omega
    · intro j h1 h2
      have hj : j < k := by simpa [hl] using h1
      have hx := h j hj
      rw [List.getD_eq_getElem?_getD, List.getElem?_eq_getElem (by omega)] at hx
      simp only [Option.getD_some] at hx
      rw [List.getElem_map, hx, List.getElem_zipWith, List.getElem_zipWith, List.getElem_take, List.getElem_take, List.getElem_take]
      unfold mixB
      simp only [List.getD_eq_getElem?_getD]
      rw [List.getElem?_eq_getElem (show j < a.data.toList.length by omega), List.getElem?_eq_getElem (show j < b.data.toList.length by omega), List.getElem?_eq_getElem (show j < c.data.toList.length by omega)]
      simp only [Option.getD_some]
      have h1 := a.data.toList[j].toNat_lt
      have h2 := b.data.toList[j].toNat_lt
      have h3 := c.data.toList[j].toNat_lt
      rw [bits_xor_u8 _ _ (by omega) (by omega), bits_xor_u8 _ _ (Nat.xor_lt_two_pow (n := 8) (by omega) (by omega)) (by omega)]
      rw [Int.toNat_natCast]
      apply UInt8.toNat_inj.1
      rw [UInt8.toNat_ofNat', UInt8.toNat_xor, UInt8.toNat_xor]
      exact Nat.mod_eq_of_lt (Nat.xor_lt_two_pow (n := 8) (Nat.xor_lt_two_pow (n := 8) (by omega) (by omega)) (by omega))
  rw [e, sumL_eq, sumL_eq, sumL_eq, sumL_eq, bits_xor_u32 _ _ (sumN_lt _) (sumN_lt _), bits_xor_u32 _ _ (xor_lt _ _ (sumN_lt _) (sumN_lt _)) (sumN_lt _)]
  rw [mix _ _ _ (by simp; omega) (by simp; omega)]

set_option maxHeartbeats 800000 in
theorem walkMix (a0 : ByteArray) (a1 : ByteArray) (a2 : ByteArray) (_w0 : a0.size ≤ maxLen) (_w1 : a1.size ≤ maxLen) (_w2 : a2.size ≤ maxLen) (w : World) :
    Calls Try.prog 3 #[.string a0, .string a1, .string a2] w fun e w' => e = .returned (.bool true) ∧ Below w.heap.size w w' := by
  obtain ⟨n, hn⟩ : ∃ n, n = min (min (min a0.size a1.size) a2.size) 300 := ⟨_, rfl⟩
  have hmin : ∀ w, (Builtin.min_ #[3, 3, 3, 3] 3 #[.int .i64 (a0.size : Int), .int .i64 (a1.size : Int), .int .i64 (a2.size : Int), .int .i64 300]).run Try.prog w = .ok (.int .i64 (n : Int)) w := fun w => run_min_four Try.prog w #[3, 3, 3, 3] 3 .i64 a0.size a1.size a2.size 300 n hn
  have hn1 : n ≤ 300 := by omega
  have hn2 : n ≤ a0.size := by omega
  have hn3 : n ≤ a1.size := by omega
  have hn4 : n ≤ a2.size := by omega
  have hmk := fun w => run_make_row' (P := Try.prog) 22 5 (.int .u8 0) 1 Try.underlying22 (by kernel_rfl) rfl .i64 .i64 n (by omega) (by omega) w
  clear hn
  go_enter Try.func3, Try.ntmps3
  go_wp2_with fail
  have hR0 := Row.made w 5 .u8 n
  have hB0 : Below w.heap.size w (w.alloc (.cells (madeCells #[.int .u8 0] n) 5)) := (Below.refl _ _).alloc (Nat.le_refl _) _
  clear hmin hmk
  go_loopw [9] (fun i wr => ∃ (k : Nat) (l : List Int), k ≤ n ∧ i = .int .i64 k ∧ l.length = n ∧ (∀ j, j < k → l.getD j 0 = mixB a0 a1 a2 j) ∧ Row wr w.heap.size 5 .u8 l ∧ Below w.heap.size w wr) (fun i _ => n - (intOf i).toNat)
  case atStart => exact ⟨0, _, by omega, rfl, by simp, fun j hj => by omega, hR0, hB0⟩
  case round =>
    obtain ⟨k, l, hk, rfl, hl, hm, hR, hB⟩ := hrel
    have HM := Lib.hid hm
    have HL := Lib.hid hl
    clear hm hl hR0 hB0
    by_cases hlt : k < n
    · have hf := hR.frozen k
      have hc := hR.cell k (by rw [HL.out]; exact hlt)
      have h1 : k < a0.size := by omega
      have h2 : k < a1.size := by omega
      have h3 : k < a2.size := by omega
      go_wp2_with fail
      go_region
      go_wp2
      go_roundw
      case rel =>
        refine ⟨k + 1, l.set k _, by omega, by go_num, by rw [List.length_set]; exact HL.out, ?_, (hR.set k _).drew, (hB.setCell (p := ⟨w.heap.size, k, none⟩) (Nat.le_refl _) _).drew⟩
        intro j hj
        exact set_upto HM.out (by rw [HL.out]; exact hlt) (by unfold mixB; rw [getD_byte _ _ h1, getD_byte _ _ h2, getD_byte _ _ h3]) j hj
      case measure => simp [intOf]; omega
    · obtain rfl : k = n := by omega
      obtain ⟨sb, hsb⟩ : ∃ sb, sb = strOfNums l := ⟨_, rfl⟩
      have hEQ : (Go.bits .xor .u32 (Go.bits .xor .u32 (sumL (a0.data.toList.take k)) (sumL (a1.data.toList.take k))) (sumL (a2.data.toList.take k)) == sumL sb.data.toList) = true := by
        rw [hsb, beq_iff_eq]; exact mixed a0 a1 a2 k l HL.out HM.out hn2 hn3 hn4
      have hsz : sb.size ≤ 140737488351232 := by rw [hsb, strOfNums_size, HL.out]; omega
      have hS : ∀ W, Below (w.heap.size + 1) wr W → (convert 22 9 (.slice (some ⟨w.heap.size, 0, none⟩) k k)).run Try.prog W = .ok (.string sb) W :=
        fun W hW => by rw [hsb]; exact (hR.below hW (by omega)).string (P := Try.prog) 22 9 5 Try.underlying22 Try.underlying5 Try.underlying9 k k HL.out
      clear hsb
      have hz : w.heap.size + 1 ≤ wr.heap.size := hR.lt
      go_wp2_with fail
      have hT : ∀ {W W' : World}, Below (w.heap.size + 1) wr W → Below W.heap.size W W' → Below (w.heap.size + 1) wr W' := fun h h' => h.trans (h'.mono (by have := h.size; omega))
      have hX : ∀ s : ByteArray, (s.extract 0 k).size ≤ 140737488351232 := fun s => by rw [ByteArray.size_extract]; omega
      go_region_held3 (fun W => Below (w.heap.size + 1) wr W) (first | exact (Below.refl _ _).drew | assumption) (first | (go_at_call 8; refine (sum_any _ (by first | exact hX _ | exact hsz) _).mono ?_; rintro e wA ⟨rfl, hbA⟩; have hbA' := hT (by assumption) hbA; clear hbA) | (go_at_call 9; refine (awake_any _).mono ?_; rintro e wA ⟨rfl, hbA⟩; have hbA' := hT (by assumption) hbA; clear hbA))
      all_goals go_wp2
      all_goals go_ret
      all_goals exact ⟨rfl, hB.trans (Below.mono ‹Below (w.heap.size + 1) wr _› (by omega))⟩

end Go.Proofs.Ytnongjllkaaehaa
