/- Small words on rows of whole numbers in memory. -/
import Derived.WalkKit
import Derived.WalkSpells
import Derived.WalkLawsBesides
import Derived.Deep.LoopGhost
import Derived.Lib.Hide
import Derived.Lib.ConvBytes
import Derived.Laws.BytesArg
import Derived.Deep.OwnRows
import Derived.Deep.AppendLies
import Derived.OwnWalk
import Derived.KernelRfl
import Derived.Maps.AppendAt
import Derived.Outline
import Derived.Deep.QuietTactic
import Derived.BigQuiet
import Derived.BigRegion
import Derived.Deep.RegionHeld3
namespace Go.Proofs.Ytaalfjngehlojaa
open Go.RowKit

theorem ret_int {k : IntKind} {a b : Int} (h : a = b) : Ending.returned (.int k a) = .returned (.int k b) := by rw [h]
theorem ret_bool {a b : Bool} (h : a = b) : Ending.returned (.bool a) = .returned (.bool b) := by rw [h]
theorem ret_str {a b : ByteArray} (h : a = b) : Ending.returned (.string a) = .returned (.string b) := by rw [h]
theorem take_snoc {α β : Type} (l : List α) (k : Nat) {d : α} (h : k < l.length) (f : β → α → β) (b : β) : (l.take (k + 1)).foldl f b = f ((l.take k).foldl f b) (l.getD k d) := by
  rw [List.take_succ_eq_append_getElem h, List.foldl_append, List.getD_eq_getElem?_getD, List.getElem?_eq_getElem h]; rfl
theorem own_cells {w : World} {base e n : Nat} {v : Value} {k : IntKind} {xs : List Int} (h : w.ownsRow base e 1 v n (xs.map (Value.int k))) (hn : 0 < n) :
    ∃ b cap, v = .slice (some ⟨b, 0, none⟩) n cap ∧ base ≤ b ∧ b < w.heap.size ∧ ∀ j, j < n → w.cell? ⟨b, j, none⟩ = some (.int k (xs.getD j 0)) := by
  obtain ⟨g, cap, rfl, _, _⟩ := h.form hn
  have hl : xs.length = n := by have := h.1; simpa using this
  refine ⟨g, cap, rfl, (h.lt g rfl).1, (h.lt g rfl).2, fun j hj => ?_⟩
  have := h.cells (g := g) rfl j (.int k (xs.getD j 0)) (by simp [List.getElem?_eq_getElem (show j < xs.length by omega), List.getD_eq_getElem?_getD])
  rwa [Addr.add_lit, Nat.zero_add] at this

/-- Block b is a row of numbers. -/
structure Row (W : World) (b : Nat) (t : TypeId) (k : IntKind) (l : List Int) : Prop where
  mk :: (out : W.heap[b]? = some (.cells (l.map (Value.int k)).toArray t (0, 0)))
theorem Row.lt {W : World} {b t : Nat} {k : IntKind} {l : List Int} (h : Row W b t k l) : b < W.heap.size := (Array.getElem?_eq_some_iff.1 h.out).1
theorem Row.cell {W : World} {b t : Nat} {k : IntKind} {l : List Int} (h : Row W b t k l) (j : Nat) (hj : j < l.length) : W.cell? ⟨b, j, none⟩ = some (.int k (l.getD j 0)) := by
  simp [World.cell?, h.out, List.getD_eq_getElem?_getD, List.getElem?_eq_getElem hj]
theorem Row.frozen {W : World} {b t : Nat} {k : IntKind} {l : List Int} (h : Row W b t k l) (j : Nat) : W.frozen? ⟨b, j, none⟩ = false := by
  simp [World.frozen?, h.out]
theorem Row.made (W : World) (t : TypeId) (k : IntKind) (n : Nat) : Row (W.alloc (.cells (madeCells #[.int k 0] n) t)) W.heap.size t k (List.replicate n 0) := by
  refine ⟨?_⟩
  rw [heap_alloc_new]
  congr 2
  unfold madeCells
  apply Array.ext'
  simp [Nat.mod_one, List.map_const']
theorem Row.set {W : World} {b t : Nat} {k : IntKind} {l : List Int} (h : Row W b t k l) (j : Nat) (v : Int) : Row (W.setCell ⟨b, j, none⟩ (.int k v)) b t k (l.set j v) := by
  refine ⟨?_⟩
  have := h.out
  simp only [World.setCell, Array.getElem?_modify, this]
  simp [List.map_set]
theorem Row.other {W : World} {b t : Nat} {k : IntKind} {l : List Int} (h : Row W b t k l) {a : Addr} (ha : b ≠ a.block) (v : Value) : Row (W.setCell a v) b t k l :=
  ⟨by rw [Below.heap_setCell _ _ _ _ ha]; exact h.out⟩
theorem Row.below {B : Nat} {W W' : World} {b t : Nat} {k : IntKind} {l : List Int} (h : Row W b t k l) (hB : Below B W W') (hb : b < B) : Row W' b t k l :=
  ⟨(hB.block b hb).trans h.out⟩
theorem Row.alloc {W : World} {b t : Nat} {k : IntKind} {l : List Int} (h : Row W b t k l) (o : Obj) : Row (W.alloc o) b t k l :=
  ⟨(Below.heap_alloc _ _ _ h.lt).trans h.out⟩
theorem Row.drew {W : World} {b t : Nat} {k : IntKind} {l : List Int} (h : Row W b t k l) : Row W.drew b t k l := ⟨h.out⟩
theorem Row.drewN {W : World} {b t : Nat} {k : IntKind} {l : List Int} (h : Row W b t k l) (n : Nat) : Row (W.drewN n) b t k l := ⟨h.out⟩
theorem Row.string {P : Program} {W : World} {b t : Nat} {l : List Int} (h : Row W b t .u8 l) (src dst e : TypeId) (hs : P.underlying src = some (.slice e)) (he : P.underlying e = some (.int .u8)) (hd : P.underlying dst = some .string) (n cap : Nat) (hn : l.length = n) :
    (convert src dst (.slice (some ⟨b, 0, none⟩) n cap)).run P W = .ok (.string (strOfNums l)) W :=
  run_convert_bytes_arg W src e hs he b 0 n cap l hn (fun i hi => by rw [Nat.zero_add]; exact h.cell i (by omega)) dst hd

theorem below_drewN' {B : Nat} {w W : World} (h : Below B w W) (n : Nat) : Below B w (W.drewN n) := ⟨h.os, h.tape, h.output, h.size, h.block⟩
theorem below_alloc' {w W : World} (h : Below w.heap.size w W) (o : Obj) : Below w.heap.size w (W.alloc o) := h.alloc h.size o
theorem below_drew' {B : Nat} {w W : World} (h : Below B w W) : Below B w W.drew := h.drew
theorem bcell {W w1 : World} (hb : Below W.heap.size W w1) : (∀ b o, b < W.heap.size → w1.cell? ⟨b, o, none⟩ = W.cell? ⟨b, o, none⟩) ∧ (∀ b o, b < W.heap.size → w1.frozen? ⟨b, o, none⟩ = W.frozen? ⟨b, o, none⟩) :=
  ⟨fun b o h => hb.cell (p := ⟨b, o, none⟩) h, fun b o h => hb.frozen (p := ⟨b, o, none⟩) h⟩
theorem below_trans' {w w1 w2 : World} (h : Below w.heap.size w w1) (k : Below w1.heap.size w1 w2) : Below w.heap.size w w2 := h.trans (k.mono h.size)

theorem wf_u8_bd {x : Int} (h : (Lit.int .u8 x).wf = true) : 0 ≤ x ∧ x ≤ 255 := by
  simp [Lit.wf, IntKind.min, IntKind.max, IntKind.signed, IntKind.bits] at h; omega
theorem wf_u16_bd {x : Int} (h : (Lit.int .u16 x).wf = true) : 0 ≤ x ∧ x ≤ 65535 := by
  simp [Lit.wf, IntKind.min, IntKind.max, IntKind.signed, IntKind.bits] at h; omega
theorem wf_u64_bd {x : Int} (h : (Lit.int .u64 x).wf = true) : 0 ≤ x ∧ x ≤ 18446744073709551615 := by
  simp [Lit.wf, IntKind.min, IntKind.max, IntKind.signed, IntKind.bits] at h; omega
theorem wf_i64_bd {x : Int} (h : (Lit.int .i64 x).wf = true) : -9223372036854775808 ≤ x ∧ x ≤ 9223372036854775807 := by
  simp [Lit.wf, IntKind.min, IntKind.max, IntKind.signed, IntKind.bits] at h; omega
/-- What a cell holds, as a byte. -/
def isByte : Option Value → Bool | some (.int .u8 _) => true | _ => false
def byteOf : Option Value → Int | some (.int .u8 x) => x | _ => 0
theorem isByte_mk (x : Int) : isByte (some (.int .u8 x)) = true := rfl
theorem byteOf_mk (x : Int) : byteOf (some (.int .u8 x)) = x := rfl
theorem isByte_out {o : Option Value} (h : isByte o = true) : o = some (.int .u8 (byteOf o)) := by
  match o, h with
  | some (.int .u8 x), _ => rfl
theorem conv_one {P : Program} (src dst e : TypeId) (hs : P.underlying src = some (.slice e)) (he : P.underlying e = some (.int .u8)) (hd : P.underlying dst = some .string) (W : World) (b c : Nat)
    (h0 : isByte (W.cell? ⟨b, 0, none⟩) = true) :
    (convert src dst (.slice (some ⟨b, 0, none⟩) 1 c)).run P W = .ok (.string (strOfNums [byteOf (W.cell? ⟨b, 0, none⟩)])) W :=
  run_convert_bytes_arg W src e hs he b 0 1 c _ rfl (fun i hi => by
    obtain rfl : i = 0 := by omega
    exact isByte_out h0) dst hd
theorem conv_four {P : Program} (src dst e : TypeId) (hs : P.underlying src = some (.slice e)) (he : P.underlying e = some (.int .u8)) (hd : P.underlying dst = some .string) (W : World) (b c : Nat)
    (h0 : isByte (W.cell? ⟨b, 0, none⟩) = true) (h1 : isByte (W.cell? ⟨b, 1, none⟩) = true) (h2 : isByte (W.cell? ⟨b, 2, none⟩) = true) (h3 : isByte (W.cell? ⟨b, 3, none⟩) = true) :
    (convert src dst (.slice (some ⟨b, 0, none⟩) 4 c)).run P W = .ok (.string (strOfNums [byteOf (W.cell? ⟨b, 0, none⟩), byteOf (W.cell? ⟨b, 1, none⟩), byteOf (W.cell? ⟨b, 2, none⟩), byteOf (W.cell? ⟨b, 3, none⟩)])) W :=
  run_convert_bytes_arg W src e hs he b 0 4 c _ rfl (fun i hi => by
    rw [Nat.zero_add]
    match i, hi with
    | 0, _ => exact isByte_out h0
    | 1, _ => exact isByte_out h1
    | 2, _ => exact isByte_out h2
    | 3, _ => exact isByte_out h3) dst hd

end Go.Proofs.Ytaalfjngehlojaa
