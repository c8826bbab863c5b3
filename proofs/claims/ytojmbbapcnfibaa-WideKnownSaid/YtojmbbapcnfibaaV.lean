/- Walks: the document's numbers of all steps. -/
import Derived.Test.YtojmbbapcnfibaaT
import Derived.Test.YtojmbbapcnfibaaRt
namespace Go.Proofs.Ytojmbbapcnfibaa
open Go.RowKit

theorem own_below {B : Nat} {e : TypeId} {k : Nat} {v : Value} {n : Nat} {xs : List Value} {w w' : World} (h : w.ownsRow B e k v n xs) (hb : Below w.heap.size w w') : w'.ownsRow B e k v n xs :=
  h.kept (row := none) ⟨hb.os, hb.tape, hb.output, hb.size, fun j hj _ => hb.block j hj⟩ (by cases hv : v.ownBlock <;> simp)
theorem own_mono {w : World} {B B' : Nat} {e : TypeId} {k : Nat} {v : Value} {n : Nat} {xs : List Value} (h : w.ownsRow B e k v n xs) (hb : B' ≤ B) : w.ownsRow B' e k v n xs := by
  refine ⟨h.1, ?_⟩
  rcases h.2 with h' | ⟨g, cap, cur, hv, hg, rest⟩
  · exact .inl h'
  · exact .inr ⟨g, cap, cur, hv, by omega, rest⟩

theorem idx42 (a b c d : Int) (w : World) : (Instr.index 42 (V4 a b c d) (.int .i64 0)).run Try.prog w = .ok (.int .u64 a) w := by
  show _ = _; kernel_rfl

set_option maxHeartbeats 1600000 in
theorem rconsts_any (w : World) :
    Calls Try.prog 9 #[] w fun e w' => ∃ v, e = .returned v ∧ w'.ownsRow w.heap.size 25 1 v 80 (constsL.map (Value.int .u64)) ∧ Below w.heap.size w w' := by
  obtain ⟨i0, hi, hz0, hz1, hz2⟩ := info_parts infoU64
  go_enter Try.func9, Try.ntmps9
  go_wp2_with fail
  refine (primes_any 80 (by decide) _).mono ?_
  rintro e W0 ⟨vp, rfl, hP, hB0⟩
  obtain ⟨op, cp, rfl, hg⟩ := own_shape hP
  obtain ⟨g, rfl⟩ := hg (by decide)
  clear hg
  have hpl : ((prL 408).take 80).length = 80 := by rw [List.length_take, prL_408]; rfl
  have hpt : (prL 408).take 80 = prL 408 := List.take_of_length_le (by rw [prL_408]; exact Nat.le_refl _)
  rw [hpt] at hP hpl
  have hrw := roots_wide
  have hcl : constsL.length = 80 := rfl
  obtain ⟨pL, hpL⟩ : ∃ pL, pL = prL 408 := ⟨_, rfl⟩
  obtain ⟨cL, hcL⟩ : ∃ cL, cL = constsL := ⟨_, rfl⟩
  rw [← hpL] at hP hpl hrw
  rw [← hcL] at hrw hcl
  have HPL := Lib.hid hpl
  have HRW := Lib.hid hrw
  have HCL := Lib.hid hcl
  have HcL := Lib.hid hcL
  clear hpl hpt hpL hrw hcl hcL
  go_wp2_with fail
  go_loopw [2, 3] (fun v i wr => ∃ k : Nat, k ≤ 80 ∧ i = .int .i64 k ∧ wr.ownsRow W0.heap.size 25 1 v k ((cL.take k).map (Value.int .u64)) ∧ Below W0.heap.size W0 wr) (fun _ i _ => 80 - (intOf i).toNat)
  case atStart => exact ⟨0, by omega, rfl, World.ownsRow_nil _ _ _ _, Below.refl _ _⟩
  case round =>
    obtain ⟨k, hk, rfl, hown, hB⟩ := hrel
    obtain ⟨o, c, rfl, hg⟩ := own_shape hown
    have hs := hB.size
    by_cases hlt : k < 80
    · have hcell := (own_below hP hB).cellAt k (by omega)
      rw [List.getElem?_map, List.getElem?_eq_getElem (by rw [HPL.out]; exact hlt), show pL[k]'(by rw [HPL.out]; exact hlt) = pL.getD k 0 by rw [List.getD_eq_getElem?_getD, List.getElem?_eq_getElem (by rw [HPL.out]; exact hlt)]; rfl] at hcell
      have hrt := HRW.out k hlt
      obtain ⟨y, hy⟩ : ∃ y, y = pL.getD k 0 := ⟨_, rfl⟩
      rw [← hy] at hcell hrt
      have hcell' : wr.cell? ⟨g, k, none⟩ = some (.int .u64 y) := by simpa using hcell
      obtain ⟨r0, r1, r2, r3, hr⟩ := four _ (rootP_length [0, 0, 0, y] true 70).1
      rw [hr] at hrt
      have HT : Hid ((cL.take (k + 1)).map (Value.int .u64) = (cL.take k).map (Value.int .u64) ++ [.int .u64 r0]) := Lib.hid (by
        have h80 : k < cL.length := by rw [HCL.out]; exact hlt
        rw [List.take_succ_eq_append_getElem h80, List.map_append, show cL[k] = r0 by
          have : cL.getD k 0 = cL[k] := by rw [List.getD_eq_getElem?_getD, List.getElem?_eq_getElem h80]; rfl
          rw [← this, ← hrt]; rfl]
        rfl)
      have hix := idx42 r0 r1 r2 r3
      have HRU := Lib.hid (root_any 0 0 0 y 3 true (by decide) r0 r1 r2 r3 hr)
      clear hcell hrt hy hr
      go_wp2_with fail
      refine (HRU.out _).mono ?_
      rintro e w1 ⟨rfl, hb1⟩
      have hown1 := own_below hown hb1
      have hB1 := hB.trans (hb1.mono hs)
      have hs1 := hB1.size
      clear hown hB hb1 hcell' hs HRU
      go_wp2_with (at_builtin; refine wpList_append_own _ rfl _ _ 22 rfl W0.heap.size 25 i0 (.int .u64 0) 1 8 Try.underlying22 hi hz0 hz1 hz2 rfl (by decide) _ _ _ rfl (hown1.alloc _) ⟨w1.heap.size, 0, none⟩ 1 1 [.int .u64 r0] rfl rfl ?c1 ?c2 ?c3 ?c4 ?c5 ?_)
      case c1 => exact cell_one_new _ _ _
      case c2 => simp [Value.oneCell']
      case c3 => unfold maxLen; omega
      case c4 => omega
      case c5 => first | omega | (simp; omega)
      intro v' w2 hown' hgrow _
      have hB' := (hB1.alloc hs1 (.cells #[.int .u64 r0] 25)).grown hgrow (by simp; omega) (fun j hj => (hown1.lt j hj).1)
      clear hown1 hB1 hgrow
      go_wp2_with fail
      go_roundw
      case rel => exact ⟨k + 1, by omega, by go_num, by rw [HT.out, List.map_take]; exact hown', hB'⟩
      case measure => simp [intOf]; omega
    · obtain rfl : k = 80 := by omega
      go_wp2_with fail
      go_ret
      exact ⟨_, rfl, by rw [← HcL.out, ← List.take_of_length_le (Nat.le_of_eq HCL.out)]; exact own_mono hown hB0.size, below_trans' hB0 hB⟩

end Go.Proofs.Ytojmbbapcnfibaa
