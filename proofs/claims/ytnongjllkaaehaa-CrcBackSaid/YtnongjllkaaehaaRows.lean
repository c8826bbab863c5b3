/-
  No cell of these rows narrows 'for every input' (looked for: loops, veiled, ifaces, maps, wideKeys, modest, calm, conditions, laid).
  DERIVED. THE GIVEN ROWS OF THIS SEAT. 5 by the template 'for every input the law returns true; each argument reads behind the call as it read before'; 0 by the template 'total and deterministic' (their statements: YtnongjllkaaehaaTotals.lean).
  GIVEN WITH THE SEED: the statements are not yours to turn. If you find one false, say at which input.
  Laid BY PROGRAM, IN A SANDBOX (cutbox-rows.mjs): the forced cells as the released guide's own fill.sh prints them over the translation c00843de46483838… (all of the seat's roots in one cut). By AI agents, Wed Nov 11 2026. No macro, syntax, notation, axiom, sorry.
-/
import Derived.Test.YtnongjllkaaehaaChecked
import GoSem.Claim
import GoSem.ClaimJoined
import GoSem.ClaimMapViews
import Derived.JoinedTies
import Derived.KernelRfl
namespace Go.Proofs.Ytnongjllkaaehaa
/- THE CELL 'sum', in the pinned program and in every row, IS THE sha256 OF THE DUMP (.gsa) THAT YtnongjllkaaehaaProg.lean LOADS. Nothing in Lean hashes anything: it is a label: what it is worth is what the hold of that sum in a sandbox is worth. -/
noncomputable def Try.pinned : Pinned := { name := "ytnongjllkaaehaa", sum := "c00843de46483838b792283b752de1f9573bd4cf738ab53858406eb5dc0fd181", checked := Try.checked }
namespace Rows
def none {H : Type} : Left H := { results := [], args := [] }

/-- 'shelfmarklaw2.CrcMix': WHATEVER THE INPUT: true; the input reads as it did. -/
def crcMixSpec : ChangeSpec := { name := "crcMix", fn := fun _ => fun
  | [d1, d2, d3] => { results := [.lit (.bool true)], args := [d1, d2, d3] }
  | _ => none }
def crcMixRow : OpenClaim := { program := "ytnongjllkaaehaa", sum := "c00843de46483838b792283b752de1f9573bd4cf738ab53858406eb5dc0fd181", func := "shelfmark/shelfmarklaw2.CrcMix", spec := "crcMix", unfollowed := true, recurses := true, apart := false }
def CrcMixSaid : Prop := crcMixRow.holds Try.pinned (OpenSpec.ofChange crcMixSpec)

/-- ITS FALSE NEIGHBOUR: 'it returns false'. Refute it at one input. -/
def crcMixWrong : ChangeSpec := { name := "crcMix", fn := fun _ => fun
  | [d1, d2, d3] => { results := [.lit (.bool false)], args := [d1, d2, d3] }
  | _ => none }
def CrcMixWrongFalsely : Prop := crcMixRow.holds Try.pinned (OpenSpec.ofChange crcMixWrong)

/-- 'shelfmarklaw2.CrcLast': WHATEVER THE INPUT: true; the input reads as it did. -/
def crcLastSpec : ChangeSpec := { name := "crcLast", fn := fun _ => fun
  | [d1, d2, d3, d4] => { results := [.lit (.bool true)], args := [d1, d2, d3, d4] }
  | _ => none }
def crcLastRow : OpenClaim := { program := "ytnongjllkaaehaa", sum := "c00843de46483838b792283b752de1f9573bd4cf738ab53858406eb5dc0fd181", func := "shelfmark/shelfmarklaw2.CrcLast", spec := "crcLast", unfollowed := true, recurses := true, apart := false }
def CrcLastSaid : Prop := crcLastRow.holds Try.pinned (OpenSpec.ofChange crcLastSpec)

/-- ITS FALSE NEIGHBOUR: 'it returns false'. Refute it at one input. -/
def crcLastWrong : ChangeSpec := { name := "crcLast", fn := fun _ => fun
  | [d1, d2, d3, d4] => { results := [.lit (.bool false)], args := [d1, d2, d3, d4] }
  | _ => none }
def CrcLastWrongFalsely : Prop := crcLastRow.holds Try.pinned (OpenSpec.ofChange crcLastWrong)

/-- 'shelfmarklaw2.CrcTable': WHATEVER THE INPUT: true; the input reads as it did. -/
def crcTableSpec : ChangeSpec := { name := "crcTable", fn := fun _ => fun
  | [d1, d2] => { results := [.lit (.bool true)], args := [d1, d2] }
  | _ => none }
def crcTableRow : OpenClaim := { program := "ytnongjllkaaehaa", sum := "c00843de46483838b792283b752de1f9573bd4cf738ab53858406eb5dc0fd181", func := "shelfmark/shelfmarklaw2.CrcTable", spec := "crcTable", unfollowed := true, recurses := true, apart := false }
def CrcTableSaid : Prop := crcTableRow.holds Try.pinned (OpenSpec.ofChange crcTableSpec)

/-- ITS FALSE NEIGHBOUR: 'it returns false'. Refute it at one input. -/
def crcTableWrong : ChangeSpec := { name := "crcTable", fn := fun _ => fun
  | [d1, d2] => { results := [.lit (.bool false)], args := [d1, d2] }
  | _ => none }
def CrcTableWrongFalsely : Prop := crcTableRow.holds Try.pinned (OpenSpec.ofChange crcTableWrong)

/-- 'shelfmarklaw2.CrcAll': WHATEVER THE INPUT: true; the input reads as it did. -/
def crcAllSpec : ChangeSpec := { name := "crcAll", fn := fun _ => fun
  | [d1, d2] => { results := [.lit (.bool true)], args := [d1, d2] }
  | _ => none }
def crcAllRow : OpenClaim := { program := "ytnongjllkaaehaa", sum := "c00843de46483838b792283b752de1f9573bd4cf738ab53858406eb5dc0fd181", func := "shelfmark/shelfmarklaw2.CrcAll", spec := "crcAll", unfollowed := true, recurses := true, apart := false }
def CrcAllSaid : Prop := crcAllRow.holds Try.pinned (OpenSpec.ofChange crcAllSpec)

/-- ITS FALSE NEIGHBOUR: 'it returns false'. Refute it at one input. -/
def crcAllWrong : ChangeSpec := { name := "crcAll", fn := fun _ => fun
  | [d1, d2] => { results := [.lit (.bool false)], args := [d1, d2] }
  | _ => none }
def CrcAllWrongFalsely : Prop := crcAllRow.holds Try.pinned (OpenSpec.ofChange crcAllWrong)

/-- 'shelfmarklaw2.CrcBack': WHATEVER THE INPUT: true; the input reads as it did. -/
def crcBackSpec : ChangeSpec := { name := "crcBack", fn := fun _ => fun
  | [d1, d2, d3] => { results := [.lit (.bool true)], args := [d1, d2, d3] }
  | _ => none }
def crcBackRow : OpenClaim := { program := "ytnongjllkaaehaa", sum := "c00843de46483838b792283b752de1f9573bd4cf738ab53858406eb5dc0fd181", func := "shelfmark/shelfmarklaw2.CrcBack", spec := "crcBack", unfollowed := true, recurses := true, apart := false }
def CrcBackSaid : Prop := crcBackRow.holds Try.pinned (OpenSpec.ofChange crcBackSpec)

/-- ITS FALSE NEIGHBOUR: 'it returns false'. Refute it at one input. -/
def crcBackWrong : ChangeSpec := { name := "crcBack", fn := fun _ => fun
  | [d1, d2, d3] => { results := [.lit (.bool false)], args := [d1, d2, d3] }
  | _ => none }
def CrcBackWrongFalsely : Prop := crcBackRow.holds Try.pinned (OpenSpec.ofChange crcBackWrong)

/- THE SECOND FORM. 'bulk': how many values and letters a reading holds, each counted each time it is reached (what is shared counts as often as it is met; a slice's spare places count too). A statement '..UptoSaid' is the law's where the arguments, and the package variables that the reading takes, are together of bulk at most 1048576: NARROWER than '..Said'. Prove '..Said' where nothing that the law and all that it calls make is longer than what came in: it says more and counts as full. Else prove '..UptoSaid'. A law counts once. -/
mutual
def uptoBulk {H : Type} : DataW H → Nat
  | .lit (.string bytes) => bytes.length + 1
  | .lit _ => 1
  | .nil => 1
  | .ptr d => uptoBulk d + 1
  | .slice elems spare => uptoBulkAll elems + uptoBulkAll spare + 1
  | .agg parts => uptoBulkAll parts + 1
  | .iface _ d => uptoBulk d + 1
  | .map entries => uptoBulkEntries entries + 1
  | .held _ => 1
def uptoBulkAll {H : Type} : List (DataW H) → Nat
  | [] => 0
  | d :: r => uptoBulk d + uptoBulkAll r
def uptoBulkEntries {H : Type} : List (Lit × DataW H) → Nat
  | [] => 0
  | x :: r => uptoBulkEntry x + uptoBulkEntries r
def uptoBulkEntry {H : Type} : Lit × DataW H → Nat
  | (.string bytes, d) => bytes.length + uptoBulk d + 1
  | (_, d) => uptoBulk d + 1
 end
def uptoSmall : (H : Type) → List (DataW H) → Bool := fun _ ds => decide (uptoBulkAll ds ≤ 1048576)
def OpenSpec.upto (s : _root_.Go.ChangeSpec) : _root_.Go.OpenSpec := { _root_.Go.OpenSpec.ofChange s with cond := some uptoSmall }

/-- 'shelfmarklaw2.CrcMix', WHERE WHAT IT READS IS OF BULK AT MOST 1048576: true; the input reads as it did. -/
def crcMixUptoRow : OpenClaim := { program := "ytnongjllkaaehaa", sum := "c00843de46483838b792283b752de1f9573bd4cf738ab53858406eb5dc0fd181", func := "shelfmark/shelfmarklaw2.CrcMix", spec := "crcMix", unfollowed := true, recurses := true, apart := false, narrowed := true }
def CrcMixUptoSaid : Prop := crcMixUptoRow.holds Try.pinned (OpenSpec.upto crcMixSpec)

/-- 'shelfmarklaw2.CrcLast', WHERE WHAT IT READS IS OF BULK AT MOST 1048576: true; the input reads as it did. -/
def crcLastUptoRow : OpenClaim := { program := "ytnongjllkaaehaa", sum := "c00843de46483838b792283b752de1f9573bd4cf738ab53858406eb5dc0fd181", func := "shelfmark/shelfmarklaw2.CrcLast", spec := "crcLast", unfollowed := true, recurses := true, apart := false, narrowed := true }
def CrcLastUptoSaid : Prop := crcLastUptoRow.holds Try.pinned (OpenSpec.upto crcLastSpec)

/-- 'shelfmarklaw2.CrcTable', WHERE WHAT IT READS IS OF BULK AT MOST 1048576: true; the input reads as it did. -/
def crcTableUptoRow : OpenClaim := { program := "ytnongjllkaaehaa", sum := "c00843de46483838b792283b752de1f9573bd4cf738ab53858406eb5dc0fd181", func := "shelfmark/shelfmarklaw2.CrcTable", spec := "crcTable", unfollowed := true, recurses := true, apart := false, narrowed := true }
def CrcTableUptoSaid : Prop := crcTableUptoRow.holds Try.pinned (OpenSpec.upto crcTableSpec)

/-- 'shelfmarklaw2.CrcAll', WHERE WHAT IT READS IS OF BULK AT MOST 1048576: true; the input reads as it did. -/
def crcAllUptoRow : OpenClaim := { program := "ytnongjllkaaehaa", sum := "c00843de46483838b792283b752de1f9573bd4cf738ab53858406eb5dc0fd181", func := "shelfmark/shelfmarklaw2.CrcAll", spec := "crcAll", unfollowed := true, recurses := true, apart := false, narrowed := true }
def CrcAllUptoSaid : Prop := crcAllUptoRow.holds Try.pinned (OpenSpec.upto crcAllSpec)

/-- 'shelfmarklaw2.CrcBack', WHERE WHAT IT READS IS OF BULK AT MOST 1048576: true; the input reads as it did. -/
def crcBackUptoRow : OpenClaim := { program := "ytnongjllkaaehaa", sum := "c00843de46483838b792283b752de1f9573bd4cf738ab53858406eb5dc0fd181", func := "shelfmark/shelfmarklaw2.CrcBack", spec := "crcBack", unfollowed := true, recurses := true, apart := false, narrowed := true }
def CrcBackUptoSaid : Prop := crcBackUptoRow.holds Try.pinned (OpenSpec.upto crcBackSpec)

end Rows
end Go.Proofs.Ytnongjllkaaehaa
