/- The program's numbers of many limbs: what product, compared and root reckon. -/
import Derived.Test.YtojmbbapcnfibaaU
namespace Go.Proofs.Ytojmbbapcnfibaa

/-- A row of a product: what is written, and what is carried. -/
def innerP (o : List Int) (i : Nat) (x : Int) (b : List Int) : Nat → List Int × Int
  | 0 => (o, 0)
  | k + 1 => match innerP o i x b k with
    | (o', c) => (o'.set (i + k) ((x * b.getD k 0 + o'.getD (i + k) 0 + c) % 4294967296), (x * b.getD k 0 + o'.getD (i + k) 0 + c) / 4294967296)
/-- Some rows of a product. -/
def outerP (a b : List Int) : Nat → List Int
  | 0 => List.replicate (a.length + b.length) 0
  | i + 1 => match innerP (outerP a b i) i (a.getD i 0) b b.length with
    | (o, c) => o.set (i + b.length) (c % 4294967296)
def prodL (a b : List Int) : List Int := outerP a b a.length
/-- How two numbers stand, from place n down. -/
def cmpL (a b : List Int) : Nat → Int
  | 0 => 0
  | n + 1 => if a.getD n 0 = b.getD n 0 then cmpL a b n else if a.getD n 0 < b.getD n 0 then -1 else 1
/-- A root's limbs with a bit more. -/
def bitL (x : List Int) (bit : Nat) : List Int := x.set (bit / 32) (Go.bits .or .u32 (x.getD (bit / 32) 0) (2 ^ (bit % 32)))
def stepR (p : Int) (x : List Int) (bit : Nat) : List Int :=
  if cmpL (prodL (prodL (bitL x bit) (bitL x bit)) (bitL x bit)) [0, 0, 0, 0, 0, 0, p] 9 ≤ 0 then bitL x bit else x
/-- A root, after some bits (from bit 70 down). -/
def rootL (p : Int) : Nat → List Int
  | 0 => [0, 0, 0]
  | k + 1 => stepR p (rootL p k) (70 - k)
def rootV (p : Int) : Int := match rootL p 71 with
  | [a, b, _] => Go.bits .or .u64 (b * 4294967296) a
  | _ => 0

end Go.Proofs.Ytojmbbapcnfibaa
