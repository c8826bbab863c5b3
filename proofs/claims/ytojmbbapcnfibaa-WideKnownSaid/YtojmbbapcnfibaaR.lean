/- The plain roots: what the document's code computes, limb by limb. -/
import Derived.Test.YtojmbbapcnfibaaD
namespace Go.Proofs.Ytojmbbapcnfibaa

/-- The first limbs of a sum, and what is carried. -/
def addP (a b : List Int) : Nat → List Int × Int
  | 0 => ([], 0)
  | k + 1 => ((addP a b k).1 ++ [IntKind.u64.wrap (IntKind.u64.wrap (a.getD k 0 + b.getD k 0) + (addP a b k).2)],
      if IntKind.u64.wrap (a.getD k 0 + b.getD k 0) < a.getD k 0 ∨ IntKind.u64.wrap (IntKind.u64.wrap (a.getD k 0 + b.getD k 0) + (addP a b k).2) < IntKind.u64.wrap (a.getD k 0 + b.getD k 0) then 1 else 0)
def addL (a b : List Int) : List Int := (addP a b 4).1
def sumF (a b c : List Int) : List Int := addL (addL a b) c
/-- A limb of a number that is shifted up. -/
def upE (a : List Int) (n i : Nat) : Int :=
  if i < n / 64 then 0 else
    if i = n / 64 then IntKind.u64.wrap (a.getD 0 0 * 2 ^ (n % 64))
    else Go.bits .or .u64 (IntKind.u64.wrap (a.getD (i - n / 64) 0 * 2 ^ (n % 64))) (a.getD (i - n / 64 - 1) 0 / 2 / 2 ^ (63 - n % 64))
def upL (a : List Int) (n : Nat) : List Int := (List.range 4).map (upE a n)
def lessP (a b : List Int) : Nat → Bool
  | 0 => false
  | i + 1 => if a.getD i 0 = b.getD i 0 then lessP a b i else decide (a.getD i 0 < b.getD i 0)
def oneL : List Int := [1, 0, 0, 0]
def cubeS (x sq c : List Int) (i : Nat) : List Int := sumF c (upL sq i) (upL x (2 * i))
structure RootS where
  x : List Int
  sq : List Int
  cu : List Int
  deriving DecidableEq
def rootSq (s : RootS) (i : Nat) : List Int := sumF s.sq (upL s.x (i + 1)) (upL oneL (2 * i))
def rootCu (s : RootS) (i : Nat) : List Int := addL (cubeS s.x s.sq (cubeS s.x s.sq (cubeS s.x s.sq s.cu i) i) i) (upL oneL (3 * i))
def rootStep (a : List Int) (three : Bool) (s : RootS) (i : Nat) : RootS :=
  if lessP a (if three then rootCu s i else rootSq s i) 4 then s
  else ⟨s.x.set (i / 64) (Go.bits .or .u64 (s.x.getD (i / 64) 0) (IntKind.u64.wrap (2 ^ (i % 64)))), rootSq s i, rootCu s i⟩
def rootP (a : List Int) (three : Bool) : Nat → RootS
  | 0 => ⟨[0, 0, 0, 0], [0, 0, 0, 0], [0, 0, 0, 0]⟩
  | k + 1 => rootStep a three (rootP a three k) (69 - k)

end Go.Proofs.Ytojmbbapcnfibaa
