/-
  Plain functions for the layer script: what each function of the package computes, on lists of bytes. No program in sight.
-/
import Derived.Lib.Strings
import Derived.Lib.Bytealg
import Derived.Lib.AppendIntMem
namespace Go.Proofs.YthpojljfmipngaaGreatDoor
namespace Sc
abbrev Bs := List UInt8
structure Ev where
  kind : Int
  node : Int
  to : Int
  n : Int
  bit : Int
  keep : List Bool
  bytes : Bs
deriving DecidableEq
structure Scr where
  servers : Int
  area : Int
  events : List Ev
deriving DecidableEq
/-- The words of events, by their kinds. -/
def words : List Bs := [[45], [97, 115, 107], [116, 117, 114, 110], [100, 101, 108, 105, 118, 101, 114], [108, 111, 115, 101], [100, 111, 117, 98, 108, 101], [115, 112, 111, 105, 108], [116, 105, 99, 107], [99, 114, 97, 115, 104], [97, 114, 109], [115, 116, 97, 114, 116], [118, 105, 101, 119]]
/-- Which of an event's five numbers its line says. -/
def offs (kind : Int) : List Nat :=
  if kind = 1 ∨ kind = 8 ∨ kind = 10 then [1]
  else if kind = 2 ∨ kind = 9 then [1, 3]
  else if kind = 3 ∨ kind = 4 ∨ kind = 5 then [3]
  else if kind = 6 then [3, 4]
  else if kind = 11 then [1, 2]
  else []
def getF (x : Ev) (o : Nat) : Int := if o = 1 then x.node else if o = 2 then x.to else if o = 3 then x.n else x.bit
def wideN (n : Int) : Bool := decide (n < -9999999999) || decide (9999999999 < n)
def wides (l : List Int) : Bool := l.any wideN
def nums (x : Ev) : List Int := (offs x.kind).map (getF x)
/-- The event with no fields but those of its kind. -/
def clean (x : Ev) : Ev :=
  { kind := x.kind,
    node := if 1 ∈ offs x.kind then x.node else 0,
    to := if 2 ∈ offs x.kind then x.to else 0,
    n := if 3 ∈ offs x.kind then x.n else 0,
    bit := if 4 ∈ offs x.kind then x.bit else 0,
    keep := if x.kind = 8 then x.keep else [],
    bytes := if x.kind = 1 then x.bytes else [] }
def wrong (x : Ev) : Bool := decide (x.kind < 1) || decide (11 < x.kind) || wides (nums x) || !decide (x = clean x) || decide (10240 < x.bytes.length) || decide (2048 < x.keep.length)
def checkOf (s : Scr) : Int := if wides [s.servers, s.area] || decide (300 < s.events.length) || s.events.any wrong then 2 else 0
def hexd (n : Nat) : UInt8 := if n < 10 then UInt8.ofNat (48 + n) else UInt8.ofNat (87 + n)
def esc (c : UInt8) : Bs :=
  if c.toNat = 34 ∨ c.toNat = 92 then [92, c]
  else if c.toNat = 10 then [92, 110]
  else if c.toNat = 13 then [92, 114]
  else if c.toNat < 32 ∨ 126 < c.toNat then [92, 120, hexd (c.toNat / 16), hexd (c.toNat % 16)]
  else [c]
def quoteT (s : Bs) : Bs := [32, 34] ++ (s.flatMap esc ++ [34])
def numsText (l : List Int) : Bs := l.flatMap fun n => 32 :: Lib.itoa n
def bits (l : List Bool) : Bs := l.map fun b => if b then 49 else 48
def evLine (x : Ev) : Bs := words.getD x.kind.toNat [] ++ (numsText (nums x) ++ ((if x.kind = 1 then quoteT x.bytes else if x.kind = 8 then [32, 61] ++ bits x.keep else []) ++ [10]))
def textOf (s : Scr) : Bs := [119, 111, 114, 108, 100] ++ (numsText [s.servers, s.area] ++ ([10] ++ s.events.flatMap evLine))
def printOf (s : Scr) : Bs × Int := if checkOf s = 0 then (if 262144 < (textOf s).length then ([], 3) else (textOf s, 0)) else ([], 2)
end Sc
end Go.Proofs.YthpojljfmipngaaGreatDoor
