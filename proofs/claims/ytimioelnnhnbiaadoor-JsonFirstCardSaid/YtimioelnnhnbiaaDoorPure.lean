/-
  Plain functions for the layer json: values, their texts, what may be, on lists of bytes. No program in sight.
-/
import Derived.Lib.ItoaNum
namespace Go.Proofs.YtimioelnnhnbiaaDoor
namespace Js
abbrev Bs := List UInt8
inductive J where
  | mk (kind : Int) (bool : Bool) (num : Int) (text : Bs) (items : List J) (members : List (Bs × J))
def J.kind : J → Int | .mk k _ _ _ _ _ => k
def J.bool : J → Bool | .mk _ b _ _ _ _ => b
def J.num : J → Int | .mk _ _ n _ _ _ => n
def J.text : J → Bs | .mk _ _ _ t _ _ => t
def J.items : J → List J | .mk _ _ _ _ l _ => l
def J.members : J → List (Bs × J) | .mk _ _ _ _ _ m => m
def zero : J := .mk 0 false 0 [] [] []
/-- Has a value no fields but those of its kind? -/
def plain (x : J) : Bool :=
  decide (1 ≤ x.kind) && decide (x.kind ≤ 6) && (decide (x.kind = 2) || !x.bool) && (decide (x.kind = 3) || decide (x.num = 0)) && (decide (x.kind = 4) || decide (x.text = [])) &&
    (decide (x.kind = 5) || x.items.isEmpty) && (decide (x.kind = 6) || x.members.isEmpty)
mutual
/-- How many values there are. -/
def nodes : J → Nat
  | .mk _ _ _ _ l m => 1 + nodesL l + nodesM m
def nodesL : List J → Nat
  | [] => 0
  | x :: t => nodes x + nodesL t
def nodesM : List (Bs × J) → Nat
  | [] => 0
  | (_, x) :: t => nodes x + nodesM t
end
mutual
/-- How deep a value is. -/
def deep : J → Nat
  | .mk _ _ _ _ l m => max (deepL l) (deepM m) + 1
def deepL : List J → Nat
  | [] => 0
  | x :: t => max (deep x) (deepL t)
def deepM : List (Bs × J) → Nat
  | [] => 0
  | (_, x) :: t => max (deep x) (deepM t)
end
mutual
/-- How many bytes its texts and names have. -/
def bytes : J → Nat
  | .mk _ _ _ t l m => t.length + bytesL l + bytesM m
def bytesL : List J → Nat
  | [] => 0
  | x :: t => bytes x + bytesL t
def bytesM : List (Bs × J) → Nat
  | [] => 0
  | (n, x) :: t => n.length + bytes x + bytesM t
end
mutual
/-- Is each value plain, and have no two members of one one name? -/
def good : J → Bool
  | .mk k b n t l m => plain (.mk k b n t l m) && goodL l && goodM m && decide ((m.map (·.1)).Nodup)
def goodL : List J → Bool
  | [] => true
  | x :: t => good x && goodL t
def goodM : List (Bs × J) → Bool
  | [] => true
  | (_, x) :: t => good x && goodM t
end
def right (x : J) : Bool := good x && decide (nodes x ≤ 256) && decide (deep x ≤ 8) && decide (bytes x ≤ 32768)
def hexD (n : Nat) : UInt8 := if n < 10 then UInt8.ofNat (48 + n) else UInt8.ofNat (87 + n)
/-- A text's letter, as it is written. -/
def esc (c : UInt8) : Bs :=
  if c = 34 ∨ c = 92 then [92, c] else if c = 10 then [92, 110] else if c = 13 then [92, 114] else if c = 9 then [92, 116]
  else if 32 ≤ c.toNat ∧ c.toNat ≤ 126 then [c] else [92, 117, 48, 48, hexD (c.toNat / 16), hexD (c.toNat % 16)]
def quote (s : Bs) : Bs := 34 :: (s.flatMap esc ++ [34])
mutual
/-- A value's text. -/
def textOf : J → Bs
  | .mk k b n t l m =>
    if k = 1 then [110, 117, 108, 108]
    else if k = 2 then (if b then [116, 114, 117, 101] else [102, 97, 108, 115, 101])
    else if k = 3 then Lib.itoa n
    else if k = 4 then quote t
    else if k = 5 then 91 :: (textL l true ++ [93])
    else 123 :: (textM m true ++ [125])
def textL : List J → Bool → Bs
  | [], _ => []
  | x :: t, first => (if first then [] else [44]) ++ (textOf x ++ textL t false)
def textM : List (Bs × J) → Bool → Bs
  | [], _ => []
  | (n, x) :: t, first => (if first then [] else [44]) ++ (quote n ++ (58 :: (textOf x ++ textM t false)))
end
mutual
/-- Are values the same, as json.Same asks? -/
def same : J → J → Bool
  | .mk k b n t l m, .mk k' b' n' t' l' m' =>
    decide (k = k') && (decide (k ≠ 2) || decide (b = b')) && (decide (k ≠ 3) || decide (n = n')) && (decide (k ≠ 4) || decide (t = t')) && (decide (k ≠ 5) || sameL l l') && (decide (k ≠ 6) || sameM m m')
def sameL : List J → List J → Bool
  | [], [] => true
  | x :: t, y :: u => same x y && sameL t u
  | _, _ => false
def sameM : List (Bs × J) → List (Bs × J) → Bool
  | [], [] => true
  | (n, x) :: t, (n', y) :: u => decide (n = n') && same x y && sameM t u
  | _, _ => false
end
end Js
end Go.Proofs.YtimioelnnhnbiaaDoor
