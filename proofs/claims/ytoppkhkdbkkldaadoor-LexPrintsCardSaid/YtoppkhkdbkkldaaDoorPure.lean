/-
  Plain functions for the layer lex: what each function of the package computes, on lists of bytes. No program in sight.
-/
import Derived.Lib.Strings
import Derived.Lib.Bytealg
import Derived.Lib.IndexMore
namespace Go.Proofs.YtoppkhkdbkkldaaDoor
namespace Lx

abbrev Bs := List UInt8

def isBlank (c : UInt8) : Bool := c.toNat == 9 || c.toNat == 13 || c.toNat == 32
def isDigit (c : UInt8) : Bool := decide (48 ≤ c.toNat) && decide (c.toNat ≤ 57)
def isLetter (c : UInt8) : Bool := (decide (97 ≤ c.toNat) && decide (c.toNat ≤ 122)) || (decide (65 ≤ c.toNat) && decide (c.toNat ≤ 90)) || c.toNat == 95
def isWord (c : UInt8) : Bool := isLetter c || isDigit c
def notFeed (c : UInt8) : Bool := c.toNat != 10

/-- How many bytes a text begins with that are so. -/
def runLen (p : UInt8 → Bool) : Bs → Nat
  | [] => 0
  | c :: l => if p c then runLen p l + 1 else 0

theorem runLen_le (p : UInt8 → Bool) (l : Bs) : runLen p l ≤ l.length := by
  induction l with
  | nil => simp [runLen]
  | cons c l ih => simp only [runLen, List.length_cons]; split <;> omega

/-- The bytes of a quoted text behind its first quote, up to and with the last one. -/
def quoteTail : Bs → Option Nat
  | [] => none
  | c :: r =>
    if c.toNat = 34 then some 1
    else if c.toNat = 92 then
      match r with
      | [] => none
      | d :: r' => if d.toNat = 34 ∨ d.toNat = 92 ∨ d.toNat = 110 then (quoteTail r').map (· + 2) else none
    else if c.toNat < 32 ∨ 126 < c.toNat then none
    else (quoteTail r).map (· + 1)

theorem quoteTail_cons (c : UInt8) (r : Bs) : quoteTail (c :: r) =
    if c.toNat = 34 then some 1
    else if c.toNat = 92 then
      match r with
      | [] => none
      | d :: r' => if d.toNat = 34 ∨ d.toNat = 92 ∨ d.toNat = 110 then (quoteTail r').map (· + 2) else none
    else if c.toNat < 32 ∨ 126 < c.toNat then none
    else (quoteTail r).map (· + 1) := by
  cases r <;> (rw [quoteTail.eq_def]; try rfl)

def textLen (l : Bs) : Nat :=
  match quoteTail l.tail with
  | some n => n + 1
  | none => 0

def twoSigns : List Bs := [[58, 61], [61, 61], [33, 61], [60, 61], [62, 61], [38, 38], [124, 124]]
def oneSigns : Bs := [40, 41, 123, 125, 91, 93, 44, 46, 58, 61, 43, 45, 42, 47, 37, 60, 62, 33]

def signLen (l : Bs) : Nat :=
  if twoSigns.contains (l.take 2) then 2
  else match l with
  | [] => 0
  | c :: _ => if oneSigns.contains c then 1 else 0

/-- The value of digits. -/
def numVal (l : Bs) : Nat := l.foldl (fun n c => 10 * n + (c.toNat - 48)) 0

/-- The number of digits (of a list of digits that is not empty); none: it may not be. -/
def wholeNum (l : Bs) : Option Nat :=
  if 1 < l.length ∧ l.head? = some 48 then none
  else if numVal l ≤ 9223372036854775807 then some (numVal l) else none

/-- Kind, bytes and error of the token that a text begins with. -/
def tokenOf (l : Bs) : Int × Nat × Int :=
  match l with
  | [] => (0, 0, 200)
  | c :: _ =>
    if isLetter c then
      if 24 < runLen isWord l then (0, 0, 3) else (1, runLen isWord l, 0)
    else if isDigit c then
      if ((l.drop (runLen isDigit l)).head?.map isLetter).getD false then (0, 0, 201)
      else if (wholeNum (l.take (runLen isDigit l))).isNone then (0, 0, 201)
      else (2, runLen isDigit l, 0)
    else if c.toNat = 34 then
      if textLen l = 0 then (0, 0, 200) else (3, textLen l, 0)
    else if c.toNat = 59 then (5, 1, 0)
    else if signLen l = 0 then (0, 0, 200) else (4, signLen l, 0)

structure Tok where
  kind : Int
  text : Bs
  place : Int
deriving DecidableEq

/-- Is a token a closing one (as package lex says it)? -/
def isClosing (t : Tok) : Bool := t.kind == 1 || t.kind == 2 || t.kind == 3 || (t.kind == 4 && (Lib.contains [41, 93, 125] t.text && !t.text.isEmpty))

def lastClosing (l : List Tok) : Bool :=
  match l.getLast? with
  | some t => isClosing t
  | none => false

/-- Is a token's text one token of its kind? -/
def isAlone (t : Tok) : Bool := if t.text.isEmpty then t.kind == 5 else (tokenOf t.text).2.2 == 0 && ((tokenOf t.text).1 == t.kind && decide (t.text.take (tokenOf t.text).2.1 = t.text))

def checkStep (st : Bool × Bool) (t : Tok) : Bool × Bool := (st.1 && isAlone t && (!t.text.isEmpty || st.2), isClosing t)
/-- Check: 0 (may be), or 2. -/
def checkOf (l : List Tok) : Int :=
  if !(l.foldl checkStep (decide (l.length ≤ 1024), false)).1 || (l.foldl checkStep (decide (l.length ≤ 1024), false)).2 then 2 else 0

def printStep (st : Bs × Bs) (t : Tok) : Bs × Bs := if t.text.isEmpty then (st.1 ++ [10], []) else (st.1 ++ (st.2 ++ t.text), [32])
def printText (l : List Tok) : Bs := (l.foldl printStep ([], [])).1
/-- Print: the text and the error. -/
def printOf (l : List Tok) : Bs × Int := if checkOf l = 0 then (if 4096 < (printText l).length then ([], 3) else (printText l, 0)) else ([], 2)

def sameTok (a b : Tok) : Bool := a.kind == b.kind && decide (a.text = b.text)
def sameToks : List Tok → List Tok → Bool
  | [], [] => true
  | a :: l, b :: m => sameTok a b && sameToks l m
  | _, _ => false

/-- Number, Value, Quote. -/
def numberOf (t : Tok) : Option Nat := if t.kind == 2 && isAlone t then wholeNum t.text else none
def unescape : Bool → Bs → Bs
  | _, [] => []
  | pair, c :: r => if pair && c.toNat == 110 then 10 :: unescape false r else if pair || c.toNat != 92 then c :: unescape (!pair && c.toNat == 92) r else unescape (!pair && c.toNat == 92) r
def valueOf (t : Tok) : Option Bs := if t.kind == 3 && isAlone t then some (unescape false ((t.text.drop 1).take (t.text.length - 2))) else none
def quoteBody : Bs → Option Bs
  | [] => some [34]
  | c :: r =>
    if c.toNat = 10 then (quoteBody r).map ([92, 110] ++ ·)
    else if c.toNat = 34 ∨ c.toNat = 92 then (quoteBody r).map ([92, c] ++ ·)
    else if c.toNat < 32 ∨ 126 < c.toNat then none
    else (quoteBody r).map ([c] ++ ·)
def quoteOf (l : Bs) : Option Bs := (quoteBody l).map (34 :: ·)

/-- The tokens of a text; its error, and the place of that. -/
def lexGo : Nat → List Tok → Nat → Bs → List Tok × Int × Nat
  | 0, acc, _, _ => (acc, 0, 0)
  | f + 1, acc, a, l =>
    let l1 := l.drop (runLen isBlank l)
    let a1 := a + runLen isBlank l
    let c := if Lib.hasPrefix l1 [47, 47] then runLen notFeed l1 else 0
    let l2 := l1.drop c
    let a2 := a1 + c
    match l2 with
    | [] => if lastClosing acc then (if acc.length = 1024 then ([], 3, a2) else (acc ++ [⟨5, [], a2⟩], 0, 0)) else (acc, 0, 0)
    | d :: r =>
      if d.toNat = 10 then
        if lastClosing acc then (if acc.length = 1024 then ([], 3, a2) else lexGo f (acc ++ [⟨5, [], a2⟩]) (a2 + 1) r)
        else lexGo f acc (a2 + 1) r
      else if (tokenOf (d :: r)).2.2 ≠ 0 then ([], (tokenOf (d :: r)).2.2, a2)
      else if acc.length = 1024 then ([], 3, a2)
      else lexGo f (acc ++ [⟨(tokenOf (d :: r)).1, (d :: r).take (tokenOf (d :: r)).2.1, a2⟩]) (a2 + (tokenOf (d :: r)).2.1) ((d :: r).drop (tokenOf (d :: r)).2.1)
def lexOf (l : Bs) : List Tok × Int × Nat := if 4096 < l.length then ([], 3, 0) else lexGo (l.length + 1) [] 0 l

end Lx
end Go.Proofs.YtoppkhkdbkkldaaDoor
