/-
  Plain functions for the layer http: what each function of the package computes, on lists of bytes. No program in sight.
-/
import Derived.Lib.Strings
import Derived.Lib.Bytealg
import Derived.Lib.AppendIntMem
import Derived.Lib.AtoiAll
namespace Go.Proofs.YtoadahommlcjpaaGreatDoor
namespace Ht
abbrev Bs := List UInt8
structure Hd where
  name : Bs
  value : Bs
deriving DecidableEq
structure Req where
  method : Bs
  target : Bs
  heads : List Hd
  body : Bs
deriving DecidableEq
structure Rsp where
  status : Int
  heads : List Hd
  body : Bs
deriving DecidableEq
def small (c : UInt8) : UInt8 := if 65 ≤ c.toNat ∧ c.toNat ≤ 90 then c + 32 else c
def signs : Bs := [33, 35, 36, 37, 38, 39, 42, 43, 45, 46, 94, 95, 124, 126]
def tokC (c : UInt8) : Bool := (decide (97 ≤ (small c).toNat) && decide ((small c).toNat ≤ 122)) || (decide (48 ≤ c.toNat) && decide (c.toNat ≤ 57)) || signs.contains c
def allB (s : Bs) (lo hi : Nat) : Bool := s.all fun c => decide (lo ≤ c.toNat) && decide (c.toNat ≤ hi)
def tokenB (s : Bs) : Bool := s.all tokC && decide (0 < s.length) && decide (s.length ≤ 40)
def targetB (s : Bs) : Bool := decide (s.length ≤ 200) && decide (s.head? = some 47) && allB s 33 126
def valuedB (s : Bs) : Bool := decide (s.length ≤ 200) && allB s 32 126 && !decide (s.head? = some 32) && !decide (s.getLast? = some 32)
def alikeB (a b : Bs) : Bool := decide (a.map small = b.map small)
def lenW : Bs := [67, 111, 110, 116, 101, 110, 116, 45, 76, 101, 110, 103, 116, 104]
def codW : Bs := [84, 114, 97, 110, 115, 102, 101, 114, 45, 69, 110, 99, 111, 100, 105, 110, 103]
def verW : Bs := [72, 84, 84, 80, 47, 49, 46, 49]
def wrongH (h : Hd) : Bool := !tokenB h.name || alikeB h.name lenW || alikeB h.name codW || !valuedB h.value
def checkedB (l : List Hd) (body : Bs) : Bool := decide (l.length ≤ 16) && decide (body.length ≤ 8192) && !l.any wrongH
/-- A header's line. -/
def hdLine (h : Hd) : Bs := h.name ++ (58 :: ((if h.value = [] then [] else 32 :: h.value) ++ [13, 10]))
/-- A head, of its first line on. -/
def headOf (first : Bs) (l : List Hd) (n : Nat) : Bs := first ++ ([13, 10] ++ (l.flatMap hdLine ++ (lenW ++ ([58, 32] ++ (Lib.itoa n ++ [13, 10, 13, 10])))))
def printedOf (l : List Hd) (body first : Bs) : Bs × Int := if 2048 < (headOf first l body.length).length then ([], 3) else (headOf first l body.length ++ body, 0)
def firstReq (r : Req) : Bs := r.method ++ (32 :: (r.target ++ (32 :: verW)))
def printReq (r : Req) : Bs × Int := if tokenB r.method && targetB r.target && checkedB r.heads r.body then printedOf r.heads r.body (firstReq r) else ([], 2)
def reasonOf (s : Int) : Bs :=
  if s = 200 then [79, 75]
  else if s = 201 then [67, 114, 101, 97, 116, 101, 100]
  else if s = 400 then [66, 97, 100, 32, 82, 101, 113, 117, 101, 115, 116]
  else if s = 403 then [70, 111, 114, 98, 105, 100, 100, 101, 110]
  else if s = 404 then [78, 111, 116, 32, 70, 111, 117, 110, 100]
  else if s = 405 then [77, 101, 116, 104, 111, 100, 32, 78, 111, 116, 32, 65, 108, 108, 111, 119, 101, 100]
  else if s = 409 then [67, 111, 110, 102, 108, 105, 99, 116]
  else if s = 413 then [67, 111, 110, 116, 101, 110, 116, 32, 84, 111, 111, 32, 76, 97, 114, 103, 101]
  else if s = 422 then [85, 110, 112, 114, 111, 99, 101, 115, 115, 97, 98, 108, 101, 32, 67, 111, 110, 116, 101, 110, 116]
  else if s = 431 then [82, 101, 113, 117, 101, 115, 116, 32, 72, 101, 97, 100, 101, 114, 32, 70, 105, 101, 108, 100, 115, 32, 84, 111, 111, 32, 76, 97, 114, 103, 101]
  else if s = 500 then [73, 110, 116, 101, 114, 110, 97, 108, 32, 83, 101, 114, 118, 101, 114, 32, 69, 114, 114, 111, 114]
  else if s = 501 then [78, 111, 116, 32, 73, 109, 112, 108, 101, 109, 101, 110, 116, 101, 100]
  else if s = 503 then [83, 101, 114, 118, 105, 99, 101, 32, 85, 110, 97, 118, 97, 105, 108, 97, 98, 108, 101]
  else if s = 507 then [73, 110, 115, 117, 102, 102, 105, 99, 105, 101, 110, 116, 32, 83, 116, 111, 114, 97, 103, 101]
  else [85, 110, 107, 110, 111, 119, 110]
def firstRsp (r : Rsp) : Bs := verW ++ (32 :: (Lib.itoa r.status ++ (32 :: reasonOf r.status)))
def printRsp (r : Rsp) : Bs × Int := if decide (200 ≤ r.status) && decide (r.status ≤ 599) && checkedB r.heads r.body then printedOf r.heads r.body (firstRsp r) else ([], 2)
/-! ### reading -/
/-- What stands up to the first c, what stands behind it, and whether there is one. -/
def upto (c : UInt8) : Bs → Bs × Bs × Bool
  | [] => ([], [], false)
  | x :: t => if x = c then ([], t, true) else (x :: (upto c t).1, (upto c t).2)
/-- The same of two bytes. -/
def upto2 (c d : UInt8) : Bs → Bs × Bs × Bool
  | [] => ([], [], false)
  | [x] => ([x], [], false)
  | x :: y :: t => if x = c ∧ y = d then ([], t, true) else (x :: (upto2 c d (y :: t)).1, (upto2 c d (y :: t)).2)
def isBl (c : UInt8) : Bool := decide (c = 32) || decide (c = 9)
def trim (s : Bs) : Bs := ((s.dropWhile isBl).reverse.dropWhile isBl).reverse
def fieldOf (s : Bs) : Hd × Bool := (⟨(upto 58 s).1, trim (upto 58 s).2.1⟩, (upto 58 s).2.2 && tokenB (upto 58 s).1 && valuedB (trim (upto 58 s).2.1))
/-- What has come of the lines so far. -/
structure Acc where
  heads : List Hd
  n : Int
  lengths : Int
  coded : Bool
deriving DecidableEq
def num (s : Bs) : Int × Bool := match Lib.atoiAll s with
  | .ok v => (v, true)
  | .range => (Lib.atoiSat s, false)
  | _ => (0, false)
def goodLen (s : Bs) : Bool := (num s).2 && decide (s.length ≤ 9) && allB s 48 57
/-- A line's worth. -/
def stepOf (a : Acc) (h : Hd) : Acc :=
  if alikeB h.name codW then { a with coded := true }
  else if alikeB h.name lenW then { a with lengths := a.lengths + (if goodLen h.value then 1 else 3), n := (num h.value).1 }
  else { a with heads := a.heads ++ [h] }
/-- The lines; none: one is wrong. -/
def linesGo : List Bs → Acc → Option Acc
  | [], a => some a
  | s :: t, a => if (fieldOf s).2 then linesGo t (stepOf a (fieldOf s).1) else none
/-- The lines of a head. -/
def linesOf (s : Bs) : List Bs :=
  if _h : s = [] then [] else (upto2 13 10 s).1 :: (if (upto2 13 10 s).2.1.length < s.length then linesOf (upto2 13 10 s).2.1 else [])
termination_by s.length
decreasing_by assumption
def acc0 : Acc := ⟨[], 0, 0, false⟩
/-- What the lines come to, with the bytes behind the head. -/
def restFin (x : Option Acc) (b : Bs) : (List Hd × Bs) × Int :=
  match x with
  | none => (([], []), 340)
  | some a =>
    if a.coded then (([], []), 344)
    else if 1 < a.lengths then (([], []), 340)
    else if 16 < a.heads.length then (([], []), 342)
    else if 8192 < a.n then (([], []), 343)
    else if (b.length : Int) < a.n then (([], []), 341)
    else ((a.heads, b.take a.n.toNat), 0)
/-- Headers and body; the error. -/
def restOf (head b : Bs) : (List Hd × Bs) × Int := restFin (linesGo (linesOf head) acc0) b
/-- Where the first 13 10 13 10 begins. -/
def endAt : Bs → Option Nat
  | [] => none
  | c :: t => if (c :: t).take 4 = [13, 10, 13, 10] then some 0 else (endAt t).map (· + 1)
/-- What a message is: its first line, what stands behind; or an error. -/
def readOf {α : Type} (none_ : α) (first : Bs → α × Bool) (fill : α → List Hd → Bs → α) (b : Bs) : α × Nat × Int :=
  match endAt (b.take 2048) with
  | none => (none_, 0, if 2048 ≤ b.length then 342 else 341)
  | some at_ =>
    let s := b.take (at_ + 2)
    if (first (upto2 13 10 s).1).2 then
      let r := restOf (upto2 13 10 s).2.1 (b.drop (at_ + 4))
      if r.2 = 0 then (fill (first (upto2 13 10 s).1).1 r.1.1 r.1.2, at_ + 4 + r.1.2.length, 0) else (none_, 0, r.2)
    else (none_, 0, 340)
/-- A line's parts, at its first two blanks. -/
def threeOf (s : Bs) : Bs × Bs × Bs × Bool := ((upto 32 s).1, (upto 32 (upto 32 s).2.1).1, (upto 32 (upto 32 s).2.1).2.1, (upto 32 s).2.2 && (upto 32 (upto 32 s).2.1).2.2)
def zReq : Req := ⟨[], [], [], []⟩
def zRsp : Rsp := ⟨0, [], []⟩
def firstQ (s : Bs) : Req × Bool := (⟨(threeOf s).1, (threeOf s).2.1, [], []⟩, (threeOf s).2.2.2 && tokenB (threeOf s).1 && targetB (threeOf s).2.1 && decide ((threeOf s).2.2.1 = verW))
def firstP (s : Bs) : Rsp × Bool := (⟨(num (threeOf s).2.1).1, [], []⟩, (threeOf s).2.2.2 && (num (threeOf s).2.1).2 && decide ((threeOf s).1 = verW) && decide ((threeOf s).2.1.length = 3) && allB (threeOf s).2.1 48 57 && decide (200 ≤ (num (threeOf s).2.1).1) && decide ((num (threeOf s).2.1).1 ≤ 599) && allB (threeOf s).2.2.1 32 126)
def parseReq (b : Bs) : Req × Nat × Int := readOf zReq firstQ (fun r l d => { r with heads := l, body := d }) b
def parseRsp (b : Bs) : Rsp × Nat × Int := readOf zRsp firstP (fun r l d => { r with heads := l, body := d }) b
def getOf (l : List Hd) (name : Bs) : Bs × Bool := match l.find? (fun h => alikeB h.name name) with
  | some h => (h.value, true)
  | none => ([], false)
def statusOf (e : Int) : Int :=
  if e = 0 then 200 else if e = 340 then 400 else if e = 2 then 400 else if e = 7 then 400 else if e = 341 then 400 else if e = 4 then 404 else if e = 5 then 409 else if e = 343 then 413 else if e = 3 then 413
  else if e = 342 then 431 else if e = 344 then 501 else if e = 6 then 507 else if e = 8 then 503 else if e = 9 then 503 else if e = 1 then 503 else 422
end Ht
end Go.Proofs.YtoadahommlcjpaaGreatDoor
