/-
  The plain parser of the layer json: what Decode makes of a text. No program in sight.
-/
import Derived.Test.YtimioelnnhnbiaaDoorPure
namespace Go.Proofs.YtimioelnnhnbiaaDoor
namespace Js
/-- Where the reader stands. -/
structure St where
  at_ : Nat
  deep : Nat
  nodes : Nat
  bytes : Nat
  large : Bool
deriving DecidableEq
/-- What comes of a part; bad: no text goes on with the byte there; out: the rounds were too few to tell. -/
inductive Res (α : Type) where
  | ok (a : α) (st : St)
  | bad (at_ : Nat)
  | out
def Res.bind {α β : Type} : Res α → (α → St → Res β) → Res β
  | .ok a st, f => f a st
  | .bad k, _ => .bad k
  | .out, _ => .out
def peek (s : Bs) (st : St) : UInt8 := (s.drop st.at_).headD 0
def step (st : St) : St := { st with at_ := st.at_ + 1 }
def take (s : Bs) (c : UInt8) (st : St) : Res Unit := if s[st.at_]? = some c then .ok () (step st) else .bad st.at_
def word (s : Bs) : Bs → St → Res Unit
  | [], st => .ok () st
  | c :: t, st => (take s c st).bind fun _ st => word s t st
def isBl (c : UInt8) : Bool := decide (c = 32) || decide (c = 9) || decide (c = 10) || decide (c = 13)
def blanks (s : Bs) (st : St) : St := { st with at_ := st.at_ + ((s.drop st.at_).takeWhile isBl).length }
def isDig (c : UInt8) : Bool := decide (48 ≤ c.toNat) && decide (c.toNat ≤ 57)
/-- One digit more, below nought. -/
def digStep (a : Int × Bool) (c : UInt8) : Int × Bool :=
  if a.1 < Int.tdiv (-9223372036854775808 + ((c.toNat : Int) - 48)) 10 then (a.1, true) else (10 * a.1 - ((c.toNat : Int) - 48), a.2)
def number (s : Bs) (st : St) : Res Int :=
  let below := decide (peek s st = 45)
  let st := if below then step st else st
  if !isDig (peek s st) then .bad st.at_
  else if peek s st = 48 then .ok 0 (step st)
  else
    let ds := (s.drop st.at_).takeWhile isDig
    let a := ds.foldl digStep (0, st.large)
    let st := { st with at_ := st.at_ + ds.length }
    if below then .ok a.1 { st with large := a.2 }
    else .ok (if a.1 = -9223372036854775808 then -9223372036854775808 else -a.1) { st with large := a.2 || decide (a.1 = -9223372036854775808) }
def hexV (c : UInt8) : Option Nat :=
  if 48 ≤ c.toNat ∧ c.toNat ≤ 57 then some (c.toNat - 48) else if 97 ≤ c.toNat ∧ c.toNat ≤ 102 then some (c.toNat - 87) else if 65 ≤ c.toNat ∧ c.toNat ≤ 70 then some (c.toNat - 55) else none
def digit (s : Bs) (st : St) : Res Nat :=
  match (s[st.at_]?).bind hexV with
  | some n => .ok n (step st)
  | none => .bad st.at_
def escV (c : UInt8) : Option UInt8 :=
  if c = 34 then some 34 else if c = 92 then some 92 else if c = 47 then some 47 else if c = 98 then some 8 else if c = 102 then some 12 else if c = 110 then some 10 else if c = 114 then some 13 else if c = 116 then some 9 else none
def pair (s : Bs) (st : St) : Res UInt8 :=
  if s[st.at_]? = some 117 then
    (word s [117, 48, 48] st).bind fun _ st => (digit s st).bind fun a st => (digit s st).bind fun b st => .ok (UInt8.ofNat (16 * a + b)) st
  else
    match (s[st.at_]?).bind escV with
    | some c => .ok c (step st)
    | none => .bad st.at_
/-- A text's letters, the quote ahead of them taken; n: how many rounds there may be. -/
def textGo (s : Bs) : Nat → Bs → St → Res Bs
  | 0, _, _ => .out
  | n + 1, acc, st =>
    match s[st.at_]? with
    | none => .bad st.at_
    | some c =>
      if c = 34 then .ok acc (step st)
      else if c.toNat < 32 ∨ 126 < c.toNat then .bad st.at_
      else if c = 92 then (pair s (step st)).bind fun d st => textGo s n (acc ++ [d]) st
      else textGo s n (acc ++ [c]) (step st)
def text (s : Bs) (st : St) : Res Bs :=
  (take s 34 st).bind fun _ st => (textGo s (s.length + 1) [] st).bind fun t st =>
    .ok t { st with bytes := st.bytes + t.length, large := st.large || decide (32768 < st.bytes + t.length) }
mutual
/-- A value with the blanks round it; n: fuel. -/
def value (s : Bs) : Nat → St → Res J
  | 0, _ => .out
  | n + 1, st =>
    let st := blanks s st
    let st := { st with nodes := st.nodes + 1, deep := st.deep + 1, large := st.large || decide (8 < st.deep + 1) || decide (256 < st.nodes + 1) }
    (inner s n st).bind fun x st => .ok x (blanks s { st with deep := st.deep - 1 })
def inner (s : Bs) : Nat → St → Res J
  | 0, _ => .out
  | n + 1, st =>
    let c := peek s st
    if c = 110 then (word s [110, 117, 108, 108] st).bind fun _ st => .ok (.mk 1 false 0 [] [] []) st
    else if c = 116 then (word s [116, 114, 117, 101] st).bind fun _ st => .ok (.mk 2 true 0 [] [] []) st
    else if c = 102 then (word s [102, 97, 108, 115, 101] st).bind fun _ st => .ok (.mk 2 false 0 [] [] []) st
    else if c = 34 then (text s st).bind fun t st => .ok (.mk 4 false 0 t [] []) st
    else if c = 45 ∨ isDig c = true then (number s st).bind fun k st => .ok (.mk 3 false k [] [] []) st
    else if c = 91 then
      let st := blanks s (step st)
      if peek s st = 93 then .ok (.mk 5 false 0 [] [] []) (step st) else (items s n [] st).bind fun l st => .ok (.mk 5 false 0 [] l []) st
    else if c = 123 then
      let st := blanks s (step st)
      if peek s st = 125 then .ok (.mk 6 false 0 [] [] []) (step st) else (members s n [] st).bind fun l st => .ok (.mk 6 false 0 [] [] l) st
    else .bad st.at_
def items (s : Bs) : Nat → List J → St → Res (List J)
  | 0, _, _ => .out
  | n + 1, acc, st => (value s n st).bind fun x st =>
    if peek s st = 93 then .ok (acc ++ [x]) (step st) else (take s 44 st).bind fun _ st => items s n (acc ++ [x]) st
def members (s : Bs) : Nat → List (Bs × J) → St → Res (List (Bs × J))
  | 0, _, _ => .out
  | n + 1, acc, st =>
    (text s (blanks s st)).bind fun name st => (take s 58 (blanks s st)).bind fun _ st =>
      (value s n { st with large := st.large || acc.any fun m => decide (m.1 = name) }).bind fun x st =>
        let acc := if st.large then acc else acc ++ [(name, x)]
        if peek s st = 125 then .ok acc (step st) else (take s 44 st).bind fun _ st => members s n acc st
end
def st0 : St := ⟨0, 0, 0, 0, false⟩
/-- The value that a text is; its Spot. -/
def decode (s : Bs) : J × Int × Int :=
  match value s (4 * s.length + 8) st0 with
  | .out => (zero, 0, 0)
  | .bad k => (zero, 330, k)
  | .ok x st => if st.at_ < s.length then (zero, 330, st.at_) else if st.large then (zero, 2, 0) else (x, 0, 0)
end Js
end Go.Proofs.YtimioelnnhnbiaaDoor
