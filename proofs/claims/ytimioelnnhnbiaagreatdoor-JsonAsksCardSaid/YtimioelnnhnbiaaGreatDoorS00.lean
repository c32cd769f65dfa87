/-
  Joined: Shelf Pure Parse Base Bld. CONDITIONS: as each law says.
-/
import Derived.Shelf.Strings.Builder1
import Derived.Shelf.Small.Strs
import Derived.Shelf.Small.Wraps
import Derived.Shelf.Strings.BuilderF
import Derived.Shelf.Strings.BuilderK
import Derived.Shelf.Strconv.Itoa0
import Derived.Shelf.Strconv.Itoa1
import Derived.Shelf.LaysM
import Derived.Shelf.Strconv.Itoa2
import Derived.Shelf.Strconv.Itoa3
import Derived.Shelf.Strconv.Itoa4
import Derived.Shelf.Strings.Search1
import Derived.Test.YtimioelnnhnbiaaGreatDoorProg
import Derived.Lib.ItoaNum
import Derived.Test.YtimioelnnhnbiaaGreatDoorRows
import Derived.WalkKit
import Derived.WalkSpells
import Derived.WalkLawsBesides
import Derived.BigQuiet
import Derived.Lib.Hide
import Derived.Lib.SmallJoins
import Derived.Deep.RegionWith
import Derived.Deep.QuietTactic
import Derived.Deep.CutBlock
import Derived.Lib.LazyBuf
import Derived.Laws.AppendOwn
import Derived.Laws.OwnMore
import Derived.Laws.IdiomStrings
import Derived.Lib.UnsafeStr
import Derived.WalkMore
namespace Go.Proofs
open Go.Shelf
def Tryz.lays170_ren : Go.Shelf.Ren := ⟨fun | 170 => 100 | n => n, fun | 70 => 109 | 3 => 3 | 0 => 0 | 72 => 112 | 37 => 110 | 5 => 5 | n => n, fun | n => n⟩
theorem Tryz.lays170 : Go.Proofs.Lays.n170 Tryz.prog Tryz.lays170_ren := {
 mixed := by kernel_rfl
 f170 := Tryz.func100.trans (congrArg some (by kernel_rfl))
 t0 := Tryz.underlying0
 a0 := Tryz.isAgg0
 z0 := Tryz.sizeOf0
 v0 := Tryz.zeroValue0
 t3 := Tryz.underlying3
 a3 := Tryz.isAgg3
 z3 := Tryz.sizeOf3
 v3 := Tryz.zeroValue3
 t37 := Tryz.underlying110
 a37 := Tryz.isAgg110
 z37 := Tryz.sizeOf110
 v37 := Tryz.zeroValue110
 t70 := Tryz.underlying109
 a70 := Tryz.isAgg109
 z70 := Tryz.sizeOf109
 v70 := Tryz.zeroValue109
 t72 := Tryz.underlying112
 a72 := Tryz.isAgg112
 z72 := Tryz.sizeOf112
 v72 := Tryz.zeroValue112 }
def Tryz.lays169_ren : Go.Shelf.Ren := ⟨fun | 169 => 52 | n => n, fun | 70 => 109 | 9 => 9 | 0 => 0 | 72 => 112 | 37 => 110 | 127 => 144 | 3 => 3 | 5 => 5 | n => n, fun | n => n⟩
theorem Tryz.lays169 : Go.Proofs.Lays.n169 Tryz.prog Tryz.lays169_ren := {
 mixed := by kernel_rfl
 f169 := Tryz.func52.trans (congrArg some (by kernel_rfl))
 t0 := Tryz.underlying0
 a0 := Tryz.isAgg0
 z0 := Tryz.sizeOf0
 v0 := Tryz.zeroValue0
 t3 := Tryz.underlying3
 a3 := Tryz.isAgg3
 z3 := Tryz.sizeOf3
 v3 := Tryz.zeroValue3
 t9 := Tryz.underlying9
 a9 := Tryz.isAgg9
 z9 := Tryz.sizeOf9
 v9 := Tryz.zeroValue9
 t37 := Tryz.underlying110
 a37 := Tryz.isAgg110
 z37 := Tryz.sizeOf110
 v37 := Tryz.zeroValue110
 t70 := Tryz.underlying109
 a70 := Tryz.isAgg109
 z70 := Tryz.sizeOf109
 v70 := Tryz.zeroValue109
 t72 := Tryz.underlying112
 a72 := Tryz.isAgg112
 z72 := Tryz.sizeOf112
 v72 := Tryz.zeroValue112
 t127 := Tryz.underlying144
 a127 := Tryz.isAgg144
 z127 := Tryz.sizeOf144
 v127 := Tryz.zeroValue144 }
theorem Tryz.Builder_Extra_169 : Builder.Extra Tryz.prog Tryz.lays169_ren := {
 sizeBuilder := by kernel_rfl
 liesBuilder := by kernel_rfl
 t5 := Tryz.underlying5
 a5 := Tryz.isAgg5
 z5 := Tryz.sizeOf5
 v5 := Tryz.zeroValue5
 infoByte := by kernel_rfl
 cellsByte := by kernel_rfl
 sizeByte := by kernel_rfl
 neB5 := by decide }
def Tryz.lays137_ren : Go.Shelf.Ren := ⟨fun | 137 => 85 | 217 => 98 | 266 => 106 | n => n, fun | 9 => 9 | 5 => 5 | 3 => 3 | n => n, fun | n => n⟩
theorem Tryz.lays137 : Go.Proofs.Lays.n137 Tryz.prog Tryz.lays137_ren := {
 mixed := by kernel_rfl
 f137 := Tryz.func85.trans (congrArg some (by kernel_rfl))
 f217 := Tryz.func98.trans (congrArg some (by kernel_rfl))
 f266 := Tryz.func106.trans (congrArg some (by kernel_rfl))
 t3 := Tryz.underlying3
 a3 := Tryz.isAgg3
 z3 := Tryz.sizeOf3
 v3 := Tryz.zeroValue3
 t5 := Tryz.underlying5
 a5 := Tryz.isAgg5
 z5 := Tryz.sizeOf5
 v5 := Tryz.zeroValue5
 t9 := Tryz.underlying9
 a9 := Tryz.isAgg9
 z9 := Tryz.sizeOf9
 v9 := Tryz.zeroValue9 }
open Go.RowKit in
theorem Tryz.strings_IndexByte (s : ByteArray) (c : Int) (w : World) :
  Calls Tryz.prog 85 #[.string s, .int .u8 c] w fun e w' => e = .returned (.int .i64 (Lib.indexByte s.data.toList c.toNat.toUInt8)) ∧ w' = w := Any.strings_IndexByte Tryz.lays137 s c w
def Tryz.lays121_ren : Go.Shelf.Ren := ⟨fun | 121 => 76 | 214 => 95 | n => n, fun | 4 => 4 | 9 => 9 | n => n, fun | n => n⟩
theorem Tryz.lays121 : Go.Proofs.Lays.n121 Tryz.prog Tryz.lays121_ren := {
 mixed := by kernel_rfl
 f121 := Tryz.func76.trans (congrArg some (by kernel_rfl))
 f214 := Tryz.func95.trans (congrArg some (by kernel_rfl))
 t4 := Tryz.underlying4
 a4 := Tryz.isAgg4
 z4 := Tryz.sizeOf4
 v4 := Tryz.zeroValue4
 t9 := Tryz.underlying9
 a9 := Tryz.isAgg9
 z9 := Tryz.sizeOf9
 v9 := Tryz.zeroValue9 }
open Go.RowKit in
theorem Tryz.strconv_FormatBool (b : Bool) (w : World) :
  Calls Tryz.prog 76 #[.bool b] w fun e w' => e = .returned (.string ⟨(Lib.formatBool b).toArray⟩) ∧ w' = w := Any.strconv_FormatBool Tryz.lays121 b w
open Go.RowKit in
theorem Tryz.Builder_Len_f (B b : Nat) (bs : List Value) (w : World) (h : Lib.IsBuilderF 112 5 B b bs w) :
  Calls Tryz.prog 100 #[.pointer (some ⟨b, 0, none⟩)] w fun e w' => e = .returned (.int .i64 bs.length) ∧ w' = w := Any.Builder_Len_f Tryz.lays170 B b bs w h
open Go.RowKit in
theorem Tryz.Builder_String_any_k (B b : Nat) (l : List UInt8) (w : World) (h : Lib.IsBuilderF 112 5 B b (Lib.byteCells l) w) (hBw : B ≤ w.heap.size) :
  Calls Tryz.prog 52 #[.pointer (some ⟨b, 0, none⟩)] w fun e w' => e = .returned (.string ⟨l.toArray⟩) ∧ (Lib.IsBuilderF 112 5 B b (Lib.byteCells l) w' ∧ Below B w w' ∧ Lib.OthersKept 5 (some b) w w') := Any.Builder_String_any_k Tryz.lays169 Tryz.Builder_Extra_169 B b l w h hBw
def Tryz.laysM173_ren : Go.Shelf.Ren := ⟨fun | 173 => 77 | 246 => 96 | 283 => 102 | 284 => 103 | 285 => 104 | 286 => 105 | 129 => 109 | 317 => 108 | 318 => 110 | 319 => 111 | 320 => 112 | 337 => 113 | 338 => 114 | n => n, fun | 2 => 2 | 3 => 3 | 9 => 9 | 4 => 4 | 171 => 160 | 0 => 0 | 53 => 161 | 37 => 110 | 5 => 5 | 173 => 164 | 212 => 168 | 51 => 169 | 20 => 20 | 213 => 170 | 46 => 147 | 232 => 28 | 233 => 174 | n => n, fun | 17 => 0 | 18 => 2 | 19 => 3 | n => n⟩
theorem Tryz.laysM173 : Go.Proofs.LaysM.n173 Tryz.prog Tryz.laysM173_ren := {
 mixed := by kernel_rfl
 f129 := Tryz.func109.trans (congrArg some (by kernel_rfl))
 f173 := Tryz.func77.trans (congrArg some (by kernel_rfl))
 f246 := Tryz.func96.trans (congrArg some (by kernel_rfl))
 f283 := Tryz.func102.trans (congrArg some (by kernel_rfl))
 f284 := Tryz.func103.trans (congrArg some (by kernel_rfl))
 f285 := Tryz.func104.trans (congrArg some (by kernel_rfl))
 f286 := Tryz.func105.trans (congrArg some (by kernel_rfl))
 f317 := Tryz.func108.trans (congrArg some (by kernel_rfl))
 f318 := Tryz.func110.trans (congrArg some (by kernel_rfl))
 f319 := Tryz.func111.trans (congrArg some (by kernel_rfl))
 f320 := Tryz.func112.trans (congrArg some (by kernel_rfl))
 f337 := Tryz.func113.trans (congrArg some (by kernel_rfl))
 f338 := Tryz.func114.trans (congrArg some (by kernel_rfl))
 t0 := Tryz.underlying0
 a0 := Tryz.isAgg0
 z0 := Tryz.sizeOf0
 v0 := Tryz.zeroValue0
 t2 := Tryz.underlying2
 a2 := Tryz.isAgg2
 z2 := Tryz.sizeOf2
 v2 := Tryz.zeroValue2
 t3 := Tryz.underlying3
 a3 := Tryz.isAgg3
 z3 := Tryz.sizeOf3
 v3 := Tryz.zeroValue3
 t4 := Tryz.underlying4
 a4 := Tryz.isAgg4
 z4 := Tryz.sizeOf4
 v4 := Tryz.zeroValue4
 t5 := Tryz.underlying5
 a5 := Tryz.isAgg5
 z5 := Tryz.sizeOf5
 v5 := Tryz.zeroValue5
 t9 := Tryz.underlying9
 a9 := Tryz.isAgg9
 z9 := Tryz.sizeOf9
 v9 := Tryz.zeroValue9
 t20 := Tryz.underlying20
 a20 := Tryz.isAgg20
 z20 := Tryz.sizeOf20
 v20 := Tryz.zeroValue20
 t37 := Tryz.underlying110
 a37 := Tryz.isAgg110
 z37 := Tryz.sizeOf110
 v37 := Tryz.zeroValue110
 t46 := Tryz.underlying147
 a46 := Tryz.isAgg147
 z46 := Tryz.sizeOf147
 v46 := Tryz.zeroValue147
 t51 := Tryz.underlying169
 a51 := Tryz.isAgg169
 z51 := Tryz.sizeOf169
 v51 := Tryz.zeroValue169
 t53 := Tryz.underlying161
 a53 := Tryz.isAgg161
 z53 := Tryz.sizeOf161
 v53 := Tryz.zeroValue161
 t171 := Tryz.underlying160
 a171 := Tryz.isAgg160
 z171 := Tryz.sizeOf160
 v171 := Tryz.zeroValue160
 t173 := Tryz.underlying164
 a173 := Tryz.isAgg164
 z173 := Tryz.sizeOf164
 v173 := Tryz.zeroValue164
 t212 := Tryz.underlying168
 a212 := Tryz.isAgg168
 z212 := Tryz.sizeOf168
 v212 := Tryz.zeroValue168
 t213 := Tryz.underlying170
 a213 := Tryz.isAgg170
 z213 := Tryz.sizeOf170
 t232 := Tryz.underlying28
 a232 := Tryz.isAgg28
 z232 := Tryz.sizeOf28
 v232 := Tryz.zeroValue28
 t233 := Tryz.underlying174
 a233 := Tryz.isAgg174
 z233 := Tryz.sizeOf174
 v233 := Tryz.zeroValue174
 g17 := by kernel_rfl
 g18 := by kernel_rfl
 g19 := by kernel_rfl
 i0 := by kernel_rfl
 i2 := by kernel_rfl
 i3 := by kernel_rfl
 i4 := by kernel_rfl
 i5 := by kernel_rfl
 i9 := by kernel_rfl
 i20 := by kernel_rfl
 i37 := by kernel_rfl
 i46 := by kernel_rfl
 i51 := by kernel_rfl
 i53 := by kernel_rfl
 i171 := by kernel_rfl
 i173 := by kernel_rfl
 i212 := by kernel_rfl
 i232 := by kernel_rfl
 i233 := by kernel_rfl
 m17 := by kernel_rfl
 m18 := by kernel_rfl
 m19 := by kernel_rfl }
open Go.RowKit Go.Sort Go.Lib in
theorem Tryz.strconv_FormatInt_10 (n : Int) (h0 : -9223372036854775808 ≤ n) (h1 : n ≤ 9223372036854775807) (w : World) (htab : Lib.TabIs Tryz.prog w "internal/strconv.uint64pow10" .u64 Lib.pow10Tab) :
  Calls Tryz.prog 77 #[.int .i64 n, .int .i64 10] w fun e w' => e = .returned (.string ⟨(Lib.itoa n).toArray⟩) ∧ ∃ k os, w' = grow (w.drewN k) os := Any.strconv_FormatInt_10 Tryz.laysM173 n h0 h1 w htab
end Go.Proofs
namespace Go.Proofs.YtimioelnnhnbiaaGreatDoor
namespace Js
abbrev Bs := List UInt8
inductive J where
 | mk (kind : Int) (bool : Bool) (num : Int) (text : Bs) (items : List J) (members : List (Bs × J))
def J.kind : J → Int | .mk k _ _ _ _ _ => k
def J.bool : J → Bool | .mk _ b _ _ _ _ => b
def J.num : J → Int | .mk _ _ n _ _ _ => n
def J.text : J → Bs | .mk _ _ _ t _ _ => t
def J.items : J → List J | .mk _ _ _ _ l _ => l
def J.members : J → List (Bs × J) | .mk _ _ _ _ _ m => m
def zero : J := .mk 0 false 0 [] [] []
def plain (x : J) : Bool :=
 decide (1 ≤ x.kind) && decide (x.kind ≤ 6) && (decide (x.kind = 2) || !x.bool) && (decide (x.kind = 3) || decide (x.num = 0)) && (decide (x.kind = 4) || decide (x.text = [])) &&
  (decide (x.kind = 5) || x.items.isEmpty) && (decide (x.kind = 6) || x.members.isEmpty)
mutual
def nodes : J → Nat
 | .mk _ _ _ _ l m => 1 + nodesL l + nodesM m
def nodesL : List J → Nat
 | [] => 0
 | x :: t => nodes x + nodesL t
def nodesM : List (Bs × J) → Nat
 | [] => 0
 | (_, x) :: t => nodes x + nodesM t
end
mutual
def deep : J → Nat
 | .mk _ _ _ _ l m => max (deepL l) (deepM m) + 1
def deepL : List J → Nat
 | [] => 0
 | x :: t => max (deep x) (deepL t)
def deepM : List (Bs × J) → Nat
 | [] => 0
 | (_, x) :: t => max (deep x) (deepM t)
end
mutual
def bytes : J → Nat
 | .mk _ _ _ t l m => t.length + bytesL l + bytesM m
def bytesL : List J → Nat
 | [] => 0
 | x :: t => bytes x + bytesL t
def bytesM : List (Bs × J) → Nat
 | [] => 0
 | (n, x) :: t => n.length + bytes x + bytesM t
end
mutual
def good : J → Bool
 | .mk k b n t l m => plain (.mk k b n t l m) && goodL l && goodM m && decide ((m.map (·.1)).Nodup)
def goodL : List J → Bool
 | [] => true
 | x :: t => good x && goodL t
def goodM : List (Bs × J) → Bool
 | [] => true
 | (_, x) :: t => good x && goodM t
end
def right (x : J) : Bool := good x && decide (nodes x ≤ 256) && decide (deep x ≤ 8) && decide (bytes x ≤ 32768)
def hexD (n : Nat) : UInt8 := if n < 10 then UInt8.ofNat (48 + n) else UInt8.ofNat (87 + n)
def esc (c : UInt8) : Bs :=
 if c = 34 ∨ c = 92 then [92, c] else if c = 10 then [92, 110] else if c = 13 then [92, 114] else if c = 9 then [92, 116]
 else if 32 ≤ c.toNat ∧ c.toNat ≤ 126 then [c] else [92, 117, 48, 48, hexD (c.toNat / 16), hexD (c.toNat % 16)]
def quote (s : Bs) : Bs := 34 :: (s.flatMap esc ++ [34])
mutual
def textOf : J → Bs
 | .mk k b n t l m =>
  if k = 1 then [110, 117, 108, 108]
  else if k = 2 then (if b then [116, 114, 117, 101] else [102, 97, 108, 115, 101])
  else if k = 3 then Lib.itoa n
  else if k = 4 then quote t
  else if k = 5 then 91 :: (textL l true ++ [93])
  else 123 :: (textM m true ++ [125])
def textL : List J → Bool → Bs
 | [], _ => []
 | x :: t, first => (if first then [] else [44]) ++ (textOf x ++ textL t false)
def textM : List (Bs × J) → Bool → Bs
 | [], _ => []
 | (n, x) :: t, first => (if first then [] else [44]) ++ (quote n ++ (58 :: (textOf x ++ textM t false)))
end
mutual
def same : J → J → Bool
 | .mk k b n t l m, .mk k' b' n' t' l' m' =>
  decide (k = k') && (decide (k ≠ 2) || decide (b = b')) && (decide (k ≠ 3) || decide (n = n')) && (decide (k ≠ 4) || decide (t = t')) && (decide (k ≠ 5) || sameL l l') && (decide (k ≠ 6) || sameM m m')
def sameL : List J → List J → Bool
 | [], [] => true
 | x :: t, y :: u => same x y && sameL t u
 | _, _ => false
def sameM : List (Bs × J) → List (Bs × J) → Bool
 | [], [] => true
 | (n, x) :: t, (n', y) :: u => decide (n = n') && same x y && sameM t u
 | _, _ => false
end
end Js
end Go.Proofs.YtimioelnnhnbiaaGreatDoor
namespace Go.Proofs.YtimioelnnhnbiaaGreatDoor
namespace Js
structure St where
 at_ : Nat
 deep : Nat
 nodes : Nat
 bytes : Nat
 large : Bool
deriving DecidableEq
inductive Res (α : Type) where
 | ok (a : α) (st : St)
 | bad (at_ : Nat)
 | out
def Res.bind {α β : Type} : Res α → (α → St → Res β) → Res β
 | .ok a st, f => f a st
 | .bad k, _ => .bad k
 | .out, _ => .out
def peek (s : Bs) (st : St) : UInt8 := (s.drop st.at_).headD 0
def step (st : St) : St := { st with at_ := st.at_ + 1 }
def take (s : Bs) (c : UInt8) (st : St) : Res Unit := if s[st.at_]? = some c then .ok () (step st) else .bad st.at_
def word (s : Bs) : Bs → St → Res Unit
 | [], st => .ok () st
 | c :: t, st => (take s c st).bind fun _ st => word s t st
def isBl (c : UInt8) : Bool := decide (c = 32) || decide (c = 9) || decide (c = 10) || decide (c = 13)
def blanks (s : Bs) (st : St) : St := { st with at_ := st.at_ + ((s.drop st.at_).takeWhile isBl).length }
def isDig (c : UInt8) : Bool := decide (48 ≤ c.toNat) && decide (c.toNat ≤ 57)
def digStep (a : Int × Bool) (c : UInt8) : Int × Bool :=
 if a.1 < Int.tdiv (-9223372036854775808 + ((c.toNat : Int) - 48)) 10 then (a.1, true) else (10 * a.1 - ((c.toNat : Int) - 48), a.2)
def number (s : Bs) (st : St) : Res Int :=
 let below := decide (peek s st = 45)
 let st := if below then step st else st
 if !isDig (peek s st) then .bad st.at_
 else if peek s st = 48 then .ok 0 (step st)
 else
  let ds := (s.drop st.at_).takeWhile isDig
  let a := ds.foldl digStep (0, st.large)
  let st := { st with at_ := st.at_ + ds.length }
  if below then .ok a.1 { st with large := a.2 }
  else .ok (if a.1 = -9223372036854775808 then -9223372036854775808 else -a.1) { st with large := a.2 || decide (a.1 = -9223372036854775808) }
def hexV (c : UInt8) : Option Nat :=
 if 48 ≤ c.toNat ∧ c.toNat ≤ 57 then some (c.toNat - 48) else if 97 ≤ c.toNat ∧ c.toNat ≤ 102 then some (c.toNat - 87) else if 65 ≤ c.toNat ∧ c.toNat ≤ 70 then some (c.toNat - 55) else none
def digit (s : Bs) (st : St) : Res Nat :=
 match (s[st.at_]?).bind hexV with
 | some n => .ok n (step st)
 | none => .bad st.at_
def escV (c : UInt8) : Option UInt8 :=
 if c = 34 then some 34 else if c = 92 then some 92 else if c = 47 then some 47 else if c = 98 then some 8 else if c = 102 then some 12 else if c = 110 then some 10 else if c = 114 then some 13 else if c = 116 then some 9 else none
def pair (s : Bs) (st : St) : Res UInt8 :=
 if s[st.at_]? = some 117 then
  (word s [117, 48, 48] st).bind fun _ st => (digit s st).bind fun a st => (digit s st).bind fun b st => .ok (UInt8.ofNat (16 * a + b)) st
 else
  match (s[st.at_]?).bind escV with
  | some c => .ok c (step st)
  | none => .bad st.at_
def textGo (s : Bs) : Nat → Bs → St → Res Bs
 | 0, _, _ => .out
 | n + 1, acc, st =>
  match s[st.at_]? with
  | none => .bad st.at_
  | some c =>
   if c = 34 then .ok acc (step st)
   else if c.toNat < 32 ∨ 126 < c.toNat then .bad st.at_
   else if c = 92 then (pair s (step st)).bind fun d st => textGo s n (acc ++ [d]) st
   else textGo s n (acc ++ [c]) (step st)
def text (s : Bs) (st : St) : Res Bs :=
 (take s 34 st).bind fun _ st => (textGo s (s.length + 1) [] st).bind fun t st =>
  .ok t { st with bytes := st.bytes + t.length, large := st.large || decide (32768 < st.bytes + t.length) }
mutual
def value (s : Bs) : Nat → St → Res J
 | 0, _ => .out
 | n + 1, st =>
  let st := blanks s st
  let st := { st with nodes := st.nodes + 1, deep := st.deep + 1, large := st.large || decide (8 < st.deep + 1) || decide (256 < st.nodes + 1) }
  (inner s n st).bind fun x st => .ok x (blanks s { st with deep := st.deep - 1 })
def inner (s : Bs) : Nat → St → Res J
 | 0, _ => .out
 | n + 1, st =>
  let c := peek s st
  if c = 110 then (word s [110, 117, 108, 108] st).bind fun _ st => .ok (.mk 1 false 0 [] [] []) st
  else if c = 116 then (word s [116, 114, 117, 101] st).bind fun _ st => .ok (.mk 2 true 0 [] [] []) st
  else if c = 102 then (word s [102, 97, 108, 115, 101] st).bind fun _ st => .ok (.mk 2 false 0 [] [] []) st
  else if c = 34 then (text s st).bind fun t st => .ok (.mk 4 false 0 t [] []) st
  else if c = 45 ∨ isDig c = true then (number s st).bind fun k st => .ok (.mk 3 false k [] [] []) st
  else if c = 91 then
   let st := blanks s (step st)
   if peek s st = 93 then .ok (.mk 5 false 0 [] [] []) (step st) else (items s n [] st).bind fun l st => .ok (.mk 5 false 0 [] l []) st
  else if c = 123 then
   let st := blanks s (step st)
   if peek s st = 125 then .ok (.mk 6 false 0 [] [] []) (step st) else (members s n [] st).bind fun l st => .ok (.mk 6 false 0 [] [] l) st
  else .bad st.at_
def items (s : Bs) : Nat → List J → St → Res (List J)
 | 0, _, _ => .out
 | n + 1, acc, st => (value s n st).bind fun x st =>
  if peek s st = 93 then .ok (acc ++ [x]) (step st) else (take s 44 st).bind fun _ st => items s n (acc ++ [x]) st
def members (s : Bs) : Nat → List (Bs × J) → St → Res (List (Bs × J))
 | 0, _, _ => .out
 | n + 1, acc, st =>
  (text s (blanks s st)).bind fun name st => (take s 58 (blanks s st)).bind fun _ st =>
   (value s n { st with large := st.large || acc.any fun m => decide (m.1 = name) }).bind fun x st =>
    let acc := if st.large then acc else acc ++ [(name, x)]
    if peek s st = 125 then .ok acc (step st) else (take s 44 st).bind fun _ st => members s n acc st
end
def st0 : St := ⟨0, 0, 0, 0, false⟩
end Js
end Go.Proofs.YtimioelnnhnbiaaGreatDoor
namespace Go.Proofs.YtimioelnnhnbiaaGreatDoor
open Go.RowKit
theorem ret_bool {a b : Bool} (h : a = b) : Ending.returned (.bool a) = .returned (.bool b) := by rw [h]
theorem ret_int {k : IntKind} {a b : Int} (h : a = b) : Ending.returned (.int k a) = .returned (.int k b) := by rw [h]
theorem below_box (w : World) (o : Obj) : Below w.heap.size w (w.alloc o) := (Below.refl _ _).alloc (Nat.le_refl _) o
theorem below_drewN {B : Nat} {a w : World} (h : Below B a w) (n : Nat) : Below B a (w.drewN n) := ⟨h.os, h.tape, h.output, h.size, h.block⟩
theorem blk_cells {w : World} {b : Nat} {t : TypeId} {cs : Array Value} (h : w.heap[b]? = some (.cells cs t (0, 0))) (i : Nat) : w.cell? ⟨b, i, none⟩ = cs[i]? := cell_of_row w b i cs t (0, 0) h
theorem blk_free {w : World} {b : Nat} {t : TypeId} {cs : Array Value} (h : w.heap[b]? = some (.cells cs t (0, 0))) (i : Nat) : w.frozen? ⟨b, i, none⟩ = false := by simp [World.frozen?, h]
theorem blk_next {w w' : World} {b : Nat} {o : Obj} (hb : Below w.heap.size w w') (h : w.heap[b]? = some o) : w'.heap[b]? = some o := by
 have hlt : b < w.heap.size := (Array.getElem?_eq_some_iff.1 h).1
 exact (hb.block b hlt).trans h
def CellsAt (w : World) (A : Option Addr) (vs : List Value) : Prop :=
 vs ≠ [] → ∃ b off, A = some ⟨b, off, none⟩ ∧ b < w.heap.size ∧ ∀ i v, vs[i]? = some v → w.cell? ⟨b, off + i, none⟩ = some v
theorem CellsAt.nil (w : World) (A : Option Addr) : CellsAt w A [] := fun h => absurd rfl h
theorem CellsAt.next {w w' : World} {A : Option Addr} {vs : List Value} (h : CellsAt w A vs) {B : Nat} (hb : Below B w w') (hB : w.heap.size ≤ B) : CellsAt w' A vs := fun hne => by
 obtain ⟨b, off, h1, h2, h3⟩ := h hne
 exact ⟨b, off, h1, Nat.lt_of_lt_of_le h2 hb.size, fun i v hi => (hb.cell (p := ⟨b, off + i, none⟩) (by show b < B; omega)).trans (h3 i v hi)⟩
theorem CellsAt.at_ {w wr : World} {A : Option Addr} {vs : List Value} (h : CellsAt w A vs) (hb : Below w.heap.size w wr) {k : Nat} {v : Value} (hv : vs[k]? = some v) :
  ∃ b off, A = some ⟨b, off, none⟩ ∧ b < w.heap.size ∧ wr.cell? ⟨b, off + k, none⟩ = some v := by
 obtain ⟨b, off, h1, h2, h3⟩ := h (by intro e; subst e; simp at hv)
 exact ⟨b, off, h1, h2, (hb.cell (p := ⟨b, off + k, none⟩) h2).trans (h3 k v hv)⟩
theorem CellsAt.drewN {w : World} {A : Option Addr} {vs : List Value} (h : CellsAt w A vs) (q : Nat) : CellsAt (w.drewN q) A vs := h.next (below_drewN (Below.refl _ _) q) (Nat.le_refl _)
structure But (S : List Nat) (a w : World) : Prop where
 os : w.os = a.os
 tape : w.tape = a.tape
 output : w.output = a.output
 size : a.heap.size ≤ w.heap.size
 block : ∀ j, j < a.heap.size → j ∉ S → w.heap[j]? = a.heap[j]?
theorem But.refl (S : List Nat) (a : World) : But S a a := ⟨rfl, rfl, rfl, Nat.le_refl _, fun _ _ _ => rfl⟩
theorem But.trans {S : List Nat} {a b c : World} (h : But S a b) (k : But S b c) : But S a c :=
 ⟨k.os.trans h.os, k.tape.trans h.tape, k.output.trans h.output, Nat.le_trans h.size k.size, fun j hj hs => (k.block j (Nat.lt_of_lt_of_le hj h.size) hs).trans (h.block j hj hs)⟩
theorem But.of {S : List Nat} {a w : World} (h : Below a.heap.size a w) : But S a w := ⟨h.os, h.tape, h.output, h.size, fun j hj _ => h.block j hj⟩
theorem But.to {S : List Nat} {a w : World} (h : But S a w) {B : Nat} (hB : B ≤ a.heap.size) (hS : ∀ j ∈ S, B ≤ j) : Below B a w :=
 ⟨h.os, h.tape, h.output, h.size, fun j hj => h.block j (Nat.lt_of_lt_of_le hj hB) (fun hm => by have := hS j hm; omega)⟩
theorem But.mono {S T : List Nat} {a w : World} (h : But S a w) (hST : ∀ j ∈ S, j ∈ T) : But T a w := ⟨h.os, h.tape, h.output, h.size, fun j hj hs => h.block j hj (fun hm => hs (hST j hm))⟩
theorem But.blk {S : List Nat} {a w : World} (h : But S a w) {j : Nat} {o : Obj} (hj : a.heap[j]? = some o) (hs : j ∉ S) : w.heap[j]? = some o :=
 (h.block j (Array.getElem?_eq_some_iff.1 hj).1 hs).trans hj
theorem but_set {w : World} {b i : Nat} {cs : Array Value} {t : TypeId} {fz : Nat × Nat} (v : Value) (h : w.heap[b]? = some (.cells cs t fz)) :
  But [b] w (w.setCell ⟨b, i, none⟩ v) ∧ (w.setCell ⟨b, i, none⟩ v).heap[b]? = some (.cells (cs.setIfInBounds i v) t fz) := by
 rw [setCell_eq_setRow w b i cs t fz v h]
 refine ⟨⟨rfl, rfl, rfl, by simp, fun j hj hs => setRow_other w b j _ (by simpa using hs)⟩, setRow_heap w b cs _ t fz h⟩
structure Own (e : TypeId) (size B : Nat) (v : Value) (n : Nat) (xs : List Value) (w : World) : Prop where
 own : w.ownsRow B e size v n xs
 le : B ≤ w.heap.size
section
variable {e : TypeId} {size B : Nat} {v : Value} {n : Nat} {xs : List Value} {w w' : World}
theorem Own.nil (e : TypeId) (size : Nat) (w : World) : Own e size w.heap.size (.slice none 0 0) 0 [] w := ⟨World.ownsRow_nil _ _ _ _, Nat.le_refl _⟩
theorem Own.lt (h : Own e size B v n xs w) : ∀ k, v.ownBlock = some k → B ≤ k ∧ k < w.heap.size := h.own.lt
theorem Own.but {S : List Nat} (h : Own e size B v n xs w) (hk : But S w w') (hS : ∀ j ∈ S, j < B) : Own e size B v n xs w' := by
 refine ⟨⟨h.own.1, ?_⟩, Nat.le_trans h.le hk.size⟩
 rcases h.own.2 with hn | ⟨g, cap, cur, rfl, hb, hg, rest⟩
 ·exact .inl hn
 ·exact .inr ⟨g, cap, cur, rfl, hb, hk.blk hg (fun hm => by have := hS g hm; omega), rest⟩
theorem Own.next (h : Own e size B v n xs w) (hb : Below w.heap.size w w') : Own e size B v n xs w' := h.but (But.of (S := []) hb) (by simp)
theorem Own.slice (h : Own e 1 B v n xs w) : ∃ A c, v = .slice A n c ∧ CellsAt w A xs := by
 rcases h.own.2 with ⟨rfl, rfl⟩ | ⟨g, cap, cur, rfl, hb, hg, rest⟩
 ·have : xs = [] := List.eq_nil_of_length_eq_zero (by simpa using h.own.1)
  subst this
  exact ⟨_, _, rfl, CellsAt.nil _ _⟩
 ·refine ⟨_, _, rfl, fun _ => ⟨g, 0, rfl, (Array.getElem?_eq_some_iff.1 hg).1, fun i u hi => ?_⟩⟩
  have hc := h.own.cells (g := g) rfl i u hi
  have hadd : (⟨g, 0, none⟩ : Addr).add i = ⟨g, i, none⟩ := by unfold Addr.add; split <;> simp_all
  rw [hadd] at hc
  rw [Nat.zero_add]; exact hc
end
theorem byteCells_one (l : List UInt8) : ∀ v ∈ Lib.byteCells l, v.oneCell' = true := by
 intro v hv
 simp only [Lib.byteCells, List.mem_map] at hv
 obtain ⟨b, _, rfl⟩ := hv; rfl
theorem byteCells_app (l m : List UInt8) : Lib.byteCells (l ++ m) = Lib.byteCells l ++ Lib.byteCells m := by unfold Lib.byteCells; rw [List.map_append]
theorem But.step {S : List Nat} {a w w' : World} (h : But S a w) (hb : Below a.heap.size w w') : But S a w' :=
 ⟨hb.os.trans h.os, hb.tape.trans h.tape, hb.output.trans h.output, Nat.le_trans h.size hb.size, fun j hj hs => (hb.block j hj).trans (h.block j hj hs)⟩
theorem wp_own_append {o : Oper} {a : Act} {K : Act → World → Prop} {Q : Exit → Act → World → Prop} (s x : Operand) (t e : TypeId) (z : Value) (size bytes : Nat)
  (ho : o.op = .call { callee := .builtin .append, args := #[s, x], argTypes := #[t, t] }) (ht : Tryz.prog.underlying t = some (.slice e))
  (hi : (Tryz.prog.info? e).map (fun i => (i.zero, i.size, i.bytes)) = some (some z, size, bytes)) (hzs : z.cells.size = size) (hsz : 0 < size)
  {B : Nat} {v : Value} {n : Nat} {xs : List Value} {w : World} (hb : Own e size B v n xs w) (hs : a.eval s = v)
  (news : List Value) (m : Nat) {C : Array Value} (hC : C = news.toArray) (hm : news.length = m * size) (h1 : ∀ u ∈ news, u.oneCell' = true)
  (hx : a.eval x = .slice (some ⟨w.heap.size, 0, none⟩) m m) (h63 : n + m ≤ maxLen) (hbytes : (n + m) * bytes ≤ 140737488355328)
  (h : ∀ v' w', Own e size B v' (n + m) (xs ++ news) w' → Below B w w' → w.grownBy w' v.ownBlock → K (a.put o.dst v') w') : o.wp Tryz.prog a (w.alloc (.cells C e)) K Q := by
 subst hC
 cases hinf : Tryz.prog.info? e with
 | none => rw [hinf] at hi; cases hi
 | some i0 =>
  rw [hinf] at hi
  simp only [Option.map_some, Option.some.injEq, Prod.mk.injEq] at hi
  obtain ⟨hz0, hz1, hz2⟩ := hi
  have hle : B ≤ (w.alloc (.cells news.toArray e)).heap.size := by simp; have := hb.le; omega
  refine wp_append_own _ s x t ho B e i0 z size bytes ht hinf hz0 hz1 hz2 hzs hsz v n xs hs (hb.own.alloc _) ⟨w.heap.size, 0, none⟩ m m news hx hm ?_ h1 h63 hbytes hle ?_
  ·intro j u hj
   have hadd : (⟨w.heap.size, 0, none⟩ : Addr).add j = ⟨w.heap.size, j, none⟩ := by unfold Addr.add; split <;> simp_all
   rw [hadd, blk_cells (heap_alloc_new w _) j, List.getElem?_toArray, hj]
  ·intro v' w' h1' h2 _
   refine h v' w' ⟨h1', Nat.le_trans hle h2.size⟩ ?_ ?_
   ·exact ((Below.refl B w).alloc hb.le (.cells news.toArray e)).grown h2 hle (fun k hk => (hb.own.lt k hk).1)
   ·refine ⟨h2.os, h2.tape, h2.output, Nat.le_trans (by simp) h2.size, fun k hk hne => ?_⟩
    exact (h2.block k (by simp; omega) hne).trans (heap_alloc_old w _ hk)
theorem own_shape {e : TypeId} {size B : Nat} {v : Value} {n : Nat} {xs : List Value} {w : World} (h : Own e size B v n xs w) : ∃ A c, v = .slice A n c := by
 rcases h.own.2 with ⟨rfl, rfl⟩ | ⟨g, cap, cur, rfl, _⟩
 ·exact ⟨_, _, rfl⟩
 ·exact ⟨_, _, rfl⟩
theorem But.grown {w w' : World} {row : Option Nat} (h : w.grownBy w' row) : But row.toList w w' :=
 ⟨h.os, h.tape, h.output, h.size, fun j hj hs => h.block j hj (fun e => hs (by rw [← e]; simp))⟩
theorem below_grow (w : World) (k : Nat) (os : Array Obj) : Below w.heap.size w (Go.Sort.grow (w.drewN k) os) := by
 refine ⟨rfl, rfl, rfl, by simp [Go.Sort.grow, World.drewN], fun j hj => ?_⟩
 show (w.heap ++ os)[j]? = w.heap[j]?
 rw [Array.getElem?_append_left hj]
structure Env (w : World) : Prop where
 tab : Lib.TabIs Tryz.prog w "internal/strconv.uint64pow10" .u64 Lib.pow10Tab
 big : 4 ≤ w.heap.size
theorem tab_named : Tryz.prog.globalNamed "internal/strconv.uint64pow10" = some 0 := by kernel_rfl
theorem Env.below {B : Nat} {w w' : World} (h : Env w) (hb : Below B w w') (hB : 4 ≤ B) : Env w' := by
 obtain ⟨ht, hbig⟩ := h
 have hv : Lib.TabIs Tryz.prog w' "internal/strconv.uint64pow10" .u64 Lib.pow10Tab := by
  unfold Lib.TabIs World.var? at ht ⊢
  rw [tab_named] at ht ⊢
  simp only [Option.bind_some] at ht ⊢
  rw [hb.block 0 (by omega)]
  exact ht
 exact ⟨hv, Nat.le_trans hbig hb.size⟩
theorem Env.next {w w' : World} (h : Env w) (hb : Below w.heap.size w w') : Env w' := h.below hb h.big
theorem info5 : (Tryz.prog.info? 5).map (fun i => (i.zero, i.size, i.bytes)) = some (some (.int .u8 0), 1, 1) := by kernel_rfl
theorem But.drew {S : List Nat} {a w : World} (h : But S a w) : But S a w.drew := ⟨h.os, h.tape, h.output, h.size, h.block⟩
theorem But.drewN {S : List Nat} {a w : World} (h : But S a w) (n : Nat) : But S a (w.drewN n) := h.trans (But.of (below_drewN (Below.refl _ _) n))
end Go.Proofs.YtimioelnnhnbiaaGreatDoor
set_option linter.unusedVariables false
namespace Go.Proofs.YtimioelnnhnbiaaGreatDoor
open Go.RowKit

def IsB (B b : Nat) (l : List UInt8) (w : World) : Prop := Lib.IsBuilderF 112 5 B b (Lib.byteCells l) w

theorem bld_size : (Tryz.prog.info? 112).map (·.size) = some 2 := by kernel_rfl
theorem bld_lies : liesAt Tryz.prog Tryz.prog.depth 112 (2 / Tryz.prog.cellsOf 112) 0 112 1 = true := by kernel_rfl
theorem byte_info : (Tryz.prog.info? 5).map (fun i => (i.zero, i.size, i.bytes)) = some (some (.int .u8 0), 1, 1) := by kernel_rfl

set_option maxHeartbeats 1000000 in
set_option maxRecDepth 100000 in
theorem copyCheck_used (b : Nat) (w : World) (h0 : w.cell? ⟨b, 0, none⟩ = some (.pointer (some ⟨b, 0, none⟩))) :
  Calls Tryz.prog 94 #[.pointer (some ⟨b, 0, none⟩)] w fun e w' => e = .returned (.tuple #[]) ∧ w = w' := by
 obtain ⟨j, hj, _⟩ := Option.map_eq_some_iff.1 bld_size
 go_enter Tryz.func94, Tryz.ntmps94
 go_wp2
 rw [Lib.run_neq_ptr_same w _ Tryz.underlying109 hj]
 go_wp2
 go_end0
 exact ⟨rfl, rfl⟩

set_option maxHeartbeats 1000000 in
set_option maxRecDepth 100000 in
theorem copyCheck_fresh (b : Nat) (w : World) (h0 : w.cell? ⟨b, 0, none⟩ = some (.pointer none)) (hsh : w.shape? b = some (112, 2)) (hfz : w.frozen? ⟨b, 0, none⟩ = false) :
  Calls Tryz.prog 94 #[.pointer (some ⟨b, 0, none⟩)] w fun e w' => e = .returned (.tuple #[]) ∧ w' = w.setCell ⟨b, 0, none⟩ (.pointer (some ⟨b, 0, none⟩)) := by
 obtain ⟨j, hj, hjs⟩ := Option.map_eq_some_iff.1 bld_size
 go_enter Tryz.func94, Tryz.ntmps94
 go_wp2
 rw [Lib.run_to_unsafe w ⟨b, 0, none⟩ Tryz.underlying109 Tryz.underlying157 hj (by rw [hjs]; decide) hsh (Nat.zero_lt_succ 1)]
 simp only [Result.andThen]
 rw [Oper.upon_value]
 go_wp2
 rw [run_callFunc_extern Tryz.func101 (by kernel_rfl) (by kernel_rfl) (by kernel_rfl) (e := Extern.AbiNoEscape.same) (by kernel_rfl)]
 rw [Lib.run_noEscape]
 simp only [Result.andThen]
 rw [Oper.upon_value]
 go_wp2
 rw [Lib.run_from_unsafe w ⟨b, 0, none⟩ Tryz.underlying157 Tryz.underlying109 hj hsh bld_lies]
 simp only [Result.andThen]
 rw [Oper.upon_value]
 go_wp2
 go_end0
 exact ⟨rfl, rfl⟩

theorem copyCheck_k (B b : Nat) (bs : List Value) (w : World) (h : Lib.IsBuilderF 112 5 B b bs w) :
  Calls Tryz.prog 94 #[.pointer (some ⟨b, 0, none⟩)] w fun e w' => e = .returned (.tuple #[]) ∧ (Lib.BuilderAtF 112 5 B b (.pointer (some ⟨b, 0, none⟩)) bs w' ∧ Below B w w' ∧ Lib.OthersKept 5 (some b) w w') := by
 rcases h with h | h
 ·refine (copyCheck_fresh b w h.cell0 h.shape h.frozen0).mono ?_
  rintro e w' ⟨rfl, rfl⟩
  exact ⟨rfl, h.used _, (Below.refl B w).setCell (p := ⟨b, 0, none⟩) h.1 _, (Lib.OthersKept.refl _ _ w).setCell ⟨b, 0, none⟩ rfl _⟩
 ·refine (copyCheck_used b w h.cell0).mono ?_
  rintro e w' ⟨rfl, rfl⟩
  exact ⟨rfl, h, Below.refl B _, Lib.OthersKept.refl _ _ _⟩

set_option maxHeartbeats 2000000 in
set_option maxRecDepth 100000 in
theorem writeByte_v (B b : Nat) (bs : List Value) (c : Int) (w : World) (h : Lib.IsBuilderF 112 5 B b bs w) (hlen : bs.length + 1 ≤ 140737488355328) (hBw : B ≤ w.heap.size) :
  Calls Tryz.prog 79 #[.pointer (some ⟨b, 0, none⟩), .int .u8 c] w fun e w' => e = .returned .nilIface ∧ (Lib.BuilderAtF 112 5 B b (.pointer (some ⟨b, 0, none⟩)) (bs ++ [.int .u8 c]) w' ∧ Below B w w' ∧ Lib.OthersKept 5 (some b) w w') := by
 obtain ⟨i0, hi, hz0, hz1, hz2⟩ := info_parts byte_info
 go_enter Tryz.func79, Tryz.ntmps79
 go_wp2_with (go_at_call 94; refine (copyCheck_k B b bs _ h).mono ?_)
 rintro e w1 ⟨rfl, h1, hb1, hk1⟩
 obtain ⟨hB, v, hbk, hown, hne⟩ := h1
 have c0 : w1.cell? ⟨b, 0, none⟩ = some (.pointer (some ⟨b, 0, none⟩)) := by rw [Lib.cell_of_heap hbk]; rfl
 have c1 : w1.cell? ⟨b, 1, none⟩ = some v := by rw [Lib.cell_of_heap hbk]; rfl
 go_wp2_with (at_builtin; refine wpList_append_ownF _ rfl _ _ 110 rfl B 5 i0 (.int .u8 0) 1 1 Tryz.underlying110 hi hz0 hz1 hz2 rfl (by decide) _ _ _ rfl (hown.alloc _) ⟨w1.heap.size, 0, none⟩ 1 1 [.int .u8 c] rfl rfl ?c1 ?c2 ?c3 ?c4 ?c5 ?_)
 case c1 =>
  intro j u hj
  match j, hj with
  | 0, hj => simp at hj; subst hj; simp [Addr.add]
 case c2 => intro u hu; simp at hu; subst hu; rfl
 case c3 => unfold maxLen; omega
 case c4 => omega
 case c5 => have := hb1.size; simp; omega
 intro v' w2 hown' hgrow _
 have hlt : b < w1.heap.size := by
  rcases Nat.lt_or_ge b w1.heap.size with h' | h'
  ·exact h'
  ·simp [Array.getElem?_eq_none h'] at hbk
 have hb2 : w2.heap[b]? = some (.cells #[.pointer (some ⟨b, 0, none⟩), v] 112 (0, 0)) := by
  rw [hgrow.block b (by simp; omega) (fun e => hne e.symm), Lib.alloc_old w1 _ b hlt]
  exact hbk
 have d0 : w2.cell? ⟨b, 0, none⟩ = some (.pointer (some ⟨b, 0, none⟩)) := by rw [Lib.cell_of_heap hb2]; rfl
 have d1 : w2.cell? ⟨b, 1, none⟩ = some v := by rw [Lib.cell_of_heap hb2]; rfl
 have f1 : w2.frozen? ⟨b, 1, none⟩ = false := Lib.frozen_of_heap hb2 1
 obtain ⟨g, cap, rfl⟩ : ∃ g cap, v' = .slice (some ⟨g, 0, none⟩) (bs.length + 1) cap := by
  rcases hown'.2 with ⟨_, h0⟩ | ⟨g, cap, cur, fz, hv, _⟩
  ·omega
  ·exact ⟨g, cap, hv⟩
 go_wp2
 go_ret
 refine ⟨rfl, ?_, ?_, ((hk1.alloc _).grown hgrow (Lib.ownsRowF_kind (hown.alloc _))).setCell ⟨b, 1, none⟩ rfl _⟩
 ·exact Lib.BuilderAtF.put (T := 112) (e := 5) hB hb2 (bs' := bs ++ [.int .u8 c]) (by simpa using hown') (by decide)
 ·exact ((hb1.alloc (by have := hb1.size; omega) _).grown hgrow (by have := hb1.size; simp; omega) (fun k hk => (hown.lt k hk).1)).setCell (p := ⟨b, 1, none⟩) hB _

set_option maxHeartbeats 2000000 in
set_option maxRecDepth 100000 in
theorem writeString_v (B b : Nat) (bs : List Value) (s : ByteArray) (w : World) (h : Lib.IsBuilderF 112 5 B b bs w) (hlen : bs.length + s.size ≤ 140737488355328) (hBw : B ≤ w.heap.size) :
  Calls Tryz.prog 75 #[.pointer (some ⟨b, 0, none⟩), .string s] w fun e w' => e = .returned (.tuple #[.int .i64 s.size, .nilIface]) ∧ (Lib.BuilderAtF 112 5 B b (.pointer (some ⟨b, 0, none⟩)) (bs ++ Lib.strCells s) w' ∧ Below B w w' ∧ Lib.OthersKept 5 (some b) w w') := by
 obtain ⟨i0, hi, hz0, hz1, hz2⟩ := info_parts byte_info
 go_enter Tryz.func75, Tryz.ntmps75
 go_wp2_with (go_at_call 94; refine (copyCheck_k B b bs _ h).mono ?_)
 rintro e w1 ⟨rfl, h1, hb1, hk1⟩
 obtain ⟨hB, v, hbk, hown, hne⟩ := h1
 have c0 : w1.cell? ⟨b, 0, none⟩ = some (.pointer (some ⟨b, 0, none⟩)) := by rw [Lib.cell_of_heap hbk]; rfl
 have c1 : w1.cell? ⟨b, 1, none⟩ = some v := by rw [Lib.cell_of_heap hbk]; rfl
 go_wp2_with (at_builtin; refine Lib.wpList_append_own_stringF _ rfl _ _ 110 9 rfl B 5 i0 Tryz.underlying110 Tryz.underlying9 hi hz0 hz1 hz2 _ _ _ rfl hown s rfl ?c3 ?c4 ?c5 ?_)
 case c3 => unfold maxLen; omega
 case c4 => omega
 case c5 => have := hb1.size; omega
 intro v' w2 hown' hgrow _
 have hlt : b < w1.heap.size := by
  rcases Nat.lt_or_ge b w1.heap.size with h' | h'
  ·exact h'
  ·simp [Array.getElem?_eq_none h'] at hbk
 have hb2 : w2.heap[b]? = some (.cells #[.pointer (some ⟨b, 0, none⟩), v] 112 (0, 0)) := by
  rw [hgrow.block b hlt (fun e => hne e.symm)]
  exact hbk
 have d0 : w2.cell? ⟨b, 0, none⟩ = some (.pointer (some ⟨b, 0, none⟩)) := by rw [Lib.cell_of_heap hb2]; rfl
 have d1 : w2.cell? ⟨b, 1, none⟩ = some v := by rw [Lib.cell_of_heap hb2]; rfl
 have f1 : w2.frozen? ⟨b, 1, none⟩ = false := Lib.frozen_of_heap hb2 1
 obtain ⟨ao, n', cap, rfl⟩ : ∃ ao n' cap, v' = .slice ao n' cap := by
  rcases hown'.2 with ⟨hv, _⟩ | ⟨g, cap, cur, fz, hv, _⟩
  ·exact ⟨_, _, _, hv⟩
  ·exact ⟨_, _, _, hv⟩
 go_wp2
 go_ret2
 refine ⟨rfl, ?_, ?_, (hk1.grown hgrow (Lib.ownsRowF_kind hown)).setCell ⟨b, 1, none⟩ rfl _⟩
 ·exact Lib.BuilderAtF.put (T := 112) (e := 5) hB hb2 (bs' := bs ++ Lib.strCells s) (by simpa [Lib.strCells_length] using hown') (by decide)
 ·exact (hb1.grown hgrow (by have := hb1.size; omega) (fun k hk => (hown.lt k hk).1)).setCell (p := ⟨b, 1, none⟩) hB _


theorem isB_new (w : World) : IsB w.heap.size w.heap.size [] (w.alloc (.cells #[.pointer none, .slice none 0 0] 112)) := by
 refine .inl ⟨Nat.le_refl _, .slice none 0 0, heap_alloc_new w _, ⟨by simp [Lib.byteCells], .inl ⟨rfl, rfl⟩⟩, by simp [Value.ownBlock]⟩
theorem IsB.lt {B b : Nat} {l : List UInt8} {w : World} (h : IsB B b l w) : b < w.heap.size := h.elim (fun x => x.lt) (fun x => x.lt)
theorem IsB.base {B b : Nat} {l : List UInt8} {w : World} (h : IsB B b l w) : B ≤ b := h.elim (fun x => x.1) (fun x => x.1)
theorem IsB.drew {B b : Nat} {l : List UInt8} {w : World} (h : IsB B b l w) : IsB B b l w.drew := h.elim (fun x => .inl x.drew) (fun x => .inr x.drew)
theorem IsB.alloc {B b : Nat} {l : List UInt8} {w : World} (h : IsB B b l w) (o : Obj) : IsB B b l (w.alloc o) := h.elim (fun x => .inl (x.alloc o)) (fun x => .inr (x.alloc o))

theorem byteCells_len (l : List UInt8) : (Lib.byteCells l).length = l.length := Lib.byteCells_length l

theorem writeByte_any (B b : Nat) (l : List UInt8) (c : UInt8) (w : World) (h : IsB B b l w) (hlen : l.length + 1 ≤ 140737488355328) :
  Calls Tryz.prog 79 #[.pointer (some ⟨b, 0, none⟩), .int .u8 c.toNat] w fun e w' => e = .returned .nilIface ∧ IsB B b (l ++ [c]) w' ∧ Below B w w' ∧ Lib.OthersKept 5 (some b) w w' := by
 have hlt := h.lt
 have hb := h.base
 refine (writeByte_v B b _ c.toNat w h (by rw [byteCells_len]; exact hlen) (by omega)).mono ?_
 rintro e w' ⟨rfl, h1, h2, h3⟩
 exact ⟨rfl, by rw [IsB, Lib.byteCells_append]; exact .inr h1, h2, h3⟩
theorem writeByte_at (B b : Nat) (l : List UInt8) (n : Int) (c : UInt8) (hc : (c.toNat : Int) = n) (w : World) (h : IsB B b l w) (hlen : l.length + 1 ≤ 140737488355328) :
  Calls Tryz.prog 79 #[.pointer (some ⟨b, 0, none⟩), .int .u8 n] w fun e w' => e = .returned .nilIface ∧ IsB B b (l ++ [c]) w' ∧ Below B w w' ∧ Lib.OthersKept 5 (some b) w w' := by
 subst hc
 exact writeByte_any B b l c w h hlen
theorem writeString_any (B b : Nat) (l : List UInt8) (s : ByteArray) (w : World) (h : IsB B b l w) (hlen : l.length + s.size ≤ 140737488355328) :
  Calls Tryz.prog 75 #[.pointer (some ⟨b, 0, none⟩), .string s] w fun e w' => e = .returned (.tuple #[.int .i64 s.size, .nilIface]) ∧ IsB B b (l ++ s.data.toList) w' ∧ Below B w w' ∧ Lib.OthersKept 5 (some b) w w' := by
 have hlt := h.lt
 have hb := h.base
 refine (writeString_v B b _ s w h (by rw [byteCells_len]; exact hlen) (by omega)).mono ?_
 rintro e w' ⟨rfl, h1, h2, h3⟩
 exact ⟨rfl, by rw [IsB, Lib.byteCells_append]; exact .inr h1, h2, h3⟩
theorem writeString_at (B b : Nat) (l m : List UInt8) (s : ByteArray) (hs : s.data.toList = m) (w : World) (h : IsB B b l w) (hlen : l.length + m.length ≤ 140737488355328) :
  Calls Tryz.prog 75 #[.pointer (some ⟨b, 0, none⟩), .string s] w fun e w' => e = .returned (.tuple #[.int .i64 s.size, .nilIface]) ∧ IsB B b (l ++ m) w' ∧ Below B w w' ∧ Lib.OthersKept 5 (some b) w w' := by
 subst hs
 exact writeString_any B b l s w h (by rw [Lib.size_eq]; exact hlen)
theorem bldLen_any (B b : Nat) (l : List UInt8) (w : World) (h : IsB B b l w) :
  Calls Tryz.prog 100 #[.pointer (some ⟨b, 0, none⟩)] w fun e w' => e = .returned (.int .i64 l.length) ∧ w = w' := by
 refine (Tryz.Builder_Len_f B b _ w h).mono ?_
 rintro e w' ⟨rfl, rfl⟩
 exact ⟨by rw [byteCells_len], rfl⟩
theorem bldString_any (B b : Nat) (l : List UInt8) (w : World) (h : IsB B b l w) :
  Calls Tryz.prog 52 #[.pointer (some ⟨b, 0, none⟩)] w fun e w' => e = .returned (.string ⟨l.toArray⟩) ∧ IsB B b l w' ∧ Below B w w' ∧ Lib.OthersKept 5 (some b) w w' := by
 have hlt := h.lt
 have hb := h.base
 exact Tryz.Builder_String_any_k B b l w h (by omega)
end Go.Proofs.YtimioelnnhnbiaaGreatDoor
