/-
  Plain functions for the reader of the layer script: what each computes, on lists of bytes. No program in sight.
-/
import Derived.Test.YthpojljfmipngaaGreatDoorPure
import Derived.Lib.IndexMore
import Derived.Lib.IndexLaws
import Derived.Lib.IndexBytes
import Derived.Lib.AtoiAll
namespace Go.Proofs.YthpojljfmipngaaGreatDoor
namespace Sc
structure Rd where
  rest : Bs
  bad : Bool
deriving DecidableEq
/-- What stands up to the first c, what stands behind it, and whether there is one. -/
def upto (c : UInt8) : Bs → Bs × Bs × Bool
  | [] => ([], [], false)
  | x :: t => if x = c then ([], t, true) else (x :: (upto c t).1, (upto c t).2)
theorem upto_no {c : UInt8} : ∀ {l : Bs}, (∀ k : Nat, l[k]? ≠ some c) → upto c l = (l, [], false)
  | [], _ => rfl
  | x :: t, h => by
    have hx : x ≠ c := fun e => h 0 (by simp [e])
    have ht := upto_no (c := c) (l := t) (fun k => by have := h (k + 1); simpa using this)
    rw [upto, if_neg hx, ht]
theorem upto_at {c : UInt8} : ∀ {l : Bs} {o : Nat}, l[o]? = some c → (∀ k : Nat, k < o → l[k]? ≠ some c) → upto c l = (l.take o, l.drop (o + 1), true)
  | [], _, h, _ => by simp at h
  | x :: t, 0, h, _ => by
    have hx : x = c := by simpa using h
    rw [upto, if_pos hx]; simp
  | x :: t, o + 1, h, hk => by
    have hx : x ≠ c := fun e => hk 0 (by omega) (by simp [e])
    have ht := upto_at (c := c) (l := t) (o := o) (by simpa using h) (fun k hlt => by have := hk (k + 1) (by omega); simpa using this)
    rw [upto, if_neg hx, ht]; simp
theorem cut_eq (l : Bs) (c : UInt8) : Lib.cut l [c] = upto c l := by
  unfold Lib.cut
  rw [Lib.index_one]
  by_cases h : 0 ≤ Lib.indexByte l c
  · obtain ⟨h1, h2⟩ := Lib.indexByte_some (l := l) (c := c) (o := (Lib.indexByte l c).toNat) (by omega)
    rw [if_pos h, upto_at h1 h2]
    rfl
  · rw [if_neg h, upto_no (Lib.indexByte_none (by have := Lib.indexByte_ge l c; omega))]
def token (r : Rd) : Bs × Rd := ((upto 32 r.rest).1, ⟨(upto 32 r.rest).2.1, r.bad || ((upto 32 r.rest).2.2 && (upto 32 r.rest).2.1.isEmpty)⟩)
/-- The number that is stored, and whether it is none. -/
def numOf (s : Bs) : Int × Bool :=
  match Lib.atoiAll s with
  | .ok v => (v, decide (s ≠ Lib.itoa v) || (decide (9999999999 < v) || decide (v < -9999999999)))
  | .range => (Lib.atoiSat s, true)
  | _ => (0, true)
def numsRd : Nat → Rd → List Int × Rd
  | 0, r => ([], r)
  | k + 1, r => ((numsRd k r).1 ++ [(numOf (token (numsRd k r).2).1).1], ⟨(token (numsRd k r).2).2.rest, (token (numsRd k r).2).2.bad || (numOf (token (numsRd k r).2).1).2⟩)
theorem numsRd_len (k : Nat) (r : Rd) : (numsRd k r).1.length = k := by
  induction k with
  | zero => rfl
  | succ k ih => rw [numsRd, List.length_append, ih]; rfl
def hv (c : UInt8) : Option Nat := if 48 ≤ c.toNat ∧ c.toNat ≤ 57 then some (c.toNat - 48) else if 97 ≤ c.toNat ∧ c.toNat ≤ 102 then some (c.toNat - 87) else none
def hexOf : Bs → Option UInt8
  | a :: b :: _ => match hv a, hv b with
    | some m, some n => some (UInt8.ofNat (16 * m + n))
    | _, _ => none
  | _ => none
def needs (x : UInt8) : Bool := !(decide (32 ≤ x.toNat) && decide (x.toNat ≤ 126)) && !decide (x.toNat = 10) && !decide (x.toNat = 13)
def escaped (r : Rd) : UInt8 × Rd :=
  match r.rest with
  | [] => (0, ⟨[], true⟩)
  | c :: t =>
    if c.toNat = 34 ∨ c.toNat = 92 then (c, ⟨t, r.bad⟩)
    else if c.toNat = 110 then (10, ⟨t, r.bad⟩)
    else if c.toNat = 114 then (13, ⟨t, r.bad⟩)
    else if c.toNat = 120 then
      match hexOf t with
      | some x => if needs x then (x, ⟨t.drop 2, r.bad⟩) else (0, ⟨t, true⟩)
      | none => (0, ⟨t, true⟩)
    else (0, ⟨t, true⟩)
theorem escaped_le (r : Rd) : (escaped r).2.rest.length ≤ r.rest.length := by
  unfold escaped
  split
  · simp
  · rename_i c t h
    rw [h]
    split
    · simp
    split
    · simp
    split
    · simp
    split
    · split
      · split <;> simp; omega
      · simp
    · simp
/-- A text's bytes, behind the quote that opens it. -/
def textGo (rest out : Bs) : Bs × Rd :=
  match rest with
  | [] => (out, ⟨[], true⟩)
  | c :: t =>
    if c.toNat = 34 then (out, ⟨t, !t.isEmpty⟩)
    else if c.toNat = 92 then
      if (escaped ⟨t, false⟩).2.bad then (out ++ [(escaped ⟨t, false⟩).1], (escaped ⟨t, false⟩).2) else textGo (escaped ⟨t, false⟩).2.rest (out ++ [(escaped ⟨t, false⟩).1])
    else if c.toNat < 32 ∨ 126 < c.toNat then (out ++ [c], ⟨t, true⟩)
    else textGo t (out ++ [c])
termination_by rest.length
decreasing_by
  all_goals simp
  have := escaped_le ⟨t, false⟩
  simp at this
  omega
def text (r : Rd) : Bs × Rd :=
  if r.bad = false ∧ Lib.hasPrefix r.rest [34] = true then textGo (Lib.trimPrefix r.rest [34]) [] else ([], ⟨Lib.trimPrefix r.rest [34], true⟩)
def kindOf (word : Bs) : Int := ((words.idxOf word % 12 : Nat) : Int)
def build (kind : Int) (ns : List Int) : Ev :=
  { kind := kind,
    node := if 1 ∈ offs kind then ns.getD ((offs kind).idxOf 1) 0 else 0,
    to := if 2 ∈ offs kind then ns.getD ((offs kind).idxOf 2) 0 else 0,
    n := if 3 ∈ offs kind then ns.getD ((offs kind).idxOf 3) 0 else 0,
    bit := if 4 ∈ offs kind then ns.getD ((offs kind).idxOf 4) 0 else 0,
    keep := [], bytes := [] }
def bitsOf (s : Bs) : List Bool := s.map fun c => decide (c.toNat = 49)
def isBits (s : Bs) : Bool := s.all fun c => decide (c.toNat = 48) || decide (c.toNat = 49)
def event0 (kind : Int) (r : Rd) : Ev × Rd :=
  if kind = 1 then ({ build kind (numsRd (offs kind).length r).1 with bytes := (text (numsRd (offs kind).length r).2).1 }, (text (numsRd (offs kind).length r).2).2)
  else if kind = 8 then
    ({ build kind (numsRd (offs kind).length r).1 with keep := bitsOf (Lib.trimPrefix (token (numsRd (offs kind).length r).2).1 [61]) },
      ⟨(token (numsRd (offs kind).length r).2).2.rest, (token (numsRd (offs kind).length r).2).2.bad || !(Lib.hasPrefix (token (numsRd (offs kind).length r).2).1 [61] && isBits (Lib.trimPrefix (token (numsRd (offs kind).length r).2).1 [61]))⟩)
  else (build kind (numsRd (offs kind).length r).1, (numsRd (offs kind).length r).2)
def event (word : Bs) (r : Rd) : Ev × Rd := ((event0 (kindOf word) r).1, ⟨(event0 (kindOf word) r).2.rest, (event0 (kindOf word) r).2.bad || wrong (event0 (kindOf word) r).1⟩)
end Sc
end Go.Proofs.YthpojljfmipngaaGreatDoor
