/-
  Plain functions for Parse of the layer script, and the plain law of ScriptLines: a text that is wrong from a line on is wrong there, whatever stands behind. No program in sight.
-/
import Derived.Test.YthpojljfmipngaaGreatDoorPure2
namespace Go.Proofs.YthpojljfmipngaaGreatDoor
namespace Sc
def worldW : Bs := [119, 111, 114, 108, 100]
def zeroS : Scr := ⟨0, 0, []⟩
/-- The first line, read into a setup. -/
def head (text : Bs) : Int × Int × Bool :=
  ((numsRd 2 (token ⟨text, false⟩).2).1.getD 0 0, (numsRd 2 (token ⟨text, false⟩).2).1.getD 1 0,
    !((numsRd 2 (token ⟨text, false⟩).2).2.bad || !decide ((token ⟨text, false⟩).1 = worldW)) && (numsRd 2 (token ⟨text, false⟩).2).2.rest.isEmpty)
/-- A line behind the first one, k events ahead. -/
def body (text : Bs) (k : Nat) : Ev × Bool :=
  ((event (token ⟨text, false⟩).1 (token ⟨text, false⟩).2).1,
    !((event (token ⟨text, false⟩).1 (token ⟨text, false⟩).2).2.bad || decide (300 < k + 1)) && (event (token ⟨text, false⟩).1 (token ⟨text, false⟩).2).2.rest.isEmpty)
def line (s : Scr) (text : Bs) (n : Nat) : Scr × Bool :=
  if n < 1 then (⟨(head text).1, (head text).2.1, s.events⟩, (head text).2.2)
  else (⟨s.servers, s.area, s.events ++ [(body text s.events.length).1]⟩, (body text s.events.length).2)
theorem upto_split (c : UInt8) : ∀ l : Bs, (upto c l).2.2 = true → l = (upto c l).1 ++ c :: (upto c l).2.1
  | [], h => by simp [upto] at h
  | x :: t, h => by
    have ih := upto_split c t
    rw [upto] at h ⊢
    split
    · rename_i e; rw [e]; rfl
    · rename_i e
      rw [if_neg e] at h
      rw [List.cons_append, ← ih h]
theorem upto_less (c : UInt8) (l : Bs) (h : (upto c l).2.2 = true) : (upto c l).2.1.length < l.length := by
  have := congrArg List.length (upto_split c l h)
  simp at this; omega
theorem upto_more (c : UInt8) (m : Bs) : ∀ l : Bs, (upto c l).2.2 = true → upto c ((upto c l).1 ++ c :: m) = ((upto c l).1, m, true)
  | [], h => by simp [upto] at h
  | x :: t, h => by
    have ih := upto_more c m t
    rw [upto] at h ⊢
    split
    · simp [upto]
    · rename_i e
      rw [if_neg e] at h
      rw [List.cons_append, upto, if_neg e, ih h]
theorem upto_more2 (c : UInt8) (a m : Bs) (h : (upto c (a ++ c :: m)).1 = a) : (upto c (a ++ c :: m)).2.2 = true := by
  induction a with
  | nil => simp [upto]
  | cons x t ih =>
    rw [List.cons_append, upto] at h ⊢
    split
    · rfl
    · rename_i e
      rw [if_neg e] at h
      exact ih (by simpa using h)
def parseGo (rest : Bs) (at_ n : Nat) (s : Scr) : Scr × Nat × Int :=
  if rest = [] then (if n < 1 then (zeroS, at_, 380) else (s, 0, 0))
  else if (upto 10 rest).2.2 = true then
    if (line s (upto 10 rest).1 n).2 = true then parseGo (upto 10 rest).2.1 (at_ + (upto 10 rest).1.length + 1) (n + 1) (line s (upto 10 rest).1 n).1
    else (zeroS, at_, 380)
  else (zeroS, at_, 380)
termination_by rest.length
decreasing_by exact upto_less 10 rest (by assumption)
def parseOf (text : Bs) : Scr × Nat × Int := if 262144 < text.length then (zeroS, 0, 3) else parseGo text 0 0 zeroS
/-- What a failing parse says. -/
structure Wrong (rest : Bs) (at_ n : Nat) (s : Scr) (r : Scr × Nat × Int) : Prop where
  zero : r.1 = zeroS
  err : r.2.2 = 380
  ge : at_ ≤ r.2.1
  le : r.2.1 ≤ at_ + rest.length
  feed : at_ < r.2.1 → rest[r.2.1 - at_ - 1]? = some 10
  again : (upto 10 (rest.drop (r.2.1 - at_))).2.2 = true → ∀ more, parseGo (rest.take (r.2.1 - at_) ++ ((upto 10 (rest.drop (r.2.1 - at_))).1 ++ 10 :: more)) at_ n s = (zeroS, r.2.1, 380)
theorem parse_wrong (rest : Bs) (at_ n : Nat) (s : Scr) : (parseGo rest at_ n s).2.2 = 0 ∨ Wrong rest at_ n s (parseGo rest at_ n s) := by
  induction rest, at_, n, s using parseGo.induct with
  | case1 at_ n s h =>
    rw [parseGo, if_pos rfl, if_pos h]
    exact .inr ⟨rfl, rfl, Nat.le_refl _, by simp, fun h => absurd h (Nat.lt_irrefl _), fun h => by simp [upto] at h⟩
  | case2 at_ n s h => rw [parseGo, if_pos rfl, if_neg h]; exact .inl rfl
  | case3 rest at_ n s h0 h1 h2 ih =>
    have e : parseGo rest at_ n s = parseGo (upto 10 rest).2.1 (at_ + (upto 10 rest).1.length + 1) (n + 1) (line s (upto 10 rest).1 n).1 := by
      rw [parseGo, if_neg h0, if_pos h1, if_pos h2]
    have hs := upto_split 10 rest h1
    have hm := fun m => upto_more 10 m rest h1
    rw [e]
    clear e
    generalize upto 10 rest = u at hs hm h1 h2 ih ⊢
    obtain ⟨l, t, q⟩ := u
    simp only at hs hm h1 h2 ih ⊢
    subst h1
    subst hs
    generalize parseGo t (at_ + l.length + 1) (n + 1) (line s l n).1 = r at ih ⊢
    rcases ih with h | ⟨a, b, c, d, f, g⟩
    · exact .inl h
    · refine .inr ⟨a, b, by omega, ?_, ?_, ?_⟩
      · rw [List.length_append, List.length_cons]; omega
      · intro hlt
        by_cases he : r.2.1 = at_ + l.length + 1
        · rw [he, show at_ + l.length + 1 - at_ - 1 = l.length by omega]
          simp
        · have hk := f (by omega)
          rw [List.getElem?_append_right (by omega)]
          rw [show r.2.1 - at_ - 1 - l.length = (r.2.1 - (at_ + l.length + 1) - 1) + 1 by omega, List.getElem?_cons_succ]
          exact hk
      · have hd : (l ++ 10 :: t).drop (r.2.1 - at_) = t.drop (r.2.1 - (at_ + l.length + 1)) := by
          rw [show r.2.1 - at_ = l.length + ((r.2.1 - (at_ + l.length + 1)) + 1) by omega, List.drop_append]
          simp
        have ht : (l ++ 10 :: t).take (r.2.1 - at_) = l ++ 10 :: t.take (r.2.1 - (at_ + l.length + 1)) := by
          rw [show r.2.1 - at_ = l.length + ((r.2.1 - (at_ + l.length + 1)) + 1) by omega, List.take_append]
          simp [List.take_of_length_le]
        rw [hd, ht]
        intro he more
        have hg := g he more
        rw [List.append_assoc, List.cons_append, parseGo, if_neg (by simp), hm, if_pos rfl, if_pos h2]
        exact hg
  | case4 rest at_ n s h0 h1 h2 =>
    have e : parseGo rest at_ n s = (zeroS, at_, 380) := by rw [parseGo, if_neg h0, if_pos h1, if_neg h2]
    rw [e]
    refine .inr ⟨rfl, rfl, Nat.le_refl _, Nat.le_add_right _ _, fun h => absurd h (Nat.lt_irrefl _), fun _ more => ?_⟩
    simp only [Nat.sub_self, List.take_zero, List.drop_zero, List.nil_append]
    rw [parseGo, if_neg (by simp), upto_more 10 _ rest h1, if_pos rfl, if_neg h2]
  | case5 rest at_ n s h0 h1 =>
    have e : parseGo rest at_ n s = (zeroS, at_, 380) := by rw [parseGo, if_neg h0, if_neg h1]
    rw [e]
    refine .inr ⟨rfl, rfl, Nat.le_refl _, Nat.le_add_right _ _, fun h => absurd h (Nat.lt_irrefl _), fun h => ?_⟩
    simp only [Nat.sub_self, List.drop_zero] at h
    exact absurd h h1
end Sc
end Go.Proofs.YthpojljfmipngaaGreatDoor
