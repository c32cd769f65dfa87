/-
  What the law's large makes of a value. No program in sight.
-/
import Derived.Test.YtimioelnnhnbiaaDoorMeas
namespace Go.Proofs.YtimioelnnhnbiaaDoor
namespace Js
def cap20 (n : Nat) : Int := min (n : Int) 1048576
mutual
def lrg : J → Nat → Int → Option Int
  | .mk _ _ _ t l m, d, c => if 30 < d ∨ c - (1 + cap20 t.length) < 0 then none else (lrgL l d (c - (1 + cap20 t.length))).bind fun c2 => lrgM m d c2
def lrgL : List J → Nat → Int → Option Int
  | [], _, c => some c
  | x :: t, d, c => (lrg x (d + 1) c).bind fun c2 => lrgL t d c2
def lrgM : List (Bs × J) → Nat → Int → Option Int
  | [], _, c => some c
  | (n, x) :: t, d, c => (lrg x (d + 1) (c - cap20 n.length)).bind fun c2 => lrgM t d c2
end
theorem cap20_eq {n : Nat} {c : Int} (h : 0 ≤ c - cap20 n) (hc : c ≤ 70000) : cap20 n = n := by unfold cap20 at h ⊢; omega
theorem cap20_pos (n : Nat) : 0 ≤ cap20 n ∧ cap20 n ≤ 1048576 := by unfold cap20; omega
mutual
theorem lrg_some : ∀ (x : J) (d : Nat) (c c' : Int), lrg x d c = some c' → c ≤ 70000 → 0 ≤ c' ∧ c' + nodes x + bytes x = c ∧ d + deep x ≤ 31
  | .mk k b n t l m, d, c, c', h, hc => by
    unfold lrg at h
    split at h
    · cases h
    · rename_i hn
      obtain ⟨c2, h1, h2⟩ := Option.bind_eq_some_iff.1 h
      have hz := cap20_pos t.length
      have hq : cap20 t.length = t.length := cap20_eq (c := c) (by omega) hc
      have p1 := lrgL_some l d _ c2 h1 (by omega) (by omega) (by omega)
      have p2 := lrgM_some m d c2 c' h2 p1.1 (by omega) (by omega)
      unfold nodes bytes deep
      omega
theorem lrgL_some : ∀ (l : List J) (d : Nat) (c c' : Int), lrgL l d c = some c' → 0 ≤ c → c ≤ 70000 → d ≤ 30 → 0 ≤ c' ∧ c' + nodesL l + bytesL l = c ∧ d + deepL l ≤ 30
  | [], d, c, c', h, h0, hc, hd => by
    unfold lrgL at h
    cases h
    unfold nodesL bytesL deepL
    omega
  | x :: t, d, c, c', h, h0, hc, hd => by
    unfold lrgL at h
    obtain ⟨c2, h1, h2⟩ := Option.bind_eq_some_iff.1 h
    have p1 := lrg_some x (d + 1) c c2 h1 hc
    have p2 := lrgL_some t d c2 c' h2 p1.1 (by omega) hd
    unfold nodesL bytesL deepL
    omega
theorem lrgM_some : ∀ (l : List (Bs × J)) (d : Nat) (c c' : Int), lrgM l d c = some c' → 0 ≤ c → c ≤ 70000 → d ≤ 30 → 0 ≤ c' ∧ c' + nodesM l + bytesM l = c ∧ d + deepM l ≤ 30
  | [], d, c, c', h, h0, hc, hd => by
    unfold lrgM at h
    cases h
    unfold nodesM bytesM deepM
    omega
  | (n, x) :: t, d, c, c', h, h0, hc, hd => by
    unfold lrgM at h
    obtain ⟨c2, h1, h2⟩ := Option.bind_eq_some_iff.1 h
    have hz := cap20_pos n.length
    have p1 := lrg_some x (d + 1) _ c2 h1 (by omega)
    have hq : cap20 n.length = n.length := cap20_eq (c := c) (by omega) hc
    have p2 := lrgM_some t d c2 c' h2 p1.1 (by omega) hd
    unfold nodesM bytesM deepM
    omega
end
theorem lrgL_append : ∀ (a b : List J) (d : Nat) (c : Int), lrgL (a ++ b) d c = (lrgL a d c).bind fun c2 => lrgL b d c2
  | [], b, d, c => by simp [lrgL]
  | x :: t, b, d, c => by
    rw [List.cons_append, lrgL, lrgL]
    cases lrg x (d + 1) c with
    | none => rfl
    | some c2 => exact lrgL_append t b d c2
theorem lrgM_append : ∀ (a b : List (Bs × J)) (d : Nat) (c : Int), lrgM (a ++ b) d c = (lrgM a d c).bind fun c2 => lrgM b d c2
  | [], b, d, c => by simp [lrgM]
  | (n, x) :: t, b, d, c => by
    rw [List.cons_append, lrgM, lrgM]
    cases lrg x (d + 1) (c - cap20 n.length) with
    | none => rfl
    | some c2 => exact lrgM_append t b d c2
theorem lrgL_snoc {l : List J} {k : Nat} {y : J} {d : Nat} {c c2 : Int} (hy : l[k]? = some y) (h : lrgL (l.take k) d c = some c2) : lrgL (l.take (k + 1)) d c = lrg y (d + 1) c2 := by
  rw [List.take_add_one, hy, lrgL_append, h]
  simp only [Option.toList_some, Option.bind_some, lrgL]
  cases lrg y (d + 1) c2 <;> rfl
theorem lrgM_snoc {l : List (Bs × J)} {k : Nat} {nm : Bs} {y : J} {d : Nat} {c c2 : Int} (hy : l[k]? = some (nm, y)) (h : lrgM (l.take k) d c = some c2) : lrgM (l.take (k + 1)) d c = lrg y (d + 1) (c2 - cap20 nm.length) := by
  rw [List.take_add_one, hy, lrgM_append, h]
  simp only [Option.toList_some, Option.bind_some, lrgM]
  cases lrg y (d + 1) (c2 - cap20 nm.length) <;> rfl
theorem lrgL_none {l : List J} {k : Nat} {d : Nat} {c : Int} (h : lrgL (l.take k) d c = none) : lrgL l d c = none := by
  rw [← List.take_append_drop k l, lrgL_append, h]; rfl
theorem lrgM_none {l : List (Bs × J)} {k : Nat} {d : Nat} {c : Int} (h : lrgM (l.take k) d c = none) : lrgM l d c = none := by
  rw [← List.take_append_drop k l, lrgM_append, h]; rfl
theorem length_nodesL' : ∀ l : List J, l.length ≤ nodesL l
  | [] => by simp
  | x :: t => by
    have h1 := nodes_pos x
    have h2 := length_nodesL' t
    unfold nodesL
    simp only [List.length_cons]
    omega
theorem length_nodesM' : ∀ l : List (Bs × J), l.length ≤ nodesM l
  | [] => by simp
  | (n, x) :: t => by
    have h1 := nodes_pos x
    have h2 := length_nodesM' t
    unfold nodesM
    simp only [List.length_cons]
    omega
/-- Is it gone through? -/
def over (x : J) : Bool := (lrg x 0 70000).isNone
theorem over_small {x : J} (h : over x = false) : nodes x ≤ 70000 ∧ bytes x ≤ 70000 ∧ deep x ≤ 31 := by
  unfold over at h
  cases hl : lrg x 0 70000 with
  | none => rw [hl] at h; cases h
  | some c =>
    have := lrg_some x 0 70000 c hl (by omega)
    omega
end Js
end Go.Proofs.YtimioelnnhnbiaaDoor
