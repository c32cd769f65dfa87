/-
  Joined: Meas WQ. CONDITIONS: as each law says.
-/
import Derived.Test.YtimioelnnhnbiaaGreatDoorQ00
import Derived.Test.YtimioelnnhnbiaaGreatDoorQ10
namespace Go.Proofs.YtimioelnnhnbiaaGreatDoor
namespace Js
structure Ms where
 nodes : Nat
 bytes : Nat
 wrong : Bool
/-- A value's own part. -/
def measOne (x : J) (d : Nat) (s : Ms) : Ms :=
 ⟨s.nodes + 1, s.bytes + x.text.length, s.wrong || !plain x || decide (8 < d) || decide (256 < s.nodes + 1) || decide (32768 < s.bytes + x.text.length)⟩
def measName (n : Bs) (prev : List Bs) (s : Ms) : Ms := ⟨s.nodes, s.bytes + n.length, s.wrong || prev.any fun p => decide (p = n)⟩
mutual
def meas : J → Nat → Ms → Ms
 | .mk k b n t l m, d, s => if (measOne (.mk k b n t l m) d s).wrong then measOne (.mk k b n t l m) d s else measM m [] d (measL l d (measOne (.mk k b n t l m) d s))
def measL : List J → Nat → Ms → Ms
 | [], _, s => s
 | x :: t, d, s => measL t d (meas x (d + 1) s)
def measM : List (Bs × J) → List Bs → Nat → Ms → Ms
 | [], _, _, s => s
 | (n, x) :: t, prev, d, s => measM t (prev ++ [n]) d (meas x (d + 1) (measName n prev s))
end
mutual
theorem meas_le : ∀ (x : J) (d : Nat) (s : Ms), (meas x d s).nodes ≤ s.nodes + nodes x ∧ (meas x d s).bytes ≤ s.bytes + bytes x ∧ s.nodes ≤ (meas x d s).nodes ∧ s.bytes ≤ (meas x d s).bytes
 | .mk k b n t l m, d, s => by
  unfold meas nodes bytes
  have h1 := measL_le l d (measOne (.mk k b n t l m) d s)
  have h2 := measM_le m [] d (measL l d (measOne (.mk k b n t l m) d s))
  have e1 : (measOne (.mk k b n t l m) d s).nodes = s.nodes + 1 := rfl
  have e2 : (measOne (.mk k b n t l m) d s).bytes = s.bytes + t.length := rfl
  split <;> omega
theorem measL_le : ∀ (l : List J) (d : Nat) (s : Ms), (measL l d s).nodes ≤ s.nodes + nodesL l ∧ (measL l d s).bytes ≤ s.bytes + bytesL l ∧ s.nodes ≤ (measL l d s).nodes ∧ s.bytes ≤ (measL l d s).bytes
 | [], _, s => by unfold measL nodesL bytesL; omega
 | x :: t, d, s => by
  unfold measL nodesL bytesL
  have h1 := meas_le x (d + 1) s
  have h2 := measL_le t d (meas x (d + 1) s)
  omega
theorem measM_le : ∀ (l : List (Bs × J)) (prev : List Bs) (d : Nat) (s : Ms), (measM l prev d s).nodes ≤ s.nodes + nodesM l ∧ (measM l prev d s).bytes ≤ s.bytes + bytesM l ∧ s.nodes ≤ (measM l prev d s).nodes ∧ s.bytes ≤ (measM l prev d s).bytes
 | [], _, _, s => by unfold measM nodesM bytesM; omega
 | (n, x) :: t, prev, d, s => by
  unfold measM nodesM bytesM
  have h1 := meas_le x (d + 1) (measName n prev s)
  have h2 := measM_le t (prev ++ [n]) d (meas x (d + 1) (measName n prev s))
  have e1 : (measName n prev s).nodes = s.nodes := rfl
  have e2 : (measName n prev s).bytes = s.bytes + n.length := rfl
  omega
end
mutual
theorem meas_wrong : ∀ (x : J) (d : Nat) (s : Ms), s.wrong = true → (meas x d s).wrong = true
 | .mk k b n t l m, d, s, h => by
  unfold meas
  have : (measOne (.mk k b n t l m) d s).wrong = true := by unfold measOne; simp [h]
  rw [if_pos this]; exact this
theorem measL_wrong : ∀ (l : List J) (d : Nat) (s : Ms), s.wrong = true → (measL l d s).wrong = true
 | [], _, s, h => by unfold measL; exact h
 | x :: t, d, s, h => by unfold measL; exact measL_wrong t d _ (meas_wrong x _ s h)
theorem measM_wrong : ∀ (l : List (Bs × J)) (prev : List Bs) (d : Nat) (s : Ms), s.wrong = true → (measM l prev d s).wrong = true
 | [], _, _, s, h => by unfold measM; exact h
 | (n, x) :: t, prev, d, s, h => by unfold measM; exact measM_wrong t _ d _ (meas_wrong x _ _ (by unfold measName; simp [h]))
end
/-- Have no two of the names behind prev one name, nor one of prev's? -/
def fresh : List (Bs × J) → List Bs → Bool
 | [], _ => true
 | (n, _) :: t, prev => !(prev.any fun p => decide (p = n)) && fresh t (prev ++ [n])
theorem fresh_nodup : ∀ (l : List (Bs × J)) (prev : List Bs), fresh l prev = true ↔ (l.map (·.1)).Nodup ∧ ∀ n ∈ l.map (·.1), n ∉ prev
 | [], prev => by simp [fresh]
 | (n, x) :: t, prev => by
  unfold fresh
  simp only [Bool.and_eq_true, Bool.not_eq_true', List.any_eq_false, decide_eq_true_eq, List.map_cons, List.nodup_cons, List.mem_cons]
  rw [fresh_nodup t (prev ++ [n])]
  constructor
  ·rintro ⟨h1, h2, h3⟩
   refine ⟨⟨fun hm => (h3 n hm) (by simp), h2⟩, fun y hy => ?_⟩
   rcases hy with rfl | hy
   ·exact fun hm => h1 _ hm rfl
   ·exact fun hm => h3 y hy (by simp [hm])
  ·rintro ⟨⟨h1, h2⟩, h3⟩
   refine ⟨fun p hp e => ?_, h2, fun y hy hm => ?_⟩
   ·subst e; exact h3 _ (.inl rfl) hp
   ·rcases List.mem_append.1 hm with hm | hm
    ·exact h3 y (.inr hy) hm
    ·rw [List.mem_singleton] at hm; subst hm; exact h1 hy
/-- Good, and within the bounds from there on. -/
def fits (x : J) (d : Nat) (s : Ms) : Bool := good x && decide (d + deep x ≤ 9) && decide (s.nodes + nodes x ≤ 256) && decide (s.bytes + bytes x ≤ 32768)
theorem deep_pos (x : J) : 1 ≤ deep x := by cases x; unfold deep; omega
theorem nodes_pos (x : J) : 1 ≤ nodes x := by cases x; unfold nodes; omega
mutual
/-- A measure that is not wrong has counted all, and all is good; and the other way round. -/
theorem meas_ok : ∀ (x : J) (d : Nat) (s : Ms), s.wrong = false → ((meas x d s).wrong = false → (meas x d s).nodes = s.nodes + nodes x ∧ (meas x d s).bytes = s.bytes + bytes x ∧ good x = true ∧ d + deep x ≤ 9 ∧ s.nodes + nodes x ≤ 256) ∧ (fits x d s = true → (meas x d s).wrong = false)
 | .mk k b n t l m, d, s, h => by
  have e1 : (measOne (.mk k b n t l m) d s).nodes = s.nodes + 1 := rfl
  have e2 : (measOne (.mk k b n t l m) d s).bytes = s.bytes + t.length := rfl
  have e3 : (measOne (.mk k b n t l m) d s).wrong = (!plain (.mk k b n t l m) || decide (8 < d) || decide (256 < s.nodes + 1) || decide (32768 < s.bytes + t.length)) := by unfold measOne; rw [h, Bool.false_or]; rfl
  unfold meas
  generalize measOne (.mk k b n t l m) d s = s1 at e1 e2 e3
  by_cases hw : s1.wrong = true
  ·rw [if_pos hw]
   refine ⟨fun h0 => (by rw [hw] at h0; cases h0), fun hf => ?_⟩
   exfalso
   unfold fits good nodes bytes deep at hf
   rw [e3] at hw
   simp only [Bool.and_eq_true, decide_eq_true_eq, Bool.or_eq_true, Bool.not_eq_true'] at hf hw
   obtain ⟨⟨⟨⟨⟨⟨hp, _⟩, _⟩, _⟩, hd⟩, hn⟩, hb⟩ := hf
   rcases hw with ((hw | hw) | hw) | hw
   ·rw [hp] at hw; cases hw
   ·omega
   ·omega
   ·omega
  ·rw [if_neg hw]
   have hw0 : s1.wrong = false := by simpa using hw
   have HL := measL_ok l d s1 hw0
   rw [e3] at hw0
   simp only [Bool.or_eq_false_iff, Bool.not_eq_false', decide_eq_false_iff_not] at hw0
   obtain ⟨⟨⟨hp, hd⟩, hn⟩, hb⟩ := hw0
   generalize hsl : measL l d s1 = s2 at HL
   constructor
   ·intro h0
    have hw2 : s2.wrong = false := by
     cases hs2 : s2.wrong with
     | false => rfl
     | true => rw [measM_wrong m [] d s2 hs2] at h0; cases h0
    obtain ⟨l1, l2, l3, l4⟩ := HL.1 hw2
    obtain ⟨m1, m2, m3, m4, m5⟩ := (measM_ok m [] d s2 hw2).1 h0
    have hf := (fresh_nodup m []).1 m5
    unfold nodes bytes deep good
    refine ⟨by omega, by omega, ?_, ?_, ?_⟩
    ·simp only [Bool.and_eq_true, decide_eq_true_eq]
     exact ⟨⟨⟨hp, l3.1⟩, m3.1⟩, hf.1⟩
    ·have := l3.2 (by omega); have := m3.2 (by omega); omega
    ·have := l4 (by omega); have := m4 (by omega); omega
   ·intro hf
    unfold fits good nodes bytes deep at hf
    simp only [Bool.and_eq_true, decide_eq_true_eq] at hf
    obtain ⟨⟨⟨⟨⟨⟨_, hgl⟩, hgm⟩, hnd⟩, hd⟩, hnn⟩, hbb⟩ := hf
    have hs2w : s2.wrong = false := HL.2 hgl (by omega) (by omega) (by omega)
    obtain ⟨l1, l2, l3, l4⟩ := HL.1 hs2w
    exact (measM_ok m [] d s2 hs2w).2 hgm ((fresh_nodup m []).2 ⟨hnd, fun _ _ h => by cases h⟩) (by omega) (by omega) (by omega)
theorem measL_ok : ∀ (l : List J) (d : Nat) (s : Ms), s.wrong = false → ((measL l d s).wrong = false → (measL l d s).nodes = s.nodes + nodesL l ∧ (measL l d s).bytes = s.bytes + bytesL l ∧ (goodL l = true ∧ (d ≤ 8 → d + deepL l ≤ 8)) ∧ (s.nodes ≤ 256 → s.nodes + nodesL l ≤ 256)) ∧ (goodL l = true → d + deepL l ≤ 8 → s.nodes + nodesL l ≤ 256 → s.bytes + bytesL l ≤ 32768 → (measL l d s).wrong = false)
 | [], d, s, h => by
  unfold measL nodesL bytesL goodL deepL
  exact ⟨fun _ => ⟨rfl, rfl, ⟨rfl, fun h => h⟩, fun h => h⟩, fun _ _ _ _ => h⟩
 | x :: t, d, s, h => by
  have HX := meas_ok x (d + 1) s h
  unfold measL nodesL bytesL goodL deepL
  generalize meas x (d + 1) s = s1 at HX
  constructor
  ·intro h0
   have hw1 : s1.wrong = false := by
    cases hs1 : s1.wrong with
    | false => rfl
    | true => rw [measL_wrong t d s1 hs1] at h0; cases h0
   obtain ⟨x1, x2, x3, x4, x5⟩ := HX.1 hw1
   obtain ⟨t1, t2, ⟨t3, t4⟩, t5⟩ := (measL_ok t d s1 hw1).1 h0
   refine ⟨by omega, by omega, ⟨by rw [x3, t3]; rfl, fun hd => ?_⟩, fun _ => ?_⟩
   ·have := t4 hd; omega
   ·have := t5 (by omega); omega
  ·intro hg hd hn hb
   rw [Bool.and_eq_true] at hg
   have hw1 : s1.wrong = false := HX.2 (by unfold fits; simp only [Bool.and_eq_true, decide_eq_true_eq]; exact ⟨⟨⟨hg.1, by omega⟩, by omega⟩, by omega⟩)
   obtain ⟨x1, x2, x3, x4, x5⟩ := HX.1 hw1
   exact (measL_ok t d s1 hw1).2 hg.2 (by omega) (by omega) (by omega)
theorem measM_ok : ∀ (l : List (Bs × J)) (prev : List Bs) (d : Nat) (s : Ms), s.wrong = false → ((measM l prev d s).wrong = false → (measM l prev d s).nodes = s.nodes + nodesM l ∧ (measM l prev d s).bytes = s.bytes + bytesM l ∧ (goodM l = true ∧ (d ≤ 8 → d + deepM l ≤ 8)) ∧ (s.nodes ≤ 256 → s.nodes + nodesM l ≤ 256) ∧ fresh l prev = true) ∧ (goodM l = true → fresh l prev = true → d + deepM l ≤ 8 → s.nodes + nodesM l ≤ 256 → s.bytes + bytesM l ≤ 32768 → (measM l prev d s).wrong = false)
 | [], prev, d, s, h => by
  unfold measM nodesM bytesM goodM fresh deepM
  exact ⟨fun _ => ⟨rfl, rfl, ⟨rfl, fun h => h⟩, fun h => h, rfl⟩, fun _ _ _ _ _ => h⟩
 | (n, x) :: t, prev, d, s, h => by
  have e1 : (measName n prev s).nodes = s.nodes := rfl
  have e2 : (measName n prev s).bytes = s.bytes + n.length := rfl
  have e3 : (measName n prev s).wrong = (prev.any fun p => decide (p = n)) := by unfold measName; simp [h]
  unfold measM nodesM bytesM goodM deepM fresh
  generalize measName n prev s = s0 at e1 e2 e3
  by_cases hp : (prev.any fun p => decide (p = n)) = true
  ·rw [hp] at e3 ⊢
   refine ⟨fun h0 => ?_, fun _ hf => by simp at hf⟩
   rw [measM_wrong t _ d _ (meas_wrong x _ s0 e3)] at h0; cases h0
  ·have hp0 : (prev.any fun p => decide (p = n)) = false := Bool.not_eq_true _ ▸ hp
   rw [hp0] at e3 ⊢
   have HX := meas_ok x (d + 1) s0 e3
   generalize meas x (d + 1) s0 = s1 at HX
   constructor
   ·intro h0
    have hw1 : s1.wrong = false := by
     cases hs1 : s1.wrong with
     | false => rfl
     | true => rw [measM_wrong t _ d s1 hs1] at h0; cases h0
    obtain ⟨x1, x2, x3, x4, x5⟩ := HX.1 hw1
    obtain ⟨t1, t2, ⟨t3, t4⟩, t5, t6⟩ := (measM_ok t (prev ++ [n]) d s1 hw1).1 h0
    refine ⟨by omega, by omega, ⟨by rw [x3, t3]; rfl, fun hd => ?_⟩, fun _ => ?_, by rw [t6]; rfl⟩
    ·have := t4 hd; omega
    ·have := t5 (by omega); omega
   ·intro hg hf hd hn hb
    rw [Bool.and_eq_true] at hg hf
    have hw1 : s1.wrong = false := HX.2 (by unfold fits; simp only [Bool.and_eq_true, decide_eq_true_eq]; exact ⟨⟨⟨hg.1, by omega⟩, by omega⟩, by omega⟩)
    obtain ⟨x1, x2, x3, x4, x5⟩ := HX.1 hw1
    exact (measM_ok t (prev ++ [n]) d s1 hw1).2 hg.2 hf.2 (by omega) (by omega) (by omega)
end
/-- What Check asks is what the document asks. -/
theorem check_right (x : J) : (!((meas x 1 ⟨0, 0, false⟩).wrong || decide (32768 < (meas x 1 ⟨0, 0, false⟩).bytes))) = right x := by
 have H := meas_ok x 1 ⟨0, 0, false⟩ rfl
 generalize meas x 1 ⟨0, 0, false⟩ = s at H
 rw [Bool.eq_iff_iff]
 unfold right
 simp only [Bool.not_eq_true', Bool.or_eq_false_iff, decide_eq_false_iff_not, Bool.and_eq_true, decide_eq_true_eq]
 constructor
 ·rintro ⟨h1, h2⟩
  obtain ⟨a1, a2, a3, a4, a5⟩ := H.1 h1
  have a2 : s.bytes = 0 + bytes x := a2
  have a5 : 0 + nodes x ≤ 256 := a5
  exact ⟨⟨⟨a3, by omega⟩, by omega⟩, by omega⟩
 ·rintro ⟨⟨⟨h1, h2⟩, h3⟩, h4⟩
  have hw := H.2 (by unfold fits; simp only [Bool.and_eq_true, decide_eq_true_eq]; exact ⟨⟨⟨h1, by omega⟩, (show 0 + nodes x ≤ 256 by omega)⟩, (show 0 + bytes x ≤ 32768 by omega)⟩)
  obtain ⟨a1, a2, a3, a4, a5⟩ := H.1 hw
  have a2 : s.bytes = 0 + bytes x := a2
  exact ⟨hw, by omega⟩
theorem measL_snoc : ∀ (l : List J) (k : Nat) (y : J) (d : Nat) (s : Ms), l[k]? = some y → measL (l.take (k + 1)) d s = meas y (d + 1) (measL (l.take k) d s)
 | [], k, y, d, s, h => by simp at h
 | x :: t, 0, y, d, s, h => by
  simp at h; subst h
  rw [List.take_succ_cons, List.take_zero, List.take_zero]
  show measL [] d _ = meas x (d + 1) (measL [] d s)
  rfl
 | x :: t, k + 1, y, d, s, h => by
  rw [List.take_succ_cons, List.take_succ_cons]
  show measL (t.take (k + 1)) d _ = meas y (d + 1) (measL (t.take k) d _)
  exact measL_snoc t k y d _ (by simpa using h)
theorem measM_snoc : ∀ (l : List (Bs × J)) (prev : List Bs) (k : Nat) (n : Bs) (y : J) (d : Nat) (s : Ms), l[k]? = some (n, y) → measM (l.take (k + 1)) prev d s = meas y (d + 1) (measName n (prev ++ (l.take k).map (·.1)) (measM (l.take k) prev d s))
 | [], prev, k, n, y, d, s, h => by simp at h
 | (n0, x) :: t, prev, 0, n, y, d, s, h => by
  simp at h; obtain ⟨rfl, rfl⟩ := h
  rw [List.take_succ_cons, List.take_zero, List.take_zero]
  show measM [] (prev ++ [n0]) d (meas x (d + 1) (measName n0 prev s)) = meas x (d + 1) (measName n0 (prev ++ []) (measM [] prev d s))
  rw [List.append_nil]; rfl
 | (n0, x) :: t, prev, k + 1, n, y, d, s, h => by
  rw [List.take_succ_cons, List.take_succ_cons]
  show measM (t.take (k + 1)) (prev ++ [n0]) d (meas x (d + 1) (measName n0 prev s)) = meas y (d + 1) (measName n (prev ++ (n0 :: (t.take k).map (·.1))) (measM (t.take k) (prev ++ [n0]) d (meas x (d + 1) (measName n0 prev s))))
  rw [measM_snoc t (prev ++ [n0]) k n y d _ (by simpa using h), List.append_assoc]; rfl
theorem nodesL_split : ∀ (l : List J) (k : Nat) (y : J), l[k]? = some y → nodesL (l.take k) + nodes y ≤ nodesL l ∧ bytesL (l.take k) + bytes y ≤ bytesL l ∧ deep y ≤ deepL l
 | [], k, y, h => by simp at h
 | x :: t, 0, y, h => by
  simp at h; subst h
  rw [List.take_zero]
  show nodesL [] + nodes x ≤ nodes x + nodesL t ∧ bytesL [] + bytes x ≤ bytes x + bytesL t ∧ deep x ≤ max (deep x) (deepL t)
  unfold nodesL bytesL; omega
 | x :: t, k + 1, y, h => by
  rw [List.take_succ_cons]
  have ih := nodesL_split t k y (by simpa using h)
  show nodes x + nodesL (t.take k) + nodes y ≤ nodes x + nodesL t ∧ bytes x + bytesL (t.take k) + bytes y ≤ bytes x + bytesL t ∧ deep y ≤ max (deep x) (deepL t)
  omega
theorem nodesM_split : ∀ (l : List (Bs × J)) (k : Nat) (n : Bs) (y : J), l[k]? = some (n, y) → nodesM (l.take k) + nodes y ≤ nodesM l ∧ bytesM (l.take k) + n.length + bytes y ≤ bytesM l ∧ deep y ≤ deepM l
 | [], k, n, y, h => by simp at h
 | (n0, x) :: t, 0, n, y, h => by
  simp at h; obtain ⟨rfl, rfl⟩ := h
  rw [List.take_zero]
  show nodesM [] + nodes x ≤ nodes x + nodesM t ∧ bytesM [] + n0.length + bytes x ≤ n0.length + bytes x + bytesM t ∧ deep x ≤ max (deep x) (deepM t)
  unfold nodesM bytesM; omega
 | (n0, x) :: t, k + 1, n, y, h => by
  rw [List.take_succ_cons]
  have ih := nodesM_split t k n y (by simpa using h)
  show nodes x + nodesM (t.take k) + nodes y ≤ nodes x + nodesM t ∧ n0.length + bytes x + bytesM (t.take k) + n.length + bytes y ≤ n0.length + bytes x + bytesM t ∧ deep y ≤ max (deep x) (deepM t)
  omega
theorem length_nodesL : ∀ l : List J, l.length ≤ nodesL l
 | [] => Nat.zero_le _
 | x :: t => by have := length_nodesL t; have := nodes_pos x; show t.length + 1 ≤ nodes x + nodesL t; omega
theorem length_nodesM : ∀ l : List (Bs × J), l.length ≤ nodesM l
 | [] => Nat.zero_le _
 | (n, x) :: t => by have := length_nodesM t; have := nodes_pos x; show t.length + 1 ≤ nodes x + nodesM t; omega
end Js
end Go.Proofs.YtimioelnnhnbiaaGreatDoor
namespace Go.Proofs.YtimioelnnhnbiaaGreatDoor
open Go.RowKit
def nameV (nm : Js.Bs) (k0 : Int) (b0 : Bool) (n0 : Int) (t0 : ByteArray) (A5 : Option Addr) (l5 c5 : Nat) (A6 : Option Addr) (l6 c6 : Nat) : Value := .agg #[.string (str nm), .int .i64 k0, .bool b0, .int .i64 n0, .string t0, .slice A5 l5 c5, .slice A6 l6 c6]
set_option maxHeartbeats 2000000 in
theorem sameName_any (y : Nat) (a c : Js.Bs) (k0 : Int) (b0 : Bool) (n0 : Int) (t0 : ByteArray) (A5 : Option Addr) (l5 c5 : Nat) (A6 : Option Addr) (l6 c6 : Nat) (w : World) (h : w.cell? ⟨y, 0, none⟩ = some (.string (str c))) (hy : y < w.heap.size) :
  Calls Tryz.prog 82 #[nameV a k0 b0 n0 t0 A5 l5 c5 A6 l6 c6, .pointer (some ⟨y, 0, none⟩)] w fun e w' => e = .returned (.bool (decide (a = c))) ∧ Below w.heap.size w w' := by
 unfold nameV
 go_enter Tryz.func82, Tryz.ntmps82
 go_wp2_with fail
 go_ret
 exact ⟨ret_bool (str_beq a c), below_box _ _⟩
set_option maxRecDepth 100000 in
set_option maxHeartbeats 4000000 in
theorem index_names (S : Nat → Prop) (l : List (Js.Bs × Js.J)) (A : Option Addr) (i c : Nat) (y : Nat) (nm : Js.Bs) (w : World) (hS : ∀ g, S g → g < w.heap.size) (hl : l.length ≤ 1073741824) (hi : i ≤ l.length) (hA : JM w S A 0 l) (h : w.cell? ⟨y, 0, none⟩ = some (.string (str nm))) (hy : y < w.heap.size) :
  Calls Tryz.prog 97 #[.slice A i c, .func (.func 82) #[] #[.pointer (some ⟨y, 0, none⟩)]] w fun e w' => ((∃ k : Nat, e = .returned (.int .i64 k) ∧ ((l.take i).any fun p => decide (p.1 = nm)) = true) ∨ (e = .returned (.int .i64 (-1)) ∧ ((l.take i).any fun p => decide (p.1 = nm)) = false)) ∧ Below w.heap.size w w' := by
 have HA := Lib.hid hA
 have HH := Lib.hid h
 have HSS := Lib.hid hS
 clear hA h hS
 go_enter Tryz.func97, Tryz.ntmps97
 go_wp2_with fail
 go_loopw [5, 8] (fun _ j wr => ∃ k : Nat, k ≤ i ∧ j = .int .i64 k ∧ Hid (((l.take k).any fun p => decide (p.1 = nm)) = false) ∧ Hid (Below w.heap.size w wr)) (fun _ j _ => i - (intOf j).toNat)
 case atStart => exact ⟨0, Nat.zero_le _, rfl, Lib.hid (by simp), Lib.hid (Below.refl _ _)⟩
 case round =>
  obtain ⟨k, hk, rfl, HN, HB⟩ := hrel
  by_cases hlt : k < i
  ·obtain ⟨n1, x, hx⟩ : ∃ n1 x, l[k]? = some (n1, x) := ⟨l[k].1, l[k].2, List.getElem?_eq_getElem (by omega)⟩
   have hA' := JM.keep HB.out.size (fun _ h _ => h) (fun g hg _ => HB.out.block g (HSS.out g hg)) A 0 l HA.out
   obtain ⟨g, o, k0, b0, n0, t0, A5, l5, c5, A6, l6, c6, rfl, -, hg, q0, q1, q2, q3, q4, q5, q6, -⟩ := hA'.elem hx
   have hc : wr.cell? ⟨y, 0, none⟩ = some (.string (str nm)) := (HB.out.cell (p := ⟨y, 0, none⟩) hy).trans HH.out
   have HC := Lib.hid hc
   have hyr : y < wr.heap.size := Nat.lt_of_lt_of_le hy HB.out.size
   have HNX : Hid (((l.take (k + 1)).any fun p => decide (p.1 = nm)) = decide (n1 = nm)) := Lib.hid (by
    rw [List.take_add_one, hx, List.any_append, HN.out]; simp)
   have HX := Lib.hid hx
   clear hA' hc hx HN
   go_wp2_with fail
   refine (sameName_any y n1 nm k0 b0 n0 t0 A5 l5 c5 A6 l6 c6 _ HC.out hyr).mono ?_
   rintro e w2 ⟨rfl, hb2⟩
   have HB2 := Lib.hid (HB.out.trans (hb2.mono HB.out.size))
   clear hb2 HB
   by_cases hnm : n1 = nm
   ·have HE : Hid (((l.take i).any fun p => decide (p.1 = nm)) = true) := Lib.hid (by
     rw [List.any_eq_true]
     exact ⟨(n1, x), List.mem_of_getElem? (i := k) (by rw [List.getElem?_take, if_pos hlt]; exact HX.out), by simpa using hnm⟩)
    rw [decide_eq_true hnm]
    go_wp2_with fail
    go_ret
    exact ⟨.inl ⟨k, rfl, HE.out⟩, HB2.out⟩
   ·have HE : Hid (((l.take (k + 1)).any fun p => decide (p.1 = nm)) = false) := Lib.hid (by rw [HNX.out]; simpa using hnm)
    rw [decide_eq_false hnm]
    go_wp2_with fail
    go_roundw
    case rel => exact ⟨k + 1, by omega, by go_num, HE, HB2⟩
    case measure => simp [intOf]; omega
  ·obtain rfl : k = i := by omega
   go_wp2_with fail
   go_ret
   exact ⟨.inr ⟨rfl, HN.out⟩, HB.out⟩
theorem contains_names (S : Nat → Prop) (l : List (Js.Bs × Js.J)) (A : Option Addr) (i c : Nat) (y : Nat) (nm : Js.Bs) (w : World) (hS : ∀ g, S g → g < w.heap.size) (hl : l.length ≤ 1073741824) (hi : i ≤ l.length) (hA : JM w S A 0 l) (h : w.cell? ⟨y, 0, none⟩ = some (.string (str nm))) (hy : y < w.heap.size) :
  Calls Tryz.prog 81 #[.slice A i c, .func (.func 82) #[] #[.pointer (some ⟨y, 0, none⟩)]] w fun e w' => e = .returned (.bool ((l.take i).any fun p => decide (p.1 = nm))) ∧ Below w.heap.size w w' := by
 have HI := Lib.hid (index_names S l A i c y nm w hS hl hi hA h hy)
 clear hA h hS
 go_enter Tryz.func81, Tryz.ntmps81
 go_wp2_with fail
 refine HI.out.mono ?_
 rintro e w' ⟨⟨k, rfl, he⟩ | ⟨rfl, he⟩, hb⟩
 ·have HE := Lib.hid he
  have HB := Lib.hid hb
  clear he hb
  go_wp2_with fail
  go_ret
  exact ⟨ret_bool (by rw [HE.out]), HB.out⟩
 ·have HE := Lib.hid he
  have HB := Lib.hid hb
  clear he hb
  go_wp2_with fail
  go_ret
  exact ⟨ret_bool (by rw [HE.out]), HB.out⟩
end Go.Proofs.YtimioelnnhnbiaaGreatDoor
