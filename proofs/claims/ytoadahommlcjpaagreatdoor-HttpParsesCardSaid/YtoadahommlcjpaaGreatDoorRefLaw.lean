/-
  Plain: the document's reader of messages says what the program's says. No program in sight.
-/
import Derived.Test.YtoadahommlcjpaaGreatDoorBack
namespace Go.Proofs.YtoadahommlcjpaaGreatDoor
namespace Ht
/-! ### the document's reader -/
structure AccR where
  heads : List Hd
  lens : List Bs
  coded : Bool
def accR0 : AccR := ⟨[], [], false⟩
def stepR (a : AccR) (h : Hd) : AccR :=
  if alikeB h.name lenW then { a with lens := a.lens ++ [h.value] }
  else if alikeB h.name codW then { a with coded := true }
  else { a with heads := a.heads ++ [h] }
def linesR : List Bs → AccR → Option AccR
  | [], a => some a
  | s :: t, a => if (fieldOf s).2 then linesR t (stepR a (fieldOf s).1) else none
def valR (s : Bs) (n : Nat) : Nat := s.foldl (fun n c => 10 * n + (c.toNat - 48)) n
def okLen (s : Bs) : Bool := decide (1 ≤ s.length) && decide (s.length ≤ 9) && allB s 48 57
structure RMsg where
  first : Bs
  heads : List Hd
  body : Bs
  used : Nat
  err : Int
  head : Bool
/-- What the lines come to; n: how many bytes the head has. -/
def msgFin (f : Bs) (x : Option AccR) (b : Bs) (n : Nat) : RMsg :=
  match x with
  | none => ⟨f, [], [], 0, 340, false⟩
  | some a =>
    let bad := decide (1 < a.lens.length) || (decide (a.lens.length = 1) && !okLen (a.lens.headD []))
    let size := if a.lens.length = 1 ∧ okLen (a.lens.headD []) = true then valR (a.lens.headD []) 0 else 0
    if a.coded then ⟨f, a.heads, [], 0, 344, false⟩
    else if bad then ⟨f, a.heads, [], 0, 340, false⟩
    else if 16 < a.heads.length then ⟨f, a.heads, [], 0, 342, false⟩
    else if 8192 < size then ⟨f, a.heads, [], 0, 343, false⟩
    else if b.length - n < size then ⟨f, a.heads, [], 0, 341, false⟩
    else ⟨f, a.heads, (b.drop n).take size, n + size, 0, false⟩
def refMsg (b : Bs) : RMsg :=
  match refLines b [] [] 0 with
  | none => ⟨[], [], [], 0, if 2048 ≤ b.length then 342 else 341, true⟩
  | some (l, n) =>
    if 2048 < n then ⟨[], [], [], 0, if 2048 ≤ b.length then 342 else 341, true⟩
    else msgFin (l.headD []) (linesR l.tail accR0) b n
def refReq (b : Bs) : Req × Nat × Int :=
  if (refMsg b).head then (zReq, 0, (refMsg b).err)
  else if (threeOf (refMsg b).first).2.2.2 && tokenB (threeOf (refMsg b).first).1 && targetB (threeOf (refMsg b).first).2.1 && decide ((threeOf (refMsg b).first).2.2.1 = verW) then
    if (refMsg b).err = 0 then (⟨(threeOf (refMsg b).first).1, (threeOf (refMsg b).first).2.1, (refMsg b).heads, (refMsg b).body⟩, (refMsg b).used, 0) else (zReq, 0, (refMsg b).err)
  else (zReq, 0, 340)
def okCode (s : Bs) : Bool := decide (s.length = 3) && allB s 48 57 && decide (50 ≤ (s.headD 0).toNat) && decide ((s.headD 0).toNat ≤ 53)
def refRsp (b : Bs) : Rsp × Nat × Int :=
  if (refMsg b).head then (zRsp, 0, (refMsg b).err)
  else if (threeOf (refMsg b).first).2.2.2 && decide ((threeOf (refMsg b).first).1 = verW) && okCode (threeOf (refMsg b).first).2.1 && allB (threeOf (refMsg b).first).2.2.1 32 126 then
    if (refMsg b).err = 0 then (⟨valR (threeOf (refMsg b).first).2.1 0, (refMsg b).heads, (refMsg b).body⟩, (refMsg b).used, 0) else (zRsp, 0, (refMsg b).err)
  else (zRsp, 0, 340)
/-! ### numbers of few digits -/
theorem valR_bound : ∀ (s : Bs) (n : Nat), allB s 48 57 = true → valR s n + 1 ≤ (n + 1) * 10 ^ s.length
  | [], n, _ => by simp [valR]
  | c :: s, n, h => by
    have hc := all_mem h c (by simp)
    have h' : allB s 48 57 = true := by
      unfold allB at h ⊢
      rw [List.all_cons, Bool.and_eq_true] at h
      exact h.2
    have ih := valR_bound s (10 * n + (c.toNat - 48)) h'
    have e : valR (c :: s) n = valR s (10 * n + (c.toNat - 48)) := rfl
    rw [e, List.length_cons, Nat.pow_succ]
    refine Nat.le_trans ih ?_
    rw [Nat.mul_comm (10 ^ s.length) 10, ← Nat.mul_assoc]
    exact Nat.mul_le_mul_right _ (by omega)
theorem parse_val : ∀ (s : Bs) (n : Nat), allB s 48 57 = true → (n + 1) * 10 ^ s.length ≤ 1000000000000000000 → Lib.parseUint10 n s = .ok (valR s n)
  | [], n, _, _ => rfl
  | c :: s, n, h, hb => by
    have hc := all_mem h c (by simp)
    have h' : allB s 48 57 = true := by
      unfold allB at h ⊢
      rw [List.all_cons, Bool.and_eq_true] at h
      exact h.2
    rw [List.length_cons, Nat.pow_succ, Nat.mul_comm (10 ^ s.length) 10, ← Nat.mul_assoc] at hb
    have h1 : 1 ≤ 10 ^ s.length := Nat.pos_of_ne_zero (by simp)
    have h2 : (n + 1) * 10 ≤ 1000000000000000000 := Nat.le_trans (Nat.le_mul_of_pos_right _ h1) hb
    have e : valR (c :: s) n = valR s (n * 10 + (c.toNat - 48)) := by
      show valR s (10 * n + (c.toNat - 48)) = _
      rw [Nat.mul_comm]
    rw [Lib.parseUint10, if_pos hc, if_neg (by omega), if_neg (by omega), e]
    exact parse_val s _ h' (Nat.le_trans (Nat.mul_le_mul_right _ (by omega)) hb)
theorem num_val {s : Bs} (h : allB s 48 57 = true) (h1 : 1 ≤ s.length) (h9 : s.length ≤ 9) : num s = ((valR s 0 : Int), true) := by
  have hb : (0 + 1) * 10 ^ s.length ≤ 1000000000000000000 := by
    rw [Nat.zero_add, Nat.one_mul]
    exact Nat.le_trans (Nat.pow_le_pow_right (by decide) h9) (by decide)
  have hp := parse_val s 0 h hb
  have hv := valR_bound s 0 h
  have hv2 : valR s 0 < 1000000000000000000 := by omega
  cases s with
  | nil => simp at h1
  | cons c r =>
    have hc := all_mem h c (by simp)
    unfold num
    rw [Lib.atoiAll_plain c r (by omega) (by omega)]
    have hm : Lib.parseMag (c :: r) = .ok (valR (c :: r) 0) := by unfold Lib.parseMag; rw [if_neg (by simp), hp]
    rw [hm]
    unfold Lib.signless
    simp only
    rw [if_neg (by omega)]
theorem good_ok (s : Bs) : goodLen s = okLen s := by
  unfold goodLen okLen
  cases hd : allB s 48 57 with
  | false => simp
  | true =>
    by_cases h9 : s.length ≤ 9
    · by_cases h1 : 1 ≤ s.length
      · rw [num_val hd h1 h9]; simp [h1]
      · have : s = [] := List.eq_nil_of_length_eq_zero (by omega)
        subst this
        rfl
    · simp [h9]
/-! ### the lines -/
def lensOf (l : List Bs) : Int := l.foldl (fun n s => n + (if goodLen s then 1 else 3)) 0
theorem lensOf_snoc (l : List Bs) (s : Bs) : lensOf (l ++ [s]) = lensOf l + (if goodLen s then 1 else 3) := by unfold lensOf; rw [List.foldl_append]; rfl
theorem lens_go : ∀ (l : List Bs) (n : Int), n + l.length ≤ l.foldl (fun n s => n + (if goodLen s then 1 else 3)) n
  | [], n => by simp
  | s :: l, n => by
    have ih := lens_go l (n + (if goodLen s then 1 else 3))
    rw [List.foldl_cons, List.length_cons]
    split at ih <;> split <;> first | omega | simp_all
theorem lensOf_ge (l : List Bs) : (l.length : Int) ≤ lensOf l := by
  have := lens_go l 0
  unfold lensOf
  omega
def accOf (a : AccR) : Acc := ⟨a.heads, (match a.lens.getLast? with | some v => (num v).1 | none => 0), lensOf a.lens, a.coded⟩
theorem not_both (s : Bs) (h : alikeB s lenW = true) : alikeB s codW = false := by
  unfold alikeB at h ⊢
  rw [decide_eq_true_eq] at h
  rw [decide_eq_false_iff_not, h]
  decide
theorem step_acc (a : AccR) (h : Hd) : stepOf (accOf a) h = accOf (stepR a h) := by
  unfold stepOf stepR
  by_cases h1 : alikeB h.name lenW = true
  · rw [if_pos h1, if_pos h1, not_both _ h1]
    unfold accOf
    simp only
    rw [lensOf_snoc]
    simp
  · rw [if_neg h1, if_neg h1]
    by_cases h2 : alikeB h.name codW = true
    · rw [if_pos h2, if_pos h2]; rfl
    · rw [if_neg h2, if_neg h2]; rfl
theorem lines_acc (l : List Bs) : ∀ a : AccR, linesGo l (accOf a) = (linesR l a).map accOf := by
  induction l with
  | nil => intro a; rfl
  | cons s l ih =>
    intro a
    rw [linesGo, linesR]
    split
    · rw [step_acc, ih]
    · rfl
theorem lines_acc0 (l : List Bs) : linesGo l acc0 = (linesR l accR0).map accOf := lines_acc l accR0
theorem lens_cases (l : List Bs) : decide (1 < lensOf l) = (decide (1 < l.length) || (decide (l.length = 1) && !okLen (l.headD []))) := by
  match l with
  | [] => rfl
  | [v] =>
    have : lensOf [v] = if goodLen v then 1 else 3 := by unfold lensOf; simp
    rw [this, ← good_ok]
    cases h : goodLen v <;> simp [h]
  | v :: u :: t =>
    have h := lensOf_ge (v :: u :: t)
    simp only [List.length_cons] at h
    rw [decide_eq_true (by omega), decide_eq_true (by simp)]
    rfl
/-! ### the two readers agree -/
theorem fin_same (f : Bs) (x : Option AccR) (b : Bs) (n : Nat) (hn : n ≤ b.length) :
    (msgFin f x b n).head = false ∧ (msgFin f x b n).first = f ∧ (restFin (x.map accOf) (b.drop n)).2 = (msgFin f x b n).err ∧
      ((restFin (x.map accOf) (b.drop n)).2 = 0 → (restFin (x.map accOf) (b.drop n)).1.1 = (msgFin f x b n).heads ∧ (restFin (x.map accOf) (b.drop n)).1.2 = (msgFin f x b n).body ∧ n + (restFin (x.map accOf) (b.drop n)).1.2.length = (msgFin f x b n).used) := by
  cases x with
  | none => exact ⟨rfl, rfl, rfl, fun h => by cases h⟩
  | some a =>
    have hlc := lens_cases a.lens
    unfold msgFin restFin
    simp only [Option.map_some]
    have hcd : (accOf a).coded = a.coded := rfl
    have hhd : (accOf a).heads = a.heads := rfl
    have hln : (accOf a).lengths = lensOf a.lens := rfl
    rw [hcd, hhd, hln]
    by_cases hc : a.coded = true
    · rw [if_pos hc, if_pos hc]
      exact ⟨rfl, rfl, rfl, fun h => by cases h⟩
    rw [if_neg hc, if_neg hc]
    by_cases hb : 1 < lensOf a.lens
    · rw [decide_eq_true hb] at hlc
      rw [if_pos hb, if_pos hlc.symm]
      exact ⟨rfl, rfl, rfl, fun h => by cases h⟩
    rw [decide_eq_false hb] at hlc
    rw [if_neg hb, if_neg (by rw [← hlc]; simp)]
    by_cases h16 : 16 < a.heads.length
    · rw [if_pos h16, if_pos h16]
      exact ⟨rfl, rfl, rfl, fun h => by cases h⟩
    rw [if_neg h16, if_neg h16]
    have hsz : (accOf a).n = ((if a.lens.length = 1 ∧ okLen (a.lens.headD []) = true then valR (a.lens.headD []) 0 else 0 : Nat) : Int) := by
      have hlc2 := hlc.symm
      rw [Bool.or_eq_false_iff, decide_eq_false_iff_not, Bool.and_eq_false_iff] at hlc2
      unfold accOf
      simp only
      match hm : a.lens with
      | [] => simp
      | [v] =>
        rw [hm] at hlc2
        have hv : okLen v = true := by
          rcases hlc2.2 with h | h
          · simp at h
          · simpa using h
        have hv2 := hv
        unfold okLen at hv2
        simp only [Bool.and_eq_true, decide_eq_true_eq] at hv2
        simp [hv, num_val hv2.2 hv2.1.1 hv2.1.2]
      | v :: u :: t => rw [hm] at hlc2; simp at hlc2
    rw [hsz]
    generalize (if a.lens.length = 1 ∧ okLen (a.lens.headD []) = true then valR (a.lens.headD []) 0 else 0) = size
    by_cases h8 : 8192 < size
    · rw [if_pos (show (8192 : Int) < size by omega), if_pos h8]
      exact ⟨rfl, rfl, rfl, fun h => by cases h⟩
    rw [if_neg (show ¬ (8192 : Int) < size by omega), if_neg h8]
    have hdl : (b.drop n).length = b.length - n := List.length_drop
    by_cases hs : b.length - n < size
    · rw [if_pos (show ((b.drop n).length : Int) < size by omega), if_pos hs]
      exact ⟨rfl, rfl, rfl, fun h => by cases h⟩
    rw [if_neg (show ¬ ((b.drop n).length : Int) < size by omega), if_neg hs]
    refine ⟨rfl, rfl, rfl, fun _ => ⟨rfl, by simp, ?_⟩⟩
    simp only [Int.toNat_natCast, List.length_take]
    omega
theorem msg_same {α : Type} (z : α) (first : Bs → α × Bool) (fill : α → List Hd → Bs → α) (b : Bs) :
    readOf z first fill b = if (refMsg b).head then (z, 0, (refMsg b).err) else if (first (refMsg b).first).2 then (if (refMsg b).err = 0 then (fill (first (refMsg b).first).1 (refMsg b).heads (refMsg b).body, (refMsg b).used, 0) else (z, 0, (refMsg b).err)) else (z, 0, 340) := by
  cases he : endAt b with
  | none =>
    have hM : refMsg b = ⟨[], [], [], 0, if 2048 ≤ b.length then 342 else 341, true⟩ := by unfold refMsg; rw [refLines_0, he]; rfl
    rw [hM]
    unfold readOf
    rw [endAt_take, he]
    simp
  | some p =>
    obtain ⟨hp, _⟩ := endAt_le b p he
    by_cases h4 : 2048 < p + 4
    · have hM : refMsg b = ⟨[], [], [], 0, if 2048 ≤ b.length then 342 else 341, true⟩ := by
        unfold refMsg; rw [refLines_0, he]; simp only [Option.map_some]; rw [if_pos h4]
      rw [hM]
      unfold readOf
      rw [endAt_take, he]
      simp only [Option.bind_some]
      rw [if_neg (by omega)]
      simp
    · have hne : b.take (p + 2) ≠ [] := by intro e; have := congrArg List.length e; rw [List.length_take, List.length_nil] at this; omega
      have hM : refMsg b = msgFin (upto2 13 10 (b.take (p + 2))).1 (linesR (linesOf (upto2 13 10 (b.take (p + 2))).2.1) accR0) b (p + 4) := by
        unfold refMsg; rw [refLines_0, he]; simp only [Option.map_some]; rw [if_neg h4, spl_0 hne]; rfl
      rw [hM]
      unfold readOf
      rw [endAt_take, he]
      simp only [Option.bind_some]
      rw [if_pos (show p + 4 ≤ 2048 by omega)]
      simp only
      obtain ⟨f, rest, q⟩ := upto2 13 10 (b.take (p + 2))
      simp only
      unfold restOf
      rw [lines_acc0]
      obtain ⟨m1, m2, m3, m4⟩ := fin_same f (linesR (linesOf rest) accR0) b (p + 4) hp
      generalize restFin ((linesR (linesOf rest) accR0).map accOf) (b.drop (p + 4)) = R at m3 m4
      generalize msgFin f (linesR (linesOf rest) accR0) b (p + 4) = M at m1 m2 m3 m4
      obtain ⟨M1, M2, M3, M4, M5, M6⟩ := M
      simp only at m1 m2 m3 m4
      subst m1
      subst m2
      simp only [Bool.false_eq_true, if_false]
      by_cases hf : (first M1).2 = true
      · rw [if_pos hf, if_pos hf]
        by_cases h0 : R.2 = 0
        · obtain ⟨n1, n2, n3⟩ := m4 h0
          rw [if_pos h0, if_pos (m3.symm.trans h0), n3, n1, n2]
        · rw [if_neg h0, if_neg (fun h => h0 (m3.trans h)), m3]
      · rw [if_neg hf, if_neg hf]
/-- THE PLAIN LAW of HttpParses, of requests. -/
theorem req_same (b : Bs) : refReq b = parseReq b := by
  unfold parseReq
  rw [msg_same]
  unfold refReq firstQ
  rfl
theorem code_same (s : Bs) : okCode s = ((num s).2 && decide (s.length = 3) && allB s 48 57 && decide (200 ≤ (num s).1) && decide ((num s).1 ≤ 599)) ∧ (okCode s = true → (num s).1 = valR s 0) := by
  unfold okCode
  by_cases h3 : s.length = 3
  · cases hd : allB s 48 57 with
    | false => simp
    | true =>
      have hn := num_val hd (by omega) (by omega)
      match s, h3 with
      | [a, b, c], _ =>
        have ha := all_mem hd a (by simp)
        have hb := all_mem hd b (by simp)
        have hc := all_mem hd c (by simp)
        have hv : valR [a, b, c] 0 = 100 * (a.toNat - 48) + 10 * (b.toNat - 48) + (c.toNat - 48) := by unfold valR; simp; omega
        rw [hn]
        refine ⟨?_, fun _ => rfl⟩
        have h0 : ([a, b, c] : Bs).headD 0 = a := rfl
        rw [h0, hv]
        simp only [Bool.true_and, Bool.and_true]
        rw [Bool.eq_iff_iff]
        simp only [Bool.and_eq_true, decide_eq_true_eq]
        omega
  · simp [h3]
/-- THE PLAIN LAW of HttpParses, of responses. -/
theorem rsp_same (b : Bs) : refRsp b = parseRsp b := by
  unfold parseRsp
  rw [msg_same]
  unfold refRsp firstP
  simp only
  generalize (refMsg b).first = f
  obtain ⟨c1, c2⟩ := code_same (threeOf f).2.1
  have e : ((threeOf f).2.2.2 && decide ((threeOf f).1 = verW) && okCode (threeOf f).2.1 && allB (threeOf f).2.2.1 32 126) = ((threeOf f).2.2.2 && (num (threeOf f).2.1).2 && decide ((threeOf f).1 = verW) && decide ((threeOf f).2.1.length = 3) && allB (threeOf f).2.1 48 57 && decide (200 ≤ (num (threeOf f).2.1).1) && decide ((num (threeOf f).2.1).1 ≤ 599) && allB (threeOf f).2.2.1 32 126) := by
    rw [c1]
    generalize (threeOf f).2.2.2 = x1
    generalize (num (threeOf f).2.1).2 = x2
    generalize decide ((threeOf f).1 = verW) = x3
    generalize decide ((threeOf f).2.1.length = 3) = x4
    generalize allB (threeOf f).2.1 48 57 = x5
    generalize decide (200 ≤ (num (threeOf f).2.1).1) = x6
    generalize decide ((num (threeOf f).2.1).1 ≤ 599) = x7
    generalize allB (threeOf f).2.2.1 32 126 = x8
    revert x1 x2 x3 x4 x5 x6 x7 x8
    decide
  rw [← e]
  by_cases hh : (refMsg b).head = true
  · rw [if_pos hh, if_pos hh]
  · rw [if_neg hh, if_neg hh]
    by_cases hk : ((threeOf f).2.2.2 && decide ((threeOf f).1 = verW) && okCode (threeOf f).2.1 && allB (threeOf f).2.2.1 32 126) = true
    · have hok : okCode (threeOf f).2.1 = true := by simp only [Bool.and_eq_true] at hk; exact hk.1.2
      rw [if_pos hk, if_pos hk, c2 hok]
    · rw [if_neg hk, if_neg hk]
/-! ### what was read may be -/
theorem three_parts (s : Bs) (h : (threeOf s).2.2.2 = true) : s = (threeOf s).1 ++ 32 :: ((threeOf s).2.1 ++ 32 :: (threeOf s).2.2.1) := by
  unfold threeOf at h ⊢
  simp only [Bool.and_eq_true] at h ⊢
  rw [← upto_split 32 _ h.2]
  exact upto_split 32 _ h.1
theorem lines_right (l : List Bs) : ∀ (a a' : Acc), linesGo l a = some a' → (∀ h ∈ a.heads, wrongH h = false) → ∀ h ∈ a'.heads, wrongH h = false := by
  induction l with
  | nil => intro a a' h; rw [linesGo] at h; injection h with h; subst h; exact id
  | cons s l ih =>
    intro a a' h ha
    rw [linesGo] at h
    split at h
    · rename_i hf
      refine ih _ _ h ?_
      unfold stepOf
      by_cases h2 : alikeB (fieldOf s).1.name codW = true
      · rw [if_pos h2]; exact ha
      · rw [if_neg h2]
        by_cases h1 : alikeB (fieldOf s).1.name lenW = true
        · rw [if_pos h1]; exact ha
        · rw [if_neg h1]
          intro x hx
          rcases List.mem_append.1 hx with hx | hx
          · exact ha x hx
          · rw [List.mem_singleton] at hx
            subst hx
            unfold fieldOf at hf
            simp only [Bool.and_eq_true] at hf
            unfold wrongH
            have e1 : tokenB (fieldOf s).1.name = true := hf.1.2
            have e2 : valuedB (fieldOf s).1.value = true := hf.2
            rw [e1, e2]
            simp only [Bool.not_eq_true] at h1 h2
            rw [h1, h2]; rfl
    · cases h
theorem rest_right {head b : Bs} (h : (restOf head b).2 = 0) : checkedB (restOf head b).1.1 (restOf head b).1.2 = true ∧ (restOf head b).1.2 = b.take (restOf head b).1.2.length ∧ (restOf head b).1.2.length ≤ b.length := by
  unfold restOf at h ⊢
  obtain ⟨x, hl⟩ : ∃ x, linesGo (linesOf head) acc0 = x := ⟨_, rfl⟩
  rw [hl] at h ⊢
  cases x with
  | none => cases h
  | some a =>
    simp only [restFin] at h ⊢
    by_cases h1 : a.coded = true
    · rw [if_pos h1] at h; cases h
    rw [if_neg h1] at h ⊢
    by_cases h2 : 1 < a.lengths
    · rw [if_pos h2] at h; cases h
    rw [if_neg h2] at h ⊢
    by_cases h3 : 16 < a.heads.length
    · rw [if_pos h3] at h; cases h
    rw [if_neg h3] at h ⊢
    by_cases h4 : 8192 < a.n
    · rw [if_pos h4] at h; cases h
    rw [if_neg h4] at h ⊢
    by_cases h5 : (b.length : Int) < a.n
    · rw [if_pos h5] at h; cases h
    rw [if_neg h5]
    have hr := lines_right _ _ _ hl (by simp [acc0])
    refine ⟨?_, ?_, ?_⟩
    · unfold checkedB
      simp only [Bool.and_eq_true, decide_eq_true_eq, Bool.not_eq_true', List.any_eq_false, Bool.not_eq_true]
      exact ⟨⟨by omega, by rw [List.length_take]; omega⟩, hr⟩
    · simp only [List.length_take]
      rw [Nat.min_eq_left (by omega)]
    · rw [List.length_take]; omega
/-- What was read, printed, is read as it was; and where its body stands. -/
theorem again_req (b : Bs) (h : (parseReq b).2.2 = 0) : ((printReq (parseReq b).1).2 = 0 ∨ printReq (parseReq b).1 = ([], 3)) ∧ (parseReq b).1.body.length ≤ (parseReq b).2.1 ∧ (parseReq b).2.1 ≤ b.length ∧ (b.drop ((parseReq b).2.1 - (parseReq b).1.body.length)).take (parseReq b).1.body.length = (parseReq b).1.body := by
  unfold parseReq readOf at h ⊢
  cases he : endAt (b.take 2048) with
  | none => rw [he] at h; simp only at h; split at h <;> cases h
  | some p =>
    rw [he] at h
    simp only at h ⊢
    by_cases hf : (firstQ (upto2 13 10 (b.take (p + 2))).1).2 = true
    · rw [if_pos hf] at h ⊢
      by_cases hr : (restOf (upto2 13 10 (b.take (p + 2))).2.1 (b.drop (p + 4))).2 = 0
      · rw [if_pos hr]
        obtain ⟨r1, r2, r3⟩ := rest_right hr
        have hp := (endAt_le _ _ he).1
        rw [List.length_take] at hp
        rw [List.length_drop] at r3
        generalize restOf (upto2 13 10 (b.take (p + 2))).2.1 (b.drop (p + 4)) = R at r1 r2 r3
        generalize (upto2 13 10 (b.take (p + 2))).1 = f at hf
        simp only
        refine ⟨?_, by omega, by omega, ?_⟩
        · unfold firstQ at hf
          simp only [Bool.and_eq_true, decide_eq_true_eq] at hf
          unfold printReq firstQ
          simp only
          rw [hf.1.1.2, hf.1.2, r1, Bool.and_self, Bool.and_self, if_pos rfl]
          unfold printedOf
          split
          · exact .inr rfl
          · exact .inl rfl
        · rw [show p + 4 + R.1.2.length - R.1.2.length = p + 4 by omega]
          exact r2.symm
      · rw [if_neg hr] at h; exact absurd h hr
    · rw [if_neg hf] at h; cases h
theorem zero_req (b : Bs) (h : (parseReq b).2.2 ≠ 0) : (parseReq b).1 = zReq ∧ (parseReq b).2.1 = 0 := by
  unfold parseReq readOf at h ⊢
  cases he : endAt (b.take 2048) with
  | none => exact ⟨rfl, rfl⟩
  | some p =>
    rw [he] at h
    simp only at h ⊢
    by_cases hf : (firstQ (upto2 13 10 (b.take (p + 2))).1).2 = true
    · rw [if_pos hf] at h ⊢
      by_cases hr : (restOf (upto2 13 10 (b.take (p + 2))).2.1 (b.drop (p + 4))).2 = 0
      · rw [if_pos hr] at h; exact absurd rfl h
      · rw [if_neg hr]; exact ⟨rfl, rfl⟩
    · rw [if_neg hf]; exact ⟨rfl, rfl⟩
end Ht
end Go.Proofs.YtoadahommlcjpaaGreatDoor
