/-
  THE WALKS, thirteenth part: rows that a call grows of its own; text of script's reader. CONDITIONS: the reader lies in a block of its own; lengths as it says.
-/
import Derived.Test.YthpojljfmipngaaGreatDoorWalkL
import Derived.Test.YthpojljfmipngaaGreatDoorWalkI
import Derived.Lib.LazyBuf
import Derived.Laws.AppendOwn
import Derived.Laws.OwnMore
import Derived.Laws.IdiomStrings
import Derived.Lib.UnsafeStr
import Derived.WalkMore
namespace Go.Proofs.YthpojljfmipngaaGreatDoor
open Go.RowKit
/-- A row that a call grows of its own, in blocks from B on. -/
structure Own (e : TypeId) (size B : Nat) (v : Value) (n : Nat) (xs : List Value) (w : World) : Prop where
  own : w.ownsRow B e size v n xs
  le : B ≤ w.heap.size
section
variable {e : TypeId} {size B : Nat} {v : Value} {n : Nat} {xs : List Value} {w w' : World}
theorem Own.nil (e : TypeId) (size : Nat) (w : World) : Own e size w.heap.size (.slice none 0 0) 0 [] w := ⟨World.ownsRow_nil _ _ _ _, Nat.le_refl _⟩
theorem Own.lt (h : Own e size B v n xs w) : ∀ k, v.ownBlock = some k → B ≤ k ∧ k < w.heap.size := h.own.lt
theorem Own.but {S : List Nat} (h : Own e size B v n xs w) (hk : But S w w') (hS : ∀ j ∈ S, j < B) : Own e size B v n xs w' := by
  refine ⟨⟨h.own.1, ?_⟩, Nat.le_trans h.le hk.size⟩
  rcases h.own.2 with hn | ⟨g, cap, cur, rfl, hb, hg, rest⟩
  · exact .inl hn
  · exact .inr ⟨g, cap, cur, rfl, hb, hk.blk hg (fun hm => by have := hS g hm; omega), rest⟩
theorem Own.next (h : Own e size B v n xs w) (hb : Below w.heap.size w w') : Own e size B v n xs w' := h.but (But.of (S := []) hb) (by simp)
theorem Own.slice (h : Own e 1 B v n xs w) : ∃ A c, v = .slice A n c ∧ CellsAt w A xs := by
  rcases h.own.2 with ⟨rfl, rfl⟩ | ⟨g, cap, cur, rfl, hb, hg, rest⟩
  · have : xs = [] := List.eq_nil_of_length_eq_zero (by simpa using h.own.1)
    subst this
    exact ⟨_, _, rfl, CellsAt.nil _ _⟩
  · refine ⟨_, _, rfl, fun _ => ⟨g, 0, rfl, (Array.getElem?_eq_some_iff.1 hg).1, fun i u hi => ?_⟩⟩
    have hc := h.own.cells (g := g) rfl i u hi
    have hadd : (⟨g, 0, none⟩ : Addr).add i = ⟨g, i, none⟩ := by unfold Addr.add; split <;> simp_all
    rw [hadd] at hc
    rw [Nat.zero_add]; exact hc
end
theorem wpList_own_append {ops : Array Oper} {rest : List Oper} {o : Oper} {a : Act} {Q : Exit → Act → World → Prop} (hgd : o.guard = none) (s x : Operand) (t e : TypeId) (z : Value) (size bytes : Nat)
    (ho : o.op = .call { callee := .builtin .append, args := #[s, x], argTypes := #[t, t] }) (ht : Tryz.prog.underlying t = some (.slice e))
    (hi : (Tryz.prog.info? e).map (fun i => (i.zero, i.size, i.bytes)) = some (some z, size, bytes)) (hzs : z.cells.size = size) (hsz : 0 < size)
    {B : Nat} {v : Value} {n : Nat} {xs : List Value} {w : World} (hb : Own e size B v n xs w) (hs : a.eval s = v)
    (news : List Value) (m : Nat) {C : Array Value} (hC : C = news.toArray) (hm : news.length = m * size) (h1 : ∀ u ∈ news, u.oneCell' = true)
    (hx : a.eval x = .slice (some ⟨w.heap.size, 0, none⟩) m m) (h63 : n + m ≤ maxLen) (hbytes : (n + m) * bytes ≤ 140737488355328)
    (h : ∀ v' w', Own e size B v' (n + m) (xs ++ news) w' → Below B w w' → wpList Tryz.prog ops Q rest (a.put o.dst v') w') : wpList Tryz.prog ops Q (o :: rest) a (w.alloc (.cells C e)) := by
  subst hC
  cases hinf : Tryz.prog.info? e with
  | none => rw [hinf] at hi; cases hi
  | some i0 =>
    rw [hinf] at hi
    simp only [Option.map_some, Option.some.injEq, Prod.mk.injEq] at hi
    obtain ⟨hz0, hz1, hz2⟩ := hi
    have hle : B ≤ (w.alloc (.cells news.toArray e)).heap.size := by simp; have := hb.le; omega
    refine wpList_append_own _ hgd s x t ho B e i0 z size bytes ht hinf hz0 hz1 hz2 hzs hsz v n xs hs (hb.own.alloc _) ⟨w.heap.size, 0, none⟩ m m news hx hm ?_ h1 h63 hbytes hle ?_
    · intro j u hj
      have hadd : (⟨w.heap.size, 0, none⟩ : Addr).add j = ⟨w.heap.size, j, none⟩ := by unfold Addr.add; split <;> simp_all
      rw [hadd, blk_cells (heap_alloc_new w _) j, List.getElem?_toArray, hj]
    · intro v' w' h1' h2 _
      refine h v' w' ⟨h1', Nat.le_trans hle h2.size⟩ ?_
      exact ((Below.refl B w).alloc hb.le (.cells news.toArray e)).grown h2 hle (fun k hk => (hb.own.lt k hk).1)
theorem byteCells_one (l : List UInt8) : ∀ v ∈ Lib.byteCells l, v.oneCell' = true := by
  intro v hv
  simp only [Lib.byteCells, List.mem_map] at hv
  obtain ⟨b, _, rfl⟩ := hv; rfl
theorem byteCells_app (l m : List UInt8) : Lib.byteCells (l ++ m) = Lib.byteCells l ++ Lib.byteCells m := by unfold Lib.byteCells; rw [List.map_append]
theorem own_string {B : Nat} {v : Value} {out : List UInt8} {w : World} (h : Own 5 1 B v out.length (Lib.byteCells out) w) : (convert 37 9 v).run Tryz.prog w = .ok (.string ⟨out.toArray⟩) w := by
  obtain ⟨A, c, rfl, hc⟩ := h.slice
  exact conv_bytes hc c
def restLen (w : World) (b : Nat) : Nat := match w.cell? ⟨b, 0, none⟩ with | some (.string s) => s.size | _ => 0
theorem restLen_of {w : World} {b : Nat} {r : Sc.Rd} (h : RdAt w b r) : restLen w b = r.rest.length := by
  unfold restLen
  rw [h.cells.1]
  simp [Lib.size_eq]
/-- What text comes to, from a state of its loop. -/
def TFin (res : Sc.Bs × Sc.Rd) (r : Sc.Rd) (out : Sc.Bs) : Prop := if r.bad then res = (out, r) else res = Sc.textGo r.rest out
theorem TFin.done {res : Sc.Bs × Sc.Rd} {r : Sc.Rd} {out : Sc.Bs} (h : TFin res r out) (hb : r.bad = true) : res = (out, r) := by unfold TFin at h; rwa [if_pos hb] at h
theorem TFin.go {res : Sc.Bs × Sc.Rd} {l out : Sc.Bs} (h : TFin res ⟨l, false⟩ out) : res = Sc.textGo l out := by unfold TFin at h; exact h
theorem TFin.start (r : Sc.Rd) : TFin (Sc.text r) ⟨Lib.trimPrefix r.rest [34], r.bad || !Lib.hasPrefix r.rest [34]⟩ [] := by
  unfold TFin Sc.text
  cases r.bad <;> cases Lib.hasPrefix r.rest [34] <;> simp
theorem textGo_nil (out : Sc.Bs) : Sc.textGo [] out = (out, ⟨[], true⟩) := by rw [Sc.textGo]
theorem textGo_quote {c : UInt8} (t out : Sc.Bs) (h : c.toNat = 34) : Sc.textGo (c :: t) out = (out, ⟨t, !t.isEmpty⟩) := by rw [Sc.textGo, if_pos h]
theorem fin_esc {res : Sc.Bs × Sc.Rd} {c : UInt8} {t out : Sc.Bs} (h : c.toNat = 92) (hf : res = Sc.textGo (c :: t) out) : TFin res (Sc.escaped ⟨t, false⟩).2 (out ++ [(Sc.escaped ⟨t, false⟩).1]) := by
  rw [Sc.textGo, if_neg (by omega), if_pos h] at hf
  unfold TFin
  cases hb : (Sc.escaped ⟨t, false⟩).2.bad
  · rw [hb] at hf; simpa using hf
  · rw [hb] at hf; simpa using hf
theorem fin_bad {res : Sc.Bs × Sc.Rd} {c : UInt8} {t out : Sc.Bs} (h1 : c.toNat < 32 ∨ 126 < c.toNat) (hf : res = Sc.textGo (c :: t) out) : TFin res ⟨t, true⟩ (out ++ [c]) := by
  rw [Sc.textGo, if_neg (by omega), if_neg (by omega), if_pos h1] at hf
  exact hf
theorem fin_one {res : Sc.Bs × Sc.Rd} {c : UInt8} {t out : Sc.Bs} (h1 : c.toNat ≠ 34) (h2 : c.toNat ≠ 92) (h3 : ¬ (c.toNat < 32 ∨ 126 < c.toNat)) (hf : res = Sc.textGo (c :: t) out) : TFin res ⟨t, false⟩ (out ++ [c]) := by
  rw [Sc.textGo, if_neg h1, if_neg h2, if_neg h3] at hf
  exact hf
theorem trim_le (l p : Sc.Bs) : (Lib.trimPrefix l p).length ≤ l.length := by
  unfold Lib.trimPrefix
  split
  · simp
  · exact Nat.le_refl _
theorem But.step {S : List Nat} {a w w' : World} (h : But S a w) (hb : Below a.heap.size w w') : But S a w' :=
  ⟨hb.os.trans h.os, hb.tape.trans h.tape, hb.output.trans h.output, Nat.le_trans h.size hb.size, fun j hj hs => (hb.block j hj).trans (h.block j hj hs)⟩
theorem RdAt.below {w w' : World} {b B : Nat} {r : Sc.Rd} (h : RdAt w b r) (hb : Below B w w') (hB : b < B) : RdAt w' b r := (hb.block b hB).trans h
theorem Own.byte {B : Nat} {v : Value} {out : List UInt8} {c : UInt8} {w : World} (h : Own 5 1 B v (out.length + 1) (Lib.byteCells out ++ [.int .u8 (c.toNat : Int)]) w) : Own 5 1 B v (out ++ [c]).length (Lib.byteCells (out ++ [c])) w := by
  rw [List.length_append, byteCells_app]; exact h
theorem info5 : (Tryz.prog.info? 5).map (fun i => (i.zero, i.size, i.bytes)) = some (some (.int .u8 0), 1, 1) := by kernel_rfl
set_option maxRecDepth 100000 in
set_option maxHeartbeats 8000000 in
theorem rtext_any (b : Nat) (r : Sc.Rd) (w : World) (h : RdAt w b r) (hlen : r.rest.length ≤ 1073741824) :
    Calls Tryz.prog 40 #[.pointer (some ⟨b, 0, none⟩)] w fun e w' => e = .returned (.string ⟨(Sc.text r).1.toArray⟩) ∧ RdAt w' b (Sc.text r).2 ∧ But [b] w w' := by
  obtain ⟨c0, c1, f0, f1, hlt⟩ := h.cells
  have HS := Lib.hid (TFin.start r)
  have HR := Lib.hid h
  have htl := trim_le r.rest [34]
  clear h
  go_enter Tryz.func40, Tryz.ntmps40
  go_wp2_with fail
  go_step3
  go_wp2_with fail
  refine (Tryz.strings_CutPrefix _ _ _).mono ?_
  rintro e w1 ⟨rfl, rfl⟩
  have HE : Hid (RdAt ((w1.setCell ⟨b, 0, none⟩ (.string ⟨(Lib.trimPrefix r.rest [34]).toArray⟩)).setCell ⟨b, 1, none⟩ (.bool (r.bad || !Lib.hasPrefix r.rest [34]))) b ⟨Lib.trimPrefix r.rest [34], r.bad || !Lib.hasPrefix r.rest [34]⟩ ∧ But [b] w1 ((w1.setCell ⟨b, 0, none⟩ (.string ⟨(Lib.trimPrefix r.rest [34]).toArray⟩)).setCell ⟨b, 1, none⟩ (.bool (r.bad || !Lib.hasPrefix r.rest [34])))) :=
    Lib.hid ⟨(HR.out.rest _).bad _, (but_set (i := 0) _ HR.out).1.trans (but_set (i := 1) _ (HR.out.rest _)).1⟩
  have HL := Lib.hid hlen
  generalize Lib.trimPrefix r.rest [34] = l1 at HS HE htl ⊢
  generalize Lib.hasPrefix r.rest [34] = q1 at HS HE ⊢
  clear HR hlen
  generalize r.bad = rb at HS HE c1 ⊢
  have HTL := Lib.hid htl
  have HB := Lib.hid hlt
  clear htl
  cases rb <;> cases q1
  all_goals
    go_wp2_with fail
    go_step3
    simp only [Bool.not_true, Bool.not_false, Bool.or_false, Bool.or_true] at HS HE
    replace HE := HE.out
    obtain ⟨HR, HK⟩ := HE
    generalize (w1.setCell _ _).setCell _ _ = w2 at HR HK ⊢
    clear c0 c1 f0 f1 hlt
    go_wp2_with fail
    go_loopw [5, 6] (fun v _ wr => ∃ rk out, out.length + rk.rest.length ≤ r.rest.length ∧ RdAt wr b rk ∧ Hid (TFin (Sc.text r) rk out) ∧ Own 5 1 w1.heap.size v out.length (Lib.byteCells out) wr ∧ But [b] w1 wr) (fun _ _ wr => restLen wr b)
    case atStart => exact ⟨_, [], by simpa using HTL.out, HR, HS, ⟨World.ownsRow_nil _ _ _ _, HK.size⟩, HK⟩
    case round =>
      obtain ⟨⟨l, q⟩, out, hle, hR, hF, hO, hk⟩ := hrel
      have HO := Lib.hid hO
      have HKK := Lib.hid hk
      have HRR := Lib.hid hR
      have HLE := Lib.hid hle
      obtain ⟨c0, c1, f0, f1, hlt⟩ := hR.cells
      simp only at c0 c1 hle
      have HM := Lib.hid (restLen_of hR)
      clear hR hO hk HR HK HS
      cases q
      · cases l with
        | nil =>
          have HFIN := Lib.hid (hF.out.go.trans (textGo_nil out))
          have HR2 := Lib.hid (HRR.out.bad true)
          have hset := (but_set (i := 1) (.bool true) HRR.out).1
          have HK2 := Lib.hid (HKK.out.trans hset)
          have hcv := own_string (HO.out.but hset (by simpa using HB.out))
          clear hset hF hle
          go_wp2_with fail
          try rw [Exit.noGoto_ret]
          go_ret
          rw [HFIN.out]
          exact ⟨rfl, HR2.out, HK2.out⟩
        | cons c t =>
          have H1 := Lib.hid (HRR.out.rest t)
          have B1 := Lib.hid (HKK.out.trans (but_set (i := 0) (.string ⟨t.toArray⟩) HRR.out).1)
          have O1 := Lib.hid (HO.out.but (but_set (i := 0) (.string ⟨t.toArray⟩) HRR.out).1 (by simpa using HB.out))
          have hz : (⟨(c :: t).toArray⟩ : ByteArray).size = t.length + 1 := by rw [Lib.size_eq]; rfl
          have h0 : 0 < (⟨(c :: t).toArray⟩ : ByteArray).size := by rw [hz]; omega
          have e0 : (⟨(c :: t).toArray⟩ : ByteArray)[0] = c := rfl
          have e1 : (⟨(c :: t).toArray⟩ : ByteArray).extract 1 (t.length + 1) = ⟨t.toArray⟩ := str_drop1 c t
          have n0 : (⟨(c :: t).toArray⟩ : ByteArray).toList.isEmpty = false := str_cons_ne c t
          have hle2 : out.length + (t.length + 1) ≤ 1073741824 := by have := HL.out; simp at hle; omega
          have hle3 : out.length + (t.length + 1) ≤ r.rest.length := by simpa using hle
          have HF := Lib.hid hF.out.go
          obtain ⟨d0, d1, g0, g1, hlt1⟩ := H1.out.cells
          simp only at d0 d1
          clear hle hF
          generalize hs : (⟨(c :: t).toArray⟩ : ByteArray) = s at hz h0 e0 e1 n0 c0 ⊢
          clear hs
          by_cases k34 : c.toNat = 34
          · have HFIN := Lib.hid (HF.out.trans (textGo_quote t out k34))
            have b34 : ((c.toNat : Int) == 34) = true := by rw [k34]; rfl
            have HR2 := fun q => Lib.hid (H1.out.bad q)
            have HK2 := fun q => Lib.hid (B1.out.trans (but_set (i := 1) (.bool q) H1.out).1)
            have hcv := fun q => own_string (O1.out.but (but_set (i := 1) (.bool q) H1.out).1 (by simpa using HB.out))
            have n1 : (⟨t.toArray⟩ : ByteArray).toList.isEmpty = t.isEmpty := by rw [ByteArray.toList_eq]
            clear k34 hle3 HF H1 B1 O1
            cases t with
            | nil =>
              replace hcv : (convert 37 9 _).run Tryz.prog ((wr.setCell ⟨b, 0, none⟩ (.string ByteArray.empty)).setCell ⟨b, 1, none⟩ (.bool false)) = _ := hcv false
              clear n1
              go_wp2_with fail
              try rw [Exit.noGoto_ret]
              go_ret
              rw [HFIN.out]
              exact ⟨rfl, (HR2 false).out, (HK2 false).out⟩
            | cons a t =>
              replace hcv := hcv true
              replace n1 : (⟨(a :: t).toArray⟩ : ByteArray).toList.isEmpty = false := n1
              simp only [List.length_cons] at e1 hz
              generalize (⟨(a :: t).toArray⟩ : ByteArray) = st at n1 d0 d1 g0 g1 hlt1 HR2 HK2 hcv e1 ⊢
              go_wp2_with fail
              try rw [Exit.noGoto_ret]
              go_ret
              rw [HFIN.out]
              exact ⟨rfl, (HR2 true).out, (HK2 true).out⟩
          have b34 : ((c.toNat : Int) == 34) = false := by rw [beq_eq_false_iff_ne]; omega
          by_cases k92 : c.toNat = 92
          · have b92 : ((c.toNat : Int) == 92) = true := by rw [k92]; rfl
            have HFIN := Lib.hid (fin_esc k92 HF.out)
            have hel := Sc.escaped_le ⟨t, false⟩
            simp only at hel
            clear k34 k92
            go_wp2_with fail
            refine (escaped_any b ⟨t, false⟩ _ H1.out (by show t.length < 4294967281; omega)).mono ?_
            rintro e w4 ⟨rfl, hR4, hk4⟩
            have HR4 := Lib.hid hR4
            have HK4 := Lib.hid (B1.out.trans hk4)
            have HO4 := Lib.hid (O1.out.but hk4 (by simpa using HB.out))
            clear hR4 hk4 c0 c1 f0 f1 d0 d1 g0 g1 e0 e1 h0 hz n0 HF
            generalize Sc.escaped ⟨t, false⟩ = ed at HFIN HR4 hel ⊢
            obtain ⟨ec, er⟩ := ed
            simp only at HFIN HR4 hel ⊢
            go_wp2_with (at_builtin; refine wpList_own_append rfl _ _ 37 5 (.int .u8 0) 1 1 rfl Tryz.underlying37 info5 rfl (by decide) HO4.out rfl [.int .u8 (ec.toNat : Int)] 1 rfl rfl (by simp [Value.oneCell']) (by first | rfl | exact congrArg (fun k => Value.slice (some ⟨k, 0, none⟩) 1 1) (by simp)) (by unfold maxLen; omega) (by omega) ?_)
            intro v' w5 hO5 hb5
            have HR5 := Lib.hid (HR4.out.below hb5 HB.out)
            have HK5 := Lib.hid (HK4.out.step hb5)
            have HO5 := Lib.hid hO5.byte
            clear hO5 hb5
            go_wp2_with fail
            go_roundw
            case rel => exact ⟨er, _, by simp; omega, HR5.out, Lib.hid (HFIN.out), HO5.out, HK5.out⟩
            case measure => rw [HM.out, restLen_of HR5.out]; simp; omega
          have b92 : ((c.toNat : Int) == 92) = false := by rw [beq_eq_false_iff_ne]; omega
          by_cases kb : c.toNat < 32 ∨ 126 < c.toNat
          · have HFIN := Lib.hid (fin_bad kb HF.out)
            have HR2 := Lib.hid (H1.out.bad true)
            have HK2 := Lib.hid (B1.out.trans (but_set (i := 1) (.bool true) H1.out).1)
            have HO2 := Lib.hid (O1.out.but (but_set (i := 1) (.bool true) H1.out).1 (by simpa using HB.out))
            have hcase : (c.toNat : Int) < 32 ∨ (¬ (c.toNat : Int) < 32 ∧ (126 : Int) < c.toNat) := by omega
            clear k34 k92 kb HF
            rcases hcase with l1 | ⟨l1, l2⟩
            all_goals
            go_wp2_with (at_builtin; refine wpList_own_append rfl _ _ 37 5 (.int .u8 0) 1 1 rfl Tryz.underlying37 info5 rfl (by decide) HO2.out rfl [.int .u8 (c.toNat : Int)] 1 rfl rfl (by simp [Value.oneCell']) (by first | rfl | exact congrArg (fun k => Value.slice (some ⟨k, 0, none⟩) 1 1) (by simp)) (by unfold maxLen; omega) (by omega) ?_)
            intro v' w5 hO5 hb5
            have HR5 := Lib.hid (HR2.out.below hb5 HB.out)
            have HK5 := Lib.hid (HK2.out.step hb5)
            have HO5 := Lib.hid hO5.byte
            clear hO5 hb5
            go_wp2_with fail
            go_roundw
            case rel => exact ⟨⟨t, true⟩, _, by simp; omega, HR5.out, Lib.hid (HFIN.out), HO5.out, HK5.out⟩
            case measure => rw [HM.out, restLen_of HR5.out]; simp
          · have HFIN := Lib.hid (fin_one k34 k92 kb HF.out)
            have l1 : ¬ (c.toNat : Int) < 32 := by omega
            have l2 : ¬ (126 : Int) < c.toNat := by omega
            clear k34 k92 kb HF
            go_wp2_with (at_builtin; refine wpList_own_append rfl _ _ 37 5 (.int .u8 0) 1 1 rfl Tryz.underlying37 info5 rfl (by decide) O1.out rfl [.int .u8 (c.toNat : Int)] 1 rfl rfl (by simp [Value.oneCell']) (by first | rfl | exact congrArg (fun k => Value.slice (some ⟨k, 0, none⟩) 1 1) (by simp)) (by unfold maxLen; omega) (by omega) ?_)
            intro v' w5 hO5 hb5
            have HR5 := Lib.hid (H1.out.below hb5 HB.out)
            have HK5 := Lib.hid (B1.out.step hb5)
            have HO5 := Lib.hid hO5.byte
            clear hO5 hb5
            go_wp2_with fail
            go_roundw
            case rel => exact ⟨⟨t, false⟩, _, by simp; omega, HR5.out, Lib.hid (HFIN.out), HO5.out, HK5.out⟩
            case measure => rw [HM.out, restLen_of HR5.out]; simp
      · have HFIN := Lib.hid (hF.out.done rfl)
        have hcv := own_string HO.out
        clear hF hle
        go_wp2_with fail
        try rw [Exit.noGoto_ret]
        go_ret
        rw [HFIN.out]
        exact ⟨rfl, HRR.out, HKK.out⟩
end Go.Proofs.YthpojljfmipngaaGreatDoor
