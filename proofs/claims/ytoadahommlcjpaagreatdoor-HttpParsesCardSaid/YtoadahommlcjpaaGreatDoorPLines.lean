/-
  THE WALK: Lines of the document. CONDITIONS: the row lies as said; lengths.
-/
import Derived.Test.YtoadahommlcjpaaGreatDoorPCut
namespace Go.Proofs.YtoadahommlcjpaaGreatDoor
open Go.RowKit
theorem info9 : (Tryz.prog.info? 9).map (fun i => (i.zero, i.size, i.bytes)) = some (some (.string ⟨#[]⟩), 1, 16) := by kernel_rfl
theorem wpList_own_append2 {ops : Array Oper} {rest : List Oper} {o : Oper} {a : Act} {Q : Exit → Act → World → Prop} (hgd : o.guard = none) (s x : Operand) (t e : TypeId) (z : Value) (size bytes : Nat)
    (ho : o.op = .call { callee := .builtin .append, args := #[s, x], argTypes := #[t, t] }) (ht : Tryz.prog.underlying t = some (.slice e))
    (hi : (Tryz.prog.info? e).map (fun i => (i.zero, i.size, i.bytes)) = some (some z, size, bytes)) (hzs : z.cells.size = size) (hsz : 0 < size)
    {B : Nat} {v : Value} {n : Nat} {xs : List Value} {w : World} (hb : Own e size B v n xs w) (hs : a.eval s = v)
    (news : List Value) (m : Nat) {C : Array Value} (hC : C = news.toArray) (hm : news.length = m * size) (h1 : ∀ u ∈ news, u.oneCell' = true)
    (hx : a.eval x = .slice (some ⟨w.heap.size, 0, none⟩) m m) (h63 : n + m ≤ maxLen) (hbytes : (n + m) * bytes ≤ 140737488355328)
    (h : ∀ v' w', Own e size B v' (n + m) (xs ++ news) w' → But v.ownBlock.toList w w' → wpList Tryz.prog ops Q rest (a.put o.dst v') w') : wpList Tryz.prog ops Q (o :: rest) a (w.alloc (.cells C e)) := by
  subst hC
  cases hinf : Tryz.prog.info? e with
  | none => rw [hinf] at hi; cases hi
  | some i0 =>
    rw [hinf] at hi
    simp only [Option.map_some, Option.some.injEq, Prod.mk.injEq] at hi
    obtain ⟨hz0, hz1, hz2⟩ := hi
    have hle : B ≤ (w.alloc (.cells news.toArray e)).heap.size := by simp; have := hb.le; omega
    refine wpList_append_own _ hgd s x t ho B e i0 z size bytes ht hinf hz0 hz1 hz2 hzs hsz v n xs hs (hb.own.alloc _) ⟨w.heap.size, 0, none⟩ m m news hx hm ?_ h1 h63 hbytes hle ?_
    · intro j u hj
      have hadd : (⟨w.heap.size, 0, none⟩ : Addr).add j = ⟨w.heap.size, j, none⟩ := by unfold Addr.add; split <;> simp_all
      rw [hadd, blk_cells (heap_alloc_new w _) j, List.getElem?_toArray, hj]
    · intro v' w' h1' h2 _
      exact h v' w' ⟨h1', Nat.le_trans hle h2.size⟩ ((But.of (below_box w _)).trans (But.grown h2))
theorem But.row {e : TypeId} {size B : Nat} {v : Value} {n : Nat} {xs : List Value} {w w' : World} (hk : But v.ownBlock.toList w w') (h : Own e size B v n xs w) {B0 : Nat} (hB : B0 ≤ B) : Below B0 w w' :=
  hk.to (Nat.le_trans hB h.le) (fun j hj => Nat.le_trans hB (h.lt j (by simpa using hj)).1)
namespace Ht
theorem refLines_short : ∀ (l cur : Bs) (out : List Bs) (pos : Nat), l.length ≤ 1 → refLines l cur out pos = none
  | [], _, _, _, _ => rfl
  | [_], _, _, _, _ => rfl
  | x :: y :: t, _, _, _, h => by simp at h
/-- Where the loop over the bytes stands. -/
def LInv (b : Bs) (k f : Nat) (done : List Bs) : Prop := (f ≤ k ∧ refLines (b.drop k) ((b.drop f).take (k - f)) done k = refLines b [] [] 0) ∨ (k + 1 = f ∧ refLines (b.drop f) [] done f = refLines b [] [] 0)
theorem LInv.start (b : Bs) : LInv b 0 0 [] := .inl ⟨Nat.le_refl _, by simp⟩
theorem LInv.stop {b : Bs} {k f : Nat} {done : List Bs} (h : LInv b k f done) (hk : b.length ≤ k + 1) : refLines b [] [] 0 = none := by
  rcases h with ⟨h1, h2⟩ | ⟨h1, h2⟩
  · rw [← h2]; exact refLines_short _ _ _ _ (by rw [List.length_drop]; omega)
  · rw [← h2]; exact refLines_short _ _ _ _ (by rw [List.length_drop]; omega)
theorem LInv.skip {b : Bs} {k f : Nat} {done : List Bs} (h : LInv b k f done) (hf : k < f) : LInv b (k + 1) f done := by
  rcases h with ⟨h1, h2⟩ | ⟨h1, h2⟩
  · omega
  · subst h1
    exact .inl ⟨Nat.le_refl _, by rw [← h2]; simp⟩
theorem two_drop {b : Bs} {k : Nat} {x y : UInt8} (hx : b[k]? = some x) (hy : b[k + 1]? = some y) : b.drop k = x :: y :: b.drop (k + 2) := by
  obtain ⟨h1, rfl⟩ := List.getElem?_eq_some_iff.1 hx
  obtain ⟨h2, rfl⟩ := List.getElem?_eq_some_iff.1 hy
  rw [List.drop_eq_getElem_cons h1, List.drop_eq_getElem_cons h2]
theorem LInv.no {b : Bs} {k f : Nat} {done : List Bs} {x y : UInt8} (h : LInv b k f done) (hf : f ≤ k) (hx : b[k]? = some x) (hy : b[k + 1]? = some y) (hn : ¬ (x = 13 ∧ y = 10)) : LInv b (k + 1) f done := by
  rcases h with ⟨h1, h2⟩ | ⟨h1, h2⟩
  · refine .inl ⟨by omega, ?_⟩
    rw [← h2, two_drop hx hy, refLines, if_neg hn]
    have hd : b.drop (k + 1) = y :: b.drop (k + 2) := by
      obtain ⟨h3, rfl⟩ := List.getElem?_eq_some_iff.1 hy
      rw [List.drop_eq_getElem_cons h3]
    have ht : (b.drop f).take (k + 1 - f) = (b.drop f).take (k - f) ++ [x] := by
      rw [show k + 1 - f = k - f + 1 by omega, List.take_add_one, List.getElem?_drop, show f + (k - f) = k by omega, hx]
      rfl
    rw [hd, ht]
  · omega
theorem LInv.ret {b : Bs} {k f : Nat} {done : List Bs} {x y : UInt8} (h : LInv b k f done) (hf : k = f) (hd : done ≠ []) (hx : b[k]? = some x) (hy : b[k + 1]? = some y) (h1 : x = 13) (h2 : y = 10) : refLines b [] [] 0 = some (done, k + 2) := by
  rcases h with ⟨h3, h4⟩ | ⟨h3, h4⟩
  · rw [← h4, two_drop hx hy, refLines, if_pos ⟨h1, h2⟩, if_pos ⟨by subst hf; simp, hd⟩]
  · omega
theorem LInv.put {b : Bs} {k f : Nat} {done : List Bs} {x y : UInt8} (h : LInv b k f done) (hf : f ≤ k) (hx : b[k]? = some x) (hy : b[k + 1]? = some y) (h1 : x = 13) (h2 : y = 10) (hno : ¬ (k = f ∧ done ≠ [])) : LInv b (k + 1) (k + 2) (done ++ [(b.drop f).take (k - f)]) := by
  rcases h with ⟨h3, h4⟩ | ⟨h3, h4⟩
  · refine .inr ⟨rfl, ?_⟩
    rw [← h4, two_drop hx hy, refLines, if_pos ⟨h1, h2⟩, if_neg (fun hc => hno ⟨?_, hc.2⟩)]
    have hl := (List.getElem?_eq_some_iff.1 hx).1
    have h5 := congrArg List.length hc.1
    rw [List.length_take, List.length_drop, List.length_nil] at h5
    omega
  · omega
end Ht
/-- What Lines leaves. -/
def LinesOut (w : World) (R : Option (List Ht.Bs × Nat)) (e : Ending) (w' : World) : Prop :=
  (match R with
    | none => e = .returned (.tuple #[.slice none 0 0, .int .i64 (-1)])
    | some (l, n) => ∃ A c, e = .returned (.tuple #[.slice A l.length c, .int .i64 n]) ∧ Own 9 1 w.heap.size (.slice A l.length c) l.length (l.map bstr) w') ∧ Below w.heap.size w w'
set_option maxRecDepth 100000 in
set_option maxHeartbeats 4000000 in
theorem refLines_any (b : Ht.Bs) (B : Option Addr) (c : Nat) (w : World) (hB : CellsAt w B (Lib.byteCells b)) (hb : b.length ≤ 1048576) (hc : b.length ≤ c) (hc2 : c ≤ 9223372036854775807) :
    Calls Tryz.prog 111 #[.slice B b.length c] w (LinesOut w (Ht.refLines b [] [] 0)) := by
  obtain ⟨R, hR⟩ : ∃ R, Ht.refLines b [] [] 0 = R := ⟨_, rfl⟩
  rw [hR]
  have HR := Lib.hid hR
  have HC := Lib.hid hB
  clear hR hB
  go_enter Tryz.func111, Tryz.ntmps111
  go_wp2_with fail
  go_loopw [4, 5, 6] (fun out fr i wr => ∃ (k f : Nat) (done : List Ht.Bs), k ≤ b.length ∧ f ≤ k + 1 ∧ i = .int .i64 k ∧ fr = .int .i64 f ∧ done.length ≤ k ∧ Hid (Own 9 1 w.heap.size out done.length (done.map bstr) wr) ∧ Hid (Below w.heap.size w wr) ∧ Hid (Ht.LInv b k f done)) (fun _ _ i _ => b.length + 1 - (intOf i).toNat)
  case atStart => exact ⟨0, 0, [], by omega, by omega, rfl, rfl, by simp, Lib.hid (Own.nil 9 1 w), Lib.hid (Below.refl _ _), Lib.hid (Ht.LInv.start b)⟩
  case round =>
    obtain ⟨k, f, done, hk, hf1, rfl, rfl, hdl, HO, HW, HI⟩ := hrel
    obtain ⟨OA, oc, rfl⟩ := own_shape HO.out
    by_cases hlt : k + 1 < b.length
    · obtain ⟨bb, off, rfl, hbl, hcl⟩ := HC.out (byteCells_nz (by intro h0; rw [h0] at hlt; simp at hlt))
      have hx : b[k]? = some b[k] := List.getElem?_eq_getElem (by omega)
      have hy : b[k + 1]? = some b[k + 1] := List.getElem?_eq_getElem hlt
      generalize b[k] = x at hx
      generalize b[k + 1] = y at hy
      have c0 := (HW.out.cell (p := ⟨bb, off + k, none⟩) hbl).trans (hcl k (.int .u8 x.toNat) (by unfold Lib.byteCells; rw [List.getElem?_map, hx]; rfl))
      have c1 := (HW.out.cell (p := ⟨bb, off + (k + 1), none⟩) hbl).trans (hcl (k + 1) (.int .u8 y.toNat) (by unfold Lib.byteCells; rw [List.getElem?_map, hy]; rfl))
      clear hcl
      by_cases hfk : k < f
      · have HN := Lib.hid (HI.out.skip hfk)
        have hfi : (k : Int) < f := by omega
        clear HI
        go_wp2_with fail
        go_roundw
        case rel => exact ⟨k + 1, f, done, by omega, by omega, by go_num, rfl, by omega, HO, HW, HN⟩
        case measure => simp [intOf]; omega
      · have hfi : ¬ (k : Int) < f := by omega
        have e1 := u8_eq x 13 (by omega)
        have e2 := u8_eq y 10 (by omega)
        by_cases h13 : (x.toNat : Int) = 13
        · by_cases h10 : (y.toNat : Int) = 10
          · have hx13 := e1.1 h13
            have hy10 := e2.1 h10
            clear e1 e2
            by_cases hret : k = f ∧ done ≠ []
            · have HN := Lib.hid (HI.out.ret hret.1 hret.2 hx hy hx13 hy10)
              have hkf : k = f := hret.1
              have hdn : 0 < done.length := List.length_pos_iff.2 hret.2
              clear hret HI hx hy hx13 hy10
              subst hkf
              go_wp2_with fail
              (try simp only [Exit.inBlock, Exit.then])
              go_ret2
              refine ⟨?_, HW.out⟩
              rw [show R = some (done, k + 2) from HR.out.symm.trans HN.out]
              exact ⟨OA, oc, retv (by simp), HO.out⟩
            · have HN := Lib.hid (HI.out.put (by omega) hx hy hx13 hy10 hret)
              obtain ⟨m, hm⟩ : ∃ m, (b.drop f).take (k - f) = m := ⟨_, rfl⟩
              have hml : m.length = k - f := by rw [← hm, List.length_take, List.length_drop]; omega
              rw [hm] at HN
              have hcm : CellsAt w (some ⟨bb, off + f, none⟩) (Lib.byteCells m) := by
                rw [← hm]; exact cells_take (cells_drop HC.out f) (k - f)
              have hkb := toStr (hcm.next HW.out (Nat.le_refl _)) (c - f)
              rw [hml] at hkb
              have hcond : ((k : Int) == f && decide ((done.length : Int) > 0)) = false := by
                by_cases h1 : k = f
                · have h2 : done = [] := by
                    rcases List.eq_nil_or_concat done with h3 | h3
                    · exact h3
                    · exact absurd ⟨h1, by obtain ⟨_, _, h4⟩ := h3; rw [h4]; simp⟩ hret
                  subst h2; simp
                · have : ((k : Int) == f) = false := by simp; omega
                  rw [this]; rfl
              clear hm hx hy hx13 hy10 HI hcm
              by_cases h1 : k = f
              · have hd0 : done = [] := by
                  rcases List.eq_nil_or_concat done with h3 | h3
                  · exact h3
                  · exact absurd ⟨h1, by obtain ⟨_, _, h4⟩ := h3; rw [h4]; simp⟩ hret
                subst h1
                subst hd0
                simp only [Nat.sub_self] at hkb hml
                go_wp2_with (at_builtin; refine wpList_own_append2 rfl _ _ 106 9 (.string ⟨#[]⟩) 1 16 rfl Tryz.underlying106 info9 rfl (by decide) HO.out rfl [bstr m] 1 rfl rfl (by simp [Value.oneCell', bstr]) rfl (by unfold maxLen; omega) (by omega) ?_)
                intro v7 w7 hO7 hk7
                obtain ⟨A7, c7, rfl⟩ := own_shape hO7
                have HW7 := Lib.hid (HW.out.trans (hk7.row HO.out (Nat.le_refl _)))
                have HO7 := Lib.hid hO7
                clear hO7 hk7
                go_wp2_with fail
                go_roundw
                case rel => exact ⟨k + 1, k + 2, [] ++ [m], by omega, by omega, by go_num, by go_num, by simp <;> omega, by simpa using HO7, HW7, HN⟩
                case measure => simp [intOf]; omega
              · have hne : ((k : Int) == f) = false := by simp; omega
                go_wp2_with (at_builtin; refine wpList_own_append2 rfl _ _ 106 9 (.string ⟨#[]⟩) 1 16 rfl Tryz.underlying106 info9 rfl (by decide) HO.out rfl [bstr m] 1 rfl rfl (by simp [Value.oneCell', bstr]) rfl (by unfold maxLen; omega) (by omega) ?_)
                intro v7 w7 hO7 hk7
                obtain ⟨A7, c7, rfl⟩ := own_shape hO7
                have HW7 := Lib.hid (HW.out.trans (hk7.row HO.out (Nat.le_refl _)))
                have HO7 := Lib.hid hO7
                clear hO7 hk7
                go_wp2_with fail
                go_roundw
                case rel => exact ⟨k + 1, k + 2, done ++ [m], by omega, by omega, by go_num, by go_num, by simp <;> omega, by simpa using HO7, HW7, HN⟩
                case measure => simp [intOf]; omega
          · have HN := Lib.hid (HI.out.no (by omega) hx hy (fun h => h10 (e2.2 h.2)))
            clear HI e1 e2 hx hy
            go_wp2_with fail
            go_roundw
            case rel => exact ⟨k + 1, f, done, by omega, by omega, by go_num, rfl, by omega, HO, HW, HN⟩
            case measure => simp [intOf]; omega
        · have HN := Lib.hid (HI.out.no (by omega) hx hy (fun h => h13 (e1.2 h.1)))
          clear HI e1 e2 hx hy
          go_wp2_with fail
          go_roundw
          case rel => exact ⟨k + 1, f, done, by omega, by omega, by go_num, rfl, by omega, HO, HW, HN⟩
          case measure => simp [intOf]; omega
    · have HN := Lib.hid (HR.out.symm.trans (HI.out.stop (by omega)))
      go_wp2_with fail
      go_ret2
      refine ⟨?_, HW.out⟩
      rw [HN.out]
      exact rfl
end Go.Proofs.YtoadahommlcjpaaGreatDoor
