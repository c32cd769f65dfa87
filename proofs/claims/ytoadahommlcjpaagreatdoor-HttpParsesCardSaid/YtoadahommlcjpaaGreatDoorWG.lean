/-
  THE WALKS, seventh part: the iterator over a head's lines.
-/
import Derived.Test.YtoadahommlcjpaaGreatDoorWF
import Derived.Test.YtoadahommlcjpaaGreatDoorRange
import Derived.Test.YtoadahommlcjpaaGreatDoorLines
import Derived.Shelf.Abstract
import Derived.Shelf.RegionOpen
import Derived.WalkKit
import Derived.OwnWalkIn
import Derived.TacticsInMore
import Derived.LoopNIn
import Derived.LoopIn
namespace Go.Proofs.YtoadahommlcjpaaGreatDoor
open Go.RowKit
theorem Env.low {w w' : World} (h : Env w) (hk : ∀ j, j < 9 → w'.heap[j]? = w.heap[j]?) : Env w' := by
  have hbig : 9 ≤ w'.heap.size := by
    have h8 := hk 8 (by omega)
    have hlt : 8 < w.heap.size := h.big
    rw [Array.getElem?_eq_getElem hlt] at h8
    rcases Nat.lt_or_ge 8 w'.heap.size with h1 | h1
    · exact h1
    · rw [Array.getElem?_eq_none h1] at h8; cases h8
  have hcell : ∀ j, j < 9 → w'.cell? ⟨j, 0, none⟩ = w.cell? ⟨j, 0, none⟩ := fun j hj => by
    simp only [World.cell?, hk j hj]
  obtain ⟨⟨m, hm⟩, ⟨e1, he1, hk1⟩, ⟨e2, he2, hk2⟩, ht, _⟩ := h
  have hv : Lib.TabIs Tryz.prog w' "internal/strconv.uint64pow10" .u64 Lib.pow10Tab := by
    unfold Lib.TabIs World.var? at ht ⊢
    rw [tab_named] at ht ⊢
    simp only [Option.bind_some] at ht ⊢
    rw [hk 4 (by omega)]
    exact ht
  exact ⟨⟨m, (hcell 0 (by omega)).trans hm⟩, ⟨e1, (hcell 2 (by omega)).trans he1, hk1⟩, ⟨e2, (hcell 3 (by omega)).trans he2, hk2⟩, hv, hbig⟩
def leftOf (sb : Nat) (w : World) : Nat := match w.cell? ⟨sb, 0, none⟩ with
  | some (.string s) => s.size
  | _ => 0
theorem leftOf_eq {sb : Nat} {w : World} {t : Ht.Bs} (h : w.cell? ⟨sb, 0, none⟩ = some (bstr t)) : leftOf sb w = t.length := by
  unfold leftOf; rw [h]; unfold bstr; simp only [Lib.size_eq]
theorem str_blk {w : World} {sb : Nat} {t : Ht.Bs} (h : w.heap[sb]? = some (.cells #[bstr t] 9 (0, 0))) : w.cell? ⟨sb, 0, none⟩ = some (.string ⟨t.toArray⟩) ∧ w.frozen? ⟨sb, 0, none⟩ = false :=
  ⟨by rw [blk_cells h 0]; rfl, blk_free h 0⟩
theorem upto2_len (c d : UInt8) (s : Ht.Bs) : (Ht.upto2 c d s).2.1.length ≤ s.length := by
  by_cases h : s = []
  · subst h; simp [Ht.upto2]
  · exact Nat.le_of_lt (Ht.upto2_lt c d s h)
set_option maxRecDepth 100000 in
set_option maxHeartbeats 4000000 in
theorem lines_seq (s : Ht.Bs) (sb : Nat) (w : World) (henv : Env w) (hlen : s.length < 4294967281) (hsb : 9 ≤ sb) (hc : w.heap[sb]? = some (.cells #[bstr s] 9 (0, 0))) :
    SeqB Tryz.prog 116 #[.pointer (some ⟨sb, 0, none⟩)] bstr 9 sb (Ht.linesOf s) w := by
  intro l J Jx W hW hJ hJx hY h0
  have hcW : W.heap[sb]? = some (.cells #[bstr s] 9 (0, 0)) := by rw [hW.block sb (Array.getElem?_eq_some_iff.1 hc).1]; exact hc
  have HEW := Lib.hid (henv.next hW)
  clear henv hc
  refine callsIn_of_wp Tryz.func116 rfl trivial ?_ rfl
  simp only [Tryz.ntmps116, List.size_toArray, List.length_cons, List.length_nil, Nat.reduceAdd, Nat.reduceSub, Array.replicate_succ, Array.replicate_zero, List.push_toArray, List.append_toArray, List.nil_append, List.cons_append]
  gi_wp2
  gi_loopw [3] (fun _ wr => ∃ (pre : List Ht.Bs) (t : Ht.Bs), Ht.linesOf s = pre ++ Ht.linesOf t ∧ t.length < 4294967281 ∧ wr.heap[sb]? = some (.cells #[bstr t] 9 (0, 0)) ∧ Env wr ∧ J pre wr) (fun _ wr => leftOf sb wr)
  case atStart => exact ⟨[], s, rfl, hlen, hcW, HEW.out, h0⟩
  case round =>
    obtain ⟨pre, t, hls, htl, hcb, hE, hJs⟩ := hrel
    obtain ⟨hc0, hf0⟩ := str_blk hcb
    have hrd := leftOf_eq (sb := sb) (w := wr) (t := t) (by rw [blk_cells hcb 0]; rfl)
    by_cases ht : t = []
    · subst ht
      gi_wp2
      go_end0
      refine ⟨⟨_, rfl⟩, .inl ?_⟩
      rw [hls, Ht.linesOf_nil, List.append_nil]
      exact hJs
    · have hne : List.isEmpty t = false := by simpa using ht
      have HC := Lib.hid (fun sep hs => cut2_any t sep 13 10 wr hE htl hs)
      have hcons := Ht.linesOf_cons ht
      have hlt := Ht.upto2_lt 13 10 t ht
      obtain ⟨x, hx⟩ : ∃ x, Ht.upto2 13 10 t = x := ⟨_, rfl⟩
      rw [hx] at HC hcons hlt
      obtain ⟨x1, x2, x3⟩ := x
      dsimp only at HC hcons hlt
      gi_wp2
      refine ⟨trivial, rfl, (callsIn_wide.2 (HC.out _ (by rfl))).mono ?_⟩
      rintro e w1 ⟨rfl, n, rfl⟩
      have hJ1 := hJ pre wr (wr.drewN n) hJs (But.of (below_drewN (Below.refl _ _) n))
      have hpre : pre ++ [x1] <+: Ht.linesOf s := ⟨Ht.linesOf x2, by rw [hls, hcons]; simp⟩
      obtain ⟨fn, tmps, assign, body, hy, hR⟩ := hY pre x1 (wr.drewN n) hJ1 hpre
      unfold bstr at hy
      gi_wp2
      refine ⟨rfl, hR.mono ?_⟩
      rintro e w2 (⟨rfl, hJ2, hk2⟩ | ⟨rfl, hJx2⟩)
      · have hcb2 : w2.heap[sb]? = some (.cells #[bstr t] 9 (0, 0)) := (hk2 sb (.inr rfl)).trans hcb
        have hE2 : Env w2 := (hE.next (below_drewN (Below.refl _ _) n)).low (fun j hj => hk2 j (.inl hj))
        obtain ⟨hs1, hs2⟩ := but_set (i := 0) (bstr x2) hcb2
        have hS : (#[bstr t].setIfInBounds 0 (bstr x2) : Array Value) = #[bstr x2] := rfl
        rw [hS] at hs2
        have hJ3 := hJ _ _ _ hJ2 hs1
        have hE3 : Env (w2.setCell ⟨sb, 0, none⟩ (bstr x2)) := hE2.low (fun j hj => hs1.block j (by have := hE2.big; omega) (by simp; omega))
        obtain ⟨hc2, hf2⟩ := str_blk hcb2
        have hrd2 := leftOf_eq (sb := sb) (w := w2.setCell ⟨sb, 0, none⟩ (bstr x2)) (t := x2) (by rw [blk_cells hs2 0]; rfl)
        unfold bstr at hs2 hJ3 hE3 hrd2
        have HG := Lib.hid (show ∃ (pre' : List Ht.Bs) (t' : Ht.Bs), Ht.linesOf s = pre' ++ Ht.linesOf t' ∧ t'.length < 4294967281 ∧ (w2.setCell ⟨sb, 0, none⟩ (.string ⟨x2.toArray⟩)).heap[sb]? = some (.cells #[bstr t'] 9 (0, 0)) ∧ Env (w2.setCell ⟨sb, 0, none⟩ (.string ⟨x2.toArray⟩)) ∧ J pre' (w2.setCell ⟨sb, 0, none⟩ (.string ⟨x2.toArray⟩)) from ⟨pre ++ [x1], x2, by rw [hls, hcons]; simp, by omega, hs2, hE3, hJ3⟩)
        have HM := Lib.hid (show leftOf sb (w2.setCell ⟨sb, 0, none⟩ (.string ⟨x2.toArray⟩)) < leftOf sb wr by rw [hrd2, hrd]; exact hlt)
        clear hs1 hs2 hJ3 hE3 hrd2 hrd hk2 hJ2 hcb2 hE2
        gi_wp2
        go_roundw
        case rel => exact HG.out
        case measure => exact HM.out
      · gi_wp2
        (try simp only [Exit.inBlock, Exit.then])
        refine bodyPost_ret (results_none rfl _ _ _) rfl ?_
        exact ⟨⟨_, rfl⟩, .inr ⟨_, hpre, hJx2⟩⟩
set_option maxHeartbeats 1000000 in
theorem lines_any (l : Ht.Bs) (w : World) :
    Calls Tryz.prog 94 #[.string ⟨l.toArray⟩] w fun e w' => e = .returned (.func (.func 116) #[] #[.pointer (some ⟨w.heap.size, 0, none⟩)]) ∧ w' = w.alloc (.cells #[.string ⟨l.toArray⟩] 9) := by
  go_enter Tryz.func94, Tryz.ntmps94
  go_wp2_with fail
  go_ret
  exact ⟨rfl, rfl⟩
end Go.Proofs.YtoadahommlcjpaaGreatDoor
