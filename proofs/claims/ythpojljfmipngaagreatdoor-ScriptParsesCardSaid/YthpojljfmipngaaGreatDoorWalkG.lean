/-
  THE WALKS, seventh part: numbers of script's writer. CONDITIONS: Env; the row of pointers and the block that they point into stand beside the builder.
-/
import Derived.Test.YthpojljfmipngaaGreatDoorWalkF
import Derived.Deep.CutBlock
import Derived.Deep.CutRange
namespace Go.Proofs.YthpojljfmipngaaGreatDoor
open Go.RowKit
/-- A row of pointers to the cells os of one block. -/
def PtrRow (w : World) (A : Option Addr) (bx : Nat) (os : List Nat) : Prop := os ≠ [] → ∃ g, A = some ⟨g, 0, none⟩ ∧ w.heap[g]? = some (.cells (ptrsOf bx os).toArray 72 (0, 0))
theorem PtrRow.kept {w w' : World} {A : Option Addr} {bx : Nat} {os : List Nat} {b : Nat} (h : PtrRow w A bx os) (hk : Lib.OthersKept 5 (some b) w w') (hb : ∀ o, w.heap[b]? = some o → ∀ c fz, o ≠ .cells c 72 fz) : PtrRow w' A bx os := fun hne => by
  obtain ⟨g, h1, h2⟩ := h hne
  refine ⟨g, h1, hk g _ h2 (fun e => ?_) (fun c fz e => by injection e with _ e2; cases e2)⟩
  obtain rfl : g = b := Option.some.inj e
  exact hb _ h2 _ _ rfl
theorem IsB.blk {B b : Nat} {l : List UInt8} {w : World} (h : IsB B b l w) : ∃ p v, w.heap[b]? = some (.cells #[p, v] 50 (0, 0)) := by
  rcases h with h | h
  · obtain ⟨_, v, h2, _⟩ := h; exact ⟨_, v, h2⟩
  · obtain ⟨_, v, h2, _⟩ := h; exact ⟨_, v, h2⟩
theorem IsB.le_size {B b : Nat} {l : List UInt8} {w : World} (h : IsB B b l w) : B ≤ w.heap.size := Nat.le_of_lt (Nat.lt_of_le_of_lt h.base h.lt)
theorem IsB.not81 {B b : Nat} {l : List UInt8} {w : World} (h : IsB B b l w) : ∀ o, w.heap[b]? = some o → ∀ c fz, o ≠ .cells c 72 fz := by
  obtain ⟨p, v, hb⟩ := h.blk
  intro o ho c fz e
  rw [hb, e] at ho
  have := Option.some.inj ho
  injection this with _ e2
  cases e2
def numsTo (vs : List Int) (k : Nat) : List UInt8 := Sc.numsText (vs.take k)
theorem numsTo_succ {vs : List Int} {k : Nat} {v : Int} (h : vs[k]? = some v) : numsTo vs (k + 1) = numsTo vs k ++ (32 :: Lib.itoa v) := by
  obtain ⟨hk, rfl⟩ := List.getElem?_eq_some_iff.1 h
  unfold numsTo Sc.numsText
  rw [List.take_succ_eq_append_getElem hk, List.flatMap_append]
  simp
theorem numsTo_le (vs : List Int) (k : Nat) : (numsTo vs k).length ≤ (Sc.numsText vs).length := by
  have e : Sc.numsText vs = numsTo vs k ++ Sc.numsText (vs.drop k) := by
    unfold numsTo Sc.numsText
    rw [← List.flatMap_append, List.take_append_drop]
  rw [e, List.length_append]; omega
def inI (v : Int) : Prop := -9223372036854775808 ≤ v ∧ v ≤ 9223372036854775807
set_option maxRecDepth 100000 in
set_option maxHeartbeats 8000000 in
theorem wnumbers_any (B b : Nat) (l : List UInt8) (A : Option Addr) (bx : Nat) (os : List Nat) (vs : List Int) (cs : Array Value) (T : TypeId) (c : Nat) (w : World) (henv : Env w) (hB6 : 6 ≤ B) (h : IsB B b l w) (hlen : (l ++ Sc.numsText vs).length ≤ 1099511627776)
    (hos : os.length ≤ 1048576) (hov : os.length = vs.length) (hrow : PtrRow w A bx os) (hbox : w.heap[bx]? = some (.cells cs T (0, 0))) (hT : T ≠ 5) (hbb : bx ≠ b) (hv : ∀ (i o : Nat) v, os[i]? = some o → vs[i]? = some v → cs[o]? = some (.int .i64 v) ∧ inI v) :
    Calls Tryz.prog 14 #[.pointer (some ⟨b, 0, none⟩), .slice A os.length c] w fun e w' => e = .returned (.tuple #[]) ∧ IsB B b (l ++ Sc.numsText vs) w' ∧ Below B w w' ∧ Lib.OthersKept 5 (some b) w w' := by
  have h81 := h.not81
  have HOV := Lib.hid hov
  clear hov
  go_enter Tryz.func14, Tryz.ntmps14
  go_wp2_with fail
  go_loopw [8] (fun i wr => ∃ k : Nat, k ≤ os.length ∧ i = .int .i64 k ∧ IsB B b (l ++ numsTo vs k) wr ∧ Below B w wr ∧ Lib.OthersKept 5 (some b) w wr) (fun i _ => os.length - (intOf i).toNat)
  case atStart => exact ⟨0, Nat.zero_le _, rfl, by simpa [numsTo, Sc.numsText] using h, Below.refl _ _, Lib.OthersKept.refl _ _ _⟩
  case round =>
    obtain ⟨k, hk, rfl, hI, hb, hko⟩ := hrel
    by_cases hlt : k < os.length
    · obtain ⟨o, ho⟩ : ∃ o, os[k]? = some o := ⟨_, List.getElem?_eq_getElem hlt⟩
      obtain ⟨v, hvk⟩ : ∃ v, vs[k]? = some v := ⟨_, List.getElem?_eq_getElem (by have := HOV.out; omega)⟩
      obtain ⟨hcv, hin⟩ := hv k _ _ ho hvk
      have hrow' := hrow.kept hko h81
      have hbox' := hko bx _ hbox (fun e => hbb (Option.some.inj e)) (fun c fz e => hT (by injection e))
      obtain ⟨g, rfl, hg⟩ := hrow' (by intro e; subst e; simp at ho)
      have c1 : wr.cell? ⟨g, k, none⟩ = some (.pointer (some ⟨bx, o, none⟩)) := by
        rw [blk_cells hg k, List.getElem?_toArray]; unfold ptrsOf; rw [List.getElem?_map, ho]; rfl
      have c2 : wr.cell? ⟨bx, o, none⟩ = some (.int .i64 v) := (blk_cells hbox' _).trans hcv
      have HN := Lib.hid (numsTo_succ hvk)
      have hle := numsTo_le vs (k + 1)
      rw [numsTo_succ hvk] at hle
      have he := henv.below hb hB6
      have hzg : g < wr.heap.size := (Array.getElem?_eq_some_iff.1 hg).1
      generalize hnk : numsTo vs k = nk at hI HN hle
      have HNK := Lib.hid hnk
      have HB := Lib.hid hb
      have HKO := Lib.hid hko
      have HI := Lib.hid hI
      have hlw : (l ++ nk).length + (32 :: Lib.itoa v).length ≤ 140737488355328 := by
        simp at hle hlen ⊢; omega
      obtain ⟨hin1, hin2⟩ := hin
      have q1 : (Lib.itoa v).length + 1 ≤ 9223372036854775807 := by simp at hlw; omega
      have q2 : 1 + (Lib.itoa v).length ≤ 9223372036854775807 := by omega
      have q3 : (1 : Int) + ((Lib.itoa v).length : Int) ≤ 9223372036854775807 := by omega
      have q4 : (⟨#[32]⟩ ++ ⟨(Lib.itoa v).toArray⟩ : ByteArray).size ≤ 9223372036854775807 := by
        rw [ByteArray.size_append]; exact q2
      clear ho hvk hcv hrow' hbox' hg hv hrow hbox hnk hb hko hI hle hlen
      go_upto_region 3 with (fail)
      go_region_with (first
        | (go_at_call 30; refine (itoa_any v hin1 hin2 _ (he.below (below_drewN (Below.refl 6 _) 1) (Nat.le_refl _))).mono ?_; rintro e w2 ⟨rfl, hb2⟩)
        | (go_at_call 13; refine (writeString_at B b (l ++ nk) (32 :: Lib.itoa v) _ rfl _ (IsB.next (IsB.drew HI.out) hb2) hlw).mono ?_; rintro e w3 ⟨rfl, hI3, hb3, hk3⟩))
      go_wp2_with fail
      go_roundw
      case rel =>
        refine ⟨k + 1, by omega, by go_num, by rw [HN.out, ← List.append_assoc]; exact hI3, ?_, ?_⟩
        · have hd : Below B wr wr.drew := below_drewN (Below.refl _ _) 1
          have hle : B ≤ wr.drew.heap.size := HI.out.le_size
          exact HB.out.trans (hd.trans ((hb2.mono hle).trans hb3))
        · have hd : Lib.OthersKept 5 (some b) wr wr.drew := (Lib.OthersKept.refl _ _ _).drew
          have h2 : Lib.OthersKept 5 (some b) wr.drew w2 := fun j x hj _ _ => (hb2.block j (Array.getElem?_eq_some_iff.1 hj).1).trans hj
          exact HKO.out.trans (hd.trans (h2.trans hk3))
      case measure => simp [intOf]; omega
    · have hfin : numsTo vs k = Sc.numsText vs := by unfold numsTo; rw [List.take_of_length_le (by have := HOV.out; omega)]
      rw [hfin] at hI
      clear hrow hv hbox
      go_wp2_with fail
      go_end0
      exact ⟨rfl, hI, hb, hko⟩
end Go.Proofs.YthpojljfmipngaaGreatDoor
