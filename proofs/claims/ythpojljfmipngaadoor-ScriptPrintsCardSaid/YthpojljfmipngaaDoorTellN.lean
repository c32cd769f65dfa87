/-
  THE WALKS: numbers of script's writer where each number lies in a block of its own. CONDITIONS: Env; the blocks stand beside the builder.
-/
import Derived.Test.YthpojljfmipngaaDoorWalkP
namespace Go.Proofs.YthpojljfmipngaaDoor
open Go.RowKit
def PtrRowP (w : World) (A : Option Addr) (ps : List Nat) : Prop := ps ≠ [] → ∃ g, A = some ⟨g, 0, none⟩ ∧ w.heap[g]? = some (.cells (ps.map fun p => Value.pointer (some ⟨p, 0, none⟩)).toArray 81 (0, 0))
theorem PtrRowP.kept {w w' : World} {A : Option Addr} {ps : List Nat} {b : Nat} (h : PtrRowP w A ps) (hk : Lib.OthersKept 5 (some b) w w') (hb : ∀ o, w.heap[b]? = some o → ∀ c fz, o ≠ .cells c 81 fz) : PtrRowP w' A ps := fun hne => by
  obtain ⟨g, h1, h2⟩ := h hne
  refine ⟨g, h1, hk g _ h2 (fun e => ?_) (fun c fz e => by injection e with _ e2; cases e2)⟩
  obtain rfl : g = b := Option.some.inj e
  exact hb _ h2 _ _ rfl
theorem rowP_new (w : World) (C : Array Value) (ps : List Nat) (h : C = (ps.map fun p => Value.pointer (some ⟨p, 0, none⟩)).toArray) : PtrRowP (w.alloc (.cells C 81)) (some ⟨w.heap.size, 0, none⟩) ps := fun _ => ⟨w.heap.size, rfl, by rw [← h]; exact heap_alloc_new w _⟩
set_option maxRecDepth 100000 in
set_option maxHeartbeats 8000000 in
theorem wnumbersP_any (B b : Nat) (l : List UInt8) (A : Option Addr) (ps : List Nat) (vs : List Int) (c : Nat) (w : World) (henv : Env w) (hB6 : 6 ≤ B) (h : IsB B b l w) (hlen : (l ++ Sc.numsText vs).length ≤ 1099511627776)
    (hos : ps.length ≤ 1048576) (hov : ps.length = vs.length) (hrow : PtrRowP w A ps) (hv : ∀ (i p : Nat) v, ps[i]? = some p → vs[i]? = some v → w.heap[p]? = some (.cells #[.int .i64 v] 3 (0, 0)) ∧ p ≠ b ∧ inI v) :
    Calls Tryd.prog 29 #[.pointer (some ⟨b, 0, none⟩), .slice A ps.length c] w fun e w' => e = .returned (.tuple #[]) ∧ IsB B b (l ++ Sc.numsText vs) w' ∧ Below B w w' ∧ Lib.OthersKept 5 (some b) w w' := by
  have h81 := h.not81
  have HOV := Lib.hid hov
  clear hov
  go_enter Tryd.func29, Tryd.ntmps29
  go_wp2_with fail
  go_loopw [8] (fun i wr => ∃ k : Nat, k ≤ ps.length ∧ i = .int .i64 k ∧ IsB B b (l ++ numsTo vs k) wr ∧ Below B w wr ∧ Lib.OthersKept 5 (some b) w wr) (fun i _ => ps.length - (intOf i).toNat)
  case atStart => exact ⟨0, Nat.zero_le _, rfl, by simpa [numsTo, Sc.numsText] using h, Below.refl _ _, Lib.OthersKept.refl _ _ _⟩
  case round =>
    obtain ⟨k, hk, rfl, hI, hb, hko⟩ := hrel
    by_cases hlt : k < ps.length
    · obtain ⟨o, ho⟩ : ∃ o, ps[k]? = some o := ⟨_, List.getElem?_eq_getElem hlt⟩
      obtain ⟨v, hvk⟩ : ∃ v, vs[k]? = some v := ⟨_, List.getElem?_eq_getElem (by have := HOV.out; omega)⟩
      obtain ⟨hbox, hbb, hin⟩ := hv k _ _ ho hvk
      have hrow' := hrow.kept hko h81
      have hbox' := hko o _ hbox (fun e => hbb (Option.some.inj e)) (fun c fz e => by injection e with _ e2; cases e2)
      obtain ⟨g, rfl, hg⟩ := hrow' (by intro e; subst e; simp at ho)
      have c1 : wr.cell? ⟨g, k, none⟩ = some (.pointer (some ⟨o, 0, none⟩)) := by
        rw [blk_cells hg k, List.getElem?_toArray]; rw [List.getElem?_map, ho]; rfl
      have c2 : wr.cell? ⟨o, 0, none⟩ = some (.int .i64 v) := (blk_cells hbox' _).trans rfl
      have HN := Lib.hid (numsTo_succ hvk)
      have hle := numsTo_le vs (k + 1)
      rw [numsTo_succ hvk] at hle
      have he := henv.below hb hB6
      have hzg : g < wr.heap.size := (Array.getElem?_eq_some_iff.1 hg).1
      generalize hnk : numsTo vs k = nk at hI HN hle
      have HNK := Lib.hid hnk
      have HB := Lib.hid hb
      have HKO := Lib.hid hko
      have HI := Lib.hid hI
      have hlw : (l ++ nk).length + (32 :: Lib.itoa v).length ≤ 140737488355328 := by
        simp at hle hlen ⊢; omega
      obtain ⟨hin1, hin2⟩ := hin
      have q1 : (Lib.itoa v).length + 1 ≤ 9223372036854775807 := by simp at hlw; omega
      have q2 : 1 + (Lib.itoa v).length ≤ 9223372036854775807 := by omega
      have q3 : (1 : Int) + ((Lib.itoa v).length : Int) ≤ 9223372036854775807 := by omega
      have q4 : (⟨#[32]⟩ ++ ⟨(Lib.itoa v).toArray⟩ : ByteArray).size ≤ 9223372036854775807 := by
        rw [ByteArray.size_append]; exact q2
      clear ho hvk hrow' hbox' hg hv hrow hbox hnk hb hko hI hle hlen
      go_upto_region 3 with (fail)
      go_region_with (first
        | (go_at_call 54; refine (itoa_any v hin1 hin2 _ (he.below (below_drewN (Below.refl 6 _) 1) (Nat.le_refl _))).mono ?_; rintro e w2 ⟨rfl, hb2⟩)
        | (go_at_call 28; refine (writeString_at B b (l ++ nk) (32 :: Lib.itoa v) _ rfl _ (IsB.next (IsB.drew HI.out) hb2) hlw).mono ?_; rintro e w3 ⟨rfl, hI3, hb3, hk3⟩))
      go_wp2_with fail
      go_roundw
      case rel =>
        refine ⟨k + 1, by omega, by go_num, by rw [HN.out, ← List.append_assoc]; exact hI3, ?_, ?_⟩
        · have hd : Below B wr wr.drew := below_drewN (Below.refl _ _) 1
          have hle : B ≤ wr.drew.heap.size := HI.out.le_size
          exact HB.out.trans (hd.trans ((hb2.mono hle).trans hb3))
        · have hd : Lib.OthersKept 5 (some b) wr wr.drew := (Lib.OthersKept.refl _ _ _).drew
          have h2 : Lib.OthersKept 5 (some b) wr.drew w2 := fun j x hj _ _ => (hb2.block j (Array.getElem?_eq_some_iff.1 hj).1).trans hj
          exact HKO.out.trans (hd.trans (h2.trans hk3))
      case measure => simp [intOf]; omega
    · have hfin : numsTo vs k = Sc.numsText vs := by unfold numsTo; rw [List.take_of_length_le (by have := HOV.out; omega)]
      rw [hfin] at hI
      clear hrow hv
      go_wp2_with fail
      go_end0
      exact ⟨rfl, hI, hb, hko⟩
end Go.Proofs.YthpojljfmipngaaDoor
