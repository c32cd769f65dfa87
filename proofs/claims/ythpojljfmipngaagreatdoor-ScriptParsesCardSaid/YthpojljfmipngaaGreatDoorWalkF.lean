/-
  THE WALKS, sixth part: numbers of script's writer. CONDITIONS: Env (what the package-level variables hold); the pointers point at numbers; the builder is the call's own.
-/
import Derived.Test.YthpojljfmipngaaGreatDoorWalkE
import Derived.Lib.SmallJoins
namespace Go.Proofs.YthpojljfmipngaaGreatDoor
open Go.RowKit
/-- What the package-level variables hold that the walks come to. -/
structure Env (w : World) : Prop where
  maxLen : ∃ m, w.cell? ⟨0, 0, none⟩ = some (.int .i64 m)
  errSyntax : ∃ ev, w.cell? ⟨1, 0, none⟩ = some ev ∧ (ev = .nilIface ∨ ∃ te pe, ev = .iface te pe)
  errRange : ∃ ev, w.cell? ⟨2, 0, none⟩ = some ev ∧ (ev = .nilIface ∨ ∃ te pe, ev = .iface te pe)
  tab : Lib.TabIs Tryz.prog w "internal/strconv.uint64pow10" .u64 Lib.pow10Tab
  big : 6 ≤ w.heap.size
theorem tab_named : Tryz.prog.globalNamed "internal/strconv.uint64pow10" = some 3 := by kernel_rfl
theorem Env.below {B : Nat} {w w' : World} (h : Env w) (hb : Below B w w') (hB : 6 ≤ B) : Env w' := by
  obtain ⟨⟨m, hm⟩, ⟨e1, he1, hk1⟩, ⟨e2, he2, hk2⟩, ht, hbig⟩ := h
  have hv : Lib.TabIs Tryz.prog w' "internal/strconv.uint64pow10" .u64 Lib.pow10Tab := by
    unfold Lib.TabIs World.var? at ht ⊢
    rw [tab_named] at ht ⊢
    simp only [Option.bind_some] at ht ⊢
    rw [hb.block 3 (by omega)]
    exact ht
  exact ⟨⟨m, (hb.cell (p := ⟨0, 0, none⟩) (by show 0 < B; omega)).trans hm⟩, ⟨e1, (hb.cell (p := ⟨1, 0, none⟩) (by show 1 < B; omega)).trans he1, hk1⟩, ⟨e2, (hb.cell (p := ⟨2, 0, none⟩) (by show 2 < B; omega)).trans he2, hk2⟩, hv, Nat.le_trans hbig hb.size⟩
theorem Env.next {w w' : World} (h : Env w) (hb : Below w.heap.size w w') : Env w' := h.below hb h.big
theorem IsB.next {B b : Nat} {l : List UInt8} {w w' : World} (h : IsB B b l w) (hb : Below w.heap.size w w') : IsB B b l w' := by
  have key : ∀ p, Lib.BuilderAtF 50 5 B b p (Lib.byteCells l) w → Lib.BuilderAtF 50 5 B b p (Lib.byteCells l) w' := by
    intro p hp
    have hlt := hp.lt
    obtain ⟨h1, v, h2, h3, h4⟩ := hp
    refine ⟨h1, v, (hb.block b hlt).trans h2, ?_, h4⟩
    exact World.ownsRowF.kept (row := none) h3 ⟨hb.os, hb.tape, hb.output, hb.size, fun k hk _ => hb.block k hk⟩ (by cases hv : v.ownBlock <;> simp)
  exact h.elim (fun x => .inl (key _ x)) (fun x => .inr (key _ x))
theorem below_grow (w : World) (k : Nat) (os : Array Obj) : Below w.heap.size w (Go.Sort.grow (w.drewN k) os) := by
  refine ⟨rfl, rfl, rfl, by simp [Go.Sort.grow, World.drewN], fun j hj => ?_⟩
  show (w.heap ++ os)[j]? = w.heap[j]?
  rw [Array.getElem?_append_left hj]
theorem itoa_any (n : Int) (h0 : -9223372036854775808 ≤ n) (h1 : n ≤ 9223372036854775807) (w : World) (henv : Env w) :
    Calls Tryz.prog 30 #[.int .i64 n] w fun e w' => e = .returned (.string ⟨(Lib.itoa n).toArray⟩) ∧ Below w.heap.size w w' :=
  (Tryz.strconv_Itoa n h0 h1 w henv.tab).mono fun _ _ ⟨he, k, os, hw⟩ => ⟨he, by rw [hw]; exact below_grow w k os⟩
end Go.Proofs.YthpojljfmipngaaGreatDoor
