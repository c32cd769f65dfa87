/-
  THE WALK of parses and of the law ScriptParses. CONDITION: Env; the texts' lengths are lengths.
-/
import Derived.Test.YthpojljfmipngaaGreatDoorPH
import Derived.Test.YthpojljfmipngaaGreatDoorRefB
import Derived.Test.YthpojljfmipngaaGreatDoorWalkT
import Derived.StillTailTactics
namespace Go.Proofs.YthpojljfmipngaaGreatDoor
open Go.RowKit
namespace Rf
theorem parseRGo_few (rest : Sc.Bs) (at_ n : Nat) (s : Sc.Scr) (hs : s.events.length ≤ 300) : (parseRGo rest at_ n s).1.events.length ≤ 300 := by
  induction rest, at_, n, s using parseRGo.induct with
  | case1 at_ n s h => rw [parseRGo, if_pos rfl, if_pos h]; exact Nat.zero_le _
  | case2 at_ n s h => rw [parseRGo, if_pos rfl, if_neg h]; exact hs
  | case3 rest at_ n s h0 h1 h2 ih => rw [parseRGo, if_neg h0, if_pos h1, if_pos h2]; exact ih (lineR_few s _ n hs h2.2)
  | case4 rest at_ n s h0 h1 h2 => rw [parseRGo, if_neg h0, if_pos h1, if_neg h2]; exact Nat.zero_le _
  | case5 rest at_ n s h0 h1 => rw [parseRGo, if_neg h0, if_neg h1]; exact Nat.zero_le _
theorem parseR_few (l : Sc.Bs) : (parseR l).1.events.length ≤ 300 := by
  unfold parseR
  split
  · exact Nat.zero_le _
  · exact parseRGo_few _ _ _ _ (Nat.zero_le _)
end Rf
/-! ### rows that may be written: what lies there is of the kind alone -/
def isU (v : Value) : Prop := ∃ n : Int, v = .int .u8 n
def isB (v : Value) : Prop := ∃ b : Bool, v = .bool b
def Loose (B : Nat) (w : World) (t : TypeId) (good : Value → Prop) (A : Option Addr) (n : Nat) : Prop :=
  n ≠ 0 → ∃ g cs fz, A = some ⟨g, 0, none⟩ ∧ w.heap[g]? = some (.cells cs t fz) ∧ n ≤ cs.size ∧ (∀ j v, j < n → cs[j]? = some v → good v) ∧ B ≤ g ∧ (fz = (0, 0) ∨ cs.size ≤ fz.1)
theorem Loose.of_row {B : Nat} {w : World} {t : TypeId} {good : Value → Prop} {A : Option Addr} {vs : List Value} (h : RowT B w t A vs) (hv : ∀ v ∈ vs, good v) {n : Nat} (hn : vs.length = n) : Loose B w t good A n := fun h0 => by
  have hne : vs ≠ [] := by intro e; rw [e] at hn; exact h0 hn.symm
  obtain ⟨g, cs, fz, h1, h2, h3, h4, h5⟩ := h hne
  have hsz : n ≤ cs.size := by
    have hl : vs[n - 1]? = some (vs[n - 1]'(by omega)) := List.getElem?_eq_getElem (by omega)
    have := (Array.getElem?_eq_some_iff.1 (h3 _ _ hl)).1
    omega
  refine ⟨g, cs, fz, h1, h2, hsz, fun j v hj hc => ?_, h4, h5⟩
  have hl : vs[j]? = some (vs[j]'(by omega)) := List.getElem?_eq_getElem (by omega)
  have := h3 _ _ hl
  rw [this] at hc
  injection hc with hc
  rw [← hc]
  exact hv _ (List.getElem_mem _)
theorem Loose.next {B : Nat} {w w' : World} {t : TypeId} {good : Value → Prop} {A : Option Addr} {n : Nat} (h : Loose B w t good A n) (hb : Below w.heap.size w w') : Loose B w' t good A n := fun h0 => by
  obtain ⟨g, cs, fz, h1, h2, h3⟩ := h h0
  exact ⟨g, cs, fz, h1, blk_next hb h2, h3⟩
theorem Loose.store {B : Nat} {w : World} {t : TypeId} {good : Value → Prop} {A : Option Addr} {n : Nat} (h : Loose B w t good A n) {g i : Nat} {cs : Array Value} {t' : TypeId} {fz : Nat × Nat} (hg : w.heap[g]? = some (.cells cs t' fz)) (v : Value) (hv : t' = t → good v) : Loose B (w.setCell ⟨g, i, none⟩ v) t good A n := fun h0 => by
  obtain ⟨g', cs', fz', h1, h2, h3, h4, h5, h6⟩ := h h0
  have hst := but_set (i := i) v hg
  by_cases e : g' = g
  · subst e
    rw [hg] at h2
    injection h2 with h2
    injection h2 with e1 e2 e3
    subst e1
    subst e2
    subst e3
    refine ⟨g', _, fz, h1, hst.2, by simpa using h3, fun j u hj hu => ?_, h5, by simpa using h6⟩
    by_cases hij : i = j
    · subst hij
      rw [Array.getElem?_setIfInBounds_self_of_lt (by omega)] at hu
      injection hu with hu
      rw [← hu]; exact hv rfl
    · rw [Array.getElem?_setIfInBounds_ne hij] at hu
      exact h4 j u hj hu
  · exact ⟨g', cs', fz', h1, hst.1.blk h2 (by simpa using e), h3, h4, h5, h6⟩
/-- The cell that is written. -/
theorem Loose.at_ {B : Nat} {w : World} {t : TypeId} {good : Value → Prop} {A : Option Addr} {n : Nat} (h : Loose B w t good A n) {j : Nat} (hj : j < n) :
    ∃ g v cs fz, A = some ⟨g, 0, none⟩ ∧ w.cell? ⟨g, j, none⟩ = some v ∧ good v ∧ w.frozen? ⟨g, j, none⟩ = false ∧ w.heap[g]? = some (.cells cs t fz) ∧ B ≤ g ∧ g < w.heap.size := by
  obtain ⟨g, cs, fz, h1, h2, h3, h4, h5, h6⟩ := h (by omega)
  have hjs : j < cs.size := by omega
  have hc : cs[j]? = some cs[j] := Array.getElem?_eq_getElem hjs
  refine ⟨g, cs[j], cs, fz, h1, (cell_of_row w g j cs t fz h2).trans hc, h4 j _ hj hc, ?_, h2, h5, (Array.getElem?_eq_some_iff.1 h2).1⟩
  simp only [World.frozen?, h2]
  rcases h6 with rfl | h6
  · simp
  · simp; omega
structure EvL (B : Nat) (w : World) (x : Sc.Ev) (K A : Option Addr) : Prop where
  keep : Loose B w 4 isB K x.keep.length
  bytes : Loose B w 5 isU A x.bytes.length
  kl : x.keep.length ≤ 1073741824
  bl : x.bytes.length ≤ 1073741824
theorem EvL.next {B : Nat} {w w' : World} {x : Sc.Ev} {K A : Option Addr} (h : EvL B w x K A) (hb : Below w.heap.size w w') : EvL B w' x K A := ⟨h.keep.next hb, h.bytes.next hb, h.kl, h.bl⟩
theorem EvL.of {B : Nat} {w : World} {x : Sc.Ev} {K A : Option Addr} (h : EvT B w x K A) : EvL B w x K A := by
  refine ⟨Loose.of_row h.keep ?_ (by unfold boolCells; simp), Loose.of_row h.bytes ?_ (byteCells_len _), h.kl, h.bl⟩
  · intro v hv; unfold boolCells at hv; rw [List.mem_map] at hv; obtain ⟨b, _, rfl⟩ := hv; exact ⟨b, rfl⟩
  · intro v hv; unfold Lib.byteCells at hv; rw [List.mem_map] at hv; obtain ⟨b, _, rfl⟩ := hv; exact ⟨_, rfl⟩
theorem EvL.store {B : Nat} {w : World} {x : Sc.Ev} {K A : Option Addr} (h : EvL B w x K A) {g i : Nat} {cs : Array Value} {t' : TypeId} {fz : Nat × Nat} (hg : w.heap[g]? = some (.cells cs t' fz)) (v : Value) (h4 : t' = 4 → isB v) (h5 : t' = 5 → isU v) : EvL B (w.setCell ⟨g, i, none⟩ v) x K A :=
  ⟨h.keep.store hg v h4, h.bytes.store hg v h5, h.kl, h.bl⟩
def EvsL (B : Nat) (w : World) (A : Option Addr) (l : List Sc.Ev) : Prop :=
  l ≠ [] → ∃ b cs, A = some ⟨b, 0, none⟩ ∧ w.heap[b]? = some (.cells cs 39 (0, 0)) ∧ ∀ i x, l[i]? = some x → ∃ K B' kc bc, EvCells w b (0 + i * 7) x K B' kc bc ∧ EvL B w x K B'
theorem EvsL.of {B : Nat} {w : World} {A : Option Addr} {l : List Sc.Ev} (h : EvsFree B w A l) : EvsL B w A l := fun hne => by
  obtain ⟨b, cs, h1, h2, _, h4⟩ := h hne
  refine ⟨b, cs, h1, h2, fun i x hi => ?_⟩
  obtain ⟨K, B', kc, bc, h5, h6⟩ := h4 i x hi
  exact ⟨K, B', kc, bc, h5, EvL.of h6⟩
theorem EvsL.next {B : Nat} {w w' : World} {A : Option Addr} {l : List Sc.Ev} (h : EvsL B w A l) (hb : Below w.heap.size w w') : EvsL B w' A l := fun hne => by
  obtain ⟨b, cs, h1, h2, h4⟩ := h hne
  refine ⟨b, cs, h1, blk_next hb h2, fun i x hi => ?_⟩
  obtain ⟨K, B', kc, bc, h5, h6⟩ := h4 i x hi
  exact ⟨K, B', kc, bc, h5.same (hb.block b (Array.getElem?_eq_some_iff.1 h2).1), h6.next hb⟩
theorem EvsL.store {B : Nat} {w : World} {A : Option Addr} {l : List Sc.Ev} (h : EvsL B w A l) {g i : Nat} {cs : Array Value} {t' : TypeId} {fz : Nat × Nat} (hg : w.heap[g]? = some (.cells cs t' fz)) (ht : t' ≠ 39) (v : Value) (h4 : t' = 4 → isB v) (h5 : t' = 5 → isU v) : EvsL B (w.setCell ⟨g, i, none⟩ v) A l := fun hne => by
  obtain ⟨b, cs', h1, h2, h3⟩ := h hne
  have hst := but_set (i := i) v hg
  have hbg : b ≠ g := by
    intro e; subst e
    rw [hg] at h2
    injection h2 with h2
    injection h2 with _ e
    exact ht e
  have hb := hst.1.blk h2 (by simpa using hbg)
  refine ⟨b, cs', h1, hb, fun k x hk => ?_⟩
  obtain ⟨K, B', kc, bc, e5, e6⟩ := h3 k x hk
  exact ⟨K, B', kc, bc, e5.same (hb.trans h2.symm), e6.store hg v h4 h5⟩
theorem EvsL.at_ {B : Nat} {w : World} {A : Option Addr} {l : List Sc.Ev} (h : EvsL B w A l) {k : Nat} {x : Sc.Ev} (hx : l[k]? = some x) :
    ∃ b K B' kc bc, A = some ⟨b, 0, none⟩ ∧ b < w.heap.size ∧ EvCells w b (0 + k * 7) x K B' kc bc ∧ EvL B w x K B' := by
  obtain ⟨b, cs, h1, h2, h3⟩ := h (by intro e; subst e; simp at hx)
  obtain ⟨K, B', kc, bc, c1, c2⟩ := h3 k x hx
  exact ⟨b, K, B', kc, bc, h1, (Array.getElem?_eq_some_iff.1 h2).1, c1, c2⟩
/-- What stands while the rows of what was read are turned. -/
structure Turn (B xb : Nat) (w0 w : World) (A : Option Addr) (l : List Sc.Ev) (x : Sc.Ev) (K A' : Option Addr) (kc bc : Nat) : Prop where
  box : EvBox w xb x K A' kc bc
  evs : EvsL B w A l
  ev : EvL B w x K A'
  below : Below B w0 w
theorem Turn.store {B xb : Nat} {w0 w : World} {A : Option Addr} {l : List Sc.Ev} {x : Sc.Ev} {K A' : Option Addr} {kc bc : Nat} (h : Turn B xb w0 w A l x K A' kc bc) {g i : Nat} {cs : Array Value} {t' : TypeId} {fz : Nat × Nat} (hg : w.heap[g]? = some (.cells cs t' fz)) (ht : t' ≠ 39) (hB : B ≤ g) (v : Value) (h4 : t' = 4 → isB v) (h5 : t' = 5 → isU v) : Turn B xb w0 (w.setCell ⟨g, i, none⟩ v) A l x K A' kc bc := by
  have hst := but_set (i := i) v hg
  refine ⟨hst.1.blk h.box ?_, h.evs.store hg ht v h4 h5, h.ev.store hg v h4 h5, h.below.trans (hst.1.to (Nat.le_trans hB (Nat.le_of_lt (Array.getElem?_eq_some_iff.1 hg).1)) (by intro j hj; simp at hj; omega))⟩
  simp
  intro e
  subst e
  have hb := h.box
  unfold EvBox at hb
  rw [hg] at hb
  injection hb with hb
  injection hb with _ e
  exact ht e
theorem Turn.drew {B xb : Nat} {w0 w : World} {A : Option Addr} {l : List Sc.Ev} {x : Sc.Ev} {K A' : Option Addr} {kc bc : Nat} (h : Turn B xb w0 w A l x K A' kc bc) (hB : B ≤ w.heap.size) : Turn B xb w0 w.drew A l x K A' kc bc := by
  have hd : Below w.heap.size w w.drew := below_drewN (Below.refl _ _) 1
  exact ⟨h.box.next hd, h.evs.next hd, h.ev.next hd, h.below.trans (hd.mono hB)⟩
set_option maxRecDepth 100000 in
set_option maxHeartbeats 8000000 in
theorem parses_any (st : ByteArray) (w : World) (henv : Env w) :
    Calls Tryz.prog 5 #[.string st] w fun e w' => e = .returned (.bool true) ∧ Below w.heap.size w w' := by
  obtain ⟨m, hm⟩ : ∃ m, m = min st.size 262145 := ⟨_, rfl⟩
  have hmin2 : min (st.size : Int) 262145 = (m : Int) := by omega
  have hm2 : m ≤ st.size := by omega
  have hm3 : m ≤ 262145 := by omega
  obtain ⟨l, hl⟩ : ∃ l, st.data.toList.take m = l := ⟨_, rfl⟩
  have hts : st.extract 0 m = ⟨l.toArray⟩ := by rw [Lib.extract_eq, ← hl]; simp
  have hll : l.length ≤ 262145 := by rw [← hl, List.length_take]; omega
  have hcall := fun W he => parse_any l W he (by omega)
  simp only [Rf.parse_same] at hcall
  have hcallR := fun W => refParse_any l W (by omega)
  have hfew := Rf.parseR_few l
  generalize Rf.parseR l = P at hcall hcallR hfew
  obtain ⟨S, pl, er⟩ := P
  simp only at hcall hcallR hfew
  have HCALL := Lib.hid hcall
  have HCALLR := Lib.hid hcallR
  clear hl hm hcall hcallR hll
  go_enter Tryz.func5, Tryz.ntmps5
  go_wp2_with fail
  refine (HCALLR.out _).mono ?_
  rintro e w1 ⟨A, c, rfl, hE, hb1⟩
  clear hmin2 hm2 hm3 hts HCALLR
  unfold scrV at HCALL ⊢
  go_upto_region 3 with fail
  have hbx2 := heap_alloc_new w1 (.cells #[.int .i64 S.servers, .int .i64 S.area, .slice A S.events.length c] 30)
  have hb2 := below_box w1 (.cells #[.int .i64 S.servers, .int .i64 S.area, .slice A S.events.length c] 30)
  have HE2 := Lib.hid (hE.at_.next hb2)
  have HB2 := Lib.hid (hb1.trans (hb2.mono hb1.size))
  have HX2 := Lib.hid hbx2
  have HWB : Hid (w1.heap.size < (w1.alloc (.cells #[.int .i64 S.servers, .int .i64 S.area, .slice A S.events.length c] 30)).heap.size) := Lib.hid (by simp)
  clear hE hb1 hbx2 hb2
  generalize w1.alloc (.cells #[.int .i64 S.servers, .int .i64 S.area, .slice A S.events.length c] 30) = w2 at HE2 HB2 HX2 HWB ⊢
  generalize w1.heap.size = wb at HX2 HWB ⊢
  have henv2 := Lib.hid (henv.next HB2.out)
  clear henv
  go_wp2_with fail
  go_loopw [6] (fun i wr => ∃ r : Nat, r ≤ 2 ∧ i = .int .i64 r ∧ Below w2.heap.size w2 wr) (fun i _ => 2 - (intOf i).toNat)
  case atStart => exact ⟨0, by omega, rfl, Below.refl _ _⟩
  case round =>
    obtain ⟨r, hr, rfl, hbr⟩ := hrel
    have HBR := Lib.hid hbr
    clear hbr
    by_cases hr2 : r < 2
    · have HER := Lib.hid (henv2.out.below HBR.out henv2.out.big)
      go_wp2_with fail
      refine (HCALL.out _ HER.out).mono ?_
      rintro e w4 ⟨A4, c4, rfl, hE4, hb4⟩
      go_upto_region 7 with fail
      have hbx5 := heap_alloc_new w4 (.cells #[.int .i64 S.servers, .int .i64 S.area, .slice A4 S.events.length c4] 30)
      have hb5 := below_box w4 (.cells #[.int .i64 S.servers, .int .i64 S.area, .slice A4 S.events.length c4] 30)
      have HE5 := Lib.hid (hE4.at_.next hb5)
      have HL5 := Lib.hid ((EvsL.of (hE4.mono HBR.out.size)).next hb5)
      have HB5 : Hid (Below w2.heap.size w2 (w4.alloc (.cells #[.int .i64 S.servers, .int .i64 S.area, .slice A4 S.events.length c4] 30))) := Lib.hid (HBR.out.trans ((hb4.mono HBR.out.size).trans (hb5.mono (Nat.le_trans HBR.out.size hb4.size))))
      have HX5 := Lib.hid hbx5
      have HNE : Hid (w4.heap.size < (w4.alloc (.cells #[.int .i64 S.servers, .int .i64 S.area, .slice A4 S.events.length c4] 30)).heap.size) := Lib.hid (by simp)
      clear hE4 hb4 hbx5 hb5 HBR HER
      generalize w4.alloc (.cells #[.int .i64 S.servers, .int .i64 S.area, .slice A4 S.events.length c4] 30) = w5 at HE5 HL5 HB5 HX5 HNE ⊢
      generalize w4.heap.size = sb at HX5 HNE ⊢
      have HXW := Lib.hid ((HB5.out.block wb HWB.out).trans HX2.out)
      have HEW := Lib.hid (HE2.out.next HB5.out)
      have hsame := refSame_any S S A4 A c4 c w5 (by omega) HE5.out HEW.out
      rw [decide_eq_true rfl] at hsame
      unfold scrV at hsame
      have HSAME := Lib.hid hsame
      have s0 := (blk_cells HX5.out 0).trans rfl
      have s1 := (blk_cells HX5.out 1).trans rfl
      have s2 := (blk_cells HX5.out 2).trans rfl
      have t0 := (blk_cells HXW.out 0).trans rfl
      have t1 := (blk_cells HXW.out 1).trans rfl
      have t2 := (blk_cells HXW.out 2).trans rfl
      clear hsame
      go_wp2_with fail
      refine HSAME.out.mono ?_
      rintro e w6 ⟨rfl, hb6⟩
      have HL6 := Lib.hid (HL5.out.next hb6)
      have HX6 := Lib.hid (blk_next hb6 HX5.out)
      have HB6 := Lib.hid (HB5.out.trans (hb6.mono HB5.out.size))
      clear hb6 s0 s1 s2 t0 t1 t2 HSAME HEW HXW HX5 HB5 HL5 HE5 HNE
      have s2 := (blk_cells HX6.out 2).trans rfl
      go_wp2_with fail
      clear s2
      go_loopw [52] (fun i wr => ∃ k : Nat, k ≤ S.events.length ∧ i = .int .i64 k ∧ EvsL w2.heap.size wr A4 S.events ∧ Below w2.heap.size w2 wr) (fun i _ => S.events.length - (intOf i).toNat)
      case atStart => exact ⟨0, Nat.zero_le _, rfl, HL6.out, HB6.out⟩
      case round =>
        obtain ⟨k, hk, rfl, hL, hB⟩ := hrel
        have HL := Lib.hid hL
        have HB := Lib.hid hB
        clear hL hB HL6 HB6 HX6
        by_cases hlt : k < S.events.length
        · have hx : S.events[k]? = some S.events[k] := List.getElem?_eq_getElem hlt
          generalize S.events[k] = x at hx
          obtain ⟨b, K, A', kc, bc, rfl, hbl, ⟨c0, c1, c2, c3, c4', c5, c6⟩, hev⟩ := HL.out.at_ hx
          have HEV := Lib.hid hev
          clear hev hx
          simp only [Nat.zero_add] at c0 c1 c2 c3 c4' c5 c6
          go_upto_region 12 with fail
          clear c0 c1 c2 c3 c4' c5 c6
          have hb7 := below_box wr (.cells #[.int .i64 x.kind, .int .i64 x.node, .int .i64 x.to, .int .i64 x.n, .int .i64 x.bit, .slice K x.keep.length kc, .slice A' x.bytes.length bc] 39)
          have HT : Hid (Turn w2.heap.size wr.heap.size w2 (wr.alloc (.cells #[.int .i64 x.kind, .int .i64 x.node, .int .i64 x.to, .int .i64 x.n, .int .i64 x.bit, .slice K x.keep.length kc, .slice A' x.bytes.length bc] 39)) (some ⟨b, 0, none⟩) S.events x K A' kc bc) := Lib.hid
            ⟨heap_alloc_new wr _, HL.out.next hb7, HEV.out.next hb7, HB.out.trans (hb7.mono HB.out.size)⟩
          clear hb7 HL HB HEV
          generalize wr.alloc (.cells #[.int .i64 x.kind, .int .i64 x.node, .int .i64 x.to, .int .i64 x.n, .int .i64 x.bit, .slice K x.keep.length kc, .slice A' x.bytes.length bc] 39) = w7 at HT ⊢
          generalize wr.heap.size = xb at HT ⊢
          have hkl := HT.out.ev.kl
          have hbl2 := HT.out.ev.bl
          obtain ⟨y0, y1, y2, y3, y4, y5, y6⟩ := HT.out.box.cells
          go_wp2_with fail
          clear y0 y1 y2 y3 y4 y5 y6
          go_loopw [59] (fun i wr => ∃ j : Nat, j ≤ x.bytes.length ∧ i = .int .i64 j ∧ Turn w2.heap.size xb w2 wr (some ⟨b, 0, none⟩) S.events x K A' kc bc) (fun i _ => x.bytes.length - (intOf i).toNat)
          case atStart => exact ⟨0, Nat.zero_le _, rfl, HT.out⟩
          case round =>
            obtain ⟨j, hj, rfl, hT⟩ := hrel
            have HT := Lib.hid hT
            clear hT
            by_cases hjl : j < x.bytes.length
            · obtain ⟨g, v, cs, fz, rfl, d0, ⟨un, rfl⟩, d1, hg, hgB, hgl⟩ := HT.out.ev.bytes.at_ hjl
              have HN : Hid (∀ n : Int, Turn w2.heap.size xb w2 (wr.setCell ⟨g, j, none⟩ (.int .u8 n)) (some ⟨b, 0, none⟩) S.events x K (some ⟨g, 0, none⟩) kc bc) := Lib.hid (fun n => HT.out.store hg (by decide) hgB (.int .u8 n) (fun e => by cases e) (fun _ => ⟨n, rfl⟩))
              have y6 := HT.out.box.cells.2.2.2.2.2.2
              clear hg hgB
              go_wp2_with fail
              go_roundw
              case rel => exact ⟨j + 1, by omega, by go_num, HN.out _⟩
              case measure => simp [intOf]; omega
            · have y5 := HT.out.box.cells.2.2.2.2.2.1
              go_wp2_with fail
              clear y5
              go_loopw [73] (fun i wr => ∃ j : Nat, j ≤ x.keep.length ∧ i = .int .i64 j ∧ Turn w2.heap.size xb w2 wr (some ⟨b, 0, none⟩) S.events x K A' kc bc) (fun i _ => x.keep.length - (intOf i).toNat)
              case atStart => exact ⟨0, Nat.zero_le _, rfl, HT.out⟩
              case round =>
                obtain ⟨i, hi, rfl, hT⟩ := hrel
                have HT := Lib.hid hT
                clear hT
                by_cases hil : i < x.keep.length
                · obtain ⟨g, v, cs, fz, rfl, d0, ⟨bn, rfl⟩, d1, hg, hgB, hgl⟩ := HT.out.ev.keep.at_ hil
                  have HN : Hid (Turn w2.heap.size xb w2 ((wr.setCell ⟨g, i, none⟩ (.bool (!bn))).drew) (some ⟨b, 0, none⟩) S.events x (some ⟨g, 0, none⟩) A' kc bc) := Lib.hid ((HT.out.store hg (by decide) hgB (.bool (!bn)) (fun _ => ⟨_, rfl⟩) (fun e => by cases e)).drew (by have := HT.out.below.size; simp; omega))
                  have y5 := HT.out.box.cells.2.2.2.2.2.1
                  clear hg hgB
                  go_upto_region 20 with fail
                  go_still_tail 10, (by kernel_rfl)
                  go_wp2_with fail
                  go_roundw
                  case rel => exact ⟨i + 1, by omega, by go_num, HN.out⟩
                  case measure => simp [intOf]; omega
                · go_wp2_with fail
                  go_roundw
                  case rel => exact ⟨k + 1, by omega, by go_num, HT.out.evs, HT.out.below⟩
                  case measure => simp [intOf]; omega
        · go_wp2_with fail
          go_roundw
          case rel => exact ⟨r + 1, by omega, by go_num, HB.out⟩
          case measure => simp [intOf]; omega
    · go_wp2_with fail
      go_ret
      exact ⟨rfl, HB2.out.trans (HBR.out.mono HB2.out.size)⟩
end Go.Proofs.YthpojljfmipngaaGreatDoor
