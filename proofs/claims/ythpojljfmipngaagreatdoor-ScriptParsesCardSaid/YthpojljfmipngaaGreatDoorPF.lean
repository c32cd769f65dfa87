/-
  THE WALK of the document's Parse: the event of a line's parts. CONDITIONS: the parts lie as CellsAt says.
-/
import Derived.Test.YthpojljfmipngaaGreatDoorPC
import Derived.Test.YthpojljfmipngaaGreatDoorPE
import Derived.Test.YthpojljfmipngaaGreatDoorRefI
import Derived.Deep.DeepCutAuto
namespace Go.Proofs.YthpojljfmipngaaGreatDoor
open Go.RowKit
namespace Rf
open Sc (Bs)
def kindTo (x : Bs) : Nat → Int
  | 0 => 0
  | k + 1 => if Sc.wordOf ((k : Int) + 1) = x then (k : Int) + 1 else kindTo x k
def kindR (x : Bs) : Int := kindTo x 11
theorem kindTo_in (x : Bs) : ∀ k, 0 ≤ kindTo x k ∧ kindTo x k ≤ k
  | 0 => ⟨Int.le_refl _, Int.le_refl _⟩
  | k + 1 => by
    unfold kindTo
    have := kindTo_in x k
    split <;> omega
/-- What event comes to behind an event's numbers. -/
def evTail (x : Sc.Ev) (rest : List Bs) : Sc.Ev × Bool :=
  if x.kind = 1 then ({ x with bytes := (unqR (rest.getD 0 [])).1 }, decide (rest.length = 1) && (unqR (rest.getD 0 [])).2 && !Sc.wrong { x with bytes := (unqR (rest.getD 0 [])).1 })
  else if x.kind = 8 then ({ x with keep := Sc.bitsOf (rest.getD 0 []).tail }, decide (rest.length = 1) && decide ((rest.getD 0 []).head? = some 61) && Sc.isBits (rest.getD 0 []).tail && !Sc.wrong { x with keep := Sc.bitsOf (rest.getD 0 []).tail })
  else (x, decide (rest.length = 0) && !Sc.wrong x)
/-- What event comes to; of use where its second is true. -/
def evR (l : List Bs) : Sc.Ev × Bool :=
  let k := kindR (l.getD 0 [])
  let n := (Sc.offs k).length
  let fs := (l.drop 1).take n
  let x := Sc.build k (vals fs)
  if k = 0 ∨ l.length < 1 + n ∨ allNum fs = false then (x, false) else evTail x (l.drop (1 + n))
theorem evR_off {l fs : List Bs} {kd : Int} {nn : Nat} (hk : kindR (l.getD 0 []) = kd) (hn : (Sc.offs kd).length = nn) (hf : (l.drop 1).take nn = fs) (h : kd = 0 ∨ l.length < 1 + nn ∨ allNum fs = false) : (evR l).2 = false := by
  subst hk; subst hn; subst hf
  unfold evR
  simp only
  rw [if_pos h]
theorem evR_on {l fs : List Bs} {kd : Int} {nn : Nat} (hk : kindR (l.getD 0 []) = kd) (hn : (Sc.offs kd).length = nn) (hf : (l.drop 1).take nn = fs) (h0 : kd ≠ 0) (hl : 1 + nn ≤ l.length) (ha : allNum fs = true) : evR l = evTail (Sc.build kd (vals fs)) (l.drop (1 + nn)) := by
  subst hk; subst hn; subst hf
  unfold evR
  simp only
  rw [if_neg (by rw [ha]; intro h; rcases h with h | h | h; exact h0 h; omega; cases h)]
end Rf
theorem nums_zero (k : Int) : (Sc.nums ⟨k, 0, 0, 0, 0, [], []⟩).length = (Sc.offs k).length := by unfold Sc.nums; rw [List.length_map]
theorem offs_le (k : Int) : (Sc.offs k).length ≤ 2 := by rw [← nums_zero]; exact numsx_len _
theorem offs_cases (k : Int) : Sc.offs k = [1] ∨ Sc.offs k = [1, 3] ∨ Sc.offs k = [3] ∨ Sc.offs k = [3, 4] ∨ Sc.offs k = [1, 2] ∨ Sc.offs k = [] := by
  unfold Sc.offs
  split
  · simp
  split
  · simp
  split
  · simp
  split
  · simp
  split
  · simp
  · simp
theorem nums_build (k : Int) (ns : List Int) (h : ns.length = (Sc.offs k).length) : Sc.nums (Sc.build k ns) = ns := by
  unfold Sc.nums
  have hk : (Sc.build k ns).kind = k := rfl
  rw [hk]
  rcases offs_cases k with e | e | e | e | e | e <;> rw [e] at h
  · match ns, h with
    | [a], _ => unfold Sc.build; rw [e]; simp [Sc.getF]
  · match ns, h with
    | [a, b], _ => unfold Sc.build; rw [e]; simp [Sc.getF, List.idxOf, List.findIdx, List.findIdx.go]
  · match ns, h with
    | [a], _ => unfold Sc.build; rw [e]; simp [Sc.getF]
  · match ns, h with
    | [a, b], _ => unfold Sc.build; rw [e]; simp [Sc.getF, List.idxOf, List.findIdx, List.findIdx.go]
  · match ns, h with
    | [a, b], _ => unfold Sc.build; rw [e]; simp [Sc.getF, List.idxOf, List.findIdx, List.findIdx.go]
  · match ns, h with
    | [], _ => rw [e]; rfl
theorem bare_build (k : Int) (ns : List Int) : bareV (Sc.build k ns) = evV (Sc.build k ns) none none 0 0 := by
  have h : ∀ o, (if o ∈ Sc.offs k then (if o ∈ Sc.offs k then ns.getD ((Sc.offs k).idxOf o) 0 else 0) else 0) = if o ∈ Sc.offs k then ns.getD ((Sc.offs k).idxOf o) 0 else 0 := by
    intro o; split <;> rfl
  unfold bareV evV bare Sc.clean Sc.build
  simp only [h]
  rfl
theorem vals_len : ∀ (fs : List Sc.Bs), (Rf.vals fs).length = fs.length := fun fs => by unfold Rf.vals; rw [List.length_map]
theorem EvT.next {B : Nat} {w w' : World} {x : Sc.Ev} {K A : Option Addr} (h : EvT B w x K A) (hb : Below w.heap.size w w') : EvT B w' x K A := h.but (But.of (S := []) hb) (by simp)
abbrev zEv : Sc.Ev := ⟨0, 0, 0, 0, 0, [], []⟩
/-- What event returns. -/
def EvOut (l : List Sc.Bs) (w : World) (e : Ending) (w' : World) : Prop := ∃ x K B kc bc, e = .returned (.tuple #[evV x K B kc bc, .bool (Rf.evR l).2]) ∧ ((Rf.evR l).2 = true → x = (Rf.evR l).1 ∧ EvT w.heap.size w' x K B) ∧ Below w.heap.size w w'
theorem EvOut.none {l : List Sc.Bs} {w w' : World} (h : (Rf.evR l).2 = false) (hb : Below w.heap.size w w') : EvOut l w (.returned (.tuple #[evV zEv Option.none Option.none 0 0, .bool false])) w' := ⟨zEv, _, _, 0, 0, by rw [h], fun h' => (by rw [h] at h'; cases h'), hb⟩
/-- As far as the event lies in a block of its own; the result's block is empty yet. -/
structure EvMid (w W : World) (rb yb : Nat) (x : Sc.Ev) (K B : Option Addr) (kc bc : Nat) : Prop where
  below : Below w.heap.size w W
  r0 : w.heap.size ≤ rb
  y0 : w.heap.size ≤ yb
  ne : rb ≠ yb
  rbox : EvBox W rb zEv none none 0 0
  ybox : EvBox W yb x K B kc bc
  rows : EvT w.heap.size W x K B
theorem EvMid.next {w W W' : World} {rb yb : Nat} {x : Sc.Ev} {K B : Option Addr} {kc bc : Nat} (h : EvMid w W rb yb x K B kc bc) (hb : Below W.heap.size W W') : EvMid w W' rb yb x K B kc bc :=
  ⟨h.below.trans (hb.mono h.below.size), h.r0, h.y0, h.ne, h.rbox.next hb, h.ybox.next hb, h.rows.next hb⟩
theorem EvMid.setB {w W : World} {rb yb : Nat} {k a b p d : Int} (h : EvMid w W rb yb ⟨k, a, b, p, d, [], []⟩ none none 0 0) (u : Sc.Bs) (hu : u.length ≤ 1048576) :
    EvMid w ((bytesW W u).setCell ⟨yb, 6, none⟩ (.slice (some ⟨W.heap.size, 0, none⟩) u.length (bytesCap W u))) rb yb ⟨k, a, b, p, d, [], u⟩ none (some ⟨W.heap.size, 0, none⟩) 0 (bytesCap W u) := by
  have hb := below_bytesW W u
  have h7 := h.next hb
  have hst := but_set (i := 6) (.slice (some ⟨W.heap.size, 0, none⟩) u.length (bytesCap W u)) h7.ybox
  refine ⟨h7.below.trans (hst.1.to h7.below.size (by have := h.y0; intro j hj; simp at hj; omega)), h.r0, h.y0, h.ne, hst.1.blk h7.rbox (by simpa using h.ne), hst.2, ?_⟩
  exact EvT.but ⟨RowT.nil _ _ _ _, (row_bytesW W u).mono h.below.size, Nat.zero_le _, Nat.le_trans hu (by decide)⟩ hst.1 (by intro j hj; simp at hj; subst hj; exact ⟨_, _, _, h7.ybox, by decide, by decide⟩)
theorem EvMid.put {w W : World} {rb yb : Nat} {x : Sc.Ev} {K B : Option Addr} {kc bc : Nat} (h : EvMid w W rb yb x K B kc bc) :
    let W' := (((((((W.setCell ⟨rb, 0, none⟩ (.int .i64 x.kind)).setCell ⟨rb, 1, none⟩ (.int .i64 x.node)).setCell ⟨rb, 2, none⟩ (.int .i64 x.to)).setCell ⟨rb, 3, none⟩ (.int .i64 x.n)).setCell ⟨rb, 4, none⟩ (.int .i64 x.bit)).setCell ⟨rb, 5, none⟩ (.slice K x.keep.length kc)).setCell ⟨rb, 6, none⟩ (.slice B x.bytes.length bc))
    Below w.heap.size w W' ∧ EvT w.heap.size W' x K B ∧ EvBox W' rb x K B kc bc := by
  have hs := set7 h.rbox (.int .i64 x.kind) (.int .i64 x.node) (.int .i64 x.to) (.int .i64 x.n) (.int .i64 x.bit) (.slice K x.keep.length kc) (.slice B x.bytes.length bc)
  exact ⟨h.below.trans (hs.1.to h.below.size (by have := h.r0; intro j hj; simp at hj; omega)), h.rows.but hs.1 (by intro j hj; simp at hj; subst hj; exact ⟨_, _, _, h.rbox, by decide, by decide⟩), hs.2⟩
theorem EvMid.app {w W W9 : World} {rb yb Bl : Nat} {k a b p d : Int} {L : List Bool} {K K' : Option Addr} {kc kc' : Nat} (h : EvMid w W rb yb ⟨k, a, b, p, d, L, []⟩ K none kc 0) (hr : rb < Bl) (hy : yb < Bl) (hB : w.heap.size ≤ Bl) (hb : Below Bl W W9) (q : Bool)
    (hO : Own 4 1 Bl (.slice K' (L.length + 1) kc') (L.length + 1) (boolCells L ++ [.bool q]) W9) (hl : L.length + 1 ≤ 1073741824) :
    EvMid w (W9.setCell ⟨yb, 5, none⟩ (.slice K' (L.length + 1) kc')) rb yb ⟨k, a, b, p, d, L ++ [q], []⟩ K' none kc' 0 ∧ Own 4 1 Bl (.slice K' (L ++ [q]).length kc') (L ++ [q]).length (boolCells (L ++ [q])) (W9.setCell ⟨yb, 5, none⟩ (.slice K' (L.length + 1) kc')) := by
  have hy9 : EvBox W9 yb ⟨k, a, b, p, d, L, []⟩ K none kc 0 := (hb.block yb hy).trans h.ybox
  have hr9 : EvBox W9 rb zEv none none 0 0 := (hb.block rb hr).trans h.rbox
  have hw9 := h.below.trans (hb.mono hB)
  have hst := but_set (i := 5) (.slice K' (L.length + 1) kc') hy9
  have hln : (L ++ [q]).length = L.length + 1 := by simp
  have hbc : boolCells (L ++ [q]) = boolCells L ++ [.bool q] := by unfold boolCells; rw [List.map_append]; rfl
  have hO' := hO.but hst.1 (by intro i hi; simp at hi; subst hi; exact hy)
  rw [hln, hbc]
  refine ⟨⟨hw9.trans (hst.1.to hw9.size (by have := h.y0; intro j hj; simp at hj; omega)), h.r0, h.y0, h.ne, hst.1.blk hr9 (by simpa using h.ne), by unfold EvBox; simp only [hln]; exact hst.2, ?_⟩, hO'⟩
  obtain ⟨A, c, he, hrow⟩ := RowT.own hO'
  cases he
  exact ⟨by rw [hbc]; exact hrow.mono hB, RowT.nil _ _ _ _, by simp only [hln]; exact hl, Nat.zero_le _⟩
theorem isBits_no {T : Sc.Bs} {j : Nat} {c : UInt8} (hc : T[j]? = some c) (h8 : c.toNat ≠ 48) (h9 : c.toNat ≠ 49) : Sc.isBits T = false := by
  unfold Sc.isBits
  rw [List.all_eq_false]
  exact ⟨c, List.mem_of_getElem? hc, by simp [h8, h9]⟩
theorem EvOut.some {l : List Sc.Bs} {w W' : World} {x : Sc.Ev} {K B : Option Addr} {b : Bool} (kc bc : Nat) (he : Rf.evR l = (x, b)) (h : Below w.heap.size w W' ∧ EvT w.heap.size W' x K B) : EvOut l w (.returned (.tuple #[evV x K B kc bc, .bool b])) W' :=
  ⟨x, K, B, kc, bc, by rw [he], fun _ => ⟨by rw [he], h.2⟩, h.1⟩
theorem decGo_len : ∀ (s out o : Sc.Bs), Rf.decGo s out = Option.some o → o.length ≤ out.length + s.length := by
  intro s out
  fun_induction Rf.decGo s out <;> intro o h <;> simp_all <;> first | omega | (subst h; simp) | (have := ‹∀ (o : Sc.Bs), _› o h; simp at this; omega) | skip
theorem unqR_len (s : Sc.Bs) : (Rf.unqR s).1.length ≤ s.length := by
  unfold Rf.unqR
  split
  · exact Nat.zero_le _
  · split
    · exact Nat.zero_le _
    · rename_i o h
      have := decGo_len _ _ _ h
      simp only [Rf.bodyQ, List.length_nil, List.length_take, List.length_drop] at this
      simp only
      omega
set_option maxRecDepth 100000 in
set_option maxHeartbeats 40000000 in
theorem refEv_any (l : List Sc.Bs) (A : Option Addr) (c : Nat) (w : World) (hne : l ≠ []) (hl : l.length ≤ 1048576) (hc : l.length ≤ c) (hcm : c ≤ 9223372036854775807) (hp : ∀ p ∈ l, p.length ≤ 1048576) (hA : CellsAt w A (l.map strV)) :
    Calls Tryz.prog 36 #[.slice A l.length c] w (EvOut l w) := by
  obtain ⟨L0, lt, rfl⟩ := List.exists_cons_of_ne_nil hne
  have hb1 := below_box w (.cells #[.int .i64 0, .int .i64 0, .int .i64 0, .int .i64 0, .int .i64 0, .slice none 0 0, .slice none 0 0] 39)
  have hx1 := heap_alloc_new w (.cells #[.int .i64 0, .int .i64 0, .int .i64 0, .int .i64 0, .int .i64 0, .slice none 0 0, .slice none 0 0] 39)
  obtain ⟨b, off, rfl, hbl, hcell⟩ := hA (by simp)
  have HAA : Hid (∀ i v, ((L0 :: lt).map strV)[i]? = some v → w.cell? ⟨b, off + i, none⟩ = some v) := Lib.hid hcell
  have c0 := hcell 0 (strV L0) rfl
  rw [Nat.add_zero] at c0
  have HC0 := Lib.hid c0
  have HB1 := Lib.hid hb1
  have HX1 := Lib.hid hx1
  have HP := Lib.hid hp
  have HLE := Lib.hid hl
  have HLC := Lib.hid hc
  clear hcell hb1 hx1 hp c0 hne hA
  obtain ⟨n, hn⟩ : ∃ n, (L0 :: lt).length = n := ⟨_, rfl⟩
  have hn1 : 1 ≤ n := by rw [← hn]; simp
  have hn1i : (0 : Int) < n := by omega
  have hnl : n ≤ 1048576 := by rw [← hn]; exact hl
  have hnc : n ≤ c := by rw [← hn]; exact hc
  have HN := Lib.hid hn
  rw [hn]
  clear hn hl hc
  go_enter Tryz.func36, Tryz.ntmps36
  go_wp2_with fail
  generalize w.alloc (.cells #[.int .i64 0, .int .i64 0, .int .i64 0, .int .i64 0, .int .i64 0, .slice none 0 0, .slice none 0 0] 39) = w1 at HB1 HX1 ⊢
  generalize hrb : w.heap.size = rb at HX1 ⊢
  have hbl1 : b < w1.heap.size := Nat.lt_of_lt_of_le hbl HB1.out.size
  have HC1 : Hid (∀ W, Below w1.heap.size w1 W → W.cell? ⟨b, off, none⟩ = some (.string ⟨L0.toArray⟩)) := Lib.hid (fun W h => (h.cell (p := ⟨b, off, none⟩) hbl1).trans ((HB1.out.cell (p := ⟨b, off, none⟩) hbl).trans HC0.out))
  go_loopw [4, 5] (fun kd i wr => ∃ k : Nat, k ≤ 11 ∧ i = .int .i64 ((k : Int) + 1) ∧ kd = .int .i64 (Rf.kindTo L0 k) ∧ Below w1.heap.size w1 wr) (fun _ i _ => 13 - (intOf i).toNat)
  case atStart => exact ⟨0, Nat.zero_le _, rfl, rfl, Below.refl _ _⟩
  case round =>
    obtain ⟨k, hk, rfl, rfl, hb⟩ := hrel
    have HB := Lib.hid hb
    clear hb
    by_cases hlt : k < 11
    · have q1 : (k : Int) + 1 ≤ 11 := by omega
      have hn0 : 0 < n := hn1
      have HSW : Hid (∀ w', Below wr.heap.size wr w' → w'.cell? ⟨b, off, none⟩ = some (.string ⟨L0.toArray⟩) ∧ Hid (Below wr.heap.size wr w')) := Lib.hid (fun w' h => ⟨HC1.out _ (HB.out.trans (h.mono HB.out.size)), Lib.hid h⟩)
      have HCW : Hid (∀ W, Calls Tryz.prog 50 #[.int .i64 ((k : Int) + 1)] W fun e w' => e = .returned (.string ⟨(Sc.wordOf ((k : Int) + 1)).toArray⟩) ∧ Below W.heap.size W w') := Lib.hid (fun W => (refWord_any _ W).mono (by rintro e w' ⟨h1, rfl⟩; exact ⟨h1, Below.refl _ _⟩))
      have HKT : Hid (Rf.kindTo L0 (k + 1) = if Sc.wordOf ((k : Int) + 1) = L0 then (k : Int) + 1 else Rf.kindTo L0 k) := Lib.hid rfl
      generalize Sc.wordOf ((k : Int) + 1) = wd at HCW HKT
      generalize Rf.kindTo L0 k = kd0 at HKT ⊢
      by_cases hw : wd = L0
      · rw [if_pos hw] at HKT
        subst hw
        go_upto_region 5 with (fail)
        go_region_held3 (fun w' => w'.cell? ⟨b, off, none⟩ = some (.string ⟨wd.toArray⟩) ∧ Hid (Below wr.heap.size wr w')) (first
          | assumption
          | exact HSW.out _ (below_drewN (Below.refl _ _) 1)
          | (obtain ⟨_, hbl'⟩ := ‹_ ∧ Hid _›; exact HSW.out _ (hbl'.out.trans (hb9.mono hbl'.out.size)))) (first
          | (go_at_call 50; refine (HCW.out _).mono ?_; rintro e w9 ⟨rfl, hb9⟩))
        all_goals
          obtain ⟨_, hbl'⟩ := ‹_ ∧ Hid _›
          have HBZ := Lib.hid (HB.out.trans (hbl'.out.mono HB.out.size))
          clear hbl'
          go_wp2_with fail
          go_roundw
          case rel => exact ⟨k + 1, by omega, by go_num, by rw [HKT.out], HBZ.out⟩
          case measure => simp [intOf]; omega
      · rw [if_neg hw] at HKT
        have hwb : (wd == L0) = false := by rw [beq_eq_false_iff_ne]; exact hw
        go_upto_region 5 with (fail)
        go_region_held3 (fun w' => w'.cell? ⟨b, off, none⟩ = some (.string ⟨L0.toArray⟩) ∧ Hid (Below wr.heap.size wr w')) (first
          | assumption
          | exact HSW.out _ (below_drewN (Below.refl _ _) 1)
          | (obtain ⟨_, hbl'⟩ := ‹_ ∧ Hid _›; exact HSW.out _ (hbl'.out.trans (hb9.mono hbl'.out.size)))) (first
          | (go_at_call 50; refine (HCW.out _).mono ?_; rintro e w9 ⟨rfl, hb9⟩))
        all_goals
          obtain ⟨_, hbl'⟩ := ‹_ ∧ Hid _›
          have HBZ := Lib.hid (HB.out.trans (hbl'.out.mono HB.out.size))
          clear hbl'
          go_wp2_with fail
          go_roundw
          case rel => exact ⟨k + 1, by omega, by go_num, by rw [HKT.out], HBZ.out⟩
          case measure => simp [intOf]; omega
    · have hk11 : k = 11 := by omega
      subst hk11
      have hkin := Rf.kindTo_in L0 11
      obtain ⟨kd, hkd⟩ : ∃ kd, Rf.kindTo L0 11 = kd := ⟨_, rfl⟩
      have HKD : Hid (Rf.kindR L0 = kd) := Lib.hid hkd
      rw [hkd] at hkin ⊢
      clear hkd hlt hk
      have HXr : Hid (EvBox wr rb zEv none none 0 0) := Lib.hid ((HB.out.block rb (Array.getElem?_eq_some_iff.1 HX1.out).1).trans HX1.out)
      have HBr : Hid (Below w.heap.size w wr) := Lib.hid (HB1.out.trans (HB.out.mono HB1.out.size))
      clear HX1 HC0 HC1 HB HB1
      by_cases hk0 : kd = 0
      · have HE : Hid ((Rf.evR (L0 :: lt)).2 = false) := Lib.hid (Rf.evR_off HKD.out rfl rfl (.inl hk0))
        subst hk0
        have hzc := HXr.out
        have d0 := (blk_cells hzc 0).trans rfl
        have d1 := (blk_cells hzc 1).trans rfl
        have d2 := (blk_cells hzc 2).trans rfl
        have d3 := (blk_cells hzc 3).trans rfl
        have d4 := (blk_cells hzc 4).trans rfl
        have d5 := (blk_cells hzc 5).trans rfl
        have d6 := (blk_cells hzc 6).trans rfl
        have df := fun i => blk_free hzc i
        have dlt := (Array.getElem?_eq_some_iff.1 hzc).1
        have hz := EvBox.self hzc
        simp only [List.length_nil] at hz
        clear hzc
        go_wp2_with fail
        exact bodyPost_ret (v := .tuple #[evV zEv none none 0 0, .bool false]) (by simp [results, Tryz.results36, go_sem, evV, d0, d1, d2, d3, d4, d5, d6]) rfl (EvOut.none HE.out HBr.out)
      have hk0b : (kd == 0) = false := by rw [beq_eq_false_iff_ne]; exact hk0
      have HK0 := Lib.hid hk0
      clear hk0
      go_wp2_with fail
      refine (refFields_any ⟨kd, 0, 0, 0, 0, [], []⟩ none none 0 0 _).mono ?_
      rintro e w3 ⟨F, fc, rfl, _, hb3⟩
      rw [nums_zero]
      have HX3 := Lib.hid (HXr.out.next hb3)
      have HB3 := Lib.hid (HBr.out.trans (hb3.mono HBr.out.size))
      clear hb3 HXr HBr hkin
      have hnn := offs_le kd
      obtain ⟨nn, hnn0⟩ : ∃ nn, (Sc.offs kd).length = nn := ⟨_, rfl⟩
      have HNN := Lib.hid hnn0
      rw [hnn0] at hnn ⊢
      clear hnn0
      by_cases hlen : (n : Int) < 1 + nn
      · have HE : Hid ((Rf.evR (L0 :: lt)).2 = false) := Lib.hid (Rf.evR_off HKD.out HNN.out rfl (.inr (.inl (by rw [HN.out]; omega))))
        have hzc := HX3.out
        have d0 := (blk_cells hzc 0).trans rfl
        have d1 := (blk_cells hzc 1).trans rfl
        have d2 := (blk_cells hzc 2).trans rfl
        have d3 := (blk_cells hzc 3).trans rfl
        have d4 := (blk_cells hzc 4).trans rfl
        have d5 := (blk_cells hzc 5).trans rfl
        have d6 := (blk_cells hzc 6).trans rfl
        have df := fun i => blk_free hzc i
        have dlt := (Array.getElem?_eq_some_iff.1 hzc).1
        have hz := EvBox.self hzc
        simp only [List.length_nil] at hz
        clear hzc
        go_wp2_with fail
        exact bodyPost_ret (v := .tuple #[evV zEv none none 0 0, .bool false]) (by simp [results, Tryz.results36, go_sem, evV, d0, d1, d2, d3, d4, d5, d6]) rfl (EvOut.none HE.out HB3.out)
      obtain ⟨fs, hfs⟩ : ∃ fs, ((L0 :: lt).drop 1).take nn = fs := ⟨_, rfl⟩
      have hfl : fs.length = nn := by rw [← hfs, List.length_take, List.length_drop, HN.out]; omega
      have HFS := Lib.hid hfs
      have HFL := Lib.hid hfl
      have HCN : Hid (∀ (A' : Option Addr) (c' : Nat), (nn ≠ 0 → A' = some ⟨b, off + 1, none⟩) → Calls Tryz.prog 35 #[.slice A' nn c', .int .i64 nn] w3 fun e w' => ∃ F fc vs, e = .returned (.tuple #[.slice F vs fc, .bool (Rf.allNum fs)]) ∧ (Rf.allNum fs = true → vs = nn ∧ CellsAt w' F (intCells (Rf.vals fs))) ∧ Below w3.heap.size w3 w') := Lib.hid (fun A' c' hA' => by
        have hcs : CellsAt w3 A' (fs.map strV) := by
          intro hne
          have h0 : nn ≠ 0 := by intro h; rw [← hfl] at h; exact hne (by rw [List.map_eq_nil_iff]; exact List.length_eq_zero_iff.1 h)
          refine ⟨b, off + 1, hA' h0, Nat.lt_of_lt_of_le hbl HB3.out.size, fun i v hi => ?_⟩
          have hi2 : ((L0 :: lt).map strV)[1 + i]? = some v := by
            rw [← hfs, List.getElem?_map] at hi
            rw [List.getElem?_map, ← List.getElem?_drop]
            rw [List.getElem?_take] at hi
            split at hi
            · exact hi
            · cases hi
          have := HAA.out (1 + i) v hi2
          rw [← Nat.add_assoc] at this
          exact (HB3.out.cell (p := ⟨b, off + 1 + i, none⟩) hbl).trans this
        have := refNums_any fs A' c' nn w3 (by omega) (by omega) hcs
        rw [hfl, decide_eq_true rfl, Bool.and_true] at this
        exact this)
      clear hfs hfl
      go_upto_region 12 with fail
      go_cut [0, 7, 8] (fun s0 s7 s8 wx => ∃ F fc vs, s0 = .slice (some ⟨b, off, none⟩) n c ∧ s7 = .slice F vs fc ∧ s8 = .bool (Rf.allNum fs) ∧ (Rf.allNum fs = true → vs = nn ∧ CellsAt wx F (intCells (Rf.vals fs))) ∧ Below w3.heap.size w3 wx)
      case first =>
        go_wp2_with fail
        all_goals
          refine (HCN.out _ _ (by first | exact fun _ => rfl | exact fun h => absurd (by omega) h)).mono ?_
          rintro e w4 ⟨F, fc, vs, rfl, hF, hb4⟩
          have HQ := Lib.hid hF
          have HB4 := Lib.hid hb4
          clear hF hb4
          go_wp2_with fail
          go_meet
          exact ⟨F, fc, vs, by first | rfl | (have hc1 : c = 1 := (by omega); rw [hc1]), rfl, rfl, HQ.out, HB4.out⟩
      case rest =>
      obtain ⟨F, fc, vs, rfl, rfl, rfl, hF, hb4⟩ := hcut
      have HX4 := Lib.hid (HX3.out.next hb4)
      have HB4 := Lib.hid (HB3.out.trans (hb4.mono HB3.out.size))
      clear hb4 HX3 HB3 HCN
      cases ha : Rf.allNum fs with
      | false =>
        have HE : Hid ((Rf.evR (L0 :: lt)).2 = false) := Lib.hid (Rf.evR_off HKD.out HNN.out HFS.out (.inr (.inr ha)))
        clear hF ha
        have hzc := HX4.out
        have d0 := (blk_cells hzc 0).trans rfl
        have d1 := (blk_cells hzc 1).trans rfl
        have d2 := (blk_cells hzc 2).trans rfl
        have d3 := (blk_cells hzc 3).trans rfl
        have d4 := (blk_cells hzc 4).trans rfl
        have d5 := (blk_cells hzc 5).trans rfl
        have d6 := (blk_cells hzc 6).trans rfl
        have df := fun i => blk_free hzc i
        have dlt := (Array.getElem?_eq_some_iff.1 hzc).1
        have hz := EvBox.self hzc
        simp only [List.length_nil] at hz
        clear hzc
        go_wp2_with fail
        exact bodyPost_ret (v := .tuple #[evV zEv none none 0 0, .bool false]) (by simp [results, Tryz.results36, go_sem, evV, d0, d1, d2, d3, d4, d5, d6]) rfl (EvOut.none HE.out HB4.out)
      | true =>
        obtain ⟨hvn, hF2⟩ := hF ha
        clear hF
        subst hvn
        have hvl : (Rf.vals fs).length = (Sc.offs kd).length := by rw [vals_len, HFL.out, HNN.out]
        have hev := Rf.evR_on (l := L0 :: lt) HKD.out HNN.out HFS.out HK0.out (by rw [HN.out]; omega) ha
        have hcw := fun fc' => refWith_any (Sc.build kd (Rf.vals fs)) F fc' wc (by rw [nums_build _ _ hvl]; exact hF2)
        rw [nums_build _ _ hvl, vals_len, HFL.out, bare_build] at hcw
        obtain ⟨xa, xb, xn, xd, hX⟩ : ∃ xa xb xn xd, Sc.build kd (Rf.vals fs) = ⟨kd, xa, xb, xn, xd, [], []⟩ := ⟨_, _, _, _, rfl⟩
        rw [hX] at hev hcw
        obtain ⟨R, hR⟩ : ∃ R, (L0 :: lt).drop (1 + vs) = R := ⟨_, rfl⟩
        rw [hR] at hev
        have HEV := Lib.hid hev
        have HCW : Hid (∀ fc', Calls Tryz.prog 52 #[.int .i64 kd, .slice F vs fc'] wc fun e w' => e = .returned (.agg #[.int .i64 kd, .int .i64 xa, .int .i64 xb, .int .i64 xn, .int .i64 xd, .slice none 0 0, .slice none 0 0]) ∧ Below wc.heap.size wc w') := Lib.hid hcw
        obtain ⟨m, hm⟩ : ∃ m, n - (1 + vs) = m := ⟨_, rfl⟩
        have HRL : Hid (R.length = m) := Lib.hid (by rw [← hR, List.length_drop, HN.out]; exact hm)
        have hmn : n = 1 + vs + m := by omega
        have HRP : Hid (∀ p ∈ R, p.length ≤ 1048576) := Lib.hid (fun p hp => HP.out p (List.mem_of_mem_drop (hR ▸ hp)))
        have HR0 : Hid (∀ W r, Below w.heap.size w W → R[0]? = some r → W.cell? ⟨b, off + (1 + vs), none⟩ = some (.string ⟨r.toArray⟩)) := Lib.hid (fun W r hW hr => by
          refine (hW.cell (p := ⟨b, off + (1 + vs), none⟩) hbl).trans (HAA.out (1 + vs) (strV r) ?_)
          rw [← hR, List.getElem?_drop, Nat.add_zero] at hr
          rw [List.getElem?_map, hr]; rfl)
        clear hF2 hvl hev hcw hX hR hm HFS HFL ha HNN HKD HAA HP HLE HLC HN hlen
        go_wp2_with fail
        refine (HCW.out _).mono ?_
        rintro e w5 ⟨rfl, hb5⟩
        have HX5 := Lib.hid (HX4.out.next hb5)
        have HB5 := Lib.hid (HB4.out.trans (hb5.mono HB4.out.size))
        clear hb5 HX4 HB4 HCW
        have hx6 := heap_alloc_new w5 (.cells #[.int .i64 kd, .int .i64 xa, .int .i64 xb, .int .i64 xn, .int .i64 xd, .slice none 0 0, .slice none 0 0] 39)
        have hb6 := below_box w5 (.cells #[.int .i64 kd, .int .i64 xa, .int .i64 xb, .int .i64 xn, .int .i64 xd, .slice none 0 0, .slice none 0 0] 39)
        have hrl := (Array.getElem?_eq_some_iff.1 HX5.out).1
        have hw5 := HB5.out.size
        have HM : Hid (EvMid w (w5.alloc (.cells #[.int .i64 kd, .int .i64 xa, .int .i64 xb, .int .i64 xn, .int .i64 xd, .slice none 0 0, .slice none 0 0] 39)) rb w5.heap.size ⟨kd, xa, xb, xn, xd, [], []⟩ none none 0 0) := Lib.hid
          ⟨HB5.out.trans (hb6.mono HB5.out.size), by omega, by omega, by omega, HX5.out.next hb6, hx6, ⟨RowT.nil _ _ _ _, RowT.nil _ _ _ _, Nat.zero_le _, Nat.zero_le _⟩⟩
        clear hx6 hb6 hrl hw5 HX5 HB5
        go_upto_region 16 with fail
        generalize w5.alloc (.cells #[.int .i64 kd, .int .i64 xa, .int .i64 xb, .int .i64 xn, .int .i64 xd, .slice none 0 0, .slice none 0 0] 39) = w6 at HM ⊢
        generalize w5.heap.size = yb at HM ⊢
        go_cut [0, 10] (fun s0 s10 wx => ∃ A2 c2, s0 = .slice (some ⟨b, off, none⟩) (1 + vs + m) c ∧ s10 = .slice A2 m c2 ∧ (m ≠ 0 → A2 = some ⟨b, off + (1 + vs), none⟩) ∧ wx = w6)
        case first =>
          go_wp2_with fail
          all_goals
            go_meet
            exact ⟨_, _, by first | rfl | (have hc1 : c = 1 + vs := (by omega); rw [hc1]), rfl, by first | exact fun _ => rfl | exact fun h => absurd (by omega) h, rfl⟩
        case rest =>
        obtain ⟨A2, c2, rfl, rfl, hA2, hwx⟩ := hcut
        subst hwx
        clear hn1 hn1i hnl hnc hmn
        have HA2 := Lib.hid hA2
        clear hA2
        by_cases hk1 : kd = 1
        · subst hk1
          by_cases hm1 : m = 1
          · obtain ⟨r, hr⟩ : ∃ r, R = [r] := List.length_eq_one_iff.1 (HRL.out.trans hm1)
            subst hr
            subst hm1
            obtain rfl := HA2.out (by decide)
            have hrc := HR0.out _ r HM.out.below rfl
            have hrl : r.length ≤ 1048576 := HRP.out r (by simp)
            have huq := unquote_any ⟨r.toArray⟩ wc (by rw [Lib.size_eq]; exact hrl)
            simp only at huq
            have hul := Nat.le_trans (unqR_len r) hrl
            have hev := HEV.out
            unfold Rf.evTail at hev
            simp only [if_pos, List.length_singleton, List.getD_cons_zero, decide_true, Bool.true_and] at hev
            obtain ⟨u, ok, hu⟩ : ∃ u ok, Rf.unqR r = (u, ok) := ⟨_, _, rfl⟩
            rw [hu] at huq hul hev
            simp only at huq hul hev
            have HUQ := Lib.hid huq
            have HE := Lib.hid hev
            clear huq hu hev HEV HRP HR0 HA2 HRL hrl
            go_wp2_with fail
            refine HUQ.out.mono ?_
            rintro e w7 ⟨rfl, hb7⟩
            have HM7 := Lib.hid (HM.out.next hb7)
            clear hb7 HM HUQ hrc
            have HM8 := Lib.hid (HM7.out.setB u hul)
            have hcv := conv_str w7 u
            have hy7 := (HM7.out.next (below_bytesW w7 u)).ybox
            have q6 := hy7.cells.2.2.2.2.2.2
            have qf := blk_free hy7 6
            have qlt : yb < (bytesW w7 u).heap.size := (Array.getElem?_eq_some_iff.1 hy7).1
            clear hy7 HM7
            go_upto_region 23 with fail
            generalize (bytesW w7 u).setCell ⟨yb, 6, none⟩ (.slice (some ⟨w7.heap.size, 0, none⟩) u.length (bytesCap w7 u)) = w8 at HM8 ⊢
            generalize bytesCap w7 u = bc at HM8 ⊢
            generalize w7.heap.size = g at HM8 ⊢
            clear hcv q6 qf qlt
            have HMD : Hid (EvMid w w8.drew rb yb ⟨1, xa, xb, xn, xd, [], u⟩ none (some ⟨g, 0, none⟩) 0 bc) := Lib.hid (HM8.out.next (below_drewN (Below.refl _ _) 1))
            cases ok with
            | false =>
              rw [Bool.false_and] at HE
              obtain ⟨c0, c1, c2, c3, c4, c5, c6⟩ := HM8.out.ybox.cells
              have hzc := HM8.out.rbox
              have d0 := (blk_cells hzc 0).trans rfl
              have d1 := (blk_cells hzc 1).trans rfl
              have d2 := (blk_cells hzc 2).trans rfl
              have d3 := (blk_cells hzc 3).trans rfl
              have d4 := (blk_cells hzc 4).trans rfl
              have d5 := (blk_cells hzc 5).trans rfl
              have d6 := (blk_cells hzc 6).trans rfl
              have df := fun i => blk_free hzc i
              have dlt := (Array.getElem?_eq_some_iff.1 hzc).1
              clear hzc
              simp only [List.length_nil] at c0 c1 c2 c3 c4 c5 c6
              go_region_with (fail)
              all_goals
                go_wp2_with fail
                have hp := HM8.out.put
                simp only [List.length_nil] at hp
                generalize (((((((w8.setCell ⟨rb, 0, none⟩ (.int .i64 1)).setCell ⟨rb, 1, none⟩ (.int .i64 xa)).setCell ⟨rb, 2, none⟩ (.int .i64 xb)).setCell ⟨rb, 3, none⟩ (.int .i64 xn)).setCell ⟨rb, 4, none⟩ (.int .i64 xd)).setCell ⟨rb, 5, none⟩ (.slice none 0 0)).setCell ⟨rb, 6, none⟩ (.slice (some ⟨g, 0, none⟩) u.length bc)) = W9 at hp ⊢
                have hq : Below w.heap.size w W9.drew ∧ EvT w.heap.size W9.drew (⟨1, xa, xb, xn, xd, [], u⟩ : Sc.Ev) none (some ⟨g, 0, none⟩) ∧ EvBox W9.drew rb (⟨1, xa, xb, xn, xd, [], u⟩ : Sc.Ev) none (some ⟨g, 0, none⟩) 0 bc := ⟨hp.1.trans (Below.mono (below_drewN (Below.refl _ _) 1) hp.1.size), hp.2.1.next (below_drewN (Below.refl _ _) 1), hp.2.2.next (below_drewN (Below.refl _ _) 1)⟩
                obtain ⟨e0, e1, e2, e3, e4, e5, e6⟩ := hq.2.2.cells
                simp only [List.length_nil] at e0 e1 e2 e3 e4 e5 e6
                exact bodyPost_ret (v := .tuple #[evV (⟨1, xa, xb, xn, xd, [], u⟩ : Sc.Ev) none (some ⟨g, 0, none⟩) 0 bc, .bool false]) (by simp [results, Tryz.results36, go_sem, evV, e0, e1, e2, e3, e4, e5, e6]) rfl (EvOut.some _ _ HE.out ⟨hq.1, hq.2.1⟩)
            | true =>
              rw [Bool.true_and] at HE
              have HCE : Hid (∀ W, Below w8.heap.size w8 W → Calls Tryz.prog 54 #[.agg #[.int .i64 1, .int .i64 xa, .int .i64 xb, .int .i64 xn, .int .i64 xd, .slice none 0 0, .slice (some ⟨g, 0, none⟩) u.length bc]] W fun e w' => e = .returned (.bool (!Sc.wrong (⟨1, xa, xb, xn, xd, [], u⟩ : Sc.Ev))) ∧ Below W.heap.size W w') := Lib.hid (fun W h => refEvent_any (⟨1, xa, xb, xn, xd, [], u⟩ : Sc.Ev) none (some ⟨g, 0, none⟩) 0 bc W (HM8.out.next h).rows.at_)
              generalize (!Sc.wrong (⟨1, xa, xb, xn, xd, [], u⟩ : Sc.Ev)) = wb at HE HCE
              obtain ⟨c0, c1, c2, c3, c4, c5, c6⟩ := HM8.out.ybox.cells
              have hzc := HM8.out.rbox
              have d0 := (blk_cells hzc 0).trans rfl
              have d1 := (blk_cells hzc 1).trans rfl
              have d2 := (blk_cells hzc 2).trans rfl
              have d3 := (blk_cells hzc 3).trans rfl
              have d4 := (blk_cells hzc 4).trans rfl
              have d5 := (blk_cells hzc 5).trans rfl
              have d6 := (blk_cells hzc 6).trans rfl
              have df := fun i => blk_free hzc i
              have dlt := (Array.getElem?_eq_some_iff.1 hzc).1
              clear hzc
              simp only [List.length_nil] at c0 c1 c2 c3 c4 c5 c6
              go_region_with (go_at_call 54; refine (HCE.out _ (below_drewN (Below.refl _ _) 1)).mono ?_; rintro e w9 ⟨rfl, hb9⟩; have HM9 := Lib.hid (HMD.out.next hb9); clear hb9; obtain ⟨g0, g1, g2, g3, g4, g5, g6⟩ := HM9.out.ybox.cells; have hzc := HM9.out.rbox; have q0 := (blk_cells hzc 0).trans rfl; have q1 := (blk_cells hzc 1).trans rfl; have q2 := (blk_cells hzc 2).trans rfl; have q3 := (blk_cells hzc 3).trans rfl; have q4 := (blk_cells hzc 4).trans rfl; have q5 := (blk_cells hzc 5).trans rfl; have q6 := (blk_cells hzc 6).trans rfl; have qf := fun i => blk_free hzc i; have qlt := (Array.getElem?_eq_some_iff.1 hzc).1; clear hzc; simp only [List.length_nil] at g0 g1 g2 g3 g4 g5 g6)
              all_goals
                go_wp2_with fail
                have hp := HM9.out.put
                simp only [List.length_nil] at hp
                generalize (((((((w9.setCell ⟨rb, 0, none⟩ (.int .i64 1)).setCell ⟨rb, 1, none⟩ (.int .i64 xa)).setCell ⟨rb, 2, none⟩ (.int .i64 xb)).setCell ⟨rb, 3, none⟩ (.int .i64 xn)).setCell ⟨rb, 4, none⟩ (.int .i64 xd)).setCell ⟨rb, 5, none⟩ (.slice none 0 0)).setCell ⟨rb, 6, none⟩ (.slice (some ⟨g, 0, none⟩) u.length bc)) = W9 at hp ⊢
                have hq := hp
                obtain ⟨e0, e1, e2, e3, e4, e5, e6⟩ := hq.2.2.cells
                simp only [List.length_nil] at e0 e1 e2 e3 e4 e5 e6
                exact bodyPost_ret (v := .tuple #[evV (⟨1, xa, xb, xn, xd, [], u⟩ : Sc.Ev) none (some ⟨g, 0, none⟩) 0 bc, .bool wb]) (by simp [results, Tryz.results36, go_sem, evV, e0, e1, e2, e3, e4, e5, e6]) rfl (EvOut.some _ _ HE.out ⟨hq.1, hq.2.1⟩)
          · have hm1b : ((m : Int) == 1) = false := by rw [beq_eq_false_iff_ne]; omega
            have HE : Hid ((Rf.evR (L0 :: lt)).2 = false) := Lib.hid (by rw [HEV.out]; unfold Rf.evTail; rw [if_pos rfl]; simp only; rw [decide_eq_false (by rw [HRL.out]; exact hm1)]; rfl)
            have HXm := Lib.hid HM.out.rbox
            have HBm := Lib.hid HM.out.below
            clear HM
            have hzc := HXm.out
            have d0 := (blk_cells hzc 0).trans rfl
            have d1 := (blk_cells hzc 1).trans rfl
            have d2 := (blk_cells hzc 2).trans rfl
            have d3 := (blk_cells hzc 3).trans rfl
            have d4 := (blk_cells hzc 4).trans rfl
            have d5 := (blk_cells hzc 5).trans rfl
            have d6 := (blk_cells hzc 6).trans rfl
            have df := fun i => blk_free hzc i
            have dlt := (Array.getElem?_eq_some_iff.1 hzc).1
            have hz := EvBox.self hzc
            simp only [List.length_nil] at hz
            clear hzc
            go_wp2_with fail
            exact bodyPost_ret (v := .tuple #[evV zEv none none 0 0, .bool false]) (by simp [results, Tryz.results36, go_sem, evV, d0, d1, d2, d3, d4, d5, d6]) rfl (EvOut.none HE.out HBm.out)
        have hk1b : (kd == 1) = false := by rw [beq_eq_false_iff_ne]; exact hk1
        have HK1 := Lib.hid hk1
        clear hk1
        by_cases hk8 : kd = 8
        · subst hk8
          by_cases hm1 : m = 1
          · obtain ⟨r, hr⟩ : ∃ r, R = [r] := List.length_eq_one_iff.1 (HRL.out.trans hm1)
            subst hr
            subst hm1
            obtain rfl := HA2.out (by decide)
            obtain ⟨S, rfl⟩ : ∃ S : ByteArray, r = S.data.toList := ⟨⟨r.toArray⟩, rfl⟩
            have HRC : Hid (∀ W, Below w.heap.size w W → W.cell? ⟨b, off + (1 + vs), none⟩ = some (.string S)) := Lib.hid (fun W h => HR0.out W _ h rfl)
            have hsl : S.size ≤ 1048576 := by rw [Lib.size_eq]; exact HRP.out _ (by simp)
            have hev := HEV.out
            unfold Rf.evTail at hev
            simp only [if_pos, if_neg (show ¬ (8 : Int) = 1 by decide), List.length_singleton, List.getD_cons_zero, decide_true, Bool.true_and] at hev
            have HE0 := Lib.hid hev
            clear hev HEV HRP HR0 HA2 HRL
            have rc := HRC.out _ HM.out.below
            by_cases hs0 : S.size = 0
            · have hs0i : (S.size : Int) < 1 := by omega
              have HE : Hid ((Rf.evR (L0 :: lt)).2 = false) := Lib.hid (by rw [HE0.out]; have h0 : S.data.toList = [] := List.length_eq_zero_iff.1 (by rw [← Lib.size_eq]; exact hs0); rw [h0]; rfl)
              have HXm := Lib.hid HM.out.rbox
              have HBm := Lib.hid HM.out.below
              clear HM
              have hzc := HXm.out
              have d0 := (blk_cells hzc 0).trans rfl
              have d1 := (blk_cells hzc 1).trans rfl
              have d2 := (blk_cells hzc 2).trans rfl
              have d3 := (blk_cells hzc 3).trans rfl
              have d4 := (blk_cells hzc 4).trans rfl
              have d5 := (blk_cells hzc 5).trans rfl
              have d6 := (blk_cells hzc 6).trans rfl
              have df := fun i => blk_free hzc i
              have dlt := (Array.getElem?_eq_some_iff.1 hzc).1
              have hz := EvBox.self hzc
              simp only [List.length_nil] at hz
              clear hzc
              go_wp2_with fail
              exact bodyPost_ret (v := .tuple #[evV zEv none none 0 0, .bool false]) (by simp [results, Tryz.results36, go_sem, evV, d0, d1, d2, d3, d4, d5, d6]) rfl (EvOut.none HE.out HBm.out)
            obtain ⟨q, hq⟩ : ∃ q, S.size = q + 1 := ⟨S.size - 1, by omega⟩
            have hqi : ¬ ((q : Int) + 1 < 1) := by omega
            have h0 : 0 < S.size := by omega
            obtain ⟨c0, e0⟩ : ∃ c, S[0]'h0 = c := ⟨_, rfl⟩
            have hd0 := drop_get h0
            rw [e0, List.drop_zero] at hd0
            obtain ⟨T, hT⟩ : ∃ T, S.data.toList.drop (0 + 1) = T := ⟨_, rfl⟩
            rw [hT] at hd0
            have HT := Lib.hid hT
            have HQ := Lib.hid hq
            have HD := Lib.hid hd0
            have hTl : T.length = q := by rw [← hT, List.length_drop, ← Lib.size_eq, hq]; omega
            have HTL := Lib.hid hTl
            have HBq : Hid (q ≤ 1048576) := Lib.hid (by omega)
            clear hd0 hT hTl hs0 hsl
            by_cases hc0 : c0 = 61
            · subst hc0
              have HE : Hid (Rf.evR (L0 :: lt) = (⟨8, xa, xb, xn, xd, Sc.bitsOf T, []⟩, Sc.isBits T && !Sc.wrong ⟨8, xa, xb, xn, xd, Sc.bitsOf T, []⟩)) := Lib.hid (by rw [HE0.out, HD.out]; rfl)
              clear HE0
              go_wp2_with fail
              have HM0 := HM
              generalize hBl : wc.heap.size = Bl
              have HBl : Hid (rb < Bl ∧ yb < Bl ∧ w.heap.size ≤ Bl) := Lib.hid ⟨hBl ▸ (Array.getElem?_eq_some_iff.1 HM.out.rbox).1, hBl ▸ (Array.getElem?_eq_some_iff.1 HM.out.ybox).1, hBl ▸ HM.out.below.size⟩
              have HO0 : Hid (Own 4 1 Bl (.slice none 0 0) 0 [] wc) := Lib.hid (hBl ▸ Own.nil 4 1 wc)
              clear hBl rc
              go_loopw [13] (fun i wr => ∃ (K : Option Addr) (kc : Nat) (L : List Bool), L.length ≤ q ∧ i = .int .i64 ((L.length : Int) + 1) ∧ EvMid w wr rb yb ⟨8, xa, xb, xn, xd, L, []⟩ K none kc 0 ∧ Own 4 1 Bl (.slice K L.length kc) L.length (boolCells L) wr ∧ Hid (L = Sc.bitsOf (T.take L.length) ∧ Sc.isBits (T.take L.length) = true)) (fun i _ => q + 2 - (intOf i).toNat)
              case atStart => exact ⟨none, 0, [], Nat.zero_le _, rfl, HM0.out, HO0.out, Lib.hid ⟨rfl, rfl⟩⟩
              case round =>
                obtain ⟨K, kc, L, hL, rfl, hM, hO, HL⟩ := hrel
                have HM := Lib.hid hM
                have HO := Lib.hid hO
                clear hM hO HM0 HO0
                have rc := HRC.out _ HM.out.below
                by_cases hlt : L.length < q
                · have hk1 : L.length + 1 < S.size := by rw [HQ.out]; omega
                  obtain ⟨c1, hc1⟩ : ∃ c, S[L.length + 1]'hk1 = c := ⟨_, rfl⟩
                  have hlti : (L.length : Int) + 1 < (q : Int) + 1 := by omega
                  have HTC : Hid (T[L.length]? = some c1) := Lib.hid (by
                    have h2 := drop_get hk1
                    rw [hc1] at h2
                    rw [← HT.out, List.getElem?_drop]
                    have h3 : (S.data.toList.drop (L.length + 1))[0]? = some c1 := by rw [h2]; rfl
                    rw [List.getElem?_drop] at h3
                    rw [← h3]; congr 1; omega)
                  have HLB : Hid (∀ q' : Bool, decide (c1.toNat = 49) = q' → (decide (c1.toNat = 48) || decide (c1.toNat = 49)) = true → Hid (L ++ [q'] = Sc.bitsOf (T.take (L ++ [q']).length) ∧ Sc.isBits (T.take (L ++ [q']).length) = true)) := Lib.hid (fun q' hq' hor => by
                    subst hq'
                    have hlt2 : L.length < T.length := by rw [HTL.out]; exact hlt
                    have h5 : T[L.length] = c1 := by have := HTC.out; rw [List.getElem?_eq_getElem hlt2] at this; exact Option.some.inj this
                    have h4 : T.take (L.length + 1) = T.take L.length ++ [c1] := by rw [List.take_succ_eq_append_getElem hlt2, h5]
                    obtain ⟨h6, h7⟩ := HL.out
                    have hln : (L ++ [decide (c1.toNat = 49)]).length = L.length + 1 := by simp
                    rw [hln, h4]
                    refine Lib.hid ⟨?_, ?_⟩
                    · unfold Sc.bitsOf at h6 ⊢; rw [List.map_append, ← h6]; rfl
                    · unfold Sc.isBits at h7 ⊢; rw [List.all_append, h7]; simp only [List.all_cons, List.all_nil, Bool.and_true, Bool.true_and]; exact hor)
                  have e48 : ((c1.toNat : Int) == 48) = decide (c1.toNat = 48) := by rw [Bool.eq_iff_iff]; simp; omega
                  have e49 : ((c1.toNat : Int) == 49) = decide (c1.toNat = 49) := by rw [Bool.eq_iff_iff]; simp; omega
                  have f48 : ((c1.toNat : Int) != 48) = !decide (c1.toNat = 48) := by unfold bne; rw [e48]
                  have f49 : ((c1.toNat : Int) != 49) = !decide (c1.toNat = 49) := by unfold bne; rw [e49]
                  by_cases h48 : c1.toNat = 48
                  · have h49 : ¬ c1.toNat = 49 := by omega
                    rw [decide_eq_true h48] at e48 f48 HLB
                    rw [decide_eq_false h49] at e49 f49 HLB
                    have y5 := HM.out.ybox.cells.2.2.2.2.2.1
                    simp only at y5
                    clear h48 h49 HTC
                    rw [Bool.not_true] at f48
                    rw [Bool.not_false] at f49
                    go_upto_region 32 with fail
                    have HM4 : Hid (EvMid w wr.drew rb yb ⟨8, xa, xb, xn, xd, L, []⟩ K none kc 0) := Lib.hid (HM.out.next (below_drewN (Below.refl _ _) 1))
                    have HO4 : Hid (Own 4 1 Bl (.slice K L.length kc) L.length (boolCells L) wr.drew) := Lib.hid (HO.out.next (below_drewN (Below.refl _ _) 1))
                    refine wp_region_any (by kernel_rfl) ?_
                    change wpAny _ _ _ _ _ _ _ (World.drew _)
                    generalize wr.drew = w4 at HM4 HO4 ⊢
                    have HSW : Hid (∀ W, Below Bl w4 W → W.cell? ⟨yb, 5, none⟩ = some (.slice K L.length kc) ∧ W.cell? ⟨b, off + (1 + vs), none⟩ = some (.string S)) := Lib.hid (fun W h => ⟨(EvBox.cells ((h.block yb HBl.out.2.1).trans HM4.out.ybox)).2.2.2.2.2.1, HRC.out _ (HM4.out.below.trans (h.mono HBl.out.2.2))⟩)
                    have q0 : (0 : Int) ≤ (L.length : Int) + 1 := by omega
                    clear HM HO y5 rc
                    refine wpAny_of_till (S := fun W => W.cell? ⟨yb, 5, none⟩ = some (.slice K L.length kc) ∧ W.cell? ⟨b, off + (1 + vs), none⟩ = some (.string S)) (st := fun l => l.getD 11 false) _ _ _ _ ?_
                    change wpTill _ _ _ _ _ _ _ #[false, false, false, false, false, false, false, false, false, false, false, false] _ _
                    refine wpTill_take (i := 0) (v := ?vaF0) rfl (by kernel_rfl) (by kernel_rfl) (by kernel_rfl) (show Shutd _ _ #[false, false, false, false, false, false, false, false, false, false, false, false] from Shutd.start 12) (fun l h h9 => (Shutd.step h (j := 1) (k := 0) (by kernel_rfl) (Shutd.step h (j := 9) (k := 1) (by kernel_rfl) (Shutd.step h (j := 11) (k := 9) (by kernel_rfl) h9)))) (fun l => getD_set_ne false (by decide)) (fun _ _ _ h => h) (Or.inl ⟨by rfl, ?yaF0⟩) (HSW.out _ (Below.refl _ _)) (fun hshF0 => ?_)
                    case yaF0 => (intro w hS; obtain ⟨s5, s6⟩ := hS; go_simp; (try with_reducible rfl))
                    simp only [Act.put, List.getElem_toArray, List.getElem_cons_zero, List.getElem_cons_succ, List.setIfInBounds_toArray, List.set_cons_zero, List.set_cons_succ] at hshF0 ⊢
                    refine wpTill_take (i := 1) (v := ?vaF1) rfl (by kernel_rfl) (by kernel_rfl) (by kernel_rfl) hshF0 (fun l h h9 => (Shutd.step h (j := 9) (k := 1) (by kernel_rfl) (Shutd.step h (j := 11) (k := 9) (by kernel_rfl) h9))) (fun l => getD_set_ne false (by decide)) (fun _ _ _ h => h) (Or.inl ⟨by rfl, ?yaF1⟩) (HSW.out _ (Below.refl _ _)) (fun hshF1 => ?_)
                    case yaF1 => (intro w hS; obtain ⟨s5, s6⟩ := hS; go_simp; (try with_reducible rfl))
                    simp only [Act.put, List.getElem_toArray, List.getElem_cons_zero, List.getElem_cons_succ, List.setIfInBounds_toArray, List.set_cons_zero, List.set_cons_succ] at hshF1 ⊢
                    refine wpTill_take (i := 2) (v := ?vaF2) rfl (by kernel_rfl) (by kernel_rfl) (by kernel_rfl) hshF1 (fun l h h9 => (Shutd.step h (j := 3) (k := 2) (by kernel_rfl) (Shutd.step h (j := 4) (k := 3) (by kernel_rfl) (Shutd.step h (j := 6) (k := 4) (by kernel_rfl) (Shutd.step h (j := 7) (k := 6) (by kernel_rfl) (Shutd.step h (j := 8) (k := 7) (by kernel_rfl) (Shutd.step h (j := 9) (k := 8) (by kernel_rfl) (Shutd.step h (j := 11) (k := 9) (by kernel_rfl) h9)))))))) (fun l => getD_set_ne false (by decide)) (fun _ _ _ h => h) (Or.inl ⟨by rfl, ?yaF2⟩) (HSW.out _ (Below.refl _ _)) (fun hshF2 => ?_)
                    case yaF2 => (intro w hS; obtain ⟨s5, s6⟩ := hS; go_simp; (try with_reducible rfl))
                    simp only [Act.put, List.getElem_toArray, List.getElem_cons_zero, List.getElem_cons_succ, List.setIfInBounds_toArray, List.set_cons_zero, List.set_cons_succ] at hshF2 ⊢
                    refine wpTill_take (i := 3) (v := ?vaF3) rfl (by kernel_rfl) (by kernel_rfl) (by kernel_rfl) hshF2 (fun l h h9 => (Shutd.step h (j := 4) (k := 3) (by kernel_rfl) (Shutd.step h (j := 6) (k := 4) (by kernel_rfl) (Shutd.step h (j := 7) (k := 6) (by kernel_rfl) (Shutd.step h (j := 8) (k := 7) (by kernel_rfl) (Shutd.step h (j := 9) (k := 8) (by kernel_rfl) (Shutd.step h (j := 11) (k := 9) (by kernel_rfl) h9))))))) (fun l => getD_set_ne false (by decide)) (fun _ _ _ h => h) (Or.inl ⟨by rfl, ?yaF3⟩) (HSW.out _ (Below.refl _ _)) (fun hshF3 => ?_)
                    case yaF3 => (intro w hS; obtain ⟨s5, s6⟩ := hS; go_simp; (try with_reducible rfl))
                    simp only [Act.put, List.getElem_toArray, List.getElem_cons_zero, List.getElem_cons_succ, List.setIfInBounds_toArray, List.set_cons_zero, List.set_cons_succ] at hshF3 ⊢
                    refine wpTill_take (i := 4) (v := ?vaF4) rfl (by kernel_rfl) (by kernel_rfl) (by kernel_rfl) hshF3 (fun l h h9 => (Shutd.step h (j := 6) (k := 4) (by kernel_rfl) (Shutd.step h (j := 7) (k := 6) (by kernel_rfl) (Shutd.step h (j := 8) (k := 7) (by kernel_rfl) (Shutd.step h (j := 9) (k := 8) (by kernel_rfl) (Shutd.step h (j := 11) (k := 9) (by kernel_rfl) h9)))))) (fun l => getD_set_ne false (by decide)) (fun _ _ _ h => h) (Or.inl ⟨by rfl, ?yaF4⟩) (HSW.out _ (Below.refl _ _)) (fun hshF4 => ?_)
                    case yaF4 => (intro w hS; obtain ⟨s5, s6⟩ := hS; go_simp; (try with_reducible rfl))
                    simp only [Act.put, List.getElem_toArray, List.getElem_cons_zero, List.getElem_cons_succ, List.setIfInBounds_toArray, List.set_cons_zero, List.set_cons_succ] at hshF4 ⊢
                    refine wpTill_take (i := 5) (v := ?vaF5) rfl (by kernel_rfl) (by kernel_rfl) (by kernel_rfl) hshF4 (fun l h h9 => (Shutd.step h (j := 6) (k := 5) (by kernel_rfl) (Shutd.step h (j := 7) (k := 6) (by kernel_rfl) (Shutd.step h (j := 8) (k := 7) (by kernel_rfl) (Shutd.step h (j := 9) (k := 8) (by kernel_rfl) (Shutd.step h (j := 11) (k := 9) (by kernel_rfl) h9)))))) (fun l => getD_set_ne false (by decide)) (fun _ _ _ h => h) (Or.inl ⟨by rfl, ?yaF5⟩) (HSW.out _ (Below.refl _ _)) (fun hshF5 => ?_)
                    case yaF5 => (intro w hS; obtain ⟨s5, s6⟩ := hS; go_simp; (try with_reducible rfl))
                    simp only [Act.put, List.getElem_toArray, List.getElem_cons_zero, List.getElem_cons_succ, List.setIfInBounds_toArray, List.set_cons_zero, List.set_cons_succ] at hshF5 ⊢
                    refine wpTill_take (i := 6) (v := ?vaF6) rfl (by kernel_rfl) (by kernel_rfl) (by kernel_rfl) hshF5 (fun l h h9 => (Shutd.step h (j := 7) (k := 6) (by kernel_rfl) (Shutd.step h (j := 8) (k := 7) (by kernel_rfl) (Shutd.step h (j := 9) (k := 8) (by kernel_rfl) (Shutd.step h (j := 11) (k := 9) (by kernel_rfl) h9))))) (fun l => getD_set_ne false (by decide)) (fun _ _ _ h => h) (Or.inl ⟨by rfl, ?yaF6⟩) (HSW.out _ (Below.refl _ _)) (fun hshF6 => ?_)
                    case yaF6 => (intro w hS; obtain ⟨s5, s6⟩ := hS; go_simp; (try with_reducible rfl))
                    simp only [Act.put, List.getElem_toArray, List.getElem_cons_zero, List.getElem_cons_succ, List.setIfInBounds_toArray, List.set_cons_zero, List.set_cons_succ] at hshF6 ⊢
                    refine wpTill_take (i := 7) (v := ?vaF7) rfl (by kernel_rfl) (by kernel_rfl) (by kernel_rfl) hshF6 (fun l h h9 => (Shutd.step h (j := 8) (k := 7) (by kernel_rfl) (Shutd.step h (j := 9) (k := 8) (by kernel_rfl) (Shutd.step h (j := 11) (k := 9) (by kernel_rfl) h9)))) (fun l => getD_set_ne false (by decide)) (fun _ _ _ h => h) (Or.inl ⟨by rfl, ?yaF7⟩) (HSW.out _ (Below.refl _ _)) (fun hshF7 => ?_)
                    case yaF7 => (intro w hS; obtain ⟨s5, s6⟩ := hS; go_simp; (try with_reducible rfl))
                    simp only [Act.put, List.getElem_toArray, List.getElem_cons_zero, List.getElem_cons_succ, List.setIfInBounds_toArray, List.set_cons_zero, List.set_cons_succ] at hshF7 ⊢
                    refine wpTill_ready (rs := [8]) (by kernel_rfl) (by simp) ?_
                    refine (AllTill.cons rfl (fun KK hKK => ?_) AllTill.nil)
                    rw [if_pos (by rfl)]
                    go_simp
                    refine hKK _ _ (fun _ => HSW.out _ (Below.alloc (Below.refl _ _) HO4.out.le _)) ?_
                    clear hKK KK
                    simp only [Act.put, List.getElem_toArray, List.getElem_cons_zero, List.getElem_cons_succ, List.setIfInBounds_toArray, List.set_cons_zero, List.set_cons_succ]
                    refine wpTill_ready (rs := [9]) (by kernel_rfl) (by simp) ?_
                    refine (AllTill.cons rfl (fun KK hKK => ?_) AllTill.nil)
                    rw [if_pos (by rfl)]
                    refine wp_own_append _ _ 36 4 (.bool false) 1 1 rfl Tryz.underlying36 info4 rfl (by decide) HO4.out rfl [.bool false] 1 rfl rfl (by simp [Value.oneCell']) rfl (by have := HBq.out; unfold maxLen; omega) (by have := HBq.out; omega) ?_
                    intro v' w9 hO9 hb9 _
                    obtain ⟨K9, c9, rfl, _⟩ := RowT.own hO9
                    have HN := Lib.hid (HM4.out.app HBl.out.1 HBl.out.2.1 HBl.out.2.2 hb9 false hO9 (by have := HBq.out; omega))
                    have hy9 : EvBox w9 yb ⟨8, xa, xb, xn, xd, L, []⟩ K none kc 0 := (hb9.block yb HBl.out.2.1).trans HM4.out.ybox
                    have y5 := hy9.cells.2.2.2.2.2.1
                    have yf := blk_free hy9 5
                    have ylt : yb < w9.heap.size := (Array.getElem?_eq_some_iff.1 hy9).1
                    have HSB := Lib.hid hb9
                    refine hKK _ _ (fun _ => HSW.out _ hb9) ?_
                    clear hKK KK hO9 hb9 hy9 HM4 HO4
                    simp only [Act.put, List.getElem_toArray, List.getElem_cons_zero, List.getElem_cons_succ, List.setIfInBounds_toArray, List.set_cons_zero, List.set_cons_succ]
                    refine wpTill_ready (rs := [10]) (by kernel_rfl) (by simp) ?_
                    refine (AllTill.cons rfl (fun KK hKK => ?_) AllTill.nil)
                    rw [if_pos (by rfl)]
                    go_simp
                    refine hKK _ _ (fun _ => HSW.out _ HSB.out) ?_
                    clear hKK KK
                    simp only [Act.put, List.getElem_toArray, List.getElem_cons_zero, List.getElem_cons_succ, List.setIfInBounds_toArray, List.set_cons_zero, List.set_cons_succ]
                    refine wpTill_ready (rs := [11]) (by kernel_rfl) (by simp) ?_
                    refine (AllTill.cons rfl (fun KK hKK => ?_) AllTill.nil)
                    rw [if_pos (by rfl)]
                    go_simp
                    refine hKK _ _ (fun h => absurd h (by decide)) ?_
                    clear hKK KK y5 yf ylt HSW
                    simp only [Act.put, List.getElem_toArray, List.getElem_cons_zero, List.getElem_cons_succ, List.setIfInBounds_toArray, List.set_cons_zero, List.set_cons_succ]
                    refine wpTill_done (by kernel_rfl) ?_ _
                    generalize w9.setCell ⟨yb, 5, none⟩ (.slice K9 (L.length + 1) c9) = w5 at HN ⊢
                    have hqi : (L.length : Int) ≤ 1048576 := by have := HBq.out; omega
                    go_wp2_with fail
                    go_roundw
                    case rel => exact ⟨K9, c9, L ++ [false], by simp; omega, by (have e9 : ((L ++ [false]).length : Int) = (L.length : Int) + 1 := by simp); rw [e9], HN.out.1, HN.out.2, HLB.out false rfl rfl⟩
                    case measure => simp [intOf]; omega
                  · by_cases h49 : c1.toNat = 49
                    · rw [decide_eq_false h48] at e48 f48 HLB
                      rw [decide_eq_true h49] at e49 f49 HLB
                      have y5 := HM.out.ybox.cells.2.2.2.2.2.1
                      simp only at y5
                      clear h48 h49 HTC
                      rw [Bool.not_false] at f48
                      rw [Bool.not_true] at f49
                      go_upto_region 32 with fail
                      have HM4 : Hid (EvMid w wr.drew rb yb ⟨8, xa, xb, xn, xd, L, []⟩ K none kc 0) := Lib.hid (HM.out.next (below_drewN (Below.refl _ _) 1))
                      have HO4 : Hid (Own 4 1 Bl (.slice K L.length kc) L.length (boolCells L) wr.drew) := Lib.hid (HO.out.next (below_drewN (Below.refl _ _) 1))
                      refine wp_region_any (by kernel_rfl) ?_
                      change wpAny _ _ _ _ _ _ _ (World.drew _)
                      generalize wr.drew = w4 at HM4 HO4 ⊢
                      have HSW : Hid (∀ W, Below Bl w4 W → W.cell? ⟨yb, 5, none⟩ = some (.slice K L.length kc) ∧ W.cell? ⟨b, off + (1 + vs), none⟩ = some (.string S)) := Lib.hid (fun W h => ⟨(EvBox.cells ((h.block yb HBl.out.2.1).trans HM4.out.ybox)).2.2.2.2.2.1, HRC.out _ (HM4.out.below.trans (h.mono HBl.out.2.2))⟩)
                      have q0 : (0 : Int) ≤ (L.length : Int) + 1 := by omega
                      clear HM HO y5 rc
                      refine wpAny_of_till (S := fun W => W.cell? ⟨yb, 5, none⟩ = some (.slice K L.length kc) ∧ W.cell? ⟨b, off + (1 + vs), none⟩ = some (.string S)) (st := fun l => l.getD 11 false) _ _ _ _ ?_
                      change wpTill _ _ _ _ _ _ _ #[false, false, false, false, false, false, false, false, false, false, false, false] _ _
                      refine wpTill_take (i := 0) (v := ?vaT0) rfl (by kernel_rfl) (by kernel_rfl) (by kernel_rfl) (show Shutd _ _ #[false, false, false, false, false, false, false, false, false, false, false, false] from Shutd.start 12) (fun l h h9 => (Shutd.step h (j := 1) (k := 0) (by kernel_rfl) (Shutd.step h (j := 9) (k := 1) (by kernel_rfl) (Shutd.step h (j := 11) (k := 9) (by kernel_rfl) h9)))) (fun l => getD_set_ne false (by decide)) (fun _ _ _ h => h) (Or.inl ⟨by rfl, ?yaT0⟩) (HSW.out _ (Below.refl _ _)) (fun hshT0 => ?_)
                      case yaT0 => (intro w hS; obtain ⟨s5, s6⟩ := hS; go_simp; (try with_reducible rfl))
                      simp only [Act.put, List.getElem_toArray, List.getElem_cons_zero, List.getElem_cons_succ, List.setIfInBounds_toArray, List.set_cons_zero, List.set_cons_succ] at hshT0 ⊢
                      refine wpTill_take (i := 1) (v := ?vaT1) rfl (by kernel_rfl) (by kernel_rfl) (by kernel_rfl) hshT0 (fun l h h9 => (Shutd.step h (j := 9) (k := 1) (by kernel_rfl) (Shutd.step h (j := 11) (k := 9) (by kernel_rfl) h9))) (fun l => getD_set_ne false (by decide)) (fun _ _ _ h => h) (Or.inl ⟨by rfl, ?yaT1⟩) (HSW.out _ (Below.refl _ _)) (fun hshT1 => ?_)
                      case yaT1 => (intro w hS; obtain ⟨s5, s6⟩ := hS; go_simp; (try with_reducible rfl))
                      simp only [Act.put, List.getElem_toArray, List.getElem_cons_zero, List.getElem_cons_succ, List.setIfInBounds_toArray, List.set_cons_zero, List.set_cons_succ] at hshT1 ⊢
                      refine wpTill_take (i := 2) (v := ?vaT2) rfl (by kernel_rfl) (by kernel_rfl) (by kernel_rfl) hshT1 (fun l h h9 => (Shutd.step h (j := 3) (k := 2) (by kernel_rfl) (Shutd.step h (j := 4) (k := 3) (by kernel_rfl) (Shutd.step h (j := 6) (k := 4) (by kernel_rfl) (Shutd.step h (j := 7) (k := 6) (by kernel_rfl) (Shutd.step h (j := 8) (k := 7) (by kernel_rfl) (Shutd.step h (j := 9) (k := 8) (by kernel_rfl) (Shutd.step h (j := 11) (k := 9) (by kernel_rfl) h9)))))))) (fun l => getD_set_ne false (by decide)) (fun _ _ _ h => h) (Or.inl ⟨by rfl, ?yaT2⟩) (HSW.out _ (Below.refl _ _)) (fun hshT2 => ?_)
                      case yaT2 => (intro w hS; obtain ⟨s5, s6⟩ := hS; go_simp; (try with_reducible rfl))
                      simp only [Act.put, List.getElem_toArray, List.getElem_cons_zero, List.getElem_cons_succ, List.setIfInBounds_toArray, List.set_cons_zero, List.set_cons_succ] at hshT2 ⊢
                      refine wpTill_take (i := 3) (v := ?vaT3) rfl (by kernel_rfl) (by kernel_rfl) (by kernel_rfl) hshT2 (fun l h h9 => (Shutd.step h (j := 4) (k := 3) (by kernel_rfl) (Shutd.step h (j := 6) (k := 4) (by kernel_rfl) (Shutd.step h (j := 7) (k := 6) (by kernel_rfl) (Shutd.step h (j := 8) (k := 7) (by kernel_rfl) (Shutd.step h (j := 9) (k := 8) (by kernel_rfl) (Shutd.step h (j := 11) (k := 9) (by kernel_rfl) h9))))))) (fun l => getD_set_ne false (by decide)) (fun _ _ _ h => h) (Or.inl ⟨by rfl, ?yaT3⟩) (HSW.out _ (Below.refl _ _)) (fun hshT3 => ?_)
                      case yaT3 => (intro w hS; obtain ⟨s5, s6⟩ := hS; go_simp; (try with_reducible rfl))
                      simp only [Act.put, List.getElem_toArray, List.getElem_cons_zero, List.getElem_cons_succ, List.setIfInBounds_toArray, List.set_cons_zero, List.set_cons_succ] at hshT3 ⊢
                      refine wpTill_take (i := 4) (v := ?vaT4) rfl (by kernel_rfl) (by kernel_rfl) (by kernel_rfl) hshT3 (fun l h h9 => (Shutd.step h (j := 6) (k := 4) (by kernel_rfl) (Shutd.step h (j := 7) (k := 6) (by kernel_rfl) (Shutd.step h (j := 8) (k := 7) (by kernel_rfl) (Shutd.step h (j := 9) (k := 8) (by kernel_rfl) (Shutd.step h (j := 11) (k := 9) (by kernel_rfl) h9)))))) (fun l => getD_set_ne false (by decide)) (fun _ _ _ h => h) (Or.inl ⟨by rfl, ?yaT4⟩) (HSW.out _ (Below.refl _ _)) (fun hshT4 => ?_)
                      case yaT4 => (intro w hS; obtain ⟨s5, s6⟩ := hS; go_simp; (try with_reducible rfl))
                      simp only [Act.put, List.getElem_toArray, List.getElem_cons_zero, List.getElem_cons_succ, List.setIfInBounds_toArray, List.set_cons_zero, List.set_cons_succ] at hshT4 ⊢
                      refine wpTill_take (i := 5) (v := ?vaT5) rfl (by kernel_rfl) (by kernel_rfl) (by kernel_rfl) hshT4 (fun l h h9 => (Shutd.step h (j := 6) (k := 5) (by kernel_rfl) (Shutd.step h (j := 7) (k := 6) (by kernel_rfl) (Shutd.step h (j := 8) (k := 7) (by kernel_rfl) (Shutd.step h (j := 9) (k := 8) (by kernel_rfl) (Shutd.step h (j := 11) (k := 9) (by kernel_rfl) h9)))))) (fun l => getD_set_ne false (by decide)) (fun _ _ _ h => h) (Or.inl ⟨by rfl, ?yaT5⟩) (HSW.out _ (Below.refl _ _)) (fun hshT5 => ?_)
                      case yaT5 => (intro w hS; obtain ⟨s5, s6⟩ := hS; go_simp; (try with_reducible rfl))
                      simp only [Act.put, List.getElem_toArray, List.getElem_cons_zero, List.getElem_cons_succ, List.setIfInBounds_toArray, List.set_cons_zero, List.set_cons_succ] at hshT5 ⊢
                      refine wpTill_take (i := 6) (v := ?vaT6) rfl (by kernel_rfl) (by kernel_rfl) (by kernel_rfl) hshT5 (fun l h h9 => (Shutd.step h (j := 7) (k := 6) (by kernel_rfl) (Shutd.step h (j := 8) (k := 7) (by kernel_rfl) (Shutd.step h (j := 9) (k := 8) (by kernel_rfl) (Shutd.step h (j := 11) (k := 9) (by kernel_rfl) h9))))) (fun l => getD_set_ne false (by decide)) (fun _ _ _ h => h) (Or.inl ⟨by rfl, ?yaT6⟩) (HSW.out _ (Below.refl _ _)) (fun hshT6 => ?_)
                      case yaT6 => (intro w hS; obtain ⟨s5, s6⟩ := hS; go_simp; (try with_reducible rfl))
                      simp only [Act.put, List.getElem_toArray, List.getElem_cons_zero, List.getElem_cons_succ, List.setIfInBounds_toArray, List.set_cons_zero, List.set_cons_succ] at hshT6 ⊢
                      refine wpTill_take (i := 7) (v := ?vaT7) rfl (by kernel_rfl) (by kernel_rfl) (by kernel_rfl) hshT6 (fun l h h9 => (Shutd.step h (j := 8) (k := 7) (by kernel_rfl) (Shutd.step h (j := 9) (k := 8) (by kernel_rfl) (Shutd.step h (j := 11) (k := 9) (by kernel_rfl) h9)))) (fun l => getD_set_ne false (by decide)) (fun _ _ _ h => h) (Or.inl ⟨by rfl, ?yaT7⟩) (HSW.out _ (Below.refl _ _)) (fun hshT7 => ?_)
                      case yaT7 => (intro w hS; obtain ⟨s5, s6⟩ := hS; go_simp; (try with_reducible rfl))
                      simp only [Act.put, List.getElem_toArray, List.getElem_cons_zero, List.getElem_cons_succ, List.setIfInBounds_toArray, List.set_cons_zero, List.set_cons_succ] at hshT7 ⊢
                      refine wpTill_ready (rs := [8]) (by kernel_rfl) (by simp) ?_
                      refine (AllTill.cons rfl (fun KK hKK => ?_) AllTill.nil)
                      rw [if_pos (by rfl)]
                      go_simp
                      refine hKK _ _ (fun _ => HSW.out _ (Below.alloc (Below.refl _ _) HO4.out.le _)) ?_
                      clear hKK KK
                      simp only [Act.put, List.getElem_toArray, List.getElem_cons_zero, List.getElem_cons_succ, List.setIfInBounds_toArray, List.set_cons_zero, List.set_cons_succ]
                      refine wpTill_ready (rs := [9]) (by kernel_rfl) (by simp) ?_
                      refine (AllTill.cons rfl (fun KK hKK => ?_) AllTill.nil)
                      rw [if_pos (by rfl)]
                      refine wp_own_append _ _ 36 4 (.bool false) 1 1 rfl Tryz.underlying36 info4 rfl (by decide) HO4.out rfl [.bool true] 1 rfl rfl (by simp [Value.oneCell']) rfl (by have := HBq.out; unfold maxLen; omega) (by have := HBq.out; omega) ?_
                      intro v' w9 hO9 hb9 _
                      obtain ⟨K9, c9, rfl, _⟩ := RowT.own hO9
                      have HN := Lib.hid (HM4.out.app HBl.out.1 HBl.out.2.1 HBl.out.2.2 hb9 true hO9 (by have := HBq.out; omega))
                      have hy9 : EvBox w9 yb ⟨8, xa, xb, xn, xd, L, []⟩ K none kc 0 := (hb9.block yb HBl.out.2.1).trans HM4.out.ybox
                      have y5 := hy9.cells.2.2.2.2.2.1
                      have yf := blk_free hy9 5
                      have ylt : yb < w9.heap.size := (Array.getElem?_eq_some_iff.1 hy9).1
                      have HSB := Lib.hid hb9
                      refine hKK _ _ (fun _ => HSW.out _ hb9) ?_
                      clear hKK KK hO9 hb9 hy9 HM4 HO4
                      simp only [Act.put, List.getElem_toArray, List.getElem_cons_zero, List.getElem_cons_succ, List.setIfInBounds_toArray, List.set_cons_zero, List.set_cons_succ]
                      refine wpTill_ready (rs := [10]) (by kernel_rfl) (by simp) ?_
                      refine (AllTill.cons rfl (fun KK hKK => ?_) AllTill.nil)
                      rw [if_pos (by rfl)]
                      go_simp
                      refine hKK _ _ (fun _ => HSW.out _ HSB.out) ?_
                      clear hKK KK
                      simp only [Act.put, List.getElem_toArray, List.getElem_cons_zero, List.getElem_cons_succ, List.setIfInBounds_toArray, List.set_cons_zero, List.set_cons_succ]
                      refine wpTill_ready (rs := [11]) (by kernel_rfl) (by simp) ?_
                      refine (AllTill.cons rfl (fun KK hKK => ?_) AllTill.nil)
                      rw [if_pos (by rfl)]
                      go_simp
                      refine hKK _ _ (fun h => absurd h (by decide)) ?_
                      clear hKK KK y5 yf ylt HSW
                      simp only [Act.put, List.getElem_toArray, List.getElem_cons_zero, List.getElem_cons_succ, List.setIfInBounds_toArray, List.set_cons_zero, List.set_cons_succ]
                      refine wpTill_done (by kernel_rfl) ?_ _
                      generalize w9.setCell ⟨yb, 5, none⟩ (.slice K9 (L.length + 1) c9) = w5 at HN ⊢
                      have hqi : (L.length : Int) ≤ 1048576 := by have := HBq.out; omega
                      go_wp2_with fail
                      go_roundw
                      case rel => exact ⟨K9, c9, L ++ [true], by simp; omega, by (have e9 : ((L ++ [true]).length : Int) = (L.length : Int) + 1 := by simp); rw [e9], HN.out.1, HN.out.2, HLB.out true rfl rfl⟩
                      case measure => simp [intOf]; omega
                    · rw [decide_eq_false h48] at e48 f48 HLB
                      rw [decide_eq_false h49] at e49 f49 HLB
                      rw [Bool.not_false] at f48 f49
                      have HE : Hid ((Rf.evR (L0 :: lt)).2 = false) := Lib.hid (by rw [HE.out, isBits_no HTC.out h48 h49]; rfl)
                      have HXm := Lib.hid HM.out.rbox
                      have HBm := Lib.hid HM.out.below
                      clear HM
                      have hzc := HXm.out
                      have d0 := (blk_cells hzc 0).trans rfl
                      have d1 := (blk_cells hzc 1).trans rfl
                      have d2 := (blk_cells hzc 2).trans rfl
                      have d3 := (blk_cells hzc 3).trans rfl
                      have d4 := (blk_cells hzc 4).trans rfl
                      have d5 := (blk_cells hzc 5).trans rfl
                      have d6 := (blk_cells hzc 6).trans rfl
                      have df := fun i => blk_free hzc i
                      have dlt := (Array.getElem?_eq_some_iff.1 hzc).1
                      have hz := EvBox.self hzc
                      simp only [List.length_nil] at hz
                      clear hzc
                      go_wp2_with fail
                      exact bodyPost_ret (v := .tuple #[evV zEv none none 0 0, .bool false]) (by simp [results, Tryz.results36, go_sem, evV, d0, d1, d2, d3, d4, d5, d6]) rfl (EvOut.none HE.out HBm.out)
                · have hLT : L = Sc.bitsOf T ∧ Sc.isBits T = true := by
                    have hL2 : L.length = q := by omega
                    have h8 := HL.out
                    rw [hL2, ← HTL.out, List.take_length] at h8
                    exact h8
                  rw [hLT.2, Bool.true_and, ← hLT.1] at HE
                  clear hLT HL
                  go_upto_region 33 with fail
                  have HMD : Hid (EvMid w wr.drew rb yb (⟨8, xa, xb, xn, xd, L, []⟩ : Sc.Ev) K none kc 0) := Lib.hid (HM.out.next (below_drewN (Below.refl _ _) 1))
                  have HCE : Hid (∀ W, Below wr.heap.size wr W → Calls Tryz.prog 54 #[.agg #[.int .i64 8, .int .i64 xa, .int .i64 xb, .int .i64 xn, .int .i64 xd, .slice K L.length kc, .slice none 0 0]] W fun e w' => e = .returned (.bool (!Sc.wrong (⟨8, xa, xb, xn, xd, L, []⟩ : Sc.Ev))) ∧ Below W.heap.size W w') := Lib.hid (fun W h => refEvent_any (⟨8, xa, xb, xn, xd, L, []⟩ : Sc.Ev) K none kc 0 W (HM.out.next h).rows.at_)
                  generalize (!Sc.wrong (⟨8, xa, xb, xn, xd, L, []⟩ : Sc.Ev)) = wb at HE HCE
                  obtain ⟨c0, c1, c2, c3, c4, c5, c6⟩ := HM.out.ybox.cells
                  have hzc := HM.out.rbox
                  have d0 := (blk_cells hzc 0).trans rfl
                  have d1 := (blk_cells hzc 1).trans rfl
                  have d2 := (blk_cells hzc 2).trans rfl
                  have d3 := (blk_cells hzc 3).trans rfl
                  have d4 := (blk_cells hzc 4).trans rfl
                  have d5 := (blk_cells hzc 5).trans rfl
                  have d6 := (blk_cells hzc 6).trans rfl
                  have df := fun i => blk_free hzc i
                  have dlt := (Array.getElem?_eq_some_iff.1 hzc).1
                  clear hzc
                  simp only [List.length_nil] at c0 c1 c2 c3 c4 c5 c6
                  go_region_with (go_at_call 54; refine (HCE.out _ (below_drewN (Below.refl _ _) 1)).mono ?_; rintro e w9 ⟨rfl, hb9⟩; have HM9 := Lib.hid (HMD.out.next hb9); clear hb9; obtain ⟨g0, g1, g2, g3, g4, g5, g6⟩ := HM9.out.ybox.cells; have hzc := HM9.out.rbox; have q0 := (blk_cells hzc 0).trans rfl; have q1 := (blk_cells hzc 1).trans rfl; have q2 := (blk_cells hzc 2).trans rfl; have q3 := (blk_cells hzc 3).trans rfl; have q4 := (blk_cells hzc 4).trans rfl; have q5 := (blk_cells hzc 5).trans rfl; have q6 := (blk_cells hzc 6).trans rfl; have qf := fun i => blk_free hzc i; have qlt := (Array.getElem?_eq_some_iff.1 hzc).1; clear hzc; simp only [List.length_nil] at g0 g1 g2 g3 g4 g5 g6)
                  all_goals
                    go_wp2_with fail
                    have hp := HM9.out.put
                    simp only [List.length_nil] at hp
                    generalize (((((((w9.setCell ⟨rb, 0, none⟩ (.int .i64 8)).setCell ⟨rb, 1, none⟩ (.int .i64 xa)).setCell ⟨rb, 2, none⟩ (.int .i64 xb)).setCell ⟨rb, 3, none⟩ (.int .i64 xn)).setCell ⟨rb, 4, none⟩ (.int .i64 xd)).setCell ⟨rb, 5, none⟩ (.slice K L.length kc)).setCell ⟨rb, 6, none⟩ (.slice none 0 0)) = W9 at hp ⊢
                    have hq := hp
                    obtain ⟨e0, e1, e2, e3, e4, e5, e6⟩ := hq.2.2.cells
                    simp only [List.length_nil] at e0 e1 e2 e3 e4 e5 e6
                    exact bodyPost_ret (v := .tuple #[evV (⟨8, xa, xb, xn, xd, L, []⟩ : Sc.Ev) K none kc 0, .bool wb]) (by simp [results, Tryz.results36, go_sem, evV, e0, e1, e2, e3, e4, e5, e6]) rfl (EvOut.some _ _ HE.out ⟨hq.1, hq.2.1⟩)
            · have hc0b : ((c0.toNat : Int) == 61) = false := nat_eq (n := 61) (by decide) hc0
              have HE : Hid ((Rf.evR (L0 :: lt)).2 = false) := Lib.hid (by rw [HE0.out, HD.out]; simp [hc0])
              have HXm := Lib.hid HM.out.rbox
              have HBm := Lib.hid HM.out.below
              clear HM
              have hzc := HXm.out
              have d0 := (blk_cells hzc 0).trans rfl
              have d1 := (blk_cells hzc 1).trans rfl
              have d2 := (blk_cells hzc 2).trans rfl
              have d3 := (blk_cells hzc 3).trans rfl
              have d4 := (blk_cells hzc 4).trans rfl
              have d5 := (blk_cells hzc 5).trans rfl
              have d6 := (blk_cells hzc 6).trans rfl
              have df := fun i => blk_free hzc i
              have dlt := (Array.getElem?_eq_some_iff.1 hzc).1
              have hz := EvBox.self hzc
              simp only [List.length_nil] at hz
              clear hzc
              go_wp2_with fail
              exact bodyPost_ret (v := .tuple #[evV zEv none none 0 0, .bool false]) (by simp [results, Tryz.results36, go_sem, evV, d0, d1, d2, d3, d4, d5, d6]) rfl (EvOut.none HE.out HBm.out)
          · have hm1b : ((m : Int) == 1) = false := by rw [beq_eq_false_iff_ne]; omega
            have HE : Hid ((Rf.evR (L0 :: lt)).2 = false) := Lib.hid (by rw [HEV.out]; unfold Rf.evTail; rw [if_neg (show ¬ (8 : Int) = 1 by decide), if_pos rfl]; simp only; rw [decide_eq_false (by rw [HRL.out]; exact hm1)]; rfl)
            have HXm := Lib.hid HM.out.rbox
            have HBm := Lib.hid HM.out.below
            clear HM
            have hzc := HXm.out
            have d0 := (blk_cells hzc 0).trans rfl
            have d1 := (blk_cells hzc 1).trans rfl
            have d2 := (blk_cells hzc 2).trans rfl
            have d3 := (blk_cells hzc 3).trans rfl
            have d4 := (blk_cells hzc 4).trans rfl
            have d5 := (blk_cells hzc 5).trans rfl
            have d6 := (blk_cells hzc 6).trans rfl
            have df := fun i => blk_free hzc i
            have dlt := (Array.getElem?_eq_some_iff.1 hzc).1
            have hz := EvBox.self hzc
            simp only [List.length_nil] at hz
            clear hzc
            go_wp2_with fail
            exact bodyPost_ret (v := .tuple #[evV zEv none none 0 0, .bool false]) (by simp [results, Tryz.results36, go_sem, evV, d0, d1, d2, d3, d4, d5, d6]) rfl (EvOut.none HE.out HBm.out)
        have hk8b : (kd == 8) = false := by rw [beq_eq_false_iff_ne]; exact hk8
        by_cases hm0 : m = 0
        · subst hm0
          have HE : Hid (Rf.evR (L0 :: lt) = ((⟨kd, xa, xb, xn, xd, [], []⟩ : Sc.Ev), !Sc.wrong (⟨kd, xa, xb, xn, xd, [], []⟩ : Sc.Ev))) := Lib.hid (by rw [HEV.out]; unfold Rf.evTail; rw [if_neg HK1.out, if_neg hk8, HRL.out]; rfl)
          clear hk8
          go_upto_region 34 with fail
          have HMD : Hid (EvMid w wc.drew rb yb (⟨kd, xa, xb, xn, xd, [], []⟩ : Sc.Ev) none none 0 0) := Lib.hid (HM.out.next (below_drewN (Below.refl _ _) 1))
          have HCE : Hid (∀ W, Below wc.heap.size wc W → Calls Tryz.prog 54 #[.agg #[.int .i64 kd, .int .i64 xa, .int .i64 xb, .int .i64 xn, .int .i64 xd, .slice none 0 0, .slice none 0 0]] W fun e w' => e = .returned (.bool (!Sc.wrong (⟨kd, xa, xb, xn, xd, [], []⟩ : Sc.Ev))) ∧ Below W.heap.size W w') := Lib.hid (fun W h => refEvent_any (⟨kd, xa, xb, xn, xd, [], []⟩ : Sc.Ev) none none 0 0 W (HM.out.next h).rows.at_)
          generalize (!Sc.wrong (⟨kd, xa, xb, xn, xd, [], []⟩ : Sc.Ev)) = wb at HE HCE
          obtain ⟨c0, c1, c2, c3, c4, c5, c6⟩ := HM.out.ybox.cells
          have hzc := HM.out.rbox
          have d0 := (blk_cells hzc 0).trans rfl
          have d1 := (blk_cells hzc 1).trans rfl
          have d2 := (blk_cells hzc 2).trans rfl
          have d3 := (blk_cells hzc 3).trans rfl
          have d4 := (blk_cells hzc 4).trans rfl
          have d5 := (blk_cells hzc 5).trans rfl
          have d6 := (blk_cells hzc 6).trans rfl
          have df := fun i => blk_free hzc i
          have dlt := (Array.getElem?_eq_some_iff.1 hzc).1
          clear hzc
          simp only [List.length_nil] at c0 c1 c2 c3 c4 c5 c6
          go_region_with (go_at_call 54; refine (HCE.out _ (below_drewN (Below.refl _ _) 1)).mono ?_; rintro e w9 ⟨rfl, hb9⟩; have HM9 := Lib.hid (HMD.out.next hb9); clear hb9; obtain ⟨g0, g1, g2, g3, g4, g5, g6⟩ := HM9.out.ybox.cells; have hzc := HM9.out.rbox; have q0 := (blk_cells hzc 0).trans rfl; have q1 := (blk_cells hzc 1).trans rfl; have q2 := (blk_cells hzc 2).trans rfl; have q3 := (blk_cells hzc 3).trans rfl; have q4 := (blk_cells hzc 4).trans rfl; have q5 := (blk_cells hzc 5).trans rfl; have q6 := (blk_cells hzc 6).trans rfl; have qf := fun i => blk_free hzc i; have qlt := (Array.getElem?_eq_some_iff.1 hzc).1; clear hzc; simp only [List.length_nil] at g0 g1 g2 g3 g4 g5 g6)
          all_goals
            go_wp2_with fail
            have hp := HM9.out.put
            simp only [List.length_nil] at hp
            generalize (((((((w9.setCell ⟨rb, 0, none⟩ (.int .i64 kd)).setCell ⟨rb, 1, none⟩ (.int .i64 xa)).setCell ⟨rb, 2, none⟩ (.int .i64 xb)).setCell ⟨rb, 3, none⟩ (.int .i64 xn)).setCell ⟨rb, 4, none⟩ (.int .i64 xd)).setCell ⟨rb, 5, none⟩ (.slice none 0 0)).setCell ⟨rb, 6, none⟩ (.slice none 0 0)) = W9 at hp ⊢
            have hq := hp
            obtain ⟨e0, e1, e2, e3, e4, e5, e6⟩ := hq.2.2.cells
            simp only [List.length_nil] at e0 e1 e2 e3 e4 e5 e6
            exact bodyPost_ret (v := .tuple #[evV (⟨kd, xa, xb, xn, xd, [], []⟩ : Sc.Ev) none none 0 0, .bool wb]) (by simp [results, Tryz.results36, go_sem, evV, e0, e1, e2, e3, e4, e5, e6]) rfl (EvOut.some _ _ HE.out ⟨hq.1, hq.2.1⟩)
        · have hm0b : ((m : Int) == 0) = false := by rw [beq_eq_false_iff_ne]; omega
          have HE : Hid (Rf.evR (L0 :: lt) = ((⟨kd, xa, xb, xn, xd, [], []⟩ : Sc.Ev), false)) := Lib.hid (by rw [HEV.out]; unfold Rf.evTail; rw [if_neg HK1.out, if_neg hk8, HRL.out, decide_eq_false hm0]; rfl)
          clear hk8
          go_upto_region 34 with fail
          obtain ⟨c0, c1, c2, c3, c4, c5, c6⟩ := HM.out.ybox.cells
          have hzc := HM.out.rbox
          have d0 := (blk_cells hzc 0).trans rfl
          have d1 := (blk_cells hzc 1).trans rfl
          have d2 := (blk_cells hzc 2).trans rfl
          have d3 := (blk_cells hzc 3).trans rfl
          have d4 := (blk_cells hzc 4).trans rfl
          have d5 := (blk_cells hzc 5).trans rfl
          have d6 := (blk_cells hzc 6).trans rfl
          have df := fun i => blk_free hzc i
          have dlt := (Array.getElem?_eq_some_iff.1 hzc).1
          clear hzc
          simp only [List.length_nil] at c0 c1 c2 c3 c4 c5 c6
          go_region_with (fail)
          all_goals
            go_wp2_with fail
            have hp := HM.out.put
            simp only [List.length_nil] at hp
            generalize (((((((wc.setCell ⟨rb, 0, none⟩ (.int .i64 kd)).setCell ⟨rb, 1, none⟩ (.int .i64 xa)).setCell ⟨rb, 2, none⟩ (.int .i64 xb)).setCell ⟨rb, 3, none⟩ (.int .i64 xn)).setCell ⟨rb, 4, none⟩ (.int .i64 xd)).setCell ⟨rb, 5, none⟩ (.slice none 0 0)).setCell ⟨rb, 6, none⟩ (.slice none 0 0)) = W9 at hp ⊢
            have hq : Below w.heap.size w W9.drew ∧ EvT w.heap.size W9.drew (⟨kd, xa, xb, xn, xd, [], []⟩ : Sc.Ev) none none ∧ EvBox W9.drew rb (⟨kd, xa, xb, xn, xd, [], []⟩ : Sc.Ev) none none 0 0 := ⟨hp.1.trans (Below.mono (below_drewN (Below.refl _ _) 1) hp.1.size), hp.2.1.next (below_drewN (Below.refl _ _) 1), hp.2.2.next (below_drewN (Below.refl _ _) 1)⟩
            obtain ⟨e0, e1, e2, e3, e4, e5, e6⟩ := hq.2.2.cells
            simp only [List.length_nil] at e0 e1 e2 e3 e4 e5 e6
            exact bodyPost_ret (v := .tuple #[evV (⟨kd, xa, xb, xn, xd, [], []⟩ : Sc.Ev) none none 0 0, .bool false]) (by simp [results, Tryz.results36, go_sem, evV, e0, e1, e2, e3, e4, e5, e6]) rfl (EvOut.some _ _ HE.out ⟨hq.1, hq.2.1⟩)
end Go.Proofs.YthpojljfmipngaaGreatDoor
