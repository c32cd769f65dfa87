/-
  json.Get. CONDITIONS: the value lies as JV says; counts stay small.
-/
import Derived.Test.YtimioelnnhnbiaaDoorSA
namespace Go.Proofs.YtimioelnnhnbiaaDoor
open Go.RowKit
namespace Js
/-- The first member of a name. -/
def getM : List (Bs × J) → Bs → Option J
  | [], _ => none
  | (n, x) :: t, nm => if n = nm then some x else getM t nm
def getOf (x : J) (nm : Bs) : Option J := if x.kind = 6 then getM x.members nm else none
theorem getM_hit : ∀ {l : List (Bs × J)} {nm : Bs} {k : Nat} {x : J}, l[k]? = some (nm, x) → getM (l.take k) nm = none → getM l nm = some x
  | [], nm, k, x, h, _ => by simp at h
  | (n, y) :: t, nm, 0, x, h, _ => by
    simp at h
    obtain ⟨rfl, rfl⟩ := h
    simp [getM]
  | (n, y) :: t, nm, k + 1, x, h, hn => by
    rw [List.take_succ_cons, getM] at hn
    split at hn
    · cases hn
    · rename_i hne
      rw [getM, if_neg hne]
      exact getM_hit (by simpa using h) hn
theorem getM_step : ∀ {l : List (Bs × J)} {nm n : Bs} {k : Nat} {x : J}, l[k]? = some (n, x) → getM (l.take k) nm = none → n ≠ nm → getM (l.take (k + 1)) nm = none
  | [], nm, n, k, x, h, _, _ => by simp at h
  | (n0, y) :: t, nm, n, 0, x, h, _, hne => by
    simp at h
    obtain ⟨rfl, rfl⟩ := h
    simp [getM, hne]
  | (n0, y) :: t, nm, n, k + 1, x, h, hn, hne => by
    rw [List.take_succ_cons, getM] at hn
    split at hn
    · cases hn
    · rename_i hne0
      rw [List.take_succ_cons, getM, if_neg hne0]
      exact getM_step (by simpa using h) hn hne
end Js
theorem results_cell_tmp {fn : Func} {p q : Tmp} {ty : TypeId} (h : fn.results = #[.cell p ty, .tmp q]) (tmps : Array Value) (P : Program) (w : World) (g : Nat) (cs : Array Value)
    (hp : tmps.getD p undef = .pointer (some ⟨g, 0, none⟩)) (hl : (loadVar ty ⟨g, 0, none⟩).run P w = .ok (.agg cs) w) :
    (results fn tmps).run P w = .ok (.tuple #[.agg cs, tmps.getD q undef]) w := by
  rw [Array.getD_eq_getD_getElem?] at hp
  simp [results, h, hp, asAddr, hl]
def GetOut (S : Nat → Prop) (w : World) (x : Js.J) (nm : Js.Bs) (e : Ending) (w' : World) : Prop :=
  Below w.heap.size w w' ∧ match Js.getOf x nm with
    | some y => ∃ us, e = .returned (.tuple #[.agg us.toArray, .bool true]) ∧ JV w' S y us
    | none => e = .returned (.tuple #[.agg #[.int .i64 0, .bool false, .int .i64 0, .string ⟨#[]⟩, .slice none 0 0, .slice none 0 0], .bool false])
theorem getOut_none {S : Nat → Prop} {w w' : World} {x : Js.J} {nm : Js.Bs} {e : Ending} (h : Js.getOf x nm = none) (hb : Below w.heap.size w w') (he : e = .returned (.tuple #[.agg #[.int .i64 0, .bool false, .int .i64 0, .string ⟨#[]⟩, .slice none 0 0, .slice none 0 0], .bool false])) : GetOut S w x nm e w' := by
  unfold GetOut; rw [h]; exact ⟨hb, he⟩
theorem getOut_some {S : Nat → Prop} {w w' : World} {x y : Js.J} {nm : Js.Bs} {e : Ending} {us : List Value} (h : Js.getOf x nm = some y) (hb : Below w.heap.size w w') (he : e = .returned (.tuple #[.agg us.toArray, .bool true])) (hj : JV w' S y us) : GetOut S w x nm e w' := by
  unfold GetOut; rw [h]; exact ⟨hb, us, he, hj⟩
set_option maxRecDepth 100000 in
set_option maxHeartbeats 8000000 in
theorem get_any (x : Js.J) (nm : Js.Bs) (vs : List Value) (S : Nat → Prop) (w : World) (hjv : JV w S x vs) (hSw : ∀ g, S g → g < w.heap.size) (hn : Js.nodes x ≤ 1073741824) :
    Calls Tryd.prog 16 #[.agg vs.toArray, .string (str nm)] w (GetOut S w x nm) := by
  cases x with | mk k0 b0 n0 t0 l m =>
  have HJ := Lib.hid hjv
  unfold JV at hjv
  obtain ⟨A5, c5, A6, c6, rfl, -, -, -, -⟩ := hjv
  have b1 := below_box w (.cells #[.int .i64 k0, .bool b0, .int .i64 n0, .string (str t0), .slice A5 l.length c5, .slice A6 m.length c6] 25)
  have s1 : (w.alloc (.cells #[.int .i64 k0, .bool b0, .int .i64 n0, .string (str t0), .slice A5 l.length c5, .slice A6 m.length c6] 25)).heap.size = w.heap.size + 1 := by simp
  have e1 : JBox _ _ _ _ _ _ _ _ := heap_alloc_new w (.cells #[.int .i64 k0, .bool b0, .int .i64 n0, .string (str t0), .slice A5 l.length c5, .slice A6 m.length c6] 25)
  have b2 := below_box (w.alloc (.cells #[.int .i64 k0, .bool b0, .int .i64 n0, .string (str t0), .slice A5 l.length c5, .slice A6 m.length c6] 25)) (.cells #[.int .i64 0, .bool false, .int .i64 0, .string ⟨#[]⟩, .slice none 0 0, .slice none 0 0] 25)
  have e2 : JBox _ _ _ _ _ _ _ _ := heap_alloc_new (w.alloc (.cells #[.int .i64 k0, .bool b0, .int .i64 n0, .string (str t0), .slice A5 l.length c5, .slice A6 m.length c6] 25)) (.cells #[.int .i64 0, .bool false, .int .i64 0, .string ⟨#[]⟩, .slice none 0 0, .slice none 0 0] 25)
  rw [s1] at e2
  have HE1 := Lib.hid (e1.next b2)
  have HE2 := Lib.hid e2
  have HJ2 := Lib.hid ((HJ.out.next b1).next b2)
  have HW2 := Lib.hid (b1.trans (b2.mono (by rw [s1]; omega)))
  have hml := Js.length_nodesM m
  have hnodes : 1 + Js.nodesL l + Js.nodesM m ≤ 1073741824 := hn
  have HG : Hid (Js.getOf (.mk k0 b0 n0 t0 l m) nm = if k0 = 6 then Js.getM m nm else none) := Lib.hid rfl
  clear b1 b2 e1 e2 s1 HJ hn
  go_enter Tryd.func16, Tryd.ntmps16
  go_upto_region 1 with fail
  generalize ((w.alloc (.cells #[.int .i64 k0, .bool b0, .int .i64 n0, .string (str t0), .slice A5 l.length c5, .slice A6 m.length c6] 25)).alloc (.cells #[.int .i64 0, .bool false, .int .i64 0, .string ⟨#[]⟩, .slice none 0 0, .slice none 0 0] 25)) = w2 at HE1 HE2 HJ2 HW2 ⊢
  obtain ⟨x0, x1, x2, x3, x4, x5⟩ := HE1.out.cells
  obtain ⟨f0, f1, f2, f3, f4, f5⟩ := HE2.out.frees
  obtain ⟨z0, z1, z2, z3, z4, z5⟩ := HE2.out.cells
  by_cases h6 : k0 = 6
  rotate_left
  · have hb : (k0 != 6) = true := by simpa using h6
    have HN : Hid (Js.getOf (.mk k0 b0 n0 t0 l m) nm = none) := Lib.hid (by rw [HG.out, if_neg h6])
    obtain ⟨hk, hx⟩ := j25_set (.int .i64 0) (.bool false) (.int .i64 0) (.string ⟨#[]⟩) (.slice none 0 0) (.slice none 0 0) HE2.out
    have HK := Lib.hid hk
    have HX := Lib.hid hx
    clear h6 hk hx
    go_wp2_with fail
    refine bodyPost_ret (results_cell_tmp rfl _ _ _ (w.heap.size + 1) #[.int .i64 0, .bool false, .int .i64 0, .string ⟨#[]⟩, .slice none 0 0, .slice none 0 0] rfl (j25_load HX.out)) rfl ?_
    exact getOut_none HN.out (HW2.out.trans (HK.out.to HW2.out.size (by intro j hj; simp at hj; omega))) rfl
  have hb : ((6 : Int) != 6) = false := by decide
  subst h6
  have HG6 : Hid (Js.getOf (.mk 6 b0 n0 t0 l m) nm = Js.getM m nm) := Lib.hid (by rw [HG.out, if_pos rfl])
  have hmm := HJ2.out
  unfold JV at hmm
  obtain ⟨_, _, _, _, hvs, -, -, -, hmm⟩ := hmm
  simp only [List.cons.injEq, Value.slice.injEq, and_true, true_and] at hvs
  obtain ⟨⟨rfl, rfl⟩, rfl, rfl⟩ := hvs
  have HM := Lib.hid hmm
  clear hmm HG HJ2
  go_wp2_with fail
  clear x0 x1 x2 x3 x4 x5 z0 z1 z2 z3 z4 z5 f0 f1 f2 f3 f4 f5
  go_loopw [15] (fun i wr => ∃ k : Nat, k ≤ m.length ∧ i = .int .i64 k ∧ Hid (Js.getM (m.take k) nm = none) ∧ Hid (Below w2.heap.size w2 wr)) (fun i _ => m.length - (intOf i).toNat)
  case atStart => exact ⟨0, Nat.zero_le _, rfl, Lib.hid rfl, Lib.hid (Below.refl _ _)⟩
  case round =>
    obtain ⟨k, hk, rfl, HS, HW⟩ := hrel
    by_cases hlt : k < m.length
    · obtain ⟨n9, y, hy⟩ : ∃ n9 y, m[k]? = some (n9, y) := ⟨m[k].1, m[k].2, List.getElem?_eq_getElem hlt⟩
      obtain ⟨g, o, k1, b1, n1, t1, A7, l7, c7, A8, l8, c8, hA, hSg, hg, q0, q1, q2, q3, q4, q5, q6, hjy⟩ := (JM.next HM.out HW.out).elem hy
      subst hA
      have hbel := below_box wr (.cells #[.string (str n9), .int .i64 k1, .bool b1, .int .i64 n1, .string t1, .slice A7 l7 c7, .slice A8 l8 c8] 43)
      have HB := Lib.hid (heap_alloc_new wr (.cells #[.string (str n9), .int .i64 k1, .bool b1, .int .i64 n1, .string t1, .slice A7 l7 c7, .slice A8 l8 c8] 43))
      have HW1 := Lib.hid (HW.out.trans (hbel.mono HW.out.size))
      have HJy := Lib.hid (hjy.next hbel)
      have HE := Lib.hid (HE2.out.next (HW.out.trans (hbel.mono HW.out.size)))
      have HY := Lib.hid hy
      clear hbel hjy hSg hy
      go_upto_region 6 with fail
      generalize (wr.alloc (.cells #[.string (str n9), .int .i64 k1, .bool b1, .int .i64 n1, .string t1, .slice A7 l7 c7, .slice A8 l8 c8] 43)) = w3 at HB HW1 HJy HE ⊢
      generalize wr.heap.size = Y at HB ⊢
      clear q0 q1 q2 q3 q4 q5 q6 hg
      obtain ⟨y0, y1, y2, y3, y4, y5, y6⟩ := blk7 HB.out
      have hst := str_beq n9 nm
      by_cases hnm : n9 = nm
      · have HR : Hid (Js.getOf (.mk 6 b0 n0 t0 l m) nm = some y) := Lib.hid (by rw [HG6.out]; exact Js.getM_hit (by rw [← hnm]; exact HY.out) HS.out)
        rw [decide_eq_true hnm] at hst
        obtain ⟨f0, f1, f2, f3, f4, f5⟩ := HE.out.frees
        obtain ⟨z0, z1, z2, z3, z4, z5⟩ := HE.out.cells
        obtain ⟨hk4, hx4⟩ := j25_set (.int .i64 k1) (.bool b1) (.int .i64 n1) (.string t1) (.slice A7 l7 c7) (.slice A8 l8 c8) HE.out
        have HK := Lib.hid hk4
        have HX := Lib.hid hx4
        have HWW := Lib.hid (HW2.out.trans (HW1.out.mono HW2.out.size))
        clear hk4 hx4 hnm
        go_wp2_with fail
        refine bodyPost_ret (results_cell_tmp rfl _ _ _ (w.heap.size + 1) #[.int .i64 k1, .bool b1, .int .i64 n1, .string t1, .slice A7 l7 c7, .slice A8 l8 c8] rfl (j25_load HX.out)) rfl ?_
        refine getOut_some HR.out (HWW.out.trans (HK.out.to HWW.out.size (by intro j hj; simp at hj; omega))) rfl ?_
        exact HJy.out.but HK.out (by intro j hj; simp at hj; subst hj; intro hS'; exact absurd (hSw _ hS') (by omega))
      · have HN : Hid (Js.getM (m.take (k + 1)) nm = none) := Lib.hid (Js.getM_step HY.out HS.out hnm)
        rw [decide_eq_false hnm] at hst
        clear hnm
        go_wp2_with fail
        go_roundw
        case rel => exact ⟨k + 1, by omega, by go_num, HN, HW1⟩
        case measure => simp [intOf]; omega
    · obtain rfl : k = m.length := by omega
      have HN : Hid (Js.getOf (.mk 6 b0 n0 t0 l m) nm = none) := Lib.hid (by
        rw [HG6.out]
        have := HS.out
        rwa [List.take_length] at this)
      have HE := Lib.hid (HE2.out.next HW.out)
      obtain ⟨f0, f1, f2, f3, f4, f5⟩ := HE.out.frees
      obtain ⟨z0, z1, z2, z3, z4, z5⟩ := HE.out.cells
      obtain ⟨hk4, hx4⟩ := j25_set (.int .i64 0) (.bool false) (.int .i64 0) (.string ⟨#[]⟩) (.slice none 0 0) (.slice none 0 0) HE.out
      have HK := Lib.hid hk4
      have HX := Lib.hid hx4
      have HWW := Lib.hid (HW2.out.trans (HW.out.mono HW2.out.size))
      clear hk4 hx4
      go_wp2_with fail
      refine bodyPost_ret (results_cell_tmp rfl _ _ _ (w.heap.size + 1) #[.int .i64 0, .bool false, .int .i64 0, .string ⟨#[]⟩, .slice none 0 0, .slice none 0 0] rfl (j25_load HX.out)) rfl ?_
      exact getOut_none HN.out (HWW.out.trans (HK.out.to HWW.out.size (by intro j hj; simp at hj; omega))) rfl
end Go.Proofs.YtimioelnnhnbiaaDoor
