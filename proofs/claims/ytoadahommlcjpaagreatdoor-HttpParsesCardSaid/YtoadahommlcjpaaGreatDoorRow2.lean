/-
  PROVED: how headers, a request, a response, a number lie in memory as arguments. CONDITION: as the argument's datum says.
-/
import Derived.Test.YtoadahommlcjpaaGreatDoorRow
import Derived.Test.YtoadahommlcjpaaGreatDoorHds
namespace Go.Proofs.YtoadahommlcjpaaGreatDoor
open Go.ChangeShapes Go.WideShapes Go.ChangeAt Go.RowKit Go.Deep
/-- The fields of a struct, as (type, offset). -/
def fieldsOf (fs : Array Field) : List (TypeId × Nat) := fs.toList.map fun f => (f.type, f.offset)
theorem struct_of {t : TypeId} {l : List (TypeId × Nat)} (h : (match Tryz.prog.underlying t with | some (.struct fs) => decide (fieldsOf fs = l) | _ => false) = true) : ∃ fs, Tryz.prog.underlying t = some (.struct fs) ∧ fieldsOf fs = l := by
  revert h
  cases hu : Tryz.prog.underlying t with
  | none => intro h; cases h
  | some u => cases u <;> intro h <;> first | exact ⟨_, rfl, of_decide_eq_true h⟩ | cases h
theorem field_at {fs : Array Field} {l : List (TypeId × Nat)} (h : fieldsOf fs = l) {j : Nat} {p : TypeId × Nat} (hj : l[j]? = some p) : ∃ f, fs[j]? = some f ∧ f.type = p.1 ∧ f.offset = p.2 := by
  subst h
  unfold fieldsOf at hj
  rw [List.getElem?_map] at hj
  cases hf : fs.toList[j]? with
  | none => rw [hf] at hj; cases hj
  | some f =>
    rw [hf] at hj
    simp only [Option.map_some, Option.some.injEq] at hj
    exact ⟨f, by rw [← hf, Array.getElem?_toList], by rw [← hj], by rw [← hj]⟩
theorem list_of {α : Type} [Inhabited α] (len : Nat) (Q : Nat → α → Prop) (h : ∀ i, i < len → ∃ a, Q i a) : ∃ l : List α, l.length = len ∧ ∀ i a, l[i]? = some a → Q i a := by
  refine ⟨(List.range len).map fun i => if hi : i < len then (h i hi).choose else default, by simp, fun i a ha => ?_⟩
  rw [List.getElem?_map] at ha
  have hil : i < len := by
    rcases Nat.lt_or_ge i len with h' | h'
    · exact h'
    · rw [List.getElem?_eq_none (by simpa using h')] at ha; cases ha
  simp only [List.getElem?_range hil, Option.map_some, hil, dif_pos, Option.some.injEq] at ha
  rw [← ha]
  exact (h i hil).choose_spec
theorem spot_none {w : World} {a : Addr} {v : Value} (h : w.cell? (a.add 0) = some v) : a.spot = none := by
  obtain ⟨b, off, spot⟩ := a
  have := World.cell?_spot h
  simpa [Addr.add] using this
theorem und65 : ∃ fs, Tryz.prog.underlying 65 = some (.struct fs) ∧ fieldsOf fs = [(9, 0), (9, 1)] := struct_of (by kernel_rfl)
theorem und26 : ∃ fs, Tryz.prog.underlying 26 = some (.struct fs) ∧ fieldsOf fs = [(9, 0), (9, 1), (24, 2), (22, 3)] := struct_of (by kernel_rfl)
theorem und36 : ∃ fs, Tryz.prog.underlying 36 = some (.struct fs) ∧ fieldsOf fs = [(3, 0), (24, 1), (22, 2)] := struct_of (by kernel_rfl)
theorem cells65 : Tryz.prog.cellsOf 65 = 2 := by kernel_rfl
theorem cells26 : Tryz.prog.cellsOf 26 = 4 := by kernel_rfl
theorem cells36 : Tryz.prog.cellsOf 36 = 3 := by kernel_rfl
theorem cells24 : Tryz.prog.cellsOf 24 = 1 := by kernel_rfl
theorem cells22 : Tryz.prog.cellsOf 22 = 1 := by kernel_rfl
theorem cells3 : Tryz.prog.cellsOf 3 = 1 := by kernel_rfl
theorem len2 {α : Type} {l : List α} (h : l.length = 2) : ∃ a b, l = [a, b] := by
  match l, h with
  | [a, b], _ => exact ⟨a, b, rfl⟩
theorem len3 {α : Type} {l : List α} (h : l.length = 3) : ∃ a b c, l = [a, b, c] := by
  match l, h with
  | [a, b, c], _ => exact ⟨a, b, c, rfl⟩
theorem len4 {α : Type} {l : List α} (h : l.length = 4) : ∃ a b c d, l = [a, b, c, d] := by
  match l, h with
  | [a, b, c, d], _ => exact ⟨a, b, c, d, rfl⟩
theorem fs_len {fs : Array Field} {l : List (TypeId × Nat)} (hk : fieldsOf fs = l) : fs.size = l.length := by
  have := congrArg List.length hk
  unfold fieldsOf at this
  rw [List.length_map, Array.length_toList] at this
  exact this
theorem bytes_list (s : ByteArray) : s = ⟨s.data.toList.toArray⟩ := by cases s; simp
theorem open_hd {H : Type} {enc : TypeId × Value → H} {w : World} {held : Bool} {fuel : Nat} {cs : List Value} {x : DataW H × List MemPlace} (h : DataW.trod enc Tryz.prog w 0 (fun _ => true) held fuel 65 cs = some x) :
    ∃ r : Ht.Hd, cs = [.string ⟨r.name.toArray⟩, .string ⟨r.value.toArray⟩] ∧ r.name.length ≤ 9223372036854775807 ∧ r.value.length ≤ 9223372036854775807 := by
  obtain ⟨fs, hfs, hk⟩ := und65
  obtain ⟨xs, n, _, _, hl, hlen, hf⟩ := DataW.trod_struct hfs h
  rw [cells65] at hl
  obtain ⟨a, b, rfl⟩ := len2 hl
  have hxl : xs.length = 2 := by have := fs_len hk; simp at this; omega
  obtain ⟨f0, g1, g2, g3⟩ := field_at hk (j := 0) rfl
  obtain ⟨f1, g4, g5, g6⟩ := field_at hk (j := 1) rfl
  have t0 := (hf 0 f0 g1).trans (List.getElem?_eq_getElem (show 0 < xs.length by omega))
  have t1 := (hf 1 f1 g4).trans (List.getElem?_eq_getElem (show 1 < xs.length by omega))
  simp only [g2, g3, cells9] at t0
  simp only [g5, g6, cells9] at t1
  obtain ⟨s0, e0, _, z0⟩ := DataW.trod_string Tryz.underlying9 t0
  obtain ⟨s1, e1, _, z1⟩ := DataW.trod_string Tryz.underlying9 t1
  simp at e0 e1
  subst e0 e1
  refine ⟨⟨s0.data.toList, s1.data.toList⟩, by simp only [← bytes_list], ?_, ?_⟩
  · rw [← Lib.size_eq]; simpa [maxLen] using z0
  · rw [← Lib.size_eq]; simpa [maxLen] using z1
instance : Inhabited Ht.Hd := ⟨⟨[], []⟩⟩
theorem open_hds {H : Type} {enc : TypeId × Value → H} {w : World} {held : Bool} {fuel : Nat} {cs : List Value} {x : DataW H × List MemPlace} (h : DataW.trod enc Tryz.prog w 0 (fun _ => true) held fuel 24 cs = some x) :
    ∃ (l : List Ht.Hd) (A : Option Addr) (c : Nat), cs = [.slice A l.length c] ∧ l.length ≤ 9223372036854775807 ∧ HdsAt w A l ∧ HdsFit l := by
  rcases Go.Deep.open_slice Tryz.underlying24 h with ⟨rfl, _⟩ | ⟨a, len, cap, m, n, D, Pl, rfl, _, hlc, hcm, hm, _, hi⟩
  · exact ⟨[], none, 0, rfl, by simp, HdsAt.nil _ _, fun h hh => by simp at hh⟩
  · have hm' : m = cap := by simpa using hm
    obtain ⟨l, hl, hget⟩ := list_of (α := Ht.Hd) len (fun i r => (∀ j u, [Value.string ⟨r.name.toArray⟩, Value.string ⟨r.value.toArray⟩][j]? = some u → w.cell? (a.add (i * 2 + j)) = some u) ∧ r.name.length ≤ 9223372036854775807 ∧ r.value.length ≤ 9223372036854775807) (fun i hil => by
      obtain ⟨cs', hcs, htr⟩ := hi i (by omega)
      rw [cells65] at hcs
      obtain ⟨_, hcl, hat⟩ := World.cells?_some hcs
      obtain ⟨r, rfl, hr⟩ := open_hd htr
      refine ⟨r, fun j u hj => ?_, hr⟩
      have hj2 : j < 2 := (List.getElem?_eq_some_iff.1 hj).1
      have := hat j hj2
      rw [hj, Go.Deep.add_add] at this
      exact this)
    refine ⟨l, some a, cap, by rw [hl], by rw [hl]; simp [maxLen] at hcm; omega, fun hne => ?_, fun y hy => ?_⟩
    · obtain ⟨t0, ht0⟩ : ∃ u, l[0]? = some u := ⟨_, List.getElem?_eq_getElem (List.length_pos_iff.2 hne)⟩
      have h0 := (hget 0 t0 ht0).1 0 _ rfl
      have hs := spot_none h0
      obtain ⟨b, off, spot⟩ := a
      subst hs
      have hadd : ∀ j, (⟨b, off, none⟩ : Addr).add j = ⟨b, off + j, none⟩ := fun j => by simp [Addr.add]
      refine ⟨b, off, rfl, World.block_lt_of_cell? _ _ h0, fun i y hy => ?_⟩
      obtain ⟨hc, _⟩ := hget i y hy
      have hc' : ∀ j u, [Value.string ⟨y.name.toArray⟩, Value.string ⟨y.value.toArray⟩][j]? = some u → w.cell? ⟨b, off + i * 2 + j, none⟩ = some u := fun j u hj => by
        have := hc j u hj
        rw [hadd, ← Nat.add_assoc] at this
        exact this
      exact ⟨hc' 0 _ rfl, hc' 1 _ rfl⟩
    · obtain ⟨i, hi2, rfl⟩ := List.getElem_of_mem hy
      exact (hget i _ (List.getElem?_eq_getElem hi2)).2
/-- A request as an argument. -/
structure ReqIn (w : World) (r : Ht.Req) (A B : Option Addr) : Prop where
  heads : HdsAt w A r.heads
  body : CellsAt w B (Lib.byteCells r.body)
  hl : r.heads.length ≤ 9223372036854775807
  hF : HdsFit r.heads
  ml : r.method.length ≤ 9223372036854775807
  tl : r.target.length ≤ 9223372036854775807
theorem open_req {H : Type} {enc : TypeId × Value → H} {w : World} {held : Bool} {fuel : Nat} {cs : List Value} {x : DataW H × List MemPlace} (h : DataW.trod enc Tryz.prog w 0 (fun _ => true) held fuel 26 cs = some x) :
    ∃ (r : Ht.Req) (A : Option Addr) (c : Nat) (B : Option Addr) (d : Nat), cs = [.string ⟨r.method.toArray⟩, .string ⟨r.target.toArray⟩, .slice A r.heads.length c, .slice B r.body.length d] ∧ ReqIn w r A B ∧ r.body.length ≤ d ∧ d ≤ 9223372036854775807 := by
  obtain ⟨fs, hfs, hk⟩ := und26
  obtain ⟨xs, n, _, _, hl, hlen, hf⟩ := DataW.trod_struct hfs h
  rw [cells26] at hl
  obtain ⟨a, b, c, d, rfl⟩ := len4 hl
  have hxl : xs.length = 4 := by have := fs_len hk; simp at this; omega
  obtain ⟨f0, g1, g2, g3⟩ := field_at hk (j := 0) rfl
  obtain ⟨f1, g4, g5, g6⟩ := field_at hk (j := 1) rfl
  obtain ⟨f2, g7, g8, g9⟩ := field_at hk (j := 2) rfl
  obtain ⟨f3, ga, gb, gc⟩ := field_at hk (j := 3) rfl
  have t0 := (hf 0 f0 g1).trans (List.getElem?_eq_getElem (show 0 < xs.length by omega))
  have t1 := (hf 1 f1 g4).trans (List.getElem?_eq_getElem (show 1 < xs.length by omega))
  have t2 := (hf 2 f2 g7).trans (List.getElem?_eq_getElem (show 2 < xs.length by omega))
  have t3 := (hf 3 f3 ga).trans (List.getElem?_eq_getElem (show 3 < xs.length by omega))
  simp only [g2, g3, cells9] at t0
  simp only [g5, g6, cells9] at t1
  simp only [g8, g9, cells24] at t2
  simp only [gb, gc, cells22] at t3
  obtain ⟨s0, e0, _, z0⟩ := DataW.trod_string Tryz.underlying9 t0
  obtain ⟨s1, e1, _, z1⟩ := DataW.trod_string Tryz.underlying9 t1
  obtain ⟨l, A, k, e2, hll, hA, hF⟩ := open_hds t2
  obtain ⟨bd, B, k2, e3, h1, h2, hB⟩ := open_bytes t3
  simp at e0 e1 e2 e3
  subst e0 e1 e2 e3
  refine ⟨⟨s0.data.toList, s1.data.toList, l, bd⟩, A, k, B, k2, by simp only [← bytes_list], ⟨hA, hB, hll, hF, ?_, ?_⟩, h1, h2⟩
  · rw [← Lib.size_eq]; simpa [maxLen] using z0
  · rw [← Lib.size_eq]; simpa [maxLen] using z1
/-- A response as an argument. -/
structure RspIn (w : World) (r : Ht.Rsp) (A B : Option Addr) : Prop where
  heads : HdsAt w A r.heads
  body : CellsAt w B (Lib.byteCells r.body)
  hl : r.heads.length ≤ 9223372036854775807
  hF : HdsFit r.heads
  s0 : -9223372036854775808 ≤ r.status
  s1 : r.status ≤ 9223372036854775807
theorem wf_int {z : Int} (hw : (Lit.int .i64 z).wf = true) : -9223372036854775808 ≤ z ∧ z ≤ 9223372036854775807 := by
  have hm : IntKind.i64.min = -9223372036854775808 := rfl
  have hM : IntKind.i64.max = 9223372036854775807 := rfl
  simp only [Lit.wf, hm, hM, Bool.and_eq_true, decide_eq_true_eq] at hw
  exact hw
theorem open_rsp {H : Type} {enc : TypeId × Value → H} {w : World} {held : Bool} {fuel : Nat} {cs : List Value} {x : DataW H × List MemPlace} (h : DataW.trod enc Tryz.prog w 0 (fun _ => true) held fuel 36 cs = some x) :
    ∃ (r : Ht.Rsp) (A : Option Addr) (c : Nat) (B : Option Addr) (d : Nat), cs = [.int .i64 r.status, .slice A r.heads.length c, .slice B r.body.length d] ∧ RspIn w r A B ∧ r.body.length ≤ d ∧ d ≤ 9223372036854775807 := by
  obtain ⟨fs, hfs, hk⟩ := und36
  obtain ⟨xs, n, _, _, hl, hlen, hf⟩ := DataW.trod_struct hfs h
  rw [cells36] at hl
  obtain ⟨a, b, c, rfl⟩ := len3 hl
  have hxl : xs.length = 3 := by have := fs_len hk; simp at this; omega
  obtain ⟨f0, g1, g2, g3⟩ := field_at hk (j := 0) rfl
  obtain ⟨f2, g7, g8, g9⟩ := field_at hk (j := 1) rfl
  obtain ⟨f3, ga, gb, gc⟩ := field_at hk (j := 2) rfl
  have t0 := (hf 0 f0 g1).trans (List.getElem?_eq_getElem (show 0 < xs.length by omega))
  have t2 := (hf 1 f2 g7).trans (List.getElem?_eq_getElem (show 1 < xs.length by omega))
  have t3 := (hf 2 f3 ga).trans (List.getElem?_eq_getElem (show 2 < xs.length by omega))
  simp only [g2, g3, cells3] at t0
  simp only [g8, g9, cells24] at t2
  simp only [gb, gc, cells22] at t3
  obtain ⟨z0, e0, _, hw⟩ := DataW.trod_int Tryz.underlying3 t0
  obtain ⟨l, A, k, e2, hll, hA, hF⟩ := open_hds t2
  obtain ⟨bd, B, k2, e3, h1, h2, hB⟩ := open_bytes t3
  simp at e0 e2 e3
  subst e0 e2 e3
  exact ⟨⟨z0, l, bd⟩, A, k, B, k2, rfl, ⟨hA, hB, hll, hF, (wf_int hw).1, (wf_int hw).2⟩, h1, h2⟩
theorem open_int3 {H : Type} {enc : TypeId × Value → H} {w : World} {held : Bool} {fuel : Nat} {cs : List Value} {x : DataW H × List MemPlace} (h : DataW.trod enc Tryz.prog w 0 (fun _ => true) held fuel 3 cs = some x) :
    ∃ z : Int, cs = [.int .i64 z] ∧ -9223372036854775808 ≤ z ∧ z ≤ 9223372036854775807 := by
  obtain ⟨z0, e0, _, hw⟩ := DataW.trod_int Tryz.underlying3 h
  exact ⟨z0, e0, wf_int hw⟩
end Go.Proofs.YtoadahommlcjpaaGreatDoor
