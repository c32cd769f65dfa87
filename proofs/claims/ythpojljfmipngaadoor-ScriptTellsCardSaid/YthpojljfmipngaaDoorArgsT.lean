/-
  ARGUMENTS: what a Told and a row of replies hold, out of the given data. CONDITIONS: those of the data.
-/
import Derived.Test.YthpojljfmipngaaDoorArgs
import Derived.Test.YthpojljfmipngaaDoorTellC
namespace Go.Proofs.YthpojljfmipngaaDoor
open Go.ChangeShapes Go.WideShapes Go.ChangeAt Go.RowKit
theorem und49 : ∃ fs, Tryd.prog.underlying 49 = some (.struct fs) ∧ fieldsOf fs = [(31, 0), (46, 1), (46, 2), (47, 3)] := struct_of (by kernel_rfl)
theorem und51 : ∃ fs, Tryd.prog.underlying 51 = some (.struct fs) ∧ fieldsOf fs = [(46, 0), (43, 1)] := struct_of (by kernel_rfl)
theorem cells49 : Tryd.prog.cellsOf 49 = 4 := by kernel_rfl
theorem cells51 : Tryd.prog.cellsOf 51 = 2 := by kernel_rfl
theorem cells31 : Tryd.prog.cellsOf 31 = 1 := by kernel_rfl
theorem cells46 : Tryd.prog.cellsOf 46 = 1 := by kernel_rfl
theorem cells47 : Tryd.prog.cellsOf 47 = 1 := by kernel_rfl
theorem len2 {cs : List Value} (h : cs.length = 2) : ∃ a b, cs = [a, b] := by
  match cs, h with
  | [a, b], _ => exact ⟨a, b, rfl⟩
theorem len4 {cs : List Value} (h : cs.length = 4) : ∃ a b c d, cs = [a, b, c, d] := by
  match cs, h with
  | [a, b, c, d], _ => exact ⟨a, b, c, d, rfl⟩
theorem lit_u32 {z : Int} (h : (Lit.int .u32 z).wf = true) : u32 z := by
  have hm : IntKind.u32.min = 0 := rfl
  have hM : IntKind.u32.max = 4294967295 := rfl
  simp only [Lit.wf, hm, hM, Bool.and_eq_true, decide_eq_true_eq] at h
  exact h
theorem lit_i64 {z : Int} (h : (Lit.int .i64 z).wf = true) : inI z := by
  have hm : IntKind.i64.min = -9223372036854775808 := rfl
  have hM : IntKind.i64.max = 9223372036854775807 := rfl
  simp only [Lit.wf, hm, hM, Bool.and_eq_true, decide_eq_true_eq] at h
  unfold inI
  exact h
theorem none_cap {H : Type} {enc : TypeId × Value → H} {w : World} {held : Bool} {fuel n c : Nat} {x : DataW H × List MemPlace} (h : DataW.trod enc Tryd.prog w 0 (fun _ => true) held fuel 43 [.slice none n c] = some x) : c = 0 := by
  rcases Go.Deep.open_slice Tryd.underlying43 h with ⟨h1, _⟩ | ⟨a, len, cap, m, n', D, Pl, h1, _⟩
  · injection h1 with h1 _; injection h1
  · injection h1 with h1 _; injection h1 with h1; cases h1
structure RepArg (w : World) (r : RepR) : Prop where
  at_ : CellsAt w r.B (Lib.byteCells r.x.bytes)
  req : u32 r.x.req
  len : r.x.bytes.length ≤ r.bc
  cap : r.bc ≤ 9223372036854775807
  nil : r.B = none → r.bc = 0
theorem open_rep {H : Type} {enc : TypeId × Value → H} {w : World} {held : Bool} {fuel : Nat} {cs : List Value} {x : DataW H × List MemPlace} (h : DataW.trod enc Tryd.prog w 0 (fun _ => true) held fuel 51 cs = some x) :
    ∃ r : RepR, cs = r.row ∧ RepArg w r := by
  obtain ⟨fs, hfs, hk⟩ := und51
  obtain ⟨xs, n, _, _, hl, hlen, hf⟩ := DataW.trod_struct hfs h
  rw [cells51] at hl
  obtain ⟨a, b, rfl⟩ := len2 hl
  have hxl : xs.length = 2 := by
    have : (fieldsOf fs).length = 2 := by rw [hk]; rfl
    unfold fieldsOf at this
    rw [List.length_map, Array.length_toList] at this
    omega
  have get : ∀ j p, [((46 : TypeId), 0), (43, 1)][j]? = some p → j < 2 → ∃ y, DataW.trod enc Tryd.prog w 0 (fun _ => true) held n p.1 (([a, b].drop p.2).take (Tryd.prog.cellsOf p.1)) = some y := by
    intro j p hp hj
    obtain ⟨f', h1, h2, h3⟩ := field_at hk hp
    have := hf j f' h1
    rw [h2, h3] at this
    exact ⟨_, this.trans (List.getElem?_eq_getElem (by omega))⟩
  obtain ⟨_, h0⟩ := get 0 _ rfl (by omega)
  obtain ⟨_, h1⟩ := get 1 _ rfl (by omega)
  simp only [cells46, cells43] at h0 h1
  obtain ⟨z0, e0, _, hw0⟩ := DataW.trod_int Tryd.underlying46 h0
  obtain ⟨l1, A1, c1, e1, k1, k2, hc1⟩ := open_bytes h1
  have e1' : [b] = [Value.slice A1 l1.length c1] := by simpa using e1
  have hnone : A1 = none → c1 = 0 := fun e => by
    subst e
    have h1' := h1
    rw [show (List.take 1 (List.drop 1 [a, b])) = [b] by rfl, e1'] at h1'
    exact none_cap h1'
  simp at e0 e1
  subst e0 e1
  exact ⟨⟨⟨z0, l1⟩, A1, c1⟩, rfl, ⟨hc1, lit_u32 hw0, k1, k2, hnone⟩⟩
theorem open_reps {H : Type} {enc : TypeId × Value → H} {w : World} {held : Bool} {fuel : Nat} {cs : List Value} {x : DataW H × List MemPlace} (h : DataW.trod enc Tryd.prog w 0 (fun _ => true) held fuel 47 cs = some x) :
    ∃ (l : List Rep) (A : Option Addr) (c : Nat), cs = [.slice A l.length c] ∧ l.length ≤ 9223372036854775807 ∧ ArgReps w A l := by
  rcases Go.Deep.open_slice Tryd.underlying47 h with ⟨rfl, _⟩ | ⟨a, len, cap, m, n, D, Pl, rfl, _, hlc, hcm, hm, _, hi⟩
  · exact ⟨[], none, 0, rfl, by simp, fun h => absurd rfl h⟩
  · have hm' : m = cap := by simpa using hm
    have : Inhabited RepR := ⟨⟨⟨0, []⟩, none, 0⟩⟩
    obtain ⟨l, hl, hget⟩ := list_of (α := RepR) len (fun i r => (∀ j u, r.row[j]? = some u → w.cell? (a.add (i * 2 + j)) = some u) ∧ RepArg w r) (fun i hil => by
      obtain ⟨cs', hcs, htr⟩ := hi i (by omega)
      rw [cells51] at hcs
      obtain ⟨_, hcl, hat⟩ := World.cells?_some hcs
      obtain ⟨r, rfl, hr⟩ := open_rep htr
      refine ⟨r, fun j u hj => ?_, hr⟩
      have hj7 : j < 2 := (List.getElem?_eq_some_iff.1 hj).1
      have := hat j hj7
      rw [hj, Go.Deep.add_add] at this
      exact this)
    refine ⟨l.map RepR.x, some a, cap, by rw [List.length_map, hl], by rw [List.length_map, hl]; simp [maxLen] at hcm; omega, fun hne => ?_⟩
    have hlne : l ≠ [] := by intro e; subst e; exact hne rfl
    obtain ⟨t0, ht0⟩ : ∃ u, l[0]? = some u := ⟨_, List.getElem?_eq_getElem (List.length_pos_iff.2 hlne)⟩
    have h0 := (hget 0 t0 ht0).1 0 _ rfl
    have hs := spot_none h0
    obtain ⟨b, off, spot⟩ := a
    subst hs
    have hadd : ∀ j, (⟨b, off, none⟩ : Addr).add j = ⟨b, off + j, none⟩ := fun j => by simp [Addr.add]
    refine ⟨b, off, rfl, World.block_lt_of_cell? _ _ h0, fun i x hx => ?_⟩
    rw [List.getElem?_map] at hx
    cases hli : l[i]? with
    | none => rw [hli] at hx; cases hx
    | some r =>
      rw [hli] at hx
      obtain rfl : r.x = x := by simpa using hx
      obtain ⟨hc, hr⟩ := hget i r hli
      have hc' : ∀ j u, r.row[j]? = some u → w.cell? ⟨b, off + i * 2 + j, none⟩ = some u := fun j u hj => by
        have := hc j u hj
        rw [hadd, ← Nat.add_assoc] at this
        exact this
      exact ⟨r.B, r.bc, hc' 0 _ rfl, hc' 1 _ rfl, hr.at_, hr.req, hr.len, hr.cap, hr.nil⟩
theorem open_tol {H : Type} {enc : TypeId × Value → H} {w : World} {held : Bool} {fuel : Nat} {cs : List Value} {x : DataW H × List MemPlace} (h : DataW.trod enc Tryd.prog w 0 (fun _ => true) held fuel 49 cs = some x) :
    ∃ (t : Tol) (A : Option Addr) (c : Nat), cs = [.int .i64 t.err, .int .u32 t.req, .int .u32 t.tick, .slice A t.reps.length c] ∧ t.reps.length ≤ 9223372036854775807 ∧ ArgReps w A t.reps ∧ inI t.err ∧ u32 t.req ∧ u32 t.tick := by
  obtain ⟨fs, hfs, hk⟩ := und49
  obtain ⟨xs, n, _, _, hl, hlen, hf⟩ := DataW.trod_struct hfs h
  rw [cells49] at hl
  obtain ⟨a, b, c, d, rfl⟩ := len4 hl
  have hxl : xs.length = 4 := by
    have : (fieldsOf fs).length = 4 := by rw [hk]; rfl
    unfold fieldsOf at this
    rw [List.length_map, Array.length_toList] at this
    omega
  have get : ∀ j p, [((31 : TypeId), 0), (46, 1), (46, 2), (47, 3)][j]? = some p → j < 4 → ∃ y, DataW.trod enc Tryd.prog w 0 (fun _ => true) held n p.1 (([a, b, c, d].drop p.2).take (Tryd.prog.cellsOf p.1)) = some y := by
    intro j p hp hj
    obtain ⟨f', h1, h2, h3⟩ := field_at hk hp
    have := hf j f' h1
    rw [h2, h3] at this
    exact ⟨_, this.trans (List.getElem?_eq_getElem (by omega))⟩
  obtain ⟨_, h0⟩ := get 0 _ rfl (by omega)
  obtain ⟨_, h1⟩ := get 1 _ rfl (by omega)
  obtain ⟨_, h2⟩ := get 2 _ rfl (by omega)
  obtain ⟨_, h3⟩ := get 3 _ rfl (by omega)
  simp only [cells31, cells46, cells47] at h0 h1 h2 h3
  obtain ⟨z0, e0, _, w0⟩ := DataW.trod_int Tryd.underlying31 h0
  obtain ⟨z1, e1, _, w1⟩ := DataW.trod_int Tryd.underlying46 h1
  obtain ⟨z2, e2, _, w2⟩ := DataW.trod_int Tryd.underlying46 h2
  obtain ⟨l, A, c', e3, hle, hA⟩ := open_reps h3
  simp at e0 e1 e2 e3
  subst e0 e1 e2 e3
  exact ⟨⟨z0, z1, z2, l⟩, A, c', rfl, hle, hA, lit_i64 w0, lit_u32 w1, lit_u32 w2⟩
end Go.Proofs.YthpojljfmipngaaDoor
