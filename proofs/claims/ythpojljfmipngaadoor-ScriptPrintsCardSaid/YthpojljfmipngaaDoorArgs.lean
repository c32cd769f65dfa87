/-
  PROVED: how an argument that is a script lies in memory. CONDITION: as the argument's datum says.
-/
import Derived.Test.YthpojljfmipngaaDoorRow
import Derived.Test.YthpojljfmipngaaDoorWalkV
import Derived.SliceStrings
namespace Go.Proofs.YthpojljfmipngaaDoor
open Go.ChangeShapes Go.WideShapes Go.ChangeAt Go.RowKit
theorem list_of {α : Type} [Inhabited α] (len : Nat) (Q : Nat → α → Prop) (h : ∀ i, i < len → ∃ a, Q i a) : ∃ l : List α, l.length = len ∧ ∀ i a, l[i]? = some a → Q i a := by
  refine ⟨(List.range len).map fun i => if hi : i < len then (h i hi).choose else default, by simp, fun i a ha => ?_⟩
  rw [List.getElem?_map] at ha
  have hil : i < len := by
    rcases Nat.lt_or_ge i len with h' | h'
    · exact h'
    · rw [List.getElem?_eq_none (by simpa using h')] at ha; cases ha
  simp only [List.getElem?_range hil, Option.map_some, hil, dif_pos, Option.some.injEq] at ha
  rw [← ha]
  exact (h i hil).choose_spec
theorem spot_none {w : World} {a : Addr} {v : Value} (h : w.cell? (a.add 0) = some v) : a.spot = none := by
  obtain ⟨b, off, spot⟩ := a
  have := World.cell?_spot h
  simpa [Addr.add] using this
theorem open_ones {H : Type} {enc : TypeId × Value → H} {w : World} {held : Bool} {fuel : Nat} {cs : List Value} {x : DataW H × List MemPlace} {α : Type} [Inhabited α] {t e : TypeId} (ht : Tryd.prog.underlying t = some (.slice e)) (hc : Tryd.prog.cellsOf e = 1) (mk : α → Value)
    (he : ∀ n cs y, DataW.trod enc Tryd.prog w 0 (fun _ => true) held n e cs = some y → ∃ a, cs = [mk a]) (h : DataW.trod enc Tryd.prog w 0 (fun _ => true) held fuel t cs = some x) :
    ∃ (l : List α) (A : Option Addr) (c : Nat), cs = [.slice A l.length c] ∧ l.length ≤ c ∧ c ≤ 9223372036854775807 ∧ CellsAt w A (l.map mk) := by
  rcases Go.Deep.open_slice ht h with ⟨rfl, _⟩ | ⟨a, len, cap, m, n, D, Pl, rfl, _, hlc, hcm, hm, _, hi⟩
  · exact ⟨[], none, 0, rfl, Nat.le_refl _, by omega, CellsAt.nil _ _⟩
  · have hm' : m = cap := by simpa using hm
    obtain ⟨l, hl, hget⟩ := list_of (α := α) len (fun i u => w.cell? (a.add i) = some (mk u)) (fun i hil => by
      obtain ⟨cs', hcs, htr⟩ := hi i (by omega)
      rw [hc, Nat.mul_one] at hcs
      obtain ⟨_, hcl, hat⟩ := World.cells?_some hcs
      obtain ⟨u, rfl⟩ := he _ _ _ htr
      refine ⟨u, ?_⟩
      have h0 := hat 0 (by omega)
      simpa [Addr.add] using h0)
    refine ⟨l, some a, cap, by rw [hl], by omega, by simp [maxLen] at hcm; omega, fun hne => ?_⟩
    have hlne : l ≠ [] := by intro e; subst e; exact hne rfl
    obtain ⟨t0, ht0⟩ : ∃ u, l[0]? = some u := ⟨_, List.getElem?_eq_getElem (List.length_pos_iff.2 hlne)⟩
    have h0 := hget 0 t0 ht0
    have hs := spot_none h0
    obtain ⟨b, off, spot⟩ := a
    subst hs
    have hadd : ∀ j, (⟨b, off, none⟩ : Addr).add j = ⟨b, off + j, none⟩ := fun j => by simp [Addr.add]
    refine ⟨b, off, rfl, World.block_lt_of_cell? _ _ h0, fun i v hv => ?_⟩
    rw [List.getElem?_map] at hv
    cases hli : l[i]? with
    | none => rw [hli] at hv; cases hv
    | some u =>
      rw [hli] at hv
      obtain rfl : mk u = v := by simpa using hv
      have := hget i u hli
      rwa [hadd] at this
theorem cells4 : Tryd.prog.cellsOf 4 = 1 := by kernel_rfl
theorem open_bools {H : Type} {enc : TypeId × Value → H} {w : World} {held : Bool} {fuel : Nat} {cs : List Value} {x : DataW H × List MemPlace} (h : DataW.trod enc Tryd.prog w 0 (fun _ => true) held fuel 42 cs = some x) :
    ∃ (l : List Bool) (A : Option Addr) (c : Nat), cs = [.slice A l.length c] ∧ l.length ≤ c ∧ c ≤ 9223372036854775807 ∧ CellsAt w A (boolCells l) :=
  open_ones (α := Bool) Tryd.underlying42 cells4 Value.bool (fun n cs y hy => by
    obtain ⟨b, h1, _⟩ := DataW.trod_bool Tryd.underlying4 hy
    exact ⟨b, h1⟩) h
theorem open_bytes {H : Type} {enc : TypeId × Value → H} {w : World} {held : Bool} {fuel : Nat} {cs : List Value} {x : DataW H × List MemPlace} (h : DataW.trod enc Tryd.prog w 0 (fun _ => true) held fuel 43 cs = some x) :
    ∃ (l : List UInt8) (A : Option Addr) (c : Nat), cs = [.slice A l.length c] ∧ l.length ≤ c ∧ c ≤ 9223372036854775807 ∧ CellsAt w A (Lib.byteCells l) :=
  open_ones (α := UInt8) Tryd.underlying43 cells5 (fun c => .int .u8 (c.toNat : Int)) (fun n cs y hy => by
    obtain ⟨z, h1, _, hw⟩ := DataW.trod_int Tryd.underlying5 hy
    have hz : 0 ≤ z ∧ z < 256 := by
      have hm : IntKind.u8.min = 0 := rfl
      have hM : IntKind.u8.max = 255 := rfl
      simp only [Lit.wf, hm, hM, Bool.and_eq_true, decide_eq_true_eq] at hw
      omega
    refine ⟨UInt8.ofNat z.toNat, ?_⟩
    rw [h1, Sc.u8_nat (by omega), Int.toNat_of_nonneg hz.1]) h
def fieldsOf (fs : Array Field) : List (TypeId × Nat) := fs.toList.map fun f => (f.type, f.offset)
theorem struct_of {t : TypeId} {l : List (TypeId × Nat)} (h : (match Tryd.prog.underlying t with | some (.struct fs) => decide (fieldsOf fs = l) | _ => false) = true) : ∃ fs, Tryd.prog.underlying t = some (.struct fs) ∧ fieldsOf fs = l := by
  revert h
  cases hu : Tryd.prog.underlying t with
  | none => intro h; cases h
  | some u => cases u <;> intro h <;> first | exact ⟨_, rfl, of_decide_eq_true h⟩ | cases h
theorem field_at {fs : Array Field} {l : List (TypeId × Nat)} (h : fieldsOf fs = l) {j : Nat} {p : TypeId × Nat} (hj : l[j]? = some p) : ∃ f, fs[j]? = some f ∧ f.type = p.1 ∧ f.offset = p.2 := by
  subst h
  unfold fieldsOf at hj
  rw [List.getElem?_map] at hj
  cases hf : fs.toList[j]? with
  | none => rw [hf] at hj; cases hj
  | some f =>
    rw [hf] at hj
    simp only [Option.map_some, Option.some.injEq] at hj
    exact ⟨f, by rw [← hf, Array.getElem?_toList], by rw [← hj], by rw [← hj]⟩
theorem und45 : ∃ fs, Tryd.prog.underlying 45 = some (.struct fs) ∧ fieldsOf fs = [(3, 0), (3, 1), (3, 2), (3, 3), (3, 4), (42, 5), (43, 6)] := struct_of (by kernel_rfl)
theorem und28 : ∃ fs, Tryd.prog.underlying 28 = some (.struct fs) ∧ fieldsOf fs = [(25, 0), (26, 2)] := struct_of (by kernel_rfl)
theorem und25 : ∃ fs, Tryd.prog.underlying 25 = some (.struct fs) ∧ fieldsOf fs = [(3, 0), (3, 1)] := struct_of (by kernel_rfl)
theorem cells45 : Tryd.prog.cellsOf 45 = 7 := by kernel_rfl
theorem cells28 : Tryd.prog.cellsOf 28 = 3 := by kernel_rfl
theorem cells25 : Tryd.prog.cellsOf 25 = 2 := by kernel_rfl
theorem cells26 : Tryd.prog.cellsOf 26 = 1 := by kernel_rfl
theorem cells42 : Tryd.prog.cellsOf 42 = 1 := by kernel_rfl
theorem cells43 : Tryd.prog.cellsOf 43 = 1 := by kernel_rfl
theorem cells3 : Tryd.prog.cellsOf 3 = 1 := by kernel_rfl
theorem len7 {cs : List Value} (h : cs.length = 7) : ∃ a b c d e f g, cs = [a, b, c, d, e, f, g] := by
  match cs, h with
  | [a, b, c, d, e, f, g], _ => exact ⟨a, b, c, d, e, f, g, rfl⟩
theorem len3 {cs : List Value} (h : cs.length = 3) : ∃ a b c, cs = [a, b, c] := by
  match cs, h with
  | [a, b, c], _ => exact ⟨a, b, c, rfl⟩
structure EvIn (w : World) (r : EvR) : Prop where
  ev : EvAt w r.x r.K r.A
  k1 : r.x.keep.length ≤ r.kc
  b1 : r.x.bytes.length ≤ r.bc
  k2 : r.kc ≤ 9223372036854775807
  b2 : r.bc ≤ 9223372036854775807
theorem open_ev {H : Type} {enc : TypeId × Value → H} {w : World} {held : Bool} {fuel : Nat} {cs : List Value} {x : DataW H × List MemPlace} (h : DataW.trod enc Tryd.prog w 0 (fun _ => true) held fuel 45 cs = some x) :
    ∃ r : EvR, cs = r.row ∧ EvIn w r := by
  obtain ⟨fs, hfs, hk⟩ := und45
  obtain ⟨xs, n, _, _, hl, hlen, hf⟩ := DataW.trod_struct hfs h
  rw [cells45] at hl
  obtain ⟨a, b, c, d, e, f, g, rfl⟩ := len7 hl
  have hxl : xs.length = 7 := by
    have : (fieldsOf fs).length = 7 := by rw [hk]; rfl
    unfold fieldsOf at this
    rw [List.length_map, Array.length_toList] at this
    omega
  have get : ∀ j p, [((3 : TypeId), 0), (3, 1), (3, 2), (3, 3), (3, 4), (42, 5), (43, 6)][j]? = some p → j < 7 → ∃ y, DataW.trod enc Tryd.prog w 0 (fun _ => true) held n p.1 (([a, b, c, d, e, f, g].drop p.2).take (Tryd.prog.cellsOf p.1)) = some y := by
    intro j p hp hj
    obtain ⟨f', h1, h2, h3⟩ := field_at hk hp
    have := hf j f' h1
    rw [h2, h3] at this
    exact ⟨_, this.trans (List.getElem?_eq_getElem (by omega))⟩
  obtain ⟨_, h0⟩ := get 0 _ rfl (by omega)
  obtain ⟨_, h1⟩ := get 1 _ rfl (by omega)
  obtain ⟨_, h2⟩ := get 2 _ rfl (by omega)
  obtain ⟨_, h3⟩ := get 3 _ rfl (by omega)
  obtain ⟨_, h4⟩ := get 4 _ rfl (by omega)
  obtain ⟨_, h5⟩ := get 5 _ rfl (by omega)
  obtain ⟨_, h6⟩ := get 6 _ rfl (by omega)
  simp only [cells3, cells42, cells43] at h0 h1 h2 h3 h4 h5 h6
  obtain ⟨z0, e0, _⟩ := DataW.trod_int Tryd.underlying3 h0
  obtain ⟨z1, e1, _⟩ := DataW.trod_int Tryd.underlying3 h1
  obtain ⟨z2, e2, _⟩ := DataW.trod_int Tryd.underlying3 h2
  obtain ⟨z3, e3, _⟩ := DataW.trod_int Tryd.underlying3 h3
  obtain ⟨z4, e4, _⟩ := DataW.trod_int Tryd.underlying3 h4
  obtain ⟨l5, A5, c5, e5, k1, k2, hc5⟩ := open_bools h5
  obtain ⟨l6, A6, c6, e6, b1, b2, hc6⟩ := open_bytes h6
  simp at e0 e1 e2 e3 e4 e5 e6
  subst e0 e1 e2 e3 e4 e5 e6
  exact ⟨⟨⟨z0, z1, z2, z3, z4, l5, l6⟩, A5, A6, c5, c6⟩, rfl, ⟨hc5, hc6, by simp only; omega, by simp only; omega⟩, k1, b1, k2, b2⟩
theorem open_evs {H : Type} {enc : TypeId × Value → H} {w : World} {held : Bool} {fuel : Nat} {cs : List Value} {x : DataW H × List MemPlace} (h : DataW.trod enc Tryd.prog w 0 (fun _ => true) held fuel 26 cs = some x) :
    ∃ (l : List Sc.Ev) (A : Option Addr) (c : Nat), cs = [.slice A l.length c] ∧ l.length ≤ 9223372036854775807 ∧ ArgEvs w A l := by
  rcases Go.Deep.open_slice Tryd.underlying26 h with ⟨rfl, _⟩ | ⟨a, len, cap, m, n, D, Pl, rfl, _, hlc, hcm, hm, _, hi⟩
  · exact ⟨[], none, 0, rfl, by simp, fun h => absurd rfl h⟩
  · have hm' : m = cap := by simpa using hm
    have : Inhabited EvR := ⟨⟨⟨0, 0, 0, 0, 0, [], []⟩, none, none, 0, 0⟩⟩
    obtain ⟨l, hl, hget⟩ := list_of (α := EvR) len (fun i r => (∀ j u, r.row[j]? = some u → w.cell? (a.add (i * 7 + j)) = some u) ∧ EvIn w r) (fun i hil => by
      obtain ⟨cs', hcs, htr⟩ := hi i (by omega)
      rw [cells45] at hcs
      obtain ⟨_, hcl, hat⟩ := World.cells?_some hcs
      obtain ⟨r, rfl, hr⟩ := open_ev htr
      refine ⟨r, fun j u hj => ?_, hr⟩
      have hj7 : j < 7 := by have := (List.getElem?_eq_some_iff.1 hj).1; rwa [row_len] at this
      have := hat j hj7
      rw [hj, Go.Deep.add_add] at this
      exact this)
    refine ⟨l.map EvR.x, some a, cap, by rw [List.length_map, hl], by rw [List.length_map, hl]; simp [maxLen] at hcm; omega, fun hne => ?_⟩
    have hlne : l ≠ [] := by intro e; subst e; exact hne rfl
    obtain ⟨t0, ht0⟩ : ∃ u, l[0]? = some u := ⟨_, List.getElem?_eq_getElem (List.length_pos_iff.2 hlne)⟩
    have h0 := (hget 0 t0 ht0).1 0 _ rfl
    have hs := spot_none h0
    obtain ⟨b, off, spot⟩ := a
    subst hs
    have hadd : ∀ j, (⟨b, off, none⟩ : Addr).add j = ⟨b, off + j, none⟩ := fun j => by simp [Addr.add]
    refine ⟨b, off, rfl, World.block_lt_of_cell? _ _ h0, fun i x hx => ?_⟩
    rw [List.getElem?_map] at hx
    cases hli : l[i]? with
    | none => rw [hli] at hx; cases hx
    | some r =>
      rw [hli] at hx
      obtain rfl : r.x = x := by simpa using hx
      obtain ⟨hc, hr⟩ := hget i r hli
      have hc' : ∀ j u, r.row[j]? = some u → w.cell? ⟨b, off + i * 7 + j, none⟩ = some u := fun j u hj => by
        have := hc j u hj
        rw [hadd, ← Nat.add_assoc] at this
        exact this
      exact ⟨r.K, r.A, r.kc, r.bc, ⟨hc' 0 _ rfl, hc' 1 _ rfl, hc' 2 _ rfl, hc' 3 _ rfl, hc' 4 _ rfl, hc' 5 _ rfl, hc' 6 _ rfl⟩, hr.ev, hr.k1, hr.b1, hr.k2, hr.b2⟩
theorem open_scr {H : Type} {enc : TypeId × Value → H} {w : World} {held : Bool} {fuel : Nat} {cs : List Value} {x : DataW H × List MemPlace} (h : DataW.trod enc Tryd.prog w 0 (fun _ => true) held fuel 28 cs = some x) :
    ∃ (s : Sc.Scr) (A : Option Addr) (c : Nat), cs = [.int .i64 s.servers, .int .i64 s.area, .slice A s.events.length c] ∧ s.events.length ≤ 9223372036854775807 ∧ ArgEvs w A s.events := by
  obtain ⟨fs, hfs, hk⟩ := und28
  obtain ⟨xs, n, _, _, hl, hlen, hf⟩ := DataW.trod_struct hfs h
  rw [cells28] at hl
  obtain ⟨a, b, c, rfl⟩ := len3 hl
  have hxl : xs.length = 2 := by
    have : (fieldsOf fs).length = 2 := by rw [hk]; rfl
    unfold fieldsOf at this
    rw [List.length_map, Array.length_toList] at this
    omega
  obtain ⟨f0, g1, g2, g3⟩ := field_at hk (j := 0) rfl
  obtain ⟨f1, g4, g5, g6⟩ := field_at hk (j := 1) rfl
  have t0 := (hf 0 f0 g1).trans (List.getElem?_eq_getElem (show 0 < xs.length by omega))
  have t1 := (hf 1 f1 g4).trans (List.getElem?_eq_getElem (show 1 < xs.length by omega))
  simp only [g2, g3, cells25] at t0
  simp only [g5, g6, cells26] at t1
  obtain ⟨fs2, hfs2, hk2⟩ := und25
  obtain ⟨ys, n2, _, _, hl2, hlen2, hf2⟩ := DataW.trod_struct hfs2 t0
  have hyl : ys.length = 2 := by
    have : (fieldsOf fs2).length = 2 := by rw [hk2]; rfl
    unfold fieldsOf at this
    rw [List.length_map, Array.length_toList] at this
    omega
  obtain ⟨f2, m1, m2, m3⟩ := field_at hk2 (j := 0) rfl
  obtain ⟨f3, m4, m5, m6⟩ := field_at hk2 (j := 1) rfl
  have u0 := (hf2 0 f2 m1).trans (List.getElem?_eq_getElem (show 0 < ys.length by omega))
  have u1 := (hf2 1 f3 m4).trans (List.getElem?_eq_getElem (show 1 < ys.length by omega))
  simp only [m2, m3, cells3] at u0
  simp only [m5, m6, cells3] at u1
  obtain ⟨z0, e0, _⟩ := DataW.trod_int Tryd.underlying3 u0
  obtain ⟨z1, e1, _⟩ := DataW.trod_int Tryd.underlying3 u1
  obtain ⟨l, A, c', e2, hle, hA⟩ := open_evs t1
  simp at e0 e1 e2
  subst e0 e1 e2
  exact ⟨⟨z0, z1, l⟩, A, c', rfl, hle, hA⟩
end Go.Proofs.YthpojljfmipngaaDoor
