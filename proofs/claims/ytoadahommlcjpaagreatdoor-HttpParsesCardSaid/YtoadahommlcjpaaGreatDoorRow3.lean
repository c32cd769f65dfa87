/-
  PROVED: how an array of two numbers, a row of requests, of responses, of rows of bytes lie in memory as arguments. CONDITION: as the argument's datum says.
-/
import Derived.Test.YtoadahommlcjpaaGreatDoorRow2
namespace Go.Proofs.YtoadahommlcjpaaGreatDoor
open Go.ChangeShapes Go.WideShapes Go.ChangeAt Go.RowKit Go.Deep
theorem okWide_array {P : Program} {W : World} {r : Reach} {base : Nat} {t : TypeId} {v : Value} {n : Nat} {e : TypeId} (ht : P.underlying t = some (.array n e)) (h : Value.okWide P W r base t v) : ∃ cs, v = .agg cs ∧ cs.size = P.cellsOf t := by
  simp only [Value.okWide, ht] at h
  obtain ⟨cs, h1, h2, _⟩ := h
  exact ⟨cs, h1, h2⟩
theorem und61 : Tryz.prog.underlying 61 = some (.array 2 3) := by kernel_rfl
theorem cells61 : Tryz.prog.cellsOf 61 = 2 := by kernel_rfl
theorem open_arr {H : Type} {enc : TypeId × Value → H} {w : World} {held : Bool} {fuel : Nat} {cs : List Value} {x : DataW H × List MemPlace} (h : DataW.trod enc Tryz.prog w 0 (fun _ => true) held fuel 61 cs = some x) :
    ∃ u v : Int, cs = [.int .i64 u, .int .i64 v] ∧ -9223372036854775808 ≤ u ∧ u ≤ 9223372036854775807 ∧ -9223372036854775808 ≤ v ∧ v ≤ 9223372036854775807 := by
  obtain ⟨xs, n, _, _, hl, hlen, hf⟩ := DataW.trod_array und61 h
  rw [cells61] at hl
  obtain ⟨a, b, rfl⟩ := len2 hl
  have t0 := (hf 0 (by omega)).trans (List.getElem?_eq_getElem (show 0 < xs.length by omega))
  have t1 := (hf 1 (by omega)).trans (List.getElem?_eq_getElem (show 1 < xs.length by omega))
  simp only [cells3] at t0 t1
  obtain ⟨u, e0, u1, u2⟩ := open_int3 t0
  obtain ⟨v, e1, v1, v2⟩ := open_int3 t1
  simp at e0 e1
  subst e0 e1
  exact ⟨u, v, rfl, u1, u2, v1, v2⟩
/-- A request as it lies in a row. -/
structure QArg where
  r : Ht.Req
  A : Option Addr
  x : Nat
  B : Option Addr
  y : Nat
instance : Inhabited QArg := ⟨⟨⟨[], [], [], []⟩, none, 0, none, 0⟩⟩
structure QArgIn (w : World) (q : QArg) : Prop where
  at_ : ReqIn w q.r q.A q.B
  cap : q.r.body.length ≤ q.y
/-- A row of them. -/
structure QArgsAt (w : World) (A : Option Addr) (l : List QArg) : Prop where
  row : l ≠ [] → ∃ b off, A = some ⟨b, off, none⟩ ∧ b < w.heap.size ∧ ∀ i q, l[i]? = some q → w.cell? ⟨b, off + i * 4, none⟩ = some (.string ⟨q.r.method.toArray⟩) ∧ w.cell? ⟨b, off + i * 4 + 1, none⟩ = some (.string ⟨q.r.target.toArray⟩) ∧ w.cell? ⟨b, off + i * 4 + 2, none⟩ = some (.slice q.A q.r.heads.length q.x) ∧ w.cell? ⟨b, off + i * 4 + 3, none⟩ = some (.slice q.B q.r.body.length q.y)
  each : ∀ q ∈ l, QArgIn w q
  len : l.length ≤ 9223372036854775807
theorem cells_26 : Tryz.prog.cellsOf 26 = 4 := by kernel_rfl
theorem open_QArgs {H : Type} {enc : TypeId × Value → H} {w : World} {held : Bool} {fuel : Nat} {cs : List Value} {x : DataW H × List MemPlace} (h : DataW.trod enc Tryz.prog w 0 (fun _ => true) held fuel 48 cs = some x) :
    ∃ (l : List QArg) (A : Option Addr) (c : Nat), cs = [.slice A l.length c] ∧ QArgsAt w A l := by
  rcases Go.Deep.open_slice Tryz.underlying48 h with ⟨rfl, _⟩ | ⟨a, len, cap, m, n, D, Pl, rfl, _, hlc, hcm, hm, _, hi⟩
  · exact ⟨[], none, 0, rfl, fun h => absurd rfl h, fun h hh => by simp at hh, by simp⟩
  · have hm' : m = cap := by simpa using hm
    obtain ⟨l, hl, hget⟩ := list_of (α := QArg) len (fun i q => (∀ j u, ([.string ⟨q.r.method.toArray⟩, .string ⟨q.r.target.toArray⟩, .slice q.A q.r.heads.length q.x, .slice q.B q.r.body.length q.y] : List Value)[j]? = some u → w.cell? (a.add (i * 4 + j)) = some u) ∧ QArgIn w q) (fun i hil => by
      obtain ⟨cs', hcs, htr⟩ := hi i (by omega)
      rw [cells_26] at hcs
      obtain ⟨_, hcl, hat⟩ := World.cells?_some hcs
      obtain ⟨r, A, c, B, d, rfl, h1, h2, _⟩ := open_req htr
      refine ⟨⟨r, A, c, B, d⟩, fun j u hj => ?_, ⟨h1, h2⟩⟩
      have hj2 : j < 4 := (List.getElem?_eq_some_iff.1 hj).1
      have := hat j hj2
      rw [hj, Go.Deep.add_add] at this
      exact this)
    refine ⟨l, some a, cap, by rw [hl], fun hne => ?_, fun y hy => ?_, by rw [hl]; simp [maxLen] at hcm; omega⟩
    · obtain ⟨t0, ht0⟩ : ∃ u, l[0]? = some u := ⟨_, List.getElem?_eq_getElem (List.length_pos_iff.2 hne)⟩
      have h0 := (hget 0 t0 ht0).1 0 _ rfl
      have hs := spot_none h0
      obtain ⟨b, off, spot⟩ := a
      subst hs
      have hadd : ∀ j, (⟨b, off, none⟩ : Addr).add j = ⟨b, off + j, none⟩ := fun j => by simp [Addr.add]
      refine ⟨b, off, rfl, World.block_lt_of_cell? _ _ h0, fun i q hy => ?_⟩
      obtain ⟨hc, _⟩ := hget i q hy
      have hc' : ∀ j u, ([.string ⟨q.r.method.toArray⟩, .string ⟨q.r.target.toArray⟩, .slice q.A q.r.heads.length q.x, .slice q.B q.r.body.length q.y] : List Value)[j]? = some u → w.cell? ⟨b, off + i * 4 + j, none⟩ = some u := fun j u hj => by
        have := hc j u hj
        rw [hadd, ← Nat.add_assoc] at this
        exact this
      exact ⟨hc' 0 _ rfl, hc' 1 _ rfl, hc' 2 _ rfl, hc' 3 _ rfl⟩
    · obtain ⟨i, hi2, rfl⟩ := List.getElem_of_mem hy
      exact (hget i _ (List.getElem?_eq_getElem hi2)).2
/-- A response as it lies in a row. -/
structure PArg where
  r : Ht.Rsp
  A : Option Addr
  x : Nat
  B : Option Addr
  y : Nat
instance : Inhabited PArg := ⟨⟨⟨0, [], []⟩, none, 0, none, 0⟩⟩
structure PArgIn (w : World) (q : PArg) : Prop where
  at_ : RspIn w q.r q.A q.B
  cap : q.r.body.length ≤ q.y
/-- A row of them. -/
structure PArgsAt (w : World) (A : Option Addr) (l : List PArg) : Prop where
  row : l ≠ [] → ∃ b off, A = some ⟨b, off, none⟩ ∧ b < w.heap.size ∧ ∀ i q, l[i]? = some q → w.cell? ⟨b, off + i * 3, none⟩ = some (.int .i64 q.r.status) ∧ w.cell? ⟨b, off + i * 3 + 1, none⟩ = some (.slice q.A q.r.heads.length q.x) ∧ w.cell? ⟨b, off + i * 3 + 2, none⟩ = some (.slice q.B q.r.body.length q.y)
  each : ∀ q ∈ l, PArgIn w q
  len : l.length ≤ 9223372036854775807
theorem cells_36 : Tryz.prog.cellsOf 36 = 3 := by kernel_rfl
theorem open_PArgs {H : Type} {enc : TypeId × Value → H} {w : World} {held : Bool} {fuel : Nat} {cs : List Value} {x : DataW H × List MemPlace} (h : DataW.trod enc Tryz.prog w 0 (fun _ => true) held fuel 44 cs = some x) :
    ∃ (l : List PArg) (A : Option Addr) (c : Nat), cs = [.slice A l.length c] ∧ PArgsAt w A l := by
  rcases Go.Deep.open_slice Tryz.underlying44 h with ⟨rfl, _⟩ | ⟨a, len, cap, m, n, D, Pl, rfl, _, hlc, hcm, hm, _, hi⟩
  · exact ⟨[], none, 0, rfl, fun h => absurd rfl h, fun h hh => by simp at hh, by simp⟩
  · have hm' : m = cap := by simpa using hm
    obtain ⟨l, hl, hget⟩ := list_of (α := PArg) len (fun i q => (∀ j u, ([.int .i64 q.r.status, .slice q.A q.r.heads.length q.x, .slice q.B q.r.body.length q.y] : List Value)[j]? = some u → w.cell? (a.add (i * 3 + j)) = some u) ∧ PArgIn w q) (fun i hil => by
      obtain ⟨cs', hcs, htr⟩ := hi i (by omega)
      rw [cells_36] at hcs
      obtain ⟨_, hcl, hat⟩ := World.cells?_some hcs
      obtain ⟨r, A, c, B, d, rfl, h1, h2, _⟩ := open_rsp htr
      refine ⟨⟨r, A, c, B, d⟩, fun j u hj => ?_, ⟨h1, h2⟩⟩
      have hj2 : j < 3 := (List.getElem?_eq_some_iff.1 hj).1
      have := hat j hj2
      rw [hj, Go.Deep.add_add] at this
      exact this)
    refine ⟨l, some a, cap, by rw [hl], fun hne => ?_, fun y hy => ?_, by rw [hl]; simp [maxLen] at hcm; omega⟩
    · obtain ⟨t0, ht0⟩ : ∃ u, l[0]? = some u := ⟨_, List.getElem?_eq_getElem (List.length_pos_iff.2 hne)⟩
      have h0 := (hget 0 t0 ht0).1 0 _ rfl
      have hs := spot_none h0
      obtain ⟨b, off, spot⟩ := a
      subst hs
      have hadd : ∀ j, (⟨b, off, none⟩ : Addr).add j = ⟨b, off + j, none⟩ := fun j => by simp [Addr.add]
      refine ⟨b, off, rfl, World.block_lt_of_cell? _ _ h0, fun i q hy => ?_⟩
      obtain ⟨hc, _⟩ := hget i q hy
      have hc' : ∀ j u, ([.int .i64 q.r.status, .slice q.A q.r.heads.length q.x, .slice q.B q.r.body.length q.y] : List Value)[j]? = some u → w.cell? ⟨b, off + i * 3 + j, none⟩ = some u := fun j u hj => by
        have := hc j u hj
        rw [hadd, ← Nat.add_assoc] at this
        exact this
      exact ⟨hc' 0 _ rfl, hc' 1 _ rfl, hc' 2 _ rfl⟩
    · obtain ⟨i, hi2, rfl⟩ := List.getElem_of_mem hy
      exact (hget i _ (List.getElem?_eq_getElem hi2)).2
/-- A row of bytes as it lies in a row. -/
structure BArg where
  l : Ht.Bs
  A : Option Addr
  c : Nat
instance : Inhabited BArg := ⟨⟨[], none, 0⟩⟩
structure BArgIn (w : World) (q : BArg) : Prop where
  at_ : CellsAt w q.A (Lib.byteCells q.l)
  cap : q.l.length ≤ q.c
  mem : q.c ≤ 9223372036854775807
/-- A row of them. -/
structure BArgsAt (w : World) (A : Option Addr) (l : List BArg) : Prop where
  row : l ≠ [] → ∃ b off, A = some ⟨b, off, none⟩ ∧ b < w.heap.size ∧ ∀ i q, l[i]? = some q → w.cell? ⟨b, off + i, none⟩ = some (.slice q.A q.l.length q.c)
  each : ∀ q ∈ l, BArgIn w q
  len : l.length ≤ 9223372036854775807
theorem cells_22 : Tryz.prog.cellsOf 22 = 1 := by kernel_rfl
theorem open_BArgs {H : Type} {enc : TypeId × Value → H} {w : World} {held : Bool} {fuel : Nat} {cs : List Value} {x : DataW H × List MemPlace} (h : DataW.trod enc Tryz.prog w 0 (fun _ => true) held fuel 53 cs = some x) :
    ∃ (l : List BArg) (A : Option Addr) (c : Nat), cs = [.slice A l.length c] ∧ BArgsAt w A l := by
  rcases Go.Deep.open_slice Tryz.underlying53 h with ⟨rfl, _⟩ | ⟨a, len, cap, m, n, D, Pl, rfl, _, hlc, hcm, hm, _, hi⟩
  · exact ⟨[], none, 0, rfl, fun h => absurd rfl h, fun h hh => by simp at hh, by simp⟩
  · have hm' : m = cap := by simpa using hm
    obtain ⟨l, hl, hget⟩ := list_of (α := BArg) len (fun i q => (∀ j u, ([.slice q.A q.l.length q.c] : List Value)[j]? = some u → w.cell? (a.add (i * 1 + j)) = some u) ∧ BArgIn w q) (fun i hil => by
      obtain ⟨cs', hcs, htr⟩ := hi i (by omega)
      rw [cells_22] at hcs
      obtain ⟨_, hcl, hat⟩ := World.cells?_some hcs
      obtain ⟨l, A, c, rfl, h1, h2, h3⟩ := open_bytes htr
      refine ⟨⟨l, A, c⟩, fun j u hj => ?_, ⟨h3, h1, h2⟩⟩
      have hj2 : j < 1 := (List.getElem?_eq_some_iff.1 hj).1
      have := hat j hj2
      rw [hj, Go.Deep.add_add] at this
      exact this)
    refine ⟨l, some a, cap, by rw [hl], fun hne => ?_, fun y hy => ?_, by rw [hl]; simp [maxLen] at hcm; omega⟩
    · obtain ⟨t0, ht0⟩ : ∃ u, l[0]? = some u := ⟨_, List.getElem?_eq_getElem (List.length_pos_iff.2 hne)⟩
      have h0 := (hget 0 t0 ht0).1 0 _ rfl
      have hs := spot_none h0
      obtain ⟨b, off, spot⟩ := a
      subst hs
      have hadd : ∀ j, (⟨b, off, none⟩ : Addr).add j = ⟨b, off + j, none⟩ := fun j => by simp [Addr.add]
      refine ⟨b, off, rfl, World.block_lt_of_cell? _ _ h0, fun i q hy => ?_⟩
      obtain ⟨hc, _⟩ := hget i q hy
      have hc' : ∀ j u, ([.slice q.A q.l.length q.c] : List Value)[j]? = some u → w.cell? ⟨b, off + i * 1 + j, none⟩ = some u := fun j u hj => by
        have := hc j u hj
        rw [hadd, ← Nat.add_assoc] at this
        exact this
      exact by simpa using hc' 0 _ rfl
    · obtain ⟨i, hi2, rfl⟩ := List.getElem_of_mem hy
      exact (hget i _ (List.getElem?_eq_getElem hi2)).2
end Go.Proofs.YtoadahommlcjpaaGreatDoor
