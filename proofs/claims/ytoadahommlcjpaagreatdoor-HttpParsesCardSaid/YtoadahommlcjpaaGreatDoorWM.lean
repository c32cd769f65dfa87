/-
  THE WALKS: map literals at integer keys; Reason and Status of package http. NO CONDITIONS.
-/
import Derived.Test.YtoadahommlcjpaaGreatDoorWA
import Derived.WideMake
import Derived.MapKept
namespace Go.Proofs.YtoadahommlcjpaaGreatDoor
open Go.RowKit
/-- Entries in the order in which they came. -/
def ents (l : List (Int × Value)) : Array MapEntry := (l.zipIdx.map fun p => { key := .int .i64 p.1.1, val := p.1.2, born := p.2 }).toArray
def mapW (w : World) (l : List (Int × Value)) : World := w.alloc (.map (ents l) l.length)
def lookE (l : List (Int × Value)) (n : Int) : Option Value := (l.find? fun p => p.1 == n).map (·.2)
theorem ents_snoc (l : List (Int × Value)) (k : Int) (v : Value) : ents (l ++ [(k, v)]) = (ents l).push { key := .int .i64 k, val := v, born := l.length } := by
  unfold ents
  rw [List.zipIdx_append]
  simp
theorem find_now (n : Int) : ∀ (l : List (Int × Value)) (s i : Nat), ∃ r, Instr.findNow (.int .i64) (.int .i64 n) ((l.zipIdx s).map fun p => ({ key := .int .i64 p.1.1, val := p.1.2, born := p.2 } : MapEntry)) i = some r ∧ r.map (·.2) = lookE l n
  | [], s, i => ⟨none, rfl, rfl⟩
  | (k, v) :: t, s, i => by
    obtain ⟨r, h1, h2⟩ := find_now n t (s + 1) (i + 1)
    by_cases h : k = n
    · subst h
      refine ⟨some (i, v), ?_, ?_⟩
      · simp [Instr.findNow, Instr.sameNow]
      · simp [lookE]
    · refine ⟨r, ?_, ?_⟩
      · have hb : (n == k) = false := by rw [beq_eq_false_iff_ne]; exact fun e => h e.symm
        simp only [List.zipIdx_cons, List.map_cons, Instr.findNow, Instr.sameNow, if_true, hb]
        exact h1
      · have hb : (k == n) = false := by rw [beq_eq_false_iff_ne]; exact h
        rw [h2]
        simp [lookE, hb]
theorem mapW_blk (w : World) (l : List (Int × Value)) : (mapW w l).heap[w.heap.size]? = some (.map (ents l) l.length) := heap_alloc_new w _
set_option maxRecDepth 100000 in
theorem run_ins {t kt et : TypeId} (hk0 : Tryz.prog.underlying kt = some (.int .i64)) (ht : Tryz.prog.underlying t = some (.map kt et)) (w : World) (l : List (Int × Value)) (k : Int) (v : Value) (hk : lookE l k = none) :
    (Instr.mapUpdate t (.map (some w.heap.size)) (.int .i64 k) v).run Tryz.prog (mapW w l) = .ok () (mapW w (l ++ [(k, v)])) := by
  have hb := mapW_blk w l
  obtain ⟨r, h1, h2⟩ := find_now k l 0 0
  rw [hk] at h2
  have hr : r = none := by cases r with
    | none => rfl
    | some x => simp at h2
  subst hr
  have hc : (Instr.checkKey false 10000 kt (.int .i64 k)).run Tryz.prog (mapW w l) = .ok () (mapW w l) := MapKept.run_checkKey (d := .int .i64) hk0 (by simp [MapKept.IsKey]) false 9999
  have hf : (ents l).toList = (l.zipIdx.map fun p => ({ key := .int .i64 p.1.1, val := p.1.2, born := p.2 } : MapEntry)) := by unfold ents; simp
  rw [← hf] at h1
  simp only [Instr.mapUpdate, Sem.run_bind, run_underlying ht, Result.andThen_ok, MapKept.run_getObj_map hb, hc, MapKept.run_findKey hk0 h1]
  rw [MapKept.run_setObj_map _ hb]
  unfold mapW
  rw [ents_snoc, show (l ++ [(k, v)]).length = l.length + 1 by simp]
  have he : ∀ o1 o2 : Obj, (w.alloc o1).heap.setIfInBounds w.heap.size o2 = (w.alloc o2).heap := fun o1 o2 => by
    show (w.heap.push o1).setIfInBounds w.heap.size o2 = w.heap.push o2
    apply Array.ext
    · simp
    · intro i h1 h2
      by_cases hi : i = w.heap.size
      · subst hi; simp
      · have hlt : i < w.heap.size := by simp at h2; omega
        rw [Array.getElem_setIfInBounds (by simpa using h1), if_neg (Ne.symm hi), Array.getElem_push_lt hlt, Array.getElem_push_lt hlt]
  rw [he]
  rfl
theorem run_look {t kt et : TypeId} (hk0 : Tryz.prog.underlying kt = some (.int .i64)) (ht : Tryz.prog.underlying t = some (.map kt et)) {z : Value} (hz : ∀ w, (zeroValue et).run Tryz.prog w = .ok z w) (w : World) (l : List (Int × Value)) (n : Int) :
    (Instr.lookup t (.map (some w.heap.size)) (.int .i64 n) true).run Tryz.prog (mapW w l) = .ok (.tuple #[(lookE l n).getD z, .bool (lookE l n).isSome]) (mapW w l) := by
  have hb := mapW_blk w l
  obtain ⟨r, h1, h2⟩ := find_now n l 0 0
  have hf : (ents l).toList = (l.zipIdx.map fun p => ({ key := .int .i64 p.1.1, val := p.1.2, born := p.2 } : MapEntry)) := by unfold ents; simp
  rw [← hf] at h1
  have hc : ∀ e, (Instr.checkKey e 10000 kt (.int .i64 n)).run Tryz.prog (mapW w l) = .ok () (mapW w l) := fun e => MapKept.run_checkKey (d := .int .i64) hk0 (by simp [MapKept.IsKey]) e 9999
  cases r with
  | none =>
    have h3 : lookE l n = none := by rw [← h2]; rfl
    rw [h3]
    simp [Instr.lookup, run_underlying ht, MapKept.run_getObj_map hb, hc, MapKept.run_findKey hk0 h1, Result.andThen, hz]
  | some x =>
    have h3 : lookE l n = some x.2 := by rw [← h2]; rfl
    rw [h3]
    simp [Instr.lookup, run_underlying ht, MapKept.run_getObj_map hb, hc, MapKept.run_findKey hk0 h1, Result.andThen]

/-- The table of Reason. -/
def tabR : List (Int × Value) := [(200, .string ⟨#[79, 75]⟩), (201, .string ⟨#[67, 114, 101, 97, 116, 101, 100]⟩), (400, .string ⟨#[66, 97, 100, 32, 82, 101, 113, 117, 101, 115, 116]⟩), (403, .string ⟨#[70, 111, 114, 98, 105, 100, 100, 101, 110]⟩), (404, .string ⟨#[78, 111, 116, 32, 70, 111, 117, 110, 100]⟩), (405, .string ⟨#[77, 101, 116, 104, 111, 100, 32, 78, 111, 116, 32, 65, 108, 108, 111, 119, 101, 100]⟩), (409, .string ⟨#[67, 111, 110, 102, 108, 105, 99, 116]⟩), (413, .string ⟨#[67, 111, 110, 116, 101, 110, 116, 32, 84, 111, 111, 32, 76, 97, 114, 103, 101]⟩), (422, .string ⟨#[85, 110, 112, 114, 111, 99, 101, 115, 115, 97, 98, 108, 101, 32, 67, 111, 110, 116, 101, 110, 116]⟩), (431, .string ⟨#[82, 101, 113, 117, 101, 115, 116, 32, 72, 101, 97, 100, 101, 114, 32, 70, 105, 101, 108, 100, 115, 32, 84, 111, 111, 32, 76, 97, 114, 103, 101]⟩), (500, .string ⟨#[73, 110, 116, 101, 114, 110, 97, 108, 32, 83, 101, 114, 118, 101, 114, 32, 69, 114, 114, 111, 114]⟩), (501, .string ⟨#[78, 111, 116, 32, 73, 109, 112, 108, 101, 109, 101, 110, 116, 101, 100]⟩), (503, .string ⟨#[83, 101, 114, 118, 105, 99, 101, 32, 85, 110, 97, 118, 97, 105, 108, 97, 98, 108, 101]⟩), (507, .string ⟨#[73, 110, 115, 117, 102, 102, 105, 99, 105, 101, 110, 116, 32, 83, 116, 111, 114, 97, 103, 101]⟩)]
def tabS : List (Int × Value) := [(0, .int .i64 200), (340, .int .i64 400), (2, .int .i64 400), (7, .int .i64 400), (341, .int .i64 400), (4, .int .i64 404), (5, .int .i64 409), (343, .int .i64 413), (3, .int .i64 413), (342, .int .i64 431), (344, .int .i64 501), (6, .int .i64 507), (8, .int .i64 503), (9, .int .i64 503), (1, .int .i64 503)]
theorem lookE_cons (k : Int) (v : Value) (t : List (Int × Value)) (n : Int) : lookE ((k, v) :: t) n = if n = k then some v else lookE t n := by
  by_cases h : n = k
  · subst h; simp [lookE]
  · have hb : (k == n) = false := by rw [beq_eq_false_iff_ne]; exact fun e => h e.symm
    simp [lookE, hb, h]
theorem lookE_nil (n : Int) : lookE [] n = none := rfl
theorem reason_look (n : Int) : ((lookE tabR n).isSome = true ∧ (lookE tabR n).getD (.string ⟨#[]⟩) = .string ⟨(Ht.reasonOf n).toArray⟩) ∨ ((lookE tabR n).isSome = false ∧ Ht.reasonOf n = [85, 110, 107, 110, 111, 119, 110]) := by
  unfold tabR Ht.reasonOf
  by_cases h200 : n = 200
  · subst h200; exact .inl ⟨rfl, rfl⟩
  by_cases h201 : n = 201
  · subst h201; exact .inl ⟨rfl, rfl⟩
  by_cases h400 : n = 400
  · subst h400; exact .inl ⟨rfl, rfl⟩
  by_cases h403 : n = 403
  · subst h403; exact .inl ⟨rfl, rfl⟩
  by_cases h404 : n = 404
  · subst h404; exact .inl ⟨rfl, rfl⟩
  by_cases h405 : n = 405
  · subst h405; exact .inl ⟨rfl, rfl⟩
  by_cases h409 : n = 409
  · subst h409; exact .inl ⟨rfl, rfl⟩
  by_cases h413 : n = 413
  · subst h413; exact .inl ⟨rfl, rfl⟩
  by_cases h422 : n = 422
  · subst h422; exact .inl ⟨rfl, rfl⟩
  by_cases h431 : n = 431
  · subst h431; exact .inl ⟨rfl, rfl⟩
  by_cases h500 : n = 500
  · subst h500; exact .inl ⟨rfl, rfl⟩
  by_cases h501 : n = 501
  · subst h501; exact .inl ⟨rfl, rfl⟩
  by_cases h503 : n = 503
  · subst h503; exact .inl ⟨rfl, rfl⟩
  by_cases h507 : n = 507
  · subst h507; exact .inl ⟨rfl, rfl⟩
  exact .inr ⟨by simp [lookE_cons, lookE_nil, h200, h201, h400, h403, h404, h405, h409, h413, h422, h431, h500, h501, h503, h507], by simp [h200, h201, h400, h403, h404, h405, h409, h413, h422, h431, h500, h501, h503, h507]⟩
theorem status_look (n : Int) : ((lookE tabS n).isSome = true ∧ (lookE tabS n).getD (.int .i64 0) = .int .i64 (Ht.statusOf n)) ∨ ((lookE tabS n).isSome = false ∧ Ht.statusOf n = 422) := by
  unfold tabS Ht.statusOf
  by_cases h0 : n = 0
  · subst h0; exact .inl ⟨rfl, rfl⟩
  by_cases h340 : n = 340
  · subst h340; exact .inl ⟨rfl, rfl⟩
  by_cases h2 : n = 2
  · subst h2; exact .inl ⟨rfl, rfl⟩
  by_cases h7 : n = 7
  · subst h7; exact .inl ⟨rfl, rfl⟩
  by_cases h341 : n = 341
  · subst h341; exact .inl ⟨rfl, rfl⟩
  by_cases h4 : n = 4
  · subst h4; exact .inl ⟨rfl, rfl⟩
  by_cases h5 : n = 5
  · subst h5; exact .inl ⟨rfl, rfl⟩
  by_cases h343 : n = 343
  · subst h343; exact .inl ⟨rfl, rfl⟩
  by_cases h3 : n = 3
  · subst h3; exact .inl ⟨rfl, rfl⟩
  by_cases h342 : n = 342
  · subst h342; exact .inl ⟨rfl, rfl⟩
  by_cases h344 : n = 344
  · subst h344; exact .inl ⟨rfl, rfl⟩
  by_cases h6 : n = 6
  · subst h6; exact .inl ⟨rfl, rfl⟩
  by_cases h8 : n = 8
  · subst h8; exact .inl ⟨rfl, rfl⟩
  by_cases h9 : n = 9
  · subst h9; exact .inl ⟨rfl, rfl⟩
  by_cases h1 : n = 1
  · subst h1; exact .inl ⟨rfl, rfl⟩
  exact .inr ⟨by simp [lookE_cons, lookE_nil, h0, h340, h2, h7, h341, h4, h5, h343, h3, h342, h344, h6, h8, h9, h1], by simp [h0, h340, h2, h7, h341, h4, h5, h343, h3, h342, h344, h6, h8, h9, h1]⟩
set_option maxRecDepth 100000 in
set_option maxHeartbeats 4000000 in
theorem reason_any (n : Int) (w : World) :
    Calls Tryz.prog 31 #[.int .i64 n] w fun e w' => e = .returned (.string ⟨(Ht.reasonOf n).toArray⟩) ∧ Below w.heap.size w w' := by
  have hmk : (Instr.makeMap 93 none).run Tryz.prog w = .ok (.map (some w.heap.size)) (mapW w []) := run_makeMap_plain w 93
  have hlk := run_look (t := 93) Tryz.underlying3 Tryz.underlying93 (fun w => Tryz.zeroValue9 w) w tabR n
  have hlk0 := reason_look n
  have HB : Hid (Below w.heap.size w (mapW w tabR)) := Lib.hid (below_box w _)
  obtain ⟨v, hv⟩ : ∃ v, (lookE tabR n).getD (.string ⟨#[]⟩) = v := ⟨_, rfl⟩
  obtain ⟨q, hq⟩ : ∃ q, (lookE tabR n).isSome = q := ⟨_, rfl⟩
  rw [hv, hq] at hlk hlk0
  clear hv hq
  have i0 := run_ins (t := 93) Tryz.underlying3 Tryz.underlying93 w [] 200 (.string ⟨#[79, 75]⟩) (by simp [lookE])
  have i1 := run_ins (t := 93) Tryz.underlying3 Tryz.underlying93 w [(200, .string ⟨#[79, 75]⟩)] 201 (.string ⟨#[67, 114, 101, 97, 116, 101, 100]⟩) (by simp [lookE])
  have i2 := run_ins (t := 93) Tryz.underlying3 Tryz.underlying93 w [(200, .string ⟨#[79, 75]⟩), (201, .string ⟨#[67, 114, 101, 97, 116, 101, 100]⟩)] 400 (.string ⟨#[66, 97, 100, 32, 82, 101, 113, 117, 101, 115, 116]⟩) (by simp [lookE])
  have i3 := run_ins (t := 93) Tryz.underlying3 Tryz.underlying93 w [(200, .string ⟨#[79, 75]⟩), (201, .string ⟨#[67, 114, 101, 97, 116, 101, 100]⟩), (400, .string ⟨#[66, 97, 100, 32, 82, 101, 113, 117, 101, 115, 116]⟩)] 403 (.string ⟨#[70, 111, 114, 98, 105, 100, 100, 101, 110]⟩) (by simp [lookE])
  have i4 := run_ins (t := 93) Tryz.underlying3 Tryz.underlying93 w [(200, .string ⟨#[79, 75]⟩), (201, .string ⟨#[67, 114, 101, 97, 116, 101, 100]⟩), (400, .string ⟨#[66, 97, 100, 32, 82, 101, 113, 117, 101, 115, 116]⟩), (403, .string ⟨#[70, 111, 114, 98, 105, 100, 100, 101, 110]⟩)] 404 (.string ⟨#[78, 111, 116, 32, 70, 111, 117, 110, 100]⟩) (by simp [lookE])
  have i5 := run_ins (t := 93) Tryz.underlying3 Tryz.underlying93 w [(200, .string ⟨#[79, 75]⟩), (201, .string ⟨#[67, 114, 101, 97, 116, 101, 100]⟩), (400, .string ⟨#[66, 97, 100, 32, 82, 101, 113, 117, 101, 115, 116]⟩), (403, .string ⟨#[70, 111, 114, 98, 105, 100, 100, 101, 110]⟩), (404, .string ⟨#[78, 111, 116, 32, 70, 111, 117, 110, 100]⟩)] 405 (.string ⟨#[77, 101, 116, 104, 111, 100, 32, 78, 111, 116, 32, 65, 108, 108, 111, 119, 101, 100]⟩) (by simp [lookE])
  have i6 := run_ins (t := 93) Tryz.underlying3 Tryz.underlying93 w [(200, .string ⟨#[79, 75]⟩), (201, .string ⟨#[67, 114, 101, 97, 116, 101, 100]⟩), (400, .string ⟨#[66, 97, 100, 32, 82, 101, 113, 117, 101, 115, 116]⟩), (403, .string ⟨#[70, 111, 114, 98, 105, 100, 100, 101, 110]⟩), (404, .string ⟨#[78, 111, 116, 32, 70, 111, 117, 110, 100]⟩), (405, .string ⟨#[77, 101, 116, 104, 111, 100, 32, 78, 111, 116, 32, 65, 108, 108, 111, 119, 101, 100]⟩)] 409 (.string ⟨#[67, 111, 110, 102, 108, 105, 99, 116]⟩) (by simp [lookE])
  have i7 := run_ins (t := 93) Tryz.underlying3 Tryz.underlying93 w [(200, .string ⟨#[79, 75]⟩), (201, .string ⟨#[67, 114, 101, 97, 116, 101, 100]⟩), (400, .string ⟨#[66, 97, 100, 32, 82, 101, 113, 117, 101, 115, 116]⟩), (403, .string ⟨#[70, 111, 114, 98, 105, 100, 100, 101, 110]⟩), (404, .string ⟨#[78, 111, 116, 32, 70, 111, 117, 110, 100]⟩), (405, .string ⟨#[77, 101, 116, 104, 111, 100, 32, 78, 111, 116, 32, 65, 108, 108, 111, 119, 101, 100]⟩), (409, .string ⟨#[67, 111, 110, 102, 108, 105, 99, 116]⟩)] 413 (.string ⟨#[67, 111, 110, 116, 101, 110, 116, 32, 84, 111, 111, 32, 76, 97, 114, 103, 101]⟩) (by simp [lookE])
  have i8 := run_ins (t := 93) Tryz.underlying3 Tryz.underlying93 w [(200, .string ⟨#[79, 75]⟩), (201, .string ⟨#[67, 114, 101, 97, 116, 101, 100]⟩), (400, .string ⟨#[66, 97, 100, 32, 82, 101, 113, 117, 101, 115, 116]⟩), (403, .string ⟨#[70, 111, 114, 98, 105, 100, 100, 101, 110]⟩), (404, .string ⟨#[78, 111, 116, 32, 70, 111, 117, 110, 100]⟩), (405, .string ⟨#[77, 101, 116, 104, 111, 100, 32, 78, 111, 116, 32, 65, 108, 108, 111, 119, 101, 100]⟩), (409, .string ⟨#[67, 111, 110, 102, 108, 105, 99, 116]⟩), (413, .string ⟨#[67, 111, 110, 116, 101, 110, 116, 32, 84, 111, 111, 32, 76, 97, 114, 103, 101]⟩)] 422 (.string ⟨#[85, 110, 112, 114, 111, 99, 101, 115, 115, 97, 98, 108, 101, 32, 67, 111, 110, 116, 101, 110, 116]⟩) (by simp [lookE])
  have i9 := run_ins (t := 93) Tryz.underlying3 Tryz.underlying93 w [(200, .string ⟨#[79, 75]⟩), (201, .string ⟨#[67, 114, 101, 97, 116, 101, 100]⟩), (400, .string ⟨#[66, 97, 100, 32, 82, 101, 113, 117, 101, 115, 116]⟩), (403, .string ⟨#[70, 111, 114, 98, 105, 100, 100, 101, 110]⟩), (404, .string ⟨#[78, 111, 116, 32, 70, 111, 117, 110, 100]⟩), (405, .string ⟨#[77, 101, 116, 104, 111, 100, 32, 78, 111, 116, 32, 65, 108, 108, 111, 119, 101, 100]⟩), (409, .string ⟨#[67, 111, 110, 102, 108, 105, 99, 116]⟩), (413, .string ⟨#[67, 111, 110, 116, 101, 110, 116, 32, 84, 111, 111, 32, 76, 97, 114, 103, 101]⟩), (422, .string ⟨#[85, 110, 112, 114, 111, 99, 101, 115, 115, 97, 98, 108, 101, 32, 67, 111, 110, 116, 101, 110, 116]⟩)] 431 (.string ⟨#[82, 101, 113, 117, 101, 115, 116, 32, 72, 101, 97, 100, 101, 114, 32, 70, 105, 101, 108, 100, 115, 32, 84, 111, 111, 32, 76, 97, 114, 103, 101]⟩) (by simp [lookE])
  have i10 := run_ins (t := 93) Tryz.underlying3 Tryz.underlying93 w [(200, .string ⟨#[79, 75]⟩), (201, .string ⟨#[67, 114, 101, 97, 116, 101, 100]⟩), (400, .string ⟨#[66, 97, 100, 32, 82, 101, 113, 117, 101, 115, 116]⟩), (403, .string ⟨#[70, 111, 114, 98, 105, 100, 100, 101, 110]⟩), (404, .string ⟨#[78, 111, 116, 32, 70, 111, 117, 110, 100]⟩), (405, .string ⟨#[77, 101, 116, 104, 111, 100, 32, 78, 111, 116, 32, 65, 108, 108, 111, 119, 101, 100]⟩), (409, .string ⟨#[67, 111, 110, 102, 108, 105, 99, 116]⟩), (413, .string ⟨#[67, 111, 110, 116, 101, 110, 116, 32, 84, 111, 111, 32, 76, 97, 114, 103, 101]⟩), (422, .string ⟨#[85, 110, 112, 114, 111, 99, 101, 115, 115, 97, 98, 108, 101, 32, 67, 111, 110, 116, 101, 110, 116]⟩), (431, .string ⟨#[82, 101, 113, 117, 101, 115, 116, 32, 72, 101, 97, 100, 101, 114, 32, 70, 105, 101, 108, 100, 115, 32, 84, 111, 111, 32, 76, 97, 114, 103, 101]⟩)] 500 (.string ⟨#[73, 110, 116, 101, 114, 110, 97, 108, 32, 83, 101, 114, 118, 101, 114, 32, 69, 114, 114, 111, 114]⟩) (by simp [lookE])
  have i11 := run_ins (t := 93) Tryz.underlying3 Tryz.underlying93 w [(200, .string ⟨#[79, 75]⟩), (201, .string ⟨#[67, 114, 101, 97, 116, 101, 100]⟩), (400, .string ⟨#[66, 97, 100, 32, 82, 101, 113, 117, 101, 115, 116]⟩), (403, .string ⟨#[70, 111, 114, 98, 105, 100, 100, 101, 110]⟩), (404, .string ⟨#[78, 111, 116, 32, 70, 111, 117, 110, 100]⟩), (405, .string ⟨#[77, 101, 116, 104, 111, 100, 32, 78, 111, 116, 32, 65, 108, 108, 111, 119, 101, 100]⟩), (409, .string ⟨#[67, 111, 110, 102, 108, 105, 99, 116]⟩), (413, .string ⟨#[67, 111, 110, 116, 101, 110, 116, 32, 84, 111, 111, 32, 76, 97, 114, 103, 101]⟩), (422, .string ⟨#[85, 110, 112, 114, 111, 99, 101, 115, 115, 97, 98, 108, 101, 32, 67, 111, 110, 116, 101, 110, 116]⟩), (431, .string ⟨#[82, 101, 113, 117, 101, 115, 116, 32, 72, 101, 97, 100, 101, 114, 32, 70, 105, 101, 108, 100, 115, 32, 84, 111, 111, 32, 76, 97, 114, 103, 101]⟩), (500, .string ⟨#[73, 110, 116, 101, 114, 110, 97, 108, 32, 83, 101, 114, 118, 101, 114, 32, 69, 114, 114, 111, 114]⟩)] 501 (.string ⟨#[78, 111, 116, 32, 73, 109, 112, 108, 101, 109, 101, 110, 116, 101, 100]⟩) (by simp [lookE])
  have i12 := run_ins (t := 93) Tryz.underlying3 Tryz.underlying93 w [(200, .string ⟨#[79, 75]⟩), (201, .string ⟨#[67, 114, 101, 97, 116, 101, 100]⟩), (400, .string ⟨#[66, 97, 100, 32, 82, 101, 113, 117, 101, 115, 116]⟩), (403, .string ⟨#[70, 111, 114, 98, 105, 100, 100, 101, 110]⟩), (404, .string ⟨#[78, 111, 116, 32, 70, 111, 117, 110, 100]⟩), (405, .string ⟨#[77, 101, 116, 104, 111, 100, 32, 78, 111, 116, 32, 65, 108, 108, 111, 119, 101, 100]⟩), (409, .string ⟨#[67, 111, 110, 102, 108, 105, 99, 116]⟩), (413, .string ⟨#[67, 111, 110, 116, 101, 110, 116, 32, 84, 111, 111, 32, 76, 97, 114, 103, 101]⟩), (422, .string ⟨#[85, 110, 112, 114, 111, 99, 101, 115, 115, 97, 98, 108, 101, 32, 67, 111, 110, 116, 101, 110, 116]⟩), (431, .string ⟨#[82, 101, 113, 117, 101, 115, 116, 32, 72, 101, 97, 100, 101, 114, 32, 70, 105, 101, 108, 100, 115, 32, 84, 111, 111, 32, 76, 97, 114, 103, 101]⟩), (500, .string ⟨#[73, 110, 116, 101, 114, 110, 97, 108, 32, 83, 101, 114, 118, 101, 114, 32, 69, 114, 114, 111, 114]⟩), (501, .string ⟨#[78, 111, 116, 32, 73, 109, 112, 108, 101, 109, 101, 110, 116, 101, 100]⟩)] 503 (.string ⟨#[83, 101, 114, 118, 105, 99, 101, 32, 85, 110, 97, 118, 97, 105, 108, 97, 98, 108, 101]⟩) (by simp [lookE])
  have i13 := run_ins (t := 93) Tryz.underlying3 Tryz.underlying93 w [(200, .string ⟨#[79, 75]⟩), (201, .string ⟨#[67, 114, 101, 97, 116, 101, 100]⟩), (400, .string ⟨#[66, 97, 100, 32, 82, 101, 113, 117, 101, 115, 116]⟩), (403, .string ⟨#[70, 111, 114, 98, 105, 100, 100, 101, 110]⟩), (404, .string ⟨#[78, 111, 116, 32, 70, 111, 117, 110, 100]⟩), (405, .string ⟨#[77, 101, 116, 104, 111, 100, 32, 78, 111, 116, 32, 65, 108, 108, 111, 119, 101, 100]⟩), (409, .string ⟨#[67, 111, 110, 102, 108, 105, 99, 116]⟩), (413, .string ⟨#[67, 111, 110, 116, 101, 110, 116, 32, 84, 111, 111, 32, 76, 97, 114, 103, 101]⟩), (422, .string ⟨#[85, 110, 112, 114, 111, 99, 101, 115, 115, 97, 98, 108, 101, 32, 67, 111, 110, 116, 101, 110, 116]⟩), (431, .string ⟨#[82, 101, 113, 117, 101, 115, 116, 32, 72, 101, 97, 100, 101, 114, 32, 70, 105, 101, 108, 100, 115, 32, 84, 111, 111, 32, 76, 97, 114, 103, 101]⟩), (500, .string ⟨#[73, 110, 116, 101, 114, 110, 97, 108, 32, 83, 101, 114, 118, 101, 114, 32, 69, 114, 114, 111, 114]⟩), (501, .string ⟨#[78, 111, 116, 32, 73, 109, 112, 108, 101, 109, 101, 110, 116, 101, 100]⟩), (503, .string ⟨#[83, 101, 114, 118, 105, 99, 101, 32, 85, 110, 97, 118, 97, 105, 108, 97, 98, 108, 101]⟩)] 507 (.string ⟨#[73, 110, 115, 117, 102, 102, 105, 99, 105, 101, 110, 116, 32, 83, 116, 111, 114, 97, 103, 101]⟩) (by simp [lookE])
  simp only [List.cons_append, List.nil_append] at i0 i1 i2 i3 i4 i5 i6 i7 i8 i9 i10 i11 i12 i13
  go_enter Tryz.func31, Tryz.ntmps31
  unfold tabR at hlk HB
  rcases hlk0 with ⟨rfl, hv⟩ | ⟨rfl, hr⟩
  · have HV := Lib.hid hv
    clear hv
    go_wp2_with fail
    go_ret
    exact ⟨congrArg Ending.returned HV.out, HB.out⟩
  · have HV := Lib.hid hr
    clear hr
    go_wp2_with fail
    go_ret
    exact ⟨by rw [HV.out]; rfl, HB.out⟩
set_option maxRecDepth 100000 in
set_option maxHeartbeats 4000000 in
theorem status_any (n : Int) (w : World) :
    Calls Tryz.prog 33 #[.int .i64 n] w fun e w' => e = .returned (.int .i64 (Ht.statusOf n)) ∧ Below w.heap.size w w' := by
  have hmk : (Instr.makeMap 95 none).run Tryz.prog w = .ok (.map (some w.heap.size)) (mapW w []) := run_makeMap_plain w 95
  have hlk := run_look (t := 95) Tryz.underlying27 Tryz.underlying95 (fun w => Tryz.zeroValue3 w) w tabS n
  have hlk0 := status_look n
  have HB : Hid (Below w.heap.size w (mapW w tabS)) := Lib.hid (below_box w _)
  obtain ⟨v, hv⟩ : ∃ v, (lookE tabS n).getD (.int .i64 0) = v := ⟨_, rfl⟩
  obtain ⟨q, hq⟩ : ∃ q, (lookE tabS n).isSome = q := ⟨_, rfl⟩
  rw [hv, hq] at hlk hlk0
  clear hv hq
  have i0 := run_ins (t := 95) Tryz.underlying27 Tryz.underlying95 w [] 0 (.int .i64 200) (by simp [lookE])
  have i1 := run_ins (t := 95) Tryz.underlying27 Tryz.underlying95 w [(0, .int .i64 200)] 340 (.int .i64 400) (by simp [lookE])
  have i2 := run_ins (t := 95) Tryz.underlying27 Tryz.underlying95 w [(0, .int .i64 200), (340, .int .i64 400)] 2 (.int .i64 400) (by simp [lookE])
  have i3 := run_ins (t := 95) Tryz.underlying27 Tryz.underlying95 w [(0, .int .i64 200), (340, .int .i64 400), (2, .int .i64 400)] 7 (.int .i64 400) (by simp [lookE])
  have i4 := run_ins (t := 95) Tryz.underlying27 Tryz.underlying95 w [(0, .int .i64 200), (340, .int .i64 400), (2, .int .i64 400), (7, .int .i64 400)] 341 (.int .i64 400) (by simp [lookE])
  have i5 := run_ins (t := 95) Tryz.underlying27 Tryz.underlying95 w [(0, .int .i64 200), (340, .int .i64 400), (2, .int .i64 400), (7, .int .i64 400), (341, .int .i64 400)] 4 (.int .i64 404) (by simp [lookE])
  have i6 := run_ins (t := 95) Tryz.underlying27 Tryz.underlying95 w [(0, .int .i64 200), (340, .int .i64 400), (2, .int .i64 400), (7, .int .i64 400), (341, .int .i64 400), (4, .int .i64 404)] 5 (.int .i64 409) (by simp [lookE])
  have i7 := run_ins (t := 95) Tryz.underlying27 Tryz.underlying95 w [(0, .int .i64 200), (340, .int .i64 400), (2, .int .i64 400), (7, .int .i64 400), (341, .int .i64 400), (4, .int .i64 404), (5, .int .i64 409)] 343 (.int .i64 413) (by simp [lookE])
  have i8 := run_ins (t := 95) Tryz.underlying27 Tryz.underlying95 w [(0, .int .i64 200), (340, .int .i64 400), (2, .int .i64 400), (7, .int .i64 400), (341, .int .i64 400), (4, .int .i64 404), (5, .int .i64 409), (343, .int .i64 413)] 3 (.int .i64 413) (by simp [lookE])
  have i9 := run_ins (t := 95) Tryz.underlying27 Tryz.underlying95 w [(0, .int .i64 200), (340, .int .i64 400), (2, .int .i64 400), (7, .int .i64 400), (341, .int .i64 400), (4, .int .i64 404), (5, .int .i64 409), (343, .int .i64 413), (3, .int .i64 413)] 342 (.int .i64 431) (by simp [lookE])
  have i10 := run_ins (t := 95) Tryz.underlying27 Tryz.underlying95 w [(0, .int .i64 200), (340, .int .i64 400), (2, .int .i64 400), (7, .int .i64 400), (341, .int .i64 400), (4, .int .i64 404), (5, .int .i64 409), (343, .int .i64 413), (3, .int .i64 413), (342, .int .i64 431)] 344 (.int .i64 501) (by simp [lookE])
  have i11 := run_ins (t := 95) Tryz.underlying27 Tryz.underlying95 w [(0, .int .i64 200), (340, .int .i64 400), (2, .int .i64 400), (7, .int .i64 400), (341, .int .i64 400), (4, .int .i64 404), (5, .int .i64 409), (343, .int .i64 413), (3, .int .i64 413), (342, .int .i64 431), (344, .int .i64 501)] 6 (.int .i64 507) (by simp [lookE])
  have i12 := run_ins (t := 95) Tryz.underlying27 Tryz.underlying95 w [(0, .int .i64 200), (340, .int .i64 400), (2, .int .i64 400), (7, .int .i64 400), (341, .int .i64 400), (4, .int .i64 404), (5, .int .i64 409), (343, .int .i64 413), (3, .int .i64 413), (342, .int .i64 431), (344, .int .i64 501), (6, .int .i64 507)] 8 (.int .i64 503) (by simp [lookE])
  have i13 := run_ins (t := 95) Tryz.underlying27 Tryz.underlying95 w [(0, .int .i64 200), (340, .int .i64 400), (2, .int .i64 400), (7, .int .i64 400), (341, .int .i64 400), (4, .int .i64 404), (5, .int .i64 409), (343, .int .i64 413), (3, .int .i64 413), (342, .int .i64 431), (344, .int .i64 501), (6, .int .i64 507), (8, .int .i64 503)] 9 (.int .i64 503) (by simp [lookE])
  have i14 := run_ins (t := 95) Tryz.underlying27 Tryz.underlying95 w [(0, .int .i64 200), (340, .int .i64 400), (2, .int .i64 400), (7, .int .i64 400), (341, .int .i64 400), (4, .int .i64 404), (5, .int .i64 409), (343, .int .i64 413), (3, .int .i64 413), (342, .int .i64 431), (344, .int .i64 501), (6, .int .i64 507), (8, .int .i64 503), (9, .int .i64 503)] 1 (.int .i64 503) (by simp [lookE])
  simp only [List.cons_append, List.nil_append] at i0 i1 i2 i3 i4 i5 i6 i7 i8 i9 i10 i11 i12 i13 i14
  go_enter Tryz.func33, Tryz.ntmps33
  unfold tabS at hlk HB
  rcases hlk0 with ⟨rfl, hv⟩ | ⟨rfl, hr⟩
  · have HV := Lib.hid hv
    clear hv
    go_wp2_with fail
    go_ret
    exact ⟨congrArg Ending.returned HV.out, HB.out⟩
  · have HV := Lib.hid hr
    clear hr
    go_wp2_with fail
    go_ret
    exact ⟨by rw [HV.out]; rfl, HB.out⟩
end Go.Proofs.YtoadahommlcjpaaGreatDoor
