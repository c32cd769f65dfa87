/-
  THE ROW's PART that is alike for every law of the seat: what the call may lean on (Env), the arguments' reading carried over, the last step.
-/
import Derived.Test.YtoppkhkdbkkldaaDoorCards
import Derived.Test.YtoppkhkdbkkldaaDoorTie
import Derived.Test.YtoppkhkdbkkldaaDoorWalkL
import Derived.WalkKit
import Derived.ProofKit
import Derived.OpenShut
import Derived.OpenVars
import Derived.Deep.DeepHandedRow
import Derived.Deep.DeepWitnessRowRef
import Derived.Deep.Slices
import Derived.Deep.Fields
import Derived.ChangeSame
import Derived.Shelf.Vars
import Derived.Stop.LaidErr
import Derived.LaidMore
namespace Go.Proofs.YtoppkhkdbkkldaaDoor
open Go.ChangeShapes Go.WideShapes Go.ChangeAt Go.RowKit Go.Deep

theorem own : ownKnob Tryd.prog.godebug = none := by kernel_rfl
theorem laidOut : laidOutB Tryd.prog = true := by kernel_rfl

/-- The arguments read behind the call as they did: below the heap's old size nothing has turned. -/
theorem below_trodAll {H : Type} {enc : TypeId × Value → H} {P : Program} (hl : laidOutB P = true) {W W' : World} (hb : Below W.heap.size W W') {sp' : Nat → Bool} :
    ∀ {ts : List TypeId} {vs : List Value} {ds : List (DataW H)} {ps : List MemPlace}, ts.all (fun t => P.readableRec t && decide (t < P.types.size)) = true → DataW.TrodAll enc P W 0 (fun _ => true) true ts vs ds ps →
      (∀ p ∈ ps, p.block < W.heap.size) → (∀ p ∈ ps, sp' p.block = true) → DataW.TrodAll enc P W' 0 sp' true ts vs ds ps
  | [], [], [], _, _, h, _, _ => h
  | [], [], _ :: _, _, _, h, _, _ => h.elim
  | [], _ :: _, _, _, _, h, _, _ => by cases ‹List (DataW H)› <;> exact h.elim
  | _ :: _, [], _, _, _, h, _, _ => by cases ‹List (DataW H)› <;> exact h.elim
  | _ :: _, _ :: _, [], _, _, h, _, _ => h.elim
  | t :: ts, v :: vs, d :: ds, ps, hr, h, hlt, hs => by
    obtain ⟨p, q, ⟨fuel, h1⟩, h2, rfl⟩ := h
    simp only [List.all_cons, Bool.and_eq_true, decide_eq_true_eq] at hr
    refine ⟨p, q, ⟨fuel, ?_⟩, below_trodAll hl hb (by simpa using hr.2) h2 (fun x hx => hlt x (List.mem_append_right _ hx)) (fun x hx => hs x (List.mem_append_right _ hx)), rfl⟩
    exact DataW.trod_stays (kids_book hl hr.1.1) (book_sized hr.1.1) (fun h => by cases h) ⟨hr.1.2, book_self t⟩ h1 (fun x hx => hb.same (hlt x (List.mem_append_left _ hx))) (fun x hx => hs x (List.mem_append_left _ hx))

section
variable {H : Type} {enc : TypeId × Value → H} {P : Program}
/-- The last step: the law returned true and below the heap's old size nothing has turned. -/
theorem post_true {f : Func} {s : ChangeSpec} {apart fresh handsOn again : Bool} {W W' : World} {args : Array Value} {ds gs : List (DataW H)} {before : List MemPlace} (hl : laidOutB P = true) (hbool : P.underlying 4 = some .bool)
    (hvn : s.vars = []) (hW : DataW.Whole enc P f.params.toList s.vars apart W args.toList ds gs before) (hts : f.params.toList.all (fun t => P.readableRec t && decide (t < P.types.size)) = true) (hrt : f.resultTypes = #[4])
    (hf1 : (s.fn H ds).results = [.lit (.bool true)]) (hf2 : (s.fn H ds).args = ds) (hf3 : (s.fn H ds).vars = []) (hb : Below W.heap.size W W') :
    s.post enc P f apart fresh handsOn again W args (.bool true) W' := by
  have hW' := hW
  obtain ⟨p, q, hA, hV, rfl, hz, hn⟩ := hW
  rw [hvn] at hV
  obtain ⟨rfl, rfl⟩ := trodVars_none hV
  have hlt : ∀ x ∈ p ++ [], x.block < W.heap.size := fun x hx => hW'.lt x hx
  have hlt' : ∀ x ∈ p, x.block < W.heap.size := fun x hx => hlt x (List.mem_append_left _ hx)
  have hold : ∀ x ∈ p, (fun b => decide (b < W.heap.size)) x.block = true := fun x hx => by simpa using hlt' x hx
  have hargs := fun (sp : Nat → Bool) (hsp : ∀ x ∈ p, sp x.block = true) => below_trodAll hl hb (sp' := sp) hts hA hlt' hsp
  have hres : ∀ (b : Nat) (sp : Nat → Bool) (hd : Bool), DataW.TrodAll enc P W' b sp hd f.resultTypes.toList ((Value.bool true).resultList f.resultTypes.size) (s.fn H (ds ++ [])).results [] := by
    intro b sp hd
    rw [List.append_nil, hrt, hf1]
    exact trodAll_cons_mk (shut_bool hbool _) trodAll_mk0
  have hok : ∀ (j : Nat) (t : TypeId) (r : Value), f.resultTypes[j]? = some t → ((Value.bool true).resultList f.resultTypes.size)[j]? = some r → Value.okWide P W' .any 0 t r := ok_one hrt rfl (okWide_bool_mk hbool _)
  have ha2 : (s.fn H (ds ++ [])).args = ds := by rw [List.append_nil]; exact hf2
  have hv2 : (s.fn H (ds ++ [])).vars = [] := by rw [List.append_nil]; exact hf3
  have hargs' : ∀ sp : Nat → Bool, (∀ x ∈ p, sp x.block = true) → DataW.TrodAll enc P W' 0 sp true f.params.toList args.toList (s.fn H (ds ++ [])).args p := by rw [ha2]; exact hargs
  have hvars' : ∀ sp : Nat → Bool, DataW.TrodVars enc P W' sp s.vars (s.fn H (ds ++ [])).vars [] := by rw [hv2, hvn]; exact fun _ => rfl
  refine ⟨ds, [], p ++ [], [], p, [], hW', hres _ _ _, hargs' _ hold, hvars' _, World.keptBut_mono (fun x hx => ⟨hx, ?_⟩) (hb.frame (· ∈ p ++ [])), fun _ => ?_⟩
  · simpa using hx
  · refine ⟨hok, _, _, ([] ++ p) ++ [], ⟨[] ++ p, [], trodAll_append (hargs' _ (fun _ _ => rfl)) (hres _ _ _), hvars' _, rfl, ?_, ?_⟩, ?_⟩
    · intro b off hp
      have hin : MemPlace.cell b off ∈ p ++ [] := by simpa using hp
      rw [hb.frozen (hlt _ hin)]
      exact hz b off hin
    · intro ha
      have := hn ha
      simpa using this
    · intro x hx _
      simpa using hx
end

/-! ### the package's variables -/
theorem shaped_size {W : World} (h : W.ShapedOpen Tryd.prog) : 6 ≤ W.heap.size := by
  have hs : (((begin Tryd.prog (fun _ _ => 0) default).world.heap[5]?).bind Obj.row?).isSome = true := by kernel_rfl
  obtain ⟨⟨z, t⟩, hz⟩ := Option.isSome_iff_exists.1 hs
  obtain ⟨cs, hh, _⟩ := h.1 5 z t (of_decide_eq_true (by kernel_rfl)) hz
  have := (Array.getElem?_eq_some_iff.1 hh).1
  omega
theorem env_len {W : World} (h : W.ShapedOpen Tryd.prog) : ∃ m, W.cell? ⟨0, 0, none⟩ = some (.int .i64 m) :=
  Proofs.cell_of_shapedOpen_int (g := 0) (t := 3) (zero := #[.int .i64 0]) h (of_decide_eq_true (by kernel_rfl)) (by kernel_rfl) rfl (by kernel_rfl) (by kernel_rfl) Tryd.underlying3
theorem gRange : Tryd.prog.globalNamed "strconv.ErrRange" = some 2 := by kernel_rfl
theorem gRangeType : (Tryd.prog.globals[2]?).map (·.type) = some 65 := by kernel_rfl
theorem star : "*" ++ "errors.errorString" = "*errors.errorString" := by decide
theorem row103 (u : TypeId) (h : Tryd.prog.typeName? 3 u = some "*errors.errorString") : u = 103 :=
  typeName_ptr_named (nm := "errors.errorString") (by rw [star]; kernel_rfl) (by kernel_rfl) (by decide) u (by rw [star]; exact h)
theorem und65 : Tryd.prog.underlying 65 = some (.interface #[("Error", 70)]) := by kernel_rfl
theorem und103 : Tryd.prog.underlying 103 = some (.pointer 105) := by kernel_rfl
theorem und105 : Tryd.prog.underlying 105 = some (.struct #[⟨"s", 9, 0, false, "", "errors", 0⟩]) := by kernel_rfl
theorem cells105 : Tryd.prog.cellsOf 105 = 1 := by kernel_rfl
theorem cells9 : Tryd.prog.cellsOf 9 = 1 := by kernel_rfl
theorem env_range {W : World} (h : laidMetH Tryd.prog Rows.lexSameRow.laid W) : ∃ ev, W.cell? ⟨2, 0, none⟩ = some ev ∧ (ev = .nilIface ∨ ∃ te pe, ev = .iface te pe) := by
  have h' : laidMet Tryd.prog Rows.lexSameRow.laid W := h
  obtain ⟨a1, s1, hv1, hc1, hs1, hz1⟩ := laid_sentinel (laidMet.tail (laidMet.tail (laidMet.tail h'))) gRange gRangeType und65 row103 und103 und105 rfl rfl Tryd.underlying9 cells105 cells9
  exact ⟨_, by simpa using World.var?_cell gRange hv1 0, .inr ⟨_, _, rfl⟩⟩
theorem env_of {W : World} (hs : W.ShapedOpen Tryd.prog) (h : laidMetH Tryd.prog Rows.lexSameRow.laid W) : Env W := ⟨env_len hs, env_range h, shaped_size hs⟩
theorem door_met (os : Os) (args : Array Value) : laidMet Tryd.prog Rows.lexSameRow.laid ((World.doorLaid Tryd.prog 62 os).forCall (fun _ _ => 0) ⟨#[], args, []⟩).memory :=
  laidMet_of_run' 8 (by kernel_rfl) (by kernel_rfl)

section
variable {H : Type} {enc : TypeId × Value → H} {P : Program} {w : World} {base : Nat} {spare : Nat → Bool} {held : Bool}
theorem open_slice_fields {t e : TypeId} {fs : Array Field} {fuel : Nat} {cs : List Value} {x : DataW H × List MemPlace} (ht : P.underlying t = some (.slice e)) (he : P.underlying e = some (.struct fs))
    (hone : oneCellFields P fs = true) (hC : P.cellsOf e = fs.size) (h : DataW.trod enc P w base spare held fuel t cs = some x) :
    (cs = [.slice none 0 0] ∧ x = (.nil, [])) ∨
    ∃ (a : Addr) (len cap m : Nat) (D : Nat → DataW H) (Pl : Nat → List MemPlace), cs = [.slice (some a) len cap] ∧ base ≤ a.block ∧ len ≤ cap ∧ cap ≤ maxLen ∧ m = (if spare a.block then cap else len) ∧
      x = (.slice ((List.range len).map D) ((List.range (m - len)).map fun j => D (len + j)), MemPlace.row a (m * fs.size) ++ (List.range m).flatMap Pl) ∧
      ∀ i, i < m → ∃ (ys : List (DataW H × List MemPlace)) (n : Nat), D i = .agg (ys.map (·.1)) ∧ Pl i = ys.flatMap (·.2) ∧ ys.length = fs.size ∧
        ∀ (j : Nat) (f : Field), fs[j]? = some f → ∃ (v : Value) (y : DataW H × List MemPlace), w.cell? (a.add (i * fs.size + j)) = some v ∧ ys[j]? = some y ∧ DataW.trod enc P w base spare held n f.type [v] = some y := by
  rcases open_slice ht h with h0 | ⟨a, len, cap, m, n, D, Pl, hcs, hb, hl, hm, hmm, hx, hi⟩
  · exact .inl h0
  · refine .inr ⟨a, len, cap, m, D, Pl, hcs, hb, hl, hm, hmm, by rw [hC] at hx; exact hx, fun i him => ?_⟩
    obtain ⟨cs', hc, ht'⟩ := hi i him
    rw [hC] at hc
    obtain ⟨ys, n', hn', hy, hlen, hyl, hf⟩ := DataW.trod_struct he ht'
    obtain ⟨_, hcl, hat⟩ := World.cells?_some hc
    simp only [Prod.mk.injEq] at hy
    refine ⟨ys, n', hy.1, hy.2, hyl, fun j f hj => ?_⟩
    obtain ⟨ho, hk⟩ := hone_of hone j f hj
    have hjl : j < fs.size := (Array.getElem?_eq_some_iff.1 hj).1
    have hcell := hat j hjl
    have hv : cs'[j]? = some (cs'[j]'(by omega)) := List.getElem?_eq_getElem (by omega)
    have h1 := hf j f hj
    rw [ho, hk] at h1
    have hone' : (cs'.drop j).take 1 = [cs'[j]'(by omega)] := by
      rw [List.drop_eq_getElem_cons (by omega)]
      rfl
    rw [hone'] at h1
    have hys : ys[j]? = some (ys[j]'(by omega)) := List.getElem?_eq_getElem (by omega)
    refine ⟨_, _, ?_, hys, h1.trans hys⟩
    rw [← Go.Deep.add_add, hcell, hv]
end

/-! ### arguments: rows of tokens -/
theorem cells32 : Tryd.prog.cellsOf 32 = 3 := by kernel_rfl
theorem und32 : ∃ fs : Array Field, Tryd.prog.underlying 32 = some (.struct fs) ∧ oneCellFields Tryd.prog fs = true ∧ fs.size = 3 ∧ (∃ f, fs[0]? = some f ∧ f.type = 3) ∧ (∃ f, fs[1]? = some f ∧ f.type = 9) ∧ (∃ f, fs[2]? = some f ∧ f.type = 3) := by
  have h : ∃ fs : Array Field, Tryd.prog.underlying 32 = some (.struct fs) := by
    have hs : (match Tryd.prog.underlying 32 with | some (.struct _) => true | _ => false) = true := by kernel_rfl
    revert hs
    cases hu : Tryd.prog.underlying 32 with
    | none => intro hs; cases hs
    | some u => cases u <;> intro hs <;> first | exact ⟨_, rfl⟩ | cases hs
  obtain ⟨fs, hfs⟩ := h
  have key : (match Tryd.prog.underlying 32 with | some (.struct fs) => oneCellFields Tryd.prog fs && decide (fs.size = 3) && decide ((fs[0]?.map (·.type)) = some 3) && decide ((fs[1]?.map (·.type)) = some 9) && decide ((fs[2]?.map (·.type)) = some 3) | _ => false) = true := by kernel_rfl
  rw [hfs] at key
  simp only [Bool.and_eq_true, decide_eq_true_eq, Option.map_eq_some_iff] at key
  exact ⟨fs, hfs, key.1.1.1.1, key.1.1.1.2, key.1.1.2, key.1.2, key.2⟩
theorem open_toks {H : Type} {enc : TypeId × Value → H} {w : World} {held : Bool} {fuel : Nat} {cs : List Value} {x : DataW H × List MemPlace} (h : DataW.trod enc Tryd.prog w 0 (fun _ => true) held fuel 24 cs = some x) :
    ∃ (l : List Lx.Tok) (A : Option Addr) (c : Nat), cs = [.slice A l.length c] ∧ l.length ≤ 9223372036854775807 ∧ (∀ t ∈ l, t.text.length ≤ 9223372036854775807) ∧ ArgToks w A l := by
  obtain ⟨fs, hfs, hone, hsz, ⟨f0, hf0, ht0⟩, ⟨f1, hf1, ht1⟩, ⟨f2, hf2, ht2⟩⟩ := und32
  rcases open_slice_fields Tryd.underlying24 hfs hone (cells32.trans hsz.symm) h with ⟨rfl, _⟩ | ⟨a, len, cap, m, D, Pl, rfl, _, hlc, hcm, hm, _, hi⟩
  · exact ⟨[], none, 0, rfl, by simp, by simp, fun h => absurd rfl h⟩
  · have hm' : m = cap := by simpa using hm
    have each : ∀ i, i < len → ∃ t : Lx.Tok, w.cell? (a.add (i * 3)) = some (.int .i64 t.kind) ∧ w.cell? (a.add (i * 3 + 1)) = some (.string ⟨t.text.toArray⟩) ∧ w.cell? (a.add (i * 3 + 2)) = some (.int .i64 t.place) ∧ t.text.length ≤ maxLen := by
      intro i hil
      obtain ⟨ys, n, _, _, _, hf⟩ := hi i (by omega)
      rw [hsz] at hf
      obtain ⟨v0, y0, hc0, _, hr0⟩ := hf 0 f0 hf0
      obtain ⟨v1, y1, hc1, _, hr1⟩ := hf 1 f1 hf1
      obtain ⟨v2, y2, hc2, _, hr2⟩ := hf 2 f2 hf2
      rw [ht0] at hr0
      rw [ht1] at hr1
      rw [ht2] at hr2
      obtain ⟨k, e0, _⟩ := DataW.trod_int Tryd.underlying3 hr0
      obtain ⟨s, e1, _, hs⟩ := DataW.trod_string Tryd.underlying9 hr1
      obtain ⟨p, e2, _⟩ := DataW.trod_int Tryd.underlying3 hr2
      simp only [List.cons.injEq, and_true] at e0 e1 e2
      subst e0 e1 e2
      refine ⟨⟨k, s.data.toList, p⟩, hc0, ?_, hc2, ?_⟩
      · rw [hc1]
      · show s.data.toList.length ≤ maxLen
        rw [← Lib.size_eq]; exact hs
    let l : List Lx.Tok := (List.range len).map fun i => if hi : i < len then (each i hi).choose else zeroTok
    have hl : l.length = len := by simp [l]
    have hget : ∀ i t, l[i]? = some t → w.cell? (a.add (i * 3)) = some (.int .i64 t.kind) ∧ w.cell? (a.add (i * 3 + 1)) = some (.string ⟨t.text.toArray⟩) ∧ w.cell? (a.add (i * 3 + 2)) = some (.int .i64 t.place) ∧ t.text.length ≤ maxLen := by
      intro i t ht
      have hil : i < len := by rw [← hl]; exact (List.getElem?_eq_some_iff.1 ht).1
      have e : t = (each i hil).choose := by
        have := ht
        simp only [l, List.getElem?_map, List.getElem?_range hil, Option.map_some, hil, dif_pos, Option.some.injEq] at this
        exact this.symm
      rw [e]
      exact (each i hil).choose_spec
    refine ⟨l, some a, cap, by rw [hl], ?_, ?_, ?_⟩
    · rw [hl]; simp [maxLen] at hcm; omega
    · intro t ht
      obtain ⟨i, hi⟩ := List.getElem?_of_mem ht
      have := (hget i t hi).2.2.2
      simpa [maxLen] using this
    · intro hne
      obtain ⟨t0, ht0'⟩ : ∃ t, l[0]? = some t := ⟨_, List.getElem?_eq_getElem (List.length_pos_iff.2 hne)⟩
      have h0 := (hget 0 t0 ht0').1
      obtain ⟨b, off, spot⟩ := a
      have hspot : spot = none := by simpa [Addr.add] using World.cell?_spot h0
      subst hspot
      have hadd : ∀ j, (⟨b, off, none⟩ : Addr).add j = ⟨b, off + j, none⟩ := fun j => by simp [Addr.add]
      refine ⟨b, off, rfl, World.block_lt_of_cell? _ _ h0, fun i t ht => ?_⟩
      obtain ⟨h1, h2, h3, _⟩ := hget i t ht
      rw [hadd] at h1 h2 h3
      exact ⟨h1, by rw [Nat.add_assoc]; exact h2, by rw [Nat.add_assoc]; exact h3⟩
end Go.Proofs.YtoppkhkdbkkldaaDoor
