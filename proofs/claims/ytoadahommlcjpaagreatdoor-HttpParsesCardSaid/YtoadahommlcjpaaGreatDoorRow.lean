/-
  THE ROW's PART that is alike for every law of the seat: what the call may lean on (Env), the arguments' reading carried over, the last step.
-/
import Derived.Test.YtoadahommlcjpaaGreatDoorCards
import Derived.Test.YtoadahommlcjpaaGreatDoorTie
import Derived.Test.YtoadahommlcjpaaGreatDoorBase
import Derived.Test.YtoadahommlcjpaaGreatDoorWS
import Derived.WalkKit
import Derived.ProofKit
import Derived.OpenShut
import Derived.OpenVars
import Derived.Deep.DeepHandedRow
import Derived.Deep.DeepWitnessRowRef
import Derived.Deep.Slices
import Derived.Deep.Fields
import Derived.ChangeSame
import Derived.Shelf.Vars
import Derived.Stop.LaidErr
import Derived.LaidMore
import Derived.Lib.LaidTab
namespace Go.Proofs.YtoadahommlcjpaaGreatDoor
open Go.ChangeShapes Go.WideShapes Go.ChangeAt Go.RowKit Go.Deep

theorem own : ownKnob Tryz.prog.godebug = none := by kernel_rfl
theorem laidOut : laidOutB Tryz.prog = true := by kernel_rfl

/-- The arguments read behind the call as they did: below the heap's old size nothing has turned. -/
theorem below_trodAll {H : Type} {enc : TypeId × Value → H} {P : Program} (hl : laidOutB P = true) {W W' : World} (hb : Below W.heap.size W W') {sp' : Nat → Bool} :
    ∀ {ts : List TypeId} {vs : List Value} {ds : List (DataW H)} {ps : List MemPlace}, ts.all (fun t => P.readableRec t && decide (t < P.types.size)) = true → DataW.TrodAll enc P W 0 (fun _ => true) true ts vs ds ps →
      (∀ p ∈ ps, p.block < W.heap.size) → (∀ p ∈ ps, sp' p.block = true) → DataW.TrodAll enc P W' 0 sp' true ts vs ds ps
  | [], [], [], _, _, h, _, _ => h
  | [], [], _ :: _, _, _, h, _, _ => h.elim
  | [], _ :: _, _, _, _, h, _, _ => by cases ‹List (DataW H)› <;> exact h.elim
  | _ :: _, [], _, _, _, h, _, _ => by cases ‹List (DataW H)› <;> exact h.elim
  | _ :: _, _ :: _, [], _, _, h, _, _ => h.elim
  | t :: ts, v :: vs, d :: ds, ps, hr, h, hlt, hs => by
    obtain ⟨p, q, ⟨fuel, h1⟩, h2, rfl⟩ := h
    simp only [List.all_cons, Bool.and_eq_true, decide_eq_true_eq] at hr
    refine ⟨p, q, ⟨fuel, ?_⟩, below_trodAll hl hb (by simpa using hr.2) h2 (fun x hx => hlt x (List.mem_append_right _ hx)) (fun x hx => hs x (List.mem_append_right _ hx)), rfl⟩
    exact DataW.trod_stays (kids_book hl hr.1.1) (book_sized hr.1.1) (fun h => by cases h) ⟨hr.1.2, book_self t⟩ h1 (fun x hx => hb.same (hlt x (List.mem_append_left _ hx))) (fun x hx => hs x (List.mem_append_left _ hx))

section
variable {H : Type} {enc : TypeId × Value → H} {P : Program}
/-- The last step: the law returned true and below the heap's old size nothing has turned. -/
theorem post_true {f : Func} {s : ChangeSpec} {apart fresh handsOn again : Bool} {W W' : World} {args : Array Value} {ds gs : List (DataW H)} {before : List MemPlace} (hl : laidOutB P = true) (hbool : P.underlying 4 = some .bool)
    (hvn : s.vars = []) (hW : DataW.Whole enc P f.params.toList s.vars apart W args.toList ds gs before) (hts : f.params.toList.all (fun t => P.readableRec t && decide (t < P.types.size)) = true) (hrt : f.resultTypes = #[4])
    (hf1 : (s.fn H ds).results = [.lit (.bool true)]) (hf2 : (s.fn H ds).args = ds) (hf3 : (s.fn H ds).vars = []) (hb : Below W.heap.size W W') :
    s.post enc P f apart fresh handsOn again W args (.bool true) W' := by
  have hW' := hW
  obtain ⟨p, q, hA, hV, rfl, hz, hn⟩ := hW
  rw [hvn] at hV
  obtain ⟨rfl, rfl⟩ := trodVars_none hV
  have hlt : ∀ x ∈ p ++ [], x.block < W.heap.size := fun x hx => hW'.lt x hx
  have hlt' : ∀ x ∈ p, x.block < W.heap.size := fun x hx => hlt x (List.mem_append_left _ hx)
  have hold : ∀ x ∈ p, (fun b => decide (b < W.heap.size)) x.block = true := fun x hx => by simpa using hlt' x hx
  have hargs := fun (sp : Nat → Bool) (hsp : ∀ x ∈ p, sp x.block = true) => below_trodAll hl hb (sp' := sp) hts hA hlt' hsp
  have hres : ∀ (b : Nat) (sp : Nat → Bool) (hd : Bool), DataW.TrodAll enc P W' b sp hd f.resultTypes.toList ((Value.bool true).resultList f.resultTypes.size) (s.fn H (ds ++ [])).results [] := by
    intro b sp hd
    rw [List.append_nil, hrt, hf1]
    exact trodAll_cons_mk (shut_bool hbool _) trodAll_mk0
  have hok : ∀ (j : Nat) (t : TypeId) (r : Value), f.resultTypes[j]? = some t → ((Value.bool true).resultList f.resultTypes.size)[j]? = some r → Value.okWide P W' .any 0 t r := ok_one hrt rfl (okWide_bool_mk hbool _)
  have ha2 : (s.fn H (ds ++ [])).args = ds := by rw [List.append_nil]; exact hf2
  have hv2 : (s.fn H (ds ++ [])).vars = [] := by rw [List.append_nil]; exact hf3
  have hargs' : ∀ sp : Nat → Bool, (∀ x ∈ p, sp x.block = true) → DataW.TrodAll enc P W' 0 sp true f.params.toList args.toList (s.fn H (ds ++ [])).args p := by rw [ha2]; exact hargs
  have hvars' : ∀ sp : Nat → Bool, DataW.TrodVars enc P W' sp s.vars (s.fn H (ds ++ [])).vars [] := by rw [hv2, hvn]; exact fun _ => rfl
  refine ⟨ds, [], p ++ [], [], p, [], hW', hres _ _ _, hargs' _ hold, hvars' _, World.keptBut_mono (fun x hx => ⟨hx, ?_⟩) (hb.frame (· ∈ p ++ [])), fun _ => ?_⟩
  · simpa using hx
  · refine ⟨hok, _, _, ([] ++ p) ++ [], ⟨[] ++ p, [], trodAll_append (hargs' _ (fun _ _ => rfl)) (hres _ _ _), hvars' _, rfl, ?_, ?_⟩, ?_⟩
    · intro b off hp
      have hin : MemPlace.cell b off ∈ p ++ [] := by simpa using hp
      rw [hb.frozen (hlt _ hin)]
      exact hz b off hin
    · intro ha
      have := hn ha
      simpa using this
    · intro x hx _
      simpa using hx
end

/-- An argument that is a row of bytes. -/
theorem open_bytes {H : Type} {enc : TypeId × Value → H} {w : World} {held : Bool} {fuel : Nat} {cs : List Value} {x : DataW H × List MemPlace} (h : DataW.trod enc Tryz.prog w 0 (fun _ => true) held fuel 22 cs = some x) :
    ∃ (l : Ht.Bs) (A : Option Addr) (c : Nat), cs = [.slice A l.length c] ∧ l.length ≤ c ∧ c ≤ 9223372036854775807 ∧ CellsAt w A (Lib.byteCells l) := by
  rcases open_ints Tryz.underlying22 Tryz.underlying5 (by kernel_rfl) h with ⟨rfl, _⟩ | ⟨a, len, cap, zs, rfl, _, hlc, hcm, hzs, _, hget, hwf⟩
  · exact ⟨[], none, 0, rfl, Nat.le_refl _, by omega, CellsAt.nil _ _⟩
  · have hzs' : zs.length = cap := by simpa using hzs
    obtain ⟨l, hl⟩ : ∃ l : Ht.Bs, l = (zs.take len).map fun n => UInt8.ofNat n.toNat := ⟨_, rfl⟩
    have hll : l.length = len := by rw [hl, List.length_map, List.length_take]; omega
    have hg : ∀ i v, (Lib.byteCells l)[i]? = some v → w.cell? (a.add i) = some v := by
      intro i v hi
      have hil : i < len := by
        have := (List.getElem?_eq_some_iff.1 hi).1
        rw [← hll]; simpa [Lib.byteCells] using this
      have hiz : i < zs.length := by omega
      rw [hget i hiz]
      have hw := hwf _ (List.getElem_mem hiz)
      have h1 : IntKind.u8.min = 0 := rfl
      have h2 : IntKind.u8.max = 255 := rfl
      simp only [Lit.wf, Bool.and_eq_true, decide_eq_true_eq] at hw
      rw [h1, h2] at hw
      have hv : v = .int .u8 (((UInt8.ofNat zs[i].toNat).toNat : Nat) : Int) := by
        unfold Lib.byteCells at hi
        rw [hl, List.map_map, List.getElem?_map, List.getElem?_take, if_pos hil, List.getElem?_eq_getElem hiz] at hi
        simpa using hi.symm
      rw [hv, List.getD_eq_getElem?_getD, List.getElem?_eq_getElem hiz]
      simp only [Option.getD_some, UInt8.toNat_ofNat']
      rw [Nat.mod_eq_of_lt (by omega)]
      congr 2
      omega
    refine ⟨l, some a, cap, by rw [hll], by omega, by simpa [maxLen] using hcm, fun hne => ?_⟩
    obtain ⟨t0, ht0⟩ : ∃ t, (Lib.byteCells l)[0]? = some t := ⟨_, List.getElem?_eq_getElem (List.length_pos_iff.2 hne)⟩
    have h0 := hg 0 t0 ht0
    obtain ⟨b, off, spot⟩ := a
    have hspot : spot = none := by simpa [Addr.add] using World.cell?_spot h0
    subst hspot
    have hadd : ∀ j, (⟨b, off, none⟩ : Addr).add j = ⟨b, off + j, none⟩ := fun j => by simp [Addr.add]
    refine ⟨b, off, rfl, World.block_lt_of_cell? _ _ h0, fun i t ht => ?_⟩
    have h1 := hg i t ht
    rw [hadd] at h1
    exact h1
/-! ### the package's variables -/
theorem shaped_size {W : World} (h : W.ShapedOpen Tryz.prog) : 9 ≤ W.heap.size := by
  have hs : (((begin Tryz.prog (fun _ _ => 0) default).world.heap[8]?).bind Obj.row?).isSome = true := by kernel_rfl
  obtain ⟨⟨z, t⟩, hz⟩ := Option.isSome_iff_exists.1 hs
  obtain ⟨cs, hh, _⟩ := h.1 8 z t (of_decide_eq_true (by kernel_rfl)) hz
  have := (Array.getElem?_eq_some_iff.1 hh).1
  omega
theorem env_len {W : World} (h : W.ShapedOpen Tryz.prog) : ∃ m, W.cell? ⟨0, 0, none⟩ = some (.int .i64 m) :=
  Proofs.cell_of_shapedOpen_int (g := 0) (t := 3) (zero := #[.int .i64 0]) h (of_decide_eq_true (by kernel_rfl)) (by kernel_rfl) rfl (by kernel_rfl) (by kernel_rfl) Tryz.underlying3
theorem gSyntax : Tryz.prog.globalNamed "strconv.ErrSyntax" = some 2 := by kernel_rfl
theorem gSyntaxType : (Tryz.prog.globals[2]?).map (·.type) = some 80 := by kernel_rfl
theorem gRange : Tryz.prog.globalNamed "strconv.ErrRange" = some 3 := by kernel_rfl
theorem gRangeType : (Tryz.prog.globals[3]?).map (·.type) = some 80 := by kernel_rfl
theorem gPowType : (Tryz.prog.globals[4]?).map (·.type) = some 176 := by kernel_rfl
theorem star : "*" ++ "errors.errorString" = "*errors.errorString" := by decide
theorem row180 (u : TypeId) (h : Tryz.prog.typeName? 3 u = some "*errors.errorString") : u = 180 :=
  typeName_ptr_named (nm := "errors.errorString") (by rw [star]; kernel_rfl) (by kernel_rfl) (by decide) u (by rw [star]; exact h)
theorem und80 : Tryz.prog.underlying 80 = some (.interface #[("Error", 136)]) := by kernel_rfl
theorem und180 : Tryz.prog.underlying 180 = some (.pointer 182) := by kernel_rfl
theorem und182 : Tryz.prog.underlying 182 = some (.struct #[⟨"s", 9, 0, false, "", "errors", 0⟩]) := by kernel_rfl
theorem und176 : Tryz.prog.underlying 176 = some (.array 20 154) := by kernel_rfl
theorem und154 : Tryz.prog.underlying 154 = some (.int .u64) := by kernel_rfl
theorem cells182 : Tryz.prog.cellsOf 182 = 1 := by kernel_rfl
theorem cells9 : Tryz.prog.cellsOf 9 = 1 := by kernel_rfl
theorem cells154 : Tryz.prog.cellsOf 154 = 1 := by kernel_rfl
theorem cells176 : Tryz.prog.cellsOf 176 = 20 := by kernel_rfl
theorem env_range {W : World} (h : laidMetH Tryz.prog Rows.httpAgainRow.laid W) : ∃ ev, W.cell? ⟨3, 0, none⟩ = some ev ∧ (ev = .nilIface ∨ ∃ te pe, ev = .iface te pe) := by
  have h' : laidMet Tryz.prog Rows.httpAgainRow.laid W := h
  obtain ⟨a1, s1, hv1, hc1, hs1, hz1⟩ := laid_sentinel (laidMet.tail (laidMet.tail (laidMet.tail (laidMet.tail h')))) gRange gRangeType und80 row180 und180 und182 rfl rfl Tryz.underlying9 cells182 cells9
  exact ⟨_, by simpa using World.var?_cell gRange hv1 0, .inr ⟨_, _, rfl⟩⟩
theorem env_syntax {W : World} (h : laidMetH Tryz.prog Rows.httpAgainRow.laid W) : ∃ ev, W.cell? ⟨2, 0, none⟩ = some ev ∧ (ev = .nilIface ∨ ∃ te pe, ev = .iface te pe) := by
  have h' : laidMet Tryz.prog Rows.httpAgainRow.laid W := h
  obtain ⟨a1, s1, hv1, hc1, hs1, hz1⟩ := laid_sentinel (laidMet.tail (laidMet.tail (laidMet.tail (laidMet.tail (laidMet.tail h'))))) gSyntax gSyntaxType und80 row180 und180 und182 rfl rfl Tryz.underlying9 cells182 cells9
  exact ⟨_, by simpa using World.var?_cell gSyntax hv1 0, .inr ⟨_, _, rfl⟩⟩
theorem pow_data : (Rows.laid_internal_strconv_uint64pow10 : DataW Unit) = Lib.tabData .u64 Lib.pow10Tab := by rfl
theorem env_tab {W : World} (h : laidMetH Tryz.prog Rows.httpAgainRow.laid W) : Lib.TabIs Tryz.prog W "internal/strconv.uint64pow10" .u64 Lib.pow10Tab := by
  have h' : laidMet Tryz.prog Rows.httpAgainRow.laid W := h
  have h2 := laidMet.tail (laidMet.tail h')
  exact Lib.tabIs_of_head tab_named gPowType und176 und154 cells154 cells176 h2
theorem env_of {W : World} (hs : W.ShapedOpen Tryz.prog) (h : laidMetH Tryz.prog Rows.httpAgainRow.laid W) : Env W := ⟨env_len hs, env_syntax h, env_range h, env_tab h, shaped_size hs⟩
/-- The table utf8.first, as its text lays it. -/
def firstCells : Array Value := match (Go.Pinned.utf8First : DataW Unit) with
  | .agg l => (l.map fun d => match d with | .lit (.int k n) => Value.int k n | _ => undef).toArray
  | _ => #[]
/-- A start for the witness. -/
noncomputable def startW (os : Os) : World := { World.doorLaid Tryz.prog 400 os with heap := (World.doorLaid Tryz.prog 400 os).heap.setIfInBounds 7 (.cells firstCells 191 (0, 0)) }
theorem door_met (os : Os) (args : Array Value) : laidMet Tryz.prog Rows.httpAgainRow.laid ((startW os).forCall (fun _ _ => 0) ⟨#[], args, []⟩).memory :=
  laidMet_of_run' 8 (by kernel_rfl) (by kernel_rfl)
end Go.Proofs.YtoadahommlcjpaaGreatDoor
