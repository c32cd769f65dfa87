/-
  Joined: WV Row ZA ZBuf. CONDITIONS: as each law says.
-/
import Derived.Test.YtimioelnnhnbiaaGreatDoorS09
import Derived.Test.YtimioelnnhnbiaaGreatDoorS11
import Derived.Laws.StructEq
import Derived.ChangeKeysEq
import Derived.Test.YtimioelnnhnbiaaGreatDoorCards
import Derived.Test.YtimioelnnhnbiaaGreatDoorTie
import Derived.Test.YtimioelnnhnbiaaGreatDoorS00
import Derived.WalkKit
import Derived.ProofKit
import Derived.OpenShut
import Derived.OpenVars
import Derived.Deep.DeepHandedRow
import Derived.Deep.DeepWitnessRowRef
import Derived.Deep.Slices
import Derived.Deep.Fields
import Derived.ChangeSame
import Derived.Shelf.Vars
import Derived.Stop.LaidErr
import Derived.LaidMore
import Derived.Lib.LaidTab
import Derived.Test.YtimioelnnhnbiaaGreatDoorS07
import Derived.Test.YtimioelnnhnbiaaGreatDoorS10
import Derived.Test.YtimioelnnhnbiaaGreatDoorS05
import Derived.Laws.AppendOwn
import Derived.Laws.OwnMore
import Derived.Laws.IdiomStrings
import Derived.Lib.UnsafeStr
namespace Go.Proofs.YtimioelnnhnbiaaGreatDoor
open Go.RowKit
def wakeS : Js.Bs := [123, 34, 97, 34, 58, 91, 49, 44, 45, 50, 44, 110, 117, 108, 108, 93, 44, 34, 98, 34, 58, 34, 92, 117, 48, 48, 52, 49, 92, 110, 34, 125]
def wakeT : Js.Bs := [123, 34, 97, 34, 58, 91, 49, 44, 45, 50, 44, 110, 117, 108, 108, 93, 44, 34, 98, 34, 58, 34, 65, 92, 110, 34, 125]
def wakeOk : Js.Res Js.J → Bool
 | .ok x st => decide (st.at_ = 32) && !st.large && Js.right x && Js.inR x && decide (Js.textOf x = wakeT)
 | _ => false
theorem wake_run : wakeOk (run wakeS) = true := by decide +kernel
theorem wake_parse : ∃ x st, run wakeS = .ok x st ∧ ¬ st.at_ < wakeS.length ∧ st.large = false ∧ Js.right x = true ∧ Js.inR x = true ∧ Js.textOf x = wakeT := by
 have h := wake_run
 cases hr : run wakeS with
 | ok x st =>
  rw [hr] at h
  unfold wakeOk at h
  simp only [Bool.and_eq_true, decide_eq_true_eq, Bool.not_eq_true'] at h
  obtain ⟨⟨⟨⟨h1, h2⟩, h3⟩, h4⟩, h5⟩ := h
  exact ⟨x, st, rfl, by rw [h1]; decide, h2, h3, h4, h5⟩
 | bad k => rw [hr] at h; cases h
 | out => rw [hr] at h; cases h
theorem right_small {x : Js.J} (h : Js.right x = true) : Js.nodes x ≤ 1073741824 ∧ Js.bytes x ≤ 1073741824 ∧ Js.deep x ≤ 1073741823 := by
 unfold Js.right at h
 simp only [Bool.and_eq_true, decide_eq_true_eq] at h
 omega
set_option maxRecDepth 100000 in
set_option maxHeartbeats 4000000 in
theorem wakes_any (w : World) (henv : Env w) : Calls Tryz.prog 5 #[] w fun e w' => e = .returned (.bool true) ∧ Below w.heap.size w w' := by
 obtain ⟨x, st, hrun, hat, hlg, hrt, hin, htx⟩ := wake_parse
 have HD := Lib.hid (decode_run wakeS (by decide) w)
 rw [hrun] at HD
 have HRT := Lib.hid hrt
 have HTX := Lib.hid htx
 have HAT := Lib.hid hat
 have HLG := Lib.hid hlg
 clear hrun hat hlg hrt htx
 go_enter Tryz.func5, Tryz.ntmps5
 go_wp2_with fail
 refine HD.out.mono ?_
 rintro e w1 ⟨hb1, ho⟩
 rw [if_neg HAT.out, if_neg (by rw [HLG.out]; simp)] at ho
 obtain ⟨vs, rfl, hjv⟩ := ho
 obtain ⟨A5, c5, A6, c6, k0, b0, n0, t0, l5, l6, rfl⟩ := hjv.shape
 have b2 := below_box w1 (.cells #[.int .i64 k0, .bool b0, .int .i64 n0, .string t0, .slice A5 l5 c5, .slice A6 l6 c6] 25)
 have s2 : (w1.alloc (.cells #[.int .i64 k0, .bool b0, .int .i64 n0, .string t0, .slice A5 l5 c5, .slice A6 l6 c6] 25)).heap.size = w1.heap.size + 1 := by simp
 have b3 := below_box (w1.alloc (.cells #[.int .i64 k0, .bool b0, .int .i64 n0, .string t0, .slice A5 l5 c5, .slice A6 l6 c6] 25)) (.cells #[.int .i64 0, .int .i64 0] 61)
 have n3 : SBox _ _ 0 0 := heap_alloc_new (w1.alloc (.cells #[.int .i64 k0, .bool b0, .int .i64 n0, .string t0, .slice A5 l5 c5, .slice A6 l6 c6] 25)) (.cells #[.int .i64 0, .int .i64 0] 61)
 rw [s2] at n3
 have HJ3 := Lib.hid (((hjv.next b2).next b3).wide (T := fun g => g < ((w1.alloc (.cells #[.int .i64 k0, .bool b0, .int .i64 n0, .string t0, .slice A5 l5 c5, .slice A6 l6 c6] 25)).alloc (.cells #[.int .i64 0, .int .i64 0] 61)).heap.size) (fun g _ h => h))
 have HB3 := Lib.hid ((hb1.trans (b2.mono hb1.size)).trans (b3.mono (by rw [s2]; have := hb1.size; omega)))
 have HS3 := Lib.hid n3
 have HE3 := Lib.hid (((henv.next hb1).next b2).next b3)
 clear hjv b2 b3 n3 s2 hb1 HD henv
 unfold spot
 go_wp2_with fail
 generalize ((w1.alloc (.cells #[.int .i64 k0, .bool b0, .int .i64 n0, .string t0, .slice A5 l5 c5, .slice A6 l6 c6] 25)).alloc (.cells #[.int .i64 0, .int .i64 0] 61)) = w3 at HJ3 HB3 HS3 HE3 ⊢
 obtain ⟨h1, h2, h3⟩ := right_small HRT.out
 refine (encode_any x _ _ _ HJ3.out (fun g h => h) h1 h2 h3 hin HE3.out).mono ?_
 rintro e w4 ⟨rfl, hb4⟩
 have HB4 := Lib.hid (HB3.out.trans (hb4.mono HB3.out.size))
 have HS4 : Hid (SBox w4 (w1.heap.size + 1) 0 0) := Lib.hid (blk_next hb4 HS3.out)
 have he : encErr x = 0 := by unfold encErr; rw [HRT.out]; rfl
 have ht : encText x = wakeT := by unfold encText; rw [HRT.out]; exact HTX.out
 rw [he, ht]
 clear hb4 he ht h1 h2 h3 HJ3 HB3 HS3 HE3
 obtain ⟨d0, d1, -, -⟩ := HS4.out.cells
 have hw : (str wakeT == (⟨#[123, 34, 97, 34, 58, 91, 49, 44, 45, 50, 44, 110, 117, 108, 108, 93, 44, 34, 98, 34, 58, 34, 65, 92, 110, 34, 125]⟩ : ByteArray)) = true := by decide
 unfold str wakeT
 go_wp2_with fail
 go_ret
 exact ⟨rfl, HB4.out⟩
end Go.Proofs.YtimioelnnhnbiaaGreatDoor
namespace Go.Proofs.YtimioelnnhnbiaaGreatDoor
open Go.ChangeShapes Go.WideShapes Go.ChangeAt Go.RowKit Go.Deep

theorem own : ownKnob Tryz.prog.godebug = none := by kernel_rfl
theorem laidOut : laidOutB Tryz.prog = true := by kernel_rfl

theorem below_trodAll {H : Type} {enc : TypeId × Value → H} {P : Program} (hl : laidOutB P = true) {W W' : World} (hb : Below W.heap.size W W') {sp' : Nat → Bool} :
  ∀ {ts : List TypeId} {vs : List Value} {ds : List (DataW H)} {ps : List MemPlace}, ts.all (fun t => P.readableRec t && decide (t < P.types.size)) = true → DataW.TrodAll enc P W 0 (fun _ => true) true ts vs ds ps →
   (∀ p ∈ ps, p.block < W.heap.size) → (∀ p ∈ ps, sp' p.block = true) → DataW.TrodAll enc P W' 0 sp' true ts vs ds ps
 | [], [], [], _, _, h, _, _ => h
 | [], [], _ :: _, _, _, h, _, _ => h.elim
 | [], _ :: _, _, _, _, h, _, _ => by cases ‹List (DataW H)› <;> exact h.elim
 | _ :: _, [], _, _, _, h, _, _ => by cases ‹List (DataW H)› <;> exact h.elim
 | _ :: _, _ :: _, [], _, _, h, _, _ => h.elim
 | t :: ts, v :: vs, d :: ds, ps, hr, h, hlt, hs => by
  obtain ⟨p, q, ⟨fuel, h1⟩, h2, rfl⟩ := h
  simp only [List.all_cons, Bool.and_eq_true, decide_eq_true_eq] at hr
  refine ⟨p, q, ⟨fuel, ?_⟩, below_trodAll hl hb (by simpa using hr.2) h2 (fun x hx => hlt x (List.mem_append_right _ hx)) (fun x hx => hs x (List.mem_append_right _ hx)), rfl⟩
  exact DataW.trod_stays (kids_book hl hr.1.1) (book_sized hr.1.1) (fun h => by cases h) ⟨hr.1.2, book_self t⟩ h1 (fun x hx => hb.same (hlt x (List.mem_append_left _ hx))) (fun x hx => hs x (List.mem_append_left _ hx))

section
variable {H : Type} {enc : TypeId × Value → H} {P : Program}
theorem post_true {f : Func} {s : ChangeSpec} {apart fresh handsOn again : Bool} {W W' : World} {args : Array Value} {ds gs : List (DataW H)} {before : List MemPlace} (hl : laidOutB P = true) (hbool : P.underlying 4 = some .bool)
  (hvn : s.vars = []) (hW : DataW.Whole enc P f.params.toList s.vars apart W args.toList ds gs before) (hts : f.params.toList.all (fun t => P.readableRec t && decide (t < P.types.size)) = true) (hrt : f.resultTypes = #[4])
  (hf1 : (s.fn H ds).results = [.lit (.bool true)]) (hf2 : (s.fn H ds).args = ds) (hf3 : (s.fn H ds).vars = []) (hb : Below W.heap.size W W') :
  s.post enc P f apart fresh handsOn again W args (.bool true) W' := by
 have hW' := hW
 obtain ⟨p, q, hA, hV, rfl, hz, hn⟩ := hW
 rw [hvn] at hV
 obtain ⟨rfl, rfl⟩ := trodVars_none hV
 have hlt : ∀ x ∈ p ++ [], x.block < W.heap.size := fun x hx => hW'.lt x hx
 have hlt' : ∀ x ∈ p, x.block < W.heap.size := fun x hx => hlt x (List.mem_append_left _ hx)
 have hold : ∀ x ∈ p, (fun b => decide (b < W.heap.size)) x.block = true := fun x hx => by simpa using hlt' x hx
 have hargs := fun (sp : Nat → Bool) (hsp : ∀ x ∈ p, sp x.block = true) => below_trodAll hl hb (sp' := sp) hts hA hlt' hsp
 have hres : ∀ (b : Nat) (sp : Nat → Bool) (hd : Bool), DataW.TrodAll enc P W' b sp hd f.resultTypes.toList ((Value.bool true).resultList f.resultTypes.size) (s.fn H (ds ++ [])).results [] := by
  intro b sp hd
  rw [List.append_nil, hrt, hf1]
  exact trodAll_cons_mk (shut_bool hbool _) trodAll_mk0
 have hok : ∀ (j : Nat) (t : TypeId) (r : Value), f.resultTypes[j]? = some t → ((Value.bool true).resultList f.resultTypes.size)[j]? = some r → Value.okWide P W' .any 0 t r := ok_one hrt rfl (okWide_bool_mk hbool _)
 have ha2 : (s.fn H (ds ++ [])).args = ds := by rw [List.append_nil]; exact hf2
 have hv2 : (s.fn H (ds ++ [])).vars = [] := by rw [List.append_nil]; exact hf3
 have hargs' : ∀ sp : Nat → Bool, (∀ x ∈ p, sp x.block = true) → DataW.TrodAll enc P W' 0 sp true f.params.toList args.toList (s.fn H (ds ++ [])).args p := by rw [ha2]; exact hargs
 have hvars' : ∀ sp : Nat → Bool, DataW.TrodVars enc P W' sp s.vars (s.fn H (ds ++ [])).vars [] := by rw [hv2, hvn]; exact fun _ => rfl
 refine ⟨ds, [], p ++ [], [], p, [], hW', hres _ _ _, hargs' _ hold, hvars' _, World.keptBut_mono (fun x hx => ⟨hx, ?_⟩) (hb.frame (· ∈ p ++ [])), fun _ => ?_⟩
 ·simpa using hx
 ·refine ⟨hok, _, _, ([] ++ p) ++ [], ⟨[] ++ p, [], trodAll_append (hargs' _ (fun _ _ => rfl)) (hres _ _ _), hvars' _, rfl, ?_, ?_⟩, ?_⟩
  ·intro b off hp
   have hin : MemPlace.cell b off ∈ p ++ [] := by simpa using hp
   rw [hb.frozen (hlt _ hin)]
   exact hz b off hin
  ·intro ha
   have := hn ha
   simpa using this
  ·intro x hx _
   simpa using hx
end

def fieldsOf (fs : Array Field) : List (TypeId × Nat) := fs.toList.map fun f => (f.type, f.offset)
theorem struct_of {t : TypeId} {l : List (TypeId × Nat)} (h : (match Tryz.prog.underlying t with | some (.struct fs) => decide (fieldsOf fs = l) | _ => false) = true) : ∃ fs, Tryz.prog.underlying t = some (.struct fs) ∧ fieldsOf fs = l := by
 revert h
 cases hu : Tryz.prog.underlying t with
 | none => intro h; cases h
 | some u => cases u <;> intro h <;> first | exact ⟨_, rfl, of_decide_eq_true h⟩ | cases h
theorem field_at {fs : Array Field} {l : List (TypeId × Nat)} (h : fieldsOf fs = l) {j : Nat} {p : TypeId × Nat} (hj : l[j]? = some p) : ∃ f, fs[j]? = some f ∧ f.type = p.1 ∧ f.offset = p.2 := by
 subst h
 unfold fieldsOf at hj
 rw [List.getElem?_map] at hj
 cases hf : fs.toList[j]? with
 | none => rw [hf] at hj; cases hj
 | some f =>
  rw [hf] at hj
  simp only [Option.map_some, Option.some.injEq] at hj
  exact ⟨f, by rw [← hf, Array.getElem?_toList], by rw [← hj], by rw [← hj]⟩
theorem list_of {α : Type} [Inhabited α] (len : Nat) (Q : Nat → α → Prop) (h : ∀ i, i < len → ∃ a, Q i a) : ∃ l : List α, l.length = len ∧ ∀ i a, l[i]? = some a → Q i a := by
 refine ⟨(List.range len).map fun i => if hi : i < len then (h i hi).choose else default, by simp, fun i a ha => ?_⟩
 rw [List.getElem?_map] at ha
 have hil : i < len := by
  rcases Nat.lt_or_ge i len with h' | h'
  ·exact h'
  ·rw [List.getElem?_eq_none (by simpa using h')] at ha; cases ha
 simp only [List.getElem?_range hil, Option.map_some, hil, dif_pos, Option.some.injEq] at ha
 rw [← ha]
 exact (h i hil).choose_spec
theorem spot_none {w : World} {a : Addr} {v : Value} (h : w.cell? (a.add 0) = some v) : a.spot = none := by
 obtain ⟨b, off, spot⟩ := a
 have := World.cell?_spot h
 simpa [Addr.add] using this
theorem bytes_list (s : ByteArray) : s = ⟨s.data.toList.toArray⟩ := by cases s; simp
instance : Inhabited Js.J := ⟨Js.zero⟩
theorem JL.of_at {w : World} {S : Nat → Prop} {A : Option Addr} : ∀ (l : List Js.J) (i : Nat), (∀ k y, l[k]? = some y → ∃ g o vs, A = some ⟨g, o, none⟩ ∧ S g ∧ g < w.heap.size ∧ (∀ j u, vs[j]? = some u → w.cell? ⟨g, o + (i + k) * 6 + j, none⟩ = some u) ∧ JV w S y vs) → JL w S A i l
 | [], _, _ => by unfold JL; trivial
 | x :: t, i, h => by
  unfold JL
  refine ⟨h 0 x rfl, JL.of_at t (i + 1) (fun k y hy => ?_)⟩
  have := h (k + 1) y (by simpa using hy)
  rwa [show i + (k + 1) = i + 1 + k by omega] at this
theorem JM.of_at {w : World} {S : Nat → Prop} {A : Option Addr} : ∀ (l : List (Js.Bs × Js.J)) (i : Nat), (∀ k n y, l[k]? = some (n, y) → ∃ g o vs, A = some ⟨g, o, none⟩ ∧ S g ∧ g < w.heap.size ∧ (∀ j u, (Value.string (str n) :: vs)[j]? = some u → w.cell? ⟨g, o + (i + k) * 7 + j, none⟩ = some u) ∧ JV w S y vs) → JM w S A i l
 | [], _, _ => by unfold JM; trivial
 | (n0, x) :: t, i, h => by
  unfold JM
  refine ⟨h 0 n0 x rfl, JM.of_at t (i + 1) (fun k n y hy => ?_)⟩
  have := h (k + 1) n y (by simpa using hy)
  rwa [show i + (k + 1) = i + 1 + k by omega] at this
section
variable {H : Type} {enc : TypeId × Value → H} {w : World} {held : Bool}
end
/-! ### the package's variables -/
theorem shaped_size {W : World} (h : W.ShapedOpen Tryz.prog) : 4 ≤ W.heap.size := by
 have hs : (((begin Tryz.prog (fun _ _ => 0) default).world.heap[3]?).bind Obj.row?).isSome = true := by kernel_rfl
 obtain ⟨⟨z, t⟩, hz⟩ := Option.isSome_iff_exists.1 hs
 obtain ⟨cs, hh, _⟩ := h.1 3 z t (of_decide_eq_true (by kernel_rfl)) hz
 have := (Array.getElem?_eq_some_iff.1 hh).1
 omega
theorem gPowType : (Tryz.prog.globals[0]?).map (·.type) = some 168 := by kernel_rfl
theorem und101 : Tryz.prog.underlying 168 = some (.array 20 161) := by kernel_rfl
theorem und93 : Tryz.prog.underlying 161 = some (.int .u64) := by kernel_rfl
theorem cells93 : Tryz.prog.cellsOf 161 = 1 := by kernel_rfl
theorem cells101 : Tryz.prog.cellsOf 168 = 20 := by kernel_rfl
theorem env_tab {W : World} (h : laidMetH Tryz.prog Rows.jsonTakesRow.laid W) : Lib.TabIs Tryz.prog W "internal/strconv.uint64pow10" .u64 Lib.pow10Tab := by
 have h' : laidMet Tryz.prog Rows.jsonTakesRow.laid W := h
 have h2 := laidMet.tail (laidMet.tail h')
 exact Lib.tabIs_of_head tab_named gPowType und101 und93 cells93 cells101 h2
theorem env_of {W : World} (hs : W.ShapedOpen Tryz.prog) (h : laidMetH Tryz.prog Rows.jsonTakesRow.laid W) : Env W := ⟨env_tab h, shaped_size hs⟩
theorem door_met (os : Os) (args : Array Value) : laidMet Tryz.prog Rows.jsonTakesRow.laid ((World.doorLaid Tryz.prog 400 os).forCall (fun _ _ => 0) ⟨#[], args, []⟩).memory :=
 laidMet_of_run' 8 (by kernel_rfl) (by kernel_rfl)
end Go.Proofs.YtimioelnnhnbiaaGreatDoor
namespace Go.Proofs.YtimioelnnhnbiaaGreatDoor
open Go.RowKit
structure Kept {α : Type} (size : Nat) (R : World → (Nat → Prop) → α → List Value → Prop) : Prop where
 keep : ∀ {w w' : World} {S T : Nat → Prop} {x : α} {vs : List Value}, w.heap.size ≤ w'.heap.size → (∀ g, S g → g < w.heap.size → T g) → (∀ g, S g → g < w.heap.size → w'.heap[g]? = w.heap[g]?) → R w S x vs → R w' T x vs
 len : ∀ {w : World} {S : Nat → Prop} {x : α} {vs : List Value}, R w S x vs → vs.length = size
 one : ∀ {w : World} {S : Nat → Prop} {x : α} {vs : List Value}, R w S x vs → ∀ v ∈ vs, v.oneCell' = true
structure Gr {α : Type} (e size : Nat) (R : World → (Nat → Prop) → α → List Value → Prop) (T : Nat → Prop) (B : Nat) (acc : List α) (v : Value) (rs : List (List Value)) (w : World) : Prop where
 own : Own e size B v acc.length rs.flatten w
 len : rs.length = acc.length
 each : ∀ (k : Nat) (x : α), acc[k]? = some x → ∃ vs, rs[k]? = some vs ∧ R w (fun g => T g ∧ v.ownBlock ≠ some g) x vs
 all : ∀ vs ∈ rs, vs.length = size
section
variable {α : Type} {e size B : Nat} {R : World → (Nat → Prop) → α → List Value → Prop} {T : Nat → Prop} {acc : List α} {v : Value} {rs : List (List Value)} {w w' : World}
theorem Gr.nil : Gr e size R T w.heap.size [] (.slice none 0 0) [] w := ⟨Own.nil e size w, rfl, fun k x h => by simp at h, fun vs h => by simp at h⟩
theorem Gr.but (K : Kept size R) {L : List Nat} (h : Gr e size R T B acc v rs w) (hb : But L w w') (h1 : ∀ j ∈ L, j < B) (h2 : ∀ j ∈ L, ¬ T j) : Gr e size R T B acc v rs w' := by
 refine ⟨h.own.but hb h1, h.len, fun k x hx => ?_, h.all⟩
 obtain ⟨vs, a, b⟩ := h.each k x hx
 exact ⟨vs, a, K.keep hb.size (fun _ h _ => h) (fun g hg hlt => hb.block g hlt (fun hm => h2 g hm hg.1)) b⟩
theorem Gr.next (K : Kept size R) (h : Gr e size R T B acc v rs w) (hb : Below w.heap.size w w') : Gr e size R T B acc v rs w' := h.but K (But.of (S := []) hb) (by simp) (by simp)
theorem Gr.fresh (h : Gr e size R T B acc v rs w) {g : Nat} (hg : w.heap.size ≤ g) : v.ownBlock ≠ some g := fun e => by
 have := (h.own.lt g e).2
 omega
theorem Gr.push (K : Kept size R) {g cap : Nat} {x : α} {vs : List Value} (h : Gr e size R T B acc v rs w) (hx : R w (fun g => T g ∧ v.ownBlock ≠ some g) x vs)
  (ho : w'.ownsRow B e size (.slice (some ⟨g, 0, none⟩) (acc.length + 1) cap) (acc.length + 1) (rs.flatten ++ vs)) (hg : w.grownBy w' v.ownBlock) (hat : v.ownBlock = some g ∨ g = w.heap.size) :
  Gr e size R T B (acc ++ [x]) (.slice (some ⟨g, 0, none⟩) (acc.length + 1) cap) (rs ++ [vs]) w' ∧ But v.ownBlock.toList w w' := by
 have hk := But.grown hg
 have hT : ∀ j, T j ∧ v.ownBlock ≠ some j → j < w.heap.size → T j ∧ Value.ownBlock (.slice (some ⟨g, 0, none⟩) (acc.length + 1) cap) ≠ some j := by
  intro j h1 h2
  refine ⟨h1.1, fun e => ?_⟩
  have e : g = j := by simpa [Value.ownBlock] using e
  subst e
  rcases hat with e | e
  ·exact h1.2 e
  ·omega
 have hout : ∀ j, T j ∧ v.ownBlock ≠ some j → j < w.heap.size → w'.heap[j]? = w.heap[j]? := fun j h1 h2 => hk.block j h2 (fun hm => h1.2 (by simpa using hm))
 refine ⟨⟨⟨by rw [List.length_append, List.flatten_append]; simpa using ho, Nat.le_trans h.own.le hk.size⟩, by simp [h.len], ?_, ?_⟩, hk⟩
 ·intro k y hy
  by_cases hlt2 : k < acc.length
  ·rw [List.getElem?_append_left hlt2] at hy
   obtain ⟨us, h1, h2⟩ := h.each k y hy
   exact ⟨us, by rw [List.getElem?_append_left (by rw [h.len]; exact hlt2)]; exact h1, K.keep hk.size hT hout h2⟩
  ·have hkl := (List.getElem?_eq_some_iff.1 hy).1
   rw [List.length_append, List.length_singleton] at hkl
   obtain rfl : k = acc.length := by omega
   rw [List.getElem?_append_right (Nat.le_refl _), Nat.sub_self] at hy
   simp at hy
   subst hy
   exact ⟨vs, by rw [← h.len, List.getElem?_append_right (Nat.le_refl _), Nat.sub_self]; rfl, K.keep hk.size hT hout hx⟩
 ·intro us hus
  rcases List.mem_append.1 hus with h1 | h1
  ·exact h.all us h1
  ·rw [List.mem_singleton] at h1; subst h1; exact K.len hx
theorem Gr.at_ (K : Kept size R) (h : Gr e size R T B acc v rs w) {k : Nat} {x : α} (hx : acc[k]? = some x) : ∃ g c vs, v = .slice (some ⟨g, 0, none⟩) acc.length c ∧ B ≤ g ∧ g < w.heap.size ∧ (∀ j u, vs[j]? = some u → w.cell? ⟨g, 0 + (0 + k) * size + j, none⟩ = some u) ∧ R w T x vs := by
 obtain ⟨A, c, rfl⟩ := own_shape h.own
 obtain ⟨hc, hA⟩ := own_cap h.own
 obtain ⟨vs, h1, h2⟩ := h.each k x hx
 have hk := (List.getElem?_eq_some_iff.1 hx).1
 obtain ⟨g, rfl, hB, hg⟩ := hA (by omega)
 refine ⟨g, c, vs, rfl, hB, hg, fun j u hj => ?_, K.keep (Nat.le_refl _) (fun g hg _ => hg.1) (fun _ _ _ => rfl) h2⟩
 have hj7 : j < size := by have := (List.getElem?_eq_some_iff.1 hj).1; rw [K.len h2] at this; exact this
 have hkn : k * size + j < acc.length * size := by
  have : (k + 1) * size ≤ acc.length * size := Nat.mul_le_mul_right _ hk
  rw [Nat.succ_mul] at this
  omega
 rw [show 0 + (0 + k) * size + j = k * size + j by rw [Nat.zero_add, Nat.zero_add], h.own.own.cellAt (k * size + j) hkn, flat_get rs h.all k j _ h1 hj7]
 exact hj
end
def RM (w : World) (S : Nat → Prop) (m : Js.Bs × Js.J) (vs : List Value) : Prop := ∃ us, vs = .string (str m.1) :: us ∧ JV w S m.2 us
theorem kept_I : Kept 6 JV := ⟨fun h1 h2 h3 h => JV.keep h1 h2 h3 _ _ h, fun h => h.len, fun h => h.one⟩
theorem kept_M : Kept 7 RM := ⟨fun h1 h2 h3 ⟨us, e, h⟩ => ⟨us, e, JV.keep h1 h2 h3 _ _ h⟩, fun ⟨us, e, h⟩ => by rw [e, List.length_cons, h.len], fun ⟨us, e, h⟩ v hv => by
 subst e
 rcases List.mem_cons.1 hv with rfl | hv
 ·rfl
 ·exact h.one v hv⟩
theorem Gr.list {T : Nat → Prop} {B : Nat} {acc : List Js.J} {v : Value} {rs : List (List Value)} {w : World} (h : Gr 25 6 JV T B acc v rs w) (k : Int) (q : Bool) (n : Int) (t : Js.Bs) :
  JV w (fun g => T g ∨ B ≤ g) (.mk k q n t acc []) [.int .i64 k, .bool q, .int .i64 n, .string (str t), v, .slice none 0 0] := by
 obtain ⟨A, c, rfl⟩ := own_shape h.own
 obtain ⟨hc, _⟩ := own_cap h.own
 unfold JV
 refine ⟨A, c, none, 0, rfl, hc, Nat.le_refl _, JL.of fun k x hx => ?_, by unfold JM; trivial⟩
 obtain ⟨g, c', vs, e, hB, hg, h1, h2⟩ := h.at_ kept_I hx
 simp only [Value.slice.injEq] at e
 exact ⟨g, 0, vs, e.1, .inr hB, hg, h1, h2.wide fun g hg _ => .inl hg⟩
theorem Gr.obj {T : Nat → Prop} {B : Nat} {acc : List (Js.Bs × Js.J)} {v : Value} {rs : List (List Value)} {w : World} (h : Gr 89 7 RM T B acc v rs w) (k : Int) (q : Bool) (n : Int) (t : Js.Bs) :
  JV w (fun g => T g ∨ B ≤ g) (.mk k q n t [] acc) [.int .i64 k, .bool q, .int .i64 n, .string (str t), .slice none 0 0, v] := by
 obtain ⟨A, c, rfl⟩ := own_shape h.own
 obtain ⟨hc, _⟩ := own_cap h.own
 unfold JV
 refine ⟨none, 0, A, c, rfl, Nat.le_refl _, hc, by unfold JL; trivial, JM.of fun k nm x hx => ?_⟩
 obtain ⟨g, c', vs, e, hB, hg, h1, us, rfl, h2⟩ := h.at_ kept_M hx
 simp only [Value.slice.injEq] at e
 exact ⟨g, 0, us, e.1, .inr hB, hg, h1, h2.wide fun g hg _ => .inl hg⟩
def jText (s : Js.Bs) : Js.J := .mk 4 false 0 s [] []
def jNum (n : Int) : Js.J := .mk 3 false n [] [] []
def jTruth (q : Bool) : Js.J := .mk 2 q 0 [] [] []
def LeafC (f : Nat) (arg : Value) (k : Int) (q : Bool) (n : Int) (t : ByteArray) : Prop := ∀ w : World, Calls Tryz.prog f #[arg] w fun e w' => e = .returned (.agg #[.int .i64 k, .bool q, .int .i64 n, .string t, .slice none 0 0, .slice none 0 0]) ∧ Below w.heap.size w w'
set_option maxRecDepth 100000 in
set_option maxHeartbeats 4000000 in
theorem text_leaf (t : ByteArray) : LeafC 60 (.string t) (4) (false) (0) (t) := by
 intro w
 have b1 := Lib.hid (below_box w (.cells #[.int .i64 0, .bool false, .int .i64 0, .string ⟨#[]⟩, .slice none 0 0, .slice none 0 0] 25))
 have e1 : JBox _ w.heap.size _ _ _ _ _ _ := heap_alloc_new w (.cells #[.int .i64 0, .bool false, .int .i64 0, .string ⟨#[]⟩, .slice none 0 0, .slice none 0 0] 25)
 have HE := Lib.hid e1
 clear e1
 go_enter Tryz.func60, Tryz.ntmps60
 go_upto_region 1 with fail
 generalize (w.alloc (.cells #[.int .i64 0, .bool false, .int .i64 0, .string ⟨#[]⟩, .slice none 0 0, .slice none 0 0] 25)) = w1 at b1 HE ⊢
 obtain ⟨x0, x1, x2, x3, x4, x5⟩ := HE.out.cells
 obtain ⟨f0, f1, f2, f3, f4, f5⟩ := HE.out.frees
 obtain ⟨hk, hx⟩ := j25_set (.int .i64 4) (.bool false) (.int .i64 0) (.string t) (.slice none 0 0) (.slice none 0 0) HE.out
 have HK := Lib.hid hk
 have HX := Lib.hid hx
 clear hk hx
 go_wp2_with fail
 refine bodyPost_ret (results_row1 rfl _ _ _ w.heap.size #[.int .i64 4, .bool false, .int .i64 0, .string t, .slice none 0 0, .slice none 0 0] rfl (j25_load HX.out)) rfl ?_
 exact ⟨rfl, b1.out.trans (HK.out.to b1.out.size (by intro j hj; simp at hj; omega))⟩
set_option maxRecDepth 100000 in
set_option maxHeartbeats 4000000 in
theorem refText_leaf (t : ByteArray) : LeafC 38 (.string t) (4) (false) (0) (t) := by
 intro w
 have b1 := Lib.hid (below_box w (.cells #[.int .i64 0, .bool false, .int .i64 0, .string ⟨#[]⟩, .slice none 0 0, .slice none 0 0] 25))
 have e1 : JBox _ w.heap.size _ _ _ _ _ _ := heap_alloc_new w (.cells #[.int .i64 0, .bool false, .int .i64 0, .string ⟨#[]⟩, .slice none 0 0, .slice none 0 0] 25)
 have HE := Lib.hid e1
 clear e1
 go_enter Tryz.func38, Tryz.ntmps38
 go_upto_region 1 with fail
 generalize (w.alloc (.cells #[.int .i64 0, .bool false, .int .i64 0, .string ⟨#[]⟩, .slice none 0 0, .slice none 0 0] 25)) = w1 at b1 HE ⊢
 obtain ⟨x0, x1, x2, x3, x4, x5⟩ := HE.out.cells
 obtain ⟨f0, f1, f2, f3, f4, f5⟩ := HE.out.frees
 obtain ⟨hk, hx⟩ := j25_set (.int .i64 4) (.bool false) (.int .i64 0) (.string t) (.slice none 0 0) (.slice none 0 0) HE.out
 have HK := Lib.hid hk
 have HX := Lib.hid hx
 clear hk hx
 go_wp2_with fail
 refine bodyPost_ret (results_row1 rfl _ _ _ w.heap.size #[.int .i64 4, .bool false, .int .i64 0, .string t, .slice none 0 0, .slice none 0 0] rfl (j25_load HX.out)) rfl ?_
 exact ⟨rfl, b1.out.trans (HK.out.to b1.out.size (by intro j hj; simp at hj; omega))⟩
set_option maxRecDepth 100000 in
set_option maxHeartbeats 4000000 in
theorem number_leaf (n : Int) : LeafC 61 (.int .i64 n) (3) (false) (n) (⟨#[]⟩) := by
 intro w
 have b1 := Lib.hid (below_box w (.cells #[.int .i64 0, .bool false, .int .i64 0, .string ⟨#[]⟩, .slice none 0 0, .slice none 0 0] 25))
 have e1 : JBox _ w.heap.size _ _ _ _ _ _ := heap_alloc_new w (.cells #[.int .i64 0, .bool false, .int .i64 0, .string ⟨#[]⟩, .slice none 0 0, .slice none 0 0] 25)
 have HE := Lib.hid e1
 clear e1
 go_enter Tryz.func61, Tryz.ntmps61
 go_upto_region 1 with fail
 generalize (w.alloc (.cells #[.int .i64 0, .bool false, .int .i64 0, .string ⟨#[]⟩, .slice none 0 0, .slice none 0 0] 25)) = w1 at b1 HE ⊢
 obtain ⟨x0, x1, x2, x3, x4, x5⟩ := HE.out.cells
 obtain ⟨f0, f1, f2, f3, f4, f5⟩ := HE.out.frees
 obtain ⟨hk, hx⟩ := j25_set (.int .i64 3) (.bool false) (.int .i64 n) (.string ⟨#[]⟩) (.slice none 0 0) (.slice none 0 0) HE.out
 have HK := Lib.hid hk
 have HX := Lib.hid hx
 clear hk hx
 go_wp2_with fail
 refine bodyPost_ret (results_row1 rfl _ _ _ w.heap.size #[.int .i64 3, .bool false, .int .i64 n, .string ⟨#[]⟩, .slice none 0 0, .slice none 0 0] rfl (j25_load HX.out)) rfl ?_
 exact ⟨rfl, b1.out.trans (HK.out.to b1.out.size (by intro j hj; simp at hj; omega))⟩
set_option maxRecDepth 100000 in
set_option maxHeartbeats 4000000 in
theorem long_leaf (n : Int) : LeafC 67 (.int .i64 n) (3) (false) (n) (⟨#[]⟩) := by
 intro w
 have b1 := Lib.hid (below_box w (.cells #[.int .i64 0, .bool false, .int .i64 0, .string ⟨#[]⟩, .slice none 0 0, .slice none 0 0] 25))
 have e1 : JBox _ w.heap.size _ _ _ _ _ _ := heap_alloc_new w (.cells #[.int .i64 0, .bool false, .int .i64 0, .string ⟨#[]⟩, .slice none 0 0, .slice none 0 0] 25)
 have HE := Lib.hid e1
 clear e1
 go_enter Tryz.func67, Tryz.ntmps67
 go_upto_region 1 with fail
 generalize (w.alloc (.cells #[.int .i64 0, .bool false, .int .i64 0, .string ⟨#[]⟩, .slice none 0 0, .slice none 0 0] 25)) = w1 at b1 HE ⊢
 obtain ⟨x0, x1, x2, x3, x4, x5⟩ := HE.out.cells
 obtain ⟨f0, f1, f2, f3, f4, f5⟩ := HE.out.frees
 obtain ⟨hk, hx⟩ := j25_set (.int .i64 3) (.bool false) (.int .i64 n) (.string ⟨#[]⟩) (.slice none 0 0) (.slice none 0 0) HE.out
 have HK := Lib.hid hk
 have HX := Lib.hid hx
 clear hk hx
 go_wp2_with fail
 refine bodyPost_ret (results_row1 rfl _ _ _ w.heap.size #[.int .i64 3, .bool false, .int .i64 n, .string ⟨#[]⟩, .slice none 0 0, .slice none 0 0] rfl (j25_load HX.out)) rfl ?_
 exact ⟨rfl, b1.out.trans (HK.out.to b1.out.size (by intro j hj; simp at hj; omega))⟩
set_option maxRecDepth 100000 in
set_option maxHeartbeats 4000000 in
theorem refNumber_leaf (n : Int) : LeafC 39 (.int .i64 n) (3) (false) (n) (⟨#[]⟩) := by
 intro w
 have b1 := Lib.hid (below_box w (.cells #[.int .i64 0, .bool false, .int .i64 0, .string ⟨#[]⟩, .slice none 0 0, .slice none 0 0] 25))
 have e1 : JBox _ w.heap.size _ _ _ _ _ _ := heap_alloc_new w (.cells #[.int .i64 0, .bool false, .int .i64 0, .string ⟨#[]⟩, .slice none 0 0, .slice none 0 0] 25)
 have HE := Lib.hid e1
 clear e1
 go_enter Tryz.func39, Tryz.ntmps39
 go_upto_region 1 with fail
 generalize (w.alloc (.cells #[.int .i64 0, .bool false, .int .i64 0, .string ⟨#[]⟩, .slice none 0 0, .slice none 0 0] 25)) = w1 at b1 HE ⊢
 obtain ⟨x0, x1, x2, x3, x4, x5⟩ := HE.out.cells
 obtain ⟨f0, f1, f2, f3, f4, f5⟩ := HE.out.frees
 obtain ⟨hk, hx⟩ := j25_set (.int .i64 3) (.bool false) (.int .i64 n) (.string ⟨#[]⟩) (.slice none 0 0) (.slice none 0 0) HE.out
 have HK := Lib.hid hk
 have HX := Lib.hid hx
 clear hk hx
 go_wp2_with fail
 refine bodyPost_ret (results_row1 rfl _ _ _ w.heap.size #[.int .i64 3, .bool false, .int .i64 n, .string ⟨#[]⟩, .slice none 0 0, .slice none 0 0] rfl (j25_load HX.out)) rfl ?_
 exact ⟨rfl, b1.out.trans (HK.out.to b1.out.size (by intro j hj; simp at hj; omega))⟩
set_option maxRecDepth 100000 in
set_option maxHeartbeats 4000000 in
theorem truth_leaf (q : Bool) : LeafC 84 (.bool q) (2) (q) (0) (⟨#[]⟩) := by
 intro w
 have b1 := Lib.hid (below_box w (.cells #[.int .i64 0, .bool false, .int .i64 0, .string ⟨#[]⟩, .slice none 0 0, .slice none 0 0] 25))
 have e1 : JBox _ w.heap.size _ _ _ _ _ _ := heap_alloc_new w (.cells #[.int .i64 0, .bool false, .int .i64 0, .string ⟨#[]⟩, .slice none 0 0, .slice none 0 0] 25)
 have HE := Lib.hid e1
 clear e1
 go_enter Tryz.func84, Tryz.ntmps84
 go_upto_region 1 with fail
 generalize (w.alloc (.cells #[.int .i64 0, .bool false, .int .i64 0, .string ⟨#[]⟩, .slice none 0 0, .slice none 0 0] 25)) = w1 at b1 HE ⊢
 obtain ⟨x0, x1, x2, x3, x4, x5⟩ := HE.out.cells
 obtain ⟨f0, f1, f2, f3, f4, f5⟩ := HE.out.frees
 obtain ⟨hk, hx⟩ := j25_set (.int .i64 2) (.bool q) (.int .i64 0) (.string ⟨#[]⟩) (.slice none 0 0) (.slice none 0 0) HE.out
 have HK := Lib.hid hk
 have HX := Lib.hid hx
 clear hk hx
 go_wp2_with fail
 refine bodyPost_ret (results_row1 rfl _ _ _ w.heap.size #[.int .i64 2, .bool q, .int .i64 0, .string ⟨#[]⟩, .slice none 0 0, .slice none 0 0] rfl (j25_load HX.out)) rfl ?_
 exact ⟨rfl, b1.out.trans (HK.out.to b1.out.size (by intro j hj; simp at hj; omega))⟩
set_option maxRecDepth 100000 in
set_option maxHeartbeats 4000000 in
theorem refTruth_leaf (q : Bool) : LeafC 42 (.bool q) (2) (q) (0) (⟨#[]⟩) := by
 intro w
 have b1 := Lib.hid (below_box w (.cells #[.int .i64 0, .bool false, .int .i64 0, .string ⟨#[]⟩, .slice none 0 0, .slice none 0 0] 25))
 have e1 : JBox _ w.heap.size _ _ _ _ _ _ := heap_alloc_new w (.cells #[.int .i64 0, .bool false, .int .i64 0, .string ⟨#[]⟩, .slice none 0 0, .slice none 0 0] 25)
 have HE := Lib.hid e1
 clear e1
 go_enter Tryz.func42, Tryz.ntmps42
 go_upto_region 1 with fail
 generalize (w.alloc (.cells #[.int .i64 0, .bool false, .int .i64 0, .string ⟨#[]⟩, .slice none 0 0, .slice none 0 0] 25)) = w1 at b1 HE ⊢
 obtain ⟨x0, x1, x2, x3, x4, x5⟩ := HE.out.cells
 obtain ⟨f0, f1, f2, f3, f4, f5⟩ := HE.out.frees
 obtain ⟨hk, hx⟩ := j25_set (.int .i64 2) (.bool q) (.int .i64 0) (.string ⟨#[]⟩) (.slice none 0 0) (.slice none 0 0) HE.out
 have HK := Lib.hid hk
 have HX := Lib.hid hx
 clear hk hx
 go_wp2_with fail
 refine bodyPost_ret (results_row1 rfl _ _ _ w.heap.size #[.int .i64 2, .bool q, .int .i64 0, .string ⟨#[]⟩, .slice none 0 0, .slice none 0 0] rfl (j25_load HX.out)) rfl ?_
 exact ⟨rfl, b1.out.trans (HK.out.to b1.out.size (by intro j hj; simp at hj; omega))⟩
end Go.Proofs.YtimioelnnhnbiaaGreatDoor
namespace Go.Proofs.YtimioelnnhnbiaaGreatDoor
open Go.RowKit
theorem own_below {w w' : World} {base : Nat} {e : TypeId} {size n : Nat} {v : Value} {xs : List Value} (h : w.ownsRow base e size v n xs) (hb : Below w.heap.size w w') : w'.ownsRow base e size v n xs :=
 h.kept (row := none) ⟨hb.os, hb.tape, hb.output, hb.size, fun k hk _ => hb.block k hk⟩ (by cases hv : v.ownBlock <;> simp)
structure Buf (B : Nat) (v : Value) (out : List UInt8) (W0 w : World) : Prop where
 own : w.ownsRow B 5 1 v out.length (Lib.byteCells out)
 below : Below B W0 w
 le : B ≤ w.heap.size
theorem Buf.empty {w : World} : Buf w.heap.size (.slice none 0 0) [] w w := ⟨World.ownsRow_nil _ _ _ _, Below.refl _ _, Nat.le_refl _⟩
theorem Buf.alloc {B : Nat} {v : Value} {out : List UInt8} {W0 w : World} (h : Buf B v out W0 w) (o : Obj) : Buf B v out W0 (w.alloc o) := ⟨h.own.alloc o, h.below.alloc h.le o, Nat.le_trans h.le ((Below.refl 0 w).alloc (Nat.zero_le _) o).size⟩
theorem Buf.next {B : Nat} {v : Value} {out : List UInt8} {W0 w w' : World} (h : Buf B v out W0 w) (hb : Below w.heap.size w w') : Buf B v out W0 w' := ⟨own_below h.own hb, h.below.trans (hb.mono h.le), Nat.le_trans h.le hb.size⟩
theorem Buf.lit (w : World) (l : List UInt8) (hl : l.length ≤ 1000) {C : Array Value} (hC : C = (Lib.byteCells l).toArray) : Buf w.heap.size (.slice (some ⟨w.heap.size, 0, none⟩) l.length l.length) l w (w.alloc (.cells C 5)) := by
 subst hC
 refine ⟨⟨by rw [byteCells_len, Nat.mul_one], .inr ⟨w.heap.size, l.length, (Lib.byteCells l).toArray, rfl, Nat.le_refl _, heap_alloc_new w _, Nat.le_refl _, by unfold maxLen; omega, by rw [List.size_toArray, byteCells_len, Nat.mul_one], ?_⟩⟩, below_box _ _, by simp⟩
 show (Lib.byteCells l).toArray.toList.take (l.length * 1) = _
 rw [Nat.mul_one, List.take_of_length_le (by simp [byteCells_len])]
theorem wp_buf_append {o : Oper} {a : Act} {K : Act → World → Prop} {Q : Exit → Act → World → Prop} (s x : Operand)
  (ho : o.op = .call { callee := .builtin .append, args := #[s, x], argTypes := #[110, 110] }) {B : Nat} {v : Value} {out : List UInt8} {W0 w : World} (hb : Buf B v out W0 w)
  (hs : a.eval s = v) (news : List UInt8) {C : Array Value} (hC : C = (Lib.byteCells news).toArray) (hx : a.eval x = .slice (some ⟨w.heap.size, 0, none⟩) news.length news.length) (hlen : out.length + news.length ≤ 1099511627776)
  (h : ∀ v' w', Buf B v' (out ++ news) W0 w' → K (a.put o.dst v') w') : o.wp Tryz.prog a (w.alloc (.cells C 5)) K Q := by
 refine wp_own_append s x 110 5 (.int .u8 0) 1 1 ho Tryz.underlying110 info5 rfl (by decide) (xs := Lib.byteCells out) (n := out.length) ⟨hb.own, hb.le⟩ hs (Lib.byteCells news) news.length hC (by rw [byteCells_len, Nat.mul_one]) (byteCells_one _) hx (by unfold maxLen; omega) (by omega) ?_
 intro v' w' h1 h2 _
 exact h v' w' ⟨by rw [List.length_append, byteCells_app]; exact h1.own, hb.below.trans h2, h1.le⟩
theorem Buf.string {B : Nat} {v : Value} {out : List UInt8} {W0 w : World} (h : Buf B v out W0 w) : (convert 110 9 v).run Tryz.prog w = .ok (.string ⟨out.toArray⟩) w := by
 rcases h.own.2 with ⟨hv, hn⟩ | ⟨g, cap, cur, hv, _⟩
 ·obtain rfl : out = [] := List.length_eq_zero_iff.1 hn
  rw [hv]
  rw [run_convert_bytes_string w 110 9 5 none 0 0 Tryz.underlying110 Tryz.underlying5 Tryz.underlying9]
  simp [Conv.bytesToString]
  rfl
 ·have ho := h.own
  rw [hv] at ho ⊢
  refine run_convert_bytes_back w 110 9 5 _ cap out Tryz.underlying110 Tryz.underlying5 Tryz.underlying9 ?_
  intro j hj
  have hadd : (⟨g, 0, none⟩ : Addr).add j = ⟨g, j, none⟩ := by unfold Addr.add; split <;> simp_all
  rw [hadd, ho.cellAt j (by omega)]
  simp [Lib.byteCells, hj]
end Go.Proofs.YtimioelnnhnbiaaGreatDoor
