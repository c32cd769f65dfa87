/-
  Joined: WA WB WC WD. CONDITIONS: as each law says.
-/
import Derived.Test.YtimioelnnhnbiaaGreatDoorS00
import Derived.Deep.LoopGhost
namespace Go.Proofs.YtimioelnnhnbiaaGreatDoor
open Go.RowKit
def str (s : Js.Bs) : ByteArray := ⟨s.toArray⟩
theorem str_size (s : Js.Bs) : (str s).size = s.length := by unfold str; rw [Lib.size_eq]
def RdC (s : Js.Bs) (st : Js.St) : Array Value := #[.string (str s), .int .i64 st.at_, .int .i64 st.deep, .int .i64 st.nodes, .int .i64 st.bytes, .bool st.large]
def RdAt (w : World) (b : Nat) (s : Js.Bs) (st : Js.St) : Prop := w.heap[b]? = some (.cells (RdC s st) 105 (0, 0))
def bad (k : Nat) : Ending := .panicked [{ v := .iface 106 (.int .i64 k), recovered := false }]
theorem RdAt.cells {w : World} {b : Nat} {s : Js.Bs} {st : Js.St} (h : RdAt w b s st) :
  w.cell? ⟨b, 0, none⟩ = some (.string (str s)) ∧ w.cell? ⟨b, 1, none⟩ = some (.int .i64 st.at_) ∧ w.cell? ⟨b, 2, none⟩ = some (.int .i64 st.deep) ∧ w.cell? ⟨b, 3, none⟩ = some (.int .i64 st.nodes) ∧ w.cell? ⟨b, 4, none⟩ = some (.int .i64 st.bytes) ∧ w.cell? ⟨b, 5, none⟩ = some (.bool st.large) :=
 ⟨(blk_cells h 0).trans rfl, (blk_cells h 1).trans rfl, (blk_cells h 2).trans rfl, (blk_cells h 3).trans rfl, (blk_cells h 4).trans rfl, (blk_cells h 5).trans rfl⟩
theorem RdAt.free {w : World} {b : Nat} {s : Js.Bs} {st : Js.St} (h : RdAt w b s st) (i : Nat) : w.frozen? ⟨b, i, none⟩ = false := blk_free h i
theorem RdAt.lt {w : World} {b : Nat} {s : Js.Bs} {st : Js.St} (h : RdAt w b s st) : b < w.heap.size := (Array.getElem?_eq_some_iff.1 h).1
theorem RdAt.next {w w' : World} {b : Nat} {s : Js.Bs} {st : Js.St} (h : RdAt w b s st) (hb : Below w.heap.size w w') : RdAt w' b s st := blk_next hb h
theorem RdAt.drewN {w : World} {b : Nat} {s : Js.Bs} {st : Js.St} (h : RdAt w b s st) (n : Nat) : RdAt (w.drewN n) b s st := h.next (below_drewN (Below.refl _ _) n)
theorem RdAt.toAt {w : World} {b : Nat} {s : Js.Bs} {st : Js.St} (h : RdAt w b s st) (k : Nat) : RdAt (w.setCell ⟨b, 1, none⟩ (.int .i64 k)) b s { st with at_ := k } := (but_set (i := 1) (.int .i64 k) h).2
theorem RdAt.toDeep {w : World} {b : Nat} {s : Js.Bs} {st : Js.St} (h : RdAt w b s st) (k : Nat) : RdAt (w.setCell ⟨b, 2, none⟩ (.int .i64 k)) b s { st with deep := k } := (but_set (i := 2) (.int .i64 k) h).2
theorem RdAt.toNodes {w : World} {b : Nat} {s : Js.Bs} {st : Js.St} (h : RdAt w b s st) (k : Nat) : RdAt (w.setCell ⟨b, 3, none⟩ (.int .i64 k)) b s { st with nodes := k } := (but_set (i := 3) (.int .i64 k) h).2
theorem RdAt.toBytes {w : World} {b : Nat} {s : Js.Bs} {st : Js.St} (h : RdAt w b s st) (k : Nat) : RdAt (w.setCell ⟨b, 4, none⟩ (.int .i64 k)) b s { st with bytes := k } := (but_set (i := 4) (.int .i64 k) h).2
theorem RdAt.toLarge {w : World} {b : Nat} {s : Js.Bs} {st : Js.St} (h : RdAt w b s st) (q : Bool) : RdAt (w.setCell ⟨b, 5, none⟩ (.bool q)) b s { st with large := q } := (but_set (i := 5) (.bool q) h).2
theorem RdAt.but {w : World} {b : Nat} {s : Js.Bs} {st : Js.St} (h : RdAt w b s st) (i : Nat) (v : Value) : But [b] w (w.setCell ⟨b, i, none⟩ v) := (but_set (i := i) v h).1
theorem RdAt.step {w : World} {b : Nat} {s : Js.Bs} {st : Js.St} (h : RdAt w b s st) : RdAt (w.setCell ⟨b, 1, none⟩ (.int .i64 ((st.at_ : Int) + 1))) b s (Js.step st) := h.toAt (st.at_ + 1)
set_option maxHeartbeats 1000000 in
theorem fail_any (b : Nat) (s : Js.Bs) (st : Js.St) (w : World) (h : RdAt w b s st) :
  Calls Tryz.prog 50 #[.pointer (some ⟨b, 0, none⟩)] w fun e w' => e = bad st.at_ ∧ w = w' := by
 obtain ⟨c0, c1, -⟩ := h.cells
 clear h
 go_enter Tryz.func50, Tryz.ntmps50
 go_wp2_with fail
 exact ⟨rfl, rfl, rfl⟩
theorem str_get {s : Js.Bs} {k : Nat} {c : UInt8} (h : s[k]? = some c) (hk : k < (str s).size) : (str s)[k] = c := by
 obtain ⟨hk', e⟩ := List.getElem?_eq_some_iff.1 h
 show s.toArray[k] = c
 simpa using e
theorem drewN2 (w : World) (a b : Nat) : ∃ n, (w.drewN a).drewN b = w.drewN n := ⟨_, World.drewN_drewN w a b⟩
theorem peek_of {s : Js.Bs} {st : Js.St} {c : UInt8} (h : s[st.at_]? = some c) : Js.peek s st = c := by
 unfold Js.peek
 obtain ⟨hk, e⟩ := List.getElem?_eq_some_iff.1 h
 rw [List.drop_eq_getElem_cons hk]
 exact e
theorem peek_end {s : Js.Bs} {st : Js.St} (h : s.length ≤ st.at_) : Js.peek s st = 0 := by
 unfold Js.peek; rw [List.drop_eq_nil_of_le h]; rfl
set_option maxHeartbeats 1000000 in
theorem peek_any (b : Nat) (s : Js.Bs) (st : Js.St) (w : World) (h : RdAt w b s st) (hlen : s.length ≤ 1073741824) (hat : st.at_ ≤ s.length) :
  Calls Tryz.prog 86 #[.pointer (some ⟨b, 0, none⟩)] w fun e w' => e = .returned (.int .u8 (Js.peek s st).toNat) ∧ ∃ n, w' = w.drewN n := by
 obtain ⟨c0, c1, -⟩ := h.cells
 have hz := str_size s
 clear h
 by_cases hn : st.at_ = s.length
 ·have hp : (Js.peek s st) = 0 := peek_end (by omega)
  have q : ((st.at_ : Int) == (s.length : Int)) = true := by simp [hn]
  go_enter Tryz.func86, Tryz.ntmps86
  go_wp2_with fail
  go_quiet (fail)
  go_wp2_with fail
  go_ret
  rw [hp]
  exact ⟨rfl, _, rfl⟩
 ·have hlt : st.at_ < s.length := by omega
  have q : ((st.at_ : Int) == (s.length : Int)) = false := by simp; omega
  have HP := Lib.hid (peek_of (s := s) (st := st) (List.getElem?_eq_getElem hlt))
  have HG := Lib.hid (str_get (List.getElem?_eq_getElem hlt))
  go_enter Tryz.func86, Tryz.ntmps86
  go_wp2_with fail
  go_quiet (fail)
  go_wp2_with fail
  go_quiet (fail)
  go_wp2_with fail
  go_ret
  rw [HP.out, HG.out]
  exact ⟨rfl, drewN2 _ _ _⟩
def ROut {α : Type} (b : Nat) (s : Js.Bs) (w : World) (val : α → Value) : Js.Res α → Ending → World → Prop
 | .ok x st, e, w' => e = .returned (val x) ∧ RdAt w' b s st ∧ But [b] w w'
 | .bad k, e, w' => e = bad k ∧ But [b] w w'
 | .out, _, _ => False
theorem out_bad {α : Type} {fn : Func} {b : Nat} {s : Js.Bs} {w w' : World} {val : α → Value} {r : Js.Res α} {k : Nat} {a : Act} (hr : r = .bad k) (hd : a.defers = []) (hb : But [b] w w') :
  bodyPost Tryz.prog fn (ROut b s w val r) (.panic [{ v := .iface 106 (.int .i64 k), recovered := false }]) a w' := by
 subst hr
 exact ⟨hd, rfl, hb⟩
theorem take_hit {s : Js.Bs} {st : Js.St} {c : UInt8} (h : s[st.at_]? = some c) : Js.take s c st = .ok () (Js.step st) := by unfold Js.take; rw [if_pos h]
theorem take_miss {s : Js.Bs} {st : Js.St} {c : UInt8} (h : s[st.at_]? ≠ some c) : Js.take s c st = .bad st.at_ := by unfold Js.take; rw [if_neg h]
set_option maxHeartbeats 1000000 in
theorem take_any (b : Nat) (s : Js.Bs) (c : UInt8) (st : Js.St) (w : World) (h : RdAt w b s st) (hlen : s.length ≤ 1073741824) (hat : st.at_ ≤ s.length) :
  Calls Tryz.prog 93 #[.pointer (some ⟨b, 0, none⟩), .int .u8 c.toNat] w (ROut b s w (fun _ => .tuple #[]) (Js.take s c st)) := by
 have HR := Lib.hid h
 obtain ⟨c0, c1, -⟩ := h.cells
 have hz := str_size s
 clear h
 by_cases hn : st.at_ = s.length
 ·have HT : Hid (Js.take s c st = .bad st.at_) := Lib.hid (by unfold Js.take; rw [List.getElem?_eq_none (by omega), if_neg (by simp)])
  have q : ((st.at_ : Int) == (s.length : Int)) = true := by simp [hn]
  clear hn
  go_enter Tryz.func93, Tryz.ntmps93
  go_wp2_with fail
  go_quiet (fail)
  go_wp2_with fail
  refine (fail_any b s st _ (HR.out.drewN _)).mono ?_
  rintro e w' ⟨rfl, rfl⟩
  unfold bad
  go_wp2_with fail
  exact out_bad HT.out rfl ((But.refl _ _).drewN _)
 ·have hlt : st.at_ < s.length := by omega
  have q : ((st.at_ : Int) == (s.length : Int)) = false := by simp; omega
  have hk : st.at_ < (str s).size := by omega
  obtain ⟨x, hx⟩ : ∃ x, s[st.at_]? = some x := ⟨_, List.getElem?_eq_getElem hlt⟩
  have HG := str_get hx hk
  by_cases hc : x = c
  ·have qn : (((str s)[st.at_].toNat : Int) != (c.toNat : Int)) = false := by rw [HG, hc]; simp
   have HT := Lib.hid (take_hit (s := s) (st := st) (c := c) (by rw [hx, hc]))
   have f1 := HR.out.free 1
   clear hc hx HG
   go_enter Tryz.func93, Tryz.ntmps93
   go_wp2_with fail
   go_quiet (fail)
   go_wp2_with fail
   go_end0
   rw [HT.out]
   exact ⟨rfl, (HR.out.drewN _).step, (But.refl _ _).drewN _ |>.trans ((HR.out.drewN _).but 1 _)⟩
  ·have qn : (((str s)[st.at_].toNat : Int) != (c.toNat : Int)) = true := by rw [HG]; simp; intro e; exact hc (UInt8.toNat_inj.1 (by omega))
   have HT := Lib.hid (take_miss (s := s) (st := st) (c := c) (by rw [hx]; simpa using hc))
   clear hc hx HG
   go_enter Tryz.func93, Tryz.ntmps93
   go_wp2_with fail
   go_quiet (fail)
   go_wp2_with fail
   refine (fail_any b s st _ (HR.out.drewN _)).mono ?_
   rintro e w' ⟨rfl, rfl⟩
   unfold bad
   go_wp2_with fail
   exact out_bad HT.out rfl ((But.refl _ _).drewN _)
end Go.Proofs.YtimioelnnhnbiaaGreatDoor
namespace Go.Proofs.YtimioelnnhnbiaaGreatDoor
open Go.RowKit
theorem take_le {s : Js.Bs} {st st' : Js.St} {c : UInt8} {u : Unit} (h : Js.take s c st = .ok u st') : st'.at_ ≤ s.length := by
 unfold Js.take at h
 split at h
 ·rename_i hx
  injection h with _ h
  subst h
  obtain ⟨hk, _⟩ := List.getElem?_eq_some_iff.1 hx
  exact hk
 ·cases h
theorem take_inv (s : Js.Bs) (c : UInt8) (st : Js.St) : Js.take s c st = .ok () (Js.step st) ∨ Js.take s c st = .bad st.at_ := by
 unfold Js.take
 split
 ·exact .inl rfl
 ·exact .inr rfl
theorem word_cons {s : Js.Bs} {c : UInt8} {t : Js.Bs} {st : Js.St} : Js.word s (c :: t) st = (Js.take s c st).bind fun _ st => Js.word s t st := rfl
set_option maxHeartbeats 1000000 in
theorem word_any (l : Js.Bs) (hl : l.length ≤ 100) (b : Nat) (s : Js.Bs) (st : Js.St) (w : World) (h : RdAt w b s st) (hlen : s.length ≤ 1073741824) (hat : st.at_ ≤ s.length) :
  Calls Tryz.prog 87 #[.pointer (some ⟨b, 0, none⟩), .string (str l)] w (ROut b s w (fun _ => .tuple #[]) (Js.word s l st)) := by
 have hz := str_size l
 go_enter Tryz.func87, Tryz.ntmps87
 go_wp2_with fail
 go_loopw [4, 7] (fun _ i wr => ∃ (k : Nat) (st' : Js.St), k ≤ l.length ∧ i = .int .i64 k ∧ st'.at_ ≤ s.length ∧ Hid (RdAt wr b s st') ∧ Hid (But [b] w wr) ∧ Hid (Js.word s l st = Js.word s (l.drop k) st')) (fun _ i _ => l.length - (intOf i).toNat)
 case atStart => exact ⟨0, st, Nat.zero_le _, rfl, hat, Lib.hid h, Lib.hid (But.refl _ _), Lib.hid rfl⟩
 case round =>
  obtain ⟨k, st', hk, rfl, hat', HR, HB, HW⟩ := hrel
  clear h hat
  by_cases hlt : k < l.length
  ·have hks : k < (str l).size := by omega
   obtain ⟨c, hc⟩ : ∃ c, l[k]? = some c := ⟨_, List.getElem?_eq_getElem hlt⟩
   have HG := Lib.hid (str_get hc hks)
   have HD : Hid (Js.word s l st = (Js.take s c st').bind fun _ st => Js.word s (l.drop (k + 1)) st) := Lib.hid (by
    rw [HW.out, List.drop_eq_getElem_cons hlt, word_cons]
    obtain ⟨_, e⟩ := List.getElem?_eq_some_iff.1 hc
    rw [show l[k] = c from e])
   clear hc HW
   go_wp2_with fail
   rw [HG.out]
   refine (take_any b s c st' _ HR.out hlen hat').mono ?_
   intro e w2 ho
   rcases take_inv s c st' with ht | ht
   ·rw [ht] at ho
    obtain ⟨rfl, hr2, hb2⟩ := ho
    have HR2 := Lib.hid hr2
    have HB2 := Lib.hid (HB.out.trans hb2)
    have hat2 := take_le ht
    have HW2 : Hid (Js.word s l st = Js.word s (l.drop (k + 1)) (Js.step st')) := Lib.hid (by rw [HD.out, ht]; rfl)
    clear hr2 hb2 HR HB HD ht
    go_wp2_with fail
    go_roundw
    case rel => exact ⟨k + 1, _, by omega, by go_num, hat2, HR2, HB2, HW2⟩
    case measure => simp [intOf]; omega
   ·rw [ht] at ho
    obtain ⟨rfl, hb2⟩ := ho
    have HB2 := Lib.hid (HB.out.trans hb2)
    have HT : Hid (Js.word s l st = .bad st'.at_) := Lib.hid (by rw [HD.out, ht]; rfl)
    clear hb2 HB HD ht
    unfold bad
    go_wp2_with fail
    exact out_bad HT.out rfl HB2.out
  ·have HT : Hid (Js.word s l st = .ok () st') := Lib.hid (by rw [HW.out, List.drop_eq_nil_of_le (by omega)]; rfl)
   clear HW
   go_wp2_with fail
   go_end0
   rw [HT.out]
   exact ⟨rfl, HR.out, HB.out⟩
def blI (c : UInt8) : Int := Lib.indexByte [32, 9, 10, 13] c
theorem blI_rg (c : UInt8) : -1 ≤ blI c ∧ blI c ≤ 3 ∧ (Js.isBl c = decide (0 ≤ blI c)) := by
 have h : ∀ n : Fin 256, -1 ≤ blI (UInt8.ofNat n.val) ∧ blI (UInt8.ofNat n.val) ≤ 3 ∧ (Js.isBl (UInt8.ofNat n.val) = decide (0 ≤ blI (UInt8.ofNat n.val))) := by decide +kernel
 have := h ⟨c.toNat, c.toNat_lt⟩
 simpa using this
theorem indexBl_any (c : UInt8) (w : World) :
  Calls Tryz.prog 85 #[.string ⟨#[32, 9, 10, 13]⟩, .int .u8 c.toNat] w fun e w' => e = .returned (.int .i64 (blI c)) ∧ w' = w := by
 refine (Tryz.strings_IndexByte _ _ _).mono ?_
 rintro e w' ⟨rfl, rfl⟩
 refine ⟨ret_int ?_, rfl⟩
 unfold blI
 congr 1
 simp
theorem blanks_stop {s : Js.Bs} {st : Js.St} (h : ∀ c, s[st.at_]? = some c → Js.isBl c = false) : Js.blanks s st = st := by
 unfold Js.blanks
 have e : (s.drop st.at_).takeWhile Js.isBl = [] := by
  by_cases hlt : st.at_ < s.length
  ·rw [List.drop_eq_getElem_cons hlt, List.takeWhile_cons, h _ (List.getElem?_eq_getElem hlt)]; rfl
  ·rw [List.drop_eq_nil_of_le (by omega)]; rfl
 rw [e]; rfl
theorem blanks_step {s : Js.Bs} {st : Js.St} {c : UInt8} (h : s[st.at_]? = some c) (hc : Js.isBl c = true) : Js.blanks s st = Js.blanks s (Js.step st) := by
 unfold Js.blanks Js.step
 obtain ⟨hk, e⟩ := List.getElem?_eq_some_iff.1 h
 rw [List.drop_eq_getElem_cons hk, e, List.takeWhile_cons, hc]
 simp only [if_true, List.length_cons]
 congr 1
 omega
theorem blanks_le {s : Js.Bs} {st : Js.St} (h : st.at_ ≤ s.length) : (Js.blanks s st).at_ ≤ s.length := by
 unfold Js.blanks
 have := (List.takeWhile_prefix (p := Js.isBl) (l := s.drop st.at_)).length_le
 rw [List.length_drop] at this
 show st.at_ + _ ≤ _
 omega
set_option maxHeartbeats 2000000 in
theorem blanks_any (b : Nat) (s : Js.Bs) (st : Js.St) (w : World) (h : RdAt w b s st) (hlen : s.length ≤ 1073741824) (hat : st.at_ ≤ s.length) :
  Calls Tryz.prog 73 #[.pointer (some ⟨b, 0, none⟩)] w fun e w' => e = .returned (.tuple #[]) ∧ RdAt w' b s (Js.blanks s st) ∧ But [b] w w' := by
 have hz := str_size s
 go_enter Tryz.func73, Tryz.ntmps73
 go_wp2_with fail
 go_loopg [2] (s.length - st.at_) (fun k _ wr => ∃ st' : Js.St, st'.at_ ≤ s.length ∧ k = s.length - st'.at_ ∧ Hid (RdAt wr b s st') ∧ Hid (But [b] w wr) ∧ Hid (Js.blanks s st = Js.blanks s st'))
 case atStart => exact ⟨st, hat, rfl, Lib.hid h, Lib.hid (But.refl _ _), Lib.hid rfl⟩
 case round =>
  obtain ⟨st', hat', hgk, HR, HB, HW⟩ := hrel
  have HK := Lib.hid hgk
  clear h hat hgk
  obtain ⟨c0, c1, -⟩ := HR.out.cells
  have f1 := HR.out.free 1
  by_cases hlt : st'.at_ < s.length
  ·have hk : st'.at_ < (str s).size := by omega
   obtain ⟨x, hx⟩ : ∃ x, s[st'.at_]? = some x := ⟨_, List.getElem?_eq_getElem hlt⟩
   have HG := str_get hx hk
   have HX := Lib.hid hx
   obtain ⟨r1, r2, r3⟩ := blI_rg x
   have HL := Lib.hid r3
   clear hx r3
   by_cases hb : 0 ≤ blI x
   ·have HS : Hid (Js.blanks s st = Js.blanks s (Js.step st')) := Lib.hid (by rw [HW.out, blanks_step HX.out (by rw [HL.out, decide_eq_true hb])])
    go_wp2_with fail
    go_quiet ((go_at_call 85; exact Calls.quiet_of_same (indexBl_any x _)))
    go_wp2_with fail
    have HR2 := Lib.hid ((HR.out.drewN nq).step)
    have HB2 := Lib.hid (HB.out.trans (((But.refl _ _).drewN nq).trans ((HR.out.drewN nq).but 1 (.int .i64 ((st'.at_ : Int) + 1)))))
    go_roundg (s.length - (Js.step st').at_)
    case measure => rw [HK.out]; show _ - (st'.at_ + 1) < _; omega
    case rel => exact ⟨Js.step st', hlt, rfl, HR2, HB2, HS⟩
   ·have HE : Hid (Js.blanks s st = st') := Lib.hid (by
     rw [HW.out, blanks_stop]
     intro c hc
     rw [HX.out] at hc
     obtain rfl := Option.some.inj hc
     rw [HL.out, decide_eq_false hb])
    go_wp2_with fail
    go_quiet ((go_at_call 85; exact Calls.quiet_of_same (indexBl_any x _)))
    go_wp2_with fail
    go_end0
    rw [HE.out]
    exact ⟨rfl, HR.out.drewN _, HB.out.drewN _⟩
  ·have HE : Hid (Js.blanks s st = st') := Lib.hid (by
    rw [HW.out, blanks_stop]
    intro c hc
    rw [List.getElem?_eq_none (by omega)] at hc
    cases hc)
   go_wp2_with fail
   go_quiet (fail)
   go_wp2_with fail
   go_end0
   rw [HE.out]
   exact ⟨rfl, HR.out.drewN _, HB.out.drewN _⟩
end Go.Proofs.YtimioelnnhnbiaaGreatDoor
namespace Go.Proofs.YtimioelnnhnbiaaGreatDoor
open Go.RowKit
def hxI (c : UInt8) : Int := Lib.indexByte [48, 49, 50, 51, 52, 53, 54, 55, 56, 57, 97, 98, 99, 100, 101, 102] (c ||| 32)
theorem hxI_facts (c : UInt8) : (-1 ≤ hxI c ∧ hxI c ≤ 15) ∧ bits BinOp.or IntKind.u8 c.toNat 32 = ((c ||| 32).toNat : Int) ∧ (48 ≤ c.toNat → c.toNat ≤ 57 → Js.hexV c = some (c.toNat - 48)) ∧ ((c.toNat < 48 ∨ 57 < c.toNat) → 10 ≤ hxI c → Js.hexV c = some (hxI c).toNat) ∧ ((c.toNat < 48 ∨ 57 < c.toNat) → hxI c < 10 → Js.hexV c = none) := by
 have h : ∀ n : Fin 256, (fun c : UInt8 => (-1 ≤ hxI c ∧ hxI c ≤ 15) ∧ bits BinOp.or IntKind.u8 c.toNat 32 = ((c ||| 32).toNat : Int) ∧ (48 ≤ c.toNat → c.toNat ≤ 57 → Js.hexV c = some (c.toNat - 48)) ∧ ((c.toNat < 48 ∨ 57 < c.toNat) → 10 ≤ hxI c → Js.hexV c = some (hxI c).toNat) ∧ ((c.toNat < 48 ∨ 57 < c.toNat) → hxI c < 10 → Js.hexV c = none)) (UInt8.ofNat n.val) := by decide +kernel
 have := h ⟨c.toNat, c.toNat_lt⟩
 simpa using this
theorem indexHx_any (c : UInt8) (v : Int) (hv : ((c ||| 32).toNat : Int) = v) (w : World) :
  Calls Tryz.prog 85 #[.string ⟨#[48, 49, 50, 51, 52, 53, 54, 55, 56, 57, 97, 98, 99, 100, 101, 102]⟩, .int .u8 v] w fun e w' => e = .returned (.int .i64 (hxI c)) ∧ w' = w := by
 subst hv
 refine (Tryz.strings_IndexByte _ _ _).mono ?_
 rintro e w' ⟨rfl, rfl⟩
 refine ⟨ret_int ?_, rfl⟩
 unfold hxI
 congr 1
 simp
theorem peek_cases (s : Js.Bs) (st : Js.St) (h : st.at_ ≤ s.length) : (st.at_ < s.length ∧ s[st.at_]? = some (Js.peek s st)) ∨ (st.at_ = s.length ∧ s[st.at_]? = none ∧ Js.peek s st = 0) := by
 by_cases hlt : st.at_ < s.length
 ·refine .inl ⟨hlt, ?_⟩
  rw [peek_of (List.getElem?_eq_getElem hlt)]
  exact List.getElem?_eq_getElem hlt
 ·exact .inr ⟨by omega, List.getElem?_eq_none (by omega), peek_end (by omega)⟩
set_option maxRecDepth 100000 in
set_option maxHeartbeats 4000000 in
theorem digit_any (b : Nat) (s : Js.Bs) (st : Js.St) (w : World) (h : RdAt w b s st) (hlen : s.length ≤ 1073741824) (hat : st.at_ ≤ s.length) :
  Calls Tryz.prog 107 #[.pointer (some ⟨b, 0, none⟩)] w (ROut b s w (fun n => .int .u8 (n : Nat)) (Js.digit s st)) := by
 have hz := str_size s
 have HC := Lib.hid (peek_cases s st hat)
 have HR := Lib.hid h
 go_enter Tryz.func107, Tryz.ntmps107
 go_wp2_with fail
 refine (peek_any b s st _ h hlen hat).mono ?_
 rintro e w2 ⟨rfl, n, rfl⟩
 obtain ⟨c0, c1, -⟩ := h.cells
 have f1 := h.free 1
 clear h
 have HD : Hid (Js.digit s st = match (s[st.at_]?).bind Js.hexV with | some n => .ok n (Js.step st) | none => .bad st.at_) := Lib.hid rfl
 generalize Js.peek s st = c at HC ⊢
 obtain ⟨⟨i1, i2⟩, hor, g1, g2, g3⟩ := hxI_facts c
 have hc256 := c.toNat_lt
 have G := Lib.hid (And.intro g1 (And.intro g2 g3))
 have HOR := Lib.hid hor
 clear g1 g2 g3 hor
 go_wp2_with fail
 refine (indexHx_any c _ HOR.out.symm _).mono ?_
 rintro e w3 ⟨rfl, rfl⟩
 by_cases hd : 48 ≤ c.toNat ∧ c.toNat ≤ 57
 ·obtain ⟨d1, d2⟩ := hd
  have HV := Lib.hid (G.out.1 d1 d2)
  rcases HC.out with ⟨hlt, hx⟩ | ⟨_, _, rfl⟩
  ·have HD2 : Hid (Js.digit s st = .ok (c.toNat - 48) (Js.step st)) := Lib.hid (by rw [HD.out, hx, Option.bind_some, HV.out])
   have q : ((st.at_ : Int) == (s.length : Int)) = false := by simp; omega
   have b1 : (48 : Int) ≤ c.toNat := by omega
   have b2 : (c.toNat : Int) ≤ 57 := by omega
   have b3 : (c.toNat : Int) - 48 < 10 := by omega
   have b4 : decide ((c.toNat : Int) - 48 < 10) = true := by simp; omega
   have b5 : ¬ (c.toNat : Int) < 48 := by omega
   have b6 : ¬ (57 : Int) < c.toNat := by omega
   have HE : Hid ((c.toNat : Int) - 48 = ((c.toNat - 48 : Nat) : Int)) := Lib.hid (by omega)
   clear hx hc256
   go_wp2_with fail
   go_quiet (fail)
   go_wp2_with fail
   go_ret
   rw [HD2.out]
   exact ⟨ret_int HE.out, (HR.out.drewN _).step, ((But.refl _ _).drewN _).trans ((HR.out.drewN _).but 1 _)⟩
  ·exact absurd d1 (by decide)
 ·have hdc : c.toNat < 48 ∨ 57 < c.toNat := by omega
  rcases hdc with b0 | b0
  ·have hdc : c.toNat < 48 ∨ 57 < c.toNat := .inl b0
   by_cases hi : 10 ≤ hxI c
   ·have hlt : st.at_ < s.length := by
     rcases HC.out with ⟨hlt, _⟩ | ⟨_, _, rfl⟩
     ·exact hlt
     ·exact absurd hi (by decide)
    have hx : s[st.at_]? = some c := by
     rcases HC.out with ⟨_, hx⟩ | ⟨e, _, _⟩
     ·exact hx
     ·omega
    have HD2 : Hid (Js.digit s st = .ok (hxI c).toNat (Js.step st)) := Lib.hid (by rw [HD.out, hx, Option.bind_some, G.out.2.1 hdc hi])
    have q : ((st.at_ : Int) == (s.length : Int)) = false := by simp; omega
    have HE : Hid (hxI c = ((hxI c).toNat : Nat)) := Lib.hid (by omega)
    have j1 : ¬ hxI c < 0 := by omega
    have j2 : ¬ hxI c < 10 := by omega
    have j3 : decide (hxI c < 10) = false := by simp; omega
    have j4 : 0 ≤ hxI c := by omega
    have j5 : hxI c < 256 := by omega
    clear hx hc256 hdc
    have n1 : (c.toNat : Int) < 48 := by omega
    have n2 : ¬ (48 : Int) ≤ c.toNat := by omega
    have n3 : decide ((c.toNat : Int) < 48) = true := by simp; omega
    go_wp2_with fail
    go_quiet (fail)
    go_wp2_with fail
    go_ret
    rw [HD2.out]
    exact ⟨ret_int HE.out, (HR.out.drewN _).step, ((But.refl _ _).drewN _).trans ((HR.out.drewN _).but 1 _)⟩
   ·have HD2 : Hid (Js.digit s st = .bad st.at_) := Lib.hid (by
     rw [HD.out]
     rcases HC.out with ⟨_, hx⟩ | ⟨_, hx, _⟩
     ·rw [hx, Option.bind_some, G.out.2.2 hdc (by omega)]
     ·rw [hx]; rfl)
    clear hc256 hdc
    by_cases hj : hxI c < 0
    ·have j1 : decide (hxI c < 0) = true := by simpa using hj
     have n1 : (c.toNat : Int) < 48 := by omega
     have n2 : ¬ (48 : Int) ≤ c.toNat := by omega
     have n3 : decide ((c.toNat : Int) < 48) = true := by simp; omega
     go_wp2_with fail
     go_quiet (fail)
     go_wp2_with fail
     refine (fail_any b s st _ (HR.out.drewN _)).mono ?_
     rintro e w' ⟨rfl, rfl⟩
     unfold bad
     go_wp2_with fail
     exact out_bad HD2.out rfl ((But.refl _ _).drewN _)
    ·have hlt : st.at_ < s.length := by
      rcases HC.out with ⟨hlt, _⟩ | ⟨_, _, rfl⟩
      ·exact hlt
      ·exact absurd (show hxI 0 < 0 by decide) hj
     have q : ((st.at_ : Int) == (s.length : Int)) = false := by simp; omega
     have j1 : decide (hxI c < 0) = false := by simpa using hj
     have j2 : hxI c < 10 := by omega
     have j3 : decide (hxI c < 10) = true := by simpa using j2
     have j4 : 0 ≤ hxI c := by omega
     have n1 : (c.toNat : Int) < 48 := by omega
     have n2 : ¬ (48 : Int) ≤ c.toNat := by omega
     have n3 : decide ((c.toNat : Int) < 48) = true := by simp; omega
     go_wp2_with fail
     go_quiet (fail)
     go_wp2_with fail
     refine (fail_any b s st _ (HR.out.drewN _)).mono ?_
     rintro e w' ⟨rfl, rfl⟩
     unfold bad
     go_wp2_with fail
     exact out_bad HD2.out rfl ((But.refl _ _).drewN _)
  ·have hdc : c.toNat < 48 ∨ 57 < c.toNat := .inr b0
   by_cases hi : 10 ≤ hxI c
   ·have hlt : st.at_ < s.length := by
     rcases HC.out with ⟨hlt, _⟩ | ⟨_, _, rfl⟩
     ·exact hlt
     ·exact absurd hi (by decide)
    have hx : s[st.at_]? = some c := by
     rcases HC.out with ⟨_, hx⟩ | ⟨e, _, _⟩
     ·exact hx
     ·omega
    have HD2 : Hid (Js.digit s st = .ok (hxI c).toNat (Js.step st)) := Lib.hid (by rw [HD.out, hx, Option.bind_some, G.out.2.1 hdc hi])
    have q : ((st.at_ : Int) == (s.length : Int)) = false := by simp; omega
    have HE : Hid (hxI c = ((hxI c).toNat : Nat)) := Lib.hid (by omega)
    have j1 : ¬ hxI c < 0 := by omega
    have j2 : ¬ hxI c < 10 := by omega
    have j3 : decide (hxI c < 10) = false := by simp; omega
    have j4 : 0 ≤ hxI c := by omega
    have j5 : hxI c < 256 := by omega
    clear hx hc256 hdc
    have n1 : (48 : Int) ≤ c.toNat := by omega
    have n2 : ¬ (c.toNat : Int) ≤ 57 := by omega
    have n3 : decide ((c.toNat : Int) < 48) = false := by simp; omega
    have n4 : decide ((57 : Int) < c.toNat) = true := by simp; omega
    have n5 : decide ((c.toNat : Int) ≤ 57) = false := by simp; omega
    go_wp2_with fail
    go_quiet (fail)
    go_wp2_with fail
    go_ret
    rw [HD2.out]
    exact ⟨ret_int HE.out, (HR.out.drewN _).step, ((But.refl _ _).drewN _).trans ((HR.out.drewN _).but 1 _)⟩
   ·have HD2 : Hid (Js.digit s st = .bad st.at_) := Lib.hid (by
     rw [HD.out]
     rcases HC.out with ⟨_, hx⟩ | ⟨_, hx, _⟩
     ·rw [hx, Option.bind_some, G.out.2.2 hdc (by omega)]
     ·rw [hx]; rfl)
    clear hc256 hdc
    by_cases hj : hxI c < 0
    ·have j1 : decide (hxI c < 0) = true := by simpa using hj
     have n1 : (48 : Int) ≤ c.toNat := by omega
     have n2 : ¬ (c.toNat : Int) ≤ 57 := by omega
     have n3 : decide ((c.toNat : Int) < 48) = false := by simp; omega
     have n4 : decide ((57 : Int) < c.toNat) = true := by simp; omega
     have n5 : decide ((c.toNat : Int) ≤ 57) = false := by simp; omega
     go_wp2_with fail
     go_quiet (fail)
     go_wp2_with fail
     refine (fail_any b s st _ (HR.out.drewN _)).mono ?_
     rintro e w' ⟨rfl, rfl⟩
     unfold bad
     go_wp2_with fail
     exact out_bad HD2.out rfl ((But.refl _ _).drewN _)
    ·have hlt : st.at_ < s.length := by
      rcases HC.out with ⟨hlt, _⟩ | ⟨_, _, rfl⟩
      ·exact hlt
      ·exact absurd (show hxI 0 < 0 by decide) hj
     have q : ((st.at_ : Int) == (s.length : Int)) = false := by simp; omega
     have j1 : decide (hxI c < 0) = false := by simpa using hj
     have j2 : hxI c < 10 := by omega
     have j3 : decide (hxI c < 10) = true := by simpa using j2
     have j4 : 0 ≤ hxI c := by omega
     have n1 : (48 : Int) ≤ c.toNat := by omega
     have n2 : ¬ (c.toNat : Int) ≤ 57 := by omega
     have n3 : decide ((c.toNat : Int) < 48) = false := by simp; omega
     have n4 : decide ((57 : Int) < c.toNat) = true := by simp; omega
     have n5 : decide ((c.toNat : Int) ≤ 57) = false := by simp; omega
     go_wp2_with fail
     go_quiet (fail)
     go_wp2_with fail
     refine (fail_any b s st _ (HR.out.drewN _)).mono ?_
     rintro e w' ⟨rfl, rfl⟩
     unfold bad
     go_wp2_with fail
     exact out_bad HD2.out rfl ((But.refl _ _).drewN _)
end Go.Proofs.YtimioelnnhnbiaaGreatDoor
namespace Go.Proofs.YtimioelnnhnbiaaGreatDoor
open Go.RowKit
theorem peek_at {b : Nat} {s : Js.Bs} {st : Js.St} {w : World} (c : UInt8) (hc : Js.peek s st = c) (h : RdAt w b s st) (hlen : s.length ≤ 1073741824) (hat : st.at_ ≤ s.length) :
  Calls Tryz.prog 86 #[.pointer (some ⟨b, 0, none⟩)] w fun e w' => e = .returned (.int .u8 c.toNat) ∧ ∃ n, w' = w.drewN n := by
 subst hc
 exact peek_any b s st w h hlen hat
def peI (c : UInt8) : Int := Lib.indexByte [34, 92, 47, 98, 102, 110, 114, 116] c
def peB (n : Nat) : UInt8 := [34, 92, 47, 8, 12, 10, 13, 9].getD n 0
theorem peI_facts (c : UInt8) : (-1 ≤ peI c ∧ peI c ≤ 7) ∧ (0 ≤ peI c → Js.escV c = some (peB (peI c).toNat)) ∧ (peI c < 0 → Js.escV c = none) := by
 have h : ∀ n : Fin 256, (fun c : UInt8 => (-1 ≤ peI c ∧ peI c ≤ 7) ∧ (0 ≤ peI c → Js.escV c = some (peB (peI c).toNat)) ∧ (peI c < 0 → Js.escV c = none)) (UInt8.ofNat n.val) := by decide +kernel
 have := h ⟨c.toNat, c.toNat_lt⟩
 simpa using this
theorem indexPe_any (c : UInt8) (w : World) :
  Calls Tryz.prog 85 #[.string ⟨#[34, 92, 47, 98, 102, 110, 114, 116]⟩, .int .u8 c.toNat] w fun e w' => e = .returned (.int .i64 (peI c)) ∧ w' = w := by
 refine (Tryz.strings_IndexByte _ _ _).mono ?_
 rintro e w' ⟨rfl, rfl⟩
 refine ⟨ret_int ?_, rfl⟩
 unfold peI
 congr 1
 simp
theorem hexV_lt {c : UInt8} {n : Nat} (h : Js.hexV c = some n) : n < 16 := by
 unfold Js.hexV at h
 split at h
 ·simp at h; omega
 ·split at h
  ·simp at h; omega
  ·split at h
   ·simp at h; omega
   ·cases h
theorem digit_inv {s : Js.Bs} {st : Js.St} : (∃ n, n < 16 ∧ Js.digit s st = .ok n (Js.step st) ∧ st.at_ < s.length) ∨ Js.digit s st = .bad st.at_ := by
 unfold Js.digit
 cases hx : s[st.at_]? with
 | none => exact .inr rfl
 | some c =>
  rw [Option.bind_some]
  cases hv : Js.hexV c with
  | none => exact .inr rfl
  | some n => exact .inl ⟨n, hexV_lt hv, rfl, (List.getElem?_eq_some_iff.1 hx).1⟩
theorem word_inv (s : Js.Bs) : ∀ (l : Js.Bs) (st : Js.St), (∃ st', Js.word s l st = .ok () st' ∧ (st.at_ ≤ s.length → st'.at_ ≤ s.length)) ∨ ∃ k, Js.word s l st = .bad k
 | [], st => .inl ⟨st, rfl, id⟩
 | c :: t, st => by
  rw [word_cons]
  rcases take_inv s c st with h | h
  ·rw [h]
   rcases word_inv s t (Js.step st) with ⟨st', h', h2⟩ | ⟨k, h'⟩
   ·exact .inl ⟨st', h', fun _ => h2 (take_le h)⟩
   ·exact .inr ⟨k, h'⟩
  ·rw [h]
   exact .inr ⟨_, rfl⟩
theorem peB_get (k : Nat) (h : k < (⟨#[34, 92, 47, 8, 12, 10, 13, 9]⟩ : ByteArray).size) : (⟨#[34, 92, 47, 8, 12, 10, 13, 9]⟩ : ByteArray)[k] = peB k := by
 have h8 : k < 8 := h
 match k, h8 with
 | 0, _ => rfl
 | 1, _ => rfl
 | 2, _ => rfl
 | 3, _ => rfl
 | 4, _ => rfl
 | 5, _ => rfl
 | 6, _ => rfl
 | 7, _ => rfl
theorem pair_bits : ∀ a b : Fin 16, bits BinOp.or IntKind.u8 ((a.val : Int) * 16) b.val = ((UInt8.ofNat (16 * a.val + b.val)).toNat : Int) := by decide +kernel
set_option maxRecDepth 100000 in
set_option maxHeartbeats 4000000 in
theorem pair_u (b : Nat) (s : Js.Bs) (st : Js.St) (w : World) (h : RdAt w b s st) (hlen : s.length ≤ 1073741824) (hlt : st.at_ < s.length) (hx : s[st.at_]? = some 117) :
  Calls Tryz.prog 99 #[.pointer (some ⟨b, 0, none⟩)] w (ROut b s w (fun c : UInt8 => .int .u8 c.toNat) (Js.pair s st)) := by
 have hz := str_size s
 have HR := Lib.hid h
 obtain ⟨c0, c1, -⟩ := h.cells
 have hat : st.at_ ≤ s.length := Nat.le_of_lt hlt
 have HP := Lib.hid (peek_of hx)
 have HD : Hid (Js.pair s st = (Js.word s [117, 48, 48] st).bind fun _ st => (Js.digit s st).bind fun a st => (Js.digit s st).bind fun b st => .ok (UInt8.ofNat (16 * a + b)) st) := Lib.hid (by unfold Js.pair; rw [if_pos hx])
 have q : decide ((st.at_ : Int) < (s.length : Int)) = true := by simp; omega
 clear h hx
 go_enter Tryz.func99, Tryz.ntmps99
 go_wp2_with fail
 go_quiet ((go_at_call 86; exact Calls.quiet_of (peek_at 117 HP.out (HR.out.drewN _) hlen hat)))
 go_wp2_with fail
 refine (word_any [117, 48, 48] (by decide) b s st _ (HR.out.drewN _) hlen hat).mono ?_
 intro e w2 ho
 rcases word_inv s [117, 48, 48] st with ⟨st2, hw, ha2⟩ | ⟨k, hw⟩
 ·rw [hw] at ho
  obtain ⟨rfl, hr2, hb2⟩ := ho
  have HR2 := Lib.hid hr2
  have HB2 := Lib.hid (((But.refl [b] w).drewN nq).trans hb2)
  have ha2 := ha2 hat
  have HD2 : Hid (Js.pair s st = (Js.digit s st2).bind fun a st => (Js.digit s st).bind fun b st => .ok (UInt8.ofNat (16 * a + b)) st) := Lib.hid (by rw [HD.out, hw]; rfl)
  clear hr2 hb2 hw HD c0 c1
  go_wp2_with fail
  refine (digit_any b s st2 _ HR2.out hlen ha2).mono ?_
  intro e w3 ho
  rcases digit_inv (s := s) (st := st2) with ⟨a, ha, hd, hl⟩ | hd
  ·rw [hd] at ho
   obtain ⟨rfl, hr3, hb3⟩ := ho
   have HR3 := Lib.hid hr3
   have HB3 := Lib.hid (HB2.out.trans hb3)
   have HD3 : Hid (Js.pair s st = (Js.digit s (Js.step st2)).bind fun b st => .ok (UInt8.ofNat (16 * a + b)) st) := Lib.hid (by rw [HD2.out, hd]; rfl)
   clear hr3 hb3 hd HD2 HR2 HB2
   go_wp2_with fail
   refine (digit_any b s (Js.step st2) _ HR3.out hlen hl).mono ?_
   intro e w4 ho
   rcases digit_inv (s := s) (st := Js.step st2) with ⟨a', ha', hd, hl'⟩ | hd
   ·rw [hd] at ho
    obtain ⟨rfl, hr4, hb4⟩ := ho
    have HR4 := Lib.hid hr4
    have HB4 := Lib.hid (HB3.out.trans hb4)
    have HD4 : Hid (Js.pair s st = .ok (UInt8.ofNat (16 * a + a')) (Js.step (Js.step st2))) := Lib.hid (by rw [HD3.out, hd]; rfl)
    clear hr4 hb4 hd HD3 HR3 HB3
    go_wp2_with fail
    go_ret
    rw [HD4.out]
    exact ⟨ret_int (pair_bits ⟨a, ha⟩ ⟨a', ha'⟩), HR4.out, HB4.out⟩
   ·rw [hd] at ho
    obtain ⟨rfl, hb4⟩ := ho
    have HD4 : Hid (Js.pair s st = .bad (Js.step st2).at_) := Lib.hid (by rw [HD3.out, hd]; rfl)
    have HB4 := Lib.hid (HB3.out.trans hb4)
    clear hb4 hd
    unfold bad
    go_wp2_with fail
    exact out_bad HD4.out rfl HB4.out
  ·rw [hd] at ho
   obtain ⟨rfl, hb3⟩ := ho
   have HD3 : Hid (Js.pair s st = .bad st2.at_) := Lib.hid (by rw [HD2.out, hd]; rfl)
   have HB3 := Lib.hid (HB2.out.trans hb3)
   clear hb3 hd
   unfold bad
   go_wp2_with fail
   exact out_bad HD3.out rfl HB3.out
 ·rw [hw] at ho
  obtain ⟨rfl, hb2⟩ := ho
  have HD2 : Hid (Js.pair s st = .bad k) := Lib.hid (by rw [HD.out, hw]; rfl)
  have HB2 := Lib.hid (((But.refl [b] w).drewN nq).trans hb2)
  clear hb2 hw
  unfold bad
  go_wp2_with fail
  exact out_bad HD2.out rfl HB2.out
set_option maxRecDepth 100000 in
set_option maxHeartbeats 4000000 in
theorem pair_no (b : Nat) (s : Js.Bs) (st : Js.St) (w : World) (h : RdAt w b s st) (hlen : s.length ≤ 1073741824) (hat : st.at_ ≤ s.length) (hx : s[st.at_]? ≠ some 117) :
  Calls Tryz.prog 99 #[.pointer (some ⟨b, 0, none⟩)] w (ROut b s w (fun c : UInt8 => .int .u8 c.toNat) (Js.pair s st)) := by
 have hz := str_size s
 have HR := Lib.hid h
 obtain ⟨c0, c1, -⟩ := h.cells
 have f1 := h.free 1
 have HC := Lib.hid (peek_cases s st hat)
 have HD : Hid (Js.pair s st = match (s[st.at_]?).bind Js.escV with | some c => .ok c (Js.step st) | none => .bad st.at_) := Lib.hid (by unfold Js.pair; rw [if_neg hx]; cases (s[st.at_]?).bind Js.escV <;> rfl)
 obtain ⟨c, hp⟩ : ∃ c, Js.peek s st = c := ⟨_, rfl⟩
 rw [hp] at HC
 have q117 : ((c.toNat : Int) == 117) = false := by
  simp
  intro e
  have : c = 117 := UInt8.toNat_inj.1 (by simpa using (by omega : c.toNat = 117))
  subst this
  rcases HC.out with ⟨_, h2⟩ | ⟨_, _, h2⟩
  ·exact hx h2
  ·exact absurd h2 (by decide)
 have HP := Lib.hid hp
 obtain ⟨⟨i1, i2⟩, g1, g2⟩ := peI_facts c
 have G := Lib.hid (And.intro g1 g2)
 clear h hx hp g1 g2
 go_enter Tryz.func99, Tryz.ntmps99
 go_wp2_with fail
 go_quiet ((go_at_call 86; exact Calls.quiet_of (peek_at c HP.out (HR.out.drewN _) hlen hat)))
 go_wp2_with fail
 refine (peek_at c HP.out (HR.out.drewN _) hlen hat).mono ?_
 rintro e w2 ⟨rfl, n, rfl⟩
 go_wp2_with fail
 refine (indexPe_any c _).mono ?_
 rintro e w2 ⟨rfl, rfl⟩
 by_cases hi : peI c < 0
 ·have HD2 : Hid (Js.pair s st = .bad st.at_) := Lib.hid (by
   rw [HD.out]
   rcases HC.out with ⟨_, hx⟩ | ⟨_, hx, _⟩
   ·rw [hx, Option.bind_some, G.out.2 hi]
   ·rw [hx]; rfl)
  have j1 : decide (peI c < 0) = true := by simpa using hi
  go_wp2_with fail
  go_quiet (fail)
  go_wp2_with fail
  refine (fail_any b s st _ (HR.out.drewN _)).mono ?_
  rintro e w' ⟨rfl, rfl⟩
  unfold bad
  go_wp2_with fail
  exact out_bad HD2.out rfl ((But.refl _ _).drewN _)
 ·have hlt : st.at_ < s.length := by
   rcases HC.out with ⟨hlt, _⟩ | ⟨_, _, rfl⟩
   ·exact hlt
   ·exact absurd (show peI 0 < 0 by decide) hi
  have hx : s[st.at_]? = some c := by
   rcases HC.out with ⟨_, hx⟩ | ⟨e, _, _⟩
   ·exact hx
   ·omega
  have j4 : 0 ≤ peI c := by omega
  have HD2 : Hid (Js.pair s st = .ok (peB (peI c).toNat) (Js.step st)) := Lib.hid (by rw [HD.out, hx, Option.bind_some, G.out.1 j4])
  have q : ((st.at_ : Int) == (s.length : Int)) = false := by simp; omega
  have j1 : decide (peI c < 0) = false := by simpa using hi
  obtain ⟨k, hk, hk8⟩ : ∃ k : Nat, peI c = k ∧ k < 8 := ⟨(peI c).toNat, by omega, by omega⟩
  rw [hk] at HD2 j1 j4 i1 i2 ⊢
  clear hx G hk
  go_wp2_with fail
  go_quiet (fail)
  go_wp2_with fail
  go_ret
  rw [HD2.out]
  exact ⟨ret_int (by rw [peB_get]; rfl), (HR.out.drewN _).step, ((But.refl _ _).drewN _).trans ((HR.out.drewN _).but 1 _)⟩
theorem pair_any (b : Nat) (s : Js.Bs) (st : Js.St) (w : World) (h : RdAt w b s st) (hlen : s.length ≤ 1073741824) (hat : st.at_ ≤ s.length) :
  Calls Tryz.prog 99 #[.pointer (some ⟨b, 0, none⟩)] w (ROut b s w (fun c : UInt8 => .int .u8 c.toNat) (Js.pair s st)) := by
 by_cases hx : s[st.at_]? = some 117
 ·exact pair_u b s st w h hlen (List.getElem?_eq_some_iff.1 hx).1 hx
 ·exact pair_no b s st w h hlen hat hx
end Go.Proofs.YtimioelnnhnbiaaGreatDoor
