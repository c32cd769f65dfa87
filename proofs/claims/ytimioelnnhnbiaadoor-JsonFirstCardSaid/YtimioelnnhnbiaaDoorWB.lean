/-
  THE WALKS, second part: word, blanks, digit, pair of json's reader. CONDITIONS: the reader lies in a block of its own; the text is not too long.
-/
import Derived.Test.YtimioelnnhnbiaaDoorWA
import Derived.Deep.LoopGhost
namespace Go.Proofs.YtimioelnnhnbiaaDoor
open Go.RowKit
theorem take_le {s : Js.Bs} {st st' : Js.St} {c : UInt8} {u : Unit} (h : Js.take s c st = .ok u st') : st'.at_ ≤ s.length := by
  unfold Js.take at h
  split at h
  · rename_i hx
    injection h with _ h
    subst h
    obtain ⟨hk, _⟩ := List.getElem?_eq_some_iff.1 hx
    exact hk
  · cases h
theorem take_inv (s : Js.Bs) (c : UInt8) (st : Js.St) : Js.take s c st = .ok () (Js.step st) ∨ Js.take s c st = .bad st.at_ := by
  unfold Js.take
  split
  · exact .inl rfl
  · exact .inr rfl
theorem word_cons {s : Js.Bs} {c : UInt8} {t : Js.Bs} {st : Js.St} : Js.word s (c :: t) st = (Js.take s c st).bind fun _ st => Js.word s t st := rfl
set_option maxHeartbeats 1000000 in
theorem word_any (l : Js.Bs) (hl : l.length ≤ 100) (b : Nat) (s : Js.Bs) (st : Js.St) (w : World) (h : RdAt w b s st) (hlen : s.length ≤ 1073741824) (hat : st.at_ ≤ s.length) :
    Calls Tryd.prog 47 #[.pointer (some ⟨b, 0, none⟩), .string (str l)] w (ROut b s w (fun _ => .tuple #[]) (Js.word s l st)) := by
  have hz := str_size l
  go_enter Tryd.func47, Tryd.ntmps47
  go_wp2_with fail
  go_loopw [4, 7] (fun _ i wr => ∃ (k : Nat) (st' : Js.St), k ≤ l.length ∧ i = .int .i64 k ∧ st'.at_ ≤ s.length ∧ Hid (RdAt wr b s st') ∧ Hid (But [b] w wr) ∧ Hid (Js.word s l st = Js.word s (l.drop k) st')) (fun _ i _ => l.length - (intOf i).toNat)
  case atStart => exact ⟨0, st, Nat.zero_le _, rfl, hat, Lib.hid h, Lib.hid (But.refl _ _), Lib.hid rfl⟩
  case round =>
    obtain ⟨k, st', hk, rfl, hat', HR, HB, HW⟩ := hrel
    clear h hat
    by_cases hlt : k < l.length
    · have hks : k < (str l).size := by omega
      obtain ⟨c, hc⟩ : ∃ c, l[k]? = some c := ⟨_, List.getElem?_eq_getElem hlt⟩
      have HG := Lib.hid (str_get hc hks)
      have HD : Hid (Js.word s l st = (Js.take s c st').bind fun _ st => Js.word s (l.drop (k + 1)) st) := Lib.hid (by
        rw [HW.out, List.drop_eq_getElem_cons hlt, word_cons]
        obtain ⟨_, e⟩ := List.getElem?_eq_some_iff.1 hc
        rw [show l[k] = c from e])
      clear hc HW
      go_wp2_with fail
      rw [HG.out]
      refine (take_any b s c st' _ HR.out hlen hat').mono ?_
      intro e w2 ho
      rcases take_inv s c st' with ht | ht
      · rw [ht] at ho
        obtain ⟨rfl, hr2, hb2⟩ := ho
        have HR2 := Lib.hid hr2
        have HB2 := Lib.hid (HB.out.trans hb2)
        have hat2 := take_le ht
        have HW2 : Hid (Js.word s l st = Js.word s (l.drop (k + 1)) (Js.step st')) := Lib.hid (by rw [HD.out, ht]; rfl)
        clear hr2 hb2 HR HB HD ht
        go_wp2_with fail
        go_roundw
        case rel => exact ⟨k + 1, _, by omega, by go_num, hat2, HR2, HB2, HW2⟩
        case measure => simp [intOf]; omega
      · rw [ht] at ho
        obtain ⟨rfl, hb2⟩ := ho
        have HB2 := Lib.hid (HB.out.trans hb2)
        have HT : Hid (Js.word s l st = .bad st'.at_) := Lib.hid (by rw [HD.out, ht]; rfl)
        clear hb2 HB HD ht
        unfold bad
        go_wp2_with fail
        exact out_bad HT.out rfl HB2.out
    · have HT : Hid (Js.word s l st = .ok () st') := Lib.hid (by rw [HW.out, List.drop_eq_nil_of_le (by omega)]; rfl)
      clear HW
      go_wp2_with fail
      go_end0
      rw [HT.out]
      exact ⟨rfl, HR.out, HB.out⟩
def blI (c : UInt8) : Int := Lib.indexByte [32, 9, 10, 13] c
theorem blI_rg (c : UInt8) : -1 ≤ blI c ∧ blI c ≤ 3 ∧ (Js.isBl c = decide (0 ≤ blI c)) := by
  have h : ∀ n : Fin 256, -1 ≤ blI (UInt8.ofNat n.val) ∧ blI (UInt8.ofNat n.val) ≤ 3 ∧ (Js.isBl (UInt8.ofNat n.val) = decide (0 ≤ blI (UInt8.ofNat n.val))) := by decide +kernel
  have := h ⟨c.toNat, c.toNat_lt⟩
  simpa using this
theorem indexBl_any (c : UInt8) (w : World) :
    Calls Tryd.prog 44 #[.string ⟨#[32, 9, 10, 13]⟩, .int .u8 c.toNat] w fun e w' => e = .returned (.int .i64 (blI c)) ∧ w' = w := by
  refine (Tryd.strings_IndexByte _ _ _).mono ?_
  rintro e w' ⟨rfl, rfl⟩
  refine ⟨ret_int ?_, rfl⟩
  unfold blI
  congr 1
  simp
theorem blanks_stop {s : Js.Bs} {st : Js.St} (h : ∀ c, s[st.at_]? = some c → Js.isBl c = false) : Js.blanks s st = st := by
  unfold Js.blanks
  have e : (s.drop st.at_).takeWhile Js.isBl = [] := by
    by_cases hlt : st.at_ < s.length
    · rw [List.drop_eq_getElem_cons hlt, List.takeWhile_cons, h _ (List.getElem?_eq_getElem hlt)]; rfl
    · rw [List.drop_eq_nil_of_le (by omega)]; rfl
  rw [e]; rfl
theorem blanks_step {s : Js.Bs} {st : Js.St} {c : UInt8} (h : s[st.at_]? = some c) (hc : Js.isBl c = true) : Js.blanks s st = Js.blanks s (Js.step st) := by
  unfold Js.blanks Js.step
  obtain ⟨hk, e⟩ := List.getElem?_eq_some_iff.1 h
  rw [List.drop_eq_getElem_cons hk, e, List.takeWhile_cons, hc]
  simp only [if_true, List.length_cons]
  congr 1
  omega
theorem blanks_le {s : Js.Bs} {st : Js.St} (h : st.at_ ≤ s.length) : (Js.blanks s st).at_ ≤ s.length := by
  unfold Js.blanks
  have := (List.takeWhile_prefix (p := Js.isBl) (l := s.drop st.at_)).length_le
  rw [List.length_drop] at this
  show st.at_ + _ ≤ _
  omega
set_option maxHeartbeats 2000000 in
theorem blanks_any (b : Nat) (s : Js.Bs) (st : Js.St) (w : World) (h : RdAt w b s st) (hlen : s.length ≤ 1073741824) (hat : st.at_ ≤ s.length) :
    Calls Tryd.prog 39 #[.pointer (some ⟨b, 0, none⟩)] w fun e w' => e = .returned (.tuple #[]) ∧ RdAt w' b s (Js.blanks s st) ∧ But [b] w w' := by
  have hz := str_size s
  go_enter Tryd.func39, Tryd.ntmps39
  go_wp2_with fail
  go_loopg [2] (s.length - st.at_) (fun k _ wr => ∃ st' : Js.St, st'.at_ ≤ s.length ∧ k = s.length - st'.at_ ∧ Hid (RdAt wr b s st') ∧ Hid (But [b] w wr) ∧ Hid (Js.blanks s st = Js.blanks s st'))
  case atStart => exact ⟨st, hat, rfl, Lib.hid h, Lib.hid (But.refl _ _), Lib.hid rfl⟩
  case round =>
    obtain ⟨st', hat', hgk, HR, HB, HW⟩ := hrel
    have HK := Lib.hid hgk
    clear h hat hgk
    obtain ⟨c0, c1, -⟩ := HR.out.cells
    have f1 := HR.out.free 1
    by_cases hlt : st'.at_ < s.length
    · have hk : st'.at_ < (str s).size := by omega
      obtain ⟨x, hx⟩ : ∃ x, s[st'.at_]? = some x := ⟨_, List.getElem?_eq_getElem hlt⟩
      have HG := str_get hx hk
      have HX := Lib.hid hx
      obtain ⟨r1, r2, r3⟩ := blI_rg x
      have HL := Lib.hid r3
      clear hx r3
      by_cases hb : 0 ≤ blI x
      · have HS : Hid (Js.blanks s st = Js.blanks s (Js.step st')) := Lib.hid (by rw [HW.out, blanks_step HX.out (by rw [HL.out, decide_eq_true hb])])
        go_wp2_with fail
        go_quiet ((go_at_call 44; exact Calls.quiet_of_same (indexBl_any x _)))
        go_wp2_with fail
        have HR2 := Lib.hid ((HR.out.drewN nq).step)
        have HB2 := Lib.hid (HB.out.trans (((But.refl _ _).drewN nq).trans ((HR.out.drewN nq).but 1 (.int .i64 ((st'.at_ : Int) + 1)))))
        go_roundg (s.length - (Js.step st').at_)
        case measure => rw [HK.out]; show _ - (st'.at_ + 1) < _; omega
        case rel => exact ⟨Js.step st', hlt, rfl, HR2, HB2, HS⟩
      · have HE : Hid (Js.blanks s st = st') := Lib.hid (by
          rw [HW.out, blanks_stop]
          intro c hc
          rw [HX.out] at hc
          obtain rfl := Option.some.inj hc
          rw [HL.out, decide_eq_false hb])
        go_wp2_with fail
        go_quiet ((go_at_call 44; exact Calls.quiet_of_same (indexBl_any x _)))
        go_wp2_with fail
        go_end0
        rw [HE.out]
        exact ⟨rfl, HR.out.drewN _, HB.out.drewN _⟩
    · have HE : Hid (Js.blanks s st = st') := Lib.hid (by
        rw [HW.out, blanks_stop]
        intro c hc
        rw [List.getElem?_eq_none (by omega)] at hc
        cases hc)
      go_wp2_with fail
      go_quiet (fail)
      go_wp2_with fail
      go_end0
      rw [HE.out]
      exact ⟨rfl, HR.out.drewN _, HB.out.drewN _⟩
end Go.Proofs.YtimioelnnhnbiaaDoor
