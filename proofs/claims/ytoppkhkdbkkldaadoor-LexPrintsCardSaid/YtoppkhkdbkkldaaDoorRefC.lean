/-
  PROVED: what the reference's Closing, quoted and sign compute. CONDITION: the text's length is at most 2^32.
-/
import Derived.Test.YtoppkhkdbkkldaaDoorRefB
import Derived.Lib.SlBytesConst
import Derived.Lib.SmallJoins
namespace Go.Proofs.YtoppkhkdbkkldaaDoor
open Go.RowKit
def refClosing (k : Int) (l : List UInt8) : Bool := k == 1 || k == 2 || k == 3 || (k == 4 && (l == [41] || l == [93] || l == [125]))
set_option maxHeartbeats 1000000 in
theorem refClosing_any (k a : Int) (t : ByteArray) (w : World) :
    Calls Tryd.prog 30 #[.agg #[.int .i64 k, .string t, .int .i64 a]] w fun e w' => e = .returned (.bool (refClosing k t.data.toList)) ∧ Below w.heap.size w w' := by
  by_cases e4 : k = 4
  · subst e4
    go_enter Tryd.func30, Tryd.ntmps30
    go_wp2_with fail
    all_goals go_ret
    all_goals exact ⟨ret_boolI (by simp_all [refClosing, Lib.toList_data]), below_box _ _⟩
  · go_enter Tryd.func30, Tryd.ntmps30
    go_wp2_with fail
    all_goals go_ret
    all_goals exact ⟨ret_boolI (by simp [refClosing] at *; omega), below_box _ _⟩

/-- What 'quoted' tells: as textLen, where the text begins with a quote. -/
def quotedLen (L : List UInt8) : Nat :=
  match L with
  | [] => 0
  | c :: _ => if c.toNat = 34 then Lx.textLen L else 0
set_option maxHeartbeats 4000000 in
theorem refQuoted_any (s : ByteArray) (hs : s.size ≤ 4294967296) (w : World) :
    Calls Tryd.prog 49 #[.string s] w fun e w' => e = .returned (.int .i64 (quotedLen s.data.toList)) ∧ w = w' := by
  by_cases h0 : 0 < s.size
  · have hL := head_cons h0
    have hne : (s.toList == []) = false := by
      rw [Lib.toList_data, hL]; rfl
    by_cases hq : (s[0].toNat : Int) = 34
    · have HQ := Lib.hid (show quotedLen s.data.toList = Lx.textLen s.data.toList by rw [hL]; unfold quotedLen; simp only []; rw [if_pos (by omega)])
      clear hL
      go_enter Tryd.func49, Tryd.ntmps49
      go_wp2_with fail
      go_loop [3] (fun n => ∃ k : Nat, 1 ≤ k ∧ k ≤ s.size + 1 ∧ n = .int .i64 k ∧ TextInv s k) (fun n => s.size + 1 - (intOf n).toNat)
      case atStart => exact ⟨1, by omega, by omega, rfl, textInv_start s⟩
      case round =>
        obtain ⟨k, hk1, hk, rfl, H⟩ := hrel
        by_cases hlt : k < s.size
        · by_cases e0 : (s[k].toNat : Int) = 34
          · go_wp2_with fail
            go_ret
            exact ⟨ret_int (by rw [HQ.out, text_quote H hlt e0]; omega), rfl⟩
          by_cases e1 : (s[k].toNat : Int) = 92
          · by_cases e2 : k + 1 < s.size
            · by_cases e3 : (s[k + 1].toNat : Int) = 34 ∨ (s[k + 1].toNat : Int) = 92 ∨ (s[k + 1].toNat : Int) = 110
              · have HP := text_pair H e2 e1 e3
                rcases e3 with e3 | e3 | e3
                all_goals
                  go_wp2_with fail
                  go_round
                  case rel => exact ⟨k + 1 + 1, by omega, by omega, by go_num, HP⟩
                  case measure => simp [intOf]; omega
              · have b1 : ((s[k + 1].toNat : Int) != 34) = true := by rw [bne_iff_ne]; omega
                have b2 : ((s[k + 1].toNat : Int) != 92) = true := by rw [bne_iff_ne]; omega
                have b3 : ((s[k + 1].toNat : Int) != 110) = true := by rw [bne_iff_ne]; omega
                have b4 : ((k : Int) + 1 == (s.size : Int)) = false := by rw [beq_eq_false_iff_ne]; omega
                have E := Lib.hid (text_badpair H e2 e1 e3)
                clear e3
                go_wp2_with fail
                go_ret
                exact ⟨ret_int (by rw [HQ.out, E.out]; rfl), rfl⟩
            · have E := Lib.hid (text_lastpair H hlt e1 (by omega))
              have b1 : ((k : Int) + 1 == (s.size : Int)) = true := by rw [beq_iff_eq]; omega
              go_wp2_with fail
              go_ret
              exact ⟨ret_int (by rw [HQ.out, E.out]; rfl), rfl⟩
          · by_cases e2 : (s[k].toNat : Int) < 32
            · have E := Lib.hid (text_bad H hlt (Or.inl e2))
              go_wp2_with fail
              go_ret
              exact ⟨ret_int (by rw [HQ.out, E.out]; rfl), rfl⟩
            by_cases e3 : 126 < (s[k].toNat : Int)
            · have E := Lib.hid (text_bad H hlt (Or.inr e3))
              go_wp2_with fail
              go_ret
              exact ⟨ret_int (by rw [HQ.out, E.out]; rfl), rfl⟩
            have HP := text_plain H hlt e0 e1 (by omega) (by omega)
            go_wp2_with fail
            go_round
            case rel => exact ⟨k + 1, by omega, by omega, by go_num, HP⟩
            case measure => simp [intOf]; omega
        · have E := Lib.hid (text_end H hlt)
          go_wp2_with fail
          go_ret
          exact ⟨ret_int (by rw [HQ.out, E.out]; rfl), rfl⟩
    · have HQ := Lib.hid (show quotedLen s.data.toList = 0 by rw [hL]; unfold quotedLen; simp only []; rw [if_neg (by omega)])
      have hb : ((s[0].toNat : Int) != 34) = true := by rw [bne_iff_ne]; exact hq
      clear hL hq
      go_enter Tryd.func49, Tryd.ntmps49
      go_wp2_with fail
      go_ret
      exact ⟨ret_int (by rw [HQ.out]; rfl), rfl⟩
  · have hL : s.data.toList = [] := List.length_eq_zero_iff.1 (by rw [← Lib.size_eq]; omega)
    have hne : (s.toList == []) = true := by rw [Lib.toList_data, hL]; rfl
    have HW := Lib.hid (show quotedLen s.data.toList = 0 by rw [hL]; rfl)
    clear hL
    go_enter Tryd.func49, Tryd.ntmps49
    go_wp2_with fail
    go_ret
    exact ⟨ret_int (by rw [HW.out]; rfl), rfl⟩
/-! ### sign -/
def oneLen : List UInt8 → List UInt8 → Nat
  | [], _ => 0
  | d :: r, L => if L.head? = some d then 1 else oneLen r L
def oneFrom (k : Nat) (L : List UInt8) : Nat := oneLen (Lx.oneSigns.drop k) L
theorem oneLen_contains (r L : List UInt8) (c : UInt8) (l : List UInt8) (h : L = c :: l) : oneLen r L = if r.contains c then 1 else 0 := by
  subst h
  induction r with
  | nil => rfl
  | cons d r ih =>
    rw [oneLen, ih, List.head?_cons, List.contains_cons]
    by_cases h : c = d
    · simp [h]
    · have : (c == d) = false := beq_eq_false_iff_ne.2 h
      rw [if_neg (by simpa using h), this, Bool.false_or]
theorem signLen_one {L : List UInt8} (h : Lx.twoSigns.contains (L.take 2) = false) : Lx.signLen L = oneFrom 0 L := by
  unfold Lx.signLen
  rw [if_neg (by rw [h]; exact Bool.false_ne_true)]
  cases L with
  | nil => rfl
  | cons c l =>
    simp only [oneFrom, List.drop_zero]
    rw [oneLen_contains Lx.oneSigns _ c l rfl]
theorem oneFrom_hit {s : ByteArray} {k : Nat} {d : UInt8} (h0 : 0 < s.size) (hk : Lx.oneSigns[k]? = some d) (h : (s[0].toNat : Int) = d.toNat) : oneFrom k s.data.toList = 1 := by
  obtain ⟨hlt, rfl⟩ := List.getElem?_eq_some_iff.1 hk
  rw [oneFrom, List.drop_eq_getElem_cons hlt, oneLen, if_pos]
  have e : s.data.toList.head? = some s[0] := by rw [head_cons h0]; rfl
  rw [e]
  congr 1
  exact UInt8.toNat_inj.1 (by omega)
theorem oneFrom_miss {s : ByteArray} {k : Nat} {d : UInt8} (h0 : 0 < s.size) (hk : Lx.oneSigns[k]? = some d) (h : ¬ (s[0].toNat : Int) = d.toNat) : oneFrom k s.data.toList = oneFrom (k + 1) s.data.toList := by
  obtain ⟨hlt, rfl⟩ := List.getElem?_eq_some_iff.1 hk
  rw [oneFrom, List.drop_eq_getElem_cons hlt, oneLen, if_neg]
  · rfl
  have e : s.data.toList.head? = some s[0] := by rw [head_cons h0]; rfl
  rw [e]
  intro e'
  exact h (by rw [Option.some.inj e'])
theorem oneFrom_end (L : List UInt8) : oneFrom 18 L = 0 := rfl
def oneCells : Array Value := #[.int .u8 40, .int .u8 41, .int .u8 123, .int .u8 125, .int .u8 91, .int .u8 93, .int .u8 44, .int .u8 46, .int .u8 58, .int .u8 61, .int .u8 43, .int .u8 45, .int .u8 42, .int .u8 47, .int .u8 37, .int .u8 60, .int .u8 62, .int .u8 33]
theorem oneCells_get {k : Nat} {d : UInt8} (hk : Lx.oneSigns[k]? = some d) : oneCells[k]? = some (.int .u8 d.toNat) := by
  have e : oneCells = (Lx.oneSigns.map (fun c => Value.int .u8 (c.toNat : Int))).toArray := by rfl
  rw [e, List.getElem?_toArray, List.getElem?_map, hk]; rfl

abbrev sixSigns : Value := .agg #[.string ⟨#[58, 61]⟩, .string ⟨#[61, 61]⟩, .string ⟨#[33, 61]⟩, .string ⟨#[60, 61]⟩, .string ⟨#[62, 61]⟩, .string ⟨#[38, 38]⟩]
def twoFrom (k : Nat) (L : List UInt8) : Nat := if (Lx.twoSigns.drop k).contains (L.take 2) then 2 else oneFrom 0 L
theorem twoFrom_all (L : List UInt8) : Lx.signLen L = twoFrom 0 L := by
  unfold twoFrom
  rw [List.drop_zero]
  by_cases h : Lx.twoSigns.contains (L.take 2) = true
  · rw [if_pos h]; unfold Lx.signLen; rw [if_pos h]
  · rw [if_neg h]; exact signLen_one (by simpa using h)
theorem twoFrom_hit {k : Nat} {a b : UInt8} {s : ByteArray} (hk : Lx.twoSigns[k]? = some [a, b]) (h : ((s.extract 0 2).toList == [a, b]) = true) : twoFrom k s.data.toList = 2 := by
  obtain ⟨hlt, e⟩ := List.getElem?_eq_some_iff.1 hk
  have e1 : s.data.toList.take 2 = [a, b] := by
    have : (s.extract 0 2).toList = s.data.toList.take 2 := by rw [Lib.extract_toList]; simp
    rw [← this]; simpa using h
  unfold twoFrom
  rw [List.drop_eq_getElem_cons hlt, e, e1, if_pos (by simp)]
theorem twoFrom_miss {k : Nat} {a b : UInt8} {s : ByteArray} (hk : Lx.twoSigns[k]? = some [a, b]) (h : ((s.extract 0 2).toList == [a, b]) = false) : twoFrom k s.data.toList = twoFrom (k + 1) s.data.toList := by
  obtain ⟨hlt, e⟩ := List.getElem?_eq_some_iff.1 hk
  have e1 : ((s.data.toList.take 2) == [a, b]) = false := by
    have : (s.extract 0 2).toList = s.data.toList.take 2 := by rw [Lib.extract_toList]; simp
    rw [← this]; exact h
  unfold twoFrom
  rw [List.drop_eq_getElem_cons hlt, e, List.contains_cons, e1, Bool.false_or]
theorem two_short {s : ByteArray} (h : s.size ≤ 1) (a b : UInt8) : ((s.extract 0 2).toList == [a, b]) = false := by
  rw [beq_eq_false_iff_ne]
  intro e
  have := congrArg List.length e
  rw [Lib.extract_toList] at this
  have e2 := Lib.size_eq s
  simp at this
  omega
theorem twoFrom_end (L : List UInt8) : twoFrom 7 L = oneFrom 0 L := rfl

set_option maxHeartbeats 4000000 in
set_option maxRecDepth 100000 in
theorem refSign_any (s : ByteArray) (w : World) :
    Calls Tryd.prog 53 #[.string s] w fun e w' => e = .returned (.int .i64 (Lx.signLen s.data.toList)) ∧ Below w.heap.size w w' := by
  have i0 : ∀ w, (Instr.index 80 sixSigns (.int .i64 0)).run Tryd.prog w = .ok (.string ⟨#[58, 61]⟩) w := fun _ => by kernel_rfl
  have i1 : ∀ w, (Instr.index 80 sixSigns (.int .i64 1)).run Tryd.prog w = .ok (.string ⟨#[61, 61]⟩) w := fun _ => by kernel_rfl
  have i2 : ∀ w, (Instr.index 80 sixSigns (.int .i64 2)).run Tryd.prog w = .ok (.string ⟨#[33, 61]⟩) w := fun _ => by kernel_rfl
  have i3 : ∀ w, (Instr.index 80 sixSigns (.int .i64 3)).run Tryd.prog w = .ok (.string ⟨#[60, 61]⟩) w := fun _ => by kernel_rfl
  have i4 : ∀ w, (Instr.index 80 sixSigns (.int .i64 4)).run Tryd.prog w = .ok (.string ⟨#[62, 61]⟩) w := fun _ => by kernel_rfl
  have i5 : ∀ w, (Instr.index 80 sixSigns (.int .i64 5)).run Tryd.prog w = .ok (.string ⟨#[38, 38]⟩) w := fun _ => by kernel_rfl
  have HA := Lib.hid (twoFrom_all s.data.toList)
  have kc := fun (w : World) (C : Array Value) (n c : Nat) => Lib.run_convert_bytes_const (P := Tryd.prog) w 61 5 C n c Tryd.underlying61 Tryd.underlying5
  go_enter Tryd.func53, Tryd.ntmps53
  go_wp2_with fail
  go_loop [8] (fun i => ∃ k : Nat, k ≤ 6 ∧ i = .int .i64 k ∧ Hid (Lx.signLen s.data.toList = twoFrom k s.data.toList)) (fun i => 6 - (intOf i).toNat)
  case atStart => exact ⟨0, by omega, rfl, HA⟩
  case round =>
    obtain ⟨k, hk, rfl, H⟩ := hrel
    by_cases hlt : k < 6
    · obtain ⟨a, b, hab⟩ : ∃ a b, Lx.twoSigns[k]? = some [a, b] := by
        obtain rfl | rfl | rfl | rfl | rfl | rfl : k = 0 ∨ k = 1 ∨ k = 2 ∨ k = 3 ∨ k = 4 ∨ k = 5 := by omega
        all_goals exact ⟨_, _, rfl⟩
      have hi : ∀ w, (Instr.index 80 sixSigns (.int .i64 k)).run Tryd.prog w = .ok (.string ⟨#[a, b]⟩) w := by
        obtain rfl | rfl | rfl | rfl | rfl | rfl : k = 0 ∨ k = 1 ∨ k = 2 ∨ k = 3 ∨ k = 4 ∨ k = 5 := by omega
        all_goals
          have := Option.some.inj hab
          simp at this
          obtain ⟨rfl, rfl⟩ := this
          first | exact i0 | exact i1 | exact i2 | exact i3 | exact i4 | exact i5
      clear i0 i1 i2 i3 i4 i5 kc
      by_cases h1 : (1 : Int) < s.size
      · cases hm : ((s.extract 0 2).toList == [a, b]) with
        | true =>
          have HR := Lib.hid (H.out.trans (twoFrom_hit hab hm))
          clear hab
          go_wp2_with fail
          go_ret
          exact ⟨ret_int (by rw [HR.out]; rfl), Below.refl _ _⟩
        | false =>
          have HR := Lib.hid (H.out.trans (twoFrom_miss hab hm))
          clear hab
          go_wp2_with fail
          go_round
          case rel => exact ⟨k + 1, by omega, by go_num, HR⟩
          case measure => simp [intOf]; omega
      · have HR := Lib.hid (H.out.trans (twoFrom_miss hab (two_short (by omega) a b)))
        clear hab
        go_wp2_with fail
        go_round
        case rel => exact ⟨k + 1, by omega, by go_num, HR⟩
        case measure => simp [intOf]; omega
    · obtain rfl : k = 6 := by omega
      clear i0 i1 i2 i3 i4 i5
      have hcase : ((1 : Int) < s.size ∧ ((s.extract 0 2).toList == [124, 124]) = true) ∨ ((1 : Int) < s.size ∧ ((s.extract 0 2).toList == [124, 124]) = false) ∨ ¬ ((1 : Int) < s.size) := by
        by_cases h1 : (1 : Int) < s.size
        · cases hm : ((s.extract 0 2).toList == [124, 124])
          · exact .inr (.inl ⟨h1, rfl⟩)
          · exact .inl ⟨h1, rfl⟩
        · exact .inr (.inr h1)
      have HR : Hid (¬ (1 : Int) < s.size ∨ ((s.extract 0 2).toList == [124, 124]) = false → Lx.signLen s.data.toList = oneFrom 0 s.data.toList) := Lib.hid (fun h => H.out.trans ((twoFrom_miss rfl (by
        rcases h with h | h
        · exact two_short (by omega) _ _
        · exact h)).trans (twoFrom_end _)))
      rcases hcase with ⟨h1, hm⟩ | ⟨h1, hm⟩ | h1
      · have HT := Lib.hid (H.out.trans (twoFrom_hit rfl hm))
        go_wp2_with fail
        go_ret
        exact ⟨ret_int (by rw [HT.out]; rfl), Below.refl _ _⟩
      · replace HR := Lib.hid (HR.out (.inr hm))
        have h0 : 0 < s.size := by omega
        have hne : (s.toList == []) = false := by
          rw [Lib.toList_data, head_cons h0]; rfl
        have hcs : ∀ j, (w.alloc (.cells oneCells 5 (18, 19))).cell? ⟨w.heap.size, j, none⟩ = oneCells[j]? := fun j => World.cell?_alloc_mark w oneCells 5 (18, 19) j
        go_wp2_with fail
        go_loop [34] (fun i => ∃ k : Nat, k ≤ 18 ∧ i = .int .i64 k ∧ Hid (Lx.signLen s.data.toList = oneFrom k s.data.toList)) (fun i => 18 - (intOf i).toNat)
        case atStart => exact ⟨0, by omega, rfl, HR⟩
        case round =>
          obtain ⟨k, hk, rfl, H⟩ := hrel
          by_cases hlt : k < 18
          · obtain ⟨d, hd⟩ : ∃ d, Lx.oneSigns[k]? = some d := ⟨_, List.getElem?_eq_getElem (show k < Lx.oneSigns.length from hlt)⟩
            have hc := (hcs k).trans (oneCells_get hd)
            unfold oneCells at hc
            by_cases hq : (s[0].toNat : Int) = d.toNat
            · have HT := Lib.hid (H.out.trans (oneFrom_hit h0 hd hq))
              clear hd hcs
              go_wp2_with fail
              go_ret
              exact ⟨ret_int (by rw [HT.out]; rfl), below_box _ _⟩
            · have HT := Lib.hid (H.out.trans (oneFrom_miss h0 hd hq))
              clear hd hcs
              go_wp2_with fail
              go_round
              case rel => exact ⟨k + 1, by omega, by go_num, HT⟩
              case measure => simp [intOf]; omega
          · obtain rfl : k = 18 := by omega
            have HT := Lib.hid (H.out.trans (oneFrom_end _))
            clear hcs
            go_wp2_with fail
            go_ret
            exact ⟨ret_int (by rw [HT.out]; rfl), below_box _ _⟩
      · replace HR := Lib.hid (HR.out (.inl h1))
        by_cases h0 : 0 < s.size
        · have hne : (s.toList == []) = false := by
            rw [Lib.toList_data, head_cons h0]; rfl
          have hcs : ∀ j, (w.alloc (.cells oneCells 5 (18, 19))).cell? ⟨w.heap.size, j, none⟩ = oneCells[j]? := fun j => World.cell?_alloc_mark w oneCells 5 (18, 19) j
          go_wp2_with fail
          go_loop [34] (fun i => ∃ k : Nat, k ≤ 18 ∧ i = .int .i64 k ∧ Hid (Lx.signLen s.data.toList = oneFrom k s.data.toList)) (fun i => 18 - (intOf i).toNat)
          case atStart => exact ⟨0, by omega, rfl, HR⟩
          case round =>
            obtain ⟨k, hk, rfl, H⟩ := hrel
            by_cases hlt : k < 18
            · obtain ⟨d, hd⟩ : ∃ d, Lx.oneSigns[k]? = some d := ⟨_, List.getElem?_eq_getElem (show k < Lx.oneSigns.length from hlt)⟩
              have hc := (hcs k).trans (oneCells_get hd)
              unfold oneCells at hc
              by_cases hq : (s[0].toNat : Int) = d.toNat
              · have HT := Lib.hid (H.out.trans (oneFrom_hit h0 hd hq))
                clear hd hcs
                go_wp2_with fail
                go_ret
                exact ⟨ret_int (by rw [HT.out]; rfl), below_box _ _⟩
              · have HT := Lib.hid (H.out.trans (oneFrom_miss h0 hd hq))
                clear hd hcs
                go_wp2_with fail
                go_round
                case rel => exact ⟨k + 1, by omega, by go_num, HT⟩
                case measure => simp [intOf]; omega
            · obtain rfl : k = 18 := by omega
              have HT := Lib.hid (H.out.trans (oneFrom_end _))
              clear hcs
              go_wp2_with fail
              go_ret
              exact ⟨ret_int (by rw [HT.out]; rfl), below_box _ _⟩
        · have hL : s.data.toList = [] := List.length_eq_zero_iff.1 (by rw [← Lib.size_eq]; omega)
          have hne : (s.toList == []) = true := by rw [Lib.toList_data, hL]; rfl
          have HT := Lib.hid (HR.out.trans (by rw [hL]; rfl : oneFrom 0 s.data.toList = 0))
          clear hL
          go_wp2_with fail
          go_ret
          exact ⟨ret_int (by rw [HT.out]; rfl), Below.refl _ _⟩
end Go.Proofs.YtoppkhkdbkkldaaDoor
