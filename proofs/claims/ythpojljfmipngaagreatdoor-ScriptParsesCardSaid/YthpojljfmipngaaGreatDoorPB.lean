/-
  THE WALKS of the document's Parse: parts. CONDITION: the text's length.
-/
import Derived.Test.YthpojljfmipngaaGreatDoorWalkM
import Derived.Test.YthpojljfmipngaaGreatDoorPure
namespace Go.Proofs.YthpojljfmipngaaGreatDoor
open Go.RowKit
namespace Rf
open Sc (Bs)
def partsGo : Bs → Bool → List Bs → Bs → List Bs
  | [], _, done, cur => done ++ [cur]
  | [c], q, done, cur => if c = 32 ∧ q = false then done ++ [cur] ++ [[]] else done ++ [cur ++ [c]]
  | c :: d :: t, q, done, cur =>
    if c = 32 ∧ q = false then partsGo (d :: t) q (done ++ [cur]) []
    else if q = true ∧ c = 92 then partsGo t q done (cur ++ [c, d])
    else partsGo (d :: t) (if c = 34 then !q else q) done (cur ++ [c])
def partsOf (s : Bs) : List Bs := partsGo s false [] []
theorem go_blank {c : UInt8} {t : Bs} {done : List Bs} {cur : Bs} (h : c = 32) : partsGo (c :: t) false done cur = partsGo t false (done ++ [cur]) [] := by
  cases t with
  | nil => unfold partsGo; rw [if_pos ⟨h, rfl⟩]
  | cons d t => rw [partsGo, if_pos ⟨h, rfl⟩]
theorem go_esc {d : UInt8} {t : Bs} {done : List Bs} {cur : Bs} : partsGo (92 :: d :: t) true done cur = partsGo t true done (cur ++ [92, d]) := by
  rw [partsGo, if_neg (by decide), if_pos ⟨rfl, rfl⟩]
theorem go_one {c : UInt8} {t : Bs} {q : Bool} {done : List Bs} {cur : Bs} (h1 : ¬ (c = 32 ∧ q = false)) (h2 : ¬ (q = true ∧ c = 92 ∧ t ≠ [])) : partsGo (c :: t) q done cur = partsGo t (if c = 34 then !q else q) done (cur ++ [c]) := by
  cases t with
  | nil => unfold partsGo; rw [if_neg h1]
  | cons d t => rw [partsGo, if_neg h1, if_neg (fun h => h2 ⟨h.1, h.2, by simp⟩)]
end Rf
def strV (s : Sc.Bs) : Value := .string ⟨s.toArray⟩
theorem info9 : (Tryz.prog.info? 9).map (fun i => (i.zero, i.size, i.bytes)) = some (some (.string ⟨#[]⟩), 1, 16) := by kernel_rfl
/-- The last value of a row of the call's own is turned. -/
theorem own_last {e : TypeId} {B g cap : Nat} {n : Nat} {xs : List Value} {u : Value} {w : World} (h : Own e 1 B (.slice (some ⟨g, 0, none⟩) n cap) n (xs ++ [u]) w) (v : Value) :
    w.cell? ⟨g, xs.length, none⟩ = some u ∧ w.frozen? ⟨g, xs.length, none⟩ = false ∧ g < w.heap.size ∧ B ≤ g ∧ Own e 1 B (.slice (some ⟨g, 0, none⟩) n cap) n (xs ++ [v]) (w.setCell ⟨g, xs.length, none⟩ v) := by
  obtain ⟨hl, hr⟩ := h.own
  have hn : xs.length + 1 = n := by simpa using hl
  rcases hr with ⟨h1, _⟩ | ⟨g', cap', cur, h1, hb, hg, hnc, hcm, hcs, ht⟩
  · cases h1
  · injection h1 with h1 h2 h3
    injection h1 with h1
    injection h1 with h1
    subst h1
    subst h3
    rw [Nat.mul_one] at hcs ht
    have hlt : xs.length < cur.size := by omega
    have hcell : cur[xs.length]? = some u := by
      have : (cur.toList.take n)[xs.length]? = some u := by rw [ht]; simp
      rw [List.getElem?_take] at this
      split at this
      · simpa using this
      · cases this
    refine ⟨(blk_cells hg _).trans hcell, blk_free hg _, (Array.getElem?_eq_some_iff.1 hg).1, hb, ⟨⟨by simpa using hl, .inr ⟨g, cap, cur.setIfInBounds xs.length v, rfl, hb, (but_set (i := xs.length) v hg).2, hnc, hcm, by simpa using hcs, ?_⟩⟩, by simpa using h.le⟩⟩
    rw [Nat.mul_one, Array.toList_setIfInBounds]
    apply List.ext_getElem?
    intro j
    rw [List.getElem?_take]
    by_cases hj : j < n
    · rw [if_pos hj]
      by_cases hjx : j = xs.length
      · subst hjx
        rw [List.getElem?_set_self (by simpa using hlt)]
        simp
      · rw [List.getElem?_set_ne (Ne.symm hjx), List.getElem?_append_left (by omega)]
        have : (cur.toList.take n)[j]? = (xs ++ [u])[j]? := by rw [ht]
        rw [List.getElem?_take, if_pos hj, List.getElem?_append_left (by omega)] at this
        exact this
    · rw [if_neg hj, List.getElem?_eq_none (by simp; omega)]
theorem own_head {e : TypeId} {B : Nat} {v : Value} {n : Nat} {xs : List Value} {w : World} (h : Own e 1 B v (n + 1) xs w) : ∃ g cap, v = .slice (some ⟨g, 0, none⟩) (n + 1) cap := by
  rcases h.own.2 with ⟨_, h1⟩ | ⟨g, cap, cur, rfl, _⟩
  · cases h1
  · exact ⟨g, cap, rfl⟩
theorem add_bs (x : Sc.Bs) (s : ByteArray) (a b : Nat) (y : Sc.Bs) (hy : (s.data.toList.drop a).take (b - a) = y) (h : x.length + y.length ≤ 9223372036854775807) (w : World) :
    (Op.stringOp .add ⟨x.toArray⟩ (s.extract a b)).run Tryz.prog w = .ok (.string ⟨(x ++ y).toArray⟩) w := by
  have he : s.extract a b = ⟨y.toArray⟩ := by rw [Lib.extract_eq, hy]
  rw [he, run_string_add_sum w _ _ (by rw [Lib.size_eq, Lib.size_eq]; exact h)]
  have : (⟨x.toArray⟩ ++ ⟨y.toArray⟩ : ByteArray) = ⟨(x ++ y).toArray⟩ := by
    apply ByteArray.ext
    simp
  rw [this]
set_option maxRecDepth 100000 in
set_option maxHeartbeats 8000000 in
theorem refParts_any (s : ByteArray) (w : World) (hs : s.size ≤ 1073741824) :
    Calls Tryz.prog 34 #[.string s] w fun e w' => ∃ v, e = .returned v ∧ Own 9 1 w.heap.size v (Rf.partsOf s.data.toList).length ((Rf.partsOf s.data.toList).map strV) w' ∧ Below w.heap.size w w' := by
  have hsz : s.data.toList.length = s.size := (Lib.size_eq s).symm
  have hbb := below_box w (.cells #[strV []] 9)
  have hO0 : Own 9 1 w.heap.size (.slice (some ⟨w.heap.size, 0, none⟩) 1 1) 1 [strV []] (w.alloc (.cells #[strV []] 9)) := ⟨World.ownsRow_lit w #[strV []] 1 (Nat.le_refl _) (by unfold maxLen; omega) rfl, by simp⟩
  have HO0 := Lib.hid hO0
  have HBB := Lib.hid hbb
  have HSZ := Lib.hid hsz
  clear hO0 hbb hsz
  go_enter Tryz.func34, Tryz.ntmps34
  go_wp2_with fail
  go_loopw [3, 4, 5, 6, 7] (fun out qv i _ _ wr => ∃ (k : Nat) (done : List Sc.Bs) (cur : Sc.Bs) (q : Bool), k ≤ s.size ∧ i = .int .i64 k ∧ qv = .bool q ∧ Own 9 1 w.heap.size out (done.length + 1) ((done ++ [cur]).map strV) wr ∧ Hid (Rf.partsOf s.data.toList = Rf.partsGo (s.data.toList.drop k) q done cur) ∧ done.length ≤ k ∧ cur.length ≤ k ∧ Below w.heap.size w wr) (fun _ _ i _ _ _ => s.size - (intOf i).toNat)
  case atStart => exact ⟨0, [], [], false, Nat.zero_le _, rfl, rfl, HO0.out, Lib.hid rfl, Nat.le_refl _, Nat.le_refl _, HBB.out⟩
  case round =>
    obtain ⟨k, done, cur, q, hk, rfl, rfl, hO, H, hd, hcu, hb⟩ := hrel
    have HB := Lib.hid hb
    by_cases hlt : k < s.size
    · obtain ⟨c, hcc⟩ : ∃ c, s[k]'hlt = c := ⟨_, rfl⟩
      have HDR : Hid (s.data.toList.drop k = c :: s.data.toList.drop (k + 1)) := Lib.hid (by
        have hlt2 : k < s.data.toList.length := by rw [HSZ.out]; exact hlt
        have hget : s.data.toList[k]'hlt2 = c := by rw [← hcc]; simp only [Array.getElem_toList]; rfl
        rw [← hget]; exact List.drop_eq_getElem_cons hlt2)
      obtain ⟨g, cap, rfl⟩ := own_head hO
      have hOm := hO
      rw [List.map_append, List.map_cons, List.map_nil] at hOm
      have hlast := own_last hOm
      have hml : (done.map strV).length = done.length := List.length_map _
      rw [hml] at hlast
      have HO := Lib.hid hO
      have HLAST := Lib.hid hlast
      clear hO hOm hlast hb hml
      by_cases h32 : c = 32 ∧ q = false
      · obtain ⟨rfl, rfl⟩ := h32
        have HNX : Hid (Rf.partsOf s.data.toList = Rf.partsGo (s.data.toList.drop (k + 1)) false (done ++ [cur]) []) := Lib.hid (by rw [H.out, HDR.out, Rf.go_blank rfl])
        clear H
        go_wp2_with (at_builtin; refine wpList_own_append rfl _ _ 22 9 (.string ⟨#[]⟩) 1 16 rfl Tryz.underlying22 info9 rfl (by decide) HO.out rfl [strV []] 1 rfl rfl (by simp [Value.oneCell', strV]) rfl (by unfold maxLen; omega) (by omega) ?_)
        intro v' w3 hO3 hb3
        have HO3 := Lib.hid hO3
        have HB3 := Lib.hid (HB.out.trans hb3)
        clear hO3 hb3
        go_wp2_with fail
        go_roundw
        case rel => exact ⟨k + 1, done ++ [cur], [], false, by omega, by go_num, rfl, by simpa using HO3.out, HNX, by simp; omega, by simp, HB3.out⟩
        case measure => simp [intOf]; omega
      · by_cases hes : q = true ∧ c = 92 ∧ k + 1 < s.size
        · obtain ⟨rfl, rfl, hk1⟩ := hes
          have hlt3 : k + 1 < s.data.toList.length := by rw [HSZ.out]; exact hk1
          obtain ⟨d, hd2⟩ : ∃ d, s.data.toList.drop (k + 1) = d :: s.data.toList.drop (k + 2) := ⟨_, List.drop_eq_getElem_cons hlt3⟩
          have HNX : Hid (Rf.partsOf s.data.toList = Rf.partsGo (s.data.toList.drop (k + 2)) true done (cur ++ [92, d])) := Lib.hid (by rw [H.out, HDR.out, hd2, Rf.go_esc])
          have hadd := add_bs cur s k (k + 2) [92, d] (by rw [HDR.out, hd2]; simp [show k + 2 - k = 2 by omega]) (by simp; omega)
          obtain ⟨q0, qf, qlt, qb, hOn⟩ := HLAST.out (strV (cur ++ [92, d]))
          have HOn := Lib.hid hOn
          have HBn := Lib.hid (HB.out.setCell (p := ⟨g, done.length, none⟩) qb (strV (cur ++ [92, d])))
          unfold strV at q0
          clear H hd2 hOn h32 hlt3
          have hcb : ((92 : UInt8).toNat : Int) = 92 := rfl
          have HBd : Hid (Below w.heap.size w (wr.setCell ⟨g, done.length, none⟩ (strV (cur ++ [92, d]))).drew) := Lib.hid (HBn.out.trans (below_drewN (Below.refl _ _) 1))
          have HOd : Hid (Own 9 1 w.heap.size (.slice (some ⟨g, 0, none⟩) (done.length + 1) cap) (done.length + 1) (done.map strV ++ [strV (cur ++ [92, d])]) (wr.setCell ⟨g, done.length, none⟩ (strV (cur ++ [92, d]))).drew) := Lib.hid (HOn.out.next (below_drewN (Below.refl _ _) 1))
          go_wp2_with fail
          go_region
          go_wp2_with fail
          go_roundw
          case rel => exact ⟨k + 2, done, cur ++ [92, d], true, by omega, by go_num, rfl, by rw [List.map_append]; exact HOd.out, HNX, by omega, by simp; omega, HBd.out⟩
          case measure => simp [intOf]; omega
        · have hne2 : ¬ (q = true ∧ c = 92 ∧ s.data.toList.drop (k + 1) ≠ []) := fun h => hes ⟨h.1, h.2.1, by
            have := List.length_pos_iff.2 h.2.2
            rw [List.length_drop, HSZ.out] at this
            omega⟩
          have HNX : Hid (Rf.partsOf s.data.toList = Rf.partsGo (s.data.toList.drop (k + 1)) (if c = 34 then !q else q) done (cur ++ [c])) := Lib.hid (by rw [H.out, HDR.out, Rf.go_one h32 hne2])
          have hadd := add_bs cur s k (k + 1) [c] (by rw [HDR.out]; simp [show k + 1 - k = 1 by omega]) (by simp; omega)
          obtain ⟨q0, qf, qlt, qb, hOn⟩ := HLAST.out (strV (cur ++ [c]))
          have HBd : Hid (Below w.heap.size w (wr.setCell ⟨g, done.length, none⟩ (strV (cur ++ [c]))).drew) := Lib.hid ((HB.out.setCell (p := ⟨g, done.length, none⟩) qb (strV (cur ++ [c]))).trans (below_drewN (Below.refl _ _) 1))
          have HOd : Hid (Own 9 1 w.heap.size (.slice (some ⟨g, 0, none⟩) (done.length + 1) cap) (done.length + 1) (done.map strV ++ [strV (cur ++ [c])]) (wr.setCell ⟨g, done.length, none⟩ (strV (cur ++ [c]))).drew) := Lib.hid (hOn.next (below_drewN (Below.refl _ _) 1))
          unfold strV at q0
          clear H hOn
          have hc32 : ((c.toNat : Int) == 32) = decide (c = 32) := by
            rw [Bool.eq_iff_iff]; simp only [beq_iff_eq, decide_eq_true_eq]
            exact ⟨fun e => UInt8.toNat_inj.1 (by simp; omega), fun e => by rw [e]; rfl⟩
          have hc92 : ((c.toNat : Int) == 92) = decide (c = 92) := by
            rw [Bool.eq_iff_iff]; simp only [beq_iff_eq, decide_eq_true_eq]
            exact ⟨fun e => UInt8.toNat_inj.1 (by simp; omega), fun e => by rw [e]; rfl⟩
          have hc34 : ((c.toNat : Int) == 34) = decide (c = 34) := by
            rw [Bool.eq_iff_iff]; simp only [beq_iff_eq, decide_eq_true_eq]
            exact ⟨fun e => UInt8.toNat_inj.1 (by simp; omega), fun e => by rw [e]; rfl⟩
          have hq : (c = 32 → q = true) ∧ (q = true → c = 92 → ¬ (k : Int) + 1 < s.size) := ⟨fun e => by cases q <;> simp_all, fun a b e => hes ⟨a, b, by omega⟩⟩
          clear h32 hes hne2
          cases q
          · have n32 : c ≠ 32 := fun e => by have := hq.1 e; cases this
            rw [decide_eq_false n32] at hc32
            by_cases h34 : c = 34
            · rw [if_pos h34] at HNX
              rw [decide_eq_true h34] at hc34
              clear h34 n32 hq
              go_wp2_with fail
              go_region
              go_wp2_with fail
              go_roundw
              case rel => exact ⟨k + 1, done, cur ++ [c], true, by omega, by go_num, rfl, by rw [List.map_append]; exact HOd.out, HNX, by omega, by simp; omega, HBd.out⟩
              case measure => simp [intOf]; omega
            · rw [if_neg h34] at HNX
              rw [decide_eq_false h34] at hc34
              clear h34 n32 hq
              go_wp2_with fail
              go_region
              go_wp2_with fail
              go_roundw
              case rel => exact ⟨k + 1, done, cur ++ [c], false, by omega, by go_num, rfl, by rw [List.map_append]; exact HOd.out, HNX, by omega, by simp; omega, HBd.out⟩
              case measure => simp [intOf]; omega
          · by_cases h92 : c = 92
            · have hk2 := hq.2 rfl h92
              have n34 : c ≠ 34 := fun e => by rw [e] at h92; revert h92; decide
              have n32 : c ≠ 32 := fun e => by rw [e] at h92; revert h92; decide
              rw [if_neg n34] at HNX
              rw [decide_eq_true h92] at hc92
              rw [decide_eq_false n34] at hc34
              rw [decide_eq_false n32] at hc32
              clear h92 n34 n32 hq
              go_wp2_with fail
              go_region
              go_wp2_with fail
              go_roundw
              case rel => exact ⟨k + 1, done, cur ++ [c], true, by omega, by go_num, rfl, by rw [List.map_append]; exact HOd.out, HNX, by omega, by simp; omega, HBd.out⟩
              case measure => simp [intOf]; omega
            · rw [decide_eq_false h92] at hc92
              by_cases h32 : c = 32
              · have n34 : c ≠ 34 := fun e => by rw [e] at h32; revert h32; decide
                rw [if_neg n34] at HNX
                rw [decide_eq_false n34] at hc34
                rw [decide_eq_true h32] at hc32
                clear h92 n34 h32 hq
                go_wp2_with fail
                go_region
                go_wp2_with fail
                go_roundw
                case rel => exact ⟨k + 1, done, cur ++ [c], true, by omega, by go_num, rfl, by rw [List.map_append]; exact HOd.out, HNX, by omega, by simp; omega, HBd.out⟩
                case measure => simp [intOf]; omega
              · rw [decide_eq_false h32] at hc32
                by_cases h34 : c = 34
                · rw [if_pos h34] at HNX
                  rw [decide_eq_true h34] at hc34
                  clear h92 h34 h32 hq
                  go_wp2_with fail
                  go_region
                  go_wp2_with fail
                  go_roundw
                  case rel => exact ⟨k + 1, done, cur ++ [c], false, by omega, by go_num, rfl, by rw [List.map_append]; exact HOd.out, HNX, by omega, by simp; omega, HBd.out⟩
                  case measure => simp [intOf]; omega
                · rw [if_neg h34] at HNX
                  rw [decide_eq_false h34] at hc34
                  clear h92 h34 h32 hq
                  go_wp2_with fail
                  go_region
                  go_wp2_with fail
                  go_roundw
                  case rel => exact ⟨k + 1, done, cur ++ [c], true, by omega, by go_num, rfl, by rw [List.map_append]; exact HOd.out, HNX, by omega, by simp; omega, HBd.out⟩
                  case measure => simp [intOf]; omega
    · have HF : Hid (Rf.partsOf s.data.toList = done ++ [cur]) := Lib.hid (by rw [H.out, List.drop_eq_nil_of_le (by rw [HSZ.out]; omega)]; rfl)
      have HO := Lib.hid hO
      clear hO hb H
      go_wp2_with fail
      go_ret
      rw [HF.out]
      exact ⟨_, rfl, by simpa using HO.out, HB.out⟩
end Go.Proofs.YthpojljfmipngaaGreatDoor
