/-
  THE WALKS, twenty-second part: large and over of the law's package. CONDITIONS: the value lies as JV says.
-/
import Derived.Test.YtimioelnnhnbiaaDoorWR
import Derived.Test.YtimioelnnhnbiaaDoorLarge
namespace Go.Proofs.YtimioelnnhnbiaaDoor
open Go.RowKit
def NAt (w : World) (b : Nat) (c : Int) : Prop := w.heap[b]? = some (.cells #[.int .i64 c] 3 (0, 0))
theorem NAt.cells {w : World} {b : Nat} {c : Int} (h : NAt w b c) : w.cell? ⟨b, 0, none⟩ = some (.int .i64 c) ∧ w.frozen? ⟨b, 0, none⟩ = false := ⟨(blk_cells h 0).trans rfl, blk_free h 0⟩
theorem NAt.next {w w' : World} {b : Nat} {c : Int} (h : NAt w b c) (hb : Below w.heap.size w w') : NAt w' b c := blk_next hb h
theorem NAt.lt {w : World} {b : Nat} {c : Int} (h : NAt w b c) : b < w.heap.size := (Array.getElem?_eq_some_iff.1 h).1
theorem NAt.to {w : World} {b : Nat} {c : Int} (h : NAt w b c) (k : Int) : NAt (w.setCell ⟨b, 0, none⟩ (.int .i64 k)) b k := (but_set (i := 0) (.int .i64 k) h).2
theorem NAt.but {w : World} {b : Nat} {c : Int} (h : NAt w b c) (v : Value) : But [b] w (w.setCell ⟨b, 0, none⟩ v) := (but_set (i := 0) v h).1
def LrgC (N : Nat) : Prop := ∀ (x : Js.J) (vs : List Value) (S : Nat → Prop) (d : Nat) (c : Int) (w : World) (mb : Nat), Js.nodes x ≤ N → JV w S x vs → ¬ S mb → NAt w mb c →
    -4194304 ≤ c → c ≤ 70000 → d ≤ 31 →
    Calls Tryd.prog 17 #[.agg vs.toArray, .int .i64 d, .pointer (some ⟨mb, 0, none⟩)] w fun e w' => e = .returned (.bool (Js.lrg x d c).isNone) ∧ (∀ c', Js.lrg x d c = some c' → NAt w' mb c') ∧ But [mb] w w'
set_option maxRecDepth 100000 in
set_option maxHeartbeats 16000000 in
theorem lrg_step (N : Nat) (ih : LrgC N) : LrgC (N + 1) := by
  intro x vs S d c w mb hN hjv hS hms hc1 hc2 hd
  cases x with | mk k0 b0 n0 t0 l m =>
  have HJ := Lib.hid hjv
  unfold JV at hjv
  obtain ⟨A5, c5, A6, c6, rfl, hc5, hc6, -, -⟩ := hjv
  have hbel := below_box w (.cells #[.int .i64 k0, .bool b0, .int .i64 n0, .string (str t0), .slice A5 l.length c5, .slice A6 m.length c6] 25)
  have HBx : Hid (JBox _ w.heap.size _ _ _ _ _ _) := Lib.hid (heap_alloc_new w (.cells #[.int .i64 k0, .bool b0, .int .i64 n0, .string (str t0), .slice A5 l.length c5, .slice A6 m.length c6] 25))
  have HM1 := Lib.hid (hms.next hbel)
  have HW1 := Lib.hid (But.of (S := [mb]) hbel)
  have HJ1 := Lib.hid (HJ.out.next hbel)
  have hmw := hms.lt
  have hz := str_size t0
  have hcap := Js.cap20_pos t0.length
  clear hbel hms HJ
  obtain ⟨c0, f0⟩ := HM1.out.cells
  go_enter Tryd.func17, Tryd.ntmps17
  go_upto_region 1 with fail
  generalize (w.alloc (.cells #[.int .i64 k0, .bool b0, .int .i64 n0, .string (str t0), .slice A5 l.length c5, .slice A6 m.length c6] 25)) = w1 at HBx HM1 HW1 HJ1 c0 f0 ⊢
  obtain ⟨M, hM⟩ : ∃ M, w.heap.size = M := ⟨_, rfl⟩
  rw [hM] at HBx hmw ⊢
  have hne : M ≠ mb := by omega
  clear hM
  obtain ⟨x0, x1, x2, x3, x4, x5⟩ := HBx.out.cells
  have hcap' : 0 ≤ min (t0.length : Int) 1048576 ∧ min (t0.length : Int) 1048576 ≤ 1048576 := hcap
  obtain ⟨mn, hmn⟩ : ∃ mn, min (t0.length : Int) 1048576 = mn := ⟨_, rfl⟩
  have HL : Hid (Js.lrg (.mk k0 b0 n0 t0 l m) d c = if 30 < d ∨ c - (1 + mn) < 0 then none else (Js.lrgL l d (c - (1 + mn))).bind fun c2 => Js.lrgM m d c2) := Lib.hid (by rw [← hmn]; rfl)
  have HMN := Lib.hid hmn
  rw [hmn] at hcap'
  have hm3 : NAt (w1.setCell ⟨mb, 0, none⟩ (.int .i64 (c - (1 + mn)))).drew mb (c - (1 + mn)) := HM1.out.to (c - (1 + mn))
  have hk3 := (HM1.out.but (.int .i64 (c - (1 + mn)))).drew
  have HB3 := Lib.hid (HBx.out.but hk3 (by simpa using hne))
  have HJ3 := Lib.hid (HJ1.out.but hk3 (by intro j hj; simp at hj; subst hj; exact hS))
  have HW3 := Lib.hid (HW1.out.trans hk3)
  have HM3 := Lib.hid hm3
  clear hm3 hk3 HM1 HBx HJ1 HW1 hcap
  go_still_tail 10, (by kernel_rfl)
  go_upto_region 2 with fail
  generalize (w1.setCell ⟨mb, 0, none⟩ (.int .i64 (c - (1 + mn)))).drew = w3 at HM3 HB3 HJ3 HW3 ⊢
  obtain ⟨e, he⟩ : ∃ e, c - (1 + mn) = e := ⟨_, rfl⟩
  rw [he] at HM3 HL
  have he2 : e ≤ 70000 := by omega
  have he3 : -5242881 ≤ e := by omega
  clear c0 f0 x0 x1 x2 x3 x4 x5 hmn he hcap' hz
  obtain ⟨c0, f0⟩ := HM3.out.cells
  obtain ⟨x0, x1, x2, x3, x4, x5⟩ := HB3.out.cells
  have IH := Lib.hid ih
  clear ih
  by_cases h30 : 30 < d
  · have hq : decide ((30 : Int) < (d : Int)) = true := by simp; omega
    have HR : Hid (Js.lrg (.mk k0 b0 n0 t0 l m) d c = none) := Lib.hid (by rw [HL.out, if_pos (.inl h30)])
    go_wp2_with fail
    go_ret
    rw [HR.out]
    exact ⟨rfl, fun _ h => (by cases h), HW3.out⟩
  have hq30 : decide ((30 : Int) < (d : Int)) = false := by simp; omega
  by_cases hneg : e < 0
  · have HR : Hid (Js.lrg (.mk k0 b0 n0 t0 l m) d c = none) := Lib.hid (by rw [HL.out, if_pos (.inr hneg)])
    go_wp2_with fail
    go_ret
    rw [HR.out]
    exact ⟨rfl, fun _ h => (by cases h), HW3.out⟩
  have HR : Hid (Js.lrg (.mk k0 b0 n0 t0 l m) d c = (Js.lrgL l d e).bind fun c2 => Js.lrgM m d c2) := Lib.hid (by rw [HL.out, if_neg (by omega)])
  have hnodes : 1 + Js.nodesL l + Js.nodesM m ≤ N + 1 := hN
  clear HL
  go_wp2_with fail
  clear x0 x1 x2 x3 x4 x5 c0 f0
  go_loopw [32] (fun i wr => ∃ k : Nat, ∃ ck : Int, k ≤ l.length ∧ i = .int .i64 k ∧ Hid (Js.lrgL (l.take k) d e = some ck) ∧ Hid (NAt wr mb ck) ∧ Hid (JV wr S (.mk k0 b0 n0 t0 l m) [.int .i64 k0, .bool b0, .int .i64 n0, .string (str t0), .slice A5 l.length c5, .slice A6 m.length c6]) ∧ Hid (But [mb] w wr) ∧ Hid (JBox wr M (.int .i64 k0) (.bool b0) (.int .i64 n0) (.string (str t0)) (.slice A5 l.length c5) (.slice A6 m.length c6))) (fun i _ => l.length - (intOf i).toNat)
  case atStart => exact ⟨0, e, Nat.zero_le _, rfl, Lib.hid (by simp [Js.lrgL]), HM3, HJ3, HW3, HB3⟩
  case round =>
    obtain ⟨k, ck, hk, rfl, HC, HM, HJ, HW, HB⟩ := hrel
    clear HM3 HJ3 HW3 HB3
    have pl := Js.lrgL_some _ d e ck HC.out (by omega) he2 (by omega)
    have pk := Js.length_nodesL (l.take k)
    rw [List.length_take, Nat.min_eq_left hk] at pk
    have hk7 : k ≤ 70000 := by omega
    have hck : 0 ≤ ck ∧ ck ≤ 70000 := by omega
    clear pl pk
    by_cases hlt : k < l.length
    · obtain ⟨y, hy⟩ : ∃ y, l[k]? = some y := ⟨l[k], List.getElem?_eq_getElem hlt⟩
      have hjl := HJ.out
      unfold JV at hjl
      obtain ⟨_, _, _, _, hvs, -, -, hjl, -⟩ := hjl
      simp only [List.cons.injEq, Value.slice.injEq, and_true, true_and] at hvs
      obtain ⟨⟨rfl, rfl⟩, rfl, rfl⟩ := hvs
      obtain ⟨g, o, k1, b1, n1, t1, A7, l7, c7, A8, l8, c8, hA, hSg, hg, q0, q1, q2, q3, q4, q5, hjy⟩ := hjl.elem hy
      subst hA
      obtain ⟨p1, p2, p3⟩ := Js.nodesL_split l k y hy
      have hbel := below_box wr (.cells #[.int .i64 k1, .bool b1, .int .i64 n1, .string t1, .slice A7 l7 c7, .slice A8 l8 c8] 25)
      have HMa := Lib.hid (HM.out.next hbel)
      have HJa := Lib.hid (HJ.out.next hbel)
      have HWa := Lib.hid (HW.out.below hbel HW.out.size)
      have HBa := Lib.hid (HB.out.next hbel)
      have HJy := Lib.hid (hjy.next hbel)
      have HSN : Hid (Js.lrgL (l.take (k + 1)) d e = Js.lrg y (d + 1) ck) := Lib.hid (Js.lrgL_snoc hy HC.out)
      have hpn : Js.nodes y ≤ N := by omega
      have HSg := Lib.hid hSg
      clear hjl hjy hbel hy p1 p2 p3 hSg
      go_wp2_with fail
      refine (IH.out y _ S (d + 1) ck _ mb hpn HJy.out hS HMa.out (by omega) hck.2 (by omega)).mono ?_
      rintro e2 w7 ⟨rfl, hm7, hk7⟩
      rw [← HSN.out] at hm7 ⊢
      have HJ7 := Lib.hid (HJa.out.but hk7 (by intro j hj; simp at hj; subst hj; exact hS))
      have HW7 := Lib.hid (HWa.out.trans hk7)
      have HB7 := Lib.hid (HBa.out.but hk7 (by simpa using hne))
      clear hk7 HM HMa HJ HJa HW HWa HB HBa HJy HSN q0 q1 q2 q3 q4 q5
      obtain ⟨res, hres⟩ : ∃ res, Js.lrgL (l.take (k + 1)) d e = res := ⟨_, rfl⟩
      rw [hres] at hm7 ⊢
      have HRES := Lib.hid hres
      clear hres
      cases res with
      | none =>
        have HR2 : Hid (Js.lrg (.mk k0 b0 n0 t0 l m) d c = none) := Lib.hid (by rw [HR.out, Js.lrgL_none HRES.out]; rfl)
        clear hm7
        dsimp only [Option.isNone_none]
        go_wp2_with fail
        go_ret
        rw [HR2.out]
        exact ⟨rfl, fun _ h => (by cases h), HW7.out⟩
      | some cn =>
        have HM7 := Lib.hid (hm7 cn rfl)
        clear hm7
        dsimp only [Option.isNone_some]
        go_wp2_with fail
        go_roundw
        case rel => exact ⟨k + 1, cn, by omega, by go_num, HRES, HM7, HJ7, HW7, HB7⟩
        case measure => simp [intOf]; omega
    · obtain rfl : k = l.length := by omega
      rw [List.take_length] at HC
      have HR2 : Hid (Js.lrg (.mk k0 b0 n0 t0 l m) d c = Js.lrgM m d ck) := Lib.hid (by rw [HR.out, HC.out]; rfl)
      obtain ⟨x0, x1, x2, x3, x4, x5⟩ := HB.out.cells
      clear HC HR x0 x1 x2 x3 x4
      go_wp2_with fail
      clear x5
      go_loopw [45] (fun i wr => ∃ k : Nat, ∃ cm : Int, k ≤ m.length ∧ i = .int .i64 k ∧ Hid (Js.lrgM (m.take k) d ck = some cm) ∧ Hid (NAt wr mb cm) ∧ Hid (JV wr S (.mk k0 b0 n0 t0 l m) [.int .i64 k0, .bool b0, .int .i64 n0, .string (str t0), .slice A5 l.length c5, .slice A6 m.length c6]) ∧ Hid (But [mb] w wr) ∧ Hid (JBox wr M (.int .i64 k0) (.bool b0) (.int .i64 n0) (.string (str t0)) (.slice A5 l.length c5) (.slice A6 m.length c6))) (fun i _ => m.length - (intOf i).toNat)
      case atStart => exact ⟨0, ck, Nat.zero_le _, rfl, Lib.hid (by simp [Js.lrgM]), HM, HJ, HW, HB⟩
      case round =>
        obtain ⟨k, cm, hk, rfl, HC, HM', HJ', HW', HB'⟩ := hrel
        clear HM HJ HW HB
        have pl := Js.lrgM_some _ d ck cm HC.out (by omega) hck.2 (by omega)
        have pk := Js.length_nodesM (m.take k)
        rw [List.length_take, Nat.min_eq_left hk] at pk
        have hk7 : k ≤ 70000 := by omega
        have hcm : 0 ≤ cm ∧ cm ≤ 70000 := by omega
        clear pl pk
        by_cases hlt : k < m.length
        · obtain ⟨nm, y, hy⟩ : ∃ nm y, m[k]? = some (nm, y) := ⟨m[k].1, m[k].2, List.getElem?_eq_getElem hlt⟩
          have hjl := HJ'.out
          unfold JV at hjl
          obtain ⟨_, _, _, _, hvs, -, -, -, hjm⟩ := hjl
          simp only [List.cons.injEq, Value.slice.injEq, and_true, true_and] at hvs
          obtain ⟨⟨rfl, rfl⟩, rfl, rfl⟩ := hvs
          obtain ⟨g, o, k1, b1, n1, t1, A7, l7, c7, A8, l8, c8, hA, hSg, hg, q0, q1, q2, q3, q4, q5, q6, hjy⟩ := hjm.elem hy
          subst hA
          obtain ⟨p1, p2, p3⟩ := Js.nodesM_split m k nm y hy
          have hbel := below_box wr (.cells #[.string (str nm), .int .i64 k1, .bool b1, .int .i64 n1, .string t1, .slice A7 l7 c7, .slice A8 l8 c8] 43)
          have HBy := Lib.hid (heap_alloc_new wr (.cells #[.string (str nm), .int .i64 k1, .bool b1, .int .i64 n1, .string t1, .slice A7 l7 c7, .slice A8 l8 c8] 43))
          have HMa := Lib.hid (HM'.out.next hbel)
          have HJa := Lib.hid (HJ'.out.next hbel)
          have HWa := Lib.hid (HW'.out.below hbel HW'.out.size)
          have HBa := Lib.hid (HB'.out.next hbel)
          have HJy := Lib.hid (hjy.next hbel)
          have HSN : Hid (Js.lrgM (m.take (k + 1)) d ck = Js.lrg y (d + 1) (cm - min (nm.length : Int) 1048576)) := Lib.hid (Js.lrgM_snoc hy HC.out)
          have hpn : Js.nodes y ≤ N := by omega
          have hzn := str_size nm
          have hmbl := HM'.out.lt
          clear hjm hjy hbel hy p1 p2 p3 hSg HM'
          go_upto_region 13 with fail
          generalize (wr.alloc (.cells #[.string (str nm), .int .i64 k1, .bool b1, .int .i64 n1, .string t1, .slice A7 l7 c7, .slice A8 l8 c8] 43)) = wA at HBy HMa HJa HWa HBa HJy ⊢
          generalize wr.heap.size = Y at HBy hmbl ⊢
          have hYmb : Y ≠ mb := by omega
          obtain ⟨c0, f0⟩ := HMa.out.cells
          have y0 : wA.cell? ⟨Y, 0, none⟩ = some (.string (str nm)) := (blk_cells HBy.out 0).trans rfl
          have hcn : 0 ≤ min (nm.length : Int) 1048576 ∧ min (nm.length : Int) 1048576 ≤ 1048576 := by omega
          obtain ⟨mn2, hmn2⟩ : ∃ mn2, min (nm.length : Int) 1048576 = mn2 := ⟨_, rfl⟩
          rw [hmn2] at hcn HSN
          have hm8 : NAt (wA.setCell ⟨mb, 0, none⟩ (.int .i64 (cm - mn2))).drew mb (cm - mn2) := HMa.out.to (cm - mn2)
          have hk8 := (HMa.out.but (.int .i64 (cm - mn2))).drew
          have HM8 := Lib.hid hm8
          have HBy8 := Lib.hid (hk8.blk HBy.out (by simpa using hYmb))
          have HJ8 := Lib.hid (HJa.out.but hk8 (by intro j hj; simp at hj; subst hj; exact hS))
          have HW8 := Lib.hid (HWa.out.trans hk8)
          have HB8 := Lib.hid (HBa.out.but hk8 (by simpa using hne))
          have HJy8 := Lib.hid (HJy.out.but hk8 (by intro j hj; simp at hj; subst hj; exact hS))
          clear hm8 hk8 q0 q1 q2 q3 q4 q5 q6 hmbl hg
          go_still_tail 9, (by kernel_rfl)
          go_upto_region 14 with fail
          generalize (wA.setCell ⟨mb, 0, none⟩ (.int .i64 (cm - mn2))).drew = wB at HM8 HBy8 HJ8 HW8 HB8 HJy8 ⊢
          clear HMa HBy HJa HWa HBa HJy c0 f0 y0
          obtain ⟨y0, y1, y2, y3, y4, y5, y6⟩ := blk7 HBy8.out
          have he4 : -4194304 ≤ cm - mn2 := by omega
          have he5 : cm - mn2 ≤ 70000 := by omega
          clear hmn2 hcn hzn
          go_wp2_with fail
          refine (IH.out y _ S (d + 1) (cm - mn2) _ mb hpn HJy8.out hS HM8.out he4 he5 (by omega)).mono ?_
          rintro e2 w7 ⟨rfl, hm7, hk7⟩
          rw [← HSN.out] at hm7 ⊢
          have HJ7 := Lib.hid (HJ8.out.but hk7 (by intro j hj; simp at hj; subst hj; exact hS))
          have HW7 := Lib.hid (HW8.out.trans hk7)
          have HB7 := Lib.hid (HB8.out.but hk7 (by simpa using hne))
          clear hk7 HM8 HJ8 HW8 HB8 HBy8 HJy8 HSN y0 y1 y2 y3 y4 y5 y6
          obtain ⟨res, hres⟩ : ∃ res, Js.lrgM (m.take (k + 1)) d ck = res := ⟨_, rfl⟩
          rw [hres] at hm7 ⊢
          have HRES := Lib.hid hres
          clear hres
          cases res with
          | none =>
            have HR3 : Hid (Js.lrg (.mk k0 b0 n0 t0 l m) d c = none) := Lib.hid (by rw [HR2.out, Js.lrgM_none HRES.out])
            clear hm7
            dsimp only [Option.isNone_none]
            go_wp2_with fail
            go_ret
            rw [HR3.out]
            exact ⟨rfl, fun _ h => (by cases h), HW7.out⟩
          | some cn =>
            have HM7 := Lib.hid (hm7 cn rfl)
            clear hm7
            dsimp only [Option.isNone_some]
            go_wp2_with fail
            go_roundw
            case rel => exact ⟨k + 1, cn, by omega, by go_num, HRES, HM7, HJ7, HW7, HB7⟩
            case measure => simp [intOf]; omega
        · obtain rfl : k = m.length := by omega
          rw [List.take_length] at HC
          have HR3 : Hid (Js.lrg (.mk k0 b0 n0 t0 l m) d c = some cm) := Lib.hid (by rw [HR2.out, HC.out])
          go_wp2_with fail
          go_ret
          rw [HR3.out]
          exact ⟨rfl, fun _ h => (by cases h; exact HM'.out), HW'.out⟩
theorem lrg_any : ∀ N, LrgC N
  | 0 => fun x vs S d c w mb hN => absurd hN (by have := Js.nodes_pos x; omega)
  | N + 1 => lrg_step N (lrg_any N)
end Go.Proofs.YtimioelnnhnbiaaDoor
