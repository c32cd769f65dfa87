/-
  THE LAW: every row of bytes is read as the document says. CONDITIONS: as the arguments' readings say.
-/
import Derived.Test.YtoadahommlcjpaaGreatDoorPRsp
import Derived.Test.YtoadahommlcjpaaGreatDoorXor
import Derived.Deep.DeepCutAuto
namespace Go.Proofs.YtoadahommlcjpaaGreatDoor
open Go.RowKit
theorem make_row {P : Program} (t e : TypeId) (i : TypeInfo) (z : Value) (ht : P.underlying t = some (.slice e)) (hi : P.info? e = some i) (hz : i.zero = some z)
    (kl kc : IntKind) (n c : Nat) (hnc : n ≤ c) (hbytes : i.bytes * c ≤ 281474976710656) (h63 : c ≤ 9223372036854775807) (w : World) :
    (Instr.makeSlice t (.int kl (n : Int)) (.int kc (c : Int))).run P w = .ok (.slice (some ⟨w.heap.size, 0, none⟩) n c) (w.alloc (.cells (madeCells z.cells (c * i.size)) e)) := by
  have hb : (i.bytes : Int) * (c : Int) ≤ 281474976710656 := by
    have h : ((i.bytes * c : Nat) : Int) ≤ 281474976710656 := by omega
    rwa [Int.natCast_mul] at h
  have hr := run_make (P := P) w t e i z ht hi hz kl kc n c (by omega) (by omega) hb (by omega)
  simp only [Int.toNat_natCast] at hr
  exact hr
theorem make_buf (n : Nat) (hn : n ≤ 1000000) (w : World) : ∃ cur : Array Value, cur.size = n + 2 ∧ (Instr.makeSlice 22 (.int .i64 0) (.int .i64 ((n : Int) + 2))).run Tryz.prog w = .ok (.slice (some ⟨w.heap.size, 0, none⟩) 0 (n + 2)) (w.alloc (.cells cur 5)) := by
  have hi := info5
  cases hinf : Tryz.prog.info? 5 with
  | none => rw [hinf] at hi; cases hi
  | some i0 =>
    rw [hinf] at hi
    simp only [Option.map_some, Option.some.injEq, Prod.mk.injEq] at hi
    obtain ⟨hz0, hz1, hz2⟩ := hi
    have h := make_row (P := Tryz.prog) 22 5 i0 (.int .u8 0) Tryz.underlying22 hinf hz0 .i64 .i64 0 (n + 2) (by omega) (by rw [hz2]; omega) (by omega) w
    rw [hz1, Nat.mul_one] at h
    refine ⟨madeCells #[.int .u8 0] (n + 2), by simp [madeCells], ?_⟩
    have e2 : ((n + 2 : Nat) : Int) = (n : Int) + 2 := by omega
    rw [e2] at h
    exact h
theorem own_at {B n : Nat} {v : Value} {xs : List Value} {w : World} (h : Own 5 1 B v (n + 1) xs w) :
    ∃ g c, v = .slice (some ⟨g, 0, none⟩) (n + 1) c ∧ B ≤ g ∧ g < w.heap.size ∧ n + 1 ≤ c ∧ c ≤ 9223372036854775807 ∧ ∀ j u, xs[j]? = some u → w.cell? ⟨g, j, none⟩ = some u := by
  rcases h.own.2 with ⟨_, h0⟩ | ⟨g, cap, cur, he, hb, hg, hcap, hmax, _⟩
  · omega
  · refine ⟨g, cap, he, hb, (Array.getElem?_eq_some_iff.1 hg).1, hcap, hmax, fun j u hj => ?_⟩
    have hc := h.own.cells (g := g) (by rw [he]; rfl) j u hj
    have hadd : (⟨g, 0, none⟩ : Addr).add j = ⟨g, j, none⟩ := by unfold Addr.add; split <;> simp_all
    rw [hadd] at hc
    exact hc
theorem ReqOut.row {w w' : World} {R : Ht.Req × Nat × Int} {e : Ending} (h : ReqOut w R e w') (hr : R.2.2 = 0 → rightQ R.1) (hz : R.2.2 ≠ 0 → R.1 = Ht.zReq) :
    ∃ A c B d, e = .returned (.tuple #[reqV R.1 A c B d, .int .i64 (R.2.1 : Int), .int .i64 R.2.2]) ∧ ReqAt w' R.1 A B ∧ SRow w.heap.size B R.1.body.length w' ∧ Below w.heap.size w w' := by
  obtain ⟨hv, bv, h1, h2, h3, h4⟩ := h
  obtain ⟨A, c, rfl, hc, h5⟩ := h2.heads
  obtain ⟨B, d, rfl, hd, h6, h7⟩ := h3.srow
  refine ⟨A, c, B, d, h1, ?_, h7, h4⟩
  by_cases h0 : R.2.2 = 0
  · exact ReqAt.of_right (hr h0) h5 h6
  · have hz' := hz h0
    rw [hz'] at h5 h6 ⊢
    exact ⟨HdsAt.nil _ _, CellsAt.nil _ _, by decide, fun h hh => by simp [Ht.zReq] at hh, by decide, by decide, by decide, by decide⟩
theorem RspOut.row {w w' : World} {R : Ht.Rsp × Nat × Int} {e : Ending} (h : RspOut w R e w') (hr : R.2.2 = 0 → 200 ≤ R.1.status ∧ R.1.status ≤ 599 ∧ Ht.checkedB R.1.heads R.1.body = true) (hz : R.2.2 ≠ 0 → R.1 = Ht.zRsp) :
    ∃ A c B d, e = .returned (.tuple #[rspV R.1 A c B d, .int .i64 (R.2.1 : Int), .int .i64 R.2.2]) ∧ RspAt w' R.1 A B ∧ SRow w.heap.size B R.1.body.length w' ∧ Below w.heap.size w w' := by
  obtain ⟨hv, bv, h1, h2, h3, h4⟩ := h
  obtain ⟨A, c, rfl, hc, h5⟩ := h2.heads
  obtain ⟨B, d, rfl, hd, h6, h7⟩ := h3.srow
  refine ⟨A, c, B, d, h1, ?_, h7, h4⟩
  by_cases h0 : R.2.2 = 0
  · obtain ⟨s1, s2, s3⟩ := hr h0
    obtain ⟨l1, l2, l3⟩ := right_heads s3
    exact RspAt.of_small (by omega) (by omega) (by omega) (by omega) l3 h5 h6
  · have hz' := hz h0
    rw [hz'] at h5 h6 ⊢
    exact ⟨HdsAt.nil _ _, CellsAt.nil _ _, by decide, fun h hh => by simp [Ht.zRsp] at hh, by decide, by decide, by decide, by decide⟩
theorem SRow.but {B n g : Nat} {A : Option Addr} {w w' : World} (h : SRow B A n w) (hk : But [g] w w') (hg : g < B) : SRow B A n w' := fun hn => by
  obtain ⟨g2, cs, h1, h2, h3, h4⟩ := h hn
  exact ⟨g2, cs, h1, h2, hk.blk h3 (by simp; omega), h4⟩
theorem und89 : Tryz.prog.underlying 89 = some (.array 2 22) := by kernel_rfl
theorem size22 : (Tryz.prog.info? 22).map (fun i => i.size) = some 1 := by kernel_rfl
theorem idx89 (A B : Option Addr) (n m x y : Nat) (w : World) : (Instr.index 89 (.agg #[.slice A n x, .slice B m y]) (.int .i64 0)).run Tryz.prog w = .ok (.slice A n x) w ∧ (Instr.index 89 (.agg #[.slice A n x, .slice B m y]) (.int .i64 1)).run Tryz.prog w = .ok (.slice B m y) w := by
  have hi := size22
  cases hinf : Tryz.prog.info? 22 with
  | none => rw [hinf] at hi; cases hi
  | some i0 =>
    rw [hinf] at hi
    simp only [Option.map_some, Option.some.injEq] at hi
    constructor <;> simp [Instr.index, run_underlying und89, asIntOf, sizeOf, typeInfo, part, hinf, hi]
theorem srow_lt {B n : Nat} {A : Option Addr} {w : World} (h : SRow B A n w) : ∀ g, A = some ⟨g, 0, none⟩ → n ≠ 0 → g < w.heap.size := fun g hA hn => by
  obtain ⟨g2, cs, h1, h2, h3, _⟩ := h hn
  rw [hA] at h1
  cases h1
  exact (Array.getElem?_eq_some_iff.1 h3).1
set_option maxRecDepth 100000 in
set_option maxHeartbeats 8000000 in
theorem parses_any (b : Ht.Bs) (B : Option Addr) (c : Nat) (w : World) (henv : Env w) (hB : CellsAt w B (Lib.byteCells b)) (hb : b.length ≤ 12000) (hc : b.length ≤ c) (hc2 : c ≤ 9223372036854775807) :
    Calls Tryz.prog 27 #[.slice B b.length c] w fun e w' => e = .returned (.bool true) ∧ Below w.heap.size w w' := by
  have HE := Lib.hid (fun W (hW : Below w.heap.size w W) => henv.next hW)
  have HB := Lib.hid (fun W (hW : Below w.heap.size w W) => hB.next hW (Nat.le_refl _))
  obtain ⟨R, hR⟩ : ∃ R, Ht.parseReq b = R := ⟨_, rfl⟩
  obtain ⟨S, hS⟩ : ∃ S, Ht.parseRsp b = S := ⟨_, rfl⟩
  have HPQ := Lib.hid (fun W A k (hW : Below w.heap.size w W) (hk : b.length ≤ k) (hA : CellsAt W A (Lib.byteCells b)) => (parseReq_any b A k W (HE.out W hW) hk (by omega) hA).mono (fun _ _ h => ReqOut.row h (parse_right b) (parse_zero b)))
  have HPP := Lib.hid (fun W A k (hW : Below w.heap.size w W) (hk : b.length ≤ k) (hA : CellsAt W A (Lib.byteCells b)) => (parseRsp_any b A k W (HE.out W hW) hk (by omega) hA).mono (fun _ _ h => RspOut.row h (Ht.rsp_right b) (fun h0 => (Ht.zero_rsp b h0).1)))
  have HRQ := Lib.hid (fun W (hW : Below w.heap.size w W) => by
    have h := refReq_any b B c W (HB.out W hW) hb hc hc2
    rw [Ht.req_same] at h
    exact h.mono (fun _ _ h => ReqOut.row h (parse_right b) (parse_zero b)))
  have HRP := Lib.hid (fun W (hW : Below w.heap.size w W) => by
    have h := refRsp_any b B c W (HB.out W hW) hb hc hc2
    rw [Ht.rsp_same] at h
    exact h.mono (fun _ _ h => RspOut.row h (Ht.rsp_right b) (fun h0 => (Ht.zero_rsp b h0).1)))
  rw [hR] at HPQ HRQ
  rw [hS] at HPP HRP
  obtain ⟨rq, rn, re⟩ := R
  obtain ⟨sq, sn, se⟩ := S
  dsimp only at HPQ HRQ HPP HRP
  obtain ⟨cur, hcur, hmk⟩ := make_buf b.length (by omega) w
  have hO0 : Own 5 1 w.heap.size (.slice (some ⟨w.heap.size, 0, none⟩) 0 (b.length + 2)) 0 [] (w.alloc (.cells cur 5)) := ⟨World.ownsRow_made w cur (b.length + 2) (Nat.le_refl _) (by unfold maxLen; omega) (by rw [hcur]; omega), by simp⟩
  have HO0 := Lib.hid hO0
  have HW0 := Lib.hid (below_box w (.cells cur 5))
  have HB1 := Lib.hid (HB.out _ HW0.out)
  clear hR hS hO0 hcur henv hB
  go_enter Tryz.func27, Tryz.ntmps27
  go_wp2_with (at_builtin; refine wpList_app_row rfl _ _ rfl HO0.out rfl b B c rfl HB1.out (by omega) ?_)
  intro v1 w1 hO1 hb1 _
  have HO1 := Lib.hid hO1
  have HW1 := Lib.hid (HW0.out.trans hb1)
  clear hO1 hb1 HO0 HB1 hmk HW0
  go_wp2_with (at_builtin; refine wpList_own_append rfl _ _ 22 5 (.int .u8 0) 1 1 rfl Tryz.underlying22 info5 rfl (by decide) HO1.out rfl [.int .u8 7] 1 rfl rfl (by simp [Value.oneCell']) rfl (by unfold maxLen; omega) (by omega) ?_)
  intro v2 w2 hO2 hb2
  have HW2 := Lib.hid (HW1.out.trans hb2)
  (try simp only [Nat.zero_add, List.nil_append] at hO2)
  obtain ⟨g, oc, rfl, hg1, hg2, hg3, hg4, hg5⟩ := own_at hO2
  have HOW : Hid (∀ W, Below w2.heap.size w2 W → CellsAt W (some ⟨g, 0, none⟩) (Lib.byteCells b) ∧ W.cell? ⟨g, b.length, none⟩ = some (.int .u8 7)) := Lib.hid (fun W hW => by
    have hl : (Lib.byteCells b).length = b.length := by simp [Lib.byteCells]
    refine ⟨fun _ => ⟨g, 0, rfl, Nat.lt_of_lt_of_le hg2 hW.size, fun i v hi => ?_⟩, ?_⟩
    · rw [Nat.zero_add]
      have hil := (List.getElem?_eq_some_iff.1 hi).1
      exact (hW.cell (p := ⟨g, i, none⟩) hg2).trans (hg5 i v (by rw [List.getElem?_append_left hil]; exact hi))
    · exact (hW.cell (p := ⟨g, b.length, none⟩) hg2).trans (hg5 _ _ (by rw [List.getElem?_append_right (by omega), hl, Nat.sub_self]; rfl)))
  clear hO2 hb2 hg5 HO1 HW1
  have HBW := Lib.hid (Below.refl w2.heap.size w2)
  go_wp2_with fail
  refine (HPQ.out _ _ _ (HW2.out.trans (HBW.out.mono HW2.out.size)) (by omega) (HOW.out _ HBW.out).1).mono ?_
  rintro e w3 ⟨A3, x3, B3, y3, rfl, ha, hs, hb⟩
  have hz3 := HBW.out.size
  replace HBW := Lib.hid (HBW.out.trans (hb.mono HBW.out.size))
  have HA3 := Lib.hid ha
  have HS3 := Lib.hid hs
  clear ha hs hb
  have hb := below_box w3 (.cells #[.string ⟨rq.method.toArray⟩, .string ⟨rq.target.toArray⟩, .slice A3 rq.heads.length x3, .slice B3 rq.body.length y3] 26)
  have hx := heap_alloc_new w3 (.cells #[.string ⟨rq.method.toArray⟩, .string ⟨rq.target.toArray⟩, .slice A3 rq.heads.length x3, .slice B3 rq.body.length y3] 26)
  replace HA3 := Lib.hid (HA3.out.next hb)
  replace HS3 := Lib.hid (HS3.out.next hb)
  replace HBW := Lib.hid (HBW.out.trans (hb.mono HBW.out.size))
  have HX3 := Lib.hid hx
  clear hb hx
  go_wp2_with fail
  refine (HRQ.out _ (HW2.out.trans (HBW.out.mono HW2.out.size))).mono ?_
  rintro e w4 ⟨A4, x4, B4, y4, rfl, ha, hs, hb⟩
  replace HA3 := Lib.hid (HA3.out.next hb)
  replace HS3 := Lib.hid (HS3.out.next hb)
  replace HX3 := Lib.hid (blk_next hb HX3.out)
  replace HBW := Lib.hid (HBW.out.trans (hb.mono HBW.out.size))
  have HA4 := Lib.hid ha
  have HS4 := Lib.hid hs
  clear ha hs hb
  have hb := below_box w4 (.cells #[.string ⟨rq.method.toArray⟩, .string ⟨rq.target.toArray⟩, .slice A4 rq.heads.length x4, .slice B4 rq.body.length y4] 26)
  have hx := heap_alloc_new w4 (.cells #[.string ⟨rq.method.toArray⟩, .string ⟨rq.target.toArray⟩, .slice A4 rq.heads.length x4, .slice B4 rq.body.length y4] 26)
  replace HA3 := Lib.hid (HA3.out.next hb)
  replace HS3 := Lib.hid (HS3.out.next hb)
  replace HX3 := Lib.hid (blk_next hb HX3.out)
  replace HA4 := Lib.hid (HA4.out.next hb)
  replace HBW := Lib.hid (HBW.out.trans (hb.mono HBW.out.size))
  have HX4 := Lib.hid hx
  clear hb hx
  obtain ⟨c0, c1, c2, c3⟩ := blk4 HX3.out
  obtain ⟨d0, d1, d2, d3⟩ := blk4 HX4.out
  go_wp2_with fail
  refine (refSameReq_any rq rq A3 x3 B3 y3 A4 x4 B4 y4 _ HA3.out HA4.out (q := true) (by simp)).mono ?_
  rintro e w5 ⟨rfl, hb⟩
  replace HA3 := Lib.hid (HA3.out.next hb)
  replace HS3 := Lib.hid (HS3.out.next hb)
  replace HX3 := Lib.hid (blk_next hb HX3.out)
  replace HA4 := Lib.hid (HA4.out.next hb)
  replace HX4 := Lib.hid (blk_next hb HX4.out)
  replace HBW := Lib.hid (HBW.out.trans (hb.mono HBW.out.size))
  clear hb c0 c1 c2 c3 d0 d1 d2 d3
  have HGB := Lib.hid (srow_lt HS3.out)
  have h3l := HA3.out.bl
  go_wp2_with fail
  refine (HPP.out _ _ _ (HW2.out.trans (HBW.out.mono HW2.out.size)) (by omega) (HOW.out _ HBW.out).1).mono ?_
  rintro e w6 ⟨A6, x6, B6, y6, rfl, ha, hs, hb⟩
  have hz6 := HBW.out.size
  replace HA3 := Lib.hid (HA3.out.next hb)
  replace HS3 := Lib.hid (HS3.out.next hb)
  replace HX3 := Lib.hid (blk_next hb HX3.out)
  replace HA4 := Lib.hid (HA4.out.next hb)
  replace HX4 := Lib.hid (blk_next hb HX4.out)
  replace HBW := Lib.hid (HBW.out.trans (hb.mono HBW.out.size))
  have HA6 := Lib.hid ha
  have HS6 := Lib.hid hs
  clear ha hs hb
  have hb := below_box w6 (.cells #[.int .i64 sq.status, .slice A6 sq.heads.length x6, .slice B6 sq.body.length y6] 36)
  have hx := heap_alloc_new w6 (.cells #[.int .i64 sq.status, .slice A6 sq.heads.length x6, .slice B6 sq.body.length y6] 36)
  replace HA3 := Lib.hid (HA3.out.next hb)
  replace HS3 := Lib.hid (HS3.out.next hb)
  replace HX3 := Lib.hid (blk_next hb HX3.out)
  replace HA4 := Lib.hid (HA4.out.next hb)
  replace HX4 := Lib.hid (blk_next hb HX4.out)
  replace HA6 := Lib.hid (HA6.out.next hb)
  replace HS6 := Lib.hid (HS6.out.next hb)
  replace HBW := Lib.hid (HBW.out.trans (hb.mono HBW.out.size))
  have HX6 := Lib.hid hx
  clear hb hx
  go_wp2_with fail
  refine (HRP.out _ (HW2.out.trans (HBW.out.mono HW2.out.size))).mono ?_
  rintro e w7 ⟨A7, x7, B7, y7, rfl, ha, hs, hb⟩
  replace HA3 := Lib.hid (HA3.out.next hb)
  replace HS3 := Lib.hid (HS3.out.next hb)
  replace HX3 := Lib.hid (blk_next hb HX3.out)
  replace HA4 := Lib.hid (HA4.out.next hb)
  replace HX4 := Lib.hid (blk_next hb HX4.out)
  replace HA6 := Lib.hid (HA6.out.next hb)
  replace HS6 := Lib.hid (HS6.out.next hb)
  replace HX6 := Lib.hid (blk_next hb HX6.out)
  replace HBW := Lib.hid (HBW.out.trans (hb.mono HBW.out.size))
  have HA7 := Lib.hid ha
  have HS7 := Lib.hid hs
  clear ha hs hb
  have hb := below_box w7 (.cells #[.int .i64 sq.status, .slice A7 sq.heads.length x7, .slice B7 sq.body.length y7] 36)
  have hx := heap_alloc_new w7 (.cells #[.int .i64 sq.status, .slice A7 sq.heads.length x7, .slice B7 sq.body.length y7] 36)
  replace HA3 := Lib.hid (HA3.out.next hb)
  replace HS3 := Lib.hid (HS3.out.next hb)
  replace HX3 := Lib.hid (blk_next hb HX3.out)
  replace HA4 := Lib.hid (HA4.out.next hb)
  replace HX4 := Lib.hid (blk_next hb HX4.out)
  replace HA6 := Lib.hid (HA6.out.next hb)
  replace HS6 := Lib.hid (HS6.out.next hb)
  replace HX6 := Lib.hid (blk_next hb HX6.out)
  replace HA7 := Lib.hid (HA7.out.next hb)
  replace HBW := Lib.hid (HBW.out.trans (hb.mono HBW.out.size))
  have HX7 := Lib.hid hx
  clear hb hx
  obtain ⟨c0, c1, c2⟩ := blk3 HX6.out
  obtain ⟨d0, d1, d2⟩ := blk3 HX7.out
  go_wp2_with fail
  refine (refSameRsp_any sq sq A6 x6 B6 y6 A7 x7 B7 y7 _ HA6.out HA7.out (q := true) (by simp)).mono ?_
  rintro e w8 ⟨rfl, hb⟩
  replace HA3 := Lib.hid (HA3.out.next hb)
  replace HS3 := Lib.hid (HS3.out.next hb)
  replace HX3 := Lib.hid (blk_next hb HX3.out)
  replace HA4 := Lib.hid (HA4.out.next hb)
  replace HX4 := Lib.hid (blk_next hb HX4.out)
  replace HA6 := Lib.hid (HA6.out.next hb)
  replace HS6 := Lib.hid (HS6.out.next hb)
  replace HX6 := Lib.hid (blk_next hb HX6.out)
  replace HA7 := Lib.hid (HA7.out.next hb)
  replace HX7 := Lib.hid (blk_next hb HX7.out)
  replace HBW := Lib.hid (HBW.out.trans (hb.mono HBW.out.size))
  clear hb c0 c1 c2 d0 d1 d2
  obtain ⟨c0, c1, c2, c3⟩ := blk4 HX3.out
  obtain ⟨d0, d1, d2⟩ := blk3 HX6.out
  have h6l := HA6.out.bl
  have hz25 : w2.heap.size ≤ w5.heap.size := hz6
  clear HPQ HRQ HPP HRP HA3 HA4 HA6 HA7 HX4 HX7
  go_wp2_with fail
  go_loopw [90] (fun i wr => ∃ j : Nat, j ≤ 2 ∧ i = .int .i64 j ∧ Hid (Below w2.heap.size w2 wr) ∧ Hid (j = 0 → SRow w2.heap.size B3 rq.body.length wr) ∧ Hid (j ≤ 1 → SRow w5.heap.size B6 sq.body.length wr)) (fun i _ => 2 - (intOf i).toNat)
  case atStart => exact ⟨0, by omega, rfl, HBW, Lib.hid (fun _ => HS3.out), Lib.hid (fun _ => HS6.out)⟩
  case round =>
    obtain ⟨j, hj, rfl, HBr, HM3, HM6⟩ := hrel
    rcases (show j = 0 ∨ j = 1 ∨ j = 2 by omega) with hj0 | hj0 | hj0
    · subst hj0
      have hix := (idx89 B3 B6 rq.body.length sq.body.length y3 y6 wr).1
      go_wp2_with fail
      clear hix
      go_loopw [95] (fun i wr => ∃ m : Nat, m ≤ rq.body.length ∧ i = .int .i64 m ∧ Hid (Below w2.heap.size w2 wr) ∧ Hid (SRow w2.heap.size B3 rq.body.length wr) ∧ Hid (SRow w5.heap.size B6 sq.body.length wr)) (fun i _ => rq.body.length - (intOf i).toNat)
      case atStart => exact ⟨0, Nat.zero_le _, rfl, HBr, Lib.hid (HM3.out (by simp)), Lib.hid (HM6.out (by omega))⟩
      case round =>
        obtain ⟨m, hm, rfl, HBq, HSr, HSo⟩ := hrel
        by_cases hml : m < rq.body.length
        · obtain ⟨g3, cs, hA9, hg1x, hg2x, hg3x⟩ := HSr.out (by omega)
          have hgb := HGB.out g3 hA9 (by omega)
          obtain ⟨z, hz⟩ := hg3x m hml
          have hzc : wr.cell? ⟨g3, m, none⟩ = some (.int .u8 z) := by rw [blk_cells hg2x]; exact hz
          have hfr := blk_free hg2x m
          have HST := Lib.hid (fun y : Int => SRow.set (n := rq.body.length) (j := m) y hg1x hg2x hg3x)
          clear hg2x hg3x hz
          subst hA9
          go_wp2_with fail
          go_roundw
          case rel => exact ⟨m + 1, by omega, by go_num, Lib.hid (HBq.out.trans ((HST.out _).2.to HBq.out.size (by simpa using hg1x))), Lib.hid (HST.out _).1, Lib.hid (HSo.out.but (HST.out _).2 hgb)⟩
          case measure => simp [intOf]; omega
        · obtain rfl : m = rq.body.length := by omega
          go_wp2_with fail
          go_roundw
          case rel => exact ⟨1, by omega, by go_num, HBq, Lib.hid (fun h => absurd h (by omega)), Lib.hid (fun _ => HSo.out)⟩
          case measure => simp [intOf]
    · subst hj0
      have hix := (idx89 B3 B6 rq.body.length sq.body.length y3 y6 wr).2
      go_wp2_with fail
      clear hix
      go_loopw [95] (fun i wr => ∃ m : Nat, m ≤ sq.body.length ∧ i = .int .i64 m ∧ Hid (Below w2.heap.size w2 wr) ∧ Hid (SRow w5.heap.size B6 sq.body.length wr)) (fun i _ => sq.body.length - (intOf i).toNat)
      case atStart => exact ⟨0, Nat.zero_le _, rfl, HBr, Lib.hid (HM6.out (by omega))⟩
      case round =>
        obtain ⟨m, hm, rfl, HBq, HSr⟩ := hrel
        by_cases hml : m < sq.body.length
        · obtain ⟨g3, cs, hA9, hg1x, hg2x, hg3x⟩ := HSr.out (by omega)
          obtain ⟨z, hz⟩ := hg3x m hml
          have hzc : wr.cell? ⟨g3, m, none⟩ = some (.int .u8 z) := by rw [blk_cells hg2x]; exact hz
          have hfr := blk_free hg2x m
          have HST := Lib.hid (fun y : Int => SRow.set (n := sq.body.length) (j := m) y hg1x hg2x hg3x)
          clear hg2x hg3x hz
          subst hA9
          go_wp2_with fail
          go_roundw
          case rel => exact ⟨m + 1, by omega, by go_num, Lib.hid (HBq.out.trans ((HST.out _).2.to HBq.out.size (by simp; omega))), Lib.hid (HST.out _).1⟩
          case measure => simp [intOf]; omega
        · obtain rfl : m = sq.body.length := by omega
          go_wp2_with fail
          go_roundw
          case rel => exact ⟨2, by omega, by go_num, HBq, Lib.hid (fun h => absurd h (by omega)), Lib.hid (fun h => absurd h (by omega))⟩
          case measure => simp [intOf]
    · subst hj0
      have HWr := Lib.hid (HW2.out.trans (HBr.out.mono HW2.out.size))
      obtain ⟨hown, h7⟩ := HOW.out wr HBr.out
      have HEQ := Lib.hid (bytesEqual_any b b (some ⟨g, 0, none⟩) B oc c wr hown (HB.out wr HWr.out) (q := true) (by simp))
      clear hown c0 c1 c2 c3 d0 d1 d2
      go_wp2_with fail
      refine HEQ.out.mono ?_
      rintro e w' ⟨rfl, rfl⟩
      go_wp2_with fail
      go_ret
      exact ⟨rfl, HWr.out⟩
set_option maxRecDepth 100000 in
set_option maxHeartbeats 8000000 in
theorem parses_law (l : List BArg) (A : Option Addr) (c : Nat) (w : World) (henv : Env w) (hl : BArgsAt w A l) :
    Calls Tryz.prog 7 #[.slice A l.length c] w fun e w' => e = .returned (.bool true) ∧ Below w.heap.size w w' := by
  have HWK := Lib.hid (wakes_any w henv)
  have HE := Lib.hid (fun W (hW : Below w.heap.size w W) => henv.next hW)
  have HL := Lib.hid hl
  have hll := hl.len
  clear henv hl
  go_enter Tryz.func7, Tryz.ntmps7
  go_wp2_with fail
  refine HWK.out.mono ?_
  rintro e w1 ⟨rfl, hb1⟩
  have HW1 := Lib.hid hb1
  clear hb1 HWK
  go_wp2_with fail
  go_loopw [9] (fun i wr => ∃ k : Nat, k ≤ l.length ∧ i = .int .i64 k ∧ Hid (Below w.heap.size w wr)) (fun i _ => l.length - (intOf i).toNat)
  case atStart => exact ⟨0, Nat.zero_le _, rfl, HW1⟩
  case round =>
    obtain ⟨k, hk, rfl, HW⟩ := hrel
    by_cases hlt : k < l.length
    · have hx : l[k]? = some l[k] := List.getElem?_eq_getElem hlt
      have HXI := Lib.hid (HL.out.each _ (List.getElem_mem hlt))
      obtain ⟨bb, off, rfl, hbl, hrow⟩ := HL.out.row (fun h0 => by rw [h0] at hlt; simp at hlt)
      have g0 := (HW.out.cell (p := ⟨bb, off + k, none⟩) hbl).trans (hrow k _ hx)
      clear hrow
      generalize l[k] = x at hx HXI g0
      clear hx
      obtain ⟨b1, hb1⟩ : ∃ b1, x.l.take 12000 = b1 := ⟨_, rfl⟩
      have hl1 : b1.length ≤ 12000 := by rw [← hb1]; exact List.length_take_le _ _
      have hl2 : b1.length ≤ x.l.length := by rw [← hb1]; exact List.length_take_le' _ _
      have hm1 : min (x.l.length : Int) 12000 = (b1.length : Int) := by rw [← hb1, List.length_take]; omega
      have hcap := HXI.out.cap
      have hmem := HXI.out.mem
      have HPA := Lib.hid (parses_any b1 x.A x.c wr (HE.out wr HW.out) (by rw [← hb1]; exact cells_take (HXI.out.at_.next HW.out (Nat.le_refl _)) 12000) hl1 (by omega) hmem)
      clear hb1 HXI
      by_cases h10 : k < 10
      · have h10i : (k : Int) < 10 := by omega
        go_wp2_with fail
        refine HPA.out.mono ?_
        rintro e w2 ⟨rfl, hb2⟩
        have HW2 := Lib.hid (HW.out.trans (hb2.mono HW.out.size))
        clear hb2 HPA
        go_wp2_with fail
        go_roundw
        case rel => exact ⟨k + 1, by omega, by go_num, HW2⟩
        case measure => simp [intOf]; omega
      · have h10i : ¬ (k : Int) < 10 := by omega
        go_wp2_with fail
        go_roundw
        case rel => exact ⟨k + 1, by omega, by go_num, HW⟩
        case measure => simp [intOf]; omega
    · obtain rfl : k = l.length := by omega
      go_wp2_with fail
      go_ret
      exact ⟨rfl, HW.out⟩
end Go.Proofs.YtoadahommlcjpaaGreatDoor
