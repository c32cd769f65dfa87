/-
  THE WALKS, eighteenth part: a script under construction; line of package script. CONDITIONS: Env; the script lies as ScrAt says.
-/
import Derived.Test.YthpojljfmipngaaGreatDoorWalkQ
namespace Go.Proofs.YthpojljfmipngaaGreatDoor
open Go.RowKit
structure EvR where
  x : Sc.Ev
  K : Option Addr
  A : Option Addr
  kc : Nat
  bc : Nat
def EvR.row (r : EvR) : List Value := [.int .i64 r.x.kind, .int .i64 r.x.node, .int .i64 r.x.to, .int .i64 r.x.n, .int .i64 r.x.bit, .slice r.K r.x.keep.length r.kc, .slice r.A r.x.bytes.length r.bc]
/-- A script under construction: its box, the row of events that the call grows, each event's rows. -/
structure ScrAt (w : World) (sb B : Nat) (s : Sc.Scr) (v : Value) (rs : List EvR) : Prop where
  lt : sb < B
  box : w.heap[sb]? = some (.cells #[.int .i64 s.servers, .int .i64 s.area, v] 30 (0, 0))
  own : Own 39 7 B v rs.length (rs.flatMap EvR.row) w
  evs : s.events = rs.map EvR.x
  each : ∀ r ∈ rs, EvT sb w r.x r.K r.A
theorem ScrAt.cells {w : World} {sb B : Nat} {s : Sc.Scr} {v : Value} {rs : List EvR} (h : ScrAt w sb B s v rs) :
    w.cell? ⟨sb, 0, none⟩ = some (.int .i64 s.servers) ∧ w.cell? ⟨sb, 1, none⟩ = some (.int .i64 s.area) ∧ w.cell? ⟨sb, 2, none⟩ = some v ∧ w.frozen? ⟨sb, 2, none⟩ = false ∧ sb < w.heap.size :=
  ⟨(blk_cells h.box 0).trans rfl, (blk_cells h.box 1).trans rfl, (blk_cells h.box 2).trans rfl, blk_free h.box 2, (Array.getElem?_eq_some_iff.1 h.box).1⟩
/-- What is kept by what turns new blocks, and a block of a reader, alone. -/
theorem ScrAt.but {w w' : World} {sb B b : Nat} {s : Sc.Scr} {v : Value} {rs : List EvR} (h : ScrAt w sb B s v rs) (hk : But [b] w w') (hb : ∃ cs fz, w.heap[b]? = some (.cells cs 66 fz)) : ScrAt w' sb B s v rs := by
  obtain ⟨h1, h2, h3, h4, h5⟩ := h
  obtain ⟨cs, fz, hbb⟩ := hb
  have ne : ∀ {j : Nat} {cs' : Array Value} {t : TypeId} {fz' : Nat × Nat}, w.heap[j]? = some (.cells cs' t fz') → t ≠ 66 → j ∉ [b] := by
    intro j cs' t fz' hj ht hm
    simp at hm
    subst hm
    rw [hbb] at hj; injection hj with hj; injection hj with _ hj; exact ht hj.symm
  refine ⟨h1, hk.blk h2 (ne h2 (by decide)), ⟨⟨h3.own.1, ?_⟩, Nat.le_trans h3.le hk.size⟩, h4, fun r hr => (h5 r hr).but hk (by intro j hj; simp at hj; subst hj; exact ⟨cs, 66, fz, hbb, by decide, by decide⟩)⟩
  rcases h3.own.2 with hn | ⟨g, cap, cur, rfl, hb, hg, rest⟩
  · exact .inl hn
  · exact .inr ⟨g, cap, cur, rfl, hb, hk.blk hg (ne hg (by decide)), rest⟩
theorem ScrAt.next {w w' : World} {sb B : Nat} {s : Sc.Scr} {v : Value} {rs : List EvR} (h : ScrAt w sb B s v rs) (hb : Below w.heap.size w w') : ScrAt w' sb B s v rs := by
  obtain ⟨h1, h2, h3, h4, h5⟩ := h
  exact ⟨h1, blk_next hb h2, h3.next hb, h4, fun r hr => (h5 r hr).but (But.of (S := []) hb) (by simp)⟩
theorem wp_own_append {o : Oper} {a : Act} {K : Act → World → Prop} {Q : Exit → Act → World → Prop} (s x : Operand) (t e : TypeId) (z : Value) (size bytes : Nat)
    (ho : o.op = .call { callee := .builtin .append, args := #[s, x], argTypes := #[t, t] }) (ht : Tryz.prog.underlying t = some (.slice e))
    (hi : (Tryz.prog.info? e).map (fun i => (i.zero, i.size, i.bytes)) = some (some z, size, bytes)) (hzs : z.cells.size = size) (hsz : 0 < size)
    {B : Nat} {v : Value} {n : Nat} {xs : List Value} {w : World} (hb : Own e size B v n xs w) (hs : a.eval s = v)
    (news : List Value) (m : Nat) {C : Array Value} (hC : C = news.toArray) (hm : news.length = m * size) (h1 : ∀ u ∈ news, u.oneCell' = true)
    (hx : a.eval x = .slice (some ⟨w.heap.size, 0, none⟩) m m) (h63 : n + m ≤ maxLen) (hbytes : (n + m) * bytes ≤ 140737488355328)
    (h : ∀ v' w', Own e size B v' (n + m) (xs ++ news) w' → Below B w w' → w.grownBy w' v.ownBlock → K (a.put o.dst v') w') : o.wp Tryz.prog a (w.alloc (.cells C e)) K Q := by
  subst hC
  cases hinf : Tryz.prog.info? e with
  | none => rw [hinf] at hi; cases hi
  | some i0 =>
    rw [hinf] at hi
    simp only [Option.map_some, Option.some.injEq, Prod.mk.injEq] at hi
    obtain ⟨hz0, hz1, hz2⟩ := hi
    have hle : B ≤ (w.alloc (.cells news.toArray e)).heap.size := by simp; have := hb.le; omega
    refine wp_append_own _ s x t ho B e i0 z size bytes ht hinf hz0 hz1 hz2 hzs hsz v n xs hs (hb.own.alloc _) ⟨w.heap.size, 0, none⟩ m m news hx hm ?_ h1 h63 hbytes hle ?_
    · intro j u hj
      have hadd : (⟨w.heap.size, 0, none⟩ : Addr).add j = ⟨w.heap.size, j, none⟩ := by unfold Addr.add; split <;> simp_all
      rw [hadd, blk_cells (heap_alloc_new w _) j, List.getElem?_toArray, hj]
    · intro v' w' h1' h2 _
      refine h v' w' ⟨h1', Nat.le_trans hle h2.size⟩ ?_ ?_
      · exact ((Below.refl B w).alloc hb.le (.cells news.toArray e)).grown h2 hle (fun k hk => (hb.own.lt k hk).1)
      · refine ⟨h2.os, h2.tape, h2.output, Nat.le_trans (by simp) h2.size, fun k hk hne => ?_⟩
        exact (h2.block k (by simp; omega) hne).trans (heap_alloc_old w _ hk)
theorem own_shape {e : TypeId} {size B : Nat} {v : Value} {n : Nat} {xs : List Value} {w : World} (h : Own e size B v n xs w) : ∃ A c, v = .slice A n c := by
  rcases h.own.2 with ⟨rfl, rfl⟩ | ⟨g, cap, cur, rfl, _⟩
  · exact ⟨_, _, rfl⟩
  · exact ⟨_, _, rfl⟩
theorem But.grown {w w' : World} {row : Option Nat} (h : w.grownBy w' row) : But row.toList w w' :=
  ⟨h.os, h.tape, h.output, h.size, fun j hj hs => h.block j hj (fun e => hs (by rw [← e]; simp))⟩
theorem ScrAt.notOwn {w : World} {sb B : Nat} {s : Sc.Scr} {v : Value} {rs : List EvR} (h : ScrAt w sb B s v rs) {j : Nat} {cs : Array Value} {t : TypeId} {fz : Nat × Nat} (hj : w.heap[j]? = some (.cells cs t fz)) (ht : t ≠ 39) : j ∉ v.ownBlock.toList := by
  intro hm
  rcases h.own.own.2 with ⟨rfl, _⟩ | ⟨g, cap, cur, rfl, _, hg, _⟩
  · simp [Value.ownBlock] at hm
  · simp [Value.ownBlock] at hm
    subst hm
    rw [hj] at hg; injection hg with hg; injection hg with _ hg; exact ht hg
theorem ScrAt.push {w w' : World} {sb B : Nat} {s : Sc.Scr} {v : Value} {rs : List EvR} (h : ScrAt w sb B s v rs) (r : EvR) (hr : EvT sb w r.x r.K r.A) (hg : But v.ownBlock.toList w w') {A : Option Addr} {c : Nat}
    (hO : Own 39 7 B (.slice A (rs.length + 1) c) (rs.length + 1) (rs.flatMap EvR.row ++ r.row) w') : ScrAt (w'.setCell ⟨sb, 2, none⟩ (.slice A (rs.length + 1) c)) sb B ⟨s.servers, s.area, s.events ++ [r.x]⟩ (.slice A (rs.length + 1) c) (rs ++ [r]) := by
  have hbox := hg.blk h.box (h.notOwn h.box (by decide))
  have hst := but_set (i := 2) (.slice A (rs.length + 1) c) hbox
  have hS : ∀ j ∈ v.ownBlock.toList, ∃ cs t fz, w.heap[j]? = some (.cells cs t fz) ∧ t ≠ 4 ∧ t ≠ 5 := by
    intro j hj
    rcases h.own.own.2 with ⟨rfl, _⟩ | ⟨g, cap, cur, rfl, _, hg, _⟩
    · simp [Value.ownBlock] at hj
    · simp [Value.ownBlock] at hj
      subst hj
      exact ⟨cur, 39, _, hg, by decide, by decide⟩
  have hE : ∀ y : EvR, EvT sb w y.x y.K y.A → EvT sb (w'.setCell ⟨sb, 2, none⟩ (.slice A (rs.length + 1) c)) y.x y.K y.A := fun y hy =>
    (hy.but hg hS).but hst.1 (by intro j hj; simp at hj; subst hj; exact ⟨_, 30, _, hbox, by decide, by decide⟩)
  refine ⟨h.lt, hst.2, ?_, by simp [h.evs], fun y hy => ?_⟩
  · have := hO.but hst.1 (by intro j hj; simp at hj; subst hj; exact h.lt)
    rw [List.length_append, List.flatMap_append]
    simpa using this
  · rcases List.mem_append.1 hy with hy | hy
    · exact hE y (h.each y hy)
    · rw [List.mem_singleton] at hy; subst hy; exact hE y hr
theorem ScrAt.reset {w w' : World} {sb B b : Nat} {s : Sc.Scr} {v : Value} {rs : List EvR} (h : ScrAt w sb B s v rs) (hk : But [b, sb] w w') (hb : ∃ cs fz, w.heap[b]? = some (.cells cs 66 fz)) {x y : Int} (hbox : w'.heap[sb]? = some (.cells #[.int .i64 x, .int .i64 y, v] 30 (0, 0))) : ScrAt w' sb B ⟨x, y, s.events⟩ v rs := by
  obtain ⟨h1, h2, h3, h4, h5⟩ := h
  obtain ⟨cs, fz, hbb⟩ := hb
  have ne : ∀ {j : Nat} {cs' : Array Value} {t : TypeId} {fz' : Nat × Nat}, w.heap[j]? = some (.cells cs' t fz') → t ≠ 66 → t ≠ 30 → j ∉ [b, sb] := by
    intro j cs' t fz' hj ht ht2 hm
    simp at hm
    rcases hm with rfl | rfl
    · rw [hbb] at hj; injection hj with hj; injection hj with _ hj; exact ht hj.symm
    · rw [h2] at hj; injection hj with hj; injection hj with _ hj; exact ht2 hj.symm
  refine ⟨h1, hbox, ⟨⟨h3.own.1, ?_⟩, Nat.le_trans h3.le hk.size⟩, h4, fun r hr => (h5 r hr).but hk (by
    intro j hj
    simp at hj
    rcases hj with rfl | rfl
    · exact ⟨cs, 66, fz, hbb, by decide, by decide⟩
    · exact ⟨_, 30, _, h2, by decide, by decide⟩)⟩
  rcases h3.own.2 with hn | ⟨g, cap, cur, rfl, hb, hg, rest⟩
  · exact .inl hn
  · exact .inr ⟨g, cap, cur, rfl, hb, hk.blk hg (ne hg (by decide) (by decide)), rest⟩
theorem filled_setup (r : Sc.Rd) (a c : Int) (v : Value) : filled #[.int .i64 a, .int .i64 c, v] [0, 1] r 2 = #[.int .i64 ((Sc.numsRd 2 r).1.getD 0 0), .int .i64 ((Sc.numsRd 2 r).1.getD 1 0), v] := rfl
def zeroEv : Value := .agg #[.int .i64 0, .int .i64 0, .int .i64 0, .int .i64 0, .int .i64 0, .slice none 0 0, .slice none 0 0]
theorem info45 : (Tryz.prog.info? 39).map (fun i => (i.zero, i.size, i.bytes)) = some (some zeroEv, 7, 88) := by kernel_rfl
set_option maxRecDepth 100000 in
set_option maxHeartbeats 8000000 in
theorem line_any (sb B : Nat) (s : Sc.Scr) (v : Value) (rs : List EvR) (text : Sc.Bs) (n : Nat) (w : World) (henv : Env w) (hsb : 6 ≤ sb) (hS : ScrAt w sb B s v rs) (hlen : text.length ≤ 1073741824) (hn : rs.length ≤ 1048576) :
    Calls Tryz.prog 11 #[.pointer (some ⟨sb, 0, none⟩), .string ⟨text.toArray⟩, .int .i64 n] w fun e w' => e = .returned (.bool (Sc.line s text n).2) ∧ (∃ v' rs', ScrAt w' sb B (Sc.line s text n).1 v' rs') ∧ Below sb w w' := by
  have hb1 := below_box w (.cells #[.string ⟨text.toArray⟩, .bool false] 66)
  have hr1 : RdAt (w.alloc (.cells #[.string ⟨text.toArray⟩, .bool false] 66)) w.heap.size ⟨text, false⟩ := heap_alloc_new w _
  have HS1 := Lib.hid (hS.next hb1)
  have HR1 := Lib.hid hr1
  have HB1 := Lib.hid hb1
  have HENV1 := Lib.hid (henv.next hb1)
  have hsw := hS.cells.2.2.2.2
  have h6 := henv.big
  clear hb1 hr1 hS henv
  go_enter Tryz.func11, Tryz.ntmps11
  go_wp2_with fail
  generalize w.alloc (.cells #[.string ⟨text.toArray⟩, .bool false] 66) = w1 at HS1 HR1 HB1 HENV1 ⊢
  generalize hbe : w.heap.size = b at HR1 hsw h6 ⊢
  refine (token_any b ⟨text, false⟩ _ HENV1.out HR1.out (Nat.lt_of_le_of_lt hlen (by decide))).mono ?_
  rintro e w2 ⟨rfl, hr2, hk2⟩
  have HS2 := Lib.hid (HS1.out.but hk2 ⟨_, _, HR1.out⟩)
  have HR2 := Lib.hid hr2
  have HB2 : Hid (Below b w w2) := Lib.hid (by rw [← hbe]; exact HB1.out.trans (hk2.to (B := w.heap.size) HB1.out.size (by intro j hj; simp at hj; omega)))
  have HENV2 := Lib.hid (HENV1.out.below (hk2.to (B := 6) HENV1.out.big (by intro j hj; simp at hj; omega)) (Nat.le_refl _))
  have htl := Nat.le_trans (token_le ⟨text, false⟩).2 hlen
  clear hr2 hk2 HS1 HR1 HB1 HENV1
  have HLINE := Lib.hid (show ∀ r, Sc.token ⟨text, false⟩ = r → Sc.token ⟨text, false⟩ = r from fun _ h => h)
  obtain ⟨⟨word, r2⟩, hw2⟩ : ∃ p, Sc.token ⟨text, false⟩ = p := ⟨_, rfl⟩
  have HTOK := Lib.hid hw2
  rw [hw2] at HR2 htl ⊢
  simp only at HR2 htl ⊢
  clear hw2 HLINE
  have hbs : sb ≠ b := Nat.ne_of_lt hsw
  by_cases hn1 : n < 1
  · obtain rfl : n = 0 := by omega
    have e0 : ((0 : Nat) : Int) = 0 := rfl
    have hsp := Lib.hid HS2.out.cells.2.2.2.2
    go_wp2_with fail
    refine (setup_row sb _).mono ?_
    rintro e w3 ⟨SA, rfl, hrow, hb3⟩
    have HS3 := Lib.hid (HS2.out.next hb3)
    have HR3 := Lib.hid (HR2.out.next hb3)
    have HB3 : Hid (Below sb w w3) := Lib.hid ((HB2.out.mono (Nat.le_of_lt hsw)).trans (hb3.mono (Nat.le_of_lt hsp.out)))
    have he3 := HENV2.out.next hb3
    clear hb3 HS2 HR2 HB2 HENV2
    go_wp2_with fail
    refine (rnumbers_any b r2 SA sb [0, 1] _ 30 _ _ he3 h6 hsb hbs HR3.out (Nat.lt_of_le_of_lt htl (by decide)) (by decide) hrow HS3.out.box (by decide) (by intro o ho; simp at ho; simp; omega)).mono ?_
    rintro e w4 ⟨rfl, hR4, hX4, hk4⟩
    rw [show [0, 1].length = 2 from rfl] at hR4 hX4
    rw [filled_setup] at hX4
    have HS4 := Lib.hid (HS3.out.reset hk4 ⟨_, _, HR3.out⟩ hX4)
    have HR4 := Lib.hid hR4
    have HB4 : Hid (Below sb w w4) := Lib.hid (HB3.out.trans (hk4.to (Nat.le_of_lt HS3.out.cells.2.2.2.2) (by intro j hj; simp at hj; omega)))
    clear he3 hrow hR4 hX4 hk4 HS3 HR3 HB3
    have HL1 : Hid ((Sc.line s text 0).1 = ⟨(Sc.numsRd 2 r2).1.getD 0 0, (Sc.numsRd 2 r2).1.getD 1 0, s.events⟩) := Lib.hid (by
      unfold Sc.line; rw [if_pos (by omega)]; simp only; unfold Sc.head; rw [HTOK.out])
    have HL2 : Hid ((Sc.line s text 0).2 = (!((Sc.numsRd 2 r2).2.bad || !decide (word = Sc.worldW)) && (Sc.numsRd 2 r2).2.rest.isEmpty)) := Lib.hid (by
      unfold Sc.line; rw [if_pos (by omega)]; simp only; unfold Sc.head; rw [HTOK.out])
    generalize (Sc.numsRd 2 r2).1.getD 0 0 = sv at HS4 HL1
    generalize (Sc.numsRd 2 r2).1.getD 1 0 = ar at HS4 HL1
    generalize (Sc.numsRd 2 r2).2 = rd at HR4 HL2
    obtain ⟨rr, rb⟩ := rd
    simp only at HL2
    obtain ⟨r0, r1, rf0, rf1, rlt⟩ := HR4.out.cells
    simp only at r0 r1
    cases rb
    · by_cases hww : word = Sc.worldW
      · have HEND : Hid ((Sc.line s text 0).2 = rr.isEmpty) := Lib.hid (by rw [HL2.out, decide_eq_true hww]; simp)
        have HS7 := Lib.hid (HS4.out.but (but_set (i := 1) (.bool false) HR4.out).1 ⟨_, _, HR4.out⟩)
        have HR7 := Lib.hid (HR4.out.bad false)
        have HB7 := Lib.hid (HB4.out.trans ((but_set (i := 1) (.bool false) HR4.out).1.to (Nat.le_of_lt HS4.out.cells.2.2.2.2) (by intro j hj; simp at hj; omega)))
        obtain ⟨z0, z1, zf0, zf1, zlt⟩ := HR7.out.cells
        simp only at z0 z1
        have n1 : (⟨rr.toArray⟩ : ByteArray).toList.isEmpty = rr.isEmpty := by rw [ByteArray.toList_eq]
        generalize (⟨rr.toArray⟩ : ByteArray) = st at n1 z0 r0
        generalize rr.isEmpty = em at n1 HEND
        subst hww
        unfold Sc.worldW
        go_wp2_with fail
        go_ret
        exact ⟨ret_bool HEND.out.symm, ⟨_, _, by rw [HL1.out]; exact HS7.out⟩, HB7.out⟩
      · have HEND : Hid ((Sc.line s text 0).2 = false) := Lib.hid (by rw [HL2.out, decide_eq_false hww]; simp)
        have HS7 := Lib.hid (HS4.out.but (but_set (i := 1) (.bool true) HR4.out).1 ⟨_, _, HR4.out⟩)
        have HR7 := Lib.hid (HR4.out.bad true)
        have HB7 := Lib.hid (HB4.out.trans ((but_set (i := 1) (.bool true) HR4.out).1.to (Nat.le_of_lt HS4.out.cells.2.2.2.2) (by intro j hj; simp at hj; omega)))
        obtain ⟨z0, z1, zf0, zf1, zlt⟩ := HR7.out.cells
        simp only at z0 z1
        unfold Sc.worldW at hww
        have hs2 : (word == [119, 111, 114, 108, 100]) = false := by rw [beq_eq_false_iff_ne]; exact hww
        go_wp2_with fail
        go_ret
        exact ⟨ret_bool HEND.out.symm, ⟨_, _, by rw [HL1.out]; exact HS7.out⟩, HB7.out⟩
    · have HEND : Hid ((Sc.line s text 0).2 = false) := Lib.hid (by rw [HL2.out]; simp)
      have HS7 := Lib.hid (HS4.out.but (but_set (i := 1) (.bool true) HR4.out).1 ⟨_, _, HR4.out⟩)
      have HR7 := Lib.hid (HR4.out.bad true)
      have HB7 := Lib.hid (HB4.out.trans ((but_set (i := 1) (.bool true) HR4.out).1.to (Nat.le_of_lt HS4.out.cells.2.2.2.2) (by intro j hj; simp at hj; omega)))
      obtain ⟨z0, z1, zf0, zf1, zlt⟩ := HR7.out.cells
      simp only at z0 z1
      go_wp2_with fail
      go_ret
      exact ⟨ret_bool HEND.out.symm, ⟨_, _, by rw [HL1.out]; exact HS7.out⟩, HB7.out⟩
  · have hni : ¬ (n : Int) < 1 := by omega
    obtain ⟨c0, c1, c2, cf, clt⟩ := HS2.out.cells
    go_wp2_with fail
    obtain ⟨⟨x, r3⟩, hx⟩ : ∃ p, Sc.event word r2 = p := ⟨_, rfl⟩
    have hCALL : Hid (∀ W, Env W → RdAt W b r2 → Calls Tryz.prog 25 #[.pointer (some ⟨b, 0, none⟩), .string ⟨word.toArray⟩] W fun e w' => ∃ K A kc bc, e = .returned (.agg #[.int .i64 x.kind, .int .i64 x.node, .int .i64 x.to, .int .i64 x.n, .int .i64 x.bit, .slice K x.keep.length kc, .slice A x.bytes.length bc]) ∧ EvT sb w' x K A ∧ RdAt w' b r3 ∧ But [b] W w') := Lib.hid (fun W he hr => by
      have := revent_any b r2 word W he h6 hr htl sb (Nat.le_of_lt (Nat.lt_of_lt_of_le hsw (Nat.le_of_lt hr.cells.2.2.2.2)))
      rw [hx] at this
      exact this)
    have HX := Lib.hid hx
    have HN := Lib.hid hn
    clear hx
    have HCELL : Hid (∀ {w3 : World}, But [b] w2 w3 → w3.cell? ⟨sb, 2, none⟩ = some v) := Lib.hid (fun hk => (HS2.out.but hk ⟨_, _, HR2.out⟩).cells.2.2.1)
    have HBK : Hid (∀ {w3 : World}, But [b] w2 w3 → Own 39 7 B v rs.length (rs.flatMap EvR.row) w3) := Lib.hid (fun hk => (HS2.out.but hk ⟨_, _, HR2.out⟩).own)
    refine wp_region_any (by kernel_rfl) ?_
    change wpAny _ _ _ _ _ _ _ (World.drew _)
    refine wpAny_take (i := 0) (v := ?va0) rfl (by kernel_rfl) (by kernel_rfl) (by kernel_rfl) (fun _ _ _ h => h) (Or.inl ⟨by rfl, ?ya0⟩) ?_
    case ya0 => (intro w; go_simp; (try with_reducible rfl))
    simp only [Act.put, List.getElem_toArray, List.getElem_cons_zero, List.setIfInBounds_toArray, List.set_cons_zero, List.set_cons_succ]
    refine wpAny_take (i := 1) (v := ?va1) rfl (by kernel_rfl) (by kernel_rfl) (by kernel_rfl) (fun _ _ _ h => h) (Or.inl ⟨by rfl, ?ya1⟩) ?_
    case ya1 => (intro w; go_simp; (try with_reducible rfl))
    simp only [Act.put, List.getElem_toArray, List.getElem_cons_zero, List.getElem_cons_succ, List.setIfInBounds_toArray, List.set_cons_zero, List.set_cons_succ]
    refine wpAny_take (i := 2) (v := ?va2) rfl (by kernel_rfl) (by kernel_rfl) (by kernel_rfl) (fun _ _ _ h => h) (Or.inl ⟨by rfl, ?ya2⟩) ?_
    case ya2 => (intro w; go_simp; (try with_reducible rfl))
    simp only [Act.put, List.getElem_toArray, List.getElem_cons_zero, List.getElem_cons_succ, List.setIfInBounds_toArray, List.set_cons_zero, List.set_cons_succ]
    refine wpAny_take (i := 3) (v := ?va3) rfl (by kernel_rfl) (by kernel_rfl) (by kernel_rfl) (fun _ _ _ h => h) (Or.inl ⟨by rfl, ?ya3⟩) ?_
    case ya3 => (intro w; go_simp; (try with_reducible rfl))
    simp only [Act.put, List.getElem_toArray, List.getElem_cons_zero, List.getElem_cons_succ, List.setIfInBounds_toArray, List.set_cons_zero, List.set_cons_succ]
    refine wpAny_take (i := 5) (v := ?va5) rfl (by kernel_rfl) (by kernel_rfl) (by kernel_rfl) (fun _ _ _ h => h) (Or.inl ⟨by rfl, ?ya5⟩) ?_
    case ya5 => (intro w; go_simp; (try with_reducible rfl))
    simp only [Act.put, List.getElem_toArray, List.getElem_cons_zero, List.getElem_cons_succ, List.setIfInBounds_toArray, List.set_cons_zero, List.set_cons_succ]
    refine wpAny_take (i := 6) (v := ?va6) rfl (by kernel_rfl) (by kernel_rfl) (by kernel_rfl) (fun _ _ _ h => h) (Or.inl ⟨by rfl, ?ya6⟩) ?_
    case ya6 => (intro w; go_simp; (try with_reducible rfl))
    simp only [Act.put, List.getElem_toArray, List.getElem_cons_zero, List.getElem_cons_succ, List.setIfInBounds_toArray, List.set_cons_zero, List.set_cons_succ]
    refine wpAny_ready (rs := [4, 7]) (by kernel_rfl) (by simp) ?_
    refine AllReady.cons rfl (fun KK hKK => ?_) (AllReady.cons rfl (fun KK hKK => ?_) (AllReady.nil))
    · rw [if_pos (by rfl)]
      go_simp
      refine hKK _ _ ?_
      clear hKK KK
      refine wpAny_ready (rs := [7]) (by kernel_rfl) (by simp) ?_
      refine AllReady.cons rfl (fun KK hKK => ?_) (AllReady.nil)
      · rw [if_pos (by rfl)]
        go_simp
        refine (hCALL.out _ (HENV2.out.below (below_drewN (Below.refl 6 _) 1) (Nat.le_refl _)) HR2.out).mono ?_
        rintro e w3 ⟨K, A, kc, bc, rfl, hev, hr3, hk0⟩
        have hk3 : But [b] w2 w3 := (But.of (below_drewN (Below.refl _ _) 1)).trans hk0
        have d2 : w3.cell? ⟨sb, 2, none⟩ = some v := HCELL.out hk3
        have dlt : sb < w3.heap.size := Nat.lt_of_lt_of_le clt hk3.size
        have HEV := Lib.hid hev
        have HR3 := Lib.hid hr3
        have HK3 := Lib.hid hk3
        clear hev hr3 hk3 hk0 c0 c1 c2 cf clt
        simp only []
        refine hKK _ _ ?_
        clear hKK KK
        refine wpAny_ready (rs := [8]) (by kernel_rfl) (by simp) ?_
        refine AllReady.cons rfl (fun KK hKK => ?_) (AllReady.nil)
        · rw [if_pos (by rfl)]
          go_simp
          refine hKK _ _ ?_
          clear hKK KK
          refine wpAny_ready (rs := [9]) (by kernel_rfl) (by simp) ?_
          refine AllReady.cons rfl (fun KK hKK => ?_) (AllReady.nil)
          · rw [if_pos (by rfl)]
            refine wp_own_append _ _ 28 39 zeroEv 7 88 rfl Tryz.underlying28 info45 rfl (by decide) (HBK.out HK3.out) rfl (EvR.row ⟨x, K, A, kc, bc⟩) 1 rfl rfl (by intro u hu; simp [EvR.row] at hu; rcases hu with rfl | rfl | rfl | rfl | rfl | rfl | rfl <;> rfl) rfl (by have := HN.out; unfold maxLen; omega) (by have := HN.out; omega) ?_
            intro v' w5 hO5 hb5 hg5
            obtain ⟨A9, c9, rfl⟩ := own_shape hO5
            have HS3 := Lib.hid (HS2.out.but HK3.out ⟨_, _, HR2.out⟩)
            have HG := Lib.hid (But.grown hg5)
            have HR5 : Hid (RdAt w5 b r3) := Lib.hid (HG.out.blk HR3.out (HS3.out.notOwn HR3.out (by decide)))
            have HX5 := Lib.hid (HG.out.blk HS3.out.box (HS3.out.notOwn HS3.out.box (by decide)))
            have HO5 := Lib.hid hO5
            have hst := but_set (i := 2) (.slice A9 (rs.length + 1) c9) HX5.out
            have x2 := (blk_cells HX5.out 2).trans rfl
            have xf := blk_free HX5.out 2
            have xlt : sb < w5.heap.size := (Array.getElem?_eq_some_iff.1 HX5.out).1
            have HS6 : Hid (ScrAt (w5.setCell ⟨sb, 2, none⟩ (.slice A9 (rs.length + 1) c9)) sb B ⟨s.servers, s.area, s.events ++ [x]⟩ (.slice A9 (rs.length + 1) c9) (rs ++ [⟨x, K, A, kc, bc⟩])) := Lib.hid (HS3.out.push ⟨x, K, A, kc, bc⟩ HEV.out HG.out HO5.out)
            have HR6 : Hid (RdAt (w5.setCell ⟨sb, 2, none⟩ (.slice A9 (rs.length + 1) c9)) b r3) := Lib.hid (hst.1.blk HR5.out (by simpa using Ne.symm hbs))
            have HB6 : Hid (Below sb w (w5.setCell ⟨sb, 2, none⟩ (.slice A9 (rs.length + 1) c9))) := Lib.hid (by
              have h1 : Below sb w2 w3 := HK3.out.to (Nat.le_of_lt HS2.out.cells.2.2.2.2) (by intro j hj; simp at hj; omega)
              have h2 : Below sb w3 w5 := hb5.mono (Nat.le_of_lt HS3.out.lt)
              have h3 : Below sb w5 (w5.setCell ⟨sb, 2, none⟩ (.slice A9 (rs.length + 1) c9)) := hst.1.to (Nat.le_of_lt xlt) (by intro j hj; simp at hj; omega)
              exact (HB2.out.mono (Nat.le_of_lt hsw)).trans (h1.trans (h2.trans h3)))
            clear hO5 hb5 hg5 hst d2 dlt HX5 HR5 HO5 HG HS3 HEV HR3
            refine hKK _ _ ?_
            clear hKK KK
            refine wpAny_take (i := 10) (v := ?vb10) rfl (by kernel_rfl) (by kernel_rfl) (by kernel_rfl) (fun _ _ _ h => h) (Or.inl ⟨by rfl, ?yb10⟩) ?_
            case yb10 => (intro w; go_simp; (try with_reducible rfl))
            simp only [Act.put, List.getElem_toArray, List.getElem_cons_zero, List.getElem_cons_succ, List.setIfInBounds_toArray, List.set_cons_zero, List.set_cons_succ]
            refine wpAny_take (i := 11) (v := ?vb11) rfl (by kernel_rfl) (by kernel_rfl) (by kernel_rfl) (fun _ _ _ h => h) (Or.inl ⟨by rfl, ?yb11⟩) ?_
            case yb11 => (intro w; go_simp; (try with_reducible rfl))
            simp only [Act.put, List.getElem_toArray, List.getElem_cons_zero, List.getElem_cons_succ, List.setIfInBounds_toArray, List.set_cons_zero, List.set_cons_succ]
            refine wpAny_ready (rs := [12]) (by kernel_rfl) (by simp) ?_
            refine AllReady.cons rfl (fun KK hKK => ?_) (AllReady.nil)
            · rw [if_pos (by rfl)]
              go_simp
              refine hKK _ _ ?_
              clear hKK KK x2 xf xlt
              refine wpAny_done (by kernel_rfl) ?_ _
              obtain ⟨r0, r1, rf0, rf1, rlt⟩ := HR6.out.cells
              obtain ⟨k0, k1, k2, kf, klt⟩ := HS6.out.cells
              have HLN : Hid ((Sc.line s text n).1 = ⟨s.servers, s.area, s.events ++ [x]⟩) := Lib.hid (by unfold Sc.line; rw [if_neg hn1]; simp only; unfold Sc.body; rw [HTOK.out]; simp only; rw [HX.out])
              have hLB : (Sc.line s text n).2 = (!(r3.bad || decide (300 < rs.length + 1)) && r3.rest.isEmpty) := by
                unfold Sc.line
                rw [if_neg hn1]
                simp only
                unfold Sc.body
                rw [HTOK.out]
                simp only
                rw [HX.out, HS2.out.evs, List.length_map]
              have HLB := Lib.hid hLB
              obtain ⟨rr, rb⟩ := r3
              simp only at r0 r1
              clear hLB
              cases rb
              · by_cases h3 : (300 : Int) < (rs.length : Int) + 1
                · have HEND : Hid ((Sc.line s text n).2 = false) := Lib.hid (by rw [HLB.out, decide_eq_true (show 300 < rs.length + 1 by omega)]; simp)
                  have HS7 := Lib.hid (HS6.out.but (but_set (i := 1) (.bool true) HR6.out).1 ⟨_, _, HR6.out⟩)
                  have HR7 := Lib.hid (HR6.out.bad true)
                  have HB7 := Lib.hid (HB6.out.trans ((but_set (i := 1) (.bool true) HR6.out).1.to (Nat.le_of_lt HS6.out.cells.2.2.2.2) (by intro j hj; simp at hj; omega)))
                  obtain ⟨z0, z1, zf0, zf1, zlt⟩ := HR7.out.cells
                  simp only at z0 z1
                  go_wp2_with fail
                  go_ret
                  exact ⟨ret_bool HEND.out.symm, ⟨_, _, by rw [HLN.out]; exact HS7.out⟩, HB7.out⟩
                · have HEND : Hid ((Sc.line s text n).2 = rr.isEmpty) := Lib.hid (by rw [HLB.out, decide_eq_false (show ¬ 300 < rs.length + 1 by omega)]; simp)
                  have HS7 := Lib.hid (HS6.out.but (but_set (i := 1) (.bool false) HR6.out).1 ⟨_, _, HR6.out⟩)
                  have HR7 := Lib.hid (HR6.out.bad false)
                  have HB7 := Lib.hid (HB6.out.trans ((but_set (i := 1) (.bool false) HR6.out).1.to (Nat.le_of_lt HS6.out.cells.2.2.2.2) (by intro j hj; simp at hj; omega)))
                  obtain ⟨z0, z1, zf0, zf1, zlt⟩ := HR7.out.cells
                  simp only at z0 z1
                  have n1 : (⟨rr.toArray⟩ : ByteArray).toList.isEmpty = rr.isEmpty := by rw [ByteArray.toList_eq]
                  generalize (⟨rr.toArray⟩ : ByteArray) = st at n1 z0 r0
                  generalize rr.isEmpty = em at n1 HEND
                  go_wp2_with fail
                  all_goals go_ret
                  all_goals exact ⟨ret_bool (by rw [HEND.out]), ⟨_, _, by rw [HLN.out]; exact HS7.out⟩, HB7.out⟩
              · have HEND : Hid ((Sc.line s text n).2 = false) := Lib.hid (by rw [HLB.out]; simp)
                have HS7 := Lib.hid (HS6.out.but (but_set (i := 1) (.bool true) HR6.out).1 ⟨_, _, HR6.out⟩)
                have HR7 := Lib.hid (HR6.out.bad true)
                have HB7 := Lib.hid (HB6.out.trans ((but_set (i := 1) (.bool true) HR6.out).1.to (Nat.le_of_lt HS6.out.cells.2.2.2.2) (by intro j hj; simp at hj; omega)))
                obtain ⟨z0, z1, zf0, zf1, zlt⟩ := HR7.out.cells
                simp only at z0 z1
                go_wp2_with fail
                go_ret
                exact ⟨ret_bool HEND.out.symm, ⟨_, _, by rw [HLN.out]; exact HS7.out⟩, HB7.out⟩
    · rw [if_pos (by rfl)]
      go_simp
      refine (hCALL.out _ (HENV2.out.below (below_drewN (Below.refl 6 _) 1) (Nat.le_refl _)) HR2.out).mono ?_
      rintro e w3 ⟨K, A, kc, bc, rfl, hev, hr3, hk0⟩
      have hk3 : But [b] w2 w3 := (But.of (below_drewN (Below.refl _ _) 1)).trans hk0
      have d2 : w3.cell? ⟨sb, 2, none⟩ = some v := HCELL.out hk3
      have dlt : sb < w3.heap.size := Nat.lt_of_lt_of_le clt hk3.size
      have HEV := Lib.hid hev
      have HR3 := Lib.hid hr3
      have HK3 := Lib.hid hk3
      clear hev hr3 hk3 hk0 c0 c1 c2 cf clt
      simp only []
      refine hKK _ _ ?_
      clear hKK KK
      refine wpAny_ready (rs := [4, 8]) (by kernel_rfl) (by simp) ?_
      refine AllReady.cons rfl (fun KK hKK => ?_) (AllReady.cons rfl (fun KK hKK => ?_) (AllReady.nil))
      · rw [if_pos (by rfl)]
        go_simp
        refine hKK _ _ ?_
        clear hKK KK
        refine wpAny_ready (rs := [8]) (by kernel_rfl) (by simp) ?_
        refine AllReady.cons rfl (fun KK hKK => ?_) (AllReady.nil)
        · rw [if_pos (by rfl)]
          go_simp
          refine hKK _ _ ?_
          clear hKK KK
          refine wpAny_ready (rs := [9]) (by kernel_rfl) (by simp) ?_
          refine AllReady.cons rfl (fun KK hKK => ?_) (AllReady.nil)
          · rw [if_pos (by rfl)]
            refine wp_own_append _ _ 28 39 zeroEv 7 88 rfl Tryz.underlying28 info45 rfl (by decide) (HBK.out HK3.out) rfl (EvR.row ⟨x, K, A, kc, bc⟩) 1 rfl rfl (by intro u hu; simp [EvR.row] at hu; rcases hu with rfl | rfl | rfl | rfl | rfl | rfl | rfl <;> rfl) rfl (by have := HN.out; unfold maxLen; omega) (by have := HN.out; omega) ?_
            intro v' w5 hO5 hb5 hg5
            obtain ⟨A9, c9, rfl⟩ := own_shape hO5
            have HS3 := Lib.hid (HS2.out.but HK3.out ⟨_, _, HR2.out⟩)
            have HG := Lib.hid (But.grown hg5)
            have HR5 : Hid (RdAt w5 b r3) := Lib.hid (HG.out.blk HR3.out (HS3.out.notOwn HR3.out (by decide)))
            have HX5 := Lib.hid (HG.out.blk HS3.out.box (HS3.out.notOwn HS3.out.box (by decide)))
            have HO5 := Lib.hid hO5
            have hst := but_set (i := 2) (.slice A9 (rs.length + 1) c9) HX5.out
            have x2 := (blk_cells HX5.out 2).trans rfl
            have xf := blk_free HX5.out 2
            have xlt : sb < w5.heap.size := (Array.getElem?_eq_some_iff.1 HX5.out).1
            have HS6 : Hid (ScrAt (w5.setCell ⟨sb, 2, none⟩ (.slice A9 (rs.length + 1) c9)) sb B ⟨s.servers, s.area, s.events ++ [x]⟩ (.slice A9 (rs.length + 1) c9) (rs ++ [⟨x, K, A, kc, bc⟩])) := Lib.hid (HS3.out.push ⟨x, K, A, kc, bc⟩ HEV.out HG.out HO5.out)
            have HR6 : Hid (RdAt (w5.setCell ⟨sb, 2, none⟩ (.slice A9 (rs.length + 1) c9)) b r3) := Lib.hid (hst.1.blk HR5.out (by simpa using Ne.symm hbs))
            have HB6 : Hid (Below sb w (w5.setCell ⟨sb, 2, none⟩ (.slice A9 (rs.length + 1) c9))) := Lib.hid (by
              have h1 : Below sb w2 w3 := HK3.out.to (Nat.le_of_lt HS2.out.cells.2.2.2.2) (by intro j hj; simp at hj; omega)
              have h2 : Below sb w3 w5 := hb5.mono (Nat.le_of_lt HS3.out.lt)
              have h3 : Below sb w5 (w5.setCell ⟨sb, 2, none⟩ (.slice A9 (rs.length + 1) c9)) := hst.1.to (Nat.le_of_lt xlt) (by intro j hj; simp at hj; omega)
              exact (HB2.out.mono (Nat.le_of_lt hsw)).trans (h1.trans (h2.trans h3)))
            clear hO5 hb5 hg5 hst d2 dlt HX5 HR5 HO5 HG HS3 HEV HR3
            refine hKK _ _ ?_
            clear hKK KK
            refine wpAny_take (i := 10) (v := ?vc10) rfl (by kernel_rfl) (by kernel_rfl) (by kernel_rfl) (fun _ _ _ h => h) (Or.inl ⟨by rfl, ?yc10⟩) ?_
            case yc10 => (intro w; go_simp; (try with_reducible rfl))
            simp only [Act.put, List.getElem_toArray, List.getElem_cons_zero, List.getElem_cons_succ, List.setIfInBounds_toArray, List.set_cons_zero, List.set_cons_succ]
            refine wpAny_take (i := 11) (v := ?vc11) rfl (by kernel_rfl) (by kernel_rfl) (by kernel_rfl) (fun _ _ _ h => h) (Or.inl ⟨by rfl, ?yc11⟩) ?_
            case yc11 => (intro w; go_simp; (try with_reducible rfl))
            simp only [Act.put, List.getElem_toArray, List.getElem_cons_zero, List.getElem_cons_succ, List.setIfInBounds_toArray, List.set_cons_zero, List.set_cons_succ]
            refine wpAny_ready (rs := [12]) (by kernel_rfl) (by simp) ?_
            refine AllReady.cons rfl (fun KK hKK => ?_) (AllReady.nil)
            · rw [if_pos (by rfl)]
              go_simp
              refine hKK _ _ ?_
              clear hKK KK x2 xf xlt
              refine wpAny_done (by kernel_rfl) ?_ _
              obtain ⟨r0, r1, rf0, rf1, rlt⟩ := HR6.out.cells
              obtain ⟨k0, k1, k2, kf, klt⟩ := HS6.out.cells
              have HLN : Hid ((Sc.line s text n).1 = ⟨s.servers, s.area, s.events ++ [x]⟩) := Lib.hid (by unfold Sc.line; rw [if_neg hn1]; simp only; unfold Sc.body; rw [HTOK.out]; simp only; rw [HX.out])
              have hLB : (Sc.line s text n).2 = (!(r3.bad || decide (300 < rs.length + 1)) && r3.rest.isEmpty) := by
                unfold Sc.line
                rw [if_neg hn1]
                simp only
                unfold Sc.body
                rw [HTOK.out]
                simp only
                rw [HX.out, HS2.out.evs, List.length_map]
              have HLB := Lib.hid hLB
              obtain ⟨rr, rb⟩ := r3
              simp only at r0 r1
              clear hLB
              cases rb
              · by_cases h3 : (300 : Int) < (rs.length : Int) + 1
                · have HEND : Hid ((Sc.line s text n).2 = false) := Lib.hid (by rw [HLB.out, decide_eq_true (show 300 < rs.length + 1 by omega)]; simp)
                  have HS7 := Lib.hid (HS6.out.but (but_set (i := 1) (.bool true) HR6.out).1 ⟨_, _, HR6.out⟩)
                  have HR7 := Lib.hid (HR6.out.bad true)
                  have HB7 := Lib.hid (HB6.out.trans ((but_set (i := 1) (.bool true) HR6.out).1.to (Nat.le_of_lt HS6.out.cells.2.2.2.2) (by intro j hj; simp at hj; omega)))
                  obtain ⟨z0, z1, zf0, zf1, zlt⟩ := HR7.out.cells
                  simp only at z0 z1
                  go_wp2_with fail
                  go_ret
                  exact ⟨ret_bool HEND.out.symm, ⟨_, _, by rw [HLN.out]; exact HS7.out⟩, HB7.out⟩
                · have HEND : Hid ((Sc.line s text n).2 = rr.isEmpty) := Lib.hid (by rw [HLB.out, decide_eq_false (show ¬ 300 < rs.length + 1 by omega)]; simp)
                  have HS7 := Lib.hid (HS6.out.but (but_set (i := 1) (.bool false) HR6.out).1 ⟨_, _, HR6.out⟩)
                  have HR7 := Lib.hid (HR6.out.bad false)
                  have HB7 := Lib.hid (HB6.out.trans ((but_set (i := 1) (.bool false) HR6.out).1.to (Nat.le_of_lt HS6.out.cells.2.2.2.2) (by intro j hj; simp at hj; omega)))
                  obtain ⟨z0, z1, zf0, zf1, zlt⟩ := HR7.out.cells
                  simp only at z0 z1
                  have n1 : (⟨rr.toArray⟩ : ByteArray).toList.isEmpty = rr.isEmpty := by rw [ByteArray.toList_eq]
                  generalize (⟨rr.toArray⟩ : ByteArray) = st at n1 z0 r0
                  generalize rr.isEmpty = em at n1 HEND
                  go_wp2_with fail
                  all_goals go_ret
                  all_goals exact ⟨ret_bool (by rw [HEND.out]), ⟨_, _, by rw [HLN.out]; exact HS7.out⟩, HB7.out⟩
              · have HEND : Hid ((Sc.line s text n).2 = false) := Lib.hid (by rw [HLB.out]; simp)
                have HS7 := Lib.hid (HS6.out.but (but_set (i := 1) (.bool true) HR6.out).1 ⟨_, _, HR6.out⟩)
                have HR7 := Lib.hid (HR6.out.bad true)
                have HB7 := Lib.hid (HB6.out.trans ((but_set (i := 1) (.bool true) HR6.out).1.to (Nat.le_of_lt HS6.out.cells.2.2.2.2) (by intro j hj; simp at hj; omega)))
                obtain ⟨z0, z1, zf0, zf1, zlt⟩ := HR7.out.cells
                simp only at z0 z1
                go_wp2_with fail
                go_ret
                exact ⟨ret_bool HEND.out.symm, ⟨_, _, by rw [HLN.out]; exact HS7.out⟩, HB7.out⟩
      · rw [if_pos (by rfl)]
        go_simp
        refine hKK _ _ ?_
        clear hKK KK
        refine wpAny_ready (rs := [4]) (by kernel_rfl) (by simp) ?_
        refine AllReady.cons rfl (fun KK hKK => ?_) (AllReady.nil)
        · rw [if_pos (by rfl)]
          go_simp
          refine hKK _ _ ?_
          clear hKK KK
          refine wpAny_ready (rs := [9]) (by kernel_rfl) (by simp) ?_
          refine AllReady.cons rfl (fun KK hKK => ?_) (AllReady.nil)
          · rw [if_pos (by rfl)]
            refine wp_own_append _ _ 28 39 zeroEv 7 88 rfl Tryz.underlying28 info45 rfl (by decide) (HBK.out HK3.out) rfl (EvR.row ⟨x, K, A, kc, bc⟩) 1 rfl rfl (by intro u hu; simp [EvR.row] at hu; rcases hu with rfl | rfl | rfl | rfl | rfl | rfl | rfl <;> rfl) rfl (by have := HN.out; unfold maxLen; omega) (by have := HN.out; omega) ?_
            intro v' w5 hO5 hb5 hg5
            obtain ⟨A9, c9, rfl⟩ := own_shape hO5
            have HS3 := Lib.hid (HS2.out.but HK3.out ⟨_, _, HR2.out⟩)
            have HG := Lib.hid (But.grown hg5)
            have HR5 : Hid (RdAt w5 b r3) := Lib.hid (HG.out.blk HR3.out (HS3.out.notOwn HR3.out (by decide)))
            have HX5 := Lib.hid (HG.out.blk HS3.out.box (HS3.out.notOwn HS3.out.box (by decide)))
            have HO5 := Lib.hid hO5
            have hst := but_set (i := 2) (.slice A9 (rs.length + 1) c9) HX5.out
            have x2 := (blk_cells HX5.out 2).trans rfl
            have xf := blk_free HX5.out 2
            have xlt : sb < w5.heap.size := (Array.getElem?_eq_some_iff.1 HX5.out).1
            have HS6 : Hid (ScrAt (w5.setCell ⟨sb, 2, none⟩ (.slice A9 (rs.length + 1) c9)) sb B ⟨s.servers, s.area, s.events ++ [x]⟩ (.slice A9 (rs.length + 1) c9) (rs ++ [⟨x, K, A, kc, bc⟩])) := Lib.hid (HS3.out.push ⟨x, K, A, kc, bc⟩ HEV.out HG.out HO5.out)
            have HR6 : Hid (RdAt (w5.setCell ⟨sb, 2, none⟩ (.slice A9 (rs.length + 1) c9)) b r3) := Lib.hid (hst.1.blk HR5.out (by simpa using Ne.symm hbs))
            have HB6 : Hid (Below sb w (w5.setCell ⟨sb, 2, none⟩ (.slice A9 (rs.length + 1) c9))) := Lib.hid (by
              have h1 : Below sb w2 w3 := HK3.out.to (Nat.le_of_lt HS2.out.cells.2.2.2.2) (by intro j hj; simp at hj; omega)
              have h2 : Below sb w3 w5 := hb5.mono (Nat.le_of_lt HS3.out.lt)
              have h3 : Below sb w5 (w5.setCell ⟨sb, 2, none⟩ (.slice A9 (rs.length + 1) c9)) := hst.1.to (Nat.le_of_lt xlt) (by intro j hj; simp at hj; omega)
              exact (HB2.out.mono (Nat.le_of_lt hsw)).trans (h1.trans (h2.trans h3)))
            clear hO5 hb5 hg5 hst d2 dlt HX5 HR5 HO5 HG HS3 HEV HR3
            refine hKK _ _ ?_
            clear hKK KK
            refine wpAny_take (i := 10) (v := ?vd10) rfl (by kernel_rfl) (by kernel_rfl) (by kernel_rfl) (fun _ _ _ h => h) (Or.inl ⟨by rfl, ?yd10⟩) ?_
            case yd10 => (intro w; go_simp; (try with_reducible rfl))
            simp only [Act.put, List.getElem_toArray, List.getElem_cons_zero, List.getElem_cons_succ, List.setIfInBounds_toArray, List.set_cons_zero, List.set_cons_succ]
            refine wpAny_take (i := 11) (v := ?vd11) rfl (by kernel_rfl) (by kernel_rfl) (by kernel_rfl) (fun _ _ _ h => h) (Or.inl ⟨by rfl, ?yd11⟩) ?_
            case yd11 => (intro w; go_simp; (try with_reducible rfl))
            simp only [Act.put, List.getElem_toArray, List.getElem_cons_zero, List.getElem_cons_succ, List.setIfInBounds_toArray, List.set_cons_zero, List.set_cons_succ]
            refine wpAny_ready (rs := [12]) (by kernel_rfl) (by simp) ?_
            refine AllReady.cons rfl (fun KK hKK => ?_) (AllReady.nil)
            · rw [if_pos (by rfl)]
              go_simp
              refine hKK _ _ ?_
              clear hKK KK x2 xf xlt
              refine wpAny_done (by kernel_rfl) ?_ _
              obtain ⟨r0, r1, rf0, rf1, rlt⟩ := HR6.out.cells
              obtain ⟨k0, k1, k2, kf, klt⟩ := HS6.out.cells
              have HLN : Hid ((Sc.line s text n).1 = ⟨s.servers, s.area, s.events ++ [x]⟩) := Lib.hid (by unfold Sc.line; rw [if_neg hn1]; simp only; unfold Sc.body; rw [HTOK.out]; simp only; rw [HX.out])
              have hLB : (Sc.line s text n).2 = (!(r3.bad || decide (300 < rs.length + 1)) && r3.rest.isEmpty) := by
                unfold Sc.line
                rw [if_neg hn1]
                simp only
                unfold Sc.body
                rw [HTOK.out]
                simp only
                rw [HX.out, HS2.out.evs, List.length_map]
              have HLB := Lib.hid hLB
              obtain ⟨rr, rb⟩ := r3
              simp only at r0 r1
              clear hLB
              cases rb
              · by_cases h3 : (300 : Int) < (rs.length : Int) + 1
                · have HEND : Hid ((Sc.line s text n).2 = false) := Lib.hid (by rw [HLB.out, decide_eq_true (show 300 < rs.length + 1 by omega)]; simp)
                  have HS7 := Lib.hid (HS6.out.but (but_set (i := 1) (.bool true) HR6.out).1 ⟨_, _, HR6.out⟩)
                  have HR7 := Lib.hid (HR6.out.bad true)
                  have HB7 := Lib.hid (HB6.out.trans ((but_set (i := 1) (.bool true) HR6.out).1.to (Nat.le_of_lt HS6.out.cells.2.2.2.2) (by intro j hj; simp at hj; omega)))
                  obtain ⟨z0, z1, zf0, zf1, zlt⟩ := HR7.out.cells
                  simp only at z0 z1
                  go_wp2_with fail
                  go_ret
                  exact ⟨ret_bool HEND.out.symm, ⟨_, _, by rw [HLN.out]; exact HS7.out⟩, HB7.out⟩
                · have HEND : Hid ((Sc.line s text n).2 = rr.isEmpty) := Lib.hid (by rw [HLB.out, decide_eq_false (show ¬ 300 < rs.length + 1 by omega)]; simp)
                  have HS7 := Lib.hid (HS6.out.but (but_set (i := 1) (.bool false) HR6.out).1 ⟨_, _, HR6.out⟩)
                  have HR7 := Lib.hid (HR6.out.bad false)
                  have HB7 := Lib.hid (HB6.out.trans ((but_set (i := 1) (.bool false) HR6.out).1.to (Nat.le_of_lt HS6.out.cells.2.2.2.2) (by intro j hj; simp at hj; omega)))
                  obtain ⟨z0, z1, zf0, zf1, zlt⟩ := HR7.out.cells
                  simp only at z0 z1
                  have n1 : (⟨rr.toArray⟩ : ByteArray).toList.isEmpty = rr.isEmpty := by rw [ByteArray.toList_eq]
                  generalize (⟨rr.toArray⟩ : ByteArray) = st at n1 z0 r0
                  generalize rr.isEmpty = em at n1 HEND
                  go_wp2_with fail
                  all_goals go_ret
                  all_goals exact ⟨ret_bool (by rw [HEND.out]), ⟨_, _, by rw [HLN.out]; exact HS7.out⟩, HB7.out⟩
              · have HEND : Hid ((Sc.line s text n).2 = false) := Lib.hid (by rw [HLB.out]; simp)
                have HS7 := Lib.hid (HS6.out.but (but_set (i := 1) (.bool true) HR6.out).1 ⟨_, _, HR6.out⟩)
                have HR7 := Lib.hid (HR6.out.bad true)
                have HB7 := Lib.hid (HB6.out.trans ((but_set (i := 1) (.bool true) HR6.out).1.to (Nat.le_of_lt HS6.out.cells.2.2.2.2) (by intro j hj; simp at hj; omega)))
                obtain ⟨z0, z1, zf0, zf1, zlt⟩ := HR7.out.cells
                simp only at z0 z1
                go_wp2_with fail
                go_ret
                exact ⟨ret_bool HEND.out.symm, ⟨_, _, by rw [HLN.out]; exact HS7.out⟩, HB7.out⟩
end Go.Proofs.YthpojljfmipngaaGreatDoor
