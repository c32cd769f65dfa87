/-
  THE WALKS: ScriptTells, the law of chapter 28. CONDITIONS: the arguments lie as ArgReps and EvAt say.
-/
import Derived.Test.YthpojljfmipngaaDoorTellB
import Derived.Test.YthpojljfmipngaaDoorWalkT
import Derived.Test.YthpojljfmipngaaDoorWalkV
import Derived.Laws.AppendOwnNone
namespace Go.Proofs.YthpojljfmipngaaDoor
open Go.RowKit
def cutRep (r : Rep) : Rep := ⟨r.req, r.bytes.take 300⟩
def cutTol (t : Tol) : Tol := ⟨max t.err (-4611686018427387904), t.req, t.tick, (t.reps.take 9).map cutRep⟩
structure RepR where
  x : Rep
  B : Option Addr
  bc : Nat
def RepR.row (r : RepR) : List Value := [.int .u32 r.x.req, .slice r.B r.x.bytes.length r.bc]
structure RepIn (w : World) (r : RepR) : Prop where
  at_ : RowT w 5 r.B (Lib.byteCells r.x.bytes)
  req : u32 r.x.req
  len : r.x.bytes.length ≤ 9223372036854775807
/-- An argument's replies: each slice's capacity holds its length; a nil one has none. -/
def ArgReps (w : World) (A : Option Addr) (l : List Rep) : Prop :=
  l ≠ [] → ∃ b off, A = some ⟨b, off, none⟩ ∧ b < w.heap.size ∧ ∀ i r, l[i]? = some r → ∃ B bc, w.cell? ⟨b, off + i * 2, none⟩ = some (.int .u32 r.req) ∧ w.cell? ⟨b, off + i * 2 + 1, none⟩ = some (.slice B r.bytes.length bc) ∧ CellsAt w B (Lib.byteCells r.bytes) ∧ u32 r.req ∧ r.bytes.length ≤ bc ∧ bc ≤ 9223372036854775807 ∧ (B = none → bc = 0)
theorem ArgReps.at_ {w wr : World} {A : Option Addr} {l : List Rep} (h : ArgReps w A l) (hb : Below w.heap.size w wr) {k : Nat} {r : Rep} (hr : l[k]? = some r) :
    ∃ b off B bc, A = some ⟨b, off, none⟩ ∧ b < wr.heap.size ∧ wr.cell? ⟨b, off + k * 2, none⟩ = some (.int .u32 r.req) ∧ wr.cell? ⟨b, off + k * 2 + 1, none⟩ = some (.slice B r.bytes.length bc) ∧ CellsAt w B (Lib.byteCells r.bytes) ∧ u32 r.req ∧ r.bytes.length ≤ bc ∧ bc ≤ 9223372036854775807 ∧ (B = none → bc = 0) := by
  obtain ⟨b, off, h1, h2, h3⟩ := h (by intro e; subst e; simp at hr)
  obtain ⟨B, bc, c0, c1, c2, c3, c4, c5, c6⟩ := h3 k r hr
  exact ⟨b, off, B, bc, h1, Nat.lt_of_lt_of_le h2 hb.size, (hb.cell (p := ⟨b, off + k * 2, none⟩) h2).trans c0, (hb.cell (p := ⟨b, off + k * 2 + 1, none⟩) h2).trans c1, c2, c3, c4, c5, c6⟩
theorem RepsAt.next {w w' : World} {A : Option Addr} {l : List Rep} (h : RepsAt w A l) (hb : Below w.heap.size w w') : RepsAt w' A l := fun hne => by
  obtain ⟨b, off, h1, h2, h3⟩ := h hne
  refine ⟨b, off, h1, Nat.lt_of_lt_of_le h2 hb.size, fun i r hr => ?_⟩
  obtain ⟨B, bc, c0, c1, c2, c3⟩ := h3 i r hr
  exact ⟨B, bc, (hb.cell (p := ⟨b, off + i * 2, none⟩) h2).trans c0, (hb.cell (p := ⟨b, off + i * 2 + 1, none⟩) h2).trans c1, c2.next hb (Nat.le_refl _), c3⟩
theorem flat_get2 : ∀ (rs : List RepR) (i j : Nat) (r : RepR), rs[i]? = some r → ∀ u, r.row[j]? = some u → (rs.flatMap RepR.row)[i * 2 + j]? = some u
  | [], i, j, r, h, _, _ => by simp at h
  | a :: rs, 0, j, r, h, u, hu => by
    obtain rfl : a = r := by simpa using h
    rw [List.flatMap_cons, Nat.zero_mul, Nat.zero_add, List.getElem?_append_left (List.getElem?_eq_some_iff.1 hu).1]
    exact hu
  | a :: rs, i + 1, j, r, h, u, hu => by
    rw [List.flatMap_cons, List.getElem?_append_right (by simp [RepR.row]; omega)]
    have := flat_get2 rs i j r (by simpa using h) u hu
    rw [show (i + 1) * 2 + j - (RepR.row a).length = i * 2 + j by simp [RepR.row]; omega]
    exact this
theorem own_reps {w : World} {B : Nat} {v : Value} {n : Nat} {rs : List RepR} (h : Own 51 2 B v n (rs.flatMap RepR.row) w) (hn : rs.length = n) (hE : ∀ r ∈ rs, RepIn w r) : ∃ A c, v = .slice A n c ∧ RepsAt w A (rs.map RepR.x) := by
  rcases h.own.2 with ⟨rfl, h0⟩ | ⟨g, cap, cur, rfl, hb, hg, rest⟩
  · have he : rs = [] := List.eq_nil_of_length_eq_zero (by rw [hn, h0])
    subst he
    exact ⟨_, _, by rw [h0], fun h => absurd rfl h⟩
  · refine ⟨_, _, rfl, fun _ => ⟨g, 0, rfl, (Array.getElem?_eq_some_iff.1 hg).1, fun i x hi => ?_⟩⟩
    rw [List.getElem?_map] at hi
    cases hr : rs[i]? with
    | none => rw [hr] at hi; cases hi
    | some r =>
      rw [hr] at hi
      obtain rfl : r.x = x := by simpa using hi
      have hc : ∀ j u, r.row[j]? = some u → w.cell? ⟨g, 0 + i * 2 + j, none⟩ = some u := by
        intro j u hj
        have hm : (rs.flatMap RepR.row)[i * 2 + j]? = some u := flat_get2 rs i j r hr u hj
        have := h.own.cells (g := g) rfl (i * 2 + j) u hm
        have hadd : (⟨g, 0, none⟩ : Addr).add (i * 2 + j) = ⟨g, i * 2 + j, none⟩ := by unfold Addr.add; split <;> simp_all
        rw [hadd] at this
        rw [Nat.zero_add]; exact this
      have hin := hE r (List.mem_of_getElem? hr)
      exact ⟨r.B, r.bc, hc 0 _ rfl, hc 1 _ rfl, hin.at_.cells, hin.req, hin.len⟩
theorem wpList_bf_slice {ops : Array Oper} {rest : List Oper} {o : Oper} {a : Act} {Q : Exit → Act → World → Prop} (hgd : o.guard = none) (s x : Operand)
    (ho : o.op = .call { callee := .builtin .append, args := #[s, x], argTypes := #[43, 43] }) {B : Nat} {v : Value} {out : Sc.Bs} {w : World} (hb : Bf B v out w) (hs : a.eval s = v)
    (m : Sc.Bs) (A : Option Addr) (c : Nat) (hx : a.eval x = .slice A m.length c) (hA : CellsAt w A (Lib.byteCells m)) (hc : A = none → c = 0) (hlen : out.length + m.length ≤ 140737488355328)
    (h : ∀ v' w', Bf B v' (out ++ m) w' → Below B w w' → wpList Tryd.prog ops Q rest (a.put o.dst v') w') : wpList Tryd.prog ops Q (o :: rest) a w := by
  obtain ⟨i0, hi, hz0, hz1, hz2⟩ := info5'
  have fin : ∀ v' w', w'.ownsRow B 5 1 v' (out.length + m.length) (Lib.byteCells out ++ Lib.byteCells m) → w.grownBy w' v.ownBlock → wpList Tryd.prog ops Q rest (a.put o.dst v') w' := by
    intro v' w' h1 h2
    refine h v' w' ?_ ((Below.refl B w).grown h2 hb.le (fun k hk => (hb.own.lt k hk).1))
    unfold Bf
    rw [List.length_append, byteCells_app]
    exact ⟨h1, Nat.le_trans hb.le h2.size⟩
  cases A with
  | none =>
    have hm : m = [] := by
      by_cases hne : m = []
      · exact hne
      · obtain ⟨b, off, h1, _⟩ := hA (by intro e; exact hne (by simpa [Lib.byteCells] using e))
        cases h1
    subst hm
    obtain rfl := hc rfl
    refine wpList_append_own_none hgd s x 43 ho B 5 i0 1 Tryd.underlying43 hi v out.length (Lib.byteCells out) hs hb.own hx ?_
    exact h v w (by rw [List.append_nil]; exact hb) (Below.refl _ _)
  | some ad =>
    refine wpList_append_own _ hgd s x 43 ho B 5 i0 (.int .u8 0) 1 1 Tryd.underlying43 hi hz0 hz1 hz2 rfl (by decide) v out.length (Lib.byteCells out) hs hb.own ad m.length c (Lib.byteCells m) hx (by rw [byteCells_len, Nat.mul_one]) ?_ (byteCells_one m) (by unfold maxLen; omega) (by omega) hb.le ?_
    · intro j u hj
      obtain ⟨b, off, h1, _, h3⟩ := hA (by intro e; rw [e] at hj; simp at hj)
      cases h1
      rw [show (⟨b, off, none⟩ : Addr).add j = ⟨b, off + j, none⟩ by simp [Addr.add]]
      exact h3 j u hj
    · intro v' w' h1 h2 _
      exact fin v' w' h1 h2
theorem wpList_own_append2 {ops : Array Oper} {rest : List Oper} {o : Oper} {a : Act} {Q : Exit → Act → World → Prop} (hgd : o.guard = none) (s x : Operand) (t e : TypeId) (z : Value) (size bytes : Nat)
    (ho : o.op = .call { callee := .builtin .append, args := #[s, x], argTypes := #[t, t] }) (ht : Tryd.prog.underlying t = some (.slice e))
    (hi : (Tryd.prog.info? e).map (fun i => (i.zero, i.size, i.bytes)) = some (some z, size, bytes)) (hzs : z.cells.size = size) (hsz : 0 < size)
    {B : Nat} {v : Value} {n : Nat} {xs : List Value} {w : World} (hb : Own e size B v n xs w) (hs : a.eval s = v)
    (news : List Value) (m : Nat) {C : Array Value} (hC : C = news.toArray) (hm : news.length = m * size) (h1 : ∀ u ∈ news, u.oneCell' = true)
    (hx : a.eval x = .slice (some ⟨w.heap.size, 0, none⟩) m m) (h63 : n + m ≤ maxLen) (hbytes : (n + m) * bytes ≤ 140737488355328)
    (h : ∀ v' w', Own e size B v' (n + m) (xs ++ news) w' → Below B w w' → w.grownBy w' v.ownBlock → wpList Tryd.prog ops Q rest (a.put o.dst v') w') : wpList Tryd.prog ops Q (o :: rest) a (w.alloc (.cells C e)) :=
  wpList_plain hgd fun _ hK => wp_own_append s x t e z size bytes ho ht hi hzs hsz hb hs news m hC hm h1 hx h63 hbytes (fun v' w' h2 h3 h4 => hK _ _ (h v' w' h2 h3 h4))
/-- No block of bytes is the row's own. -/
theorem own_t5 {e : TypeId} {size B : Nat} {v : Value} {n : Nat} {xs : List Value} {w : World} (h : Own e size B v n xs w) (he : e ≠ 5) : ∀ j ∈ v.ownBlock.toList, ∀ cs fz, w.heap[j]? ≠ some (.cells cs 5 fz) := by
  intro j hm cs fz hj
  rcases h.own.2 with ⟨rfl, _⟩ | ⟨g, cap, cur, rfl, _, hg, _⟩
  · simp [Value.ownBlock] at hm
  · simp [Value.ownBlock] at hm
    subst hm
    rw [hj] at hg; injection hg with hg; injection hg with _ hg; exact he hg.symm
def zeroRep : Value := .agg #[.int .u32 0, .slice none 0 0]
theorem info51 : (Tryd.prog.info? 51).map (fun i => (i.zero, i.size, i.bytes)) = some (some zeroRep, 2, 32) := by kernel_rfl
set_option maxRecDepth 100000 in
set_option maxHeartbeats 8000000 in
theorem tells_any (x : Sc.Ev) (K A : Option Addr) (kc bc : Nat) (t : Tol) (R : Option Addr) (rc : Nat) (w : World) (henv : Env w) (hEv : EvAt w x K A) (hR : ArgReps w R t.reps) (_hl : t.reps.length ≤ 9223372036854775807) (he : inI t.err) (hr : u32 t.req) (ht : u32 t.tick) :
    Calls Tryd.prog 7 #[evV x K A kc bc, tolV t R rc] w fun e w' => e = .returned (.bool true) ∧ Below w.heap.size w w' := by
  have hb1 := below_box w (.cells #[.int .i64 x.kind, .int .i64 x.node, .int .i64 x.to, .int .i64 x.n, .int .i64 x.bit, .slice K x.keep.length kc, .slice A x.bytes.length bc] 45)
  have hx1 := heap_alloc_new w (.cells #[.int .i64 x.kind, .int .i64 x.node, .int .i64 x.to, .int .i64 x.n, .int .i64 x.bit, .slice K x.keep.length kc, .slice A x.bytes.length bc] 45)
  generalize hw1 : w.alloc (.cells #[.int .i64 x.kind, .int .i64 x.node, .int .i64 x.to, .int .i64 x.n, .int .i64 x.bit, .slice K x.keep.length kc, .slice A x.bytes.length bc] 45) = w1 at hb1 hx1
  have hs1 : w1.heap.size = w.heap.size + 1 := by rw [← hw1]; simp
  have hb2 := below_box w1 (.cells #[.int .i64 t.err, .int .u32 t.req, .int .u32 t.tick, .slice R t.reps.length rc] 49)
  have hx2 := heap_alloc_new w1 (.cells #[.int .i64 t.err, .int .u32 t.req, .int .u32 t.tick, .slice R t.reps.length rc] 49)
  have HX : Hid (EvBox _ w.heap.size x K A kc bc) := Lib.hid (blk_next hb2 hx1)
  rw [hs1] at hx2
  have HT := Lib.hid hx2
  have HB := Lib.hid (hb1.trans (hb2.mono hb1.size))
  have HSZ : Hid ((w1.alloc (.cells #[.int .i64 t.err, .int .u32 t.req, .int .u32 t.tick, .slice R t.reps.length rc] 49)).heap.size = w.heap.size + 2) := Lib.hid (by simp [hs1])
  have HR := Lib.hid hR
  have HEV := Lib.hid hEv
  have HENV := Lib.hid henv
  have HE := Lib.hid he
  have HU := Lib.hid hr
  have HU2 := Lib.hid ht
  clear hb1 hx1 hx2 hb2 hR hEv henv he hr ht
  unfold evV tolV
  go_enter Tryd.func7, Tryd.ntmps7
  go_upto_region 1 with (fail)
  generalize w1.alloc (.cells #[.int .i64 t.err, .int .u32 t.req, .int .u32 t.tick, .slice R t.reps.length rc] 49) = w2 at HX HT HB HSZ ⊢
  generalize htb : w.heap.size + 1 = tb at HT ⊢
  generalize hxb : w.heap.size = xb at HX HSZ ⊢
  go_wp2_with fail
  refine (wakes_any _ (HENV.out.next HB.out)).mono ?_
  rintro e w3 ⟨rfl, hb3⟩
  have hbz := HB.out.trans (hb3.mono HB.out.size)
  have HX3 := Lib.hid (HX.out.next hb3)
  have HT3 := Lib.hid (blk_next hb3 HT.out)
  have HB3 := Lib.hid hbz
  have HSZ3 : Hid (xb + 2 ≤ w3.heap.size) := Lib.hid (by have := HSZ.out; have := hb3.size; omega)
  have tf := (blk_cells HT3.out 3).trans rfl
  clear hb3 hbz HX HT HB HSZ
  generalize hsb : w3.heap.size = sb at *
  go_wp2_with fail
  clear tf
  go_loopw [5, 6, 7, 13] (fun l _ _ i wr => ∃ (k : Nat) (rs : List RepR), k ≤ t.reps.length ∧ k ≤ 9 ∧ rs.length = k ∧ i = .int .i64 k ∧ Own 51 2 sb l k (rs.flatMap RepR.row) wr ∧ Hid (rs.map RepR.x = (t.reps.take k).map cutRep) ∧ Hid (∀ r ∈ rs, RepIn wr r) ∧ Below sb w3 wr) (fun _ _ _ i _ => t.reps.length - (intOf i).toNat)
  case atStart =>
    exact ⟨0, [], Nat.zero_le _, Nat.zero_le _, rfl, rfl, ⟨World.ownsRow_nil _ _ _ _, by omega⟩, Lib.hid rfl, Lib.hid (by simp), Below.refl _ _⟩
  case round =>
    obtain ⟨k, rs, hk, hk1, hrl, rfl, hO, hR, hE, hb⟩ := hrel
    have HRL := Lib.hid hrl
    clear hrl
    have HO := Lib.hid hO
    have HB := Lib.hid hb
    have hbw : Below w.heap.size w wr := HB3.out.trans (hb.mono (by have := HSZ3.out; omega))
    have HBW := Lib.hid hbw
    clear hO hb
    by_cases hlt : k < t.reps.length
    · have hx : t.reps[k]? = some t.reps[k] := List.getElem?_eq_getElem hlt
      have HTK : Hid ((t.reps.take (k + 1)).map cutRep = (t.reps.take k).map cutRep ++ [cutRep t.reps[k]]) := Lib.hid (by rw [List.take_succ_eq_append_getElem hlt, List.map_append]; rfl)
      obtain ⟨g, off, B', bc', hRe, hgl, e0, e1, hcb, hu, hc1, hc2, hc3⟩ := HR.out.at_ hbw hx
      generalize t.reps[k] = r at hx HTK e0 e1 hcb hu hc1 hc2 hc3
      subst hRe
      have hba := below_box wr (.cells #[.int .u32 r.req, .slice B' r.bytes.length bc'] 51)
      have hx1 := heap_alloc_new wr (.cells #[.int .u32 r.req, .slice B' r.bytes.length bc'] 51)
      by_cases hk9 : k = 9
      · have hkb : ((k : Int) == 9) = true := by rw [hk9]; rfl
        have hkb2 := hkb
        have HFIN : rs.map RepR.x = (cutTol t).reps := by
          rw [hR.out, hk9]; rfl
        clear hk9 hkb2
        have HOa := Lib.hid (HO.out.next hba)
        have HBa := Lib.hid (HB.out.trans (hba.mono HO.out.le))
        have HBWa := Lib.hid (HBW.out.trans (hba.mono HBW.out.size))
        have hEa : Hid (∀ q ∈ rs, RepIn (wr.alloc (.cells #[.int .u32 r.req, .slice B' r.bytes.length bc'] 51)) q) := Lib.hid (fun q hq => by
          obtain ⟨i1, i2, i3⟩ := hE.out q hq
          exact ⟨i1.but (S := []) (But.of hba) (by simp), i2, i3⟩)
        go_upto_region 11 with (fail)
        clear HO HB HBW hE e0 e1 hbw hx1 hba
        have HO := HOa
        have HB := HBa
        have HBW := HBWa
        have hE := hEa
        clear HOa HBa HBWa hEa
        generalize wr.alloc (.cells #[.int .u32 r.req, .slice B' r.bytes.length bc'] 51) = wa at HO HB HBW hE ⊢
        have hHR : rs.map RepR.x = (cutTol t).reps := HFIN
        obtain ⟨E9, hE9⟩ : ∃ E9, max t.err (-4611686018427387904) = E9 := ⟨_, rfl⟩
        have HE9 := Lib.hid hE9
        obtain ⟨A9, c9, rfl⟩ := own_shape HO.out
        have hsp := HSZ3.out
        have hsr := HO.out.le
        have htl : tb < sb := by omega
        have hTw := (HB.out.block tb htl).trans HT3.out
        have hst := but_set (i := 3) (.slice A9 k c9) hTw
        have hst2 := but_set (i := 0) (.int .i64 E9) hst.2
        have HBK : Hid (But [tb] wa ((wa.setCell ⟨tb, 3, none⟩ (.slice A9 k c9)).setCell ⟨tb, 0, none⟩ (.int .i64 E9))) := Lib.hid ((hst.1.trans hst2.1).mono (by simp))
        have HT5 : Hid (((wa.setCell ⟨tb, 3, none⟩ (.slice A9 k c9)).setCell ⟨tb, 0, none⟩ (.int .i64 E9)).heap[tb]? = some (.cells #[.int .i64 E9, .int .u32 t.req, .int .u32 t.tick, .slice A9 k c9] 49 (0, 0))) := Lib.hid hst2.2
        have HX5 : Hid (EvBox ((wa.setCell ⟨tb, 3, none⟩ (.slice A9 k c9)).setCell ⟨tb, 0, none⟩ (.int .i64 E9)) xb x K A kc bc) := Lib.hid (((hst.1.trans hst2.1).blk ((HB.out.block xb (by omega)).trans HX3.out) (by simp; omega)))
        have HBW5 : Hid (Below w.heap.size w ((wa.setCell ⟨tb, 3, none⟩ (.slice A9 k c9)).setCell ⟨tb, 0, none⟩ (.int .i64 E9))) := Lib.hid (HBW.out.trans ((hst.1.trans hst2.1).to (by have := HBW.out.size; omega) (by intro j hj; simp at hj; omega)))
        have HRP : Hid (∃ A8 c8, Value.slice A9 k c9 = .slice A8 k c8 ∧ RepsAt ((wa.setCell ⟨tb, 3, none⟩ (.slice A9 k c9)).setCell ⟨tb, 0, none⟩ (.int .i64 E9)) A8 (rs.map RepR.x)) := Lib.hid (own_reps (HO.out.but (hst.1.trans hst2.1) (by intro j hj; simp at hj; omega)) HRL.out (fun q hq => by
          obtain ⟨i1, i2, i3⟩ := hE.out q hq
          refine ⟨i1.but (hst.1.trans hst2.1) ?_, i2, i3⟩
          intro j hj cs fz hjj
          simp at hj
          subst hj
          rw [hTw] at hjj
          injection hjj with hjj
          injection hjj with _ hjj
          cases hjj))
        have q0 := (blk_cells hTw 0).trans rfl
        have q1 := blk_cells hTw 3
        have qf := blk_free hTw 3
        have p0 := (blk_cells hst.2 0).trans rfl
        have pf := blk_free hst.2 0
        have hqw : tb < wa.heap.size := by omega
        have hpw : tb < (wa.setCell ⟨tb, 3, none⟩ (.slice A9 k c9)).heap.size := (Array.getElem?_eq_some_iff.1 hst.2).1
        clear hst hst2 hTw hR
        go_upto_region 13 with (fail)
        generalize ((wa.setCell ⟨tb, 3, none⟩ (.slice A9 k c9)).setCell ⟨tb, 0, none⟩ (.int .i64 E9)) = w5 at HBK HT5 HX5 HBW5 HRP ⊢
        clear q0 q1 qf p0 pf hqw hpw hE9
        have HRP2 : Hid (RepsAt w5 A9 (cutTol t).reps) := Lib.hid (by
          obtain ⟨A8, c8, e8, h8⟩ := HRP.out
          injection e8 with e8 _
          subst e8
          rwa [hHR] at h8)
        have hkl : k = (cutTol t).reps.length := by rw [← hHR, List.length_map]; exact HRL.out.symm
        have HKL := Lib.hid hkl
        have HCT : ∀ R' c', tolV (cutTol t) R' c' = .agg #[.int .i64 E9, .int .u32 t.req, .int .u32 t.tick, .slice R' k c'] := by
          intro R' c'
          rw [HKL.out, ← HE9.out]; rfl
        obtain ⟨SR, hSR⟩ : ∃ s : ByteArray, s = ⟨(tellOf x (cutTol t)).toArray⟩ := ⟨_, rfl⟩
        have hb9 : (cutTol t).reps.length ≤ 9 := by rw [← hkl]; omega
        have he9 : inI (cutTol t).err ∧ -4611686018427387904 ≤ (cutTol t).err := by
          have := HE.out
          unfold inI at this ⊢
          unfold cutTol
          simp only
          omega
        have hall : ∀ r ∈ (cutTol t).reps, r.bytes.length ≤ 300 ∧ YthpojljfmipngaaDoor.u32 r.req := by
          intro r hr
          rw [← hHR] at hr
          obtain ⟨q, hq, rfl⟩ := List.mem_map.1 hr
          refine ⟨?_, (hE.out q hq).req⟩
          rw [hHR] at hr
          unfold cutTol at hr
          obtain ⟨p, _, hpe⟩ := List.mem_map.1 hr
          rw [← hpe]
          unfold cutRep
          simp only [List.length_take]
          omega
        have HC1 : Hid (∀ W, Below w5.heap.size w5 W → Calls Tryd.prog 18 #[.agg #[.int .i64 x.kind, .int .i64 x.node, .int .i64 x.to, .int .i64 x.n, .int .i64 x.bit, .slice K x.keep.length kc, .slice A x.bytes.length bc], .agg #[.int .i64 E9, .int .u32 t.req, .int .u32 t.tick, .slice A9 k c9]] W fun e w' => e = .returned (.string SR) ∧ Below W.heap.size W w') := Lib.hid (fun W hW => by
          rw [← HCT, hSR]
          exact lines28_any x K A kc bc (cutTol t) A9 c9 W ((HENV.out.next HBW5.out).next hW) (HRP2.out.next hW) he9.1 HU.out HU2.out hb9 hall)
        have HC2 : Hid (∀ W, Below w5.heap.size w5 W → Calls Tryd.prog 19 #[.agg #[.int .i64 x.kind, .int .i64 x.node, .int .i64 x.to, .int .i64 x.n, .int .i64 x.bit, .slice K x.keep.length kc, .slice A x.bytes.length bc], .agg #[.int .i64 E9, .int .u32 t.req, .int .u32 t.tick, .slice A9 k c9]] W fun e w' => e = .returned (.string SR) ∧ Below W.heap.size W w') := Lib.hid (fun W hW => by
          rw [← HCT, hSR]
          exact refLines28_any x K A kc bc (cutTol t) A9 c9 W (HRP2.out.next hW) ⟨he9.2, he9.1.2⟩ HU.out HU2.out hb9 hall)
        have HSW : Hid (∀ w', Below w5.heap.size w5 w' → w'.cell? ⟨xb, 0, none⟩ = some (.int .i64 x.kind) ∧ w'.cell? ⟨xb, 1, none⟩ = some (.int .i64 x.node) ∧ w'.cell? ⟨xb, 2, none⟩ = some (.int .i64 x.to) ∧ w'.cell? ⟨xb, 3, none⟩ = some (.int .i64 x.n) ∧ w'.cell? ⟨xb, 4, none⟩ = some (.int .i64 x.bit) ∧ w'.cell? ⟨xb, 5, none⟩ = some (.slice K x.keep.length kc) ∧ w'.cell? ⟨xb, 6, none⟩ = some (.slice A x.bytes.length bc) ∧ w'.cell? ⟨tb, 0, none⟩ = some (.int .i64 E9) ∧ w'.cell? ⟨tb, 1, none⟩ = some (.int .u32 t.req) ∧ w'.cell? ⟨tb, 2, none⟩ = some (.int .u32 t.tick) ∧ w'.cell? ⟨tb, 3, none⟩ = some (.slice A9 k c9) ∧ Hid (Below w5.heap.size w5 w')) := Lib.hid (fun w' h => by
          obtain ⟨a0, a1, a2, a3, a4, a5, a6⟩ := EvBox.cells (h.block xb (Array.getElem?_eq_some_iff.1 HX5.out).1 |>.trans HX5.out)
          have hT := (h.block tb (Array.getElem?_eq_some_iff.1 HT5.out).1).trans HT5.out
          exact ⟨a0, a1, a2, a3, a4, a5, a6, (blk_cells hT 0).trans rfl, (blk_cells hT 1).trans rfl, (blk_cells hT 2).trans rfl, (blk_cells hT 3).trans rfl, Lib.hid h⟩)
        clear hkl hb9 he9 hall HCT hSR hHR
        go_region_held3 (fun w' => w'.cell? ⟨xb, 0, none⟩ = some (.int .i64 x.kind) ∧ w'.cell? ⟨xb, 1, none⟩ = some (.int .i64 x.node) ∧ w'.cell? ⟨xb, 2, none⟩ = some (.int .i64 x.to) ∧ w'.cell? ⟨xb, 3, none⟩ = some (.int .i64 x.n) ∧ w'.cell? ⟨xb, 4, none⟩ = some (.int .i64 x.bit) ∧ w'.cell? ⟨xb, 5, none⟩ = some (.slice K x.keep.length kc) ∧ w'.cell? ⟨xb, 6, none⟩ = some (.slice A x.bytes.length bc) ∧ w'.cell? ⟨tb, 0, none⟩ = some (.int .i64 E9) ∧ w'.cell? ⟨tb, 1, none⟩ = some (.int .u32 t.req) ∧ w'.cell? ⟨tb, 2, none⟩ = some (.int .u32 t.tick) ∧ w'.cell? ⟨tb, 3, none⟩ = some (.slice A9 k c9) ∧ Hid (Below w5.heap.size w5 w')) (first
          | assumption
          | exact HSW.out _ (below_drewN (Below.refl _ _) 1)
          | (obtain ⟨_, _, _, _, _, _, _, _, _, _, _, hbl⟩ := ‹_ ∧ _ ∧ _ ∧ _ ∧ _ ∧ _ ∧ _ ∧ _ ∧ _ ∧ _ ∧ _ ∧ Hid _›; exact HSW.out _ (hbl.out.trans (hb9.mono hbl.out.size)))) (first
          | (go_at_call 18; refine (HC1.out _ (by obtain ⟨_, _, _, _, _, _, _, _, _, _, _, hbl⟩ := ‹_ ∧ _ ∧ _ ∧ _ ∧ _ ∧ _ ∧ _ ∧ _ ∧ _ ∧ _ ∧ _ ∧ Hid _›; exact hbl.out)).mono ?_; rintro e w9 ⟨rfl, hb9⟩)
          | (go_at_call 19; refine (HC2.out _ (by obtain ⟨_, _, _, _, _, _, _, _, _, _, _, hbl⟩ := ‹_ ∧ _ ∧ _ ∧ _ ∧ _ ∧ _ ∧ _ ∧ _ ∧ _ ∧ _ ∧ _ ∧ Hid _›; exact hbl.out)).mono ?_; rintro e w9 ⟨rfl, hb9⟩))
        all_goals
          obtain ⟨_, _, _, _, _, _, _, _, _, _, _, hbl⟩ := ‹_ ∧ _ ∧ _ ∧ _ ∧ _ ∧ _ ∧ _ ∧ _ ∧ _ ∧ _ ∧ _ ∧ Hid _›
          have HBZ := Lib.hid (HBW5.out.trans (hbl.out.mono HBW5.out.size))
          clear hbl
          go_wp2_with fail
          go_ret
          exact ⟨rfl, HBZ.out⟩
      · have hkb : ((k : Int) == 9) = false := by rw [beq_eq_false_iff_ne]; omega
        obtain ⟨n1, hn1⟩ : ∃ n, n = (cutRep r).bytes.length := ⟨_, rfl⟩
        have hm1 : min (r.bytes.length : Int) 300 = (n1 : Int) := by rw [hn1]; unfold cutRep; simp; omega
        have hn1b : n1 ≤ bc' := by rw [hn1]; unfold cutRep; simp; omega
        have H1 := Lib.hid hn1
        clear hn1
        have hn1l : (r.bytes.take 300).length = n1 := by rw [H1.out]; rfl
        have hn300 : n1 ≤ 300 := by rw [← hn1l, List.length_take]; omega
        have HO1 := Lib.hid (HO.out.next hba)
        have HB1 := Lib.hid (HB.out.trans (hba.mono HO.out.le))
        have HX1 := Lib.hid hx1
        have hrs : sb ≤ wr.heap.size := HO.out.le
        have HCB := Lib.hid (hcb.next (hbw.trans (hba.mono hbw.size)) (Nat.le_refl _))
        have HUU := Lib.hid hu
        have HC3 := Lib.hid hc3
        have HBA := Lib.hid hba
        clear hu hc3 hcb hba hx1 hx hbw
        go_upto_region 8 with (fail)
        generalize wr.alloc (.cells #[.int .u32 r.req, .slice B' r.bytes.length bc'] 51) = wa at HX1 HB1 HO1 HCB HBA ⊢
        generalize hrb : wr.heap.size = rb at HX1 hrs HBA ⊢
        have f0 := (blk_cells HX1.out 0).trans rfl
        have f1 := (blk_cells HX1.out 1).trans rfl
        have f1f := blk_free HX1.out 1
        have hrl : rb < wa.heap.size := (Array.getElem?_eq_some_iff.1 HX1.out).1
        have hbc := below_box wa (.cells #[] 5)
        have HBF : Hid (Bf wa.heap.size (.slice (some ⟨wa.heap.size, 0, none⟩) 0 0) [] (wa.alloc (.cells #[] 5))) := Lib.hid (bf_lit wa [] (by simp) rfl)
        have HX2 := Lib.hid (blk_next hbc HX1.out)
        have HB2 := Lib.hid (hbc)
        have HCB2 := Lib.hid (HCB.out.next hbc (Nat.le_refl _))
        clear hbc e0 e1 HO1 HCB
        have HCT : Hid (CellsAt (wa.alloc (.cells #[] 5)) B' (Lib.byteCells (r.bytes.take 300))) := Lib.hid (by
          unfold Lib.byteCells
          rw [List.map_take]
          exact HCB2.out.take _)
        clear HCB2
        go_wp2_with (at_builtin; refine wpList_bf_slice rfl _ _ rfl HBF.out rfl (r.bytes.take 300) B' bc' (by rw [hn1l]; rfl) HCT.out HC3.out (by rw [hn1l]; simp only [List.length_nil]; omega) ?_)
        intro v' w4 hBf hb4
        obtain ⟨A9, c9, rfl, hc9⟩ := RowT.own (show Own 5 1 wa.heap.size v' (r.bytes.take 300).length (Lib.byteCells (r.bytes.take 300)) w4 from hBf)
        rw [hn1l]
        have hx4 := (hb4.block rb hrl).trans HX2.out
        have hst := but_set (i := 1) (.slice A9 n1 c9) hx4
        have s1 := blk_cells hx4 1
        have s1f := blk_free hx4 1
        have hrl4 : rb < w4.heap.size := (Array.getElem?_eq_some_iff.1 hx4).1
        have HX5 : Hid ((w4.setCell ⟨rb, 1, none⟩ (.slice A9 n1 c9)).heap[rb]? = some (.cells #[.int .u32 r.req, .slice A9 n1 c9] 51 (0, 0))) := Lib.hid hst.2
        have HB4 : Hid (Below rb wr (w4.setCell ⟨rb, 1, none⟩ (.slice A9 n1 c9))) := Lib.hid (HBA.out.trans (((HB2.out.trans hb4).mono (Nat.le_of_lt hrl)).trans (hst.1.to (Nat.le_of_lt hrl4) (by intro j hj; simp at hj; omega))))
        have HC9 : Hid (RowT (w4.setCell ⟨rb, 1, none⟩ (.slice A9 n1 c9)) 5 A9 (Lib.byteCells (cutRep r).bytes)) := Lib.hid (hc9.but hst.1 (by
          intro j hj cs fz hjj
          simp at hj
          subst hj
          rw [hx4] at hjj
          injection hjj with hjj
          injection hjj with _ hjj
          cases hjj))
        clear hBf hb4 hx4 hst hc9 HX2 f0 f1 f1f HCT
        go_upto_region 9 with (fail)
        generalize w4.setCell ⟨rb, 1, none⟩ (.slice A9 n1 c9) = w5 at HX5 HB4 HC9 ⊢
        clear s1 s1f hrl4
        have s0 := (blk_cells HX5.out 0).trans rfl
        have s1 := (blk_cells HX5.out 1).trans rfl
        have HO5 := Lib.hid (HO.out.next (hrb.symm ▸ HB4.out))
        go_wp2_with (at_builtin; refine wpList_own_append2 rfl _ _ 47 51 zeroRep 2 32 rfl Tryd.underlying47 info51 rfl (by decide) HO5.out rfl [.int .u32 r.req, .slice A9 n1 c9] 1 rfl rfl (by intro u hu; simp only [List.mem_cons, List.not_mem_nil, or_false] at hu; rcases hu with rfl | rfl <;> rfl) rfl (by unfold maxLen; omega) (by omega) ?_)
        intro v' w6 hO6 hb6 hg6
        have HO6 := Lib.hid hO6
        have HB6 := Lib.hid (HB.out.trans ((HB4.out.mono hrs).trans hb6))
        have HIN : Hid (∀ q : RepR, q ∈ rs ++ [⟨cutRep r, A9, c9⟩] → RepIn w6 q) := Lib.hid (by
          intro q hq
          have hno := own_t5 HO5.out (by decide)
          have hgb := But.grown hg6
          rcases List.mem_append.1 hq with hq | hq
          · obtain ⟨i1, i2, i3⟩ := hE.out q hq
            exact ⟨(i1.but (S := []) (But.of (hrb.symm ▸ HB4.out)) (by simp)).but hgb hno, i2, i3⟩
          · rw [List.mem_singleton] at hq
            subst hq
            exact ⟨HC9.out.but hgb hno, HUU.out, by simp only; rw [← H1.out]; omega⟩)
        clear hO6 hb6 hg6
        go_wp2_with fail
        go_roundw
        case rel =>
          refine ⟨k + 1, rs ++ [⟨cutRep r, A9, c9⟩], by omega, by omega, by rw [List.length_append, HRL.out]; rfl, by go_num, ?_, Lib.hid ?_, HIN, HB6.out⟩
          · rw [List.flatMap_append]
            have := HO6.out
            rw [H1.out] at this
            simpa [RepR.row, show (cutRep r).req = r.req from rfl] using this
          · rw [List.map_append, hR.out, HTK.out]; rfl
        case measure => simp [intOf]; omega
    · have HFIN : rs.map RepR.x = (cutTol t).reps := by
        rw [hR.out]; unfold cutTol; simp only; rw [List.take_of_length_le (by omega), List.take_of_length_le (by omega)]
      have hHR : rs.map RepR.x = (cutTol t).reps := HFIN
      obtain ⟨E9, hE9⟩ : ∃ E9, max t.err (-4611686018427387904) = E9 := ⟨_, rfl⟩
      have HE9 := Lib.hid hE9
      obtain ⟨A9, c9, rfl⟩ := own_shape HO.out
      have hsp := HSZ3.out
      have hsr := HO.out.le
      have htl : tb < sb := by omega
      have hTw := (HB.out.block tb htl).trans HT3.out
      have hst := but_set (i := 3) (.slice A9 k c9) hTw
      have hst2 := but_set (i := 0) (.int .i64 E9) hst.2
      have HBK : Hid (But [tb] wr ((wr.setCell ⟨tb, 3, none⟩ (.slice A9 k c9)).setCell ⟨tb, 0, none⟩ (.int .i64 E9))) := Lib.hid ((hst.1.trans hst2.1).mono (by simp))
      have HT5 : Hid (((wr.setCell ⟨tb, 3, none⟩ (.slice A9 k c9)).setCell ⟨tb, 0, none⟩ (.int .i64 E9)).heap[tb]? = some (.cells #[.int .i64 E9, .int .u32 t.req, .int .u32 t.tick, .slice A9 k c9] 49 (0, 0))) := Lib.hid hst2.2
      have HX5 : Hid (EvBox ((wr.setCell ⟨tb, 3, none⟩ (.slice A9 k c9)).setCell ⟨tb, 0, none⟩ (.int .i64 E9)) xb x K A kc bc) := Lib.hid (((hst.1.trans hst2.1).blk ((HB.out.block xb (by omega)).trans HX3.out) (by simp; omega)))
      have HBW5 : Hid (Below w.heap.size w ((wr.setCell ⟨tb, 3, none⟩ (.slice A9 k c9)).setCell ⟨tb, 0, none⟩ (.int .i64 E9))) := Lib.hid (HBW.out.trans ((hst.1.trans hst2.1).to (by have := HBW.out.size; omega) (by intro j hj; simp at hj; omega)))
      have HRP : Hid (∃ A8 c8, Value.slice A9 k c9 = .slice A8 k c8 ∧ RepsAt ((wr.setCell ⟨tb, 3, none⟩ (.slice A9 k c9)).setCell ⟨tb, 0, none⟩ (.int .i64 E9)) A8 (rs.map RepR.x)) := Lib.hid (own_reps (HO.out.but (hst.1.trans hst2.1) (by intro j hj; simp at hj; omega)) HRL.out (fun q hq => by
        obtain ⟨i1, i2, i3⟩ := hE.out q hq
        refine ⟨i1.but (hst.1.trans hst2.1) ?_, i2, i3⟩
        intro j hj cs fz hjj
        simp at hj
        subst hj
        rw [hTw] at hjj
        injection hjj with hjj
        injection hjj with _ hjj
        cases hjj))
      have q0 := (blk_cells hTw 0).trans rfl
      have q1 := blk_cells hTw 3
      have qf := blk_free hTw 3
      have p0 := (blk_cells hst.2 0).trans rfl
      have pf := blk_free hst.2 0
      have hqw : tb < wr.heap.size := by omega
      have hpw : tb < (wr.setCell ⟨tb, 3, none⟩ (.slice A9 k c9)).heap.size := (Array.getElem?_eq_some_iff.1 hst.2).1
      clear hst hst2 hTw hR
      go_upto_region 13 with (fail)
      generalize ((wr.setCell ⟨tb, 3, none⟩ (.slice A9 k c9)).setCell ⟨tb, 0, none⟩ (.int .i64 E9)) = w5 at HBK HT5 HX5 HBW5 HRP ⊢
      clear q0 q1 qf p0 pf hqw hpw hE9
      have HRP2 : Hid (RepsAt w5 A9 (cutTol t).reps) := Lib.hid (by
        obtain ⟨A8, c8, e8, h8⟩ := HRP.out
        injection e8 with e8 _
        subst e8
        rwa [hHR] at h8)
      have hkl : k = (cutTol t).reps.length := by rw [← hHR, List.length_map]; exact HRL.out.symm
      have HKL := Lib.hid hkl
      have HCT : ∀ R' c', tolV (cutTol t) R' c' = .agg #[.int .i64 E9, .int .u32 t.req, .int .u32 t.tick, .slice R' k c'] := by
        intro R' c'
        rw [HKL.out, ← HE9.out]; rfl
      obtain ⟨SR, hSR⟩ : ∃ s : ByteArray, s = ⟨(tellOf x (cutTol t)).toArray⟩ := ⟨_, rfl⟩
      have hb9 : (cutTol t).reps.length ≤ 9 := by rw [← hkl]; omega
      have he9 : inI (cutTol t).err ∧ -4611686018427387904 ≤ (cutTol t).err := by
        have := HE.out
        unfold inI at this ⊢
        unfold cutTol
        simp only
        omega
      have hall : ∀ r ∈ (cutTol t).reps, r.bytes.length ≤ 300 ∧ YthpojljfmipngaaDoor.u32 r.req := by
        intro r hr
        rw [← hHR] at hr
        obtain ⟨q, hq, rfl⟩ := List.mem_map.1 hr
        refine ⟨?_, (hE.out q hq).req⟩
        rw [hHR] at hr
        unfold cutTol at hr
        obtain ⟨p, _, hpe⟩ := List.mem_map.1 hr
        rw [← hpe]
        unfold cutRep
        simp only [List.length_take]
        omega
      have HC1 : Hid (∀ W, Below w5.heap.size w5 W → Calls Tryd.prog 18 #[.agg #[.int .i64 x.kind, .int .i64 x.node, .int .i64 x.to, .int .i64 x.n, .int .i64 x.bit, .slice K x.keep.length kc, .slice A x.bytes.length bc], .agg #[.int .i64 E9, .int .u32 t.req, .int .u32 t.tick, .slice A9 k c9]] W fun e w' => e = .returned (.string SR) ∧ Below W.heap.size W w') := Lib.hid (fun W hW => by
        rw [← HCT, hSR]
        exact lines28_any x K A kc bc (cutTol t) A9 c9 W ((HENV.out.next HBW5.out).next hW) (HRP2.out.next hW) he9.1 HU.out HU2.out hb9 hall)
      have HC2 : Hid (∀ W, Below w5.heap.size w5 W → Calls Tryd.prog 19 #[.agg #[.int .i64 x.kind, .int .i64 x.node, .int .i64 x.to, .int .i64 x.n, .int .i64 x.bit, .slice K x.keep.length kc, .slice A x.bytes.length bc], .agg #[.int .i64 E9, .int .u32 t.req, .int .u32 t.tick, .slice A9 k c9]] W fun e w' => e = .returned (.string SR) ∧ Below W.heap.size W w') := Lib.hid (fun W hW => by
        rw [← HCT, hSR]
        exact refLines28_any x K A kc bc (cutTol t) A9 c9 W (HRP2.out.next hW) ⟨he9.2, he9.1.2⟩ HU.out HU2.out hb9 hall)
      have HSW : Hid (∀ w', Below w5.heap.size w5 w' → w'.cell? ⟨xb, 0, none⟩ = some (.int .i64 x.kind) ∧ w'.cell? ⟨xb, 1, none⟩ = some (.int .i64 x.node) ∧ w'.cell? ⟨xb, 2, none⟩ = some (.int .i64 x.to) ∧ w'.cell? ⟨xb, 3, none⟩ = some (.int .i64 x.n) ∧ w'.cell? ⟨xb, 4, none⟩ = some (.int .i64 x.bit) ∧ w'.cell? ⟨xb, 5, none⟩ = some (.slice K x.keep.length kc) ∧ w'.cell? ⟨xb, 6, none⟩ = some (.slice A x.bytes.length bc) ∧ w'.cell? ⟨tb, 0, none⟩ = some (.int .i64 E9) ∧ w'.cell? ⟨tb, 1, none⟩ = some (.int .u32 t.req) ∧ w'.cell? ⟨tb, 2, none⟩ = some (.int .u32 t.tick) ∧ w'.cell? ⟨tb, 3, none⟩ = some (.slice A9 k c9) ∧ Hid (Below w5.heap.size w5 w')) := Lib.hid (fun w' h => by
        obtain ⟨a0, a1, a2, a3, a4, a5, a6⟩ := EvBox.cells (h.block xb (Array.getElem?_eq_some_iff.1 HX5.out).1 |>.trans HX5.out)
        have hT := (h.block tb (Array.getElem?_eq_some_iff.1 HT5.out).1).trans HT5.out
        exact ⟨a0, a1, a2, a3, a4, a5, a6, (blk_cells hT 0).trans rfl, (blk_cells hT 1).trans rfl, (blk_cells hT 2).trans rfl, (blk_cells hT 3).trans rfl, Lib.hid h⟩)
      clear hkl hb9 he9 hall HCT hSR hHR
      go_region_held3 (fun w' => w'.cell? ⟨xb, 0, none⟩ = some (.int .i64 x.kind) ∧ w'.cell? ⟨xb, 1, none⟩ = some (.int .i64 x.node) ∧ w'.cell? ⟨xb, 2, none⟩ = some (.int .i64 x.to) ∧ w'.cell? ⟨xb, 3, none⟩ = some (.int .i64 x.n) ∧ w'.cell? ⟨xb, 4, none⟩ = some (.int .i64 x.bit) ∧ w'.cell? ⟨xb, 5, none⟩ = some (.slice K x.keep.length kc) ∧ w'.cell? ⟨xb, 6, none⟩ = some (.slice A x.bytes.length bc) ∧ w'.cell? ⟨tb, 0, none⟩ = some (.int .i64 E9) ∧ w'.cell? ⟨tb, 1, none⟩ = some (.int .u32 t.req) ∧ w'.cell? ⟨tb, 2, none⟩ = some (.int .u32 t.tick) ∧ w'.cell? ⟨tb, 3, none⟩ = some (.slice A9 k c9) ∧ Hid (Below w5.heap.size w5 w')) (first
        | assumption
        | exact HSW.out _ (below_drewN (Below.refl _ _) 1)
        | (obtain ⟨_, _, _, _, _, _, _, _, _, _, _, hbl⟩ := ‹_ ∧ _ ∧ _ ∧ _ ∧ _ ∧ _ ∧ _ ∧ _ ∧ _ ∧ _ ∧ _ ∧ Hid _›; exact HSW.out _ (hbl.out.trans (hb9.mono hbl.out.size)))) (first
        | (go_at_call 18; refine (HC1.out _ (by obtain ⟨_, _, _, _, _, _, _, _, _, _, _, hbl⟩ := ‹_ ∧ _ ∧ _ ∧ _ ∧ _ ∧ _ ∧ _ ∧ _ ∧ _ ∧ _ ∧ _ ∧ Hid _›; exact hbl.out)).mono ?_; rintro e w9 ⟨rfl, hb9⟩)
        | (go_at_call 19; refine (HC2.out _ (by obtain ⟨_, _, _, _, _, _, _, _, _, _, _, hbl⟩ := ‹_ ∧ _ ∧ _ ∧ _ ∧ _ ∧ _ ∧ _ ∧ _ ∧ _ ∧ _ ∧ _ ∧ Hid _›; exact hbl.out)).mono ?_; rintro e w9 ⟨rfl, hb9⟩))
      all_goals
        obtain ⟨_, _, _, _, _, _, _, _, _, _, _, hbl⟩ := ‹_ ∧ _ ∧ _ ∧ _ ∧ _ ∧ _ ∧ _ ∧ _ ∧ _ ∧ _ ∧ _ ∧ Hid _›
        have HBZ := Lib.hid (HBW5.out.trans (hbl.out.mono HBW5.out.size))
        clear hbl
        go_wp2_with fail
        go_ret
        exact ⟨rfl, HBZ.out⟩
end Go.Proofs.YthpojljfmipngaaDoor
