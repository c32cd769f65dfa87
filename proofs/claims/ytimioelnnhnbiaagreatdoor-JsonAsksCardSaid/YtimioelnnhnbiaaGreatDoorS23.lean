/-
  Joined: YM ZO ZKclash.
-/
import Derived.Test.YtimioelnnhnbiaaGreatDoorS12
import Derived.Test.YtimioelnnhnbiaaGreatDoorS22
import Derived.SizedLaws
import Derived.Test.YtimioelnnhnbiaaGreatDoorS18
import Derived.Test.YtimioelnnhnbiaaGreatDoorS21
import Derived.Test.YtimioelnnhnbiaaGreatDoorS05
import Derived.Deep.AppendLies
namespace Go.Proofs.YtimioelnnhnbiaaGreatDoor
open Go.RowKit
section
variable {H : Type} {enc : TypeId × Value → H} {w : World} {held : Bool}
def pieceC (c : TypeId → Nat) (cs : List Value) (p : TypeId × Nat) : List Value := (cs.drop p.2).take (c p.1)
def contigC (c : TypeId → Nat) : Nat → List (TypeId × Nat) → Bool
 | _, [] => true
 | o, p :: r => decide (p.2 = o) && contigC c (o + c p.1) r
def endOfC (c : TypeId → Nat) : Nat → List (TypeId × Nat) → Nat
 | o, [] => o
 | o, p :: r => endOfC c (o + c p.1) r
theorem flat_of (cs : List Value) : ∀ (l : List (TypeId × Nat)) (o : Nat), contigC Tryz.prog.cellsOf o l = true → cs.drop o = (l.map (pieceC Tryz.prog.cellsOf cs)).flatten ++ cs.drop (endOfC Tryz.prog.cellsOf o l)
 | [], _, _ => rfl
 | p :: r, o, h => by
  simp only [contigC, Bool.and_eq_true, decide_eq_true_eq] at h
  obtain ⟨h1, h2⟩ := h
  have ih := flat_of cs r _ h2
  rw [List.map_cons, List.flatten_cons, List.append_assoc]
  unfold endOfC
  rw [← ih]
  unfold pieceC
  rw [h1, ← List.drop_drop]
  exact (List.take_append_drop _ _).symm
theorem open_struct {t : TypeId} {l : List (TypeId × Nat)} (hu : ∃ fs, Tryz.prog.underlying t = some (.struct fs) ∧ fieldsOf fs = l) (hc : contigC Tryz.prog.cellsOf 0 l = true) (he : endOfC Tryz.prog.cellsOf 0 l = Tryz.prog.cellsOf t) {fuel : Nat} {cs : List Value} {x : DataW H × List MemPlace} (h : DataW.trod enc Tryz.prog w 0 (fun _ => true) held fuel t cs = some x) :
  ∃ (xs : List (DataW H × List MemPlace)) (n : Nat), x.1 = .agg (xs.map (·.1)) ∧ cs = (l.map (pieceC Tryz.prog.cellsOf cs)).flatten ∧ ∀ (j : Nat) (p : TypeId × Nat), l[j]? = some p → ∃ y, xs[j]? = some y ∧ DataW.trod enc Tryz.prog w 0 (fun _ => true) held n p.1 (pieceC Tryz.prog.cellsOf cs p) = some y := by
 obtain ⟨fs, hfs, hk⟩ := hu
 obtain ⟨xs, n, _, hx, hl, hlen, hf⟩ := DataW.trod_struct hfs h
 refine ⟨xs, n, by rw [hx], ?_, fun j p hp => ?_⟩
 ·have := flat_of cs l 0 hc
  rw [he, ← hl, List.drop_length, List.append_nil, List.drop_zero] at this
  exact this
 ·obtain ⟨f, g1, g2, g3⟩ := field_at hk hp
  have hj : j < xs.length := by rw [hlen]; exact (Array.getElem?_eq_some_iff.1 g1).1
  have := hf j f g1
  rw [g2, g3, List.getElem?_eq_getElem hj] at this
  exact ⟨_, List.getElem?_eq_getElem hj, this⟩
theorem op_s {fuel : Nat} {p : List Value} {y : DataW H × List MemPlace} (h : DataW.trod enc Tryz.prog w 0 (fun _ => true) held fuel 9 p = some y) : ∃ s : Js.Bs, p = [.string (str s)] := by
 obtain ⟨s, e, _, _⟩ := DataW.trod_string Tryz.underlying9 h
 exact ⟨s.data.toList, by rw [e]; show _ = [Value.string ⟨s.data.toList.toArray⟩]; rw [← bytes_list]⟩
theorem op_i {t : TypeId} (ht : Tryz.prog.underlying t = some (.int .i64)) {fuel : Nat} {p : List Value} {y : DataW H × List MemPlace} (h : DataW.trod enc Tryz.prog w 0 (fun _ => true) held fuel t p = some y) : ∃ z : Int, p = [.int .i64 z] := by
 obtain ⟨z, e, _, _⟩ := DataW.trod_int ht h
 exact ⟨z, e⟩
theorem op_b {fuel : Nat} {p : List Value} {y : DataW H × List MemPlace} (h : DataW.trod enc Tryz.prog w 0 (fun _ => true) held fuel 4 p = some y) : ∃ q : Bool, p = [.bool q] := by
 obtain ⟨q, e, _⟩ := DataW.trod_bool Tryz.underlying4 h
 exact ⟨q, e⟩
set_option maxRecDepth 100000 in
theorem op_id {fuel : Nat} {p : List Value} {y : DataW H × List MemPlace} (h : DataW.trod enc Tryz.prog w 0 (fun _ => true) held fuel 29 p = some y) : ∃ I : Nat → UInt8, p = idC I := by
 obtain ⟨xs, n, _, _, hl, hlen, hf⟩ := DataW.trod_array (n := 32) (e := 5) (by kernel_rfl) h
 rw [show Tryz.prog.cellsOf 29 = 32 from by kernel_rfl] at hl
 have h5 : Tryz.prog.cellsOf 5 = 1 := by kernel_rfl
 have hb : ∀ i, i < 32 → ∃ b : UInt8, p[i]? = some (.int .u8 b.toNat) := fun i hi => by
  have := hf i hi
  rw [List.getElem?_eq_getElem (by omega), h5, Nat.mul_one] at this
  obtain ⟨z, e, _, hw⟩ := DataW.trod_int (k := .u8) (by kernel_rfl) this
  have h1 : IntKind.u8.min = 0 := rfl
  have h2 : IntKind.u8.max = 255 := rfl
  simp only [Lit.wf, Bool.and_eq_true, decide_eq_true_eq] at hw
  rw [h1, h2] at hw
  refine ⟨UInt8.ofNat z.toNat, ?_⟩
  have e2 : (p.drop i)[0]? = some (.int .u8 z) := by
   have e3 : ((p.drop i).take 1)[0]? = some (.int .u8 z) := by rw [e]; rfl
   rwa [List.getElem?_take, if_pos (by decide)] at e3
  rw [List.getElem?_drop, Nat.add_zero] at e2
  rw [e2]
  simp only [UInt8.toNat_ofNat']
  rw [Nat.mod_eq_of_lt (by omega)]
  congr 2
  omega
 refine ⟨fun i => if hi : i < 32 then (hb i hi).choose else 0, ?_⟩
 apply List.ext_getElem?
 intro i
 by_cases hi : i < 32
 ·rw [idC_at _ i hi, dif_pos hi]
  exact (hb i hi).choose_spec
 ·rw [List.getElem?_eq_none (by omega), List.getElem?_eq_none (by simp [idC]; omega)]
def SLen (d : DataW H) (n : Nat) : Prop := n = 0 ∨ ∃ el sp, d = .slice el sp ∧ el.length = n
theorem open_rowG {α : Type} [Inhabited α] {t e : TypeId} {size : Nat} {cells : α → List Value} (ht : Tryz.prog.underlying t = some (.slice e)) (hsz : Tryz.prog.cellsOf e = size) (hpos : 0 < size) (hcl : ∀ y, (cells y).length = size)
  (hel : ∀ (n : Nat) (cs : List Value) (x : DataW H × List MemPlace), DataW.trod enc Tryz.prog w 0 (fun _ => true) held n e cs = some x → ∃ y, cs = cells y) {fuel : Nat} {p : List Value} {x : DataW H × List MemPlace} (h : DataW.trod enc Tryz.prog w 0 (fun _ => true) held fuel t p = some x) :
  ∃ (l : List α) (A : Option Addr) (c : Nat), p = [.slice A l.length c] ∧ l.length ≤ c ∧ RowAt size cells w A l ∧ SLen x.1 l.length := by
 rcases DataW.trod_slice ht h with ⟨rfl, _⟩ | ⟨a, len, cap, elems, rest, n, rfl, rfl, rfl, _, hlc, _, hlen, hee, _, _⟩
 ·exact ⟨[], none, 0, rfl, Nat.le_refl _, fun k y hy => by simp at hy, Or.inl rfl⟩
 ·obtain ⟨l, hl, hget⟩ := list_of (α := α) len (fun i y => ∀ j u, (cells y)[j]? = some u → w.cell? (a.add (i * size + j)) = some u) (fun i hil => by
   have he := hee i hil
   rw [List.getElem?_eq_getElem (by omega), hsz] at he
   obtain ⟨cs', hcs, htr⟩ := Option.bind_eq_some_iff.1 he
   obtain ⟨_, hcl', hat⟩ := World.cells?_some hcs
   obtain ⟨y, rfl⟩ := hel n cs' _ htr
   refine ⟨y, fun j u hj => ?_⟩
   have hj2 : j < size := by have := (List.getElem?_eq_some_iff.1 hj).1; rw [hcl] at this; exact this
   have := hat j hj2
   rw [hj, Go.Deep.add_add] at this
   exact this)
  refine ⟨l, some a, cap, by rw [hl], by rw [hl]; exact hlc, ?_, Or.inr ⟨_, _, rfl, by rw [List.length_map, hlen, hl]⟩⟩
  intro k y hy
  obtain ⟨y0, hy0⟩ : ∃ y, l[0]? = some y := ⟨_, List.getElem?_eq_getElem (by have := (List.getElem?_eq_some_iff.1 hy).1; omega)⟩
  obtain ⟨u0, hu0⟩ : ∃ u, (cells y0)[0]? = some u := ⟨_, List.getElem?_eq_getElem (by rw [hcl]; exact hpos)⟩
  have h0 := hget 0 y0 hy0 0 u0 hu0
  rw [Nat.zero_mul] at h0
  have hs := spot_none h0
  obtain ⟨b, off, spot⟩ := a
  have hs : spot = none := hs
  subst hs
  have hadd : ∀ j, (⟨b, off, none⟩ : Addr).add j = ⟨b, off + j, none⟩ := fun j => by simp [Addr.add]
  rw [hadd] at h0
  have hb := World.block_lt_of_cell? _ _ h0
  refine ⟨b, off, rfl, hb, fun j u hj => ?_⟩
  have := hget k y hy j u hj
  rw [hadd, ← Nat.add_assoc] at this
  exact this
instance : Inhabited PClash := ⟨⟨[], [], [], [], false, false, false⟩⟩
theorem op_file {n : Nat} {cs : List Value} {x : DataW H × List MemPlace} (h : DataW.trod enc Tryz.prog w 0 (fun _ => true) held n 75 cs = some x) : ∃ y : Js.Bs × Js.Bs, cs = fileC y := by
 obtain ⟨xs, m, _, hcs, hf⟩ := open_struct (l := [(9, 0), (9, 1)]) (struct_of (by kernel_rfl)) (by kernel_rfl) (by kernel_rfl) h
 obtain ⟨_, _, h0⟩ := hf 0 _ rfl
 obtain ⟨_, _, h1⟩ := hf 1 _ rfl
 obtain ⟨s0, e0⟩ := op_s h0
 obtain ⟨s1, e1⟩ := op_s h1
 simp only [List.map_cons, List.map_nil, e0, e1] at hcs
 exact ⟨(s0, s1), hcs⟩
theorem op_clash {n : Nat} {cs : List Value} {x : DataW H × List MemPlace} (h : DataW.trod enc Tryz.prog w 0 (fun _ => true) held n 84 cs = some x) : ∃ y : PClash, cs = clashC y := by
 obtain ⟨xs, m, _, hcs, hf⟩ := open_struct (l := [(9, 0), (9, 1), (9, 2), (9, 3), (4, 4), (4, 5), (4, 6)]) (struct_of (by kernel_rfl)) (by kernel_rfl) (by kernel_rfl) h
 obtain ⟨_, _, h0⟩ := hf 0 _ rfl
 obtain ⟨_, _, h1⟩ := hf 1 _ rfl
 obtain ⟨_, _, h2⟩ := hf 2 _ rfl
 obtain ⟨_, _, h3⟩ := hf 3 _ rfl
 obtain ⟨_, _, h4⟩ := hf 4 _ rfl
 obtain ⟨_, _, h5⟩ := hf 5 _ rfl
 obtain ⟨_, _, h6⟩ := hf 6 _ rfl
 obtain ⟨s0, e0⟩ := op_s h0
 obtain ⟨s1, e1⟩ := op_s h1
 obtain ⟨s2, e2⟩ := op_s h2
 obtain ⟨s3, e3⟩ := op_s h3
 obtain ⟨s4, e4⟩ := op_b h4
 obtain ⟨s5, e5⟩ := op_b h5
 obtain ⟨s6, e6⟩ := op_b h6
 simp only [List.map_cons, List.map_nil, e0, e1, e2, e3, e4, e5, e6] at hcs
 exact ⟨⟨s0, s1, s2, s3, s4, s5, s6⟩, hcs⟩
theorem open_ask {fuel : Nat} {cs : List Value} {x : DataW H × List MemPlace} (h : DataW.trod enc Tryz.prog w 0 (fun _ => true) held fuel 38 cs = some x) :
  ∃ (a : PAsk) (Af : Option Addr) (cf : Nat) (Ao : Option Addr) (co : Nat) (Aa : Option Addr) (ca : Nat) (xs : List (DataW H × List MemPlace)), cs = askL a Af cf Ao co Aa ca ∧ AskRows w a Af cf Ao co Aa ca ∧ x.1 = .agg (xs.map (·.1)) ∧
   (∃ y, xs[4]? = some y ∧ SLen y.1 a.files.length) ∧ (∃ y, xs[9]? = some y ∧ SLen y.1 a.order.length) ∧ (∃ y, xs[11]? = some y ∧ SLen y.1 a.args.length) := by
 obtain ⟨xs, m, hx, hcs, hf⟩ := open_struct (l := [(3, 0), (9, 1), (9, 2), (29, 3), (30, 35), (9, 36), (32, 37), (9, 42), (9, 43), (33, 44), (35, 45), (36, 49)]) (struct_of (by kernel_rfl)) (by kernel_rfl) (by kernel_rfl) h
 obtain ⟨_, _, h0⟩ := hf 0 _ rfl
 obtain ⟨_, _, h1⟩ := hf 1 _ rfl
 obtain ⟨_, _, h2⟩ := hf 2 _ rfl
 obtain ⟨_, _, h3⟩ := hf 3 _ rfl
 obtain ⟨y4, g4, h4⟩ := hf 4 _ rfl
 obtain ⟨_, _, h5⟩ := hf 5 _ rfl
 obtain ⟨_, _, h6⟩ := hf 6 _ rfl
 obtain ⟨_, _, h7⟩ := hf 7 _ rfl
 obtain ⟨_, _, h8⟩ := hf 8 _ rfl
 obtain ⟨y9, g9, h9⟩ := hf 9 _ rfl
 obtain ⟨_, _, h10⟩ := hf 10 _ rfl
 obtain ⟨y11, g11, h11⟩ := hf 11 _ rfl
 obtain ⟨z0, e0⟩ := op_i Tryz.underlying3 h0
 obtain ⟨s1, e1⟩ := op_s h1
 obtain ⟨s2, e2⟩ := op_s h2
 obtain ⟨I, e3⟩ := op_id h3
 obtain ⟨fl, Af, cf, e4, lf, rf, wf⟩ := open_rowG (cells := fileC) (size := 2) Tryz.underlying30 (by kernel_rfl) (by decide) (fun _ => rfl) (fun _ _ _ => op_file) h4
 obtain ⟨s5, e5⟩ := op_s h5
 obtain ⟨us, _, _, hus, hfu⟩ := open_struct (l := [(9, 0), (9, 1), (9, 2), (3, 3), (9, 4)]) (struct_of (by kernel_rfl)) (by kernel_rfl) (by kernel_rfl) h6
 obtain ⟨_, _, k0⟩ := hfu 0 _ rfl
 obtain ⟨_, _, k1⟩ := hfu 1 _ rfl
 obtain ⟨_, _, k2⟩ := hfu 2 _ rfl
 obtain ⟨_, _, k3⟩ := hfu 3 _ rfl
 obtain ⟨_, _, k4⟩ := hfu 4 _ rfl
 obtain ⟨u0, d0⟩ := op_s k0
 obtain ⟨u1, d1⟩ := op_s k1
 obtain ⟨u2, d2⟩ := op_s k2
 obtain ⟨u3, d3⟩ := op_i Tryz.underlying3 k3
 obtain ⟨u4, d4⟩ := op_s k4
 simp only [List.map_cons, List.map_nil, d0, d1, d2, d3, d4] at hus
 obtain ⟨s7, e7⟩ := op_s h7
 obtain ⟨s8, e8⟩ := op_s h8
 obtain ⟨ol, Ao, co, e9, lo, ro, wo⟩ := open_rowG (cells := intC) (size := 1) Tryz.underlying33 (by kernel_rfl) (by decide) (fun _ => rfl) (fun _ _ _ h => op_i Tryz.underlying3 h) h9
 obtain ⟨vs, _, _, hvs, hfv⟩ := open_struct (l := [(3, 0), (9, 1), (9, 2), (9, 3)]) (struct_of (by kernel_rfl)) (by kernel_rfl) (by kernel_rfl) h10
 obtain ⟨_, _, m0⟩ := hfv 0 _ rfl
 obtain ⟨_, _, m1⟩ := hfv 1 _ rfl
 obtain ⟨_, _, m2⟩ := hfv 2 _ rfl
 obtain ⟨_, _, m3⟩ := hfv 3 _ rfl
 obtain ⟨v0, c0⟩ := op_i Tryz.underlying3 m0
 obtain ⟨v1, c1⟩ := op_s m1
 obtain ⟨v2, c2⟩ := op_s m2
 obtain ⟨v3, c3⟩ := op_s m3
 simp only [List.map_cons, List.map_nil, c0, c1, c2, c3] at hvs
 obtain ⟨al, Aa, ca, e11, la, ra, wa⟩ := open_rowG (cells := intC) (size := 1) Tryz.underlying36 (by kernel_rfl) (by decide) (fun _ => rfl) (fun _ _ _ h => op_i Tryz.underlying2 h) h11
 simp only [List.map_cons, List.map_nil, e0, e1, e2, e3, e4, e5, hus, e7, e8, e9, hvs, e11] at hcs
 exact ⟨⟨z0, s1, s2, I, fl, s5, u0, u1, u2, u3, u4, s7, s8, ol, v0, v1, v2, v3, al⟩, Af, cf, Ao, co, Aa, ca, xs, hcs, ⟨rf, ro, ra, lf, lo, la⟩, hx, ⟨y4, g4, wf⟩, ⟨y9, g9, wo⟩, ⟨y11, g11, wa⟩⟩
theorem open_ans {fuel : Nat} {cs : List Value} {x : DataW H × List MemPlace} (h : DataW.trod enc Tryz.prog w 0 (fun _ => true) held fuel 49 cs = some x) :
  ∃ (b : PAnswer) (Bf : Option Addr) (df : Nat) (Bc : Option Addr) (dc : Nat) (Bi : Option Addr) (di : Nat) (xs : List (DataW H × List MemPlace)), cs = ansL b Bf df Bc dc Bi di ∧ AnsRows w b Bf df Bc dc Bi di ∧ x.1 = .agg (xs.map (·.1)) ∧
   (∃ y, xs[3]? = some y ∧ SLen y.1 b.files.length) ∧ (∃ y, xs[4]? = some y ∧ SLen y.1 b.clashes.length) ∧ (∃ y, xs[6]? = some y ∧ SLen y.1 b.ids.length) := by
 obtain ⟨xs, m, hx, hcs, hf⟩ := open_struct (l := [(39, 0), (43, 1), (29, 4), (30, 36), (44, 37), (46, 38), (47, 42)]) (struct_of (by kernel_rfl)) (by kernel_rfl) (by kernel_rfl) h
 obtain ⟨_, _, h0⟩ := hf 0 _ rfl
 obtain ⟨_, _, h1⟩ := hf 1 _ rfl
 obtain ⟨_, _, h2⟩ := hf 2 _ rfl
 obtain ⟨y3, g3, h3⟩ := hf 3 _ rfl
 obtain ⟨y4, g4, h4⟩ := hf 4 _ rfl
 obtain ⟨_, _, h5⟩ := hf 5 _ rfl
 obtain ⟨y6, g6, h6⟩ := hf 6 _ rfl
 obtain ⟨z0, e0⟩ := op_i Tryz.underlying39 h0
 obtain ⟨us, _, _, hus, hfu⟩ := open_struct (l := [(39, 0), (3, 1), (3, 2)]) (struct_of (by kernel_rfl)) (by kernel_rfl) (by kernel_rfl) h1
 obtain ⟨_, _, k0⟩ := hfu 0 _ rfl
 obtain ⟨_, _, k1⟩ := hfu 1 _ rfl
 obtain ⟨_, _, k2⟩ := hfu 2 _ rfl
 obtain ⟨u0, d0⟩ := op_i Tryz.underlying39 k0
 obtain ⟨u1, d1⟩ := op_i Tryz.underlying3 k1
 obtain ⟨u2, d2⟩ := op_i Tryz.underlying3 k2
 simp only [List.map_cons, List.map_nil, d0, d1, d2] at hus
 obtain ⟨I, e2⟩ := op_id h2
 obtain ⟨fl, Bf, df, e3, lf, rf, wf⟩ := open_rowG (cells := fileC) (size := 2) Tryz.underlying30 (by kernel_rfl) (by decide) (fun _ => rfl) (fun _ _ _ => op_file) h3
 obtain ⟨cl, Bc, dc, e4, lc, rc, wc⟩ := open_rowG (cells := clashC) (size := 7) Tryz.underlying44 (by kernel_rfl) (by decide) (fun _ => rfl) (fun _ _ _ => op_clash) h4
 obtain ⟨vs, _, _, hvs, hfv⟩ := open_struct (l := [(3, 0), (9, 1), (9, 2), (3, 3)]) (struct_of (by kernel_rfl)) (by kernel_rfl) (by kernel_rfl) h5
 obtain ⟨_, _, m0⟩ := hfv 0 _ rfl
 obtain ⟨_, _, m1⟩ := hfv 1 _ rfl
 obtain ⟨_, _, m2⟩ := hfv 2 _ rfl
 obtain ⟨_, _, m3⟩ := hfv 3 _ rfl
 obtain ⟨v0, c0⟩ := op_i Tryz.underlying3 m0
 obtain ⟨v1, c1⟩ := op_s m1
 obtain ⟨v2, c2⟩ := op_s m2
 obtain ⟨v3, c3⟩ := op_i Tryz.underlying3 m3
 simp only [List.map_cons, List.map_nil, c0, c1, c2, c3] at hvs
 obtain ⟨il, Bi, di, e6, li, ri, wi⟩ := open_rowG (cells := idC) (size := 32) Tryz.underlying47 (by kernel_rfl) (by decide) (fun _ => rfl) (fun _ _ _ => op_id) h6
 simp only [List.map_cons, List.map_nil, e0, hus, e2, e3, e4, hvs, e6] at hcs
 exact ⟨⟨z0, u0, u1, u2, I, fl, cl, v0, v1, v2, v3, il⟩, Bf, df, Bc, dc, Bi, di, xs, hcs, ⟨rf, rc, ri, lf, lc, li⟩, hx, ⟨y3, g3, wf⟩, ⟨y4, g4, wc⟩, ⟨y6, g6, wi⟩⟩
theorem wt_field {t : TypeId} {fs : Array Field} {ps : List (DataW H)} {j : Nat} {tj : TypeId} {d : DataW H} (hu : Tryz.prog.underlying t = some (.struct fs)) (hw : ∀ n ∈ (DataW.agg ps).weights Tryz.prog t, n ≤ reachBytes) (htj : (fs.toList.map (·.type))[j]? = some tj) (hd : ps[j]? = some d) : ∀ n ∈ d.weights Tryz.prog tj, n ≤ reachBytes := by
 intro n hn
 apply hw
 unfold DataW.weights
 rw [hu]
 exact DataW.weights_mem_each htj hd n hn
theorem wt_len {d : DataW H} {n : Nat} {t e : TypeId} (ht : Tryz.prog.underlying t = some (.slice e)) (hb : Nat.ble 1 (Tryz.prog.bytesOf e) = true) (hw : ∀ m ∈ d.weights Tryz.prog t, m ≤ reachBytes) (h : SLen d n) : n ≤ 140737488351232 := by
 rcases h with rfl | ⟨el, sp, rfl, hl⟩
 ·omega
 ·have hb := Nat.le_of_ble_eq_true hb
  have := hw ((el.length + sp.length) * Tryz.prog.bytesOf e) (by unfold DataW.weights; rw [ht]; simp)
  have h1 : reachBytes = 140737488351232 := rfl
  rw [h1] at this
  have h2 : el.length + sp.length ≤ (el.length + sp.length) * Tryz.prog.bytesOf e := Nat.le_mul_of_pos_right _ hb
  omega
end
end Go.Proofs.YtimioelnnhnbiaaGreatDoor
namespace Go.Proofs.YtimioelnnhnbiaaGreatDoor
open Go.RowKit
def clashOf (y : Js.J) : PClash := ⟨(ofP y [112, 97, 116, 104]).text, (ofP y [98, 97, 115, 101]).text, (ofP y [111, 117, 114, 115]).text, (ofP y [116, 104, 101, 105, 114, 115]).text, (ofP y [105, 110, 66, 97, 115, 101]).bool, (ofP y [105, 110, 79, 117, 114, 115]).bool, (ofP y [105, 110, 84, 104, 101, 105, 114, 115]).bool⟩
theorem kept_clash : Kept 7 (RC clashC) := kept_C (fun _ => rfl) (fun x v hv => by simp [clashC] at hv; rcases hv with rfl | rfl | rfl | rfl | rfl | rfl | rfl <;> rfl)
set_option maxRecDepth 100000 in
set_option maxHeartbeats 8000000 in
theorem from_clash : FromC 34 (fun x => .agg (clashC x).toArray) clashOf := by
 intro y vs S w hjv hSw hn
 have HJ0 := Lib.hid hjv
 have HSS := Lib.hid hSw
 obtain ⟨A5, c5, A6, c6, k0, b0, n0, t0, l5, l6, rfl⟩ := hjv.shape
 have b1 := below_box w (.cells #[.int .i64 k0, .bool b0, .int .i64 n0, .string t0, .slice A5 l5 c5, .slice A6 l6 c6] 25)
 have s1 : (w.alloc (.cells #[.int .i64 k0, .bool b0, .int .i64 n0, .string t0, .slice A5 l5 c5, .slice A6 l6 c6] 25)).heap.size = w.heap.size + 1 := by simp
 have e1 : JBox _ _ _ _ _ _ _ _ := heap_alloc_new w (.cells #[.int .i64 k0, .bool b0, .int .i64 n0, .string t0, .slice A5 l5 c5, .slice A6 l6 c6] 25)
 have b2 := below_box (w.alloc (.cells #[.int .i64 k0, .bool b0, .int .i64 n0, .string t0, .slice A5 l5 c5, .slice A6 l6 c6] 25)) (.cells #[.string ⟨#[]⟩, .string ⟨#[]⟩, .string ⟨#[]⟩, .string ⟨#[]⟩, .bool false, .bool false, .bool false] 84)
 have e2 := heap_alloc_new (w.alloc (.cells #[.int .i64 k0, .bool b0, .int .i64 n0, .string t0, .slice A5 l5 c5, .slice A6 l6 c6] 25)) (.cells #[.string ⟨#[]⟩, .string ⟨#[]⟩, .string ⟨#[]⟩, .string ⟨#[]⟩, .bool false, .bool false, .bool false] 84)
 rw [s1] at e2
 have HE1 := Lib.hid (e1.next b2)
 have HE2 := Lib.hid e2
 have HJ2 := Lib.hid ((HJ0.out.next b1).next b2)
 have HW2 := Lib.hid (b1.trans (b2.mono (by rw [s1]; omega)))
 clear b1 s1 e1 b2 e2 HJ0 hSw hjv
 go_enter Tryz.func34, Tryz.ntmps34
 go_upto_region 1 with fail
 generalize ((w.alloc (.cells #[.int .i64 k0, .bool b0, .int .i64 n0, .string t0, .slice A5 l5 c5, .slice A6 l6 c6] 25)).alloc (.cells #[.string ⟨#[]⟩, .string ⟨#[]⟩, .string ⟨#[]⟩, .string ⟨#[]⟩, .bool false, .bool false, .bool false] 84)) = w2 at HE1 HE2 HJ2 HW2 ⊢
 obtain ⟨N, hN⟩ : ∃ N, w.heap.size = N := ⟨_, rfl⟩
 rw [hN] at HE1 HE2 ⊢
 have HN := Lib.hid hN
 clear hN
 go_wp2_with fail
 refine wp_region_any (by kernel_rfl) ?_
 change wpAny _ _ _ _ _ _ _ (World.drew _)
 have hbd : Below w2.heap.size w2 w2.drew := below_drewN (Below.refl _ _) 1
 have HS : Hid ((fun W => JBox W N (.int .i64 k0) (.bool b0) (.int .i64 n0) (.string t0) (.slice A5 l5 c5) (.slice A6 l6 c6)) w2.drew) := Lib.hid (JBox.next HE1.out hbd)
 have HZ : Hid (w2.drew.heap[N + 1]? = some (.cells #[.string ⟨#[]⟩, .string ⟨#[]⟩, .string ⟨#[]⟩, .string ⟨#[]⟩, .bool false, .bool false, .bool false] 84 (0, 0))) := Lib.hid (blk_next hbd HE2.out)
 have HW : Hid (Below N w w2.drew) := Lib.hid (HN.out ▸ (HW2.out.trans (hbd.mono HW2.out.size)))
 have HJ := Lib.hid (HJ2.out.next hbd)
 clear hbd HE1 HE2 HW2 HJ2
 generalize w2.drew = W at HS HZ HW HJ ⊢
 refine wpAny_of_till (S := fun W => JBox W N (.int .i64 k0) (.bool b0) (.int .i64 n0) (.string t0) (.slice A5 l5 c5) (.slice A6 l6 c6)) (st := (fun _ => false)) _ _ _ _ ?_
 change wpTill _ _ _ _ _ _ _ #[false, false, false, false, false, false, false, false, false, false, false, false, false, false, false, false, false, false, false] _ _
 refine tk0 0 (.agg #[.int .i64 k0, .bool b0, .int .i64 n0, .string t0, .slice A5 l5 c5, .slice A6 l6 c6]) rfl (Or.inl ⟨by rfl, ?yb0⟩) HS.out (fun _ => ?_)
 case yb0 => (intro W0 hS; obtain ⟨x0, x1, x2, x3, x4, x5⟩ := JBox.cells hS; go_simp; (try with_reducible rfl))
 simp only [Act.put, CL]
 refine tk0 2 (.agg #[.int .i64 k0, .bool b0, .int .i64 n0, .string t0, .slice A5 l5 c5, .slice A6 l6 c6]) rfl (Or.inl ⟨by rfl, ?yb2⟩) HS.out (fun _ => ?_)
 case yb2 => (intro W0 hS; obtain ⟨x0, x1, x2, x3, x4, x5⟩ := JBox.cells hS; go_simp; (try with_reducible rfl))
 simp only [Act.put, CL]
 refine tk0 4 (.agg #[.int .i64 k0, .bool b0, .int .i64 n0, .string t0, .slice A5 l5 c5, .slice A6 l6 c6]) rfl (Or.inl ⟨by rfl, ?yb4⟩) HS.out (fun _ => ?_)
 case yb4 => (intro W0 hS; obtain ⟨x0, x1, x2, x3, x4, x5⟩ := JBox.cells hS; go_simp; (try with_reducible rfl))
 simp only [Act.put, CL]
 refine tk0 6 (.agg #[.int .i64 k0, .bool b0, .int .i64 n0, .string t0, .slice A5 l5 c5, .slice A6 l6 c6]) rfl (Or.inl ⟨by rfl, ?yb6⟩) HS.out (fun _ => ?_)
 case yb6 => (intro W0 hS; obtain ⟨x0, x1, x2, x3, x4, x5⟩ := JBox.cells hS; go_simp; (try with_reducible rfl))
 simp only [Act.put, CL]
 refine tk0 8 (.agg #[.int .i64 k0, .bool b0, .int .i64 n0, .string t0, .slice A5 l5 c5, .slice A6 l6 c6]) rfl (Or.inl ⟨by rfl, ?yb8⟩) HS.out (fun _ => ?_)
 case yb8 => (intro W0 hS; obtain ⟨x0, x1, x2, x3, x4, x5⟩ := JBox.cells hS; go_simp; (try with_reducible rfl))
 simp only [Act.put, CL]
 refine tk0 11 (.agg #[.int .i64 k0, .bool b0, .int .i64 n0, .string t0, .slice A5 l5 c5, .slice A6 l6 c6]) rfl (Or.inl ⟨by rfl, ?yb11⟩) HS.out (fun _ => ?_)
 case yb11 => (intro W0 hS; obtain ⟨x0, x1, x2, x3, x4, x5⟩ := JBox.cells hS; go_simp; (try with_reducible rfl))
 simp only [Act.put, CL]
 refine tk0 14 (.agg #[.int .i64 k0, .bool b0, .int .i64 n0, .string t0, .slice A5 l5 c5, .slice A6 l6 c6]) rfl (Or.inl ⟨by rfl, ?yb14⟩) HS.out (fun _ => ?_)
 case yb14 => (intro W0 hS; obtain ⟨x0, x1, x2, x3, x4, x5⟩ := JBox.cells hS; go_simp; (try with_reducible rfl))
 simp only [Act.put, CL]
 refine rdy 1 rfl (fun KK hKK => ?_)
 go_simp
 refine (str_any y [112, 97, 116, 104] _ S W HJ.out (fun g hg => Nat.lt_of_lt_of_le (HSS.out g hg) (HN.out ▸ HW.out.size)) hn).mono ?_
 rintro e W1 ⟨rfl, hb⟩
 have HJ1 := Lib.hid (HJ.out.next hb)
 have HS1 : Hid ((fun W => JBox W N (.int .i64 k0) (.bool b0) (.int .i64 n0) (.string t0) (.slice A5 l5 c5) (.slice A6 l6 c6)) W1) := Lib.hid (JBox.next HS.out hb)
 have HZ1 : Hid (W1.heap[N + 1]? = some (.cells #[.string ⟨#[]⟩, .string ⟨#[]⟩, .string ⟨#[]⟩, .string ⟨#[]⟩, .bool false, .bool false, .bool false] 84 (0, 0))) := Lib.hid (blk_next hb HZ.out)
 have HW1 : Hid (Below N w W1) := Lib.hid (HW.out.trans (hb.mono (by have := JBox.lt HS.out; omega)))
 clear hb HS HZ HW HJ
 have HS := HS1
 have HZ := HZ1
 have HW := HW1
 have HJ := HJ1
 clear HS1 HZ1 HW1 HJ1
 refine hKK _ _ (fun _ => HS.out) ?_
 clear hKK KK
 simp only [Act.put, CL]
 refine rdy 3 rfl (fun KK hKK => ?_)
 go_simp
 refine (str_any y [98, 97, 115, 101] _ S W1 HJ.out (fun g hg => Nat.lt_of_lt_of_le (HSS.out g hg) (HN.out ▸ HW.out.size)) hn).mono ?_
 rintro e W2 ⟨rfl, hb⟩
 have HJ1 := Lib.hid (HJ.out.next hb)
 have HS1 : Hid ((fun W => JBox W N (.int .i64 k0) (.bool b0) (.int .i64 n0) (.string t0) (.slice A5 l5 c5) (.slice A6 l6 c6)) W2) := Lib.hid (JBox.next HS.out hb)
 have HZ1 : Hid (W2.heap[N + 1]? = some (.cells #[.string ⟨#[]⟩, .string ⟨#[]⟩, .string ⟨#[]⟩, .string ⟨#[]⟩, .bool false, .bool false, .bool false] 84 (0, 0))) := Lib.hid (blk_next hb HZ.out)
 have HW1 : Hid (Below N w W2) := Lib.hid (HW.out.trans (hb.mono (by have := JBox.lt HS.out; omega)))
 clear hb HS HZ HW HJ
 have HS := HS1
 have HZ := HZ1
 have HW := HW1
 have HJ := HJ1
 clear HS1 HZ1 HW1 HJ1
 refine hKK _ _ (fun _ => HS.out) ?_
 clear hKK KK
 simp only [Act.put, CL]
 refine rdy 5 rfl (fun KK hKK => ?_)
 go_simp
 refine (str_any y [111, 117, 114, 115] _ S W2 HJ.out (fun g hg => Nat.lt_of_lt_of_le (HSS.out g hg) (HN.out ▸ HW.out.size)) hn).mono ?_
 rintro e W3 ⟨rfl, hb⟩
 have HJ1 := Lib.hid (HJ.out.next hb)
 have HS1 : Hid ((fun W => JBox W N (.int .i64 k0) (.bool b0) (.int .i64 n0) (.string t0) (.slice A5 l5 c5) (.slice A6 l6 c6)) W3) := Lib.hid (JBox.next HS.out hb)
 have HZ1 : Hid (W3.heap[N + 1]? = some (.cells #[.string ⟨#[]⟩, .string ⟨#[]⟩, .string ⟨#[]⟩, .string ⟨#[]⟩, .bool false, .bool false, .bool false] 84 (0, 0))) := Lib.hid (blk_next hb HZ.out)
 have HW1 : Hid (Below N w W3) := Lib.hid (HW.out.trans (hb.mono (by have := JBox.lt HS.out; omega)))
 clear hb HS HZ HW HJ
 have HS := HS1
 have HZ := HZ1
 have HW := HW1
 have HJ := HJ1
 clear HS1 HZ1 HW1 HJ1
 refine hKK _ _ (fun _ => HS.out) ?_
 clear hKK KK
 simp only [Act.put, CL]
 refine rdy 7 rfl (fun KK hKK => ?_)
 go_simp
 refine (str_any y [116, 104, 101, 105, 114, 115] _ S W3 HJ.out (fun g hg => Nat.lt_of_lt_of_le (HSS.out g hg) (HN.out ▸ HW.out.size)) hn).mono ?_
 rintro e W4 ⟨rfl, hb⟩
 have HJ1 := Lib.hid (HJ.out.next hb)
 have HS1 : Hid ((fun W => JBox W N (.int .i64 k0) (.bool b0) (.int .i64 n0) (.string t0) (.slice A5 l5 c5) (.slice A6 l6 c6)) W4) := Lib.hid (JBox.next HS.out hb)
 have HZ1 : Hid (W4.heap[N + 1]? = some (.cells #[.string ⟨#[]⟩, .string ⟨#[]⟩, .string ⟨#[]⟩, .string ⟨#[]⟩, .bool false, .bool false, .bool false] 84 (0, 0))) := Lib.hid (blk_next hb HZ.out)
 have HW1 : Hid (Below N w W4) := Lib.hid (HW.out.trans (hb.mono (by have := JBox.lt HS.out; omega)))
 clear hb HS HZ HW HJ
 have HS := HS1
 have HZ := HZ1
 have HW := HW1
 have HJ := HJ1
 clear HS1 HZ1 HW1 HJ1
 refine hKK _ _ (fun _ => HS.out) ?_
 clear hKK KK
 simp only [Act.put, CL]
 refine rdy 9 rfl (fun KK hKK => ?_)
 go_simp
 refine (of_any y [105, 110, 66, 97, 115, 101] _ S W4 HJ.out (fun g hg => Nat.lt_of_lt_of_le (HSS.out g hg) (HN.out ▸ HW.out.size)) hn).mono ?_
 rintro e W5 ⟨hb, us, rfl, hju⟩
 obtain ⟨C5, d5, C6, d6, rfl, -, -, -⟩ := jv_open hju
 clear hju
 have HJ1 := Lib.hid (HJ.out.next hb)
 have HS1 : Hid ((fun W => JBox W N (.int .i64 k0) (.bool b0) (.int .i64 n0) (.string t0) (.slice A5 l5 c5) (.slice A6 l6 c6)) W5) := Lib.hid (JBox.next HS.out hb)
 have HZ1 : Hid (W5.heap[N + 1]? = some (.cells #[.string ⟨#[]⟩, .string ⟨#[]⟩, .string ⟨#[]⟩, .string ⟨#[]⟩, .bool false, .bool false, .bool false] 84 (0, 0))) := Lib.hid (blk_next hb HZ.out)
 have HW1 : Hid (Below N w W5) := Lib.hid (HW.out.trans (hb.mono (by have := JBox.lt HS.out; omega)))
 clear hb HS HZ HW HJ
 have HS := HS1
 have HZ := HZ1
 have HW := HW1
 have HJ := HJ1
 clear HS1 HZ1 HW1 HJ1
 refine hKK _ _ (fun _ => HS.out) ?_
 clear hKK KK
 simp only [Act.put, CL]
 refine tkF 10 (.bool (ofP y [105, 110, 66, 97, 115, 101]).bool) rfl ?yb10 (fun _ => HS.out) ?_
 case yb10 => (intro W0 _; have hfl := fld1; go_simp; (try with_reducible rfl))
 simp only [Act.put, CL]
 refine rdy 12 rfl (fun KK hKK => ?_)
 go_simp
 refine (of_any y [105, 110, 79, 117, 114, 115] _ S W5 HJ.out (fun g hg => Nat.lt_of_lt_of_le (HSS.out g hg) (HN.out ▸ HW.out.size)) hn).mono ?_
 rintro e W6 ⟨hb, us, rfl, hju⟩
 obtain ⟨C5, d5, C6, d6, rfl, -, -, -⟩ := jv_open hju
 clear hju
 have HJ1 := Lib.hid (HJ.out.next hb)
 have HS1 : Hid ((fun W => JBox W N (.int .i64 k0) (.bool b0) (.int .i64 n0) (.string t0) (.slice A5 l5 c5) (.slice A6 l6 c6)) W6) := Lib.hid (JBox.next HS.out hb)
 have HZ1 : Hid (W6.heap[N + 1]? = some (.cells #[.string ⟨#[]⟩, .string ⟨#[]⟩, .string ⟨#[]⟩, .string ⟨#[]⟩, .bool false, .bool false, .bool false] 84 (0, 0))) := Lib.hid (blk_next hb HZ.out)
 have HW1 : Hid (Below N w W6) := Lib.hid (HW.out.trans (hb.mono (by have := JBox.lt HS.out; omega)))
 clear hb HS HZ HW HJ
 have HS := HS1
 have HZ := HZ1
 have HW := HW1
 have HJ := HJ1
 clear HS1 HZ1 HW1 HJ1
 refine hKK _ _ (fun _ => HS.out) ?_
 clear hKK KK
 simp only [Act.put, CL]
 refine tkF 13 (.bool (ofP y [105, 110, 79, 117, 114, 115]).bool) rfl ?yb13 (fun _ => HS.out) ?_
 case yb13 => (intro W0 _; have hfl := fld1; go_simp; (try with_reducible rfl))
 simp only [Act.put, CL]
 refine rdy 15 rfl (fun KK hKK => ?_)
 go_simp
 refine (of_any y [105, 110, 84, 104, 101, 105, 114, 115] _ S W6 HJ.out (fun g hg => Nat.lt_of_lt_of_le (HSS.out g hg) (HN.out ▸ HW.out.size)) hn).mono ?_
 rintro e W7 ⟨hb, us, rfl, hju⟩
 obtain ⟨C5, d5, C6, d6, rfl, -, -, -⟩ := jv_open hju
 clear hju
 have HJ1 := Lib.hid (HJ.out.next hb)
 have HS1 : Hid ((fun W => JBox W N (.int .i64 k0) (.bool b0) (.int .i64 n0) (.string t0) (.slice A5 l5 c5) (.slice A6 l6 c6)) W7) := Lib.hid (JBox.next HS.out hb)
 have HZ1 : Hid (W7.heap[N + 1]? = some (.cells #[.string ⟨#[]⟩, .string ⟨#[]⟩, .string ⟨#[]⟩, .string ⟨#[]⟩, .bool false, .bool false, .bool false] 84 (0, 0))) := Lib.hid (blk_next hb HZ.out)
 have HW1 : Hid (Below N w W7) := Lib.hid (HW.out.trans (hb.mono (by have := JBox.lt HS.out; omega)))
 clear hb HS HZ HW HJ
 have HS := HS1
 have HZ := HZ1
 have HW := HW1
 have HJ := HJ1
 clear HS1 HZ1 HW1 HJ1
 refine hKK _ _ (fun _ => HS.out) ?_
 clear hKK KK
 simp only [Act.put, CL]
 refine tkF 16 (.bool (ofP y [105, 110, 84, 104, 101, 105, 114, 115]).bool) rfl ?yb16 (fun _ => HS.out) ?_
 case yb16 => (intro W0 _; have hfl := fld1; go_simp; (try with_reducible rfl))
 simp only [Act.put, CL]
 refine tkF 17 (.agg #[.string (str (ofP y [112, 97, 116, 104]).text), .string (str (ofP y [98, 97, 115, 101]).text), .string (str (ofP y [111, 117, 114, 115]).text), .string (str (ofP y [116, 104, 101, 105, 114, 115]).text), .bool (ofP y [105, 110, 66, 97, 115, 101]).bool, .bool (ofP y [105, 110, 79, 117, 114, 115]).bool, .bool (ofP y [105, 110, 84, 104, 101, 105, 114, 115]).bool]) rfl ?yb17 (fun _ => HS.out) ?_
 case yb17 => (intro W0 _; go_simp; (try with_reducible rfl))
 simp only [Act.put, CL]
 refine rdy 18 rfl (fun KK hKK => ?_)
 obtain ⟨hk0, hx0⟩ := but_set (i := 0) (.string (str (ofP y [112, 97, 116, 104]).text)) HZ.out
 obtain ⟨hk1, hx1⟩ := but_set (i := 1) (.string (str (ofP y [98, 97, 115, 101]).text)) hx0
 obtain ⟨hk2, hx2⟩ := but_set (i := 2) (.string (str (ofP y [111, 117, 114, 115]).text)) hx1
 obtain ⟨hk3, hx3⟩ := but_set (i := 3) (.string (str (ofP y [116, 104, 101, 105, 114, 115]).text)) hx2
 obtain ⟨hk4, hx4⟩ := but_set (i := 4) (.bool (ofP y [105, 110, 66, 97, 115, 101]).bool) hx3
 obtain ⟨hk5, hx5⟩ := but_set (i := 5) (.bool (ofP y [105, 110, 79, 117, 114, 115]).bool) hx4
 obtain ⟨hk6, hx6⟩ := but_set (i := 6) (.bool (ofP y [105, 110, 84, 104, 101, 105, 114, 115]).bool) hx5
 have HK9 := Lib.hid ((((((hk0.trans hk1).trans hk2).trans hk3).trans hk4).trans hk5).trans hk6)
 have HX9 := Lib.hid hx6
 have z0 : W7.cell? ⟨N + 1, 0, none⟩ = some (.string ⟨#[]⟩) := (blk_cells HZ.out 0).trans rfl
 have f0 : W7.frozen? ⟨N + 1, 0, none⟩ = false := blk_free HZ.out 0
 have z1 : W7.cell? ⟨N + 1, 1, none⟩ = some (.string ⟨#[]⟩) := (blk_cells HZ.out 1).trans rfl
 have f1 : W7.frozen? ⟨N + 1, 1, none⟩ = false := blk_free HZ.out 1
 have z2 : W7.cell? ⟨N + 1, 2, none⟩ = some (.string ⟨#[]⟩) := (blk_cells HZ.out 2).trans rfl
 have f2 : W7.frozen? ⟨N + 1, 2, none⟩ = false := blk_free HZ.out 2
 have z3 : W7.cell? ⟨N + 1, 3, none⟩ = some (.string ⟨#[]⟩) := (blk_cells HZ.out 3).trans rfl
 have f3 : W7.frozen? ⟨N + 1, 3, none⟩ = false := blk_free HZ.out 3
 have z4 : W7.cell? ⟨N + 1, 4, none⟩ = some (.bool false) := (blk_cells HZ.out 4).trans rfl
 have f4 : W7.frozen? ⟨N + 1, 4, none⟩ = false := blk_free HZ.out 4
 have z5 : W7.cell? ⟨N + 1, 5, none⟩ = some (.bool false) := (blk_cells HZ.out 5).trans rfl
 have f5 : W7.frozen? ⟨N + 1, 5, none⟩ = false := blk_free HZ.out 5
 have z6 : W7.cell? ⟨N + 1, 6, none⟩ = some (.bool false) := (blk_cells HZ.out 6).trans rfl
 have f6 : W7.frozen? ⟨N + 1, 6, none⟩ = false := blk_free HZ.out 6
 clear hk0 hx0 hk1 hx1 hk2 hx2 hk3 hx3 hk4 hx4 hk5 hx5 hk6 hx6
 go_simp
 clear z0 f0 z1 f1 z2 f2 z3 f3 z4 f4 z5 f5 z6 f6
 refine hKK _ _ (fun _ => HK9.out.blk HS.out (by simp)) ?_
 clear hKK KK
 simp only [Act.put, CL]
 refine wpTill_done (by kernel_rfl) ?_ _
 (try simp only [Exit.then])
 go_wp2_with fail
 refine bodyPost_ret (results_row1 rfl _ _ _ (N + 1) #[.string (str (ofP y [112, 97, 116, 104]).text), .string (str (ofP y [98, 97, 115, 101]).text), .string (str (ofP y [111, 117, 114, 115]).text), .string (str (ofP y [116, 104, 101, 105, 114, 115]).text), .bool (ofP y [105, 110, 66, 97, 115, 101]).bool, .bool (ofP y [105, 110, 79, 117, 114, 115]).bool, .bool (ofP y [105, 110, 84, 104, 101, 105, 114, 115]).bool] rfl (run_loadVar_row _ (N + 1) 84 84 #[.string (str (ofP y [112, 97, 116, 104]).text), .string (str (ofP y [98, 97, 115, 101]).text), .string (str (ofP y [111, 117, 114, 115]).text), .string (str (ofP y [116, 104, 101, 105, 114, 115]).text), .bool (ofP y [105, 110, 66, 97, 115, 101]).bool, .bool (ofP y [105, 110, 79, 117, 114, 115]).bool, .bool (ofP y [105, 110, 84, 104, 101, 105, 114, 115]).bool] (0, 0) _ HX9.out Tryz.underlying84 rfl (by kernel_rfl))) rfl ?_
 exact ⟨rfl, (HN.out ▸ HW.out).trans (HK9.out.to (by rw [HN.out]; have := JBox.lt HS.out; omega) (by rw [HN.out]; intro j hj; simp at hj; omega))⟩
end Go.Proofs.YtimioelnnhnbiaaGreatDoor
namespace Go.Proofs.YtimioelnnhnbiaaGreatDoor
open Go.RowKit
theorem infoclashE : (Tryz.prog.info? 84).map (fun i => (i.zero, i.size, i.bytes)) = some (some (.agg #[.string ⟨#[]⟩, .string ⟨#[]⟩, .string ⟨#[]⟩, .string ⟨#[]⟩, .bool false, .bool false, .bool false]), 7, 72) := by kernel_rfl
set_option maxRecDepth 100000 in
set_option maxHeartbeats 8000000 in
theorem each_clash (x : Js.J) (nm : Js.Bs) (vs : List Value) (S : Nat → Prop) (w : World) (hjv : JV w S x vs) (hSw : ∀ g, S g → g < w.heap.size) (hn : Js.nodes x ≤ 1000000) :
  Calls Tryz.prog 33 #[.agg vs.toArray, .string (str nm), .func (.func 34) #[] #[]] w fun e w' => Below w.heap.size w w' ∧ ∃ (Av : Option Addr) (cv : Nat), e = .returned (.slice Av (ofP x nm).items.length cv) ∧ (ofP x nm).items.length ≤ cv ∧ RowAt 7 clashC w' Av ((ofP x nm).items.map clashOf) ∧ (∀ a, Av = some a → w.heap.size ≤ a.block ∧ a.block < w'.heap.size) := by
 have HMADE : Hid (FromC 34 (fun x => .agg #[.string (str x.path), .string (str x.base), .string (str x.ours), .string (str x.theirs), .bool x.inBase, .bool x.inOurs, .bool x.inTheirs]) clashOf) := Lib.hid from_clash
 have HJ := Lib.hid hjv
 have HSS := Lib.hid hSw
 obtain ⟨A5, c5, A6, c6, k0, b0, n0, t0, l5, l6, rfl⟩ := hjv.shape
 have b1 := below_box w (.cells #[.int .i64 k0, .bool b0, .int .i64 n0, .string t0, .slice A5 l5 c5, .slice A6 l6 c6] 25)
 have e1 : JBox _ _ _ _ _ _ _ _ := heap_alloc_new w (.cells #[.int .i64 k0, .bool b0, .int .i64 n0, .string t0, .slice A5 l5 c5, .slice A6 l6 c6] 25)
 have HE1 := Lib.hid e1
 have HJ1 := Lib.hid (HJ.out.next b1)
 have HW1 := Lib.hid b1
 have HON := Lib.hid (of_nodes x nm)
 clear b1 e1 HJ hSw hjv
 go_enter Tryz.func33, Tryz.ntmps33
 go_upto_region 1 with fail
 generalize (w.alloc (.cells #[.int .i64 k0, .bool b0, .int .i64 n0, .string t0, .slice A5 l5 c5, .slice A6 l6 c6] 25)) = w1 at HE1 HJ1 HW1 ⊢
 obtain ⟨x0, x1, x2, x3, x4, x5⟩ := HE1.out.cells
 go_wp2_with fail
 refine (of_any x nm _ S w1 HJ1.out (fun g hg => Nat.lt_of_lt_of_le (HSS.out g hg) HW1.out.size) (by omega)).mono ?_
 rintro e w2 ⟨hb2, us, rfl, hju⟩
 obtain ⟨C5, d5, C6, d6, rfl, -, hil, -⟩ := jv_open hju
 have HIL := Lib.hid hil
 have HW2 := Lib.hid (HW1.out.trans (hb2.mono HW1.out.size))
 have HIT := Lib.hid (items_le (ofP x nm))
 clear hju hb2 HJ1 HE1 HW1 x0 x1 x2 x3 x4 x5 hil
 obtain ⟨z, hz⟩ : ∃ z, ofP x nm = z := ⟨_, rfl⟩
 rw [hz] at HIL HIT HON ⊢
 have hfl := fld4
 have hsmall : z.items.length ≤ 1000000 := by have h1 := HIT.out.1; have h2 := HON.out; omega
 have HZE := Lib.hid hz
 clear hz
 have HZN : Hid (∀ (k : Nat) (y : Js.J), z.items[k]? = some y → Js.nodes y ≤ 1073741824) := Lib.hid (fun k y hy => by have h1 := HIT.out.2 k y hy; have h2 := HON.out; omega)
 have HSW : Hid (∀ W, Below w.heap.size w W → ∀ g, S g → g < W.heap.size) := Lib.hid (fun W hW g hg => Nat.lt_of_lt_of_le (HSS.out g hg) hW.size)
 clear HIT HON hn HSS
 obtain ⟨items, hit⟩ : ∃ l, z.items = l := ⟨_, rfl⟩
 rw [hit] at HIL HZN hsmall ⊢
 have HEQ : Hid ((ofP x nm).items = items) := Lib.hid (by rw [HZE.out]; exact hit)
 clear HZE
 have HG0 : Hid (Gr 84 7 (RC clashC) (fun _ => False) w2.heap.size ((items.take 0).map clashOf) (.slice none 0 0) [] w2) := Lib.hid Gr.nil
 go_wp2_with fail
 clear hfl
 go_loopw [7, 15] (fun a i wr => ∃ (k : Nat) (Av : Option Addr) (cv : Nat) (rs : List (List Value)), k ≤ items.length ∧ a = .slice Av k cv ∧ i = .int .i64 k ∧ Hid (Gr 84 7 (RC clashC) (fun _ => False) w2.heap.size ((items.take k).map clashOf) (.slice Av k cv) rs wr) ∧
  Hid (Below w2.heap.size w2 wr)) (fun _ i _ => items.length - (intOf i).toNat)
 case atStart => exact ⟨0, none, 0, [], by omega, rfl, rfl, HG0, Lib.hid (Below.refl _ _)⟩
 case round =>
  obtain ⟨k, Av, cv, rs, hk, rfl, rfl, HG, HW⟩ := hrel
  by_cases hlt : k < items.length
  ·have hcon : decide ((k : Int) < (items.length : Int)) = true := by simp; omega
   obtain ⟨y, hy⟩ : ∃ y, items[k]? = some y := ⟨items[k], List.getElem?_eq_getElem hlt⟩
   obtain ⟨g, o, k1, b1, n1, t1, A7, l7, c7, A8, l8, c8, hA, hSg, hg, q0, q1, q2, q3, q4, q5, hjy⟩ := (JL.next HIL.out HW.out).elem hy
   subst hA
   have HY := Lib.hid hy
   have hyl := below_box wr (.cells #[.int .i64 k1, .bool b1, .int .i64 n1, .string t1, .slice A7 l7 c7, .slice A8 l8 c8] 25)
   have HB : Hid (JBox _ wr.heap.size _ _ _ _ _ _) := Lib.hid (heap_alloc_new wr (.cells #[.int .i64 k1, .bool b1, .int .i64 n1, .string t1, .slice A7 l7 c7, .slice A8 l8 c8] 25))
   have HG1 := Lib.hid (HG.out.next kept_clash hyl)
   have HW1 := Lib.hid (HW.out.trans (hyl.mono HW.out.size))
   have HJ1 := Lib.hid (hjy.next hyl)
   clear hyl hjy hSg hy HG HW
   go_upto_region 5 with fail
   generalize (wr.alloc (.cells #[.int .i64 k1, .bool b1, .int .i64 n1, .string t1, .slice A7 l7 c7, .slice A8 l8 c8] 25)) = w3 at HB HG1 HW1 HJ1 ⊢
   generalize wr.heap.size = Q at HB ⊢
   clear q0 q1 q2 q3 q4 q5 hg
   obtain ⟨x0, x1, x2, x3, x4, x5⟩ := HB.out.cells
   go_wp2_with fail
   refine (HMADE.out y _ S w3 HJ1.out (HSW.out w3 (HW2.out.trans (HW1.out.mono HW2.out.size))) (HZN.out k y HY.out)).mono ?_
   rintro e w4 ⟨rfl, hb4⟩
   have HG4 := Lib.hid (HG1.out.next kept_clash hb4)
   have HW4 := Lib.hid (HW1.out.trans (hb4.mono HW1.out.size))
   clear hb4 HG1 HW1 HJ1 HB x0 x1 x2 x3 x4 x5
   have hal := below_box w4 (.cells #[.string (str (clashOf y).path), .string (str (clashOf y).base), .string (str (clashOf y).ours), .string (str (clashOf y).theirs), .bool (clashOf y).inBase, .bool (clashOf y).inOurs, .bool (clashOf y).inTheirs] 84)
   have HQ := Lib.hid (heap_alloc_new w4 (.cells #[.string (str (clashOf y).path), .string (str (clashOf y).base), .string (str (clashOf y).ours), .string (str (clashOf y).theirs), .bool (clashOf y).inBase, .bool (clashOf y).inOurs, .bool (clashOf y).inTheirs] 84))
   have HG5 := Lib.hid (HG4.out.next kept_clash hal)
   have HW5 := Lib.hid (HW4.out.trans (hal.mono HW4.out.size))
   clear hal HG4 HW4
   obtain ⟨i0, hi, hz0, hz1, hz2⟩ := info_parts infoclashE
   have hlk : ((items.take k).map clashOf).length = k := by rw [List.length_map, List.length_take]; omega
   have hown := HG5.out.own.own
   rw [hlk] at hown
   generalize hW2 : (w4.alloc (.cells #[.string (str (clashOf y).path), .string (str (clashOf y).base), .string (str (clashOf y).ours), .string (str (clashOf y).theirs), .bool (clashOf y).inBase, .bool (clashOf y).inOurs, .bool (clashOf y).inTheirs] 84)) = W2 at HQ HG5 HW5 hown
   generalize hM : w4.heap.size = M at HQ
   go_wp2_with (at_builtin; refine wpList_append_lies W2 rfl (.tmp 19) (.tmp 23) 44 rfl w2.heap.size 84 i0 (.agg #[.string ⟨#[]⟩, .string ⟨#[]⟩, .string ⟨#[]⟩, .string ⟨#[]⟩, .bool false, .bool false, .bool false]) 7 72 Tryz.underlying44 hi hz0 hz1 hz2 rfl (by decide) (.slice Av k cv) k rs.flatten rfl hown ⟨M, 0, none⟩ 1 1 [.string (str (clashOf y).path), .string (str (clashOf y).base), .string (str (clashOf y).ours), .string (str (clashOf y).theirs), .bool (clashOf y).inBase, .bool (clashOf y).inOurs, .bool (clashOf y).inTheirs] rfl rfl (World.news_of_block HQ.out) (by intro u hu; simp at hu; rcases hu with rfl | rfl | rfl | rfl | rfl | rfl | rfl <;> rfl) (by decide) (by unfold maxLen; omega) (by omega) HG5.out.own.le W2.heap.size rfl ?_; intro g9 cap W3 hown3 hgrow hat3 hlt3)
   obtain ⟨hG6, hk6⟩ := HG5.out.push kept_clash (x := clashOf y) (vs := [.string (str (clashOf y).path), .string (str (clashOf y).base), .string (str (clashOf y).ours), .string (str (clashOf y).theirs), .bool (clashOf y).inBase, .bool (clashOf y).inOurs, .bool (clashOf y).inTheirs]) rfl (by rw [hlk]; exact hown3) hgrow hat3
   rw [hlk] at hG6
   have htk : (items.take k).map clashOf ++ [clashOf y] = (items.take (k + 1)).map clashOf := by rw [List.take_add_one, HY.out, List.map_append]; rfl
   rw [htk] at hG6
   have HG6 := Lib.hid hG6
   have HW6 := Lib.hid (HW5.out.trans (hk6.to HW5.out.size (by
    intro j hj
    have hm : (Value.slice Av k cv).ownBlock = some j := by simpa using hj
    have := (HG5.out.own.lt j hm).1
    omega)))
   go_roundw
   case rel => exact ⟨k + 1, _, _, _, by omega, rfl, by go_num, HG6, HW6⟩
   case measure => simp [intOf]; omega
  ·obtain rfl : k = items.length := by omega
   have hcon : decide (((items.length : Nat) : Int) < (items.length : Int)) = false := by simp
   have HR : Hid (RowAt 7 clashC wr Av (items.map clashOf) ∧ items.length ≤ cv ∧ ∀ a, Av = some a → w2.heap.size ≤ a.block ∧ a.block < wr.heap.size) := Lib.hid (by
    have h1 := HG.out
    rw [List.take_length] at h1
    have h2 := h1.own
    rw [List.length_map] at h2
    exact ⟨h1.rowAt kept_clash, (own_cap h2).1, fun a ha => h1.own.lt a.block (by rw [ha]; rfl)⟩)
   go_wp2_with fail
   go_ret
   rw [HEQ.out]
   exact ⟨HW2.out.trans (HW.out.mono HW2.out.size), Av, cv, rfl, HR.out.2.1, HR.out.1, fun a ha => ⟨Nat.le_trans HW2.out.size (HR.out.2.2 a ha).1, (HR.out.2.2 a ha).2⟩⟩
end Go.Proofs.YtimioelnnhnbiaaGreatDoor
