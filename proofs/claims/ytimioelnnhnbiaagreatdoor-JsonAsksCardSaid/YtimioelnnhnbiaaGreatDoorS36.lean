/-
 THE LAW JsonAsks, walked. CONDITIONS: the rows lie as told; Env.
-/
import Derived.Test.YtimioelnnhnbiaaGreatDoorS31
import Derived.Test.YtimioelnnhnbiaaGreatDoorS33
import Derived.Test.YtimioelnnhnbiaaGreatDoorS34
import Derived.Test.YtimioelnnhnbiaaGreatDoorS12
import Derived.Test.YtimioelnnhnbiaaGreatDoorS35
namespace Go.Proofs.YtimioelnnhnbiaaGreatDoor
open Go.RowKit
section
variable {w W W' : World} {N Y : Nat} {a : PAsk} {Af : Option Addr} {cf : Nat} {Ao : Option Addr} {co : Nat} {Aa : Option Addr} {ca : Nat} {b : PAnswer} {Bf : Option Addr} {df : Nat} {Bc : Option Addr} {dc : Nat} {Bi : Option Addr} {di : Nat} {ls : List Nat} {Y5 Y6 : Nat} {us5 us6 : List Value}
structure Aq (w : World) (N : Nat) (a : PAsk) (Af : Option Addr) (cf : Nat) (Ao : Option Addr) (co : Nat) (Aa : Option Addr) (ca : Nat) (b : PAnswer) (Bf : Option Addr) (df : Nat) (Bc : Option Addr) (dc : Nat) (Bi : Option Addr) (di : Nat) (ls : List Nat) (W : World) : Prop where
 arg : W.heap[N]? = some (.cells (askA a Af cf Ao co Aa ca) 38 (0, 0))
 arg2 : W.heap[N + 1]? = some (.cells (ansA b Bf df Bc dc Bi di) 49 (0, 0))
 low : Below N w W
 nm : ∀ y ∈ ls, y < W.heap.size
theorem Aq.size (h : Aq w N a Af cf Ao co Aa ca b Bf df Bc dc Bi di ls W) : N + 2 ≤ W.heap.size := (Array.getElem?_eq_some_iff.1 h.arg2).1
theorem Aq.next (h : Aq w N a Af cf Ao co Aa ca b Bf df Bc dc Bi di ls W) (hb : Below W.heap.size W W') : Aq w N a Af cf Ao co Aa ca b Bf df Bc dc Bi di ls W' :=
 ⟨blk_next hb h.arg, blk_next hb h.arg2, h.low.trans (hb.mono (by have := h.size; omega)), fun y hy => Nat.lt_of_lt_of_le (h.nm y hy) hb.size⟩
theorem nx_aq : Nx fun W => Aq w N a Af cf Ao co Aa ca b Bf df Bc dc Bi di ls W := fun _ _ h hb => h.next hb
theorem Aq.new (h : Aq w N a Af cf Ao co Aa ca b Bf df Bc dc Bi di ls W) : ∀ g, W.heap.size ≤ g → NB N ls g := fun _ hg => NB.new h.size h.nm hg
theorem Aq.grow {o : Obj} (h : Aq w N a Af cf Ao co Aa ca b Bf df Bc dc Bi di ls W) (hY : W.heap.size = Y) (hb : Below W.heap.size W W') (hz : W'.heap[Y]? = some o) : Aq w N a Af cf Ao co Aa ca b Bf df Bc dc Bi di (Y :: ls) W' :=
 ⟨(h.next hb).arg, (h.next hb).arg2, (h.next hb).low, fun y hy => by
  rcases List.mem_cons.1 hy with rfl | hy
  ·exact (Array.getElem?_eq_some_iff.1 hz).1
  ·exact Nat.lt_of_lt_of_le (h.nm y hy) hb.size⟩
theorem Aq.but1 (h : Aq w N a Af cf Ao co Aa ca b Bf df Bc dc Bi di [] W) (hk : But [Y] W W') (l : N + 2 ≤ Y) : Aq w N a Af cf Ao co Aa ca b Bf df Bc dc Bi di [] W' :=
 ⟨hk.blk h.arg (by simp; omega), hk.blk h.arg2 (by simp; omega), h.low.trans (hk.to (by have := h.size; omega) (by intro j hj; simp at hj; omega)), fun y hy => by cases hy⟩
theorem Aq.drop (h : Aq w N a Af cf Ao co Aa ca b Bf df Bc dc Bi di ls W) : Aq w N a Af cf Ao co Aa ca b Bf df Bc dc Bi di [] W := ⟨h.arg, h.arg2, h.low, fun y hy => by cases hy⟩
structure As (w : World) (N : Nat) (a : PAsk) (Af : Option Addr) (cf : Nat) (Ao : Option Addr) (co : Nat) (Aa : Option Addr) (ca : Nat) (b : PAnswer) (Bf : Option Addr) (df : Nat) (Bc : Option Addr) (dc : Nat) (Bi : Option Addr) (di : Nat) (Y5 Y6 : Nat) (us5 us6 : List Value) (W : World) : Prop where
 arg : W.heap[N]? = some (.cells (askA a Af cf Ao co Aa ca) 38 (0, 0))
 arg2 : W.heap[N + 1]? = some (.cells (ansA b Bf df Bc dc Bi di) 49 (0, 0))
 low : Below N w W
 b5 : W.heap[Y5]? = some (.cells us5.toArray 25 (0, 0))
 b6 : W.heap[Y6]? = some (.cells us6.toArray 25 (0, 0))
 j5 : JV W (fun _ => True) (askJ a) us5
 j6 : JV W (fun _ => True) (ansJ b) us6
theorem As.next (h : As w N a Af cf Ao co Aa ca b Bf df Bc dc Bi di Y5 Y6 us5 us6 W) (hb : Below W.heap.size W W') : As w N a Af cf Ao co Aa ca b Bf df Bc dc Bi di Y5 Y6 us5 us6 W' :=
 ⟨blk_next hb h.arg, blk_next hb h.arg2, h.low.trans (hb.mono (by have := (Array.getElem?_eq_some_iff.1 h.arg2).1; omega)), blk_next hb h.b5, blk_next hb h.b6, h.j5.next hb, h.j6.next hb⟩
theorem nx_as : Nx fun W => As w N a Af cf Ao co Aa ca b Bf df Bc dc Bi di Y5 Y6 us5 us6 W := fun _ _ h hb => h.next hb
end
theorem nb56 {N g p q : Nat} (h : NB N [q, p] g) : N + 2 ≤ g ∧ g ≠ p ∧ g ≠ q := ⟨h.1, fun e => h.2 (by simp [e]), fun e => h.2 (by simp [e])⟩
theorem nb65 {N g p q : Nat} (h : NB N [p, q] g) : N + 2 ≤ g ∧ g ≠ p ∧ g ≠ q := ⟨h.1, fun e => h.2 (by simp [e]), fun e => h.2 (by simp [e])⟩
set_option maxRecDepth 100000 in
set_option maxHeartbeats 16000000 in
theorem asks_law (a : PAsk) (Af : Option Addr) (cf : Nat) (Ao : Option Addr) (co : Nat) (Aa : Option Addr) (ca : Nat) (b : PAnswer) (Bf : Option Addr) (df : Nat) (Bc : Option Addr) (dc : Nat) (Bi : Option Addr) (di : Nat) (w : World) (hRa : AskRows w a Af cf Ao co Aa ca) (hRb : AnsRows w b Bf df Bc dc Bi di)
  (hln : a.files.length ≤ 140737488351232 ∧ a.order.length ≤ 140737488351232 ∧ a.args.length ≤ 140737488351232 ∧ b.files.length ≤ 140737488351232 ∧ b.clashes.length ≤ 140737488351232 ∧ b.ids.length ≤ 140737488351232) (henv : Env w) :
  Calls Tryz.prog 4 #[.agg (askA a Af cf Ao co Aa ca), .agg (ansA b Bf df Bc dc Bi di)] w fun e w' => e = .returned (.bool true) ∧ Below w.heap.size w w' := by
 have HENV : Hid (∀ W, Below w.heap.size w W → Env W) := Lib.hid (fun W hW => henv.next hW)
 have b1 := below_box w (.cells (askA a Af cf Ao co Aa ca) 38)
 have s1 : (w.alloc (.cells (askA a Af cf Ao co Aa ca) 38)).heap.size = w.heap.size + 1 := by simp
 have e1 := heap_alloc_new w (.cells (askA a Af cf Ao co Aa ca) 38)
 have b2 := below_box (w.alloc (.cells (askA a Af cf Ao co Aa ca) 38)) (.cells (ansA b Bf df Bc dc Bi di) 49)
 have e2 := heap_alloc_new (w.alloc (.cells (askA a Af cf Ao co Aa ca) 38)) (.cells (ansA b Bf df Bc dc Bi di) 49)
 rw [s1] at e2
 have h0 := blk_next b2 e1
 have h2 : Below w.heap.size w ((w.alloc (.cells (askA a Af cf Ao co Aa ca) 38)).alloc (.cells (ansA b Bf df Bc dc Bi di) 49)) := b1.trans (b2.mono (by rw [s1]; omega))
 have HRA : Hid (∀ W, Below w.heap.size w W → AskRows W a Af cf Ao co Aa ca) := Lib.hid (fun W hW => hRa.next hW)
 have HRB : Hid (∀ W, Below w.heap.size w W → AnsRows W b Bf df Bc dc Bi di) := Lib.hid (fun W hW => hRb.next hW)
 have HLN := Lib.hid hln
 clear b1 s1 e1 b2 hRa hRb henv hln
 go_enter Tryz.func4, Tryz.ntmps4
 go_upto_region 1 with fail
 generalize ((w.alloc (.cells (askA a Af cf Ao co Aa ca) 38)).alloc (.cells (ansA b Bf df Bc dc Bi di) 49)) = w2 at e2 h0 h2 ⊢
 obtain ⟨N, hN⟩ : ∃ N, w.heap.size = N := ⟨_, rfl⟩
 rw [hN] at e2 h0 h2 HENV HRA HRB ⊢
 have HN := Lib.hid hN
 have H0 : Hid (Aq w N a Af cf Ao co Aa ca b Bf df Bc dc Bi di [] w2) := Lib.hid ⟨h0, e2, h2, fun y hy => by cases hy⟩
 clear hN e2 h0 h2
 go_wp2_with fail
 refine (wakes_any w2 (HENV.out _ H0.out.low)).mono ?_
 rintro e w3 ⟨rfl, hb⟩
 replace H0 := Lib.hid (H0.out.next hb)
 clear hb
 have q1 : w3.cell? ⟨N, 35, none⟩ = some (.slice Af a.files.length cf) := (blk_cells H0.out.arg 35).trans rfl
 have q2 : w3.cell? ⟨N, 44, none⟩ = some (.slice Ao a.order.length co) := (blk_cells H0.out.arg 44).trans rfl
 have q3 : w3.cell? ⟨N, 49, none⟩ = some (.slice Aa a.args.length ca) := (blk_cells H0.out.arg 49).trans rfl
 have q4 : w3.cell? ⟨N + 1, 36, none⟩ = some (.slice Bf b.files.length df) := (blk_cells H0.out.arg2 36).trans rfl
 have q5 : w3.cell? ⟨N + 1, 37, none⟩ = some (.slice Bc b.clashes.length dc) := (blk_cells H0.out.arg2 37).trans rfl
 have q6 : w3.cell? ⟨N + 1, 42, none⟩ = some (.slice Bi b.ids.length di) := (blk_cells H0.out.arg2 42).trans rfl
 obtain ⟨hl1, hl2, hl3, hl4, hl5, hl6⟩ := HLN.out
 generalize hg1 : a.files.length = n1 at q1 hl1
 generalize hg2 : a.order.length = n2 at q2 hl2
 generalize hg3 : a.args.length = n3 at q3 hl3
 generalize hg4 : b.files.length = n4 at q4 hl4
 generalize hg5 : b.clashes.length = n5 at q5 hl5
 generalize hg6 : b.ids.length = n6 at q6 hl6
 have HG := Lib.hid (And.intro hg1 (And.intro hg2 (And.intro hg3 (And.intro hg4 (And.intro hg5 hg6)))))
 clear hg1 hg2 hg3 hg4 hg5 hg6
 by_cases hbig : 500 < n1 + n2 + n3 + n4 + n5 + n6
 ·go_wp2_with fail
  go_ret
  (try rw [HN.out])
  exact ⟨rfl, H0.out.low⟩
 go_wp2_with fail
 have HSM : Hid (a.files.length ≤ 500 ∧ a.order.length ≤ 500 ∧ a.args.length ≤ 500 ∧ b.files.length ≤ 500 ∧ b.clashes.length ≤ 500 ∧ b.ids.length ≤ 500) := Lib.hid (by
  obtain ⟨g1, g2, g3, g4, g5, g6⟩ := HG.out
  omega)
 clear q1 q2 q3 q4 q5 q6 hl1 hl2 hl3 hl4 hl5 hl6 HG hbig
 apply sharedB (F := (fun W Y5 Y6 us5 us6 => As w N a Af cf Ao co Aa ca b Bf df Bc dc Bi di Y5 Y6 us5 us6 W))
 case tree =>
  have H := H0.out
  have hsm := HSM.out
  have s0 : ∀ l W, Aq w N a Af cf Ao co Aa ca b Bf df Bc dc Bi di l W → (fun W => W.heap[N]? = some (.cells (askA a Af cf Ao co Aa ca) 38 (0, 0)) ∧ W.heap[N + 1]? = some (.cells (ansA b Bf df Bc dc Bi di) 49 (0, 0))) W := fun _ _ h => ⟨h.arg, h.arg2⟩
  intro KEY
  refine region_till (S := fun W => W.heap[N]? = some (.cells (askA a Af cf Ao co Aa ca) 38 (0, 0)) ∧ W.heap[N + 1]? = some (.cells (ansA b Bf df Bc dc Bi di) 49 (0, 0))) 8 rfl nx_aq H (s0 _) fun W H sh => ?_
  refine takeY (v := .agg (askA a Af cf Ao co Aa ca)) 0 rfl (yieldsIf_load_mid (by kernel_rfl) 38 _ rfl N 0 (by kernel_rfl) (askL a Af cf Ao co Aa ca) _ (fun W hS j v hv => (blk_cells hS.1 (0 + j)).trans (by rw [Nat.zero_add, show (askA a Af cf Ao co Aa ca) = (askL a Af cf Ao co Aa ca).toArray from rfl, List.getElem?_toArray]; exact hv)) Tryz.underlying38 rfl (by rw [info38]; rfl)) (s0 _ _ H) sh fun sh => ?_
  refine takeY (v := .agg (ansA b Bf df Bc dc Bi di)) 2 rfl (yieldsIf_load_mid (by kernel_rfl) 49 _ rfl (N + 1) 0 (by kernel_rfl) (ansL b Bf df Bc dc Bi di) _ (fun W hS j v hv => (blk_cells hS.2 (0 + j)).trans (by rw [Nat.zero_add, show (ansA b Bf df Bc dc Bi di) = (ansL b Bf df Bc dc Bi di).toArray from rfl, List.getElem?_toArray]; exact hv)) Tryz.underlying49 rfl (by rw [info49]; rfl)) (s0 _ _ H) sh fun sh => ?_
  apply sharedB (F := fun W Y5 Y6 us5 us6 => Aq w N a Af cf Ao co Aa ca b Bf df Bc dc Bi di [] W ∧ W.heap[Y5]? = some (.cells #[.int .i64 0, .bool false, .int .i64 0, .string ⟨#[]⟩, .slice none 0 0, .slice none 0 0] 25 (0, 0)) ∧ W.heap[Y6]? = some (.cells #[.int .i64 0, .bool false, .int .i64 0, .string ⟨#[]⟩, .slice none 0 0, .slice none 0 0] 25 (0, 0)) ∧ JV W (fun g => N + 2 ≤ g ∧ g ≠ Y5 ∧ g ≠ Y6) (askJ a) us5 ∧ JV W (fun g => N + 2 ≤ g ∧ g ≠ Y5 ∧ g ≠ Y6) (ansJ b) us6 ∧ N + 2 ≤ Y5 ∧ N + 2 ≤ Y6 ∧ Y5 ≠ Y6)
  case tree =>
   intro K2
   refine till3 1 4 5 rfl rfl rfl (stepC 11 #[.agg (askA a Af cf Ao co Aa ca)] (refAsk_any a Af cf Ao co Aa ca W (HRA.out W H.low) (by omega)) ?_) (stepN 25 #[.int .i64 0, .bool false, .int .i64 0, .string ⟨#[]⟩, .slice none 0 0, .slice none 0 0] (fun W9 hb => s0 _ _ (H.next hb)) ?_) (stepN 25 #[.int .i64 0, .bool false, .int .i64 0, .string ⟨#[]⟩, .slice none 0 0, .slice none 0 0] (fun W9 hb => s0 _ _ (H.next hb)) ?_)
   ·rintro e W9 ⟨hb, us5, rfl, U5⟩
    replace U5 := U5.wide (T := NB N ([] : List Nat)) (fun g hg _ => H.new g hg)
    replace H := H.next hb
    refine ⟨_, rfl, s0 _ _ H, ?_⟩
    rename World => W
    refine till3 3 4 5 rfl rfl rfl (stepC 12 #[.agg (ansA b Bf df Bc dc Bi di)] (refAnswer_any b Bf df Bc dc Bi di W (HRB.out W H.low) (by omega)) ?_) (stepN 25 #[.int .i64 0, .bool false, .int .i64 0, .string ⟨#[]⟩, .slice none 0 0, .slice none 0 0] (fun W9 hb => s0 _ _ (H.next hb)) ?_) (stepN 25 #[.int .i64 0, .bool false, .int .i64 0, .string ⟨#[]⟩, .slice none 0 0, .slice none 0 0] (fun W9 hb => s0 _ _ (H.next hb)) ?_)
    ·rintro e W9 ⟨hb, us6, rfl, U6⟩
     replace U6 := U6.wide (T := NB N ([] : List Nat)) (fun g hg _ => H.new g hg)
     replace H := H.next hb
     replace U5 := U5.next hb
     refine ⟨_, rfl, s0 _ _ H, ?_⟩
     rename World => W
     refine till2 4 5 rfl rfl (stepN 25 #[.int .i64 0, .bool false, .int .i64 0, .string ⟨#[]⟩, .slice none 0 0, .slice none 0 0] (fun W9 hb => s0 _ _ (H.next hb)) ?_) (stepN 25 #[.int .i64 0, .bool false, .int .i64 0, .string ⟨#[]⟩, .slice none 0 0, .slice none 0 0] (fun W9 hb => s0 _ _ (H.next hb)) ?_)
     ·intro Y5 W9 hY hb Z5
      have lY5 : N + 2 ≤ Y5 := hY ▸ H.size
      replace U5 := U5.grow hY hb
      replace U6 := U6.grow hY hb
      replace H := H.grow hY hb Z5
      rename World => W
      refine till1 5 rfl (stepN 25 #[.int .i64 0, .bool false, .int .i64 0, .string ⟨#[]⟩, .slice none 0 0, .slice none 0 0] (fun W9 hb => s0 _ _ (H.next hb)) ?_)
      intro Y6 W9 hY hb Z6
      have lY6 : N + 2 ≤ Y6 := hY ▸ H.size
      replace U5 := U5.grow hY hb
      replace U6 := U6.grow hY hb
      have ne : Y5 ≠ Y6 := fun h => by have := (Array.getElem?_eq_some_iff.1 Z5).1; omega
      replace Z5 := blk_next hb Z5
      replace H := H.grow hY hb Z6
      rename World => W
      simp only [Exit.then, Act.put, CL]
      exact K2 _ Y5 Y6 us5 us6 ⟨H.drop, Z5, Z6, U5.wide (fun _ h _ => nb56 h), U6.wide (fun _ h _ => nb56 h), lY5, lY6, ne⟩
     ·intro Y6 W9 hY hb Z6
      have lY6 : N + 2 ≤ Y6 := hY ▸ H.size
      replace U5 := U5.grow hY hb
      replace U6 := U6.grow hY hb
      replace H := H.grow hY hb Z6
      rename World => W
      refine till1 4 rfl (stepN 25 #[.int .i64 0, .bool false, .int .i64 0, .string ⟨#[]⟩, .slice none 0 0, .slice none 0 0] (fun W9 hb => s0 _ _ (H.next hb)) ?_)
      intro Y5 W9 hY hb Z5
      have lY5 : N + 2 ≤ Y5 := hY ▸ H.size
      replace U5 := U5.grow hY hb
      replace U6 := U6.grow hY hb
      have ne : Y6 ≠ Y5 := fun h => by have := (Array.getElem?_eq_some_iff.1 Z6).1; omega
      replace Z6 := blk_next hb Z6
      replace H := H.grow hY hb Z5
      rename World => W
      simp only [Exit.then, Act.put, CL]
      exact K2 _ Y5 Y6 us5 us6 ⟨H.drop, Z5, Z6, U5.wide (fun _ h _ => nb65 h), U6.wide (fun _ h _ => nb65 h), lY5, lY6, ne.symm⟩
    ·intro Y5 W9 hY hb Z5
     have lY5 : N + 2 ≤ Y5 := hY ▸ H.size
     replace U5 := U5.grow hY hb
     replace H := H.grow hY hb Z5
     rename World => W
     refine till2 3 5 rfl rfl (stepC 12 #[.agg (ansA b Bf df Bc dc Bi di)] (refAnswer_any b Bf df Bc dc Bi di W (HRB.out W H.low) (by omega)) ?_) (stepN 25 #[.int .i64 0, .bool false, .int .i64 0, .string ⟨#[]⟩, .slice none 0 0, .slice none 0 0] (fun W9 hb => s0 _ _ (H.next hb)) ?_)
     ·rintro e W9 ⟨hb, us6, rfl, U6⟩
      replace U6 := U6.wide (T := NB N [Y5]) (fun g hg _ => H.new g hg)
      replace H := H.next hb
      replace U5 := U5.next hb
      replace Z5 := blk_next hb Z5
      refine ⟨_, rfl, s0 _ _ H, ?_⟩
      rename World => W
      refine till1 5 rfl (stepN 25 #[.int .i64 0, .bool false, .int .i64 0, .string ⟨#[]⟩, .slice none 0 0, .slice none 0 0] (fun W9 hb => s0 _ _ (H.next hb)) ?_)
      intro Y6 W9 hY hb Z6
      have lY6 : N + 2 ≤ Y6 := hY ▸ H.size
      replace U5 := U5.grow hY hb
      have ne : Y5 ≠ Y6 := fun h => by have := (Array.getElem?_eq_some_iff.1 Z5).1; omega
      replace Z5 := blk_next hb Z5
      replace U6 := U6.grow hY hb
      replace H := H.grow hY hb Z6
      rename World => W
      simp only [Exit.then, Act.put, CL]
      exact K2 _ Y5 Y6 us5 us6 ⟨H.drop, Z5, Z6, U5.wide (fun _ h _ => nb56 h), U6.wide (fun _ h _ => nb56 h), lY5, lY6, ne⟩
     ·intro Y6 W9 hY hb Z6
      have lY6 : N + 2 ≤ Y6 := hY ▸ H.size
      replace U5 := U5.grow hY hb
      have ne : Y5 ≠ Y6 := fun h => by have := (Array.getElem?_eq_some_iff.1 Z5).1; omega
      replace Z5 := blk_next hb Z5
      replace H := H.grow hY hb Z6
      rename World => W
      refine till1 3 rfl (stepC 12 #[.agg (ansA b Bf df Bc dc Bi di)] (refAnswer_any b Bf df Bc dc Bi di W (HRB.out W H.low) (by omega)) ?_)
      rintro e W9 ⟨hb, us6, rfl, U6⟩
      replace U6 := U6.wide (T := NB N [Y6, Y5]) (fun g hg _ => H.new g hg)
      replace H := H.next hb
      replace U5 := U5.next hb
      replace Z5 := blk_next hb Z5
      replace Z6 := blk_next hb Z6
      refine ⟨_, rfl, s0 _ _ H, ?_⟩
      rename World => W
      simp only [Exit.then, Act.put, CL]
      exact K2 _ Y5 Y6 us5 us6 ⟨H.drop, Z5, Z6, U5.wide (fun _ h _ => nb56 h), U6.wide (fun _ h _ => nb56 h), lY5, lY6, ne⟩
    ·intro Y6 W9 hY hb Z6
     have lY6 : N + 2 ≤ Y6 := hY ▸ H.size
     replace U5 := U5.grow hY hb
     replace H := H.grow hY hb Z6
     rename World => W
     refine till2 3 4 rfl rfl (stepC 12 #[.agg (ansA b Bf df Bc dc Bi di)] (refAnswer_any b Bf df Bc dc Bi di W (HRB.out W H.low) (by omega)) ?_) (stepN 25 #[.int .i64 0, .bool false, .int .i64 0, .string ⟨#[]⟩, .slice none 0 0, .slice none 0 0] (fun W9 hb => s0 _ _ (H.next hb)) ?_)
     ·rintro e W9 ⟨hb, us6, rfl, U6⟩
      replace U6 := U6.wide (T := NB N [Y6]) (fun g hg _ => H.new g hg)
      replace H := H.next hb
      replace U5 := U5.next hb
      replace Z6 := blk_next hb Z6
      refine ⟨_, rfl, s0 _ _ H, ?_⟩
      rename World => W
      refine till1 4 rfl (stepN 25 #[.int .i64 0, .bool false, .int .i64 0, .string ⟨#[]⟩, .slice none 0 0, .slice none 0 0] (fun W9 hb => s0 _ _ (H.next hb)) ?_)
      intro Y5 W9 hY hb Z5
      have lY5 : N + 2 ≤ Y5 := hY ▸ H.size
      replace U5 := U5.grow hY hb
      have ne : Y6 ≠ Y5 := fun h => by have := (Array.getElem?_eq_some_iff.1 Z6).1; omega
      replace Z6 := blk_next hb Z6
      replace U6 := U6.grow hY hb
      replace H := H.grow hY hb Z5
      rename World => W
      simp only [Exit.then, Act.put, CL]
      exact K2 _ Y5 Y6 us5 us6 ⟨H.drop, Z5, Z6, U5.wide (fun _ h _ => nb65 h), U6.wide (fun _ h _ => nb65 h), lY5, lY6, ne.symm⟩
     ·intro Y5 W9 hY hb Z5
      have lY5 : N + 2 ≤ Y5 := hY ▸ H.size
      replace U5 := U5.grow hY hb
      have ne : Y6 ≠ Y5 := fun h => by have := (Array.getElem?_eq_some_iff.1 Z6).1; omega
      replace Z6 := blk_next hb Z6
      replace H := H.grow hY hb Z5
      rename World => W
      refine till1 3 rfl (stepC 12 #[.agg (ansA b Bf df Bc dc Bi di)] (refAnswer_any b Bf df Bc dc Bi di W (HRB.out W H.low) (by omega)) ?_)
      rintro e W9 ⟨hb, us6, rfl, U6⟩
      replace U6 := U6.wide (T := NB N [Y5, Y6]) (fun g hg _ => H.new g hg)
      replace H := H.next hb
      replace U5 := U5.next hb
      replace Z6 := blk_next hb Z6
      replace Z5 := blk_next hb Z5
      refine ⟨_, rfl, s0 _ _ H, ?_⟩
      rename World => W
      simp only [Exit.then, Act.put, CL]
      exact K2 _ Y5 Y6 us5 us6 ⟨H.drop, Z5, Z6, U5.wide (fun _ h _ => nb65 h), U6.wide (fun _ h _ => nb65 h), lY5, lY6, ne.symm⟩
   ·intro Y5 W9 hY hb Z5
    have lY5 : N + 2 ≤ Y5 := hY ▸ H.size
    replace H := H.grow hY hb Z5
    rename World => W
    refine till2 1 5 rfl rfl (stepC 11 #[.agg (askA a Af cf Ao co Aa ca)] (refAsk_any a Af cf Ao co Aa ca W (HRA.out W H.low) (by omega)) ?_) (stepN 25 #[.int .i64 0, .bool false, .int .i64 0, .string ⟨#[]⟩, .slice none 0 0, .slice none 0 0] (fun W9 hb => s0 _ _ (H.next hb)) ?_)
    ·rintro e W9 ⟨hb, us5, rfl, U5⟩
     replace U5 := U5.wide (T := NB N [Y5]) (fun g hg _ => H.new g hg)
     replace H := H.next hb
     replace Z5 := blk_next hb Z5
     refine ⟨_, rfl, s0 _ _ H, ?_⟩
     rename World => W
     refine till2 3 5 rfl rfl (stepC 12 #[.agg (ansA b Bf df Bc dc Bi di)] (refAnswer_any b Bf df Bc dc Bi di W (HRB.out W H.low) (by omega)) ?_) (stepN 25 #[.int .i64 0, .bool false, .int .i64 0, .string ⟨#[]⟩, .slice none 0 0, .slice none 0 0] (fun W9 hb => s0 _ _ (H.next hb)) ?_)
     ·rintro e W9 ⟨hb, us6, rfl, U6⟩
      replace U6 := U6.wide (T := NB N [Y5]) (fun g hg _ => H.new g hg)
      replace H := H.next hb
      replace Z5 := blk_next hb Z5
      replace U5 := U5.next hb
      refine ⟨_, rfl, s0 _ _ H, ?_⟩
      rename World => W
      refine till1 5 rfl (stepN 25 #[.int .i64 0, .bool false, .int .i64 0, .string ⟨#[]⟩, .slice none 0 0, .slice none 0 0] (fun W9 hb => s0 _ _ (H.next hb)) ?_)
      intro Y6 W9 hY hb Z6
      have lY6 : N + 2 ≤ Y6 := hY ▸ H.size
      have ne : Y5 ≠ Y6 := fun h => by have := (Array.getElem?_eq_some_iff.1 Z5).1; omega
      replace Z5 := blk_next hb Z5
      replace U5 := U5.grow hY hb
      replace U6 := U6.grow hY hb
      replace H := H.grow hY hb Z6
      rename World => W
      simp only [Exit.then, Act.put, CL]
      exact K2 _ Y5 Y6 us5 us6 ⟨H.drop, Z5, Z6, U5.wide (fun _ h _ => nb56 h), U6.wide (fun _ h _ => nb56 h), lY5, lY6, ne⟩
     ·intro Y6 W9 hY hb Z6
      have lY6 : N + 2 ≤ Y6 := hY ▸ H.size
      have ne : Y5 ≠ Y6 := fun h => by have := (Array.getElem?_eq_some_iff.1 Z5).1; omega
      replace Z5 := blk_next hb Z5
      replace U5 := U5.grow hY hb
      replace H := H.grow hY hb Z6
      rename World => W
      refine till1 3 rfl (stepC 12 #[.agg (ansA b Bf df Bc dc Bi di)] (refAnswer_any b Bf df Bc dc Bi di W (HRB.out W H.low) (by omega)) ?_)
      rintro e W9 ⟨hb, us6, rfl, U6⟩
      replace U6 := U6.wide (T := NB N [Y6, Y5]) (fun g hg _ => H.new g hg)
      replace H := H.next hb
      replace Z5 := blk_next hb Z5
      replace U5 := U5.next hb
      replace Z6 := blk_next hb Z6
      refine ⟨_, rfl, s0 _ _ H, ?_⟩
      rename World => W
      simp only [Exit.then, Act.put, CL]
      exact K2 _ Y5 Y6 us5 us6 ⟨H.drop, Z5, Z6, U5.wide (fun _ h _ => nb56 h), U6.wide (fun _ h _ => nb56 h), lY5, lY6, ne⟩
    ·intro Y6 W9 hY hb Z6
     have lY6 : N + 2 ≤ Y6 := hY ▸ H.size
     have ne : Y5 ≠ Y6 := fun h => by have := (Array.getElem?_eq_some_iff.1 Z5).1; omega
     replace Z5 := blk_next hb Z5
     replace H := H.grow hY hb Z6
     rename World => W
     refine till1 1 rfl (stepC 11 #[.agg (askA a Af cf Ao co Aa ca)] (refAsk_any a Af cf Ao co Aa ca W (HRA.out W H.low) (by omega)) ?_)
     rintro e W9 ⟨hb, us5, rfl, U5⟩
     replace U5 := U5.wide (T := NB N [Y6, Y5]) (fun g hg _ => H.new g hg)
     replace H := H.next hb
     replace Z5 := blk_next hb Z5
     replace Z6 := blk_next hb Z6
     refine ⟨_, rfl, s0 _ _ H, ?_⟩
     rename World => W
     refine till1 3 rfl (stepC 12 #[.agg (ansA b Bf df Bc dc Bi di)] (refAnswer_any b Bf df Bc dc Bi di W (HRB.out W H.low) (by omega)) ?_)
     rintro e W9 ⟨hb, us6, rfl, U6⟩
     replace U6 := U6.wide (T := NB N [Y6, Y5]) (fun g hg _ => H.new g hg)
     replace H := H.next hb
     replace Z5 := blk_next hb Z5
     replace Z6 := blk_next hb Z6
     replace U5 := U5.next hb
     refine ⟨_, rfl, s0 _ _ H, ?_⟩
     rename World => W
     simp only [Exit.then, Act.put, CL]
     exact K2 _ Y5 Y6 us5 us6 ⟨H.drop, Z5, Z6, U5.wide (fun _ h _ => nb56 h), U6.wide (fun _ h _ => nb56 h), lY5, lY6, ne⟩
   ·intro Y6 W9 hY hb Z6
    have lY6 : N + 2 ≤ Y6 := hY ▸ H.size
    replace H := H.grow hY hb Z6
    rename World => W
    refine till2 1 4 rfl rfl (stepC 11 #[.agg (askA a Af cf Ao co Aa ca)] (refAsk_any a Af cf Ao co Aa ca W (HRA.out W H.low) (by omega)) ?_) (stepN 25 #[.int .i64 0, .bool false, .int .i64 0, .string ⟨#[]⟩, .slice none 0 0, .slice none 0 0] (fun W9 hb => s0 _ _ (H.next hb)) ?_)
    ·rintro e W9 ⟨hb, us5, rfl, U5⟩
     replace U5 := U5.wide (T := NB N [Y6]) (fun g hg _ => H.new g hg)
     replace H := H.next hb
     replace Z6 := blk_next hb Z6
     refine ⟨_, rfl, s0 _ _ H, ?_⟩
     rename World => W
     refine till2 3 4 rfl rfl (stepC 12 #[.agg (ansA b Bf df Bc dc Bi di)] (refAnswer_any b Bf df Bc dc Bi di W (HRB.out W H.low) (by omega)) ?_) (stepN 25 #[.int .i64 0, .bool false, .int .i64 0, .string ⟨#[]⟩, .slice none 0 0, .slice none 0 0] (fun W9 hb => s0 _ _ (H.next hb)) ?_)
     ·rintro e W9 ⟨hb, us6, rfl, U6⟩
      replace U6 := U6.wide (T := NB N [Y6]) (fun g hg _ => H.new g hg)
      replace H := H.next hb
      replace Z6 := blk_next hb Z6
      replace U5 := U5.next hb
      refine ⟨_, rfl, s0 _ _ H, ?_⟩
      rename World => W
      refine till1 4 rfl (stepN 25 #[.int .i64 0, .bool false, .int .i64 0, .string ⟨#[]⟩, .slice none 0 0, .slice none 0 0] (fun W9 hb => s0 _ _ (H.next hb)) ?_)
      intro Y5 W9 hY hb Z5
      have lY5 : N + 2 ≤ Y5 := hY ▸ H.size
      have ne : Y6 ≠ Y5 := fun h => by have := (Array.getElem?_eq_some_iff.1 Z6).1; omega
      replace Z6 := blk_next hb Z6
      replace U5 := U5.grow hY hb
      replace U6 := U6.grow hY hb
      replace H := H.grow hY hb Z5
      rename World => W
      simp only [Exit.then, Act.put, CL]
      exact K2 _ Y5 Y6 us5 us6 ⟨H.drop, Z5, Z6, U5.wide (fun _ h _ => nb65 h), U6.wide (fun _ h _ => nb65 h), lY5, lY6, ne.symm⟩
     ·intro Y5 W9 hY hb Z5
      have lY5 : N + 2 ≤ Y5 := hY ▸ H.size
      have ne : Y6 ≠ Y5 := fun h => by have := (Array.getElem?_eq_some_iff.1 Z6).1; omega
      replace Z6 := blk_next hb Z6
      replace U5 := U5.grow hY hb
      replace H := H.grow hY hb Z5
      rename World => W
      refine till1 3 rfl (stepC 12 #[.agg (ansA b Bf df Bc dc Bi di)] (refAnswer_any b Bf df Bc dc Bi di W (HRB.out W H.low) (by omega)) ?_)
      rintro e W9 ⟨hb, us6, rfl, U6⟩
      replace U6 := U6.wide (T := NB N [Y5, Y6]) (fun g hg _ => H.new g hg)
      replace H := H.next hb
      replace Z6 := blk_next hb Z6
      replace U5 := U5.next hb
      replace Z5 := blk_next hb Z5
      refine ⟨_, rfl, s0 _ _ H, ?_⟩
      rename World => W
      simp only [Exit.then, Act.put, CL]
      exact K2 _ Y5 Y6 us5 us6 ⟨H.drop, Z5, Z6, U5.wide (fun _ h _ => nb65 h), U6.wide (fun _ h _ => nb65 h), lY5, lY6, ne.symm⟩
    ·intro Y5 W9 hY hb Z5
     have lY5 : N + 2 ≤ Y5 := hY ▸ H.size
     have ne : Y6 ≠ Y5 := fun h => by have := (Array.getElem?_eq_some_iff.1 Z6).1; omega
     replace Z6 := blk_next hb Z6
     replace H := H.grow hY hb Z5
     rename World => W
     refine till1 1 rfl (stepC 11 #[.agg (askA a Af cf Ao co Aa ca)] (refAsk_any a Af cf Ao co Aa ca W (HRA.out W H.low) (by omega)) ?_)
     rintro e W9 ⟨hb, us5, rfl, U5⟩
     replace U5 := U5.wide (T := NB N [Y5, Y6]) (fun g hg _ => H.new g hg)
     replace H := H.next hb
     replace Z6 := blk_next hb Z6
     replace Z5 := blk_next hb Z5
     refine ⟨_, rfl, s0 _ _ H, ?_⟩
     rename World => W
     refine till1 3 rfl (stepC 12 #[.agg (ansA b Bf df Bc dc Bi di)] (refAnswer_any b Bf df Bc dc Bi di W (HRB.out W H.low) (by omega)) ?_)
     rintro e W9 ⟨hb, us6, rfl, U6⟩
     replace U6 := U6.wide (T := NB N [Y5, Y6]) (fun g hg _ => H.new g hg)
     replace H := H.next hb
     replace Z6 := blk_next hb Z6
     replace Z5 := blk_next hb Z5
     replace U5 := U5.next hb
     refine ⟨_, rfl, s0 _ _ H, ?_⟩
     rename World => W
     simp only [Exit.then, Act.put, CL]
     exact K2 _ Y5 Y6 us5 us6 ⟨H.drop, Z5, Z6, U5.wide (fun _ h _ => nb65 h), U6.wide (fun _ h _ => nb65 h), lY5, lY6, ne.symm⟩
  case key =>
   rintro W Y5 Y6 us5 us6 ⟨H, Z5, Z6, U5, U6, lY5, lY6, ne⟩
   refine till1 6 rfl (stepS 25 Y5 #[.int .i64 0, .bool false, .int .i64 0, .string ⟨#[]⟩, .slice none 0 0, .slice none 0 0] us5.toArray rfl Z5 (by simp [U5.len]) (by rw [info25s]; simp [U5.len]) (by simpa using U5.one) (fun _ hk => s0 _ _ (H.but1 hk lY5)) fun W9 hk B5 => ?_)
   replace H := H.but1 hk lY5
   replace U5 := U5.but hk (by intro j hj hs; simp at hj; subst hj; exact hs.2.1 rfl)
   replace U6 := U6.but hk (by intro j hj hs; simp at hj; subst hj; exact hs.2.1 rfl)
   replace Z6 := hk.blk Z6 (by simpa using ne.symm)
   refine till1 7 rfl (stepS 25 Y6 #[.int .i64 0, .bool false, .int .i64 0, .string ⟨#[]⟩, .slice none 0 0, .slice none 0 0] us6.toArray rfl Z6 (by simp [U6.len]) (by rw [info25s]; simp [U6.len]) (by simpa using U6.one) (fun _ hk => s0 _ _ (H.but1 hk lY6)) fun W9 hk B6 => ?_)
   refine wpTill_done (by kernel_rfl) ?_ _
   simp only [Exit.then, Act.put, CL]
   replace U5 := U5.but hk (by intro j hj hs; simp at hj; subst hj; exact hs.2.2 rfl)
   replace U6 := U6.but hk (by intro j hj hs; simp at hj; subst hj; exact hs.2.2 rfl)
   replace H := H.but1 hk lY6
   exact KEY _ Y5 Y6 us5 us6 ⟨H.arg, H.arg2, H.low, hk.blk B5 (by simpa using ne), B6, U5.wide (fun _ _ _ => trivial), U6.wide (fun _ _ _ => trivial)⟩
 case key =>
 clear H0
 intro w5 Y5 Y6 us5 us6 H0
 replace H0 := Lib.hid H0
 have hv5 := H0.out.j5.len
 have hv6 := H0.out.j6.len
 go_wp2_with (refine wpList_load_row rfl 25 _ rfl Y5 rfl us5.toArray H0.out.b5 _ Tryz.underlying25 rfl (by rw [info25s]; simp [hv5]) ?_)
 refine (over_any (askJ a) us5 (fun g => g < w5.heap.size) w5 (H0.out.j5.wide (fun _ _ h => h)) (fun _ h => h)).mono ?_
 rintro e w6 ⟨rfl, hb⟩
 replace H0 := Lib.hid (H0.out.next hb)
 clear hb
 obtain ⟨ov, hov⟩ : ∃ ov, Js.over (askJ a) = ov := ⟨_, rfl⟩
 rw [hov]
 cases ov
 rotate_left
 ·go_wp2_with fail
  go_ret
  (try rw [HN.out])
  exact ⟨rfl, H0.out.low⟩
 have HSA := Lib.hid (show Js.nodes (askJ a) ≤ 70000 ∧ Js.bytes (askJ a) ≤ 70000 ∧ Js.deep (askJ a) ≤ 70000 by have := Js.over_small hov; omega)
 clear hov
 obtain ⟨A6, c6, A7, c7, k6, o6, m6, t6, l6, l7, hs6⟩ := H0.out.j6.shape
 have e6 : JBox w6 Y6 (.int .i64 k6) (.bool o6) (.int .i64 m6) (.string t6) (.slice A6 l6 c6) (.slice A7 l7 c7) := by
  have h9 := H0.out.b6
  rw [hs6] at h9
  exact h9
 have j9 : JV w6 (fun g => g < w6.heap.size) (ansJ b) [.int .i64 k6, .bool o6, .int .i64 m6, .string t6, .slice A6 l6 c6, .slice A7 l7 c7] := by
  have h9 := H0.out.j6
  rw [hs6] at h9
  exact h9.wide (fun _ _ h => h)
 have J9 := Lib.hid j9
 obtain ⟨z0, z1, z2, z3, z4, z5⟩ := e6.cells
 clear j9 e6 hs6
 go_wp2_with fail
 refine (over_any (ansJ b) _ (fun g => g < w6.heap.size) w6 J9.out (fun _ h => h)).mono ?_
 rintro e w7 ⟨rfl, hb⟩
 replace H0 := Lib.hid (H0.out.next hb)
 clear hb J9 z0 z1 z2 z3 z4 z5
 obtain ⟨ov, hov⟩ : ∃ ov, Js.over (ansJ b) = ov := ⟨_, rfl⟩
 rw [hov]
 cases ov
 rotate_left
 ·go_wp2_with fail
  go_ret
  (try rw [HN.out])
  exact ⟨rfl, H0.out.low⟩
 have HSB := Lib.hid (show Js.nodes (ansJ b) ≤ 70000 ∧ Js.bytes (ansJ b) ≤ 70000 ∧ Js.deep (ansJ b) ≤ 70000 by have := Js.over_small hov; omega)
 clear hov
 go_wp2_with (refine wpList_load_row rfl 38 _ rfl N rfl (askA a Af cf Ao co Aa ca) H0.out.arg _ Tryz.underlying38 rfl info38 ?_)
 refine (fromAsk_any a Af cf Ao co Aa ca w7 (HRA.out _ H0.out.low) (by have := HSM.out; omega) HSA.out).mono ?_
 rintro e w8 ⟨hb, us7, rfl, hj⟩
 have hv7 := hj.len
 have ho7 := hj.one
 have H1 := Lib.hid (H0.out.next hb)
 have HJ7 : Hid (JV w8 (fun _ => True) (okJ (askJ a)) us7) := Lib.hid (hj.wide (fun _ _ _ => trivial))
 clear hb hj H0
 have hE : (w8.alloc (.cells #[.int .i64 0, .bool false, .int .i64 0, .string ⟨#[]⟩, .slice none 0 0, .slice none 0 0] 25)).heap[w8.heap.size]? = some (.cells #[.int .i64 0, .bool false, .int .i64 0, .string ⟨#[]⟩, .slice none 0 0, .slice none 0 0] 25 (0, 0)) := heap_alloc_new w8 (.cells #[.int .i64 0, .bool false, .int .i64 0, .string ⟨#[]⟩, .slice none 0 0, .slice none 0 0] 25)
 go_upto_region 9 with (refine wpList_store_row rfl 25 _ _ rfl _ rfl #[.int .i64 0, .bool false, .int .i64 0, .string ⟨#[]⟩, .slice none 0 0, .slice none 0 0] us7.toArray rfl hE (by simp [hv7]) (by rw [info25s]; simp [hv7]) (by simpa using ho7) ?_; intro w9 hk hx)
 have hb := fresh_row hk
 obtain ⟨Y7, hY7⟩ : ∃ y, w8.heap.size = y := ⟨_, rfl⟩
 have h1 := H1.out.next hb
 have h2 := HJ7.out.next hb
 rw [hY7] at hx ⊢
 have H0 := Lib.hid (And.intro h1 (And.intro hx h2))
 clear hb H1 HJ7 hx hk hE hY7 h1 h2 ho7
 go_wp2_with (refine wpList_load_row rfl 49 _ rfl (N + 1) rfl (ansA b Bf df Bc dc Bi di) H0.out.1.arg2 _ Tryz.underlying49 rfl info49 ?_)
 refine (fromAnswer_any b Bf df Bc dc Bi di w9 (HRB.out _ H0.out.1.low) (by have := HSM.out; omega) HSB.out).mono ?_
 rintro e w10 ⟨hb, us9, rfl, hj⟩
 have hv9 := hj.len
 have ho9 := hj.one
 have H1 := Lib.hid (And.intro (H0.out.1.next hb) (And.intro (blk_next hb H0.out.2.1) (H0.out.2.2.next hb)))
 have HJ9 : Hid (JV w10 (fun _ => True) (okJ (ansJ b)) us9) := Lib.hid (hj.wide (fun _ _ _ => trivial))
 clear hb hj H0
 have hE : (w10.alloc (.cells #[.int .i64 0, .bool false, .int .i64 0, .string ⟨#[]⟩, .slice none 0 0, .slice none 0 0] 25)).heap[w10.heap.size]? = some (.cells #[.int .i64 0, .bool false, .int .i64 0, .string ⟨#[]⟩, .slice none 0 0, .slice none 0 0] 25 (0, 0)) := heap_alloc_new w10 (.cells #[.int .i64 0, .bool false, .int .i64 0, .string ⟨#[]⟩, .slice none 0 0, .slice none 0 0] 25)
 go_upto_region 10 with (refine wpList_store_row rfl 25 _ _ rfl _ rfl #[.int .i64 0, .bool false, .int .i64 0, .string ⟨#[]⟩, .slice none 0 0, .slice none 0 0] us9.toArray rfl hE (by simp [hv9]) (by rw [info25s]; simp [hv9]) (by simpa using ho9) ?_; intro w11 hk hx)
 have hb := fresh_row hk
 obtain ⟨Y9, hY9⟩ : ∃ y, w10.heap.size = y := ⟨_, rfl⟩
 have h1 := H1.out.1.next hb
 have h2 := blk_next hb H1.out.2.1
 have h3 := H1.out.2.2.next hb
 have h4 := HJ9.out.next hb
 rw [hY9] at hx ⊢
 have H0 : Hid (As w N a Af cf Ao co Aa ca b Bf df Bc dc Bi di Y5 Y6 us5 us6 w11 ∧ w11.heap[Y7]? = some (.cells us7.toArray 25 (0, 0)) ∧ JV w11 (fun _ => True) (okJ (askJ a)) us7 ∧ w11.heap[Y9]? = some (.cells us9.toArray 25 (0, 0)) ∧ JV w11 (fun _ => True) (okJ (ansJ b)) us9) := Lib.hid ⟨h1, h2, h3, hx, h4⟩
 clear hb H1 HJ9 hx hk hE hY9 h1 h2 h3 h4 ho9
 go_wp2_with (refine wpList_load_row rfl 25 _ rfl Y5 rfl us5.toArray H0.out.1.b5 _ Tryz.underlying25 rfl (by rw [info25s]; simp [hv5]) ?_)
 refine (right_any (askJ a) us5 (fun _ => True) w11 H0.out.1.j5 (by have := HSA.out; omega) (by have := HSA.out; omega) (by have := HSA.out; omega)).mono ?_
 rintro e w12 ⟨rfl, hb⟩
 replace H0 := Lib.hid ((nx_and nx_as (nx_and nx_blk (nx_and nx_jv (nx_and nx_blk nx_jv)))) _ _ H0.out hb)
 clear hb
 obtain ⟨ra, hra⟩ : ∃ ra, Js.right (askJ a) = ra := ⟨_, rfl⟩
 rw [hra]
 cases ra
 ·have hee : encErr (askJ a) = 2 := by unfold encErr; rw [hra]; rfl
  rw [hee]
  have hz : ∃ A c A' c', us7 = [.int .i64 0, .bool false, .int .i64 0, .string ⟨#[]⟩, .slice A 0 c, .slice A' 0 c'] := by
   have hj := H0.out.2.2.1
   unfold okJ at hj
   rw [hra, if_neg (by decide)] at hj
   obtain ⟨A, c, A', c', he, -, -, -⟩ := jv_open hj
   exact ⟨A, c, A', c', he⟩
  obtain ⟨A8, c8, A9, c9, hz⟩ := hz
  have q0 : w12.cell? ⟨Y7, 0, none⟩ = some (.int .i64 0) := by rw [blk_cells H0.out.2.1 0, hz]; rfl
  clear hz
  go_wp2_with (refine wpList_load_row rfl 25 _ rfl Y6 rfl us6.toArray H0.out.1.b6 _ Tryz.underlying25 rfl (by rw [info25s]; simp [hv6]) ?_)
  clear q0
  refine (right_any (ansJ b) us6 (fun _ => True) w12 H0.out.1.j6 (by have := HSB.out; omega) (by have := HSB.out; omega) (by have := HSB.out; omega)).mono ?_
  rintro e w20 ⟨rfl, hb⟩
  replace H0 := Lib.hid ((nx_and nx_as (nx_and nx_blk (nx_and nx_jv (nx_and nx_blk nx_jv)))) _ _ H0.out hb)
  clear hb
  obtain ⟨rb, hrb⟩ : ∃ rb, Js.right (ansJ b) = rb := ⟨_, rfl⟩
  rw [hrb]
  cases rb
  ·have hee : encErr (ansJ b) = 2 := by unfold encErr; rw [hrb]; rfl
   rw [hee]
   have hz : ∃ A c A' c', us9 = [.int .i64 0, .bool false, .int .i64 0, .string ⟨#[]⟩, .slice A 0 c, .slice A' 0 c'] := by
    have hj := H0.out.2.2.2.2
    unfold okJ at hj
    rw [hrb, if_neg (by decide)] at hj
    obtain ⟨A, c, A', c', he, -, -, -⟩ := jv_open hj
    exact ⟨A, c, A', c', he⟩
   obtain ⟨A8, c8, A9, c9, hz⟩ := hz
   have q0 : w20.cell? ⟨Y9, 0, none⟩ = some (.int .i64 0) := by rw [blk_cells H0.out.2.2.2.1 0, hz]; rfl
   clear hz
   go_wp2_with fail
   go_ret
   (try rw [HN.out])
   exact ⟨rfl, H0.out.1.low⟩
  ·have hee : encErr (ansJ b) = 0 := by unfold encErr; rw [hrb]; rfl
   have hok : okJ (ansJ b) = ansJ b := by unfold okJ; rw [hrb]; rfl
   rw [hee]
   go_wp2_with (refine wpList_load_row rfl 25 _ rfl Y9 rfl us9.toArray H0.out.2.2.2.1 _ Tryz.underlying25 rfl (by rw [info25s]; simp [hv9]) ?_)
   refine (toAnswer_st (ansJ b) us9 (fun g => g < w20.heap.size) w20 ((hok ▸ H0.out.2.2.2.2).wide (fun _ _ h => h)) (fun _ h => h) HSB.out).mono ?_
   rintro e w21 ⟨hb, c, Qf, kf, Qc, kc, Qi, ki, rfl, hst⟩
   rw [ansE_back hrb]
   replace H0 := Lib.hid ((nx_and nx_as (nx_and nx_blk (nx_and nx_jv (nx_and nx_blk nx_jv)))) _ _ H0.out hb)
   have HST := Lib.hid hst
   clear hb hst
   have hE : (w21.alloc (.cells #[.int .i64 0, .int .i64 0, .int .i64 0, .int .i64 0, .int .u8 0, .int .u8 0, .int .u8 0, .int .u8 0, .int .u8 0, .int .u8 0, .int .u8 0, .int .u8 0, .int .u8 0, .int .u8 0, .int .u8 0, .int .u8 0, .int .u8 0, .int .u8 0, .int .u8 0, .int .u8 0, .int .u8 0, .int .u8 0, .int .u8 0, .int .u8 0, .int .u8 0, .int .u8 0, .int .u8 0, .int .u8 0, .int .u8 0, .int .u8 0, .int .u8 0, .int .u8 0, .int .u8 0, .int .u8 0, .int .u8 0, .int .u8 0, .slice none 0 0, .slice none 0 0, .int .i64 0, .string ⟨#[]⟩, .string ⟨#[]⟩, .int .i64 0, .slice none 0 0] 49)).heap[w21.heap.size]? = some (.cells ansZ 49 (0, 0)) := heap_alloc_new w21 (.cells #[.int .i64 0, .int .i64 0, .int .i64 0, .int .i64 0, .int .u8 0, .int .u8 0, .int .u8 0, .int .u8 0, .int .u8 0, .int .u8 0, .int .u8 0, .int .u8 0, .int .u8 0, .int .u8 0, .int .u8 0, .int .u8 0, .int .u8 0, .int .u8 0, .int .u8 0, .int .u8 0, .int .u8 0, .int .u8 0, .int .u8 0, .int .u8 0, .int .u8 0, .int .u8 0, .int .u8 0, .int .u8 0, .int .u8 0, .int .u8 0, .int .u8 0, .int .u8 0, .int .u8 0, .int .u8 0, .int .u8 0, .int .u8 0, .slice none 0 0, .slice none 0 0, .int .i64 0, .string ⟨#[]⟩, .string ⟨#[]⟩, .int .i64 0, .slice none 0 0] 49)
   go_wp2_with (refine wpList_store_row rfl 49 _ _ rfl _ rfl ansZ (ansA c Qf kf Qc kc Qi ki) rfl hE rfl info49 (ans_one _ _ _ _ _ _ _) ?_; intro w22 hk hx)
   have hb := fresh_row hk
   obtain ⟨Y13, hY13⟩ : ∃ y, w21.heap.size = y := ⟨_, rfl⟩
   have h1 := (nx_and nx_as (nx_and nx_blk (nx_and nx_jv (nx_and nx_blk nx_jv)))) _ _ H0.out hb
   have h2 := nx_ansst _ _ HST.out hb
   rw [hY13] at hx ⊢
   have H1 : Hid ((As w N a Af cf Ao co Aa ca b Bf df Bc dc Bi di Y5 Y6 us5 us6 w22 ∧ w22.heap[Y7]? = some (.cells us7.toArray 25 (0, 0)) ∧ JV w22 (fun _ => True) (okJ (askJ a)) us7 ∧ w22.heap[Y9]? = some (.cells us9.toArray 25 (0, 0)) ∧ JV w22 (fun _ => True) (okJ (ansJ b)) us9) ∧ w22.heap[Y13]? = some (.cells (ansA c Qf kf Qc kc Qi ki) 49 (0, 0)) ∧ AnsRows w22 c Qf kf Qc kc Qi ki) := Lib.hid ⟨h1, hx, AnsSt.rows h2 (ansE_back hrb)⟩
   have hcc : c = ansP (ansJ b) := h2.elim (fun h => h.2.1) (fun h => by have := ansE_back hrb; have := h.1; omega)
   clear hb H0 HST hx hk hE hY13 h1 h2
   apply sharedE (F := fun W (_ : List Value) => Below N w W)
   case tree =>
    have H := H1.out
    have hsb := HSB.out
    have hsm := HSM.out
    have nx : Nx fun W => (As w N a Af cf Ao co Aa ca b Bf df Bc dc Bi di Y5 Y6 us5 us6 W ∧ W.heap[Y7]? = some (.cells us7.toArray 25 (0, 0)) ∧ JV W (fun _ => True) (okJ (askJ a)) us7 ∧ W.heap[Y9]? = some (.cells us9.toArray 25 (0, 0)) ∧ JV W (fun _ => True) (okJ (ansJ b)) us9) ∧ W.heap[Y13]? = some (.cells (ansA c Qf kf Qc kc Qi ki) 49 (0, 0)) ∧ AnsRows W c Qf kf Qc kc Qi ki := nx_and (nx_and nx_as (nx_and nx_blk (nx_and nx_jv (nx_and nx_blk nx_jv)))) (nx_and nx_blk nx_ans)
    have s0 : ∀ W, (As w N a Af cf Ao co Aa ca b Bf df Bc dc Bi di Y5 Y6 us5 us6 W ∧ W.heap[Y7]? = some (.cells us7.toArray 25 (0, 0)) ∧ JV W (fun _ => True) (okJ (askJ a)) us7 ∧ W.heap[Y9]? = some (.cells us9.toArray 25 (0, 0)) ∧ JV W (fun _ => True) (okJ (ansJ b)) us9) ∧ W.heap[Y13]? = some (.cells (ansA c Qf kf Qc kc Qi ki) 49 (0, 0)) ∧ AnsRows W c Qf kf Qc kc Qi ki → (fun W => W.heap[Y6]? = some (.cells us6.toArray 25 (0, 0)) ∧ W.heap[Y9]? = some (.cells us9.toArray 25 (0, 0)) ∧ W.heap[Y13]? = some (.cells (ansA c Qf kf Qc kc Qi ki) 49 (0, 0)) ∧ W.heap[N + 1]? = some (.cells (ansA b Bf df Bc dc Bi di) 49 (0, 0))) W := fun _ h => ⟨h.1.1.b6, h.1.2.2.2.1, h.2.1, h.1.1.arg2⟩
    have g1 : restA b = restA c := by rw [hcc]; exact rest_back b
    have g2 : c.files = b.files := by rw [hcc, ans_back]
    have g3 : c.clashes = b.clashes := by rw [hcc, ans_back]
    have g4 : c.ids = (b.ids.map jId).map idOf := by rw [hcc, ans_back]
    intro KEY
    refine region_till (S := fun W => W.heap[Y6]? = some (.cells us6.toArray 25 (0, 0)) ∧ W.heap[Y9]? = some (.cells us9.toArray 25 (0, 0)) ∧ W.heap[Y13]? = some (.cells (ansA c Qf kf Qc kc Qi ki) 49 (0, 0)) ∧ W.heap[N + 1]? = some (.cells (ansA b Bf df Bc dc Bi di) 49 (0, 0))) 23 rfl nx H s0 fun W H sh => ?_
    refine takeQ 0 (v := .int .i64 0) rfl (s0 _ H) sh fun sh => ?_
    refine takeQ 1 (v := .bool true) rfl (s0 _ H) sh fun sh => ?_
    refine takeQ 2 (v := .bool true) rfl (s0 _ H) sh fun sh => ?_
    refine takeB 3 Y9 us9 rfl rfl hv9 (fun _ h => h.2.1) (s0 _ H) sh fun sh => ?_
    refine takeB 4 Y6 us6 rfl rfl hv6 (fun _ h => h.1) (s0 _ H) sh fun sh => ?_
    refine till1 5 rfl (stepL 10 #[.agg us9.toArray, .agg us6.toArray] (same9 (Js.same_self _) (rsame_any _ (ansJ b) (ansJ b) us9 us6 (fun _ => True) W (Nat.le_refl _) (by have := hsb; omega) (hok ▸ H.1.2.2.2.2) H.1.1.j6)) nx H s0 ?_)
    intro W H
    replace sh := sh.put (i := 5) (by kernel_rfl)
    refine takeQ 6 (v := .bool true) rfl (s0 _ H) sh fun sh => ?_
    refine takeQ 7 (v := .bool true) rfl (s0 _ H) sh fun sh => ?_
    refine takeQ 8 (v := .int .i64 0) rfl (s0 _ H) sh fun sh => ?_
    refine takeQ 9 (v := .bool true) rfl (s0 _ H) sh fun sh => ?_
    refine takeQ 10 (v := .bool true) rfl (s0 _ H) sh fun sh => ?_
    refine takeQ 11 (v := .bool true) rfl (s0 _ H) sh fun sh => ?_
    refine takeY (v := .agg (ansA c Qf kf Qc kc Qi ki)) 12 rfl (yieldsIf_load_mid (by kernel_rfl) 49 _ rfl Y13 0 (by kernel_rfl) (ansL c Qf kf Qc kc Qi ki) _ (fun W hS j v hv => (blk_cells hS.2.2.1 (0 + j)).trans (by rw [Nat.zero_add, show (ansA c Qf kf Qc kc Qi ki) = (ansL c Qf kf Qc kc Qi ki).toArray from rfl, List.getElem?_toArray]; exact hv)) Tryz.underlying49 rfl (by rw [info49]; rfl)) (s0 _ H) sh fun sh => ?_
    refine takeY (v := .agg (ansA b Bf df Bc dc Bi di)) 13 rfl (yieldsIf_load_mid (by kernel_rfl) 49 _ rfl (N + 1) 0 (by kernel_rfl) (ansL b Bf df Bc dc Bi di) _ (fun W hS j v hv => (blk_cells hS.2.2.2 (0 + j)).trans (by rw [Nat.zero_add, show (ansA b Bf df Bc dc Bi di) = (ansL b Bf df Bc dc Bi di).toArray from rfl, List.getElem?_toArray]; exact hv)) Tryz.underlying49 rfl (by rw [info49]; rfl)) (s0 _ H) sh fun sh => ?_
    refine till1 14 rfl (stepL 15 #[.agg (ansA c Qf kf Qc kc Qi ki), .agg (ansA b Bf df Bc dc Bi di)] (txnSame_any b c Bf df Bc dc Bi di Qf kf Qc kc Qi ki W g1 g2 g3 (by rw [g4, List.length_map, List.length_map]) H.2.2 (HRB.out W H.1.1.low) (rowAt_back (g4 ▸ H.2.2.ids)) (by omega)) nx H s0 ?_)
    intro W H
    replace sh := sh.put (i := 14) (by kernel_rfl)
    refine takeQ 15 (v := .bool true) rfl (s0 _ H) sh fun sh => ?_
    refine takeQ 16 (v := .bool true) rfl (s0 _ H) sh fun sh => ?_
    refine takeY (v := .agg (ansA c Qf kf Qc kc Qi ki)) 17 rfl (yieldsIf_load_mid (by kernel_rfl) 49 _ rfl Y13 0 (by kernel_rfl) (ansL c Qf kf Qc kc Qi ki) _ (fun W hS j v hv => (blk_cells hS.2.2.1 (0 + j)).trans (by rw [Nat.zero_add, show (ansA c Qf kf Qc kc Qi ki) = (ansL c Qf kf Qc kc Qi ki).toArray from rfl, List.getElem?_toArray]; exact hv)) Tryz.underlying49 rfl (by rw [info49]; rfl)) (s0 _ H) sh fun sh => ?_
    refine takeB 19 Y6 us6 rfl rfl hv6 (fun _ h => h.1) (s0 _ H) sh fun sh => ?_
    refine till1 18 rfl (stepC 12 #[.agg (ansA c Qf kf Qc kc Qi ki)] (refAnswer_any c Qf kf Qc kc Qi ki W H.2.2 (by rw [hcc]; have := ansP_len (ansJ b); omega)) ?_)
    rintro e W9 ⟨hb, usj, rfl, UJ⟩
    replace H := nx _ _ H hb
    replace UJ := UJ.wide (T := fun _ => True) (fun _ _ _ => trivial)
    refine ⟨_, rfl, s0 _ H, ?_⟩
    rename World => W
    replace sh := sh.put (i := 18) (by kernel_rfl)
    rw [hcc, ansJ_back] at UJ
    refine till1 20 rfl (stepL 10 #[.agg usj.toArray, .agg us6.toArray] (same9 (Js.same_self _) (rsame_any _ (ansJ b) (ansJ b) usj us6 (fun _ => True) W (Nat.le_refl _) (by have := hsb; omega) UJ H.1.1.j6)) nx H s0 ?_)
    intro W H
    replace sh := sh.put (i := 20) (by kernel_rfl)
    refine takeQ 21 (v := .bool true) rfl (s0 _ H) sh fun sh => ?_
    refine takeQ 22 (v := .bool true) rfl (s0 _ H) sh fun sh => ?_
    refine wpTill_done (by kernel_rfl) ?_ _
    simp only [Exit.then, Act.put, CL]
    exact KEY W usj H.1.1.low
   case key =>
   clear H1
   intro w23 usj H0
   replace H0 := Lib.hid H0
   go_wp2_with fail
   go_ret
   (try rw [HN.out])
   exact ⟨rfl, H0.out⟩
 ·have hee : encErr (askJ a) = 0 := by unfold encErr; rw [hra]; rfl
  have hok : okJ (askJ a) = askJ a := by unfold okJ; rw [hra]; rfl
  rw [hee]
  go_wp2_with (refine wpList_load_row rfl 25 _ rfl Y7 rfl us7.toArray H0.out.2.1 _ Tryz.underlying25 rfl (by rw [info25s]; simp [hv7]) ?_)
  refine (toAsk_st (askJ a) us7 (fun g => g < w12.heap.size) w12 ((hok ▸ H0.out.2.2.1).wide (fun _ _ h => h)) (fun _ h => h) HSA.out).mono ?_
  rintro e w13 ⟨hb, p, Pf, kf, Po, ko, Pa, ka, rfl, hst⟩
  rw [askE_back hra]
  replace H0 := Lib.hid ((nx_and nx_as (nx_and nx_blk (nx_and nx_jv (nx_and nx_blk nx_jv)))) _ _ H0.out hb)
  have HST := Lib.hid hst
  clear hb hst
  have hE : (w13.alloc (.cells #[.int .i64 0, .string ⟨#[]⟩, .string ⟨#[]⟩, .int .u8 0, .int .u8 0, .int .u8 0, .int .u8 0, .int .u8 0, .int .u8 0, .int .u8 0, .int .u8 0, .int .u8 0, .int .u8 0, .int .u8 0, .int .u8 0, .int .u8 0, .int .u8 0, .int .u8 0, .int .u8 0, .int .u8 0, .int .u8 0, .int .u8 0, .int .u8 0, .int .u8 0, .int .u8 0, .int .u8 0, .int .u8 0, .int .u8 0, .int .u8 0, .int .u8 0, .int .u8 0, .int .u8 0, .int .u8 0, .int .u8 0, .int .u8 0, .slice none 0 0, .string ⟨#[]⟩, .string ⟨#[]⟩, .string ⟨#[]⟩, .string ⟨#[]⟩, .int .i64 0, .string ⟨#[]⟩, .string ⟨#[]⟩, .string ⟨#[]⟩, .slice none 0 0, .int .i64 0, .string ⟨#[]⟩, .string ⟨#[]⟩, .string ⟨#[]⟩, .slice none 0 0] 38)).heap[w13.heap.size]? = some (.cells askZ 38 (0, 0)) := heap_alloc_new w13 (.cells #[.int .i64 0, .string ⟨#[]⟩, .string ⟨#[]⟩, .int .u8 0, .int .u8 0, .int .u8 0, .int .u8 0, .int .u8 0, .int .u8 0, .int .u8 0, .int .u8 0, .int .u8 0, .int .u8 0, .int .u8 0, .int .u8 0, .int .u8 0, .int .u8 0, .int .u8 0, .int .u8 0, .int .u8 0, .int .u8 0, .int .u8 0, .int .u8 0, .int .u8 0, .int .u8 0, .int .u8 0, .int .u8 0, .int .u8 0, .int .u8 0, .int .u8 0, .int .u8 0, .int .u8 0, .int .u8 0, .int .u8 0, .int .u8 0, .slice none 0 0, .string ⟨#[]⟩, .string ⟨#[]⟩, .string ⟨#[]⟩, .string ⟨#[]⟩, .int .i64 0, .string ⟨#[]⟩, .string ⟨#[]⟩, .string ⟨#[]⟩, .slice none 0 0, .int .i64 0, .string ⟨#[]⟩, .string ⟨#[]⟩, .string ⟨#[]⟩, .slice none 0 0] 38)
  go_wp2_with (refine wpList_store_row rfl 38 _ _ rfl _ rfl askZ (askA p Pf kf Po ko Pa ka) rfl hE rfl info38 (ask_one _ _ _ _ _ _ _) ?_; intro w14 hk hx)
  have hb := fresh_row hk
  obtain ⟨Y11, hY11⟩ : ∃ y, w13.heap.size = y := ⟨_, rfl⟩
  have h1 := (nx_and nx_as (nx_and nx_blk (nx_and nx_jv (nx_and nx_blk nx_jv)))) _ _ H0.out hb
  have h2 := nx_askst _ _ HST.out hb
  rw [hY11] at hx ⊢
  have H1 : Hid ((As w N a Af cf Ao co Aa ca b Bf df Bc dc Bi di Y5 Y6 us5 us6 w14 ∧ w14.heap[Y7]? = some (.cells us7.toArray 25 (0, 0)) ∧ JV w14 (fun _ => True) (okJ (askJ a)) us7 ∧ w14.heap[Y9]? = some (.cells us9.toArray 25 (0, 0)) ∧ JV w14 (fun _ => True) (okJ (ansJ b)) us9) ∧ w14.heap[Y11]? = some (.cells (askA p Pf kf Po ko Pa ka) 38 (0, 0)) ∧ AskRows w14 p Pf kf Po ko Pa ka) := Lib.hid ⟨h1, hx, AskSt.rows h2 (askE_back hra)⟩
  have hpp : p = askP (askJ a) := h2.elim (fun h => h.2.1) (fun h => by have := askE_back hra; have := h.1; omega)
  clear hb H0 HST hx hk hE hY11 h1 h2
  apply sharedE (F := fun W (_ : List Value) => As w N a Af cf Ao co Aa ca b Bf df Bc dc Bi di Y5 Y6 us5 us6 W ∧ W.heap[Y7]? = some (.cells us7.toArray 25 (0, 0)) ∧ JV W (fun _ => True) (okJ (askJ a)) us7 ∧ W.heap[Y9]? = some (.cells us9.toArray 25 (0, 0)) ∧ JV W (fun _ => True) (okJ (ansJ b)) us9)
  case tree =>
   have H := H1.out
   have hsa := HSA.out
   have hsm := HSM.out
   have nx : Nx fun W => (As w N a Af cf Ao co Aa ca b Bf df Bc dc Bi di Y5 Y6 us5 us6 W ∧ W.heap[Y7]? = some (.cells us7.toArray 25 (0, 0)) ∧ JV W (fun _ => True) (okJ (askJ a)) us7 ∧ W.heap[Y9]? = some (.cells us9.toArray 25 (0, 0)) ∧ JV W (fun _ => True) (okJ (ansJ b)) us9) ∧ W.heap[Y11]? = some (.cells (askA p Pf kf Po ko Pa ka) 38 (0, 0)) ∧ AskRows W p Pf kf Po ko Pa ka := nx_and (nx_and nx_as (nx_and nx_blk (nx_and nx_jv (nx_and nx_blk nx_jv)))) (nx_and nx_blk nx_ask)
   have s0 : ∀ W, (As w N a Af cf Ao co Aa ca b Bf df Bc dc Bi di Y5 Y6 us5 us6 W ∧ W.heap[Y7]? = some (.cells us7.toArray 25 (0, 0)) ∧ JV W (fun _ => True) (okJ (askJ a)) us7 ∧ W.heap[Y9]? = some (.cells us9.toArray 25 (0, 0)) ∧ JV W (fun _ => True) (okJ (ansJ b)) us9) ∧ W.heap[Y11]? = some (.cells (askA p Pf kf Po ko Pa ka) 38 (0, 0)) ∧ AskRows W p Pf kf Po ko Pa ka → (fun W => W.heap[Y5]? = some (.cells us5.toArray 25 (0, 0)) ∧ W.heap[Y7]? = some (.cells us7.toArray 25 (0, 0)) ∧ W.heap[Y11]? = some (.cells (askA p Pf kf Po ko Pa ka) 38 (0, 0))) W := fun _ h => ⟨h.1.1.b5, h.1.2.1, h.2.1⟩
   intro KEY
   refine region_till (S := fun W => W.heap[Y5]? = some (.cells us5.toArray 25 (0, 0)) ∧ W.heap[Y7]? = some (.cells us7.toArray 25 (0, 0)) ∧ W.heap[Y11]? = some (.cells (askA p Pf kf Po ko Pa ka) 38 (0, 0))) 19 rfl nx H s0 fun W H sh => ?_
   refine takeQ 0 (v := .int .i64 0) rfl (s0 _ H) sh fun sh => ?_
   refine takeQ 1 (v := .bool false) rfl (s0 _ H) sh fun sh => ?_
   refine takeQ 2 (v := .bool false) rfl (s0 _ H) sh fun sh => ?_
   refine takeB 3 Y7 us7 rfl rfl hv7 (fun _ h => h.2.1) (s0 _ H) sh fun sh => ?_
   refine takeB 4 Y5 us5 rfl rfl hv5 (fun _ h => h.1) (s0 _ H) sh fun sh => ?_
   refine till1 5 rfl (stepL 10 #[.agg us7.toArray, .agg us5.toArray] (same9 (Js.same_self _) (rsame_any _ (askJ a) (askJ a) us7 us5 (fun _ => True) W (Nat.le_refl _) (by have := hsa; omega) (hok ▸ H.1.2.2.1) H.1.1.j5)) nx H s0 ?_)
   intro W H
   replace sh := sh.put (i := 5) (by kernel_rfl)
   refine takeQ 6 (v := .bool false) rfl (s0 _ H) sh fun sh => ?_
   refine takeQ 7 (v := .bool false) rfl (s0 _ H) sh fun sh => ?_
   refine takeQ 8 (v := .bool false) rfl (s0 _ H) sh fun sh => ?_
   refine takeQ 9 (v := .int .i64 0) rfl (s0 _ H) sh fun sh => ?_
   refine takeQ 10 (v := .bool false) rfl (s0 _ H) sh fun sh => ?_
   refine takeQ 11 (v := .bool false) rfl (s0 _ H) sh fun sh => ?_
   refine takeQ 12 (v := .bool false) rfl (s0 _ H) sh fun sh => ?_
   refine takeY (v := .agg (askA p Pf kf Po ko Pa ka)) 13 rfl (yieldsIf_load_mid (by kernel_rfl) 38 _ rfl Y11 0 (by kernel_rfl) (askL p Pf kf Po ko Pa ka) _ (fun W hS j v hv => (blk_cells hS.2.2 (0 + j)).trans (by rw [Nat.zero_add, show (askA p Pf kf Po ko Pa ka) = (askL p Pf kf Po ko Pa ka).toArray from rfl, List.getElem?_toArray]; exact hv)) Tryz.underlying38 rfl (by rw [info38]; rfl)) (s0 _ H) sh fun sh => ?_
   refine takeB 15 Y5 us5 rfl rfl hv5 (fun _ h => h.1) (s0 _ H) sh fun sh => ?_
   refine till1 14 rfl (stepC 11 #[.agg (askA p Pf kf Po ko Pa ka)] (refAsk_any p Pf kf Po ko Pa ka W H.2.2 (by rw [hpp]; have := askP_len (askJ a); omega)) ?_)
   rintro e W9 ⟨hb, usj, rfl, UJ⟩
   replace H := nx _ _ H hb
   replace UJ := UJ.wide (T := fun _ => True) (fun _ _ _ => trivial)
   refine ⟨_, rfl, s0 _ H, ?_⟩
   rename World => W
   replace sh := sh.put (i := 14) (by kernel_rfl)
   rw [hpp, ask_back] at UJ
   refine till1 16 rfl (stepL 10 #[.agg usj.toArray, .agg us5.toArray] (same9 (Js.same_self _) (rsame_any _ (askJ a) (askJ a) usj us5 (fun _ => True) W (Nat.le_refl _) (by have := hsa; omega) UJ H.1.1.j5)) nx H s0 ?_)
   intro W H
   replace sh := sh.put (i := 16) (by kernel_rfl)
   refine takeQ 17 (v := .bool false) rfl (s0 _ H) sh fun sh => ?_
   refine takeQ 18 (v := .bool false) rfl (s0 _ H) sh fun sh => ?_
   refine wpTill_done (by kernel_rfl) ?_ _
   simp only [Exit.then, Act.put, CL]
   exact KEY W usj H.1
  case key =>
  clear H1
  intro w15 usj H0
  replace H0 := Lib.hid H0
  go_wp2_with (refine wpList_load_row rfl 25 _ rfl Y6 rfl us6.toArray H0.out.1.b6 _ Tryz.underlying25 rfl (by rw [info25s]; simp [hv6]) ?_)
  refine (right_any (ansJ b) us6 (fun _ => True) w15 H0.out.1.j6 (by have := HSB.out; omega) (by have := HSB.out; omega) (by have := HSB.out; omega)).mono ?_
  rintro e w20 ⟨rfl, hb⟩
  replace H0 := Lib.hid ((nx_and nx_as (nx_and nx_blk (nx_and nx_jv (nx_and nx_blk nx_jv)))) _ _ H0.out hb)
  clear hb
  obtain ⟨rb, hrb⟩ : ∃ rb, Js.right (ansJ b) = rb := ⟨_, rfl⟩
  rw [hrb]
  cases rb
  ·have hee : encErr (ansJ b) = 2 := by unfold encErr; rw [hrb]; rfl
   rw [hee]
   have hz : ∃ A c A' c', us9 = [.int .i64 0, .bool false, .int .i64 0, .string ⟨#[]⟩, .slice A 0 c, .slice A' 0 c'] := by
    have hj := H0.out.2.2.2.2
    unfold okJ at hj
    rw [hrb, if_neg (by decide)] at hj
    obtain ⟨A, c, A', c', he, -, -, -⟩ := jv_open hj
    exact ⟨A, c, A', c', he⟩
   obtain ⟨A8, c8, A9, c9, hz⟩ := hz
   have q0 : w20.cell? ⟨Y9, 0, none⟩ = some (.int .i64 0) := by rw [blk_cells H0.out.2.2.2.1 0, hz]; rfl
   clear hz
   go_wp2_with fail
   go_ret
   (try rw [HN.out])
   exact ⟨rfl, H0.out.1.low⟩
  ·have hee : encErr (ansJ b) = 0 := by unfold encErr; rw [hrb]; rfl
   have hok : okJ (ansJ b) = ansJ b := by unfold okJ; rw [hrb]; rfl
   rw [hee]
   go_wp2_with (refine wpList_load_row rfl 25 _ rfl Y9 rfl us9.toArray H0.out.2.2.2.1 _ Tryz.underlying25 rfl (by rw [info25s]; simp [hv9]) ?_)
   refine (toAnswer_st (ansJ b) us9 (fun g => g < w20.heap.size) w20 ((hok ▸ H0.out.2.2.2.2).wide (fun _ _ h => h)) (fun _ h => h) HSB.out).mono ?_
   rintro e w21 ⟨hb, c, Qf, kf, Qc, kc, Qi, ki, rfl, hst⟩
   rw [ansE_back hrb]
   replace H0 := Lib.hid ((nx_and nx_as (nx_and nx_blk (nx_and nx_jv (nx_and nx_blk nx_jv)))) _ _ H0.out hb)
   have HST := Lib.hid hst
   clear hb hst
   have hE : (w21.alloc (.cells #[.int .i64 0, .int .i64 0, .int .i64 0, .int .i64 0, .int .u8 0, .int .u8 0, .int .u8 0, .int .u8 0, .int .u8 0, .int .u8 0, .int .u8 0, .int .u8 0, .int .u8 0, .int .u8 0, .int .u8 0, .int .u8 0, .int .u8 0, .int .u8 0, .int .u8 0, .int .u8 0, .int .u8 0, .int .u8 0, .int .u8 0, .int .u8 0, .int .u8 0, .int .u8 0, .int .u8 0, .int .u8 0, .int .u8 0, .int .u8 0, .int .u8 0, .int .u8 0, .int .u8 0, .int .u8 0, .int .u8 0, .int .u8 0, .slice none 0 0, .slice none 0 0, .int .i64 0, .string ⟨#[]⟩, .string ⟨#[]⟩, .int .i64 0, .slice none 0 0] 49)).heap[w21.heap.size]? = some (.cells ansZ 49 (0, 0)) := heap_alloc_new w21 (.cells #[.int .i64 0, .int .i64 0, .int .i64 0, .int .i64 0, .int .u8 0, .int .u8 0, .int .u8 0, .int .u8 0, .int .u8 0, .int .u8 0, .int .u8 0, .int .u8 0, .int .u8 0, .int .u8 0, .int .u8 0, .int .u8 0, .int .u8 0, .int .u8 0, .int .u8 0, .int .u8 0, .int .u8 0, .int .u8 0, .int .u8 0, .int .u8 0, .int .u8 0, .int .u8 0, .int .u8 0, .int .u8 0, .int .u8 0, .int .u8 0, .int .u8 0, .int .u8 0, .int .u8 0, .int .u8 0, .int .u8 0, .int .u8 0, .slice none 0 0, .slice none 0 0, .int .i64 0, .string ⟨#[]⟩, .string ⟨#[]⟩, .int .i64 0, .slice none 0 0] 49)
   go_wp2_with (refine wpList_store_row rfl 49 _ _ rfl _ rfl ansZ (ansA c Qf kf Qc kc Qi ki) rfl hE rfl info49 (ans_one _ _ _ _ _ _ _) ?_; intro w22 hk hx)
   have hb := fresh_row hk
   obtain ⟨Y13, hY13⟩ : ∃ y, w21.heap.size = y := ⟨_, rfl⟩
   have h1 := (nx_and nx_as (nx_and nx_blk (nx_and nx_jv (nx_and nx_blk nx_jv)))) _ _ H0.out hb
   have h2 := nx_ansst _ _ HST.out hb
   rw [hY13] at hx ⊢
   have H1 : Hid ((As w N a Af cf Ao co Aa ca b Bf df Bc dc Bi di Y5 Y6 us5 us6 w22 ∧ w22.heap[Y7]? = some (.cells us7.toArray 25 (0, 0)) ∧ JV w22 (fun _ => True) (okJ (askJ a)) us7 ∧ w22.heap[Y9]? = some (.cells us9.toArray 25 (0, 0)) ∧ JV w22 (fun _ => True) (okJ (ansJ b)) us9) ∧ w22.heap[Y13]? = some (.cells (ansA c Qf kf Qc kc Qi ki) 49 (0, 0)) ∧ AnsRows w22 c Qf kf Qc kc Qi ki) := Lib.hid ⟨h1, hx, AnsSt.rows h2 (ansE_back hrb)⟩
   have hcc : c = ansP (ansJ b) := h2.elim (fun h => h.2.1) (fun h => by have := ansE_back hrb; have := h.1; omega)
   clear hb H0 HST hx hk hE hY13 h1 h2
   apply sharedE (F := fun W (_ : List Value) => Below N w W)
   case tree =>
    have H := H1.out
    have hsb := HSB.out
    have hsm := HSM.out
    have nx : Nx fun W => (As w N a Af cf Ao co Aa ca b Bf df Bc dc Bi di Y5 Y6 us5 us6 W ∧ W.heap[Y7]? = some (.cells us7.toArray 25 (0, 0)) ∧ JV W (fun _ => True) (okJ (askJ a)) us7 ∧ W.heap[Y9]? = some (.cells us9.toArray 25 (0, 0)) ∧ JV W (fun _ => True) (okJ (ansJ b)) us9) ∧ W.heap[Y13]? = some (.cells (ansA c Qf kf Qc kc Qi ki) 49 (0, 0)) ∧ AnsRows W c Qf kf Qc kc Qi ki := nx_and (nx_and nx_as (nx_and nx_blk (nx_and nx_jv (nx_and nx_blk nx_jv)))) (nx_and nx_blk nx_ans)
    have s0 : ∀ W, (As w N a Af cf Ao co Aa ca b Bf df Bc dc Bi di Y5 Y6 us5 us6 W ∧ W.heap[Y7]? = some (.cells us7.toArray 25 (0, 0)) ∧ JV W (fun _ => True) (okJ (askJ a)) us7 ∧ W.heap[Y9]? = some (.cells us9.toArray 25 (0, 0)) ∧ JV W (fun _ => True) (okJ (ansJ b)) us9) ∧ W.heap[Y13]? = some (.cells (ansA c Qf kf Qc kc Qi ki) 49 (0, 0)) ∧ AnsRows W c Qf kf Qc kc Qi ki → (fun W => W.heap[Y6]? = some (.cells us6.toArray 25 (0, 0)) ∧ W.heap[Y9]? = some (.cells us9.toArray 25 (0, 0)) ∧ W.heap[Y13]? = some (.cells (ansA c Qf kf Qc kc Qi ki) 49 (0, 0)) ∧ W.heap[N + 1]? = some (.cells (ansA b Bf df Bc dc Bi di) 49 (0, 0))) W := fun _ h => ⟨h.1.1.b6, h.1.2.2.2.1, h.2.1, h.1.1.arg2⟩
    have g1 : restA b = restA c := by rw [hcc]; exact rest_back b
    have g2 : c.files = b.files := by rw [hcc, ans_back]
    have g3 : c.clashes = b.clashes := by rw [hcc, ans_back]
    have g4 : c.ids = (b.ids.map jId).map idOf := by rw [hcc, ans_back]
    intro KEY
    refine region_till (S := fun W => W.heap[Y6]? = some (.cells us6.toArray 25 (0, 0)) ∧ W.heap[Y9]? = some (.cells us9.toArray 25 (0, 0)) ∧ W.heap[Y13]? = some (.cells (ansA c Qf kf Qc kc Qi ki) 49 (0, 0)) ∧ W.heap[N + 1]? = some (.cells (ansA b Bf df Bc dc Bi di) 49 (0, 0))) 23 rfl nx H s0 fun W H sh => ?_
    refine takeQ 0 (v := .int .i64 0) rfl (s0 _ H) sh fun sh => ?_
    refine takeQ 1 (v := .bool true) rfl (s0 _ H) sh fun sh => ?_
    refine takeQ 2 (v := .bool true) rfl (s0 _ H) sh fun sh => ?_
    refine takeB 3 Y9 us9 rfl rfl hv9 (fun _ h => h.2.1) (s0 _ H) sh fun sh => ?_
    refine takeB 4 Y6 us6 rfl rfl hv6 (fun _ h => h.1) (s0 _ H) sh fun sh => ?_
    refine till1 5 rfl (stepL 10 #[.agg us9.toArray, .agg us6.toArray] (same9 (Js.same_self _) (rsame_any _ (ansJ b) (ansJ b) us9 us6 (fun _ => True) W (Nat.le_refl _) (by have := hsb; omega) (hok ▸ H.1.2.2.2.2) H.1.1.j6)) nx H s0 ?_)
    intro W H
    replace sh := sh.put (i := 5) (by kernel_rfl)
    refine takeQ 6 (v := .bool true) rfl (s0 _ H) sh fun sh => ?_
    refine takeQ 7 (v := .bool true) rfl (s0 _ H) sh fun sh => ?_
    refine takeQ 8 (v := .int .i64 0) rfl (s0 _ H) sh fun sh => ?_
    refine takeQ 9 (v := .bool true) rfl (s0 _ H) sh fun sh => ?_
    refine takeQ 10 (v := .bool true) rfl (s0 _ H) sh fun sh => ?_
    refine takeQ 11 (v := .bool true) rfl (s0 _ H) sh fun sh => ?_
    refine takeY (v := .agg (ansA c Qf kf Qc kc Qi ki)) 12 rfl (yieldsIf_load_mid (by kernel_rfl) 49 _ rfl Y13 0 (by kernel_rfl) (ansL c Qf kf Qc kc Qi ki) _ (fun W hS j v hv => (blk_cells hS.2.2.1 (0 + j)).trans (by rw [Nat.zero_add, show (ansA c Qf kf Qc kc Qi ki) = (ansL c Qf kf Qc kc Qi ki).toArray from rfl, List.getElem?_toArray]; exact hv)) Tryz.underlying49 rfl (by rw [info49]; rfl)) (s0 _ H) sh fun sh => ?_
    refine takeY (v := .agg (ansA b Bf df Bc dc Bi di)) 13 rfl (yieldsIf_load_mid (by kernel_rfl) 49 _ rfl (N + 1) 0 (by kernel_rfl) (ansL b Bf df Bc dc Bi di) _ (fun W hS j v hv => (blk_cells hS.2.2.2 (0 + j)).trans (by rw [Nat.zero_add, show (ansA b Bf df Bc dc Bi di) = (ansL b Bf df Bc dc Bi di).toArray from rfl, List.getElem?_toArray]; exact hv)) Tryz.underlying49 rfl (by rw [info49]; rfl)) (s0 _ H) sh fun sh => ?_
    refine till1 14 rfl (stepL 15 #[.agg (ansA c Qf kf Qc kc Qi ki), .agg (ansA b Bf df Bc dc Bi di)] (txnSame_any b c Bf df Bc dc Bi di Qf kf Qc kc Qi ki W g1 g2 g3 (by rw [g4, List.length_map, List.length_map]) H.2.2 (HRB.out W H.1.1.low) (rowAt_back (g4 ▸ H.2.2.ids)) (by omega)) nx H s0 ?_)
    intro W H
    replace sh := sh.put (i := 14) (by kernel_rfl)
    refine takeQ 15 (v := .bool true) rfl (s0 _ H) sh fun sh => ?_
    refine takeQ 16 (v := .bool true) rfl (s0 _ H) sh fun sh => ?_
    refine takeY (v := .agg (ansA c Qf kf Qc kc Qi ki)) 17 rfl (yieldsIf_load_mid (by kernel_rfl) 49 _ rfl Y13 0 (by kernel_rfl) (ansL c Qf kf Qc kc Qi ki) _ (fun W hS j v hv => (blk_cells hS.2.2.1 (0 + j)).trans (by rw [Nat.zero_add, show (ansA c Qf kf Qc kc Qi ki) = (ansL c Qf kf Qc kc Qi ki).toArray from rfl, List.getElem?_toArray]; exact hv)) Tryz.underlying49 rfl (by rw [info49]; rfl)) (s0 _ H) sh fun sh => ?_
    refine takeB 19 Y6 us6 rfl rfl hv6 (fun _ h => h.1) (s0 _ H) sh fun sh => ?_
    refine till1 18 rfl (stepC 12 #[.agg (ansA c Qf kf Qc kc Qi ki)] (refAnswer_any c Qf kf Qc kc Qi ki W H.2.2 (by rw [hcc]; have := ansP_len (ansJ b); omega)) ?_)
    rintro e W9 ⟨hb, usj, rfl, UJ⟩
    replace H := nx _ _ H hb
    replace UJ := UJ.wide (T := fun _ => True) (fun _ _ _ => trivial)
    refine ⟨_, rfl, s0 _ H, ?_⟩
    rename World => W
    replace sh := sh.put (i := 18) (by kernel_rfl)
    rw [hcc, ansJ_back] at UJ
    refine till1 20 rfl (stepL 10 #[.agg usj.toArray, .agg us6.toArray] (same9 (Js.same_self _) (rsame_any _ (ansJ b) (ansJ b) usj us6 (fun _ => True) W (Nat.le_refl _) (by have := hsb; omega) UJ H.1.1.j6)) nx H s0 ?_)
    intro W H
    replace sh := sh.put (i := 20) (by kernel_rfl)
    refine takeQ 21 (v := .bool true) rfl (s0 _ H) sh fun sh => ?_
    refine takeQ 22 (v := .bool true) rfl (s0 _ H) sh fun sh => ?_
    refine wpTill_done (by kernel_rfl) ?_ _
    simp only [Exit.then, Act.put, CL]
    exact KEY W usj H.1.1.low
   case key =>
   clear H1
   intro w23 usj H0
   replace H0 := Lib.hid H0
   go_wp2_with fail
   go_ret
   (try rw [HN.out])
   exact ⟨rfl, H0.out⟩
end Go.Proofs.YtimioelnnhnbiaaGreatDoor
