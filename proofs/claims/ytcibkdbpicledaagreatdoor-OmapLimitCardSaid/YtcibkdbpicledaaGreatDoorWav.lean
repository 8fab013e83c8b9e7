import Derived.Test.YtcibkdbpicledaaGreatDoorWau
set_option maxRecDepth 100000
namespace Go.Proofs.YtcibkdbpicledaaGreatDoor
open Go.RowKit Go.BigFrame Go.Maps Go.WideMaps Lf
open Go.Shelf
attribute [local go_sem] Oper.semAt_some
structure GBox (w W : World) (ps hh b12 : Nat) (vk vv vc : Value) (sz : Nat) : Prop where
 b3 : W.heap[w.heap.size]? = some (.cells #[PV ps] 25 (0, 0))
 b5 : W.heap[w.heap.size + 1]? = some (.cells #[.int .u64 hh] 83 (0, 0))
 b6 : W.heap[w.heap.size + 1 + 1]? = some (.cells #[.slice none 0 0, .slice none 0 0, .slice none 0 0, .int .u64 0] 286 (0, 0))
 b7 : W.heap[w.heap.size + 1 + 1 + 1]? = some (.cells #[.int .i64 0] 30 (0, 0))
 k12 : W.heap[b12]? = some (.cells #[.func (.func 214) #[] #[PV w.heap.size, PV (w.heap.size + 1)]] 219 (0, 0))
 k13 : W.heap[b12 + 1]? = some (.cells #[vk, vv, vc, .int .u64 sz] 286 (0, 0))
 below : Below w.heap.size w W
 size : b12 + 2 ≤ W.heap.size
 at12 : b12 = w.heap.size + 4
structure Rows3 (W : World) (D : Nat) (vk vv vc : Value) (ks vs cs : List Nat) : Prop where
 k : OwnH W D vk ks
 v : OwnH W D vv vs
 c : OwnH W D vc cs
 kv : ∀ g, vk.ownBlock = some g → vv.ownBlock ≠ some g
 kc : ∀ g, vk.ownBlock = some g → vc.ownBlock ≠ some g
 vc : ∀ g, vv.ownBlock = some g → vc.ownBlock ≠ some g
theorem wp_append {P : Program} {o : Oper} {a : Act} {w w' : World} {K : Act → World → Prop} {Q : Exit → Act → World → Prop} {v xv v' : Value} (s x : Operand) (t : TypeId)
 (ho : o.op = .call { callee := .builtin .append, args := #[s, x], argTypes := #[t, t] }) (hs : a.eval s = v) (hx : a.eval x = xv)
 (hr : (Builtin.append_ #[t, t] o.type #[v, xv]).run P w = .ok v' w') (h : K (a.put o.dst v') w') : Oper.wp P o a w K Q := by
 unfold Oper.wp execOp
 simp only [ho, resolve, invoke, builtin, Sem.run_bind, Sem.run_pure, Result.andThen_ok, List.map_toArray, List.map_cons, List.map_nil, hs, hx, hr]
 exact h
theorem OwnH.at {w w' : World} {D : Nat} {v : Value} {l : List Nat} (h : OwnH w D v l) (e : ∀ g, v.ownBlock = some g → w'.heap[g]? = w.heap[g]?) : OwnH w' D v l := by
 refine ⟨h.1, ?_⟩
 rcases h.2 with hn | ⟨g, cap, cur, rfl, hb, hgg, rest⟩
 · exact .inl hn
 · exact .inr ⟨g, cap, cur, rfl, hb, (e g rfl).trans hgg, rest⟩
theorem OwnH.slice {w : World} {D : Nat} {v : Value} {l : List Nat} (h : OwnH w D v l) : ∃ A m c, v = .slice A m c := by
 rcases h.2 with ⟨rfl, _⟩ | ⟨g, cap, cur, rfl, _⟩
 · exact ⟨_, _, _, rfl⟩
 · exact ⟨_, _, _, rfl⟩
theorem OwnH.ge {w : World} {D : Nat} {v : Value} {l : List Nat} (h : OwnH w D v l) : ∀ g, v.ownBlock = some g → D ≤ g ∧ g < w.heap.size := World.ownsRow.lt h
theorem OwnH.slice2 {w : World} {D : Nat} {v : Value} {l : List Nat} (h : OwnH w D v l) : ∃ A c, v = .slice A l.length c := by
 rcases h.2 with ⟨rfl, e⟩ | ⟨g, cap, cur, rfl, _⟩
 · exact ⟨none, 0, by rw [e]⟩
 · exact ⟨_, _, rfl⟩
theorem OwnH.hrow {w : World} {D : Nat} {v : Value} {l : List Nat} (h : OwnH w D v l) : HRow w v l := by
 rcases h.2 with ⟨rfl, e⟩ | ⟨g, cap, cur, e, _⟩
 · exact ⟨none, 0, by rw [e], fun i hi => absurd hi (by omega)⟩
 · refine ⟨_, _, e, fun i hi => ⟨g, 0, rfl, ?_⟩⟩
   have := World.ownsRow.cells h (g := g) (by rw [e]; rfl) i (.int .u64 (l[i] : Nat)) (by simp [hV, hi])
   rw [Addr.add_lit] at this
   simpa using this
theorem Below.grownBy {w w' : World} (h : Below w.heap.size w w') (row : Option Nat) : w.grownBy w' row := ⟨h.os, h.tape, h.output, h.size, fun k hk _ => h.block k hk⟩
theorem Rows3.below {W W' : World} {D : Nat} {vk vv vc : Value} {ks vs cs : List Nat} (h : Rows3 W D vk vv vc ks vs cs) (hb : Below W.heap.size W W') : Rows3 W' D vk vv vc ks vs cs :=
 ⟨h.k.at fun g e => hb.block g (h.k.ge g e).2, h.v.at fun g e => hb.block g (h.v.ge g e).2, h.c.at fun g e => hb.block g (h.c.ge g e).2, h.kv, h.kc, h.vc⟩
theorem get_all {S : St} {t hh : Nat} {n : BN} (hn : BnOk t n) (hlen : S.len hh = (6 * t, 0)) (hg : ∀ k, k < 6 * t → S.get hh k = (wAt t n n.keys.length n.kids.length k, 0)) (k : Nat) : (S.get hh k).1 = wAt t n n.keys.length n.kids.length k := by
 by_cases hk : k < 6 * t
 · rw [hg k hk]
 · have h1 := hn.many
   have h2 : n.kids.length ≤ n.keys.length + 1 := by rcases hn.kids with h | h <;> omega
   have h3 := hn.lo
   unfold wAt
   rw [if_neg (by omega), if_neg (by omega), if_neg (by omega), if_neg (by omega)]
   unfold St.len at hlen
   unfold St.get
   rcases S.at_cases hh with ⟨a, m, e, _⟩ | ⟨e, _⟩
   · rw [e] at hlen ⊢
     have : m = 6 * t := (Prod.mk.inj hlen).1
     simp only
     rw [if_neg (by omega)]
   · rw [e]; rfl
theorem st4_heap {w : World} {b : Nat} {v0 v1 v2 v3 u0 u1 u2 u3 : Value} {ty : TypeId} {fr : Nat × Nat} (h : w.heap[b]? = some (.cells #[v0, v1, v2, v3] ty fr)) : ((((w.setCell ⟨b, 0, none⟩ (u0)).setCell ⟨b, 1, none⟩ (u1)).setCell ⟨b, 2, none⟩ (u2)).setCell ⟨b, 3, none⟩ (u3)).heap[b]? = some (.cells #[u0, u1, u2, u3] ty fr) := by
 have h1 := heap_setCell (i := 0) (v := u0) h
 have h2 := heap_setCell (i := 1) (v := u1) h1
 have h3 := heap_setCell (i := 2) (v := u2) h2
 exact heap_setCell (i := 3) (v := u3) h3
theorem st4_other {w : World} {b k : Nat} {u0 u1 u2 u3 : Value} (hk : k ≠ b) : ((((w.setCell ⟨b, 0, none⟩ (u0)).setCell ⟨b, 1, none⟩ (u1)).setCell ⟨b, 2, none⟩ (u2)).setCell ⟨b, 3, none⟩ (u3)).heap[k]? = w.heap[k]? := by
 rw [heap_setCell_ne hk, heap_setCell_ne hk, heap_setCell_ne hk, heap_setCell_ne hk]
theorem st4_below {w w0 : World} {n b : Nat} {u0 u1 u2 u3 : Value} (h : Below n w0 w) (hb : n ≤ b) : Below n w0 ((((w.setCell ⟨b, 0, none⟩ (u0)).setCell ⟨b, 1, none⟩ (u1)).setCell ⟨b, 2, none⟩ (u2)).setCell ⟨b, 3, none⟩ (u3)) :=
 (((h.setCell (p := ⟨b, 0, none⟩) hb u0).setCell (p := ⟨b, 1, none⟩) hb u1).setCell (p := ⟨b, 2, none⟩) hb u2).setCell (p := ⟨b, 3, none⟩) hb u3
theorem Rows3.lift {W W' : World} {D D' : Nat} {vk vv vc : Value} {ks vs cs : List Nat} (h : Rows3 W D vk vv vc ks vs cs) (hD : D' ≤ D) (e : ∀ g, D ≤ g → g < W.heap.size → W'.heap[g]? = W.heap[g]?) : Rows3 W' D' vk vv vc ks vs cs := by
 have low : ∀ {v : Value} {l : List Nat}, OwnH W D v l → OwnH W' D' v l := fun hh => by
  have := hh.at (w' := W') fun g q => e g (hh.ge g q).1 (hh.ge g q).2
  refine ⟨this.1, ?_⟩
  rcases this.2 with hn | ⟨g, cap, cur, rfl, hb, rest⟩
  · exact .inl hn
  · exact .inr ⟨g, cap, cur, rfl, Nat.le_trans hD hb, rest⟩
 exact ⟨low h.k, low h.v, low h.c, h.kv, h.kc, h.vc⟩
theorem set_far {w : World} {p : Addr} {x : Value} {k : Nat} (hk : k ≠ p.block) : (w.setCell p x).heap[k]? = w.heap[k]? := Below.heap_setCell w p x k hk
theorem GBox.drew {w W : World} {ps hh b12 sz : Nat} {vk vv vc : Value} (h : GBox w W ps hh b12 vk vv vc sz) : GBox w W.drew ps hh b12 vk vv vc sz := ⟨h.b3, h.b5, h.b6, h.b7, h.k12, h.k13, h.below.drew, h.size, h.at12⟩
theorem Rows3.drew {W : World} {D : Nat} {vk vv vc : Value} {ks vs cs : List Nat} (h : Rows3 W D vk vv vc ks vs cs) : Rows3 W.drew D vk vv vc ks vs cs := ⟨h.k, h.v, h.c, h.kv, h.kc, h.vc⟩
theorem GBox.grown {w W W2 : World} {ps hh b12 sz : Nat} {vk vv vc : Value} {row : Option Nat} (h : GBox w W ps hh b12 vk vv vc sz) (hg : W.grownBy W2 row) (hr : ∀ g, row = some g → b12 + 2 ≤ g) : GBox w W2 ps hh b12 vk vv vc sz := by
 have e : ∀ k, k < b12 + 2 → W2.heap[k]? = W.heap[k]? := fun k hk => hg.block k (by have := h.size; omega) (fun e => by have := hr k e.symm; omega)
 have ha := h.at12
 exact ⟨(e _ (by omega)).trans h.b3, (e _ (by omega)).trans h.b5, (e _ (by omega)).trans h.b6, (e _ (by omega)).trans h.b7, (e _ (by omega)).trans h.k12, (e _ (by omega)).trans h.k13,
  h.below.trans ⟨hg.os, hg.tape, hg.output, hg.size, fun k hk => e k (by omega)⟩, Nat.le_trans h.size hg.size, ha⟩
theorem GBox.up {w W W2 : World} {ps hh b12 sz : Nat} {vk vv vc : Value} (h : GBox w W ps hh b12 vk vv vc sz) (hb : Below W.heap.size W W2) : GBox w W2 ps hh b12 vk vv vc sz := h.grown (row := none) (Below.grownBy hb none) fun _ e => nomatch e
theorem GBox.set0 {w W : World} {ps hh b12 sz : Nat} {vk vv vc : Value} (h : GBox w W ps hh b12 vk vv vc sz) (v' : Value) : GBox w (W.setCell ⟨b12 + 1, 0, none⟩ v') ps hh b12 v' vv vc sz := by
 have e : ∀ k, k ≠ b12 + 1 → (W.setCell ⟨b12 + 1, 0, none⟩ v').heap[k]? = W.heap[k]? := fun k hk => set_far hk
 have ha := h.at12
 have hz : (W.setCell ⟨b12 + 1, 0, none⟩ v').heap.size = W.heap.size := World.size_setCell _ _ _
 have q := heap_setCell (i := 0) (v := v') h.k13
 refine ⟨(e _ (by omega)).trans h.b3, (e _ (by omega)).trans h.b5, (e _ (by omega)).trans h.b6, (e _ (by omega)).trans h.b7, (e _ (by omega)).trans h.k12, by simpa using q, ?_, by rw [hz]; exact h.size, ha⟩
 exact h.below.setCell (p := ⟨b12 + 1, 0, none⟩) (by show w.heap.size ≤ b12 + 1; omega) v'
theorem step_row0 {w W : World} {ps hh b12 sz : Nat} {vk vv vc v' : Value} {ks vs cs : List Nat} {x : Nat} (gb : GBox w W ps hh b12 vk vv vc sz) (rows : Rows3 W (b12 + 2) vk vv vc ks vs cs) {W2 : World} (h : OwnH W2 (b12 + 2) v' (ks ++ [x])) (hg : W.grownBy W2 vk.ownBlock) (hv : v'.ownBlock = vk.ownBlock ∨ ∃ g, v'.ownBlock = some g ∧ W.heap.size ≤ g) :
 GBox w (W2.setCell ⟨b12 + 1, 0, none⟩ v') ps hh b12 v' vv vc sz ∧ Rows3 (W2.setCell ⟨b12 + 1, 0, none⟩ v') (b12 + 2) v' vv vc (ks ++ [x]) vs cs := by
 refine ⟨(gb.grown hg fun g e => (rows.k.ge g e).1).set0 v', ?_⟩
 have st : ∀ {v : Value} {l : List Nat}, OwnH W2 (b12 + 2) v l → OwnH (W2.setCell ⟨b12 + 1, 0, none⟩ v') (b12 + 2) v l := fun hh => hh.at fun g e => set_far (by have := (hh.ge g e).1; show g ≠ b12 + 1; omega)
 have k1 : ∀ {v : Value} {l : List Nat}, OwnH W (b12 + 2) v l → (∀ g, vk.ownBlock = some g → v.ownBlock ≠ some g) → OwnH W2 (b12 + 2) v l := fun hh hn => hh.at fun g e => hg.block g (hh.ge g e).2 (fun e2 => hn g e2.symm e)
 have nw : ∀ {v : Value} {l : List Nat}, OwnH W (b12 + 2) v l → (∀ g, vk.ownBlock = some g → v.ownBlock ≠ some g) → ∀ g, v'.ownBlock = some g → v.ownBlock ≠ some g := fun hh hn g e e2 => by
  rcases hv with hv | ⟨g', e', hl⟩
  · exact hn g (hv ▸ e) e2
  · have := (hh.ge g e2).2
    rw [e] at e'
    cases e'
    omega
 exact { k := st h, v := st (k1 rows.v (rows.kv)), c := st (k1 rows.c (rows.kc)), kv := nw rows.v (rows.kv), kc := nw rows.c (rows.kc), vc := rows.vc }
theorem GBox.set1 {w W : World} {ps hh b12 sz : Nat} {vk vv vc : Value} (h : GBox w W ps hh b12 vk vv vc sz) (v' : Value) : GBox w (W.setCell ⟨b12 + 1, 1, none⟩ v') ps hh b12 vk v' vc sz := by
 have e : ∀ k, k ≠ b12 + 1 → (W.setCell ⟨b12 + 1, 1, none⟩ v').heap[k]? = W.heap[k]? := fun k hk => set_far hk
 have ha := h.at12
 have hz : (W.setCell ⟨b12 + 1, 1, none⟩ v').heap.size = W.heap.size := World.size_setCell _ _ _
 have q := heap_setCell (i := 1) (v := v') h.k13
 refine ⟨(e _ (by omega)).trans h.b3, (e _ (by omega)).trans h.b5, (e _ (by omega)).trans h.b6, (e _ (by omega)).trans h.b7, (e _ (by omega)).trans h.k12, by simpa using q, ?_, by rw [hz]; exact h.size, ha⟩
 exact h.below.setCell (p := ⟨b12 + 1, 1, none⟩) (by show w.heap.size ≤ b12 + 1; omega) v'
theorem step_row1 {w W : World} {ps hh b12 sz : Nat} {vk vv vc v' : Value} {ks vs cs : List Nat} {x : Nat} (gb : GBox w W ps hh b12 vk vv vc sz) (rows : Rows3 W (b12 + 2) vk vv vc ks vs cs) {W2 : World} (h : OwnH W2 (b12 + 2) v' (vs ++ [x])) (hg : W.grownBy W2 vv.ownBlock) (hv : v'.ownBlock = vv.ownBlock ∨ ∃ g, v'.ownBlock = some g ∧ W.heap.size ≤ g) :
 GBox w (W2.setCell ⟨b12 + 1, 1, none⟩ v') ps hh b12 vk v' vc sz ∧ Rows3 (W2.setCell ⟨b12 + 1, 1, none⟩ v') (b12 + 2) vk v' vc ks (vs ++ [x]) cs := by
 refine ⟨(gb.grown hg fun g e => (rows.v.ge g e).1).set1 v', ?_⟩
 have st : ∀ {v : Value} {l : List Nat}, OwnH W2 (b12 + 2) v l → OwnH (W2.setCell ⟨b12 + 1, 1, none⟩ v') (b12 + 2) v l := fun hh => hh.at fun g e => set_far (by have := (hh.ge g e).1; show g ≠ b12 + 1; omega)
 have k1 : ∀ {v : Value} {l : List Nat}, OwnH W (b12 + 2) v l → (∀ g, vv.ownBlock = some g → v.ownBlock ≠ some g) → OwnH W2 (b12 + 2) v l := fun hh hn => hh.at fun g e => hg.block g (hh.ge g e).2 (fun e2 => hn g e2.symm e)
 have nw : ∀ {v : Value} {l : List Nat}, OwnH W (b12 + 2) v l → (∀ g, vv.ownBlock = some g → v.ownBlock ≠ some g) → ∀ g, v'.ownBlock = some g → v.ownBlock ≠ some g := fun hh hn g e e2 => by
  rcases hv with hv | ⟨g', e', hl⟩
  · exact hn g (hv ▸ e) e2
  · have := (hh.ge g e2).2
    rw [e] at e'
    cases e'
    omega
 exact { k := st (k1 rows.k (fun g e e2 => rows.kv g e2 e)), v := st h, c := st (k1 rows.c (rows.vc)), kv := fun g e e2 => nw rows.k (fun g e e2 => rows.kv g e2 e) g e2 e, kc := rows.kc, vc := nw rows.c (rows.vc) }
theorem GBox.set2 {w W : World} {ps hh b12 sz : Nat} {vk vv vc : Value} (h : GBox w W ps hh b12 vk vv vc sz) (v' : Value) : GBox w (W.setCell ⟨b12 + 1, 2, none⟩ v') ps hh b12 vk vv v' sz := by
 have e : ∀ k, k ≠ b12 + 1 → (W.setCell ⟨b12 + 1, 2, none⟩ v').heap[k]? = W.heap[k]? := fun k hk => set_far hk
 have ha := h.at12
 have hz : (W.setCell ⟨b12 + 1, 2, none⟩ v').heap.size = W.heap.size := World.size_setCell _ _ _
 have q := heap_setCell (i := 2) (v := v') h.k13
 refine ⟨(e _ (by omega)).trans h.b3, (e _ (by omega)).trans h.b5, (e _ (by omega)).trans h.b6, (e _ (by omega)).trans h.b7, (e _ (by omega)).trans h.k12, by simpa using q, ?_, by rw [hz]; exact h.size, ha⟩
 exact h.below.setCell (p := ⟨b12 + 1, 2, none⟩) (by show w.heap.size ≤ b12 + 1; omega) v'
theorem step_row2 {w W : World} {ps hh b12 sz : Nat} {vk vv vc v' : Value} {ks vs cs : List Nat} {x : Nat} (gb : GBox w W ps hh b12 vk vv vc sz) (rows : Rows3 W (b12 + 2) vk vv vc ks vs cs) {W2 : World} (h : OwnH W2 (b12 + 2) v' (cs ++ [x])) (hg : W.grownBy W2 vc.ownBlock) (hv : v'.ownBlock = vc.ownBlock ∨ ∃ g, v'.ownBlock = some g ∧ W.heap.size ≤ g) :
 GBox w (W2.setCell ⟨b12 + 1, 2, none⟩ v') ps hh b12 vk vv v' sz ∧ Rows3 (W2.setCell ⟨b12 + 1, 2, none⟩ v') (b12 + 2) vk vv v' ks vs (cs ++ [x]) := by
 refine ⟨(gb.grown hg fun g e => (rows.c.ge g e).1).set2 v', ?_⟩
 have st : ∀ {v : Value} {l : List Nat}, OwnH W2 (b12 + 2) v l → OwnH (W2.setCell ⟨b12 + 1, 2, none⟩ v') (b12 + 2) v l := fun hh => hh.at fun g e => set_far (by have := (hh.ge g e).1; show g ≠ b12 + 1; omega)
 have k1 : ∀ {v : Value} {l : List Nat}, OwnH W (b12 + 2) v l → (∀ g, vc.ownBlock = some g → v.ownBlock ≠ some g) → OwnH W2 (b12 + 2) v l := fun hh hn => hh.at fun g e => hg.block g (hh.ge g e).2 (fun e2 => hn g e2.symm e)
 have nw : ∀ {v : Value} {l : List Nat}, OwnH W (b12 + 2) v l → (∀ g, vc.ownBlock = some g → v.ownBlock ≠ some g) → ∀ g, v'.ownBlock = some g → v.ownBlock ≠ some g := fun hh hn g e e2 => by
  rcases hv with hv | ⟨g', e', hl⟩
  · exact hn g (hv ▸ e) e2
  · have := (hh.ge g e2).2
    rw [e] at e'
    cases e'
    omega
 exact { k := st (k1 rows.k (fun g e e2 => rows.kc g e2 e)), v := st (k1 rows.v (fun g e e2 => rows.vc g e2 e)), c := st h, kv := rows.kv, kc := fun g e e2 => nw rows.k (fun g e e2 => rows.kc g e2 e) g e2 e, vc := fun g e e2 => nw rows.v (fun g e e2 => rows.vc g e2 e) g e2 e }
structure GBox4 (w W : World) (ps hh : Nat) : Prop where
 b3 : W.heap[w.heap.size]? = some (.cells #[PV ps] 25 (0, 0))
 b5 : W.heap[w.heap.size + 1]? = some (.cells #[.int .u64 hh] 83 (0, 0))
 b6 : W.heap[w.heap.size + 1 + 1]? = some (.cells #[.slice none 0 0, .slice none 0 0, .slice none 0 0, .int .u64 0] 286 (0, 0))
 b7 : W.heap[w.heap.size + 1 + 1 + 1]? = some (.cells #[.int .i64 0] 30 (0, 0))
 below : Below w.heap.size w W
 size : W.heap.size = w.heap.size + 4
theorem four_box (w : World) (ps hh : Nat) : GBox4 w ((((w.alloc (.cells #[PV ps] 25)).alloc (.cells #[.int .u64 hh] 83)).alloc (.cells #[.slice none 0 0, .slice none 0 0, .slice none 0 0, .int .u64 0] 286)).alloc (.cells #[.int .i64 0] 30)) ps hh := by
 have z1 : (w.alloc (.cells #[PV ps] 25)).heap.size = w.heap.size + 1 := by simp
 have z2 : ((w.alloc (.cells #[PV ps] 25)).alloc (.cells #[.int .u64 hh] 83)).heap.size = w.heap.size + 2 := by simp
 have z3 : (((w.alloc (.cells #[PV ps] 25)).alloc (.cells #[.int .u64 hh] 83)).alloc (.cells #[.slice none 0 0, .slice none 0 0, .slice none 0 0, .int .u64 0] 286)).heap.size = w.heap.size + 3 := by simp
 have z4 : ((((w.alloc (.cells #[PV ps] 25)).alloc (.cells #[.int .u64 hh] 83)).alloc (.cells #[.slice none 0 0, .slice none 0 0, .slice none 0 0, .int .u64 0] 286)).alloc (.cells #[.int .i64 0] 30)).heap.size = w.heap.size + 4 := by simp
 have B1 := (Below.refl w.heap.size w).alloc (Nat.le_refl _) (.cells #[PV ps] 25)
 have q1 := heap_alloc_new w (.cells #[PV ps] 25)
 have q2 := heap_alloc_new (w.alloc (.cells #[PV ps] 25)) (.cells #[.int .u64 hh] 83)
 have q3 := heap_alloc_new ((w.alloc (.cells #[PV ps] 25)).alloc (.cells #[.int .u64 hh] 83)) (.cells #[.slice none 0 0, .slice none 0 0, .slice none 0 0, .int .u64 0] 286)
 have q4 := heap_alloc_new (((w.alloc (.cells #[PV ps] 25)).alloc (.cells #[.int .u64 hh] 83)).alloc (.cells #[.slice none 0 0, .slice none 0 0, .slice none 0 0, .int .u64 0] 286)) (.cells #[.int .i64 0] 30)
 rw [z1] at q2
 rw [z2] at q3
 rw [z3] at q4
 generalize (w.alloc (.cells #[PV ps] 25)) = w1 at *
 have e2 := (Below.refl w1.heap.size w1).alloc (Nat.le_refl _) (.cells #[.int .u64 hh] 83)
 generalize w1.alloc (.cells #[.int .u64 hh] 83) = w2 at *
 have e3 := (Below.refl w2.heap.size w2).alloc (Nat.le_refl _) (.cells #[.slice none 0 0, .slice none 0 0, .slice none 0 0, .int .u64 0] 286)
 generalize w2.alloc (.cells #[.slice none 0 0, .slice none 0 0, .slice none 0 0, .int .u64 0] 286) = w3 at *
 have e4 := (Below.refl w3.heap.size w3).alloc (Nat.le_refl _) (.cells #[.int .i64 0] 30)
 generalize w3.alloc (.cells #[.int .i64 0] 30) = w4 at *
 have up : ∀ {a b : World} {k : Nat} {o : Obj}, Below a.heap.size a b → a.heap[k]? = some o → b.heap[k]? = some o := fun h e => (h.block _ (gl e)).trans e
 refine ⟨up e4 (up e3 (up e2 q1)), up e4 (up e3 q2), up e4 q3, q4, ?_, z4⟩
 exact B1.trans ((e2.trans ((e3.trans (e4.mono (by omega))).mono (by omega))).mono (by omega))
theorem GBox4.six {w W : World} {ps hh : Nat} (h : GBox4 w W ps hh) (sz : Nat) : GBox w ((W.alloc (.cells #[.func (.func 214) #[] #[PV w.heap.size, PV (w.heap.size + 1)]] 219)).alloc (.cells #[.slice none 0 0, .slice none 0 0, .slice none 0 0, .int .u64 sz] 286)) ps hh W.heap.size (.slice none 0 0) (.slice none 0 0) (.slice none 0 0) sz := by
 have q5 := heap_alloc_new W (.cells #[.func (.func 214) #[] #[PV w.heap.size, PV (w.heap.size + 1)]] 219)
 have q6 := heap_alloc_new (W.alloc (.cells #[.func (.func 214) #[] #[PV w.heap.size, PV (w.heap.size + 1)]] 219)) (.cells #[.slice none 0 0, .slice none 0 0, .slice none 0 0, .int .u64 sz] 286)
 have z5 : (W.alloc (.cells #[.func (.func 214) #[] #[PV w.heap.size, PV (w.heap.size + 1)]] 219)).heap.size = W.heap.size + 1 := by simp
 have z6 : ((W.alloc (.cells #[.func (.func 214) #[] #[PV w.heap.size, PV (w.heap.size + 1)]] 219)).alloc (.cells #[.slice none 0 0, .slice none 0 0, .slice none 0 0, .int .u64 sz] 286)).heap.size = W.heap.size + 2 := by simp
 rw [z5] at q6
 have e5 := (Below.refl W.heap.size W).alloc (Nat.le_refl _) (.cells #[.func (.func 214) #[] #[PV w.heap.size, PV (w.heap.size + 1)]] 219)
 generalize W.alloc (.cells #[.func (.func 214) #[] #[PV w.heap.size, PV (w.heap.size + 1)]] 219) = w5 at *
 have e6 := (Below.refl w5.heap.size w5).alloc (Nat.le_refl _) (.cells #[.slice none 0 0, .slice none 0 0, .slice none 0 0, .int .u64 sz] 286)
 generalize w5.alloc (.cells #[.slice none 0 0, .slice none 0 0, .slice none 0 0, .int .u64 sz] 286) = w6 at *
 have hz := h.size
 have up : ∀ {a b : World} {k : Nat} {o : Obj}, Below a.heap.size a b → a.heap[k]? = some o → b.heap[k]? = some o := fun h e => (h.block _ (gl e)).trans e
 exact ⟨up e6 (up e5 h.b3), up e6 (up e5 h.b5), up e6 (up e5 h.b6), up e6 (up e5 h.b7), up e6 q5, q6, h.below.trans ((e5.trans (e6.mono (by omega))).mono (by omega)), by omega, hz⟩
