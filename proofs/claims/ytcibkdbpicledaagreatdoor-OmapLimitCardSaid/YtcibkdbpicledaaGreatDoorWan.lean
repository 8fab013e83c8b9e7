import Derived.Test.YtcibkdbpicledaaGreatDoorWam
set_option maxRecDepth 100000
set_option maxHeartbeats 3200000
namespace Go.Proofs.YtcibkdbpicledaaGreatDoor
open Go.RowKit Go.BigFrame Go.Maps Go.WideMaps Lf
theorem StOn.write {w w' : World} {ps : Nat} {S : St} {Y : Nat → Prop} {b : Nat} {cs : Array Value} {t : TypeId} {fr : Nat × Nat} (h : StOn w ps S Y) (hy : Y b) (hb : w.heap[b]? = some (.cells cs t fr)) (ht : t ≠ 130 ∧ t ≠ 177) (hz : cs.size < 64)
 (hs : w.heap.size ≤ w'.heap.size) (hw : ∀ k, k < w.heap.size → k ≠ b → w'.heap[k]? = w.heap[k]?) : StOn w' ps S Y := by
 obtain ⟨pa, pm, ph, pt, v, h⟩ := h
 refine ⟨pa, pm, ph, pt, v, h.of_keep hs fun k hk hc => hw k hk ?_⟩
 rintro rfl
 rcases hc with hc | rfl | rfl | rfl
 · exact hc hy
 · have := h.hd
   rw [hb] at this
   injection this with this
   injection this with _ this
   exact ht.1 this
 · have := h.heap.hp
   rw [hb] at this
   injection this with this
   injection this with _ this
   exact ht.2 this
 · have := h.heap.tab 63 (by decide)
   rw [cell_of_block hb, Array.getElem?_eq_none (by omega)] at this
   cases this
def Lf.binInsM (jn : Jn) (S : St) (root k v : Nat) : Option (Nat × St) :=
 if (makeNode S ⟨k, v, 0, 0, 0, 1⟩).1.2 ≠ 0 then none
 else match insertOkM jn (makeNode S ⟨k, v, 0, 0, 0, 1⟩).2 root (makeNode S ⟨k, v, 0, 0, 0, 1⟩).1.1 with
  | none => none
  | some ((now, old), S1) => if old = 0 then some (now, S1) else none
theorem binInsM_some {jn : Jn} {S S' : St} {root k v x : Nat} (h : binInsM jn S root k v = some (x, S')) :
 (makeNode S ⟨k, v, 0, 0, 0, 1⟩).1.2 = 0 ∧ insertOkM jn (makeNode S ⟨k, v, 0, 0, 0, 1⟩).2 root (makeNode S ⟨k, v, 0, 0, 0, 1⟩).1.1 = some ((x, 0), S') := by
 unfold binInsM at h
 split at h
 · cases h
 · rename_i h0
   split at h
   · cases h
   · rename_i now old S1 h1
     split at h
     · rename_i h2
       have h := Option.some.inj h
       injection h with e1 e2
       subst e1 e2 h2
       exact ⟨Decidable.not_not.1 h0, h1⟩
     · cases h
theorem makeNode_fst (S : St) (n : Nd) : (makeNode S n).1.1 = (S.make 6).1.1 ∨ (makeNode S n).1.1 = 0 := by
 unfold makeNode
 split
 · rename_i h s1 e; left; rw [e]
 · right; rfl
theorem makeNode_lt {S : St} (hw : TabWF S.t) (n : Nd) : (makeNode S n).1.1 < 18446744073709551616 := by
 rcases makeNode_fst S n with e | e
 · rw [e]; exact make_lt hw 6
 · rw [e]; decide
theorem makeNode_inv {S : St} (hm : MkOk S 6) (n : Nd) : Inv (makeNode S n).2 := by
 have h2 := hm.2
 unfold makeNode
 split
 · rename_i h s1 e
   rw [e] at h2
   exact putNode_inv h2 _ _
 · rename_i e0 h er s1 e
   rw [e] at h2
   exact h2
theorem bin_insert {w : World} {ps : Nat} {S S' : St} {Y : Nat → Prop} (h : StOn w ps S Y) (hm : MkOk S 6) {kind : Nat} {j c : FuncId} {jn : Jn} (hk : KindOk kind j c jn) (root k v : Nat) (hl : root < 18446744073709551616) (hkl : k < 18446744073709551616) (hvl : v < 18446744073709551616) {x : Nat} (hx : binInsM jn S root k v = some (x, S')) :
 Calls Tryz.prog 288 #[binV ps kind, .int .u64 root, itV k v] w fun e w' => e = .returned (.tuple #[.int .u64 x, itV 0 0, .bool false, .int .i64 0]) ∧ StOn w' ps S' Y ∧ Keep Y w w' ∧ Inv S' ∧ x < 18446744073709551616 := by
 obtain ⟨h0, h1⟩ := binInsM_some hx
 have hi1 := makeNode_inv hm ⟨k, v, 0, 0, 0, 1⟩
 have hml := makeNode_lt h.tabwf ⟨k, v, 0, 0, 0, 1⟩
 have hmk := fun W Z (hW : StOn W ps S Z) => node_make hW hm ⟨k, v, 0, 0, 0, 1⟩ ⟨hkl, hvl, by simp, by simp, by simp, by simp⟩
 generalize makeNode S ⟨k, v, 0, 0, 0, 1⟩ = M at *
 obtain ⟨⟨m, em⟩, S1⟩ := M
 simp only at h0 h1 hi1 hml hmk
 subst h0
 have hin := fun W Z (hW : StOn W ps S1 Z) => parts_insert hW hi1 hk.joins hk.way root m hl hml h1
 have hwo := fun W Z (hi2 : Inv S') (hW : StOn W ps S' Z) => bin_without0 hW hi2 kind
 simp only [binV, itV, ndV] at hmk hwo ⊢
 have B1 := (Below.refl w.heap.size w).alloc (Nat.le_refl _) (.cells #[PV ps, .int .i64 kind] 185)
 have q1 := heap_alloc_new w (.cells #[PV ps, .int .i64 kind] 185)
 generalize hw1 : w.alloc (.cells #[PV ps, .int .i64 kind] 185) = w1 at *
 have z1 : w1.heap.size = w.heap.size + 1 := by rw [← hw1]; simp
 have A2 := (Below.refl w1.heap.size w1).alloc (Nat.le_refl _) (.cells #[.int .u64 k, .int .u64 v] 137)
 have B2 := B1.alloc B1.size (.cells #[.int .u64 k, .int .u64 v] 137)
 have q2 := (A2.block w.heap.size (by omega)).trans q1
 have z2 : (w1.alloc (.cells #[.int .u64 k, .int .u64 v] 137)).heap.size = w.heap.size + 2 := by simp [z1]
 generalize hw2 : w1.alloc (.cells #[.int .u64 k, .int .u64 v] 137) = w2 at *
 have A3 := (Below.refl w2.heap.size w2).alloc (Nat.le_refl _) (.cells #[.int .u64 0, .int .u64 0] 137)
 have q3 := (A3.block w.heap.size (by omega)).trans q2
 have B3 := B2.alloc B2.size (.cells #[.int .u64 0, .int .u64 0] 137)
 have y3 := heap_alloc_new w2 (.cells #[.int .u64 0, .int .u64 0] 137)
 rw [z2] at y3
 have z3 : (w2.alloc (.cells #[.int .u64 0, .int .u64 0] 137)).heap.size = w.heap.size + 3 := by simp [z2]
 subst hw2 hw1
 have hY := h.yl
 have HG := kq9 hmk hin hwo (h.wide B3) q3 y3 z3 B3 hY
 clear hmk hin hwo h q1 q2 q3 y3 A2 A3 B1 B2 B3 z1 z2 z3 hi1 h1 hm hk hY hx
 go_enter Tryz.func288, Tryz.ntmps288
 go_wp2_with fail
 refine (HG.out.1 _ _ HG.out.2.2.2.1).mono ?_
 rintro e w4 ⟨rfl, h4, k4⟩
 have q4 := (k4.block w.heap.size (Or.inr ⟨Nat.le_refl _, by have := HG.out.2.2.2.2.2.2.1; omega⟩)).trans HG.out.2.2.2.2.1
 have y4 := (k4.block (w.heap.size + 2) (Or.inr ⟨by omega, by have := HG.out.2.2.2.2.2.2.1; omega⟩)).trans HG.out.2.2.2.2.2.1
 obtain ⟨c0, c1⟩ := cells2 q4
 have H4 := kq4 h4 k4 q4 y4
 clear h4 k4 q4 y4
 go_wp2_with fail
 obtain ⟨hp, hi5, hxl, -⟩ := HG.out.2.1 _ _ H4.out.1
 refine hp.mono ?_
 rintro e w5 ⟨rfl, h5, k5⟩
 have q5 := (k5.block w.heap.size (Or.inr ⟨Nat.le_refl _, by have := HG.out.2.2.2.2.2.2.1; omega⟩)).trans H4.out.2.2.1
 have y5 := (k5.block (w.heap.size + 2) (Or.inr ⟨by omega, by have := HG.out.2.2.2.2.2.2.1; omega⟩)).trans H4.out.2.2.2
 obtain ⟨d0, d1⟩ := cells2 q5
 have H5 := kq5 h5 (H4.out.2.1.trans k5) hi5 hxl y5
 clear h5 k5 q5 y5 hp hi5 hxl c0 c1
 go_wp2_with fail
 refine (HG.out.2.2.1 _ _ H5.out.2.2.1 H5.out.1).mono ?_
 rintro e w6 ⟨rfl, hb6⟩
 have y6 := (hb6.block (w.heap.size + 2) (gl H5.out.2.2.2.2)).trans H5.out.2.2.2.2
 obtain ⟨e0, e1⟩ := cells2 y6
 obtain ⟨f0, f1⟩ := frees2 y6
 have q7 : ((w6.setCell ⟨(w.heap.size + 2), 0, none⟩ (.int .u64 0)).setCell ⟨(w.heap.size + 2), 1, none⟩ (.int .u64 0)).heap[w.heap.size + 2]? = _ := st2_heap y6 (.int .u64 0) (.int .u64 0)
 have o7 : ∀ k, k ≠ w.heap.size + 2 → ((w6.setCell ⟨(w.heap.size + 2), 0, none⟩ (.int .u64 0)).setCell ⟨(w.heap.size + 2), 1, none⟩ (.int .u64 0)).heap[k]? = w6.heap[k]? := fun k hk => st2_other hk _ _
 have z7 : ((w6.setCell ⟨(w.heap.size + 2), 0, none⟩ (.int .u64 0)).setCell ⟨(w.heap.size + 2), 1, none⟩ (.int .u64 0)).heap.size = w6.heap.size := by simp
 have s7 : ((w6.setCell ⟨(w.heap.size + 2), 0, none⟩ (.int .u64 0)).setCell ⟨(w.heap.size + 2), 1, none⟩ (.int .u64 0)).os = w6.os ∧ ((w6.setCell ⟨(w.heap.size + 2), 0, none⟩ (.int .u64 0)).setCell ⟨(w.heap.size + 2), 1, none⟩ (.int .u64 0)).tape = w6.tape ∧ ((w6.setCell ⟨(w.heap.size + 2), 0, none⟩ (.int .u64 0)).setCell ⟨(w.heap.size + 2), 1, none⟩ (.int .u64 0)).output = w6.output := ⟨rfl, rfl, rfl⟩
 have hY2 : ∀ k, Y k → k < w.heap.size := HG.out.2.2.2.2.2.2.2.2
 have h6 := H5.out.1.below hb6
 have k6 := H5.out.2.1.trans (H5.out.1.keep hb6)
 have H6 := kq9 h6 k6 H5.out.2.2.1 H5.out.2.2.2.1 y6 q7 o7 z7 s7
 clear hb6 y6 d0 d1 h6 k6 o7 z7 s7 q7
 go_wp2_with fail
 generalize ((w6.setCell ⟨(w.heap.size + 2), 0, none⟩ (.int .u64 0)).setCell ⟨(w.heap.size + 2), 1, none⟩ (.int .u64 0)) = w7 at *
 have q7 := H6.out.2.2.2.2.2.1
 obtain ⟨I, hIi, hIo⟩ : ∃ I : World → Prop, (∀ w', I w' → w'.heap[w.heap.size + 2]? = some (.cells #[.int .u64 0, .int .u64 0] 137)) ∧ (∀ w', w'.heap[w.heap.size + 2]? = some (.cells #[.int .u64 0, .int .u64 0] 137) → I w') := ⟨fun w' => w'.heap[w.heap.size + 2]? = some (.cells #[.int .u64 0, .int .u64 0] 137), fun _ h => h, fun _ a => a⟩
 have hy0 := fun x : Keeps I => hIi _ x.ok
 obtain ⟨m0, m1⟩ := cellsX2 hy0
 obtain ⟨g0, g1⟩ := cells2 q7
 obtain ⟨h0, h1⟩ := frees2 q7
 have HI := Lib.hid hIo
 have hI0 : I w7.drew := hIo _ q7
 have HQ := Lib.hid q7
 clear e0 e1 f0 f1 q7 hIi hIo hy0
 refine wp_region_mix I [(true, 0), (true, 1), (true, 2), (true, 3), (false, 4), (false, 5), (false, 6), (false, 7)] (by kernel_rfl) (by kernel_rfl) hI0 ?_
 iterate 4
  refine' mix_take _ (by rfl) _ (by rfl) ?_ ?_
  rotate_left
  · rintro _ ⟨x, rfl⟩
    have hxm0 := m0 x
    have hxm1 := m1 x
    go_simp
    try with_reducible rfl
  try simp only [pu]
 refine mix_do _ (by rfl) (by rfl) (fun K hK => ?_)
 go_simp
 try go_simp
 refine hK.out _ _ (HI.out _ HQ.out) ?_
 clear hK K
 try simp only [pu]
 refine mix_do _ (by rfl) (by rfl) (fun K hK => ?_)
 go_simp
 have q8 : ((w7.setCell ⟨(w.heap.size + 2), 0, none⟩ (.int .u64 0)).setCell ⟨(w.heap.size + 2), 1, none⟩ (.int .u64 0)).drew.heap[w.heap.size + 2]? = _ := st2_heap HQ.out (.int .u64 0) (.int .u64 0)
 have o8 : ∀ k, k ≠ w.heap.size + 2 → ((w7.setCell ⟨(w.heap.size + 2), 0, none⟩ (.int .u64 0)).setCell ⟨(w.heap.size + 2), 1, none⟩ (.int .u64 0)).drew.heap[k]? = w7.heap[k]? := fun k hk => st2_other hk _ _
 have z8 : ((w7.setCell ⟨(w.heap.size + 2), 0, none⟩ (.int .u64 0)).setCell ⟨(w.heap.size + 2), 1, none⟩ (.int .u64 0)).drew.heap.size = w7.heap.size := by show ((w7.setCell ⟨(w.heap.size + 2), 0, none⟩ (.int .u64 0)).setCell ⟨(w.heap.size + 2), 1, none⟩ (.int .u64 0)).heap.size = _; simp
 have s8 : ((w7.setCell ⟨(w.heap.size + 2), 0, none⟩ (.int .u64 0)).setCell ⟨(w.heap.size + 2), 1, none⟩ (.int .u64 0)).drew.os = w7.os ∧ ((w7.setCell ⟨(w.heap.size + 2), 0, none⟩ (.int .u64 0)).setCell ⟨(w.heap.size + 2), 1, none⟩ (.int .u64 0)).drew.tape = w7.tape ∧ ((w7.setCell ⟨(w.heap.size + 2), 0, none⟩ (.int .u64 0)).setCell ⟨(w.heap.size + 2), 1, none⟩ (.int .u64 0)).drew.output = w7.output := ⟨rfl, rfl, rfl⟩
 generalize ((w7.setCell ⟨(w.heap.size + 2), 0, none⟩ (.int .u64 0)).setCell ⟨(w.heap.size + 2), 1, none⟩ (.int .u64 0)).drew = w8 at *
 try go_simp
 refine hK.out _ _ (HI.out _ q8) ?_
 clear hK K
 try simp only [pu]
 refine mix_do _ (by rfl) (by rfl) (fun K hK => ?_)
 go_simp
 try go_simp
 refine hK.out _ _ (HI.out _ q8) ?_
 clear hK K
 try simp only [pu]
 refine mix_do _ (by rfl) (by rfl) (fun K hK => ?_)
 go_simp
 try go_simp
 refine hK.out _ _ (HI.out _ q8) ?_
 clear hK K
 try simp only [pu]
 refine mix_nil ?_
 obtain ⟨e0, e1⟩ := cells2 q8
 have hfin : StOn w8 ps S' Y ∧ Keep Y w w8 := by
  obtain ⟨h6, k6, -, -, y6, -, o7, z7, s7⟩ := H6.out
  have hY := HG.out.2.2.2.2.2.2.2.2
  have hz := HG.out.2.2.2.2.2.2.1
  have hw : ∀ k, k ≠ w.heap.size + 2 → w8.heap[k]? = w6.heap[k]? := fun k hk => (o8 k hk).trans (o7 k hk)
  refine ⟨(h6.write (Or.inr ⟨by omega, by omega⟩) y6 ⟨by decide, by decide⟩ (by simp) (by omega) fun k _ hk => hw k hk).mono fun k hk => Or.inl hk, ?_⟩
  have hk0 := (Keep.of_below HG.out.2.2.2.2.2.2.2.1 hY).trans (k6.mono fun k hk => Or.inl hk)
  exact ⟨(s8.1.trans s7.1).trans hk0.os, (s8.2.1.trans s7.2.1).trans hk0.tape, (s8.2.2.trans s7.2.2).trans hk0.output, by have := hk0.size; omega, fun k hk => (hw k (by have := hY k hk; omega)).trans (hk0.block k hk)⟩
 have HF := Lib.hid hfin
 clear hfin q8 o8 z8 s8 g0 g1 h0 h1 m0 m1
 go_wp2_with fail
 exact bodyPost_ret (v := .tuple #[.int .u64 x, .agg #[.int .u64 0, .int .u64 0], .bool false, .int .i64 0]) (by simp [results, Tryz.f288, go_sem, e0, e1]) rfl ⟨rfl, HF.out.1, HF.out.2, H6.out.2.2.1, H6.out.2.2.2.1⟩
def TreeOn (w : World) (px ps kind root : Nat) : Prop := w.heap[px]? = some (.cells #[PV ps, .int .i64 kind, .int .i64 0, .iface 185 (binV ps kind), .int .u64 root] 134)
theorem meth_size (f : Nat) (v : Value) (w : World) : (method (f + 1) 185 v "loft/backend.size").run Tryz.prog w = .ok (291, v) w := by kernel_rfl
theorem meth_rank (f : Nat) (v : Value) (w : World) : (method (f + 1) 185 v "loft/backend.rank").run Tryz.prog w = .ok (289, v) w := by kernel_rfl
theorem meth_at (f : Nat) (v : Value) (w : World) : (method (f + 1) 185 v "loft/backend.at").run Tryz.prog w = .ok (286, v) w := by kernel_rfl
theorem meth_insert (f : Nat) (v : Value) (w : World) : (method (f + 1) 185 v "loft/backend.insert").run Tryz.prog w = .ok (288, v) w := by kernel_rfl
end Go.Proofs.YtcibkdbpicledaaGreatDoor
namespace Go.Proofs.YtcibkdbpicledaaGreatDoor.Qw
open Go Go.RowKit
inductive Plan where
 | nil
 | take (i : Nat) (p : Plan)
 | go (i : Nat) (p : Plan)
 | two (i j : Nat) (p q : Plan)
def Plan.len : Plan → Nat
 | .nil => 0
 | .take _ p => p.len + 1
 | .go _ p => p.len + 1
 | .two _ _ p _ => p.len + 1
section
variable {P : Program} {l : List Oper} {md : Region.Mode} {S : World → Prop} {Q : Exit → Act → World → Prop}
def wpPlan (P : Program) (l : List Oper) (Q : Exit → Act → World → Prop) (S : World → Prop) : Plan → Act → World → Prop
 | .nil, a, w => Q .normal a w
 | .take i p, a, w => ∃ o, l[i]? = some o ∧ ∃ v, YieldsIf P l.toArray S o v a ∧ wpPlan P l Q S p (a.put o.dst v) w
 | .go i p, a, w => ∃ o, l[i]? = some o ∧ Region.wanted o (yielded l.toArray a.tmps) = true ∧ o.wp P a w (fun a' w' => S w' ∧ wpPlan P l Q S p a' w') Q
 | .two i j p q, a, w => (∃ o, l[i]? = some o ∧ Region.wanted o (yielded l.toArray a.tmps) = true ∧ o.wp P a w (fun a' w' => S w' ∧ wpPlan P l Q S p a' w') Q) ∧
  (∃ o, l[j]? = some o ∧ Region.wanted o (yielded l.toArray a.tmps) = true ∧ o.wp P a w (fun a' w' => S w' ∧ wpPlan P l Q S q a' w') Q)
def planB (md : Region.Mode) (ops : Array Oper) : Plan → Array Bool → Bool
 | .nil, listed => (Region.ready md ops listed).isEmpty
 | .take i p, listed => (Region.ready md ops listed).contains i && Region.free md ops listed i && planB md ops p (listed.setIfInBounds i true)
 | .go i p, listed => decide (Region.ready md ops listed = [i]) && planB md ops p (listed.setIfInBounds i true)
 | .two i j p q, listed => decide (Region.ready md ops listed = [i, j]) && decide (p.len = q.len) && planB md ops p (listed.setIfInBounds i true) && planB md ops q (listed.setIfInBounds j true)
theorem wpAnyH_plan (hsel : Region.noSelect l.toArray = true) (hQ : ∀ d v c a w, Q (.panic c) (Act.put a d v) w → Q (.panic c) a w) :
 ∀ (p : Plan) (listed : Array Bool) (a : Act) (w : World), planB md l.toArray p listed = true → S w → wpPlan P l Q S p a w → wpAnyH P md l.toArray Q S p.len listed a w
 | .nil, _, _, _, hB, _, h => ⟨by simpa [planB] using hB, h⟩
 | .take i p, listed, a, w, hB, hS, h => by
  simp only [planB, Bool.and_eq_true] at hB
  obtain ⟨⟨hr, hf⟩, hB'⟩ := hB
  obtain ⟨o, h0, v, hy, hK⟩ := h
  have h0' : l.toArray[i]? = some o := by simpa using h0
  exact wpAnyH_take h0' hsel hf hr (fun c a w => hQ _ _ c a w) hy hS (wpAnyH_plan hsel hQ p _ _ _ hB' hS hK)
 | .go j p, listed, a, w, hB, hS, h => by
  simp only [planB, Bool.and_eq_true, decide_eq_true_eq] at hB
  refine ⟨fun h1 => (by rw [hB.1] at h1; cases h1), fun i hi => ?_⟩
  rw [hB.1] at hi
  have hik : i = j := by simpa using hi
  subst hik
  have hrec := fun a' w' (hs : S w') (hq : wpPlan P l Q S p a' w') => wpAnyH_plan hsel hQ p (listed.setIfInBounds i true) a' w' hB.2 hs hq
  obtain ⟨o, h0, hw, hh⟩ := h
  have h0' : l.toArray[i]? = some o := by simpa using h0
  unfold wpOp
  simp only [h0', hw, if_true]
  exact .inl (Oper.wp_mono (fun a' w' h' => ⟨h'.1, hrec a' w' h'.1 h'.2⟩) hh)
 | .two i j p q, listed, a, w, hB, hS, h => by
  simp only [planB, Bool.and_eq_true, decide_eq_true_eq] at hB
  obtain ⟨⟨⟨hr, hlen⟩, hp⟩, hq⟩ := hB
  refine ⟨fun h1 => (by rw [hr] at h1; cases h1), fun k hk => ?_⟩
  rw [hr] at hk
  have hk' : k = i ∨ k = j := by simpa using hk
  rcases hk' with rfl | rfl
  · have hrec := fun a' w' (hs : S w') (hq' : wpPlan P l Q S p a' w') => wpAnyH_plan hsel hQ p (listed.setIfInBounds k true) a' w' hp hs hq'
    obtain ⟨o, h0, hw, hh⟩ := h.1
    have h0' : l.toArray[k]? = some o := by simpa using h0
    unfold wpOp
    simp only [h0', hw, if_true]
    exact .inl (Oper.wp_mono (fun a' w' h' => ⟨h'.1, hrec a' w' h'.1 h'.2⟩) hh)
  · have hrec := fun a' w' (hs : S w') (hq' : wpPlan P l Q S q a' w') => wpAnyH_plan hsel hQ q (listed.setIfInBounds k true) a' w' hq hs hq'
    rw [← hlen] at hrec
    obtain ⟨o, h0, hw, hh⟩ := h.2
    have h0' : l.toArray[k]? = some o := by simpa using h0
    unfold wpOp
    simp only [h0', hw, if_true]
    exact .inl (Oper.wp_mono (fun a' w' h' => ⟨h'.1, hrec a' w' h'.1 h'.2⟩) hh)
def lexPlanB (md : Region.Mode) (ops : Array Oper) (p : Plan) : Bool :=
 Region.noSelect ops && decide (p.len = ops.size) && planB md ops p (Array.replicate ops.size false)
end
end Qw
open Qw
theorem wp_region_plan {P : Program} {id : Nat} {Q : Exit → Act → World → Prop} {a : Act} {w : World} {l : List Oper} (I : World → Prop) (p : Plan) (hm : P.follows .mixedOrders = true) (hB : lexPlanB .any l.toArray p = true)
 (hI : I w.drew) (h : wpPlan P l (NoPanic Q) (InK I) p a w.drew) : (Code.region id l.toArray true).wp P Q a w := by
 simp only [lexPlanB, Bool.and_eq_true, decide_eq_true_eq] at hB
 obtain ⟨⟨hsel, hn⟩, hlex⟩ := hB
 have hS : InK I w.drew := ⟨⟨_, hI⟩, rfl⟩
 refine wp_region_noPanic (wp_region_held_drew (S := InK I) hm hS (fun _ => ?_))
 have := wpAnyH_plan (md := .any) (Q := NoPanic Q) hsel (fun _ _ _ _ _ h => (h : False).elim) p _ a w.drew hlex hS h
 rw [hn] at this
 exact this
theorem plan_take {P : Program} {l : List Oper} {I : World → Prop} {Q : Exit → Act → World → Prop} {i : Nat} {p : Plan} {a : Act} {w : World} (o : Oper) (ho : l[i]? = some o) (v : Value) (hw : Region.wanted o (yielded l.toArray a.tmps) = true) (hr : ∀ w, InK I w → (execOp a.eval o).run P w = .ok (.value v) w)
 (h : wpPlan P l Q (InK I) p (a.put o.dst v) w) : wpPlan P l Q (InK I) (.take i p) a w := ⟨o, ho, v, Or.inl ⟨hw, hr⟩, h⟩
theorem plan_do {P : Program} {l : List Oper} {Q : Exit → Act → World → Prop} {I : World → Prop} {i : Nat} {p : Plan} {a : Act} {w : World} (o : Oper) (ho : l[i]? = some o) (hw : Region.wanted o (yielded l.toArray a.tmps) = true)
 (h : ∀ K' : Act → World → Prop, Shut (∀ a w, I w → wpPlan P l Q (InK I) p a w → K' a w) → Oper.wp P o a w K' Q) : wpPlan P l Q (InK I) (.go i p) a w :=
 ⟨o, ho, hw, h _ (fun _ _ hI hs => ⟨⟨⟨_, hI⟩, rfl⟩, hs⟩)⟩
theorem pD {P : Program} {l : List Oper} {Q : Exit → Act → World → Prop} {I : World → Prop} {i : Nat} {p : Plan} {a : Act} {w : World} {o : Oper}
 (h : ∀ K' : Act → World → Prop, Shut (∀ a w, I w → wpPlan P l Q (InK I) p a w → K' a w) → Oper.wp P o a w K' Q) (ho : l[i]? = some o := by rfl) (hw : Region.wanted o (yielded l.toArray a.tmps) = true := by rfl) : wpPlan P l Q (InK I) (.go i p) a w := plan_do o ho hw h
theorem plan_two {P : Program} {l : List Oper} {Q : Exit → Act → World → Prop} {I : World → Prop} {i j : Nat} {p q : Plan} {a : Act} {w : World} (h1 : wpPlan P l Q (InK I) (.go i p) a w) (h2 : wpPlan P l Q (InK I) (.go j q) a w) : wpPlan P l Q (InK I) (.two i j p q) a w := ⟨h1, h2⟩
theorem plan_nil {P : Program} {l : List Oper} {Q : Exit → Act → World → Prop} {S : World → Prop} {a : Act} {w : World} (h : Q .normal a w) : wpPlan P l (NoPanic Q) S .nil a w := h
end Go.Proofs.YtcibkdbpicledaaGreatDoor
namespace Go.Proofs.YtcibkdbpicledaaGreatDoor
open Go.RowKit Go.BigFrame Go.Maps Go.WideMaps Lf
theorem two_class (A B : World → Prop) : ∃ I : World → Prop, (∀ w', I w' → A w' ∧ B w') ∧ (∀ w', A w' → B w' → I w') := ⟨fun w' => A w' ∧ B w', fun _ h => h, fun _ a b => ⟨a, b⟩⟩
def Lf.treeAtM (S : St) (root k : Nat) : Option (List UInt8 × List UInt8) :=
 match walkAtM S root k with
 | none => none
 | some (h, e) => if e ≠ 0 ∨ 18446744073709551616 ≤ h then none else
  match textM S (getNode S h).1.key, textM S (getNode S h).1.val with
  | some a, some b => some (a, b)
  | _, _ => none
theorem treeAtM_some {S : St} {root k : Nat} {p : List UInt8 × List UInt8} (h : treeAtM S root k = some p) : ∃ hh, hh < 18446744073709551616 ∧ walkAtM S root k = some (hh, 0) ∧ textM S (getNode S hh).1.key = some p.1 ∧ textM S (getNode S hh).1.val = some p.2 := by
 unfold treeAtM at h
 split at h
 · cases h
 rename_i hh e h1
 split at h
 · cases h
 rename_i hc
 simp only [not_or, Decidable.not_not, Nat.not_le] at hc
 split at h
 · rename_i a b h2 h3
   have h := Option.some.inj h
   subst h
   exact ⟨hh, hc.2, by rw [h1, hc.1], h2, h3⟩
 · cases h
def prV (p : List UInt8 × List UInt8) : Value := .agg #[SV p.1, SV p.2]
theorem textM_some {S : St} {hh : Nat} {t : List UInt8} (h : textM S hh = some t) : (getBlob S hh).2 ≠ 8 ∧ (getBlob S hh).1 = t := by
 unfold textM at h
 split at h
 · cases h
 · rename_i h8
   exact ⟨h8, Option.some.inj h⟩
theorem tree_gone0 (px k v : Nat) (w : World) :
 Calls Tryz.prog 83 #[PV px, itV k v, .bool false] w fun e w' => e = .returned (.string ⟨#[]⟩) ∧ Below w.heap.size w w' := by
 simp only [itV]
 go_enter Tryz.func83, Tryz.ntmps83
 go_wp2_with fail
 go_ret
 exact ⟨rfl, (Below.refl _ w).alloc (Nat.le_refl _) _⟩
def Lf.itemsM (S : St) (a b : List UInt8) : Option ((Nat × Nat) × St) :=
 if (putBlob S a).1.2 ≠ 0 ∨ (putBlob (putBlob S a).2 b).1.2 ≠ 0 then none
 else some (((putBlob S a).1.1, (putBlob (putBlob S a).2 b).1.1), (putBlob (putBlob S a).2 b).2)
def ItemsOk (S : St) (a b : List UInt8) : Prop := a.length ≤ 1000 ∧ b.length ≤ 1000 ∧ MkOk S (many a.length) ∧ MkOk (putBlob S a).2 (many b.length)
theorem putBlob_inv {S : St} {a : List UInt8} (hm : MkOk S (many a.length)) (hi : Inv S) : Inv (putBlob S a).2 := by
 have h2 := hm.2
 unfold putBlob
 split
 · exact hi
 · split
   · rename_i e
     rw [e] at h2
     exact (putWords_inv _ _ _ 0 h2).1
   · rename_i e
     rw [e] at h2
     exact h2
theorem putBlob_lt {S : St} (hw : TabWF S.t) (a : List UInt8) : (putBlob S a).1.1 < 18446744073709551616 := by
 have := make_lt hw (many a.length)
 unfold putBlob
 split
 · simp
 · split
   · rename_i e
     rw [e] at this
     exact this
   · simp
theorem itemsM_some {S S' : St} {a b : List UInt8} {p : Nat × Nat} (h : itemsM S a b = some (p, S')) : (putBlob S a).1 = (p.1, 0) ∧ (putBlob (putBlob S a).2 b).1 = (p.2, 0) ∧ S' = (putBlob (putBlob S a).2 b).2 := by
 unfold itemsM at h
 split at h
 · cases h
 · rename_i hc
   simp only [not_or, Decidable.not_not] at hc
   have h := Option.some.inj h
   injection h with e1 e2
   subst e1 e2
   exact ⟨Prod.ext rfl hc.1, Prod.ext rfl hc.2, rfl⟩
def Lf.treePutM (jn : Jn) (S : St) (root : Nat) (a b : List UInt8) : Option (Nat × St) :=
 match itemsM S a b with
 | none => none
 | some (p, S1) => binInsM jn S1 root p.1 p.2
def PutOk (S : St) (a b : List UInt8) : Prop := ItemsOk S a b ∧ ∀ p S1, itemsM S a b = some (p, S1) → MkOk S1 6
theorem tree_open {w : World} {ps : Nat} {S : St} {Y : Nat → Prop} (h : StOn w ps S Y) (hi : Inv S) {kind : Nat} {j c : FuncId} {jn : Jn} (hk : KindOk kind j c jn) (t : Int) :
 Calls Tryz.prog 84 #[PV ps, .int .i64 kind, .int .i64 t, .int .u64 0] w fun e w' => ∃ px, e = .returned (.tuple #[PV px, .int .i64 0]) ∧ TreeOn w' px ps kind 0 ∧ Below w.heap.size w w' ∧ w.heap.size ≤ px := by
 have hc := bulk_check0 h hi hk t
 have hq : ((kind : Int) == 3) = false := by have := hk.is; simp; omega
 have HG := Lib.hid hc
 clear hc h hi hk
 go_enter Tryz.func84, Tryz.ntmps84
 go_wp2_with fail
 refine HG.out.mono ?_
 rintro e w1 ⟨rfl, hb1⟩
 have q := heap_alloc_new w1 (.cells #[PV ps, .int .i64 kind, .int .i64 0, .iface 185 (binV ps kind), .int .u64 0] 134)
 have B := hb1.alloc hb1.size (.cells #[PV ps, .int .i64 kind, .int .i64 0, .iface 185 (binV ps kind), .int .u64 0] 134)
 simp only [binV] at q B
 have HB := kq3 q B hb1.size
 clear q B hb1
 go_wp2_with fail
 go_ret2
 exact ⟨w1.heap.size, rfl, HB.out.1, HB.out.2.1, HB.out.2.2⟩
theorem tree_new {w : World} {ps : Nat} {S : St} {Y : Nat → Prop} (h : StOn w ps S Y) (hi : Inv S) {kind : Nat} {j c : FuncId} {jn : Jn} (hk : KindOk kind j c jn) (t : Int) :
 Calls Tryz.prog 59 #[PV ps, .int .i64 kind, .int .i64 t] w fun e w' => ∃ px, e = .returned (.tuple #[PV px, .int .i64 0]) ∧ TreeOn w' px ps kind 0 ∧ Below w.heap.size w w' ∧ w.heap.size ≤ px := by
 have HG := Lib.hid (tree_open h hi hk t)
 clear h hi hk
 go_enter Tryz.func59, Tryz.ntmps59
 go_wp2_with fail
 refine HG.out.mono ?_
 rintro e w1 ⟨px, rfl, hr⟩
 have HB := Lib.hid hr
 clear hr
 go_wp2_with fail
 go_ret2
 exact ⟨px, rfl, HB.out⟩
def MapOn (w : World) (pm px ps limit : Nat) : Prop := w.heap[pm]? = some (.cells #[PV ps, PV px, .int .i64 limit] 92)
theorem MapOn.below {w w' : World} {pm px ps limit : Nat} (h : MapOn w pm px ps limit) (hb : Below w.heap.size w w') : MapOn w' pm px ps limit := (hb.block pm (gl h)).trans h
theorem map_none {w : World} {pm px ps limit : Nat} (hM : MapOn w pm px ps limit) :
 Calls Tryz.prog 48 #[PV pm] w fun e w' => e = .returned (.bool false) ∧ w = w' := by
 unfold MapOn at hM
 obtain ⟨c0, c1, c2⟩ := cells3 hM
 clear hM
 go_enter Tryz.func48, Tryz.ntmps48
 go_wp2_with fail
 go_ret
 exact ⟨rfl, rfl⟩
theorem map_asked {w : World} {pm px ps limit : Nat} (hM : MapOn w pm px ps limit) (a b : List UInt8) (ha : a.length ≤ limit) (hb : b.length ≤ limit) :
 Calls Tryz.prog 57 #[PV pm, SV a, SV b] w fun e w' => e = .returned (.int .i64 0) ∧ w = w' := by
 have HG := Lib.hid (map_none hM)
 unfold MapOn at hM
 obtain ⟨c0, c1, c2⟩ := cells3 hM
 have ha1 : ((limit : Int) < (a.length : Int)) = False := eq_false (by omega)
 have hb1 : ((limit : Int) < (b.length : Int)) = False := eq_false (by omega)
 clear hM ha hb
 go_enter Tryz.func57, Tryz.ntmps57
 go_wp2_with fail
 refine HG.out.mono ?_
 rintro e w1 ⟨rfl, rfl⟩
 go_wp2_with fail
 go_ret
 exact ⟨rfl, rfl⟩
theorem walk_find {w : World} {ps : Nat} {S : St} {Y : Nat → Prop} (h : StOn w ps S Y) (hi : Inv S) (root : Nat) (hl : root < 18446744073709551616) (k : List UInt8) {R : Nat × Nat} (hR : downM S k (limit S) root 0 = some R) :
 Calls Tryz.prog 294 #[PV ps, .int .u64 root, SV k] w fun e w' => e = .returned (.tuple #[.int .u64 R.1, .bool (decide (R.1 ≠ 0))]) ∧ Below w.heap.size w w' := by
 have HG := Lib.hid (walk_down h hi root hl k hR)
 obtain ⟨a, b⟩ := R
 simp only at HG ⊢
 clear hR h hi
 go_enter Tryz.func294, Tryz.ntmps294
 go_wp2_with fail
 refine HG.out.mono ?_
 rintro e w1 ⟨rfl, hb⟩
 have HB := Lib.hid hb
 clear hb
 go_wp2_with fail
 go_ret2
 refine ⟨?_, HB.out⟩
 have : ((a : Int) != 0) = decide (a ≠ 0) := by by_cases e : a = 0 <;> simp [e] <;> omega
 rw [← this]
 rfl
theorem bin_find {w : World} {ps : Nat} {S : St} {Y : Nat → Prop} (h : StOn w ps S Y) (hi : Inv S) (kind root : Nat) (hl : root < 18446744073709551616) (k : List UInt8) {R : Nat × Nat} (hR : downM S k (limit S) root 0 = some R) (hR1 : R.1 < 18446744073709551616) :
 Calls Tryz.prog 287 #[binV ps kind, .int .u64 root, SV k] w fun e w' => e = .returned (.tuple #[itV (getNode S R.1).1.key (getNode S R.1).1.val, .bool (decide (R.1 ≠ 0))]) ∧ Below w.heap.size w w' := by
 have B1 := (Below.refl w.heap.size w).alloc (Nat.le_refl _) (.cells #[PV ps, .int .i64 kind] 185)
 have q1 := heap_alloc_new w (.cells #[PV ps, .int .i64 kind] 185)
 have B0 := B1.alloc B1.size (.cells #[.int .u64 0, .int .u64 0] 137)
 have z1 := heap_alloc_new (w.alloc (.cells #[PV ps, .int .i64 kind] 185)) (.cells #[.int .u64 0, .int .u64 0] 137)
 have q1 := (((Below.refl (w.alloc (.cells #[PV ps, .int .i64 kind] 185)).heap.size (w.alloc (.cells #[PV ps, .int .i64 kind] 185))).alloc (Nat.le_refl _) (.cells #[.int .u64 0, .int .u64 0] 137)).block w.heap.size (by simp)).trans q1
 simp only [World.size_alloc] at z1
 have ha := walk_find (h.below B0) hi root hl k hR
 have hit := fun W (hW : Below w.heap.size w W) => bin_item (h.below hW) hi kind R.1 hR1
 simp only [itV, binV] at hit ⊢
 generalize (getNode S R.1).1.key = k0 at *
 generalize (getNode S R.1).1.val = k1 at *
 generalize decide (R.1 ≠ 0) = z at *
 have HG := kq5 ha hit B0 z1 q1
 clear ha hit B0 B1 h hi z1 q1
 go_enter Tryz.func287, Tryz.ntmps287
 go_wp2_with fail
 refine HG.out.1.mono ?_
 rintro e w1 ⟨rfl, hb1⟩
 have z1 := (hb1.block (w.heap.size + 1) (by simp)).trans HG.out.2.2.2.1
 have q1 := (hb1.block w.heap.size (by simp; omega)).trans HG.out.2.2.2.2
 obtain ⟨c0, c1⟩ := cells2 q1
 have H1 := kq2 (HG.out.2.2.1.trans (hb1.mono HG.out.2.2.1.size)) z1
 clear hb1 z1 q1
 go_wp2_with fail
 refine (HG.out.2.1 _ H1.out.1).mono ?_
 rintro e w2 ⟨rfl, hb2⟩
 have z2 := (hb2.block (w.heap.size + 1) (gl H1.out.2)).trans H1.out.2
 obtain ⟨d0, d1⟩ := cells2 z2
 obtain ⟨f0, f1⟩ := frees2 z2
 have HW := kq2 (H1.out.1.trans (hb2.mono H1.out.1.size)) z2
 clear hb2 z2 c0 c1
 go_wp2_with fail
 have q3 := st2_heap HW.out.2 (.int .u64 k0) (.int .u64 k1)
 have B3 := st2_below HW.out.1 (Nat.le_succ w.heap.size) (.int .u64 k0) (.int .u64 k1)
 generalize ((w2.setCell ⟨(w.heap.size + 1), 0, none⟩ (.int .u64 k0)).setCell ⟨(w.heap.size + 1), 1, none⟩ (.int .u64 k1)) = W3 at *
 obtain ⟨e0, e1⟩ := cells2 q3
 exact bodyPost_ret (v := .tuple #[.agg #[.int .u64 k0, .int .u64 k1], .bool z]) (by simp [results, Tryz.f287, go_sem, e0, e1]) rfl ⟨rfl, B3⟩
theorem bin_at_neg {w : World} {ps : Nat} {S : St} {Y : Nat → Prop} (h : StOn w ps S Y) (hi : Inv S) (kind root : Nat) (k : Int) (hk : k < 0) :
 Calls Tryz.prog 286 #[binV ps kind, .int .u64 root, .int .i64 k] w fun e w' => e = .returned (.tuple #[itV (getNode S 0).1.key (getNode S 0).1.val, .int .i64 2]) ∧ Below w.heap.size w w' := by
 have B1 := (Below.refl w.heap.size w).alloc (Nat.le_refl _) (.cells #[PV ps, .int .i64 kind] 185)
 have q1 := heap_alloc_new w (.cells #[PV ps, .int .i64 kind] 185)
 have B0 := B1.alloc B1.size (.cells #[.int .u64 0, .int .u64 0] 137)
 have z1 := heap_alloc_new (w.alloc (.cells #[PV ps, .int .i64 kind] 185)) (.cells #[.int .u64 0, .int .u64 0] 137)
 have q1 := (((Below.refl (w.alloc (.cells #[PV ps, .int .i64 kind] 185)).heap.size (w.alloc (.cells #[PV ps, .int .i64 kind] 185))).alloc (Nat.le_refl _) (.cells #[.int .u64 0, .int .u64 0] 137)).block w.heap.size (by simp)).trans q1
 simp only [World.size_alloc] at z1
 have ha := walk_at_neg (h.below B0) hi root k hk
 have hit := fun W (hW : Below w.heap.size w W) => bin_item (h.below hW) hi kind 0 (by decide)
 simp only [itV, binV] at hit ⊢
 generalize (getNode S 0).1.key = k0 at *
 generalize (getNode S 0).1.val = k1 at *
 have HG := kq5 ha hit B0 z1 q1
 clear ha hit B0 B1 h hi z1 q1
 go_enter Tryz.func286, Tryz.ntmps286
 go_wp2_with fail
 refine HG.out.1.mono ?_
 rintro e w1 ⟨rfl, rfl⟩
 have hb1 := Below.refl ((w.alloc (.cells #[PV ps, .int .i64 kind] 185)).alloc (.cells #[.int .u64 0, .int .u64 0] 137)).heap.size ((w.alloc (.cells #[PV ps, .int .i64 kind] 185)).alloc (.cells #[.int .u64 0, .int .u64 0] 137))
 generalize hw1 : (w.alloc (.cells #[PV ps, .int .i64 kind] 185)).alloc (.cells #[.int .u64 0, .int .u64 0] 137) = w1 at *
 have z1 := (hb1.block (w.heap.size + 1) (by rw [← hw1]; simp)).trans HG.out.2.2.2.1
 have q1 := (hb1.block w.heap.size (by rw [← hw1]; simp; omega)).trans HG.out.2.2.2.2
 obtain ⟨c0, c1⟩ := cells2 q1
 have H1 := kq2 (HG.out.2.2.1.trans (hb1.mono HG.out.2.2.1.size)) z1
 clear hb1 z1 q1 hw1
 go_wp2_with fail
 refine (HG.out.2.1 _ H1.out.1).mono ?_
 rintro e w2 ⟨rfl, hb2⟩
 have z2 := (hb2.block (w.heap.size + 1) (gl H1.out.2)).trans H1.out.2
 obtain ⟨d0, d1⟩ := cells2 z2
 obtain ⟨f0, f1⟩ := frees2 z2
 have HW := kq2 (H1.out.1.trans (hb2.mono H1.out.1.size)) z2
 clear hb2 z2 c0 c1
 go_wp2_with fail
 have q3 := st2_heap HW.out.2 (.int .u64 k0) (.int .u64 k1)
 have B3 := st2_below HW.out.1 (Nat.le_succ w.heap.size) (.int .u64 k0) (.int .u64 k1)
 generalize ((w2.setCell ⟨(w.heap.size + 1), 0, none⟩ (.int .u64 k0)).setCell ⟨(w.heap.size + 1), 1, none⟩ (.int .u64 k1)) = W3 at *
 obtain ⟨e0, e1⟩ := cells2 q3
 exact bodyPost_ret (v := .tuple #[.agg #[.int .u64 k0, .int .u64 k1], .int .i64 2]) (by simp [results, Tryz.f286, go_sem, e0, e1]) rfl ⟨rfl, B3⟩
theorem meth_find (f : Nat) (v : Value) (w : World) : (method (f + 1) 185 v "loft/backend.find").run Tryz.prog w = .ok (287, v) w := by kernel_rfl
