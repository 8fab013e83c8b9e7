/- Backends of binary trees: insert: the walk. Trees of any kind: none, Len, Rank, At: the walks. -/
import Derived.Test.YtoaabbnieakidaaGreatDoorRGaw
namespace Go.Proofs.YtoaabbnieakidaaGreatDoorR
open Go.RowKit Go.BigFrame Go.Maps Go.WideMaps Lf

/-- a block that is to be kept may be written by its owner (it is told from the store's own by its type) -/
theorem StOn.write {w w' : World} {ps : Nat} {S : St} {Y : Nat → Prop} {b : Nat} {cs : Array Value} {t : TypeId} {fr : Nat × Nat} (h : StOn w ps S Y) (hy : Y b) (hb : w.heap[b]? = some (.cells cs t fr)) (ht : t ≠ 121 ∧ t ≠ 206) (hz : cs.size < 64)
    (hs : w.heap.size ≤ w'.heap.size) (hw : ∀ k, k < w.heap.size → k ≠ b → w'.heap[k]? = w.heap[k]?) : StOn w' ps S Y := by
  obtain ⟨pa, pm, ph, pt, v, h⟩ := h
  refine ⟨pa, pm, ph, pt, v, h.of_keep hs fun k hk hc => hw k hk ?_⟩
  rintro rfl
  rcases hc with hc | rfl | rfl | rfl
  · exact hc hy
  · have := h.hd
    rw [hb] at this
    injection this with this
    injection this with _ this
    exact ht.1 this
  · have := h.heap.hp
    rw [hb] at this
    injection this with this
    injection this with _ this
    exact ht.2 this
  · have := h.heap.tab 63 (by decide)
    rw [cell_of_block hb, Array.getElem?_eq_none (by omega)] at this
    cases this

/-- insert of a key that was not there, where all is well -/
def Lf.binInsM (jn : Jn) (S : St) (root k v : Nat) : Option (Nat × St) :=
  if (makeNode S ⟨k, v, 0, 0, 0, 1⟩).1.2 ≠ 0 then none
  else match insertOkM jn (makeNode S ⟨k, v, 0, 0, 0, 1⟩).2 root (makeNode S ⟨k, v, 0, 0, 0, 1⟩).1.1 with
    | none => none
    | some ((now, old), S1) => if old = 0 then some (now, S1) else none
theorem binInsM_some {jn : Jn} {S S' : St} {root k v x : Nat} (h : binInsM jn S root k v = some (x, S')) :
    (makeNode S ⟨k, v, 0, 0, 0, 1⟩).1.2 = 0 ∧ insertOkM jn (makeNode S ⟨k, v, 0, 0, 0, 1⟩).2 root (makeNode S ⟨k, v, 0, 0, 0, 1⟩).1.1 = some ((x, 0), S') := by
  unfold binInsM at h
  split at h
  · cases h
  · rename_i h0
    split at h
    · cases h
    · rename_i now old S1 h1
      split at h
      · rename_i h2
        have h := Option.some.inj h
        injection h with e1 e2
        subst e1 e2 h2
        exact ⟨Decidable.not_not.1 h0, h1⟩
      · cases h

theorem makeNode_fst (S : St) (n : Nd) : (makeNode S n).1.1 = (S.make 6).1.1 ∨ (makeNode S n).1.1 = 0 := by
  unfold makeNode
  split
  · rename_i h s1 e; left; rw [e]
  · right; rfl
theorem makeNode_lt {S : St} (hw : TabWF S.t) (n : Nd) : (makeNode S n).1.1 < 18446744073709551616 := by
  rcases makeNode_fst S n with e | e
  · rw [e]; exact make_lt hw 6
  · rw [e]; decide
theorem makeNode_inv {S : St} (hm : MkOk S 6) (n : Nd) : Inv (makeNode S n).2 := by
  have h2 := hm.2
  unfold makeNode
  split
  · rename_i h s1 e
    rw [e] at h2
    exact putNode_inv h2 _ _
  · rename_i e0 h er s1 e
    rw [e] at h2
    exact h2

set_option maxRecDepth 100000 in
set_option maxHeartbeats 3200000 in
theorem bin_insert {w : World} {ps : Nat} {S S' : St} {Y : Nat → Prop} (h : StOn w ps S Y) (hm : MkOk S 6) {kind : Nat} {j c : FuncId} {jn : Jn} (hk : KindOk kind j c jn) (root k v : Nat) (hl : root < 18446744073709551616) (hkl : k < 18446744073709551616) (hvl : v < 18446744073709551616) {x : Nat} (hx : binInsM jn S root k v = some (x, S')) :
    Calls Tryz.prog 358 #[binV ps kind, .int .u64 root, itV k v] w fun e w' => e = .returned (.tuple #[.int .u64 x, itV 0 0, .bool false, .int .i64 0]) ∧ StOn w' ps S' Y ∧ Keep Y w w' ∧ Inv S' ∧ x < 18446744073709551616 := by
  obtain ⟨h0, h1⟩ := binInsM_some hx
  have hi1 := makeNode_inv hm ⟨k, v, 0, 0, 0, 1⟩
  have hml := makeNode_lt h.tabwf ⟨k, v, 0, 0, 0, 1⟩
  have hmk := fun W Z (hW : StOn W ps S Z) => node_make hW hm ⟨k, v, 0, 0, 0, 1⟩ ⟨hkl, hvl, by simp, by simp, by simp, by simp⟩
  generalize makeNode S ⟨k, v, 0, 0, 0, 1⟩ = M at *
  obtain ⟨⟨m, em⟩, S1⟩ := M
  simp only at h0 h1 hi1 hml hmk
  subst h0
  have hin := fun W Z (hW : StOn W ps S1 Z) => parts_insert hW hi1 hk.joins hk.way root m hl hml h1
  have hwo := fun W Z (hi2 : Inv S') (hW : StOn W ps S' Z) => bin_without0 hW hi2 kind
  simp only [binV, itV, ndV] at hmk hwo ⊢
  have B1 := (Below.refl w.heap.size w).alloc (Nat.le_refl _) (.cells #[PV ps, .int .i64 kind] 247)
  have q1 := heap_alloc_new w (.cells #[PV ps, .int .i64 kind] 247)
  generalize hw1 : w.alloc (.cells #[PV ps, .int .i64 kind] 247) = w1 at *
  have z1 : w1.heap.size = w.heap.size + 1 := by rw [← hw1]; simp
  have A2 := (Below.refl w1.heap.size w1).alloc (Nat.le_refl _) (.cells #[.int .u64 k, .int .u64 v] 126)
  have B2 := B1.alloc B1.size (.cells #[.int .u64 k, .int .u64 v] 126)
  have q2 := (A2.block w.heap.size (by omega)).trans q1
  have z2 : (w1.alloc (.cells #[.int .u64 k, .int .u64 v] 126)).heap.size = w.heap.size + 2 := by simp [z1]
  generalize hw2 : w1.alloc (.cells #[.int .u64 k, .int .u64 v] 126) = w2 at *
  have A3 := (Below.refl w2.heap.size w2).alloc (Nat.le_refl _) (.cells #[.int .u64 0, .int .u64 0] 126)
  have q3 := (A3.block w.heap.size (by omega)).trans q2
  have B3 := B2.alloc B2.size (.cells #[.int .u64 0, .int .u64 0] 126)
  have y3 := heap_alloc_new w2 (.cells #[.int .u64 0, .int .u64 0] 126)
  rw [z2] at y3
  have z3 : (w2.alloc (.cells #[.int .u64 0, .int .u64 0] 126)).heap.size = w.heap.size + 3 := by simp [z2]
  subst hw2 hw1
  have hY := h.yl
  have HG := Lib.hid (And.intro hmk (And.intro hin (And.intro hwo (And.intro (h.wide B3) (And.intro q3 (And.intro y3 (And.intro z3 (And.intro B3 hY))))))))
  clear hmk hin hwo h q1 q2 q3 y3 A2 A3 B1 B2 B3 z1 z2 z3 hi1 h1 hm hk hY hx
  go_enter Tryz.func358, Tryz.ntmps358
  go_wp2_with fail
  refine (HG.out.1 _ _ HG.out.2.2.2.1).mono ?_
  rintro e w4 ⟨rfl, h4, k4⟩
  have q4 := (k4.block w.heap.size (Or.inr ⟨Nat.le_refl _, by have := HG.out.2.2.2.2.2.2.1; omega⟩)).trans HG.out.2.2.2.2.1
  have y4 := (k4.block (w.heap.size + 2) (Or.inr ⟨by omega, by have := HG.out.2.2.2.2.2.2.1; omega⟩)).trans HG.out.2.2.2.2.2.1
  have c0 : (w4).cell? ⟨w.heap.size, 0, none⟩ = some (PV ps) := by rw [cell_of_block q4]; rfl
  have c1 : (w4).cell? ⟨w.heap.size, 1, none⟩ = some (.int .i64 kind) := by rw [cell_of_block q4]; rfl
  have H4 := Lib.hid (And.intro h4 (And.intro k4 (And.intro q4 y4)))
  clear h4 k4 q4 y4
  go_wp2_with fail
  obtain ⟨hp, hi5, hxl, -⟩ := HG.out.2.1 _ _ H4.out.1
  refine hp.mono ?_
  rintro e w5 ⟨rfl, h5, k5⟩
  have q5 := (k5.block w.heap.size (Or.inr ⟨Nat.le_refl _, by have := HG.out.2.2.2.2.2.2.1; omega⟩)).trans H4.out.2.2.1
  have y5 := (k5.block (w.heap.size + 2) (Or.inr ⟨by omega, by have := HG.out.2.2.2.2.2.2.1; omega⟩)).trans H4.out.2.2.2
  have d0 : (w5).cell? ⟨w.heap.size, 0, none⟩ = some (PV ps) := by rw [cell_of_block q5]; rfl
  have d1 : (w5).cell? ⟨w.heap.size, 1, none⟩ = some (.int .i64 kind) := by rw [cell_of_block q5]; rfl
  have H5 := Lib.hid (And.intro h5 (And.intro (H4.out.2.1.trans k5) (And.intro hi5 (And.intro hxl y5))))
  clear h5 k5 q5 y5 hp hi5 hxl c0 c1
  go_wp2_with fail
  refine (HG.out.2.2.1 _ _ H5.out.2.2.1 H5.out.1).mono ?_
  rintro e w6 ⟨rfl, hb6⟩
  have y6 := (hb6.block (w.heap.size + 2) (Array.getElem?_eq_some_iff.1 H5.out.2.2.2.2).1).trans H5.out.2.2.2.2
  have e0 : (w6).cell? ⟨(w.heap.size + 2), 0, none⟩ = some (.int .u64 0) := by rw [cell_of_block y6]; rfl
  have e1 : (w6).cell? ⟨(w.heap.size + 2), 1, none⟩ = some (.int .u64 0) := by rw [cell_of_block y6]; rfl
  have f0 : (w6).frozen? ⟨(w.heap.size + 2), 0, none⟩ = false := frozen_of_block y6
  have f1 : (w6).frozen? ⟨(w.heap.size + 2), 1, none⟩ = false := frozen_of_block y6
  have q7 : ((w6.setCell ⟨(w.heap.size + 2), 0, none⟩ (.int .u64 0)).setCell ⟨(w.heap.size + 2), 1, none⟩ (.int .u64 0)).heap[w.heap.size + 2]? = _ := st2_heap y6 (.int .u64 0) (.int .u64 0)
  have o7 : ∀ k, k ≠ w.heap.size + 2 → ((w6.setCell ⟨(w.heap.size + 2), 0, none⟩ (.int .u64 0)).setCell ⟨(w.heap.size + 2), 1, none⟩ (.int .u64 0)).heap[k]? = w6.heap[k]? := fun k hk => st2_other hk _ _
  have z7 : ((w6.setCell ⟨(w.heap.size + 2), 0, none⟩ (.int .u64 0)).setCell ⟨(w.heap.size + 2), 1, none⟩ (.int .u64 0)).heap.size = w6.heap.size := by simp
  have s7 : ((w6.setCell ⟨(w.heap.size + 2), 0, none⟩ (.int .u64 0)).setCell ⟨(w.heap.size + 2), 1, none⟩ (.int .u64 0)).os = w6.os ∧ ((w6.setCell ⟨(w.heap.size + 2), 0, none⟩ (.int .u64 0)).setCell ⟨(w.heap.size + 2), 1, none⟩ (.int .u64 0)).tape = w6.tape ∧ ((w6.setCell ⟨(w.heap.size + 2), 0, none⟩ (.int .u64 0)).setCell ⟨(w.heap.size + 2), 1, none⟩ (.int .u64 0)).output = w6.output := ⟨rfl, rfl, rfl⟩
  have hY2 : ∀ k, Y k → k < w.heap.size := HG.out.2.2.2.2.2.2.2.2
  have h6 := H5.out.1.below hb6
  have k6 := H5.out.2.1.trans (H5.out.1.keep hb6)
  have H6 := Lib.hid (And.intro h6 (And.intro k6 (And.intro H5.out.2.2.1 (And.intro H5.out.2.2.2.1 (And.intro y6 (And.intro q7 (And.intro o7 (And.intro z7 s7))))))))
  clear hb6 y6 d0 d1 h6 k6 o7 z7 s7 q7
  go_wp2_with fail
  generalize ((w6.setCell ⟨(w.heap.size + 2), 0, none⟩ (.int .u64 0)).setCell ⟨(w.heap.size + 2), 1, none⟩ (.int .u64 0)) = w7 at *
  have q7 := H6.out.2.2.2.2.2.1
  obtain ⟨I, hIi, hIo⟩ : ∃ I : World → Prop, (∀ w', I w' → w'.heap[w.heap.size + 2]? = some (.cells #[.int .u64 0, .int .u64 0] 126)) ∧ (∀ w', w'.heap[w.heap.size + 2]? = some (.cells #[.int .u64 0, .int .u64 0] 126) → I w') := ⟨fun w' => w'.heap[w.heap.size + 2]? = some (.cells #[.int .u64 0, .int .u64 0] 126), fun _ h => h, fun _ a => a⟩
  have hy0 := fun x : Keeps I => hIi _ x.ok
  have m0 : ∀ x : Keeps I, x.to.cell? ⟨(w.heap.size + 2), 0, none⟩ = some (.int .u64 0) := fun x => by rw [cell_of_block (hy0 x)]; rfl
  have m1 : ∀ x : Keeps I, x.to.cell? ⟨(w.heap.size + 2), 1, none⟩ = some (.int .u64 0) := fun x => by rw [cell_of_block (hy0 x)]; rfl
  have g0 : (w7).cell? ⟨(w.heap.size + 2), 0, none⟩ = some (.int .u64 0) := by rw [cell_of_block q7]; rfl
  have g1 : (w7).cell? ⟨(w.heap.size + 2), 1, none⟩ = some (.int .u64 0) := by rw [cell_of_block q7]; rfl
  have h0 : (w7).frozen? ⟨(w.heap.size + 2), 0, none⟩ = false := frozen_of_block q7
  have h1 : (w7).frozen? ⟨(w.heap.size + 2), 1, none⟩ = false := frozen_of_block q7
  have HI := Lib.hid hIo
  have hI0 : I w7.drew := hIo _ q7
  have HQ := Lib.hid q7
  clear e0 e1 f0 f1 q7 hIi hIo hy0
  refine wp_region_mix I [(true, 0), (true, 1), (true, 2), (true, 3), (false, 4), (false, 5), (false, 6), (false, 7)] (by kernel_rfl) (by kernel_rfl) hI0 ?_
  refine' mix_take _ (by rfl) _ (by rfl) ?_ ?_
  rotate_left
  · rintro _ ⟨x, rfl⟩
    have hxm0 := m0 x
    have hxm1 := m1 x
    go_simp
    try with_reducible rfl
  try simp only [Act.put, List.setIfInBounds_toArray, List.set_cons_zero, List.set_cons_succ]
  refine' mix_take _ (by rfl) _ (by rfl) ?_ ?_
  rotate_left
  · rintro _ ⟨x, rfl⟩
    have hxm0 := m0 x
    have hxm1 := m1 x
    go_simp
    try with_reducible rfl
  try simp only [Act.put, List.setIfInBounds_toArray, List.set_cons_zero, List.set_cons_succ]
  refine' mix_take _ (by rfl) _ (by rfl) ?_ ?_
  rotate_left
  · rintro _ ⟨x, rfl⟩
    have hxm0 := m0 x
    have hxm1 := m1 x
    go_simp
    try with_reducible rfl
  try simp only [Act.put, List.setIfInBounds_toArray, List.set_cons_zero, List.set_cons_succ]
  refine' mix_take _ (by rfl) _ (by rfl) ?_ ?_
  rotate_left
  · rintro _ ⟨x, rfl⟩
    have hxm0 := m0 x
    have hxm1 := m1 x
    go_simp
    try with_reducible rfl
  try simp only [Act.put, List.setIfInBounds_toArray, List.set_cons_zero, List.set_cons_succ]
  refine mix_do _ (by rfl) (by rfl) (fun K hK => ?_)
  go_simp
  try go_simp
  refine hK.out _ _ (HI.out _ HQ.out) ?_
  clear hK K
  try simp only [Act.put, List.setIfInBounds_toArray, List.set_cons_zero, List.set_cons_succ]
  refine mix_do _ (by rfl) (by rfl) (fun K hK => ?_)
  go_simp
  have q8 : ((w7.setCell ⟨(w.heap.size + 2), 0, none⟩ (.int .u64 0)).setCell ⟨(w.heap.size + 2), 1, none⟩ (.int .u64 0)).drew.heap[w.heap.size + 2]? = _ := st2_heap HQ.out (.int .u64 0) (.int .u64 0)
  have o8 : ∀ k, k ≠ w.heap.size + 2 → ((w7.setCell ⟨(w.heap.size + 2), 0, none⟩ (.int .u64 0)).setCell ⟨(w.heap.size + 2), 1, none⟩ (.int .u64 0)).drew.heap[k]? = w7.heap[k]? := fun k hk => st2_other hk _ _
  have z8 : ((w7.setCell ⟨(w.heap.size + 2), 0, none⟩ (.int .u64 0)).setCell ⟨(w.heap.size + 2), 1, none⟩ (.int .u64 0)).drew.heap.size = w7.heap.size := by show ((w7.setCell ⟨(w.heap.size + 2), 0, none⟩ (.int .u64 0)).setCell ⟨(w.heap.size + 2), 1, none⟩ (.int .u64 0)).heap.size = _; simp
  have s8 : ((w7.setCell ⟨(w.heap.size + 2), 0, none⟩ (.int .u64 0)).setCell ⟨(w.heap.size + 2), 1, none⟩ (.int .u64 0)).drew.os = w7.os ∧ ((w7.setCell ⟨(w.heap.size + 2), 0, none⟩ (.int .u64 0)).setCell ⟨(w.heap.size + 2), 1, none⟩ (.int .u64 0)).drew.tape = w7.tape ∧ ((w7.setCell ⟨(w.heap.size + 2), 0, none⟩ (.int .u64 0)).setCell ⟨(w.heap.size + 2), 1, none⟩ (.int .u64 0)).drew.output = w7.output := ⟨rfl, rfl, rfl⟩
  generalize ((w7.setCell ⟨(w.heap.size + 2), 0, none⟩ (.int .u64 0)).setCell ⟨(w.heap.size + 2), 1, none⟩ (.int .u64 0)).drew = w8 at *
  try go_simp
  refine hK.out _ _ (HI.out _ q8) ?_
  clear hK K
  try simp only [Act.put, List.setIfInBounds_toArray, List.set_cons_zero, List.set_cons_succ]
  refine mix_do _ (by rfl) (by rfl) (fun K hK => ?_)
  go_simp
  try go_simp
  refine hK.out _ _ (HI.out _ q8) ?_
  clear hK K
  try simp only [Act.put, List.setIfInBounds_toArray, List.set_cons_zero, List.set_cons_succ]
  refine mix_do _ (by rfl) (by rfl) (fun K hK => ?_)
  go_simp
  try go_simp
  refine hK.out _ _ (HI.out _ q8) ?_
  clear hK K
  try simp only [Act.put, List.setIfInBounds_toArray, List.set_cons_zero, List.set_cons_succ]
  refine mix_nil ?_
  have e0 : (w8).cell? ⟨(w.heap.size + 2), 0, none⟩ = some (.int .u64 0) := by rw [cell_of_block q8]; rfl
  have e1 : (w8).cell? ⟨(w.heap.size + 2), 1, none⟩ = some (.int .u64 0) := by rw [cell_of_block q8]; rfl
  have hfin : StOn w8 ps S' Y ∧ Keep Y w w8 := by
    obtain ⟨h6, k6, -, -, y6, -, o7, z7, s7⟩ := H6.out
    have hY := HG.out.2.2.2.2.2.2.2.2
    have hz := HG.out.2.2.2.2.2.2.1
    have hw : ∀ k, k ≠ w.heap.size + 2 → w8.heap[k]? = w6.heap[k]? := fun k hk => (o8 k hk).trans (o7 k hk)
    refine ⟨(h6.write (Or.inr ⟨by omega, by omega⟩) y6 ⟨by decide, by decide⟩ (by simp) (by omega) fun k _ hk => hw k hk).mono fun k hk => Or.inl hk, ?_⟩
    have hk0 := (Keep.of_below HG.out.2.2.2.2.2.2.2.1 hY).trans (k6.mono fun k hk => Or.inl hk)
    exact ⟨(s8.1.trans s7.1).trans hk0.os, (s8.2.1.trans s7.2.1).trans hk0.tape, (s8.2.2.trans s7.2.2).trans hk0.output, by have := hk0.size; omega, fun k hk => (hw k (by have := hY k hk; omega)).trans (hk0.block k hk)⟩
  have HF := Lib.hid hfin
  clear hfin q8 o8 z8 s8 g0 g1 h0 h1 m0 m1
  go_wp2_with fail
  exact bodyPost_ret (v := .tuple #[.int .u64 x, .agg #[.int .u64 0, .int .u64 0], .bool false, .int .i64 0]) (by simp [results, Tryz.f358, go_sem, e0, e1]) rfl ⟨rfl, HF.out.1, HF.out.2, H6.out.2.2.1, H6.out.2.2.2.1⟩
end Go.Proofs.YtoaabbnieakidaaGreatDoorR

namespace Go.Proofs.YtoaabbnieakidaaGreatDoorR
open Go.RowKit Go.BigFrame Go.Maps Go.WideMaps Lf

/-- a tree of nodes in memory -/
def TreeOn (w : World) (px ps kind root : Nat) : Prop := w.heap[px]? = some (.cells #[PV ps, .int .i64 kind, .int .i64 0, .iface 247 (binV ps kind), .int .u64 root] 131)
theorem TreeOn.below {w w' : World} {px ps kind root : Nat} (h : TreeOn w px ps kind root) (hb : Below w.heap.size w w') : TreeOn w' px ps kind root := (hb.block px (Array.getElem?_eq_some_iff.1 h).1).trans h
theorem TreeOn.keep {w w' : World} {px ps kind root : Nat} {Y : Nat → Prop} (h : TreeOn w px ps kind root) (hk : Keep Y w w') (hy : Y px) : TreeOn w' px ps kind root := (hk.block px hy).trans h

set_option maxRecDepth 100000 in
set_option maxHeartbeats 400000 in
theorem tree_none {w : World} {px ps kind root : Nat} (hT : TreeOn w px ps kind root) :
    Calls Tryz.prog 82 #[PV px] w fun e w' => e = .returned (.bool false) ∧ w = w' := by
  unfold TreeOn at hT
  have c0 : (w).cell? ⟨px, 0, none⟩ = some (PV ps) := by rw [cell_of_block hT]; rfl
  have c1 : (w).cell? ⟨px, 1, none⟩ = some (.int .i64 kind) := by rw [cell_of_block hT]; rfl
  have c2 : (w).cell? ⟨px, 2, none⟩ = some (.int .i64 0) := by rw [cell_of_block hT]; rfl
  have c3 : (w).cell? ⟨px, 3, none⟩ = some (.iface 247 (binV ps kind)) := by rw [cell_of_block hT]; rfl
  have c4 : (w).cell? ⟨px, 4, none⟩ = some (.int .u64 root) := by rw [cell_of_block hT]; rfl
  clear hT
  go_enter Tryz.func82, Tryz.ntmps82
  go_wp2_with fail
  go_ret
  exact ⟨rfl, rfl⟩

theorem meth_size (f : Nat) (v : Value) (w : World) : (method (f + 1) 247 v "loft/backend.size").run Tryz.prog w = .ok (361, v) w := by kernel_rfl
theorem meth_rank (f : Nat) (v : Value) (w : World) : (method (f + 1) 247 v "loft/backend.rank").run Tryz.prog w = .ok (359, v) w := by kernel_rfl
theorem meth_at (f : Nat) (v : Value) (w : World) : (method (f + 1) 247 v "loft/backend.at").run Tryz.prog w = .ok (356, v) w := by kernel_rfl
theorem meth_insert (f : Nat) (v : Value) (w : World) : (method (f + 1) 247 v "loft/backend.insert").run Tryz.prog w = .ok (358, v) w := by kernel_rfl
theorem tree_class (px ps kind root : Nat) : ∃ I : World → Prop, (∀ w', I w' → TreeOn w' px ps kind root) ∧ (∀ w', TreeOn w' px ps kind root → I w') := ⟨fun w' => TreeOn w' px ps kind root, fun _ h => h, fun _ a => a⟩

set_option maxRecDepth 100000 in
set_option maxHeartbeats 800000 in
theorem tree_len {w : World} {px ps kind root : Nat} {S : St} {Y : Nat → Prop} (h : StOn w ps S Y) (hi : Inv S) (hT : TreeOn w px ps kind root) (hl : root < 18446744073709551616) {z : Nat} (hz : sizeM S root = some z) :
    Calls Tryz.prog 125 #[PV px] w fun e w' => e = .returned (.int .i64 z) ∧ Below w.heap.size w w' := by
  have hn := tree_none hT
  have hs := bin_size (h.below ((Below.refl _ w).drew)) hi kind root hl hz
  obtain ⟨I, hIi, hIo⟩ := tree_class px ps kind root
  have hy0 := fun x : Keeps I => hIi _ x.ok
  simp only [TreeOn] at hy0
  have m0 : ∀ x : Keeps I, x.to.cell? ⟨px, 0, none⟩ = some (PV ps) := fun x => by rw [cell_of_block (hy0 x)]; rfl
  have m1 : ∀ x : Keeps I, x.to.cell? ⟨px, 1, none⟩ = some (.int .i64 kind) := fun x => by rw [cell_of_block (hy0 x)]; rfl
  have m2 : ∀ x : Keeps I, x.to.cell? ⟨px, 2, none⟩ = some (.int .i64 0) := fun x => by rw [cell_of_block (hy0 x)]; rfl
  have m3 : ∀ x : Keeps I, x.to.cell? ⟨px, 3, none⟩ = some (.iface 247 (binV ps kind)) := fun x => by rw [cell_of_block (hy0 x)]; rfl
  have m4 : ∀ x : Keeps I, x.to.cell? ⟨px, 4, none⟩ = some (.int .u64 root) := fun x => by rw [cell_of_block (hy0 x)]; rfl
  have hI0 : I w.drew := hIo _ hT
  have hme := meth_size
  have HG := Lib.hid (And.intro hn (And.intro hs (And.intro hT hIo)))
  clear hn hs h hi hT hIi hIo hy0 hz
  go_enter Tryz.func125, Tryz.ntmps125
  go_wp2_with fail
  refine HG.out.1.mono ?_
  rintro e w1 ⟨rfl, rfl⟩
  go_wp2_with fail
  refine wp_region_mix I [(true, 0), (true, 1), (true, 2), (true, 3), (true, 4), (true, 5), (true, 6), (true, 7), (true, 8), (true, 9), (false, 10), (false, 11)] (by kernel_rfl) (by kernel_rfl) hI0 ?_
  refine' mix_take _ (by rfl) _ (by rfl) ?_ ?_
  rotate_left
  · rintro _ ⟨x, rfl⟩
    have hxm0 := m0 x
    have hxm1 := m1 x
    have hxm2 := m2 x
    have hxm3 := m3 x
    have hxm4 := m4 x
    go_simp
    try with_reducible rfl
  try simp only [Act.put, List.setIfInBounds_toArray, List.set_cons_zero, List.set_cons_succ]
  refine' mix_take _ (by rfl) _ (by rfl) ?_ ?_
  rotate_left
  · rintro _ ⟨x, rfl⟩
    have hxm0 := m0 x
    have hxm1 := m1 x
    have hxm2 := m2 x
    have hxm3 := m3 x
    have hxm4 := m4 x
    go_simp
    try with_reducible rfl
  try simp only [Act.put, List.setIfInBounds_toArray, List.set_cons_zero, List.set_cons_succ]
  refine' mix_take _ (by rfl) _ (by rfl) ?_ ?_
  rotate_left
  · rintro _ ⟨x, rfl⟩
    have hxm0 := m0 x
    have hxm1 := m1 x
    have hxm2 := m2 x
    have hxm3 := m3 x
    have hxm4 := m4 x
    go_simp
    try with_reducible rfl
  try simp only [Act.put, List.setIfInBounds_toArray, List.set_cons_zero, List.set_cons_succ]
  refine' mix_take _ (by rfl) _ (by rfl) ?_ ?_
  rotate_left
  · rintro _ ⟨x, rfl⟩
    have hxm0 := m0 x
    have hxm1 := m1 x
    have hxm2 := m2 x
    have hxm3 := m3 x
    have hxm4 := m4 x
    go_simp
    try with_reducible rfl
  try simp only [Act.put, List.setIfInBounds_toArray, List.set_cons_zero, List.set_cons_succ]
  refine' mix_take _ (by rfl) _ (by rfl) ?_ ?_
  rotate_left
  · rintro _ ⟨x, rfl⟩
    have hxm0 := m0 x
    have hxm1 := m1 x
    have hxm2 := m2 x
    have hxm3 := m3 x
    have hxm4 := m4 x
    go_simp
    try with_reducible rfl
  try simp only [Act.put, List.setIfInBounds_toArray, List.set_cons_zero, List.set_cons_succ]
  refine' mix_take _ (by rfl) _ (by rfl) ?_ ?_
  rotate_left
  · rintro _ ⟨x, rfl⟩
    have hxm0 := m0 x
    have hxm1 := m1 x
    have hxm2 := m2 x
    have hxm3 := m3 x
    have hxm4 := m4 x
    go_simp
    try with_reducible rfl
  try simp only [Act.put, List.setIfInBounds_toArray, List.set_cons_zero, List.set_cons_succ]
  refine' mix_take _ (by rfl) _ (by rfl) ?_ ?_
  rotate_left
  · rintro _ ⟨x, rfl⟩
    have hxm0 := m0 x
    have hxm1 := m1 x
    have hxm2 := m2 x
    have hxm3 := m3 x
    have hxm4 := m4 x
    go_simp
    try with_reducible rfl
  try simp only [Act.put, List.setIfInBounds_toArray, List.set_cons_zero, List.set_cons_succ]
  refine' mix_take _ (by rfl) _ (by rfl) ?_ ?_
  rotate_left
  · rintro _ ⟨x, rfl⟩
    have hxm0 := m0 x
    have hxm1 := m1 x
    have hxm2 := m2 x
    have hxm3 := m3 x
    have hxm4 := m4 x
    go_simp
    try with_reducible rfl
  try simp only [Act.put, List.setIfInBounds_toArray, List.set_cons_zero, List.set_cons_succ]
  refine' mix_take _ (by rfl) _ (by rfl) ?_ ?_
  rotate_left
  · rintro _ ⟨x, rfl⟩
    have hxm0 := m0 x
    have hxm1 := m1 x
    have hxm2 := m2 x
    have hxm3 := m3 x
    have hxm4 := m4 x
    go_simp
    try with_reducible rfl
  try simp only [Act.put, List.setIfInBounds_toArray, List.set_cons_zero, List.set_cons_succ]
  refine' mix_take _ (by rfl) _ (by rfl) ?_ ?_
  rotate_left
  · rintro _ ⟨x, rfl⟩
    have hxm0 := m0 x
    have hxm1 := m1 x
    have hxm2 := m2 x
    have hxm3 := m3 x
    have hxm4 := m4 x
    go_simp
    try with_reducible rfl
  try simp only [Act.put, List.setIfInBounds_toArray, List.set_cons_zero, List.set_cons_succ]
  refine mix_do _ (by rfl) (by rfl) (fun K hK => ?_)
  go_simp
  refine HG.out.2.1.mono ?_
  rintro e w2 ⟨rfl, hb2⟩
  have T2 := TreeOn.below (w := w.drew) HG.out.2.2.1 hb2
  have B2 := Lib.hid (And.intro T2 ((Below.refl w.heap.size w).drew.trans hb2))
  clear T2 hb2
  try go_simp
  refine hK.out _ _ (HG.out.2.2.2 _ B2.out.1) ?_
  clear hK K
  try simp only [Act.put, List.setIfInBounds_toArray, List.set_cons_zero, List.set_cons_succ]
  refine mix_do _ (by rfl) (by rfl) (fun K hK => ?_)
  go_simp
  try go_simp
  refine hK.out _ _ (HG.out.2.2.2 _ B2.out.1) ?_
  clear hK K
  try simp only [Act.put, List.setIfInBounds_toArray, List.set_cons_zero, List.set_cons_succ]
  refine mix_nil ?_
  go_wp2_with fail
  go_ret
  exact ⟨rfl, B2.out.2⟩

set_option maxRecDepth 100000 in
set_option maxHeartbeats 800000 in
theorem tree_rank {w : World} {px ps kind root : Nat} {S : St} {Y : Nat → Prop} (h : StOn w ps S Y) (hi : Inv S) (hT : TreeOn w px ps kind root) (hl : root < 18446744073709551616) (k : List UInt8) {z : Nat} (hz : rankM S root k = some z) :
    Calls Tryz.prog 59 #[PV px, SV k] w fun e w' => e = .returned (.int .i64 z) ∧ Below w.heap.size w w' := by
  have hn := tree_none hT
  have hs := bin_rank (h.below ((Below.refl _ w).drew)) hi kind root hl k hz
  obtain ⟨I, hIi, hIo⟩ := tree_class px ps kind root
  have hy0 := fun x : Keeps I => hIi _ x.ok
  simp only [TreeOn] at hy0
  have m0 : ∀ x : Keeps I, x.to.cell? ⟨px, 0, none⟩ = some (PV ps) := fun x => by rw [cell_of_block (hy0 x)]; rfl
  have m1 : ∀ x : Keeps I, x.to.cell? ⟨px, 1, none⟩ = some (.int .i64 kind) := fun x => by rw [cell_of_block (hy0 x)]; rfl
  have m2 : ∀ x : Keeps I, x.to.cell? ⟨px, 2, none⟩ = some (.int .i64 0) := fun x => by rw [cell_of_block (hy0 x)]; rfl
  have m3 : ∀ x : Keeps I, x.to.cell? ⟨px, 3, none⟩ = some (.iface 247 (binV ps kind)) := fun x => by rw [cell_of_block (hy0 x)]; rfl
  have m4 : ∀ x : Keeps I, x.to.cell? ⟨px, 4, none⟩ = some (.int .u64 root) := fun x => by rw [cell_of_block (hy0 x)]; rfl
  have hI0 : I w.drew := hIo _ hT
  have hme := meth_rank
  have HG := Lib.hid (And.intro hn (And.intro hs (And.intro hT hIo)))
  clear hn hs h hi hT hIi hIo hy0 hz
  go_enter Tryz.func59, Tryz.ntmps59
  go_wp2_with fail
  refine HG.out.1.mono ?_
  rintro e w1 ⟨rfl, rfl⟩
  go_wp2_with fail
  refine wp_region_mix I [(true, 0), (true, 1), (true, 2), (true, 3), (true, 4), (true, 5), (true, 6), (true, 7), (true, 8), (true, 9), (true, 10), (false, 11), (false, 12)] (by kernel_rfl) (by kernel_rfl) hI0 ?_
  refine' mix_take _ (by rfl) _ (by rfl) ?_ ?_
  rotate_left
  · rintro _ ⟨x, rfl⟩
    have hxm0 := m0 x
    have hxm1 := m1 x
    have hxm2 := m2 x
    have hxm3 := m3 x
    have hxm4 := m4 x
    go_simp
    try with_reducible rfl
  try simp only [Act.put, List.setIfInBounds_toArray, List.set_cons_zero, List.set_cons_succ]
  refine' mix_take _ (by rfl) _ (by rfl) ?_ ?_
  rotate_left
  · rintro _ ⟨x, rfl⟩
    have hxm0 := m0 x
    have hxm1 := m1 x
    have hxm2 := m2 x
    have hxm3 := m3 x
    have hxm4 := m4 x
    go_simp
    try with_reducible rfl
  try simp only [Act.put, List.setIfInBounds_toArray, List.set_cons_zero, List.set_cons_succ]
  refine' mix_take _ (by rfl) _ (by rfl) ?_ ?_
  rotate_left
  · rintro _ ⟨x, rfl⟩
    have hxm0 := m0 x
    have hxm1 := m1 x
    have hxm2 := m2 x
    have hxm3 := m3 x
    have hxm4 := m4 x
    go_simp
    try with_reducible rfl
  try simp only [Act.put, List.setIfInBounds_toArray, List.set_cons_zero, List.set_cons_succ]
  refine' mix_take _ (by rfl) _ (by rfl) ?_ ?_
  rotate_left
  · rintro _ ⟨x, rfl⟩
    have hxm0 := m0 x
    have hxm1 := m1 x
    have hxm2 := m2 x
    have hxm3 := m3 x
    have hxm4 := m4 x
    go_simp
    try with_reducible rfl
  try simp only [Act.put, List.setIfInBounds_toArray, List.set_cons_zero, List.set_cons_succ]
  refine' mix_take _ (by rfl) _ (by rfl) ?_ ?_
  rotate_left
  · rintro _ ⟨x, rfl⟩
    have hxm0 := m0 x
    have hxm1 := m1 x
    have hxm2 := m2 x
    have hxm3 := m3 x
    have hxm4 := m4 x
    go_simp
    try with_reducible rfl
  try simp only [Act.put, List.setIfInBounds_toArray, List.set_cons_zero, List.set_cons_succ]
  refine' mix_take _ (by rfl) _ (by rfl) ?_ ?_
  rotate_left
  · rintro _ ⟨x, rfl⟩
    have hxm0 := m0 x
    have hxm1 := m1 x
    have hxm2 := m2 x
    have hxm3 := m3 x
    have hxm4 := m4 x
    go_simp
    try with_reducible rfl
  try simp only [Act.put, List.setIfInBounds_toArray, List.set_cons_zero, List.set_cons_succ]
  refine' mix_take _ (by rfl) _ (by rfl) ?_ ?_
  rotate_left
  · rintro _ ⟨x, rfl⟩
    have hxm0 := m0 x
    have hxm1 := m1 x
    have hxm2 := m2 x
    have hxm3 := m3 x
    have hxm4 := m4 x
    go_simp
    try with_reducible rfl
  try simp only [Act.put, List.setIfInBounds_toArray, List.set_cons_zero, List.set_cons_succ]
  refine' mix_take _ (by rfl) _ (by rfl) ?_ ?_
  rotate_left
  · rintro _ ⟨x, rfl⟩
    have hxm0 := m0 x
    have hxm1 := m1 x
    have hxm2 := m2 x
    have hxm3 := m3 x
    have hxm4 := m4 x
    go_simp
    try with_reducible rfl
  try simp only [Act.put, List.setIfInBounds_toArray, List.set_cons_zero, List.set_cons_succ]
  refine' mix_take _ (by rfl) _ (by rfl) ?_ ?_
  rotate_left
  · rintro _ ⟨x, rfl⟩
    have hxm0 := m0 x
    have hxm1 := m1 x
    have hxm2 := m2 x
    have hxm3 := m3 x
    have hxm4 := m4 x
    go_simp
    try with_reducible rfl
  try simp only [Act.put, List.setIfInBounds_toArray, List.set_cons_zero, List.set_cons_succ]
  refine' mix_take _ (by rfl) _ (by rfl) ?_ ?_
  rotate_left
  · rintro _ ⟨x, rfl⟩
    have hxm0 := m0 x
    have hxm1 := m1 x
    have hxm2 := m2 x
    have hxm3 := m3 x
    have hxm4 := m4 x
    go_simp
    try with_reducible rfl
  try simp only [Act.put, List.setIfInBounds_toArray, List.set_cons_zero, List.set_cons_succ]
  refine' mix_take _ (by rfl) _ (by rfl) ?_ ?_
  rotate_left
  · rintro _ ⟨x, rfl⟩
    have hxm0 := m0 x
    have hxm1 := m1 x
    have hxm2 := m2 x
    have hxm3 := m3 x
    have hxm4 := m4 x
    go_simp
    try with_reducible rfl
  try simp only [Act.put, List.setIfInBounds_toArray, List.set_cons_zero, List.set_cons_succ]
  refine mix_do _ (by rfl) (by rfl) (fun K hK => ?_)
  go_simp
  refine HG.out.2.1.mono ?_
  rintro e w2 ⟨rfl, hb2⟩
  have T2 := TreeOn.below (w := w.drew) HG.out.2.2.1 hb2
  have B2 := Lib.hid (And.intro T2 ((Below.refl w.heap.size w).drew.trans hb2))
  clear T2 hb2
  try go_simp
  refine hK.out _ _ (HG.out.2.2.2 _ B2.out.1) ?_
  clear hK K
  try simp only [Act.put, List.setIfInBounds_toArray, List.set_cons_zero, List.set_cons_succ]
  refine mix_do _ (by rfl) (by rfl) (fun K hK => ?_)
  go_simp
  try go_simp
  refine hK.out _ _ (HG.out.2.2.2 _ B2.out.1) ?_
  clear hK K
  try simp only [Act.put, List.setIfInBounds_toArray, List.set_cons_zero, List.set_cons_succ]
  refine mix_nil ?_
  go_wp2_with fail
  go_ret
  exact ⟨rfl, B2.out.2⟩

end Go.Proofs.YtoaabbnieakidaaGreatDoorR
