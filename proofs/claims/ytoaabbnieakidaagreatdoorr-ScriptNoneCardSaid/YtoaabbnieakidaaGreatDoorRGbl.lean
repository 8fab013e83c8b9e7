/- Trees taken apart and put together: Delete; a binary tree's key removed: the walks. A binary tree's key removed: the walk. An item's blobs let go: the walk. -/
import Derived.Test.YtoaabbnieakidaaGreatDoorRGbi
import Derived.Test.YtoaabbnieakidaaGreatDoorRGbk
import Derived.Test.YtoaabbnieakidaaGreatDoorRGax
import Derived.Test.YtoaabbnieakidaaGreatDoorRGap
namespace Go.Proofs.YtoaabbnieakidaaGreatDoorR
open Go.RowKit Go.BigFrame Go.Maps Go.WideMaps Lf

/-- Delete where it is not refused: the root, the elder node -/
def Lf.deleteM (jn : Jn) (S : St) (root : Nat) (key : List UInt8) : Option ((Nat × Nat) × St) :=
  if isT S root = false ∨ 1000 < key.length then none
  else match splitM jn key 200 S root with
    | none => none
    | some ((l, old, r), S1) => (concatM jn S1 l r).map fun x => ((x.1, old), x.2)

set_option maxRecDepth 100000 in
set_option maxHeartbeats 3200000 in
theorem parts_delete {w : World} {ps : Nat} {S S' : St} {Y : Nat → Prop} (h : StOn w ps S Y) (hi : Inv S) {kind : Nat} {j c : FuncId} {jn : Jn} (hjn : JoinsAs j jn) (hk : WayOk kind j c) (root : Nat) (hl : root < 18446744073709551616) (key : List UInt8) {R : Nat × Nat} (hR : deleteM jn S root key = some (R, S')) :
    Calls Tryz.prog 369 #[PV ps, .int .i64 kind, .int .u64 root, SV key] w fun e w' => e = .returned (.tuple #[.int .u64 R.1, .int .u64 R.2, .int .i64 0]) ∧ StOn w' ps S' Y ∧ Keep Y w w' ∧ Inv S' ∧ R.1 < 18446744073709551616 ∧ R.2 < 18446744073709551616 := by
  unfold deleteM at hR
  split at hR
  · cases hR
  rename_i hc
  simp only [not_or, Bool.not_eq_false] at hc
  obtain ⟨t1, hkl⟩ := hc
  split at hR
  · cases hR
  rename_i l old r S1 hs
  obtain ⟨⟨x, S2⟩, hj1, he⟩ := Option.map_eq_some_iff.1 hR
  injection he with e1 e2
  simp only at e1 e2 hj1
  subst e1 e2
  obtain ⟨-, hi1, hl1, hold, hr1⟩ := cut_split (c := c) hjn _ 200 0 rfl h hi hl hs
  have hsp := fun W Z (hW : StOn W ps S Z) => (cut_split (c := c) hjn _ 200 0 rfl hW hi hl hs).1
  have hco := fun W Z (hW : StOn W ps S1 Z) => cut_concat (c := c) hW hi1 hjn l r hl1 hr1 hj1
  have q0 := heap_alloc_new w (.cells #[.int .u64 root] 61)
  have B0 := (Below.refl w.heap.size w).alloc (Nat.le_refl _) (.cells #[.int .u64 root] 61)
  have hw := asked_row (h.below B0) hi hk key (by omega) [root] (by simp) (fun a ha => by simp only [List.mem_singleton] at ha; subst ha; exact ⟨hl, t1⟩) w.heap.size q0
  simp only [cutV, fnV, List.length_cons, List.length_nil, Nat.reduceAdd] at hw hsp hco ⊢
  have HG := Lib.hid (And.intro hw (And.intro hsp (And.intro hco (And.intro B0 (And.intro h hold)))))
  clear hw hsp hco h hi hjn hk hR t1 hs hj1 hi1 hl1 hold hr1 q0 B0
  go_enter Tryz.func369, Tryz.ntmps369
  go_wp2_with fail
  refine HG.out.1.mono ?_
  rintro e w1 ⟨rfl, hb1⟩
  have B1 := HG.out.2.2.2.1.trans (hb1.mono HG.out.2.2.2.1.size)
  have q1 := heap_alloc_new w1 (.cells #[PV ps, .func (.func j) #[] #[], .func (.func c) #[] #[]] 343)
  have B1' := B1.alloc B1.size (.cells #[PV ps, .func (.func j) #[] #[], .func (.func c) #[] #[]] 343)
  have z1 := B1.size
  have e0 : ((w1.alloc (.cells #[PV ps, .func (.func j) #[] #[], .func (.func c) #[] #[]] 343))).cell? ⟨w1.heap.size, 0, none⟩ = some (PV ps) := by rw [cell_of_block q1]; rfl
  have e1 : ((w1.alloc (.cells #[PV ps, .func (.func j) #[] #[], .func (.func c) #[] #[]] 343))).cell? ⟨w1.heap.size, 1, none⟩ = some (.func (.func j) #[] #[]) := by rw [cell_of_block q1]; rfl
  have e2 : ((w1.alloc (.cells #[PV ps, .func (.func j) #[] #[], .func (.func c) #[] #[]] 343))).cell? ⟨w1.heap.size, 2, none⟩ = some (.func (.func c) #[] #[]) := by rw [cell_of_block q1]; rfl
  have l11 := (Array.getElem?_eq_some_iff.1 q1).1
  have H3 := Lib.hid (And.intro B1' (And.intro q1 (And.intro z1 l11)))
  clear hb1 B1 q1 B1' z1 l11
  go_wp2_with fail
  generalize w1.alloc (.cells #[PV ps, .func (.func j) #[] #[], .func (.func c) #[] #[]] 343) = W1 at *
  generalize w1.heap.size = b11 at *
  refine (HG.out.2.1 _ _ (HG.out.2.2.2.2.1.wide H3.out.1)).mono ?_
  rintro e w4 ⟨rfl, h4, k4'⟩
  have r4 := (k4'.block b11 (Or.inr ⟨H3.out.2.2.1, H3.out.2.2.2⟩)).trans H3.out.2.1
  have f0 : (w4).cell? ⟨b11, 0, none⟩ = some (PV ps) := by rw [cell_of_block r4]; rfl
  have f1 : (w4).cell? ⟨b11, 1, none⟩ = some (.func (.func j) #[] #[]) := by rw [cell_of_block r4]; rfl
  have f2 : (w4).cell? ⟨b11, 2, none⟩ = some (.func (.func c) #[] #[]) := by rw [cell_of_block r4]; rfl
  have H4 := Lib.hid (And.intro h4 k4')
  clear h4 k4' r4 e0 e1 e2
  go_wp2_with fail
  refine (HG.out.2.2.1 _ _ H4.out.1).1.mono ?_
  rintro e w5 ⟨rfl, h5, k5'⟩
  have H5 := Lib.hid (And.intro (h5.mono (Z := Y) fun k hk => Or.inl hk) (And.intro ((Keep.of_below H3.out.1 HG.out.2.2.2.2.1.yl).trans ((H4.out.2.trans k5').mono fun k hk => Or.inl hk)) (And.intro (HG.out.2.2.1 _ _ H4.out.1).2.1 (And.intro (HG.out.2.2.1 _ _ H4.out.1).2.2 HG.out.2.2.2.2.2))))
  clear h5 k5' f0 f1 f2
  go_wp2_with fail
  go_ret3
  exact ⟨rfl, H5.out⟩

/-- remove of a key that is there, where all is well: the root, the item, the store -/
def Lf.binDelM (jn : Jn) (S : St) (root : Nat) (key : List UInt8) : Option ((Nat × Nat × Nat) × St) :=
  match deleteM jn S root key with
  | none => none
  | some ((now, o), S1) => match dropNode S1 o with
    | (0, S2) => some ((now, (getNode S1 o).1.key, (getNode S1 o).1.val), S2)
    | _ => none
theorem binDelM_some {jn : Jn} {S S' : St} {root : Nat} {key : List UInt8} {R : Nat × Nat × Nat} (h : binDelM jn S root key = some (R, S')) :
    ∃ o S1, deleteM jn S root key = some ((R.1, o), S1) ∧ dropNode S1 o = (0, S') ∧ R.2.1 = (getNode S1 o).1.key ∧ R.2.2 = (getNode S1 o).1.val := by
  unfold binDelM at h
  split at h
  · cases h
  rename_i now o S1 h1
  split at h
  · rename_i S2 h2
    have h := Option.some.inj h
    injection h with e1 e2
    subst e1 e2
    exact ⟨o, S1, h1, h2, rfl, rfl⟩
  · cases h
end Go.Proofs.YtoaabbnieakidaaGreatDoorR

namespace Go.Proofs.YtoaabbnieakidaaGreatDoorR
open Go.RowKit Go.BigFrame Go.Maps Go.WideMaps Lf

set_option maxRecDepth 100000 in
set_option maxHeartbeats 3200000 in
theorem bin_remove {w : World} {ps : Nat} {S S' : St} {Y : Nat → Prop} (h : StOn w ps S Y) (hi : Inv S) {kind : Nat} {j c : FuncId} {jn : Jn} (hk : KindOk kind j c jn) (root : Nat) (hl : root < 18446744073709551616) (key : List UInt8) {R : Nat × Nat × Nat} (hR : binDelM jn S root key = some (R, S')) :
    Calls Tryz.prog 360 #[binV ps kind, .int .u64 root, SV key] w fun e w' => e = .returned (.tuple #[.int .u64 R.1, itV R.2.1 R.2.2, .bool true]) ∧ StOn w' ps S' Y ∧ Keep Y w w' ∧ R.1 < 18446744073709551616 := by
  obtain ⟨o, S1, h1, h2, e1, e2⟩ := binDelM_some hR
  obtain ⟨now, ik, iv⟩ := R
  simp only at h1 e1 e2 ⊢
  have hde := fun W Z (hW : StOn W ps S Z) => parts_delete hW hi hk.joins hk.way root hl key h1
  have hwo := fun W Z (hi2 : Inv S1) (ho : o < 18446744073709551616) (hW : StOn W ps S1 Z) => bin_without hW hi2 kind o ho h2
  rw [← e1, ← e2] at hwo
  simp only [binV, itV] at hwo ⊢
  have B1 := (Below.refl w.heap.size w).alloc (Nat.le_refl _) (.cells #[PV ps, .int .i64 kind] 247)
  have q1 := heap_alloc_new w (.cells #[PV ps, .int .i64 kind] 247)
  have z1 : (w.alloc (.cells #[PV ps, .int .i64 kind] 247)).heap.size = w.heap.size + 1 := by simp
  have A2 := (Below.refl _ (w.alloc (.cells #[PV ps, .int .i64 kind] 247))).alloc (Nat.le_refl _) (.cells #[.int .u64 0, .int .u64 0] 126)
  have q2 := (A2.block w.heap.size (by omega)).trans q1
  have y2 := heap_alloc_new (w.alloc (.cells #[PV ps, .int .i64 kind] 247)) (.cells #[.int .u64 0, .int .u64 0] 126)
  rw [z1] at y2
  have B2 := B1.alloc B1.size (.cells #[.int .u64 0, .int .u64 0] 126)
  have z2 : ((w.alloc (.cells #[PV ps, .int .i64 kind] 247)).alloc (.cells #[.int .u64 0, .int .u64 0] 126)).heap.size = w.heap.size + 2 := by simp
  have s2 := h.wide B2
  rw [z2] at s2
  have hY := h.yl
  have b0 : (((w.alloc (.cells #[PV ps, .int .i64 kind] 247)).alloc (.cells #[.int .u64 0, .int .u64 0] 126))).cell? ⟨w.heap.size, 0, none⟩ = some (PV ps) := by rw [cell_of_block q2]; rfl
  have b1 : (((w.alloc (.cells #[PV ps, .int .i64 kind] 247)).alloc (.cells #[.int .u64 0, .int .u64 0] 126))).cell? ⟨w.heap.size, 1, none⟩ = some (.int .i64 kind) := by rw [cell_of_block q2]; rfl
  have HG := Lib.hid (And.intro hde (And.intro hwo (And.intro s2 (And.intro q2 (And.intro y2 (And.intro B2 hY))))))
  clear hde hwo s2 q1 q2 y2 A2 B1 B2 z1 z2 h hi hk hR h1 h2 e1 e2 hY
  go_enter Tryz.func360, Tryz.ntmps360
  go_wp2_with fail
  refine (HG.out.1 _ _ HG.out.2.2.1).mono ?_
  rintro e w4 ⟨rfl, h4, k4, i4, l4, l4'⟩
  have q4 := (k4.block w.heap.size (Or.inr ⟨Nat.le_refl _, by omega⟩)).trans HG.out.2.2.2.1
  have y4 := (k4.block (w.heap.size + 1) (Or.inr ⟨by omega, by omega⟩)).trans HG.out.2.2.2.2.1
  have c0 : (w4).cell? ⟨w.heap.size, 0, none⟩ = some (PV ps) := by rw [cell_of_block q4]; rfl
  have c1 : (w4).cell? ⟨w.heap.size, 1, none⟩ = some (.int .i64 kind) := by rw [cell_of_block q4]; rfl
  have H4 := Lib.hid (And.intro h4 (And.intro k4 (And.intro q4 (And.intro y4 (And.intro i4 (And.intro l4 l4'))))))
  clear h4 k4 q4 y4 i4 l4 l4' b0 b1
  go_wp2_with fail
  refine (HG.out.2.1 _ _ H4.out.2.2.2.2.1 H4.out.2.2.2.2.2.2 H4.out.1).mono ?_
  rintro e w6 ⟨rfl, h6, k6'⟩
  have y6 := (k6'.block (w.heap.size + 1) (Or.inr ⟨by omega, by omega⟩)).trans H4.out.2.2.2.1
  have e0 : (w6).cell? ⟨(w.heap.size + 1), 0, none⟩ = some (.int .u64 0) := by rw [cell_of_block y6]; rfl
  have e1 : (w6).cell? ⟨(w.heap.size + 1), 1, none⟩ = some (.int .u64 0) := by rw [cell_of_block y6]; rfl
  have f0 : (w6).frozen? ⟨(w.heap.size + 1), 0, none⟩ = false := frozen_of_block y6
  have f1 : (w6).frozen? ⟨(w.heap.size + 1), 1, none⟩ = false := frozen_of_block y6
  have q7 : ((w6.setCell ⟨(w.heap.size + 1), 0, none⟩ (.int .u64 ik)).setCell ⟨(w.heap.size + 1), 1, none⟩ (.int .u64 iv)).heap[w.heap.size + 1]? = _ := st2_heap y6 (.int .u64 ik) (.int .u64 iv)
  have o7 : ∀ k, k ≠ w.heap.size + 1 → ((w6.setCell ⟨(w.heap.size + 1), 0, none⟩ (.int .u64 ik)).setCell ⟨(w.heap.size + 1), 1, none⟩ (.int .u64 iv)).heap[k]? = w6.heap[k]? := fun k hk => st2_other hk _ _
  have z7 : ((w6.setCell ⟨(w.heap.size + 1), 0, none⟩ (.int .u64 ik)).setCell ⟨(w.heap.size + 1), 1, none⟩ (.int .u64 iv)).heap.size = w6.heap.size := by simp
  have s7 : ((w6.setCell ⟨(w.heap.size + 1), 0, none⟩ (.int .u64 ik)).setCell ⟨(w.heap.size + 1), 1, none⟩ (.int .u64 iv)).os = w6.os ∧ ((w6.setCell ⟨(w.heap.size + 1), 0, none⟩ (.int .u64 ik)).setCell ⟨(w.heap.size + 1), 1, none⟩ (.int .u64 iv)).tape = w6.tape ∧ ((w6.setCell ⟨(w.heap.size + 1), 0, none⟩ (.int .u64 ik)).setCell ⟨(w.heap.size + 1), 1, none⟩ (.int .u64 iv)).output = w6.output := ⟨rfl, rfl, rfl⟩
  have k6 := H4.out.2.1.trans k6'
  have H6 := Lib.hid (And.intro h6 (And.intro k6 (And.intro y6 (And.intro q7 (And.intro o7 (And.intro z7 s7))))))
  clear y6 c0 c1 h6 k6 k6' o7 z7 s7 q7
  go_wp2_with fail
  generalize ((w6.setCell ⟨(w.heap.size + 1), 0, none⟩ (.int .u64 ik)).setCell ⟨(w.heap.size + 1), 1, none⟩ (.int .u64 iv)) = w7 at *
  have q7 := H6.out.2.2.2.1
  obtain ⟨I, hIi, hIo⟩ : ∃ I : World → Prop, (∀ w', I w' → w'.heap[w.heap.size + 1]? = some (.cells #[.int .u64 ik, .int .u64 iv] 126)) ∧ (∀ w', w'.heap[w.heap.size + 1]? = some (.cells #[.int .u64 ik, .int .u64 iv] 126) → I w') := ⟨fun w' => w'.heap[w.heap.size + 1]? = some (.cells #[.int .u64 ik, .int .u64 iv] 126), fun _ h => h, fun _ a => a⟩
  have hy0 := fun x : Keeps I => hIi _ x.ok
  have m0 : ∀ x : Keeps I, x.to.cell? ⟨(w.heap.size + 1), 0, none⟩ = some (.int .u64 ik) := fun x => by rw [cell_of_block (hy0 x)]; rfl
  have m1 : ∀ x : Keeps I, x.to.cell? ⟨(w.heap.size + 1), 1, none⟩ = some (.int .u64 iv) := fun x => by rw [cell_of_block (hy0 x)]; rfl
  have g0 : (w7).cell? ⟨(w.heap.size + 1), 0, none⟩ = some (.int .u64 ik) := by rw [cell_of_block q7]; rfl
  have g1 : (w7).cell? ⟨(w.heap.size + 1), 1, none⟩ = some (.int .u64 iv) := by rw [cell_of_block q7]; rfl
  have h0 : (w7).frozen? ⟨(w.heap.size + 1), 0, none⟩ = false := frozen_of_block q7
  have h1 : (w7).frozen? ⟨(w.heap.size + 1), 1, none⟩ = false := frozen_of_block q7
  have HI := Lib.hid hIo
  have hI0 : I w7.drew := hIo _ q7
  have HQ := Lib.hid q7
  clear e0 e1 f0 f1 q7 hIi hIo hy0
  refine wp_region_plan I (.take 0 (.take 1 (.take 2 (.go 3 (.go 4 (.go 5 .nil)))))) (by kernel_rfl) (by kernel_rfl) hI0 ?_
  refine' plan_take _ (by rfl) _ (by rfl) ?_ ?_
  rotate_left
  · rintro _ ⟨x, rfl⟩
    have hxm0 := m0 x
    have hxm1 := m1 x
    go_simp
    try with_reducible rfl
  try simp only [Act.put, List.setIfInBounds_toArray, List.set_cons_zero, List.set_cons_succ]
  refine' plan_take _ (by rfl) _ (by rfl) ?_ ?_
  rotate_left
  · rintro _ ⟨x, rfl⟩
    have hxm0 := m0 x
    have hxm1 := m1 x
    go_simp
    try with_reducible rfl
  try simp only [Act.put, List.setIfInBounds_toArray, List.set_cons_zero, List.set_cons_succ]
  refine' plan_take _ (by rfl) _ (by rfl) ?_ ?_
  rotate_left
  · rintro _ ⟨x, rfl⟩
    have hxm0 := m0 x
    have hxm1 := m1 x
    go_simp
    try with_reducible rfl
  try simp only [Act.put, List.setIfInBounds_toArray, List.set_cons_zero, List.set_cons_succ]
  refine plan_do _ (by rfl) (by rfl) (fun K hK => ?_)
  go_simp
  try go_simp
  refine hK.out _ _ (HI.out _ HQ.out) ?_
  clear hK K
  try simp only [Act.put, List.setIfInBounds_toArray, List.set_cons_zero, List.set_cons_succ]
  refine plan_do _ (by rfl) (by rfl) (fun K hK => ?_)
  go_simp
  have q8 : ((w7.setCell ⟨(w.heap.size + 1), 0, none⟩ (.int .u64 ik)).setCell ⟨(w.heap.size + 1), 1, none⟩ (.int .u64 iv)).drew.heap[w.heap.size + 1]? = _ := st2_heap HQ.out (.int .u64 ik) (.int .u64 iv)
  have o8 : ∀ k, k ≠ w.heap.size + 1 → ((w7.setCell ⟨(w.heap.size + 1), 0, none⟩ (.int .u64 ik)).setCell ⟨(w.heap.size + 1), 1, none⟩ (.int .u64 iv)).drew.heap[k]? = w7.heap[k]? := fun k hk => st2_other hk _ _
  have z8 : ((w7.setCell ⟨(w.heap.size + 1), 0, none⟩ (.int .u64 ik)).setCell ⟨(w.heap.size + 1), 1, none⟩ (.int .u64 iv)).drew.heap.size = w7.heap.size := by show ((w7.setCell ⟨(w.heap.size + 1), 0, none⟩ (.int .u64 ik)).setCell ⟨(w.heap.size + 1), 1, none⟩ (.int .u64 iv)).heap.size = _; simp
  have s8 : ((w7.setCell ⟨(w.heap.size + 1), 0, none⟩ (.int .u64 ik)).setCell ⟨(w.heap.size + 1), 1, none⟩ (.int .u64 iv)).drew.os = w7.os ∧ ((w7.setCell ⟨(w.heap.size + 1), 0, none⟩ (.int .u64 ik)).setCell ⟨(w.heap.size + 1), 1, none⟩ (.int .u64 iv)).drew.tape = w7.tape ∧ ((w7.setCell ⟨(w.heap.size + 1), 0, none⟩ (.int .u64 ik)).setCell ⟨(w.heap.size + 1), 1, none⟩ (.int .u64 iv)).drew.output = w7.output := ⟨rfl, rfl, rfl⟩
  generalize ((w7.setCell ⟨(w.heap.size + 1), 0, none⟩ (.int .u64 ik)).setCell ⟨(w.heap.size + 1), 1, none⟩ (.int .u64 iv)).drew = w8 at *
  try go_simp
  refine hK.out _ _ (HI.out _ q8) ?_
  clear hK K
  try simp only [Act.put, List.setIfInBounds_toArray, List.set_cons_zero, List.set_cons_succ]
  refine plan_do _ (by rfl) (by rfl) (fun K hK => ?_)
  go_simp
  try go_simp
  refine hK.out _ _ (HI.out _ q8) ?_
  clear hK K
  try simp only [Act.put, List.setIfInBounds_toArray, List.set_cons_zero, List.set_cons_succ]
  refine plan_nil ?_
  have e0 : (w8).cell? ⟨(w.heap.size + 1), 0, none⟩ = some (.int .u64 ik) := by rw [cell_of_block q8]; rfl
  have e1 : (w8).cell? ⟨(w.heap.size + 1), 1, none⟩ = some (.int .u64 iv) := by rw [cell_of_block q8]; rfl
  have hfin : StOn w8 ps S' Y ∧ Keep Y w w8 := by
    obtain ⟨h6, k6, y6, -, o7, z7, s7⟩ := H6.out
    have hY := HG.out.2.2.2.2.2.2
    have hw : ∀ k, k ≠ w.heap.size + 1 → w8.heap[k]? = w6.heap[k]? := fun k hk => (o8 k hk).trans (o7 k hk)
    refine ⟨(h6.write (Or.inr ⟨by omega, by omega⟩) y6 ⟨by decide, by decide⟩ (by simp) (by omega) fun k _ hk => hw k hk).mono fun k hk => Or.inl hk, ?_⟩
    have hk0 := (Keep.of_below HG.out.2.2.2.2.2.1 hY).trans (k6.mono fun k hk => Or.inl hk)
    exact ⟨(s8.1.trans s7.1).trans hk0.os, (s8.2.1.trans s7.2.1).trans hk0.tape, (s8.2.2.trans s7.2.2).trans hk0.output, by have := hk0.size; omega, fun k hk => (hw k (by have := hY k hk; omega)).trans (hk0.block k hk)⟩
  have HF := Lib.hid hfin
  clear hfin q8 o8 z8 s8 g0 g1 h0 h1 m0 m1 HI HQ hI0
  go_wp2_with fail
  exact bodyPost_ret (v := .tuple #[.int .u64 now, .agg #[.int .u64 ik, .int .u64 iv], .bool true]) (by simp [results, Tryz.f360, go_sem, e0, e1]) rfl ⟨rfl, HF.out.1, HF.out.2, H4.out.2.2.2.2.2.1⟩
end Go.Proofs.YtoaabbnieakidaaGreatDoorR

namespace Go.Proofs.YtoaabbnieakidaaGreatDoorR
open Go.RowKit Go.BigFrame Go.Maps Go.WideMaps Lf

set_option maxRecDepth 100000 in
set_option maxHeartbeats 1600000 in
theorem tree_gone {w : World} {px ps kind root : Nat} {S : St} {Y : Nat → Prop} (h : StOn w ps S Y) (hi : Inv S) (hT : TreeOn w px ps kind root) (hpx : Y px) (k v : Nat) (hk : k < 18446744073709551616) (hv : v < 18446744073709551616) (hg : (getBlob S v).2 ≠ 8) (hi1 : Inv (S.drop k).2) :
    Calls Tryz.prog 85 #[PV px, itV k v, .bool true] w fun e w' => e = .returned (SV (getBlob S v).1) ∧ StOn w' ps ((S.drop k).2.drop v).2 Y ∧ Keep Y w w' := by
  have B1 := (Below.refl w.heap.size w).alloc (Nat.le_refl _) (.cells #[.int .u64 k, .int .u64 v] 126)
  have q1 := heap_alloc_new w (.cells #[.int .u64 k, .int .u64 v] 126)
  have S1 := h.wide B1
  have T1 := hT.below B1
  have hyl := h.yl
  have sw : (w.alloc (.cells #[.int .u64 k, .int .u64 v] 126)).heap.size = w.heap.size + 1 := by simp
  rw [sw] at S1
  have hbl := fun W Z (hW : StOn W ps S Z) => blob_get hW hi v hv hg
  have hd1 := fun W Z (hW : StOn W ps S Z) => st_drop hW hi k hk
  have hd2 := fun W Z (hW : StOn W ps (S.drop k).2 Z) => st_drop hW hi1 v hv
  simp only [itV]
  generalize (getBlob S v).1 = t at *
  generalize (getBlob S v).2 = er at *
  generalize (S.drop k).1 = e1 at *
  generalize (S.drop k).2 = S2 at *
  generalize (S2.drop v).1 = e2 at *
  generalize (S2.drop v).2 = S3 at *
  have HG := Lib.hid (And.intro hbl (And.intro hd1 (And.intro hd2 (Keep.of_below B1 hyl))))
  clear hbl hd1 hd2 h hi hi1 hg
  go_enter Tryz.func85, Tryz.ntmps85
  go_wp2_with fail
  generalize w.alloc (.cells #[.int .u64 k, .int .u64 v] 126) = W at *
  obtain ⟨I, hIi, hIo⟩ := two_class (fun w' => TreeOn w' px ps kind root) (fun w' => w'.heap[w.heap.size]? = some (.cells #[.int .u64 k, .int .u64 v] 126))
  have hy0 := fun x : Keeps I => (hIi _ x.ok).1
  have hz0 := fun x : Keeps I => (hIi _ x.ok).2
  simp only [TreeOn] at hy0
  have m0 : ∀ x : Keeps I, x.to.cell? ⟨px, 0, none⟩ = some (PV ps) := fun x => by rw [cell_of_block (hy0 x)]; rfl
  have m1 : ∀ x : Keeps I, x.to.cell? ⟨px, 1, none⟩ = some (.int .i64 kind) := fun x => by rw [cell_of_block (hy0 x)]; rfl
  have m2 : ∀ x : Keeps I, x.to.cell? ⟨px, 2, none⟩ = some (.int .i64 0) := fun x => by rw [cell_of_block (hy0 x)]; rfl
  have m3 : ∀ x : Keeps I, x.to.cell? ⟨px, 3, none⟩ = some (.iface 247 (binV ps kind)) := fun x => by rw [cell_of_block (hy0 x)]; rfl
  have m4 : ∀ x : Keeps I, x.to.cell? ⟨px, 4, none⟩ = some (.int .u64 root) := fun x => by rw [cell_of_block (hy0 x)]; rfl
  have n0 : ∀ x : Keeps I, x.to.cell? ⟨w.heap.size, 0, none⟩ = some (.int .u64 k) := fun x => by rw [cell_of_block (hz0 x)]; rfl
  have n1 : ∀ x : Keeps I, x.to.cell? ⟨w.heap.size, 1, none⟩ = some (.int .u64 v) := fun x => by rw [cell_of_block (hz0 x)]; rfl
  have hI0 : I W.drew := hIo _ T1 q1
  have HI := Lib.hid hIo
  have HW := Lib.hid (And.intro S1 (And.intro T1 q1))
  clear S1 T1 q1 B1 hIi hIo hy0 hz0
  refine wp_region_plan I (.take 0 (.take 1 (.take 2 (.take 3 (.take 4 (.take 5 (.go 6 (.take 7 (.take 8 (.take 9 (.take 10 (.take 11 .nil)))))))))))) (by kernel_rfl) (by kernel_rfl) hI0 ?_
  refine' plan_take _ (by rfl) _ (by rfl) ?_ ?_
  rotate_left
  · rintro _ ⟨x, rfl⟩
    have hxm0 := m0 x
    have hxn0 := n0 x
    have hxn1 := n1 x
    go_simp
    try with_reducible rfl
  try simp only [Act.put, List.setIfInBounds_toArray, List.set_cons_zero, List.set_cons_succ]
  refine' plan_take _ (by rfl) _ (by rfl) ?_ ?_
  rotate_left
  · rintro _ ⟨x, rfl⟩
    have hxm0 := m0 x
    have hxn0 := n0 x
    have hxn1 := n1 x
    go_simp
    try with_reducible rfl
  try simp only [Act.put, List.setIfInBounds_toArray, List.set_cons_zero, List.set_cons_succ]
  refine' plan_take _ (by rfl) _ (by rfl) ?_ ?_
  rotate_left
  · rintro _ ⟨x, rfl⟩
    have hxm0 := m0 x
    have hxn0 := n0 x
    have hxn1 := n1 x
    go_simp
    try with_reducible rfl
  try simp only [Act.put, List.setIfInBounds_toArray, List.set_cons_zero, List.set_cons_succ]
  refine' plan_take _ (by rfl) _ (by rfl) ?_ ?_
  rotate_left
  · rintro _ ⟨x, rfl⟩
    have hxm0 := m0 x
    have hxn0 := n0 x
    have hxn1 := n1 x
    go_simp
    try with_reducible rfl
  try simp only [Act.put, List.setIfInBounds_toArray, List.set_cons_zero, List.set_cons_succ]
  refine' plan_take _ (by rfl) _ (by rfl) ?_ ?_
  rotate_left
  · rintro _ ⟨x, rfl⟩
    have hxm0 := m0 x
    have hxn0 := n0 x
    have hxn1 := n1 x
    go_simp
    try with_reducible rfl
  try simp only [Act.put, List.setIfInBounds_toArray, List.set_cons_zero, List.set_cons_succ]
  refine' plan_take _ (by rfl) _ (by rfl) ?_ ?_
  rotate_left
  · rintro _ ⟨x, rfl⟩
    have hxm0 := m0 x
    have hxn0 := n0 x
    have hxn1 := n1 x
    go_simp
    try with_reducible rfl
  try simp only [Act.put, List.setIfInBounds_toArray, List.set_cons_zero, List.set_cons_succ]
  refine plan_do _ (by rfl) (by rfl) (fun K hK => ?_)
  go_simp
  refine (HG.out.1 _ _ (HW.out.1.drewN 1)).mono ?_
  rintro e w2 ⟨rfl, hb2⟩
  have T2 : TreeOn w2 px ps kind root := TreeOn.below (w := W.drew) HW.out.2.1 hb2
  have q2 : w2.heap[w.heap.size]? = _ := (hb2.block w.heap.size (Array.getElem?_eq_some_iff.1 HW.out.2.2).1).trans HW.out.2.2
  have s2 := (HW.out.1.drewN 1).below hb2
  have k2 : Keep Y W w2 := (Keep.drewN Y W 1).trans ((HW.out.1.drewN 1).keep hb2 |>.mono fun k hk => Or.inl hk)
  have H2 := Lib.hid (And.intro s2 (And.intro T2 (And.intro q2 (HG.out.2.2.2.trans k2))))
  clear s2 T2 q2 hb2 k2
  try go_simp
  refine hK.out _ _ (HI.out _ H2.out.2.1 H2.out.2.2.1) ?_
  clear hK K
  try simp only [Act.put, List.setIfInBounds_toArray, List.set_cons_zero, List.set_cons_succ]
  refine' plan_take _ (by rfl) _ (by rfl) ?_ ?_
  rotate_left
  · rintro _ ⟨x, rfl⟩
    go_simp
    try with_reducible rfl
  try simp only [Act.put, List.setIfInBounds_toArray, List.set_cons_zero, List.set_cons_succ]
  refine' plan_take _ (by rfl) _ (by rfl) ?_ ?_
  rotate_left
  · rintro _ ⟨x, rfl⟩
    go_simp
    try with_reducible rfl
  try simp only [Act.put, List.setIfInBounds_toArray, List.set_cons_zero, List.set_cons_succ]
  refine' plan_take _ (by rfl) _ (by rfl) ?_ ?_
  rotate_left
  · rintro _ ⟨x, rfl⟩
    go_simp
    try with_reducible rfl
  try simp only [Act.put, List.setIfInBounds_toArray, List.set_cons_zero, List.set_cons_succ]
  refine' plan_take _ (by rfl) _ (by rfl) ?_ ?_
  rotate_left
  · rintro _ ⟨x, rfl⟩
    go_simp
    try with_reducible rfl
  try simp only [Act.put, List.setIfInBounds_toArray, List.set_cons_zero, List.set_cons_succ]
  refine' plan_take _ (by rfl) _ (by rfl) ?_ ?_
  rotate_left
  · rintro _ ⟨x, rfl⟩
    go_simp
    try with_reducible rfl
  try simp only [Act.put, List.setIfInBounds_toArray, List.set_cons_zero, List.set_cons_succ]
  refine plan_nil ?_
  go_wp2_with fail
  have hI2 : I w2.drew := HI.out _ H2.out.2.1 H2.out.2.2.1
  refine wp_region_plan I (.take 0 (.take 1 (.take 2 (.take 3 (.take 4 (.take 5 (.go 6 .nil))))))) (by kernel_rfl) (by kernel_rfl) hI2 ?_
  refine' plan_take _ (by rfl) _ (by rfl) ?_ ?_
  rotate_left
  · rintro _ ⟨x, rfl⟩
    have hxm0 := m0 x
    have hxn0 := n0 x
    have hxn1 := n1 x
    go_simp
    try with_reducible rfl
  try simp only [Act.put, List.setIfInBounds_toArray, List.set_cons_zero, List.set_cons_succ]
  refine' plan_take _ (by rfl) _ (by rfl) ?_ ?_
  rotate_left
  · rintro _ ⟨x, rfl⟩
    have hxm0 := m0 x
    have hxn0 := n0 x
    have hxn1 := n1 x
    go_simp
    try with_reducible rfl
  try simp only [Act.put, List.setIfInBounds_toArray, List.set_cons_zero, List.set_cons_succ]
  refine' plan_take _ (by rfl) _ (by rfl) ?_ ?_
  rotate_left
  · rintro _ ⟨x, rfl⟩
    have hxm0 := m0 x
    have hxn0 := n0 x
    have hxn1 := n1 x
    go_simp
    try with_reducible rfl
  try simp only [Act.put, List.setIfInBounds_toArray, List.set_cons_zero, List.set_cons_succ]
  refine' plan_take _ (by rfl) _ (by rfl) ?_ ?_
  rotate_left
  · rintro _ ⟨x, rfl⟩
    have hxm0 := m0 x
    have hxn0 := n0 x
    have hxn1 := n1 x
    go_simp
    try with_reducible rfl
  try simp only [Act.put, List.setIfInBounds_toArray, List.set_cons_zero, List.set_cons_succ]
  refine' plan_take _ (by rfl) _ (by rfl) ?_ ?_
  rotate_left
  · rintro _ ⟨x, rfl⟩
    have hxm0 := m0 x
    have hxn0 := n0 x
    have hxn1 := n1 x
    go_simp
    try with_reducible rfl
  try simp only [Act.put, List.setIfInBounds_toArray, List.set_cons_zero, List.set_cons_succ]
  refine' plan_take _ (by rfl) _ (by rfl) ?_ ?_
  rotate_left
  · rintro _ ⟨x, rfl⟩
    have hxm0 := m0 x
    have hxn0 := n0 x
    have hxn1 := n1 x
    go_simp
    try with_reducible rfl
  try simp only [Act.put, List.setIfInBounds_toArray, List.set_cons_zero, List.set_cons_succ]
  refine plan_do _ (by rfl) (by rfl) (fun K hK => ?_)
  go_simp
  refine (HG.out.2.1 _ _ (H2.out.1.drewN 1)).mono ?_
  rintro e w3 ⟨rfl, s3, k3⟩
  have T3 : TreeOn w3 px ps kind root := TreeOn.keep (w := w2.drew) H2.out.2.1 k3 (Or.inl hpx)
  have q3 := (k3.block w.heap.size (Or.inr ⟨Nat.le_refl _, Nat.lt_succ_self _⟩)).trans H2.out.2.2.1
  have H3 := Lib.hid (And.intro s3 (And.intro T3 (And.intro q3 (H2.out.2.2.2.trans ((Keep.drewN Y w2 1).trans (k3.mono fun k hk => Or.inl hk))))))
  clear s3 T3 q3 k3 hI2
  try go_simp
  refine hK.out _ _ (HI.out _ H3.out.2.1 H3.out.2.2.1) ?_
  clear hK K
  try simp only [Act.put, List.setIfInBounds_toArray, List.set_cons_zero, List.set_cons_succ]
  refine plan_nil ?_
  go_wp2_with fail
  have hI3 : I w3.drew := HI.out _ H3.out.2.1 H3.out.2.2.1
  refine wp_region_plan I (.take 0 (.take 1 (.take 2 (.take 3 (.take 4 (.take 5 (.go 6 .nil))))))) (by kernel_rfl) (by kernel_rfl) hI3 ?_
  refine' plan_take _ (by rfl) _ (by rfl) ?_ ?_
  rotate_left
  · rintro _ ⟨x, rfl⟩
    have hxm0 := m0 x
    have hxn0 := n0 x
    have hxn1 := n1 x
    go_simp
    try with_reducible rfl
  try simp only [Act.put, List.setIfInBounds_toArray, List.set_cons_zero, List.set_cons_succ]
  refine' plan_take _ (by rfl) _ (by rfl) ?_ ?_
  rotate_left
  · rintro _ ⟨x, rfl⟩
    have hxm0 := m0 x
    have hxn0 := n0 x
    have hxn1 := n1 x
    go_simp
    try with_reducible rfl
  try simp only [Act.put, List.setIfInBounds_toArray, List.set_cons_zero, List.set_cons_succ]
  refine' plan_take _ (by rfl) _ (by rfl) ?_ ?_
  rotate_left
  · rintro _ ⟨x, rfl⟩
    have hxm0 := m0 x
    have hxn0 := n0 x
    have hxn1 := n1 x
    go_simp
    try with_reducible rfl
  try simp only [Act.put, List.setIfInBounds_toArray, List.set_cons_zero, List.set_cons_succ]
  refine' plan_take _ (by rfl) _ (by rfl) ?_ ?_
  rotate_left
  · rintro _ ⟨x, rfl⟩
    have hxm0 := m0 x
    have hxn0 := n0 x
    have hxn1 := n1 x
    go_simp
    try with_reducible rfl
  try simp only [Act.put, List.setIfInBounds_toArray, List.set_cons_zero, List.set_cons_succ]
  refine' plan_take _ (by rfl) _ (by rfl) ?_ ?_
  rotate_left
  · rintro _ ⟨x, rfl⟩
    have hxm0 := m0 x
    have hxn0 := n0 x
    have hxn1 := n1 x
    go_simp
    try with_reducible rfl
  try simp only [Act.put, List.setIfInBounds_toArray, List.set_cons_zero, List.set_cons_succ]
  refine' plan_take _ (by rfl) _ (by rfl) ?_ ?_
  rotate_left
  · rintro _ ⟨x, rfl⟩
    have hxm0 := m0 x
    have hxn0 := n0 x
    have hxn1 := n1 x
    go_simp
    try with_reducible rfl
  try simp only [Act.put, List.setIfInBounds_toArray, List.set_cons_zero, List.set_cons_succ]
  refine plan_do _ (by rfl) (by rfl) (fun K hK => ?_)
  go_simp
  refine (HG.out.2.2.1 _ _ (H3.out.1.drewN 1)).mono ?_
  rintro e w4 ⟨rfl, s4, k4⟩
  have T4 : TreeOn w4 px ps kind root := TreeOn.keep (w := w3.drew) H3.out.2.1 k4 (Or.inl hpx)
  have q4 := (k4.block w.heap.size (Or.inr ⟨Nat.le_refl _, Nat.lt_succ_self _⟩)).trans H3.out.2.2.1
  have H4 := Lib.hid (And.intro (s4.mono (Z := Y) fun k hk => Or.inl hk) (H3.out.2.2.2.trans ((Keep.drewN Y w3 1).trans (k4.mono fun k hk => Or.inl hk))))
  try go_simp
  refine hK.out _ _ (HI.out _ T4 q4) ?_
  clear hK K
  try simp only [Act.put, List.setIfInBounds_toArray, List.set_cons_zero, List.set_cons_succ]
  clear s4 k4 hI3 T4 q4
  refine plan_nil ?_
  go_wp2_with fail
  go_ret
  exact ⟨rfl, H4.out⟩
end Go.Proofs.YtoaabbnieakidaaGreatDoorR
