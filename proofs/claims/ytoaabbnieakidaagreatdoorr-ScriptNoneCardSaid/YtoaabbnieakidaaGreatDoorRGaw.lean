/- Backends of binary trees: size, rank, item, at, without: the walks. -/
import Derived.Test.YtoaabbnieakidaaGreatDoorRGav
namespace Go.Proofs.YtoaabbnieakidaaGreatDoorR
open Go.RowKit Go.BigFrame Go.Maps Go.WideMaps Lf

theorem Below.drewN' {n : Nat} {a b : World} (h : Below n a b) (q : Nat) : Below n a (b.drewN q) := h.trans ⟨rfl, rfl, rfl, Nat.le_refl _, fun _ _ => rfl⟩
theorem st2_other {W : World} {b c : Nat} (h : c ≠ b) (v0 v1 : Value) : ((W.setCell ⟨b, 0, none⟩ (v0)).setCell ⟨b, 1, none⟩ (v1)).heap[c]? = W.heap[c]? := by rw [heap_setCell_ne h, heap_setCell_ne h]
/-- a backend of nodes -/
def binV (ps kind : Nat) : Value := .agg #[PV ps, .int .i64 kind]
def itV (k v : Nat) : Value := .agg #[.int .u64 k, .int .u64 v]

set_option maxRecDepth 100000 in
set_option maxHeartbeats 400000 in
theorem bin_size {w : World} {ps : Nat} {S : St} {Y : Nat → Prop} (h : StOn w ps S Y) (hi : Inv S) (kind root : Nat) (hl : root < 18446744073709551616) {z : Nat} (hz : sizeM S root = some z) :
    Calls Tryz.prog 361 #[binV ps kind, .int .u64 root] w fun e w' => e = .returned (.int .i64 z) ∧ Below w.heap.size w w' := by
  have B0 := (Below.refl w.heap.size w).alloc (Nat.le_refl _) (.cells #[PV ps, .int .i64 kind] 247)
  have hs := walk_size (h.below B0) hi root hl hz
  have HG := Lib.hid (And.intro hs B0)
  clear hs B0 h hi hz
  simp only [binV]
  go_enter Tryz.func361, Tryz.ntmps361
  go_wp2_with fail
  refine HG.out.1.mono ?_
  rintro e w1 ⟨rfl, hb1⟩
  have H1 := Lib.hid (HG.out.2.trans (hb1.mono HG.out.2.size))
  clear hb1
  go_wp2_with fail
  go_ret
  exact ⟨rfl, H1.out⟩

set_option maxRecDepth 100000 in
set_option maxHeartbeats 400000 in
theorem bin_rank {w : World} {ps : Nat} {S : St} {Y : Nat → Prop} (h : StOn w ps S Y) (hi : Inv S) (kind root : Nat) (hl : root < 18446744073709551616) (k : List UInt8) {z : Nat} (hz : rankM S root k = some z) :
    Calls Tryz.prog 359 #[binV ps kind, .int .u64 root, SV k] w fun e w' => e = .returned (.int .i64 z) ∧ Below w.heap.size w w' := by
  have B0 := (Below.refl w.heap.size w).alloc (Nat.le_refl _) (.cells #[PV ps, .int .i64 kind] 247)
  have hs := walk_rank (h.below B0) hi root hl k hz
  have HG := Lib.hid (And.intro hs B0)
  clear hs B0 h hi hz
  simp only [binV]
  go_enter Tryz.func359, Tryz.ntmps359
  go_wp2_with fail
  refine HG.out.1.mono ?_
  rintro e w1 ⟨rfl, hb1⟩
  have H1 := Lib.hid (HG.out.2.trans (hb1.mono HG.out.2.size))
  clear hb1
  go_wp2_with fail
  go_ret
  exact ⟨rfl, H1.out⟩

set_option maxRecDepth 100000 in
set_option maxHeartbeats 800000 in
theorem bin_item {w : World} {ps : Nat} {S : St} {Y : Nat → Prop} (h : StOn w ps S Y) (hi : Inv S) (kind hh : Nat) (hl : hh < 18446744073709551616) :
    Calls Tryz.prog 363 #[binV ps kind, .int .u64 hh] w fun e w' => e = .returned (itV (getNode S hh).1.key (getNode S hh).1.val) ∧ Below w.heap.size w w' := by
  have B1 := (Below.refl w.heap.size w).alloc (Nat.le_refl _) (.cells #[PV ps, .int .i64 kind] 247)
  have B0 := B1.alloc B1.size (.cells #[.int .u64 0, .int .u64 0] 126)
  have z1 := heap_alloc_new (w.alloc (.cells #[PV ps, .int .i64 kind] 247)) (.cells #[.int .u64 0, .int .u64 0] 126)
  simp only [World.size_alloc] at z1
  have hg := node_get (h.below B0) hi hh hl
  obtain ⟨⟨⟨k0, k1, k2, k3, k4, k5⟩, er⟩, hE⟩ : ∃ q, getNode S hh = q := ⟨_, rfl⟩
  rw [hE] at hg ⊢
  simp only [ndV] at hg
  have HG := Lib.hid (And.intro hg (And.intro B0 z1))
  clear hg B0 B1 h hi hE z1
  simp only [binV, itV]
  go_enter Tryz.func363, Tryz.ntmps363
  go_wp2_with fail
  refine HG.out.1.mono ?_
  rintro e w1 ⟨rfl, hb1⟩
  have hal := hb1.alloc hb1.size (.cells #[.int .u64 k0, .int .u64 k1, .int .u64 k2, .int .u64 k3, .int .u64 k4, .int .u64 k5] 274)
  have q1 := heap_alloc_new w1 (.cells #[.int .u64 k0, .int .u64 k1, .int .u64 k2, .int .u64 k3, .int .u64 k4, .int .u64 k5] 274)
  have z1 := (hal.block (w.heap.size + 1) (by simp)).trans HG.out.2.2
  have B1 := HG.out.2.1.trans (hal.mono HG.out.2.1.size)
  clear hb1 hal
  have c0 : ((w1.alloc (.cells #[.int .u64 k0, .int .u64 k1, .int .u64 k2, .int .u64 k3, .int .u64 k4, .int .u64 k5] 274))).cell? ⟨(w.heap.size + 1), 0, none⟩ = some (.int .u64 0) := by rw [cell_of_block z1]; rfl
  have c1 : ((w1.alloc (.cells #[.int .u64 k0, .int .u64 k1, .int .u64 k2, .int .u64 k3, .int .u64 k4, .int .u64 k5] 274))).cell? ⟨(w.heap.size + 1), 1, none⟩ = some (.int .u64 0) := by rw [cell_of_block z1]; rfl
  have f0 : ((w1.alloc (.cells #[.int .u64 k0, .int .u64 k1, .int .u64 k2, .int .u64 k3, .int .u64 k4, .int .u64 k5] 274))).frozen? ⟨(w.heap.size + 1), 0, none⟩ = false := frozen_of_block z1
  have f1 : ((w1.alloc (.cells #[.int .u64 k0, .int .u64 k1, .int .u64 k2, .int .u64 k3, .int .u64 k4, .int .u64 k5] 274))).frozen? ⟨(w.heap.size + 1), 1, none⟩ = false := frozen_of_block z1
  have HW := Lib.hid (And.intro B1 z1)
  clear B1 z1 q1
  go_wp2_with fail
  have q3 := st2_heap HW.out.2 (.int .u64 k0) (.int .u64 k1)
  have B3 := st2_below HW.out.1 (Nat.le_succ w.heap.size) (.int .u64 k0) (.int .u64 k1)
  generalize (((w1.alloc (.cells #[.int .u64 k0, .int .u64 k1, .int .u64 k2, .int .u64 k3, .int .u64 k4, .int .u64 k5] 274)).setCell ⟨(w.heap.size + 1), 0, none⟩ (.int .u64 k0)).setCell ⟨(w.heap.size + 1), 1, none⟩ (.int .u64 k1)) = W3 at *
  have e0 : (W3).cell? ⟨(w.heap.size + 1), 0, none⟩ = some (.int .u64 k0) := by rw [cell_of_block q3]; rfl
  have e1 : (W3).cell? ⟨(w.heap.size + 1), 1, none⟩ = some (.int .u64 k1) := by rw [cell_of_block q3]; rfl
  exact bodyPost_ret (v := .agg #[.int .u64 k0, .int .u64 k1]) (by simp [results, Tryz.f363, go_sem, e0, e1]) rfl ⟨rfl, B3⟩

set_option maxRecDepth 100000 in
set_option maxHeartbeats 800000 in
theorem bin_at {w : World} {ps : Nat} {S : St} {Y : Nat → Prop} (h : StOn w ps S Y) (hi : Inv S) (kind root : Nat) (hl : root < 18446744073709551616) (k : Nat) (hk : k < 4611686018427387904) {R : Nat × Nat} (hR : walkAtM S root k = some R) (hR1 : R.1 < 18446744073709551616) :
    Calls Tryz.prog 356 #[binV ps kind, .int .u64 root, .int .i64 k] w fun e w' => e = .returned (.tuple #[itV (getNode S R.1).1.key (getNode S R.1).1.val, .int .i64 R.2]) ∧ Below w.heap.size w w' := by
  have B1 := (Below.refl w.heap.size w).alloc (Nat.le_refl _) (.cells #[PV ps, .int .i64 kind] 247)
  have q1 := heap_alloc_new w (.cells #[PV ps, .int .i64 kind] 247)
  have B0 := B1.alloc B1.size (.cells #[.int .u64 0, .int .u64 0] 126)
  have z1 := heap_alloc_new (w.alloc (.cells #[PV ps, .int .i64 kind] 247)) (.cells #[.int .u64 0, .int .u64 0] 126)
  have q1 := (((Below.refl (w.alloc (.cells #[PV ps, .int .i64 kind] 247)).heap.size (w.alloc (.cells #[PV ps, .int .i64 kind] 247))).alloc (Nat.le_refl _) (.cells #[.int .u64 0, .int .u64 0] 126)).block w.heap.size (by simp)).trans q1
  simp only [World.size_alloc] at z1
  have ha := walk_at (h.below B0) hi root hl k hk hR
  have hit := fun W (hW : Below w.heap.size w W) => bin_item (h.below hW) hi kind R.1 hR1
  simp only [itV, binV] at hit ⊢
  generalize (getNode S R.1).1.key = k0 at *
  generalize (getNode S R.1).1.val = k1 at *
  obtain ⟨r, er⟩ := R
  simp only at ha hit ⊢
  have HG := Lib.hid (And.intro ha (And.intro hit (And.intro B0 (And.intro z1 q1))))
  clear ha hit B0 B1 h hi hR z1 q1 hR1
  go_enter Tryz.func356, Tryz.ntmps356
  go_wp2_with fail
  refine HG.out.1.mono ?_
  rintro e w1 ⟨rfl, hb1⟩
  have z1 := (hb1.block (w.heap.size + 1) (by simp)).trans HG.out.2.2.2.1
  have q1 := (hb1.block w.heap.size (by simp; omega)).trans HG.out.2.2.2.2
  have c0 : (w1).cell? ⟨w.heap.size, 0, none⟩ = some (PV ps) := by rw [cell_of_block q1]; rfl
  have c1 : (w1).cell? ⟨w.heap.size, 1, none⟩ = some (.int .i64 kind) := by rw [cell_of_block q1]; rfl
  have H1 := Lib.hid (And.intro (HG.out.2.2.1.trans (hb1.mono HG.out.2.2.1.size)) z1)
  clear hb1 z1 q1
  go_wp2_with fail
  refine (HG.out.2.1 _ H1.out.1).mono ?_
  rintro e w2 ⟨rfl, hb2⟩
  have z2 := (hb2.block (w.heap.size + 1) (Array.getElem?_eq_some_iff.1 H1.out.2).1).trans H1.out.2
  have d0 : (w2).cell? ⟨(w.heap.size + 1), 0, none⟩ = some (.int .u64 0) := by rw [cell_of_block z2]; rfl
  have d1 : (w2).cell? ⟨(w.heap.size + 1), 1, none⟩ = some (.int .u64 0) := by rw [cell_of_block z2]; rfl
  have f0 : (w2).frozen? ⟨(w.heap.size + 1), 0, none⟩ = false := frozen_of_block z2
  have f1 : (w2).frozen? ⟨(w.heap.size + 1), 1, none⟩ = false := frozen_of_block z2
  have HW := Lib.hid (And.intro (H1.out.1.trans (hb2.mono H1.out.1.size)) z2)
  clear hb2 z2 c0 c1
  go_wp2_with fail
  have q3 := st2_heap HW.out.2 (.int .u64 k0) (.int .u64 k1)
  have B3 := st2_below HW.out.1 (Nat.le_succ w.heap.size) (.int .u64 k0) (.int .u64 k1)
  generalize ((w2.setCell ⟨(w.heap.size + 1), 0, none⟩ (.int .u64 k0)).setCell ⟨(w.heap.size + 1), 1, none⟩ (.int .u64 k1)) = W3 at *
  have e0 : (W3).cell? ⟨(w.heap.size + 1), 0, none⟩ = some (.int .u64 k0) := by rw [cell_of_block q3]; rfl
  have e1 : (W3).cell? ⟨(w.heap.size + 1), 1, none⟩ = some (.int .u64 k1) := by rw [cell_of_block q3]; rfl
  exact bodyPost_ret (v := .tuple #[.agg #[.int .u64 k0, .int .u64 k1], .int .i64 er]) (by simp [results, Tryz.f356, go_sem, e0, e1]) rfl ⟨rfl, B3⟩

theorem asked_zero (S : St) : askedN S 0 = 7 := by
  unfold askedN
  rw [len_zero]
  rfl
theorem getNode_zero (S : St) : getNode S 0 = (Nd.zero, 7) := by
  unfold getNode
  rw [asked_zero]
  rfl

set_option maxRecDepth 100000 in
set_option maxHeartbeats 800000 in
/-- no node is no item -/
theorem bin_without0 {w : World} {ps : Nat} {S : St} {Y : Nat → Prop} (h : StOn w ps S Y) (hi : Inv S) (kind : Nat) :
    Calls Tryz.prog 367 #[binV ps kind, .int .u64 0] w fun e w' => e = .returned (.tuple #[itV 0 0, .bool false]) ∧ Below w.heap.size w w' := by
  have B1 := (Below.refl w.heap.size w).alloc (Nat.le_refl _) (.cells #[PV ps, .int .i64 kind] 247)
  have q1 := heap_alloc_new w (.cells #[PV ps, .int .i64 kind] 247)
  have B0 := B1.alloc B1.size (.cells #[.int .u64 0, .int .u64 0] 126)
  have z1 := heap_alloc_new (w.alloc (.cells #[PV ps, .int .i64 kind] 247)) (.cells #[.int .u64 0, .int .u64 0] 126)
  have q1 := (((Below.refl (w.alloc (.cells #[PV ps, .int .i64 kind] 247)).heap.size (w.alloc (.cells #[PV ps, .int .i64 kind] 247))).alloc (Nat.le_refl _) (.cells #[.int .u64 0, .int .u64 0] 126)).block w.heap.size (by simp)).trans q1
  simp only [World.size_alloc] at z1
  have hit := bin_item (h.below B0) hi kind 0 (by decide)
  have hdr := fun W (hW : Below w.heap.size w W) => node_drop_no (h.below hW) hi 0 (by decide) (by rw [asked_zero]; decide)
  rw [getNode_zero] at hit
  rw [asked_zero] at hdr
  simp only [itV, binV, Nd.zero] at hit ⊢
  have HG := Lib.hid (And.intro hit (And.intro hdr (And.intro B0 (And.intro z1 q1))))
  clear hit hdr B0 B1 h hi z1 q1
  go_enter Tryz.func367, Tryz.ntmps367
  go_wp2_with fail
  refine HG.out.1.mono ?_
  rintro e w1 ⟨rfl, hb1⟩
  have hal := hb1.alloc hb1.size (.cells #[.int .u64 0, .int .u64 0] 126)
  have y1 := heap_alloc_new w1 (.cells #[.int .u64 0, .int .u64 0] 126)
  have z1 := (hal.block (w.heap.size + 1) (by simp)).trans HG.out.2.2.2.1
  have q1 := (hal.block w.heap.size (by simp; omega)).trans HG.out.2.2.2.2
  have B2 := HG.out.2.2.1.trans (hal.mono HG.out.2.2.1.size)
  go_wp2_with fail
  generalize w1.alloc (.cells #[.int .u64 0, .int .u64 0] 126) = W at *
  obtain ⟨I, hIi, hIo⟩ : ∃ I : World → Prop, (∀ w', I w' → w'.heap[w.heap.size]? = some (.cells #[PV ps, .int .i64 kind] 247) ∧ w'.heap[w1.heap.size]? = some (.cells #[.int .u64 0, .int .u64 0] 126)) ∧ (∀ w', w'.heap[w.heap.size]? = some (.cells #[PV ps, .int .i64 kind] 247) → w'.heap[w1.heap.size]? = some (.cells #[.int .u64 0, .int .u64 0] 126) → I w') := ⟨fun w' => w'.heap[w.heap.size]? = some (.cells #[PV ps, .int .i64 kind] 247) ∧ w'.heap[w1.heap.size]? = some (.cells #[.int .u64 0, .int .u64 0] 126), fun _ h => h, fun _ a b => ⟨a, b⟩⟩
  have hy0 := fun x : Keeps I => (hIi _ x.ok).1
  have hz0 := fun x : Keeps I => (hIi _ x.ok).2
  have my0 : ∀ x : Keeps I, x.to.cell? ⟨w.heap.size, 0, none⟩ = some (PV ps) := fun x => by rw [cell_of_block (hy0 x)]; rfl
  have my1 : ∀ x : Keeps I, x.to.cell? ⟨w.heap.size, 1, none⟩ = some (.int .i64 kind) := fun x => by rw [cell_of_block (hy0 x)]; rfl
  have mz0 : ∀ x : Keeps I, x.to.cell? ⟨w1.heap.size, 0, none⟩ = some (.int .u64 0) := fun x => by rw [cell_of_block (hz0 x)]; rfl
  have mz1 : ∀ x : Keeps I, x.to.cell? ⟨w1.heap.size, 1, none⟩ = some (.int .u64 0) := fun x => by rw [cell_of_block (hz0 x)]; rfl
  have e0 : (W).cell? ⟨(w.heap.size + 1), 0, none⟩ = some (.int .u64 0) := by rw [cell_of_block z1]; rfl
  have e1 : (W).cell? ⟨(w.heap.size + 1), 1, none⟩ = some (.int .u64 0) := by rw [cell_of_block z1]; rfl
  have f0 : (W).frozen? ⟨(w.heap.size + 1), 0, none⟩ = false := frozen_of_block z1
  have f1 : (W).frozen? ⟨(w.heap.size + 1), 1, none⟩ = false := frozen_of_block z1
  have hne : w1.heap.size ≠ w.heap.size + 1 := by have := hb1.size; simp at this; omega
  have HW := Lib.hid (And.intro B2 (And.intro z1 (And.intro q1 y1)))
  have HI := Lib.hid hIo
  have hI0 : I W.drew := hIo _ q1 y1
  clear B2 z1 q1 y1 hb1 hal hy0 hz0 hIi hIo
  refine wp_region_mix I [(true, 0), (true, 1), (true, 2), (true, 3), (false, 4), (true, 5), (false, 6), (false, 7)] (by kernel_rfl) (by kernel_rfl) hI0 ?_
  refine' mix_take _ (by rfl) _ (by rfl) ?_ ?_
  rotate_left
  · rintro _ ⟨x, rfl⟩
    have hxmy0 := my0 x
    have hxmz0 := mz0 x
    have hxmz1 := mz1 x
    go_simp
    try with_reducible rfl
  try simp only [Act.put, List.setIfInBounds_toArray, List.set_cons_zero, List.set_cons_succ]
  refine' mix_take _ (by rfl) _ (by rfl) ?_ ?_
  rotate_left
  · rintro _ ⟨x, rfl⟩
    have hxmy0 := my0 x
    have hxmz0 := mz0 x
    have hxmz1 := mz1 x
    go_simp
    try with_reducible rfl
  try simp only [Act.put, List.setIfInBounds_toArray, List.set_cons_zero, List.set_cons_succ]
  refine' mix_take _ (by rfl) _ (by rfl) ?_ ?_
  rotate_left
  · rintro _ ⟨x, rfl⟩
    have hxmy0 := my0 x
    have hxmz0 := mz0 x
    have hxmz1 := mz1 x
    go_simp
    try with_reducible rfl
  try simp only [Act.put, List.setIfInBounds_toArray, List.set_cons_zero, List.set_cons_succ]
  refine' mix_take _ (by rfl) _ (by rfl) ?_ ?_
  rotate_left
  · rintro _ ⟨x, rfl⟩
    have hxmy0 := my0 x
    have hxmz0 := mz0 x
    have hxmz1 := mz1 x
    go_simp
    try with_reducible rfl
  try simp only [Act.put, List.setIfInBounds_toArray, List.set_cons_zero, List.set_cons_succ]
  refine mix_do _ (by rfl) (by rfl) (fun K hK => ?_)
  go_simp
  refine (HG.out.2.1 _ HW.out.1.drew).mono ?_
  rintro e w3 ⟨rfl, rfl⟩
  try go_simp
  refine hK.out _ _ (HI.out _ HW.out.2.2.1 HW.out.2.2.2) ?_
  clear hK K
  try simp only [Act.put, List.setIfInBounds_toArray, List.set_cons_zero, List.set_cons_succ]
  refine' mix_take _ (by rfl) _ (by rfl) ?_ ?_
  rotate_left
  · rintro _ ⟨x, rfl⟩
    go_simp
    try with_reducible rfl
  try simp only [Act.put, List.setIfInBounds_toArray, List.set_cons_zero, List.set_cons_succ]
  refine mix_do _ (by rfl) (by rfl) (fun K hK => ?_)
  go_simp
  have q3 : ((W.setCell ⟨(w.heap.size + 1), 0, none⟩ (.int .u64 0)).setCell ⟨(w.heap.size + 1), 1, none⟩ (.int .u64 0)).drew.heap[w.heap.size + 1]? = _ := st2_heap HW.out.2.1 (.int .u64 0) (.int .u64 0)
  have B3 := (st2_below HW.out.1 (Nat.le_succ w.heap.size) (.int .u64 0) (.int .u64 0)).drew
  have r3 : ((W.setCell ⟨(w.heap.size + 1), 0, none⟩ (.int .u64 0)).setCell ⟨(w.heap.size + 1), 1, none⟩ (.int .u64 0)).drew.heap[w.heap.size]? = _ := (st2_other (by omega) (.int .u64 0) (.int .u64 0)).trans HW.out.2.2.1
  have y3 : ((W.setCell ⟨(w.heap.size + 1), 0, none⟩ (.int .u64 0)).setCell ⟨(w.heap.size + 1), 1, none⟩ (.int .u64 0)).drew.heap[w1.heap.size]? = _ := (st2_other hne (.int .u64 0) (.int .u64 0)).trans HW.out.2.2.2
  generalize ((W.setCell ⟨(w.heap.size + 1), 0, none⟩ (.int .u64 0)).setCell ⟨(w.heap.size + 1), 1, none⟩ (.int .u64 0)).drew = W3 at *
  try go_simp
  refine hK.out _ _ (HI.out _ r3 y3) ?_
  clear hK K
  try simp only [Act.put, List.setIfInBounds_toArray, List.set_cons_zero, List.set_cons_succ]
  refine mix_do _ (by rfl) (by rfl) (fun K hK => ?_)
  go_simp
  try go_simp
  refine hK.out _ _ (HI.out _ r3 y3) ?_
  clear hK K
  try simp only [Act.put, List.setIfInBounds_toArray, List.set_cons_zero, List.set_cons_succ]
  refine mix_nil ?_
  have g0 : (W3).cell? ⟨(w.heap.size + 1), 0, none⟩ = some (.int .u64 0) := by rw [cell_of_block q3]; rfl
  have g1 : (W3).cell? ⟨(w.heap.size + 1), 1, none⟩ = some (.int .u64 0) := by rw [cell_of_block q3]; rfl
  clear e0 e1 f0 f1 q3 r3 y3
  have HB := Lib.hid B3
  clear B3
  go_wp2_with fail
  exact bodyPost_ret (v := .tuple #[.agg #[.int .u64 0, .int .u64 0], .bool false]) (by simp [results, Tryz.f367, go_sem, g0, g1]) rfl ⟨rfl, HB.out⟩
end Go.Proofs.YtoaabbnieakidaaGreatDoorR
