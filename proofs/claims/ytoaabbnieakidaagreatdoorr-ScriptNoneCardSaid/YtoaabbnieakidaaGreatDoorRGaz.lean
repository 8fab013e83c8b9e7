/- Trees of any kind: At: the walk. -/
import Derived.Test.YtoaabbnieakidaaGreatDoorRGax
import Derived.Test.YtoaabbnieakidaaGreatDoorRGay
namespace Go.Proofs.YtoaabbnieakidaaGreatDoorR
open Go.RowKit Go.BigFrame Go.Maps Go.WideMaps Lf

theorem two_class (A B : World → Prop) : ∃ I : World → Prop, (∀ w', I w' → A w' ∧ B w') ∧ (∀ w', A w' → B w' → I w') := ⟨fun w' => A w' ∧ B w', fun _ h => h, fun _ a b => ⟨a, b⟩⟩
/-- the pair that has so many keys below its own, where there is one -/
def Lf.treeAtM (S : St) (root k : Nat) : Option (List UInt8 × List UInt8) :=
  match walkAtM S root k with
  | none => none
  | some (h, e) => if e ≠ 0 ∨ 18446744073709551616 ≤ h then none else
    match textM S (getNode S h).1.key, textM S (getNode S h).1.val with
    | some a, some b => some (a, b)
    | _, _ => none
theorem treeAtM_some {S : St} {root k : Nat} {p : List UInt8 × List UInt8} (h : treeAtM S root k = some p) : ∃ hh, hh < 18446744073709551616 ∧ walkAtM S root k = some (hh, 0) ∧ textM S (getNode S hh).1.key = some p.1 ∧ textM S (getNode S hh).1.val = some p.2 := by
  unfold treeAtM at h
  split at h
  · cases h
  rename_i hh e h1
  split at h
  · cases h
  rename_i hc
  simp only [not_or, Decidable.not_not, Nat.not_le] at hc
  split at h
  · rename_i a b h2 h3
    have h := Option.some.inj h
    subst h
    exact ⟨hh, hc.2, by rw [h1, hc.1], h2, h3⟩
  · cases h
def prV (p : List UInt8 × List UInt8) : Value := .agg #[SV p.1, SV p.2]
theorem textM_some {S : St} {hh : Nat} {t : List UInt8} (h : textM S hh = some t) : (getBlob S hh).2 ≠ 8 ∧ (getBlob S hh).1 = t := by
  unfold textM at h
  split at h
  · cases h
  · rename_i h8
    exact ⟨h8, Option.some.inj h⟩

set_option maxRecDepth 100000 in
set_option maxHeartbeats 1600000 in
theorem tree_at {w : World} {px ps kind root : Nat} {S : St} {Y : Nat → Prop} (h : StOn w ps S Y) (hi : Inv S) (hT : TreeOn w px ps kind root) (hl : root < 18446744073709551616) (k : Nat) (hk : k < 4611686018427387904) {p : List UInt8 × List UInt8} (hp : treeAtM S root k = some p) :
    Calls Tryz.prog 60 #[PV px, .int .i64 k] w fun e w' => e = .returned (.tuple #[prV p, .int .i64 0]) ∧ Below w.heap.size w w' := by
  obtain ⟨hh, hhl, h1, h2, h3⟩ := treeAtM_some hp
  obtain ⟨hb1, hb2⟩ := textM_some h2
  obtain ⟨hb3, hb4⟩ := textM_some h3
  have B0 := (Below.refl w.heap.size w).alloc (Nat.le_refl _) (.cells #[.string ⟨#[]⟩, .string ⟨#[]⟩] 50)
  have y0 := heap_alloc_new w (.cells #[.string ⟨#[]⟩, .string ⟨#[]⟩] 50)
  have hn := tree_none (hT.below B0)
  have hnl := getNode_lt h hh
  have hs := fun W (hW : Below w.heap.size w W) => bin_at (h.below hW) hi kind root hl k hk h1 hhl
  have hg1 := fun W (hW : Below w.heap.size w W) => blob_get (h.below hW) hi _ hnl.key hb1
  have hg2 := fun W (hW : Below w.heap.size w W) => blob_get (h.below hW) hi _ hnl.val hb3
  rw [hb2] at hg1
  rw [hb4] at hg2
  obtain ⟨p1, p2⟩ := p
  simp only [prV, itV] at hg1 hg2 hs ⊢
  generalize (getBlob S (getNode S hh).1.key).2 = e1 at *
  generalize (getBlob S (getNode S hh).1.val).2 = e2 at *
  generalize (getNode S hh).1.key = k0 at *
  generalize (getNode S hh).1.val = k1 at *
  obtain ⟨I, hIi, hIo⟩ := tree_class px ps kind root
  have hy0 := fun x : Keeps I => hIi _ x.ok
  simp only [TreeOn] at hy0
  have m0 : ∀ x : Keeps I, x.to.cell? ⟨px, 0, none⟩ = some (PV ps) := fun x => by rw [cell_of_block (hy0 x)]; rfl
  have m1 : ∀ x : Keeps I, x.to.cell? ⟨px, 1, none⟩ = some (.int .i64 kind) := fun x => by rw [cell_of_block (hy0 x)]; rfl
  have m2 : ∀ x : Keeps I, x.to.cell? ⟨px, 2, none⟩ = some (.int .i64 0) := fun x => by rw [cell_of_block (hy0 x)]; rfl
  have m3 : ∀ x : Keeps I, x.to.cell? ⟨px, 3, none⟩ = some (.iface 247 (binV ps kind)) := fun x => by rw [cell_of_block (hy0 x)]; rfl
  have m4 : ∀ x : Keeps I, x.to.cell? ⟨px, 4, none⟩ = some (.int .u64 root) := fun x => by rw [cell_of_block (hy0 x)]; rfl
  have hI0 : I ((w.alloc (.cells #[.string ⟨#[]⟩, .string ⟨#[]⟩] 50)).drew) := hIo _ (hT.below B0.drew)
  have hme := meth_at
  have HG := Lib.hid (And.intro hn (And.intro hs (And.intro hT (And.intro hIo (And.intro B0 (And.intro y0 (And.intro hg1 hg2)))))))
  clear hn hs h hi hT hIi hIo hy0 h1 h2 h3 hb1 hb2 hb3 hb4 hnl B0 y0 hg1 hg2 hp hhl
  go_enter Tryz.func60, Tryz.ntmps60
  go_wp2_with fail
  refine HG.out.1.mono ?_
  rintro e w1 ⟨rfl, rfl⟩
  go_wp2_with fail
  have HU := Lib.hid (And.intro HG.out.2.2.2.2.2.2.1 HG.out.2.2.2.2.2.2.2)
  refine wp_region_plan I (.take 0 (.take 1 (.take 2 (.take 3 (.take 4 (.take 5 (.take 6 (.take 7 (.take 8 (.take 9 (.take 10 (.two 11 15 (.take 12 (.take 13 (.take 14 (.go 15 (.go 16 (.go 17 .nil)))))) (.go 11 (.take 12 (.take 13 (.take 14 (.go 16 (.go 17 .nil)))))))))))))))))) (by kernel_rfl) (by kernel_rfl) hI0 ?_
  refine' plan_take _ (by rfl) _ (by rfl) ?_ ?_
  rotate_left
  · rintro _ ⟨x, rfl⟩
    have hxm0 := m0 x
    have hxm1 := m1 x
    have hxm2 := m2 x
    have hxm3 := m3 x
    have hxm4 := m4 x
    go_simp
    try with_reducible rfl
  try simp only [Act.put, List.setIfInBounds_toArray, List.set_cons_zero, List.set_cons_succ]
  refine' plan_take _ (by rfl) _ (by rfl) ?_ ?_
  rotate_left
  · rintro _ ⟨x, rfl⟩
    have hxm0 := m0 x
    have hxm1 := m1 x
    have hxm2 := m2 x
    have hxm3 := m3 x
    have hxm4 := m4 x
    go_simp
    try with_reducible rfl
  try simp only [Act.put, List.setIfInBounds_toArray, List.set_cons_zero, List.set_cons_succ]
  refine' plan_take _ (by rfl) _ (by rfl) ?_ ?_
  rotate_left
  · rintro _ ⟨x, rfl⟩
    have hxm0 := m0 x
    have hxm1 := m1 x
    have hxm2 := m2 x
    have hxm3 := m3 x
    have hxm4 := m4 x
    go_simp
    try with_reducible rfl
  try simp only [Act.put, List.setIfInBounds_toArray, List.set_cons_zero, List.set_cons_succ]
  refine' plan_take _ (by rfl) _ (by rfl) ?_ ?_
  rotate_left
  · rintro _ ⟨x, rfl⟩
    have hxm0 := m0 x
    have hxm1 := m1 x
    have hxm2 := m2 x
    have hxm3 := m3 x
    have hxm4 := m4 x
    go_simp
    try with_reducible rfl
  try simp only [Act.put, List.setIfInBounds_toArray, List.set_cons_zero, List.set_cons_succ]
  refine' plan_take _ (by rfl) _ (by rfl) ?_ ?_
  rotate_left
  · rintro _ ⟨x, rfl⟩
    have hxm0 := m0 x
    have hxm1 := m1 x
    have hxm2 := m2 x
    have hxm3 := m3 x
    have hxm4 := m4 x
    go_simp
    try with_reducible rfl
  try simp only [Act.put, List.setIfInBounds_toArray, List.set_cons_zero, List.set_cons_succ]
  refine' plan_take _ (by rfl) _ (by rfl) ?_ ?_
  rotate_left
  · rintro _ ⟨x, rfl⟩
    have hxm0 := m0 x
    have hxm1 := m1 x
    have hxm2 := m2 x
    have hxm3 := m3 x
    have hxm4 := m4 x
    go_simp
    try with_reducible rfl
  try simp only [Act.put, List.setIfInBounds_toArray, List.set_cons_zero, List.set_cons_succ]
  refine' plan_take _ (by rfl) _ (by rfl) ?_ ?_
  rotate_left
  · rintro _ ⟨x, rfl⟩
    have hxm0 := m0 x
    have hxm1 := m1 x
    have hxm2 := m2 x
    have hxm3 := m3 x
    have hxm4 := m4 x
    go_simp
    try with_reducible rfl
  try simp only [Act.put, List.setIfInBounds_toArray, List.set_cons_zero, List.set_cons_succ]
  refine' plan_take _ (by rfl) _ (by rfl) ?_ ?_
  rotate_left
  · rintro _ ⟨x, rfl⟩
    have hxm0 := m0 x
    have hxm1 := m1 x
    have hxm2 := m2 x
    have hxm3 := m3 x
    have hxm4 := m4 x
    go_simp
    try with_reducible rfl
  try simp only [Act.put, List.setIfInBounds_toArray, List.set_cons_zero, List.set_cons_succ]
  refine' plan_take _ (by rfl) _ (by rfl) ?_ ?_
  rotate_left
  · rintro _ ⟨x, rfl⟩
    have hxm0 := m0 x
    have hxm1 := m1 x
    have hxm2 := m2 x
    have hxm3 := m3 x
    have hxm4 := m4 x
    go_simp
    try with_reducible rfl
  try simp only [Act.put, List.setIfInBounds_toArray, List.set_cons_zero, List.set_cons_succ]
  refine' plan_take _ (by rfl) _ (by rfl) ?_ ?_
  rotate_left
  · rintro _ ⟨x, rfl⟩
    have hxm0 := m0 x
    have hxm1 := m1 x
    have hxm2 := m2 x
    have hxm3 := m3 x
    have hxm4 := m4 x
    go_simp
    try with_reducible rfl
  try simp only [Act.put, List.setIfInBounds_toArray, List.set_cons_zero, List.set_cons_succ]
  refine' plan_take _ (by rfl) _ (by rfl) ?_ ?_
  rotate_left
  · rintro _ ⟨x, rfl⟩
    have hxm0 := m0 x
    have hxm1 := m1 x
    have hxm2 := m2 x
    have hxm3 := m3 x
    have hxm4 := m4 x
    go_simp
    try with_reducible rfl
  try simp only [Act.put, List.setIfInBounds_toArray, List.set_cons_zero, List.set_cons_succ]
  refine plan_two ?h1 ?h2
  case' h1 =>
    refine plan_do _ (by rfl) (by rfl) (fun K hK => ?_)
    go_simp
    refine (HG.out.2.1 _ HG.out.2.2.2.2.1.drew).mono ?_
    rintro e w2 ⟨rfl, hb2⟩
    have T2 := TreeOn.below (w := (w.alloc (.cells #[.string ⟨#[]⟩, .string ⟨#[]⟩] 50)).drew) (HG.out.2.2.1.below HG.out.2.2.2.2.1.drew) hb2
    have y2 := (hb2.block w.heap.size (by show w.heap.size < (w.alloc _).heap.size; simp)).trans HG.out.2.2.2.2.2.1
    have B2 := Lib.hid (And.intro T2 (And.intro (HG.out.2.2.2.2.1.drew.trans (hb2.mono HG.out.2.2.2.2.1.drew.size)) y2))
    clear T2 hb2 y2
    try go_simp
    refine hK.out _ _ (HG.out.2.2.2.1 _ B2.out.1) ?_
    clear hK K
    try simp only [Act.put, List.setIfInBounds_toArray, List.set_cons_zero, List.set_cons_succ]
    refine' plan_take _ (by rfl) _ (by rfl) ?_ ?_
    rotate_left
    · rintro _ ⟨x, rfl⟩
      go_simp
      try with_reducible rfl
    try simp only [Act.put, List.setIfInBounds_toArray, List.set_cons_zero, List.set_cons_succ]
    refine' plan_take _ (by rfl) _ (by rfl) ?_ ?_
    rotate_left
    · rintro _ ⟨x, rfl⟩
      go_simp
      try with_reducible rfl
    try simp only [Act.put, List.setIfInBounds_toArray, List.set_cons_zero, List.set_cons_succ]
    refine' plan_take _ (by rfl) _ (by rfl) ?_ ?_
    rotate_left
    · rintro _ ⟨x, rfl⟩
      go_simp
      try with_reducible rfl
    try simp only [Act.put, List.setIfInBounds_toArray, List.set_cons_zero, List.set_cons_succ]
    refine plan_do _ (by rfl) (by rfl) (fun K hK => ?_)
    go_simp
    have A2 := (Below.refl w2.heap.size w2).alloc (Nat.le_refl _) (.cells #[.int .u64 0, .int .u64 0] 126)
    have TA := B2.out.1.below A2
    have BA := B2.out.2.1.trans (A2.mono B2.out.2.1.size)
    have yA := (A2.block w.heap.size (Array.getElem?_eq_some_iff.1 B2.out.2.2).1).trans B2.out.2.2
    have qA := heap_alloc_new w2 (.cells #[.int .u64 0, .int .u64 0] 126)
    have ltA : w.heap.size < w2.heap.size := (Array.getElem?_eq_some_iff.1 B2.out.2.2).1
    clear A2 B2
    generalize w2.alloc (.cells #[.int .u64 0, .int .u64 0] 126) = W at *
    generalize w2.heap.size = b6 at *
    try go_simp
    refine hK.out _ _ (HG.out.2.2.2.1 _ TA) ?_
    clear hK K
    try simp only [Act.put, List.setIfInBounds_toArray, List.set_cons_zero, List.set_cons_succ]
    have c0 : (W).cell? ⟨b6, 0, none⟩ = some (.int .u64 0) := by rw [cell_of_block qA]; rfl
    have c1 : (W).cell? ⟨b6, 1, none⟩ = some (.int .u64 0) := by rw [cell_of_block qA]; rfl
    have f0 : (W).frozen? ⟨b6, 0, none⟩ = false := frozen_of_block qA
    have f1 : (W).frozen? ⟨b6, 1, none⟩ = false := frozen_of_block qA
    have HA := Lib.hid (And.intro TA (And.intro BA (And.intro yA (And.intro qA ltA))))
    clear TA BA yA qA ltA
    refine plan_do _ (by rfl) (by rfl) (fun K hK => ?_)
    go_simp
    have qB := st2_heap HA.out.2.2.2.1 (.int .u64 k0) (.int .u64 k1)
    have BB := st2_below HA.out.2.1 (Nat.le_of_lt HA.out.2.2.2.2) (.int .u64 k0) (.int .u64 k1)
    have yB := (st2_other (Nat.ne_of_lt HA.out.2.2.2.2) (.int .u64 k0) (.int .u64 k1)).trans HA.out.2.2.1
    have TB : TreeOn ((W.setCell ⟨b6, 0, none⟩ (.int .u64 k0)).setCell ⟨b6, 1, none⟩ (.int .u64 k1)) px ps kind root := HG.out.2.2.1.below BB
    have ltB := HA.out.2.2.2.2
    clear c0 c1 f0 f1 HA
    generalize ((W.setCell ⟨b6, 0, none⟩ (.int .u64 k0)).setCell ⟨b6, 1, none⟩ (.int .u64 k1)) = W7 at *
    try go_simp
    refine hK.out _ _ (HG.out.2.2.2.1 _ TB) ?_
    clear hK K
    try simp only [Act.put, List.setIfInBounds_toArray, List.set_cons_zero, List.set_cons_succ]
    refine plan_do _ (by rfl) (by rfl) (fun K hK => ?_)
    go_simp
    try go_simp
    refine hK.out _ _ (HG.out.2.2.2.1 _ TB) ?_
    clear hK K
    try simp only [Act.put, List.setIfInBounds_toArray, List.set_cons_zero, List.set_cons_succ]
    refine plan_nil ?_
    have H7 := Lib.hid (And.intro TB (And.intro BB (And.intro yB (And.intro qB ltB))))
    clear TB BB yB qB ltB
    clear w2
  case' h2 =>
    refine plan_do _ (by rfl) (by rfl) (fun K hK => ?_)
    go_simp
    have A2 := (Below.refl (w.alloc (.cells #[.string ⟨#[]⟩, .string ⟨#[]⟩] 50)).heap.size (w.alloc (.cells #[.string ⟨#[]⟩, .string ⟨#[]⟩] 50))).alloc (Nat.le_refl _) (.cells #[.int .u64 0, .int .u64 0] 126)
    have BA := (HG.out.2.2.2.2.1.trans (A2.mono HG.out.2.2.2.2.1.size)).drew
    have qA : ((w.alloc (.cells #[.string ⟨#[]⟩, .string ⟨#[]⟩] 50)).alloc (.cells #[.int .u64 0, .int .u64 0] 126)).drew.heap[(w.alloc (.cells #[.string ⟨#[]⟩, .string ⟨#[]⟩] 50)).heap.size]? = _ := heap_alloc_new (w.alloc (.cells #[.string ⟨#[]⟩, .string ⟨#[]⟩] 50)) (.cells #[.int .u64 0, .int .u64 0] 126)
    have yA : ((w.alloc (.cells #[.string ⟨#[]⟩, .string ⟨#[]⟩] 50)).alloc (.cells #[.int .u64 0, .int .u64 0] 126)).drew.heap[w.heap.size]? = _ := (A2.block w.heap.size (by simp)).trans HG.out.2.2.2.2.2.1
    have TA := HG.out.2.2.1.below BA
    simp only [World.size_alloc] at qA
    clear A2
    generalize ((w.alloc (.cells #[.string ⟨#[]⟩, .string ⟨#[]⟩] 50)).alloc (.cells #[.int .u64 0, .int .u64 0] 126)).drew = w1 at *
    try go_simp
    refine hK.out _ _ (HG.out.2.2.2.1 _ TA) ?_
    clear hK K
    try simp only [Act.put, List.setIfInBounds_toArray, List.set_cons_zero, List.set_cons_succ]
    have HA0 := Lib.hid (And.intro TA (And.intro BA (And.intro yA qA)))
    clear TA BA yA qA
    refine plan_do _ (by rfl) (by rfl) (fun K hK => ?_)
    go_simp
    refine (HG.out.2.1 _ HA0.out.2.1).mono ?_
    rintro e W ⟨rfl, hb2⟩
    have TA := HA0.out.1.below hb2
    have BA := HA0.out.2.1.trans (hb2.mono HA0.out.2.1.size)
    have yA := (hb2.block w.heap.size (Array.getElem?_eq_some_iff.1 HA0.out.2.2.1).1).trans HA0.out.2.2.1
    have qA := (hb2.block (w.heap.size + 1) (Array.getElem?_eq_some_iff.1 HA0.out.2.2.2).1).trans HA0.out.2.2.2
    have ltA : w.heap.size < w.heap.size + 1 := by omega
    clear hb2 HA0
    generalize w.heap.size + 1 = b6 at *
    try go_simp
    refine hK.out _ _ (HG.out.2.2.2.1 _ TA) ?_
    clear hK K
    try simp only [Act.put, List.setIfInBounds_toArray, List.set_cons_zero, List.set_cons_succ]
    refine' plan_take _ (by rfl) _ (by rfl) ?_ ?_
    rotate_left
    · rintro _ ⟨x, rfl⟩
      go_simp
      try with_reducible rfl
    try simp only [Act.put, List.setIfInBounds_toArray, List.set_cons_zero, List.set_cons_succ]
    refine' plan_take _ (by rfl) _ (by rfl) ?_ ?_
    rotate_left
    · rintro _ ⟨x, rfl⟩
      go_simp
      try with_reducible rfl
    try simp only [Act.put, List.setIfInBounds_toArray, List.set_cons_zero, List.set_cons_succ]
    refine' plan_take _ (by rfl) _ (by rfl) ?_ ?_
    rotate_left
    · rintro _ ⟨x, rfl⟩
      go_simp
      try with_reducible rfl
    try simp only [Act.put, List.setIfInBounds_toArray, List.set_cons_zero, List.set_cons_succ]
    have c0 : (W).cell? ⟨b6, 0, none⟩ = some (.int .u64 0) := by rw [cell_of_block qA]; rfl
    have c1 : (W).cell? ⟨b6, 1, none⟩ = some (.int .u64 0) := by rw [cell_of_block qA]; rfl
    have f0 : (W).frozen? ⟨b6, 0, none⟩ = false := frozen_of_block qA
    have f1 : (W).frozen? ⟨b6, 1, none⟩ = false := frozen_of_block qA
    have HA := Lib.hid (And.intro TA (And.intro BA (And.intro yA (And.intro qA ltA))))
    clear TA BA yA qA ltA
    refine plan_do _ (by rfl) (by rfl) (fun K hK => ?_)
    go_simp
    have qB := st2_heap HA.out.2.2.2.1 (.int .u64 k0) (.int .u64 k1)
    have BB := st2_below HA.out.2.1 (Nat.le_of_lt HA.out.2.2.2.2) (.int .u64 k0) (.int .u64 k1)
    have yB := (st2_other (Nat.ne_of_lt HA.out.2.2.2.2) (.int .u64 k0) (.int .u64 k1)).trans HA.out.2.2.1
    have TB : TreeOn ((W.setCell ⟨b6, 0, none⟩ (.int .u64 k0)).setCell ⟨b6, 1, none⟩ (.int .u64 k1)) px ps kind root := HG.out.2.2.1.below BB
    have ltB := HA.out.2.2.2.2
    clear c0 c1 f0 f1 HA
    generalize ((W.setCell ⟨b6, 0, none⟩ (.int .u64 k0)).setCell ⟨b6, 1, none⟩ (.int .u64 k1)) = W7 at *
    try go_simp
    refine hK.out _ _ (HG.out.2.2.2.1 _ TB) ?_
    clear hK K
    try simp only [Act.put, List.setIfInBounds_toArray, List.set_cons_zero, List.set_cons_succ]
    refine plan_do _ (by rfl) (by rfl) (fun K hK => ?_)
    go_simp
    try go_simp
    refine hK.out _ _ (HG.out.2.2.2.1 _ TB) ?_
    clear hK K
    try simp only [Act.put, List.setIfInBounds_toArray, List.set_cons_zero, List.set_cons_succ]
    refine plan_nil ?_
    have H7 := Lib.hid (And.intro TB (And.intro BB (And.intro yB (And.intro qB ltB))))
    clear TB BB yB qB ltB
    clear w1
  all_goals
    have HT := Lib.hid HG.out.2.2.1
    clear hI0 HG m0 m1 m2 m3 m4 I
    obtain ⟨I, hIi, hIo⟩ := two_class (fun w' => TreeOn w' px ps kind root) (fun w' => w'.heap[b6]? = some (.cells #[.int .u64 k0, .int .u64 k1] 126))
    have hy0 := fun x : Keeps I => (hIi _ x.ok).1
    have hz0 := fun x : Keeps I => (hIi _ x.ok).2
    simp only [TreeOn] at hy0
    have m0 : ∀ x : Keeps I, x.to.cell? ⟨px, 0, none⟩ = some (PV ps) := fun x => by rw [cell_of_block (hy0 x)]; rfl
    have m1 : ∀ x : Keeps I, x.to.cell? ⟨px, 1, none⟩ = some (.int .i64 kind) := fun x => by rw [cell_of_block (hy0 x)]; rfl
    have m2 : ∀ x : Keeps I, x.to.cell? ⟨px, 2, none⟩ = some (.int .i64 0) := fun x => by rw [cell_of_block (hy0 x)]; rfl
    have m3 : ∀ x : Keeps I, x.to.cell? ⟨px, 3, none⟩ = some (.iface 247 (binV ps kind)) := fun x => by rw [cell_of_block (hy0 x)]; rfl
    have m4 : ∀ x : Keeps I, x.to.cell? ⟨px, 4, none⟩ = some (.int .u64 root) := fun x => by rw [cell_of_block (hy0 x)]; rfl
    have n0 : ∀ x : Keeps I, x.to.cell? ⟨b6, 0, none⟩ = some (.int .u64 k0) := fun x => by rw [cell_of_block (hz0 x)]; rfl
    have n1 : ∀ x : Keeps I, x.to.cell? ⟨b6, 1, none⟩ = some (.int .u64 k1) := fun x => by rw [cell_of_block (hz0 x)]; rfl
    have HI := Lib.hid hIo
    clear hIi hIo hy0 hz0
    have HW7 := H7
    clear H7
    have hI0 : I W7.drew := HI.out _ HW7.out.1 HW7.out.2.2.2.1
    go_wp2_with fail
    refine wp_region_plan I (.take 0 (.take 1 (.take 2 (.take 3 (.take 4 (.take 5 (.go 6 (.take 7 (.take 8 (.take 9 (.take 10 (.go 11 .nil)))))))))))) (by kernel_rfl) (by kernel_rfl) hI0 ?_
    clear hI0
    refine' plan_take _ (by rfl) _ (by rfl) ?_ ?_
    rotate_left
    · rintro _ ⟨x, rfl⟩
      have hxm0 := m0 x
      have hxn0 := n0 x
      go_simp
      try with_reducible rfl
    try simp only [Act.put, List.setIfInBounds_toArray, List.set_cons_zero, List.set_cons_succ]
    refine' plan_take _ (by rfl) _ (by rfl) ?_ ?_
    rotate_left
    · rintro _ ⟨x, rfl⟩
      have hxm0 := m0 x
      have hxn0 := n0 x
      go_simp
      try with_reducible rfl
    try simp only [Act.put, List.setIfInBounds_toArray, List.set_cons_zero, List.set_cons_succ]
    refine' plan_take _ (by rfl) _ (by rfl) ?_ ?_
    rotate_left
    · rintro _ ⟨x, rfl⟩
      have hxm0 := m0 x
      have hxn0 := n0 x
      go_simp
      try with_reducible rfl
    try simp only [Act.put, List.setIfInBounds_toArray, List.set_cons_zero, List.set_cons_succ]
    refine' plan_take _ (by rfl) _ (by rfl) ?_ ?_
    rotate_left
    · rintro _ ⟨x, rfl⟩
      have hxm0 := m0 x
      have hxn0 := n0 x
      go_simp
      try with_reducible rfl
    try simp only [Act.put, List.setIfInBounds_toArray, List.set_cons_zero, List.set_cons_succ]
    refine' plan_take _ (by rfl) _ (by rfl) ?_ ?_
    rotate_left
    · rintro _ ⟨x, rfl⟩
      have hxm0 := m0 x
      have hxn0 := n0 x
      go_simp
      try with_reducible rfl
    try simp only [Act.put, List.setIfInBounds_toArray, List.set_cons_zero, List.set_cons_succ]
    refine' plan_take _ (by rfl) _ (by rfl) ?_ ?_
    rotate_left
    · rintro _ ⟨x, rfl⟩
      have hxm0 := m0 x
      have hxn0 := n0 x
      go_simp
      try with_reducible rfl
    try simp only [Act.put, List.setIfInBounds_toArray, List.set_cons_zero, List.set_cons_succ]
    refine plan_do _ (by rfl) (by rfl) (fun K hK => ?_)
    go_simp
    refine (HU.out.1 _ HW7.out.2.1.drew).mono ?_
    rintro e w8 ⟨rfl, hb⟩
    have T2 := TreeOn.below (w := W7.drew) (HW7.out.1.below (Below.refl _ _).drew) hb
    have B2 := HW7.out.2.1.drew.trans (hb.mono HW7.out.2.1.drew.size)
    have y2 := (hb.block w.heap.size (Array.getElem?_eq_some_iff.1 HW7.out.2.2.1).1).trans HW7.out.2.2.1
    have q2 := (hb.block b6 (Array.getElem?_eq_some_iff.1 HW7.out.2.2.2.1).1).trans HW7.out.2.2.2.1
    clear hb
    have c0 : (w8).cell? ⟨w.heap.size, 0, none⟩ = some (.string ⟨#[]⟩) := by rw [cell_of_block y2]; rfl
    have c1 : (w8).cell? ⟨w.heap.size, 1, none⟩ = some (.string ⟨#[]⟩) := by rw [cell_of_block y2]; rfl
    have f0 : (w8).frozen? ⟨w.heap.size, 0, none⟩ = false := frozen_of_block y2
    have f1 : (w8).frozen? ⟨w.heap.size, 1, none⟩ = false := frozen_of_block y2
    have HX := Lib.hid (And.intro T2 (And.intro B2 (And.intro y2 (And.intro q2 HW7.out.2.2.2.2))))
    clear T2 B2 y2 q2
    try go_simp
    refine hK.out _ _ (HI.out _ HX.out.1 HX.out.2.2.2.1) ?_
    clear hK K
    try simp only [Act.put, List.setIfInBounds_toArray, List.set_cons_zero, List.set_cons_succ]
    refine' plan_take _ (by rfl) _ (by rfl) ?_ ?_
    rotate_left
    · rintro _ ⟨x, rfl⟩
      go_simp
      try with_reducible rfl
    try simp only [Act.put, List.setIfInBounds_toArray, List.set_cons_zero, List.set_cons_succ]
    refine' plan_take _ (by rfl) _ (by rfl) ?_ ?_
    rotate_left
    · rintro _ ⟨x, rfl⟩
      go_simp
      try with_reducible rfl
    try simp only [Act.put, List.setIfInBounds_toArray, List.set_cons_zero, List.set_cons_succ]
    refine' plan_take _ (by rfl) _ (by rfl) ?_ ?_
    rotate_left
    · rintro _ ⟨x, rfl⟩
      go_simp
      try with_reducible rfl
    try simp only [Act.put, List.setIfInBounds_toArray, List.set_cons_zero, List.set_cons_succ]
    refine' plan_take _ (by rfl) _ (by rfl) ?_ ?_
    rotate_left
    · rintro _ ⟨x, rfl⟩
      go_simp
      try with_reducible rfl
    try simp only [Act.put, List.setIfInBounds_toArray, List.set_cons_zero, List.set_cons_succ]
    refine plan_do _ (by rfl) (by rfl) (fun K hK => ?_)
    go_simp
    have y3 := heap_setCell HX.out.2.2.1 (v := SV p1) (i := 0)
    have B3 := HX.out.2.1.setCell (p := ⟨w.heap.size, 0, none⟩) (Nat.le_refl _) (SV p1)
    have q3 := (heap_setCell_ne (w := w8) (b := w.heap.size) (i := 0) (v := SV p1) (Nat.ne_of_gt HX.out.2.2.2.2)).trans HX.out.2.2.2.1
    have T3 : TreeOn (w8.setCell ⟨w.heap.size, 0, none⟩ (SV p1)) px ps kind root := HT.out.below B3
    have lt3 := HX.out.2.2.2.2
    clear c0 c1 f0 f1 HX
    generalize w8.setCell ⟨w.heap.size, 0, none⟩ (SV p1) = w8s at *
    try go_simp
    refine hK.out _ _ (HI.out _ T3 q3) ?_
    clear hK K
    try simp only [Act.put, List.setIfInBounds_toArray, List.set_cons_zero, List.set_cons_succ]
    refine plan_nil ?_
    have Hw8s := Lib.hid (And.intro T3 (And.intro B3 (And.intro y3 (And.intro q3 lt3))))
    clear T3 B3 y3 q3 lt3
    have hI0 : I w8s.drew := HI.out _ Hw8s.out.1 Hw8s.out.2.2.2.1
    go_wp2_with fail
    refine wp_region_plan I (.take 0 (.take 1 (.take 2 (.take 3 (.take 4 (.take 5 (.go 6 (.take 7 (.take 8 (.take 9 (.take 10 (.go 11 .nil)))))))))))) (by kernel_rfl) (by kernel_rfl) hI0 ?_
    clear hI0
    refine' plan_take _ (by rfl) _ (by rfl) ?_ ?_
    rotate_left
    · rintro _ ⟨x, rfl⟩
      have hxm0 := m0 x
      have hxn1 := n1 x
      go_simp
      try with_reducible rfl
    try simp only [Act.put, List.setIfInBounds_toArray, List.set_cons_zero, List.set_cons_succ]
    refine' plan_take _ (by rfl) _ (by rfl) ?_ ?_
    rotate_left
    · rintro _ ⟨x, rfl⟩
      have hxm0 := m0 x
      have hxn1 := n1 x
      go_simp
      try with_reducible rfl
    try simp only [Act.put, List.setIfInBounds_toArray, List.set_cons_zero, List.set_cons_succ]
    refine' plan_take _ (by rfl) _ (by rfl) ?_ ?_
    rotate_left
    · rintro _ ⟨x, rfl⟩
      have hxm0 := m0 x
      have hxn1 := n1 x
      go_simp
      try with_reducible rfl
    try simp only [Act.put, List.setIfInBounds_toArray, List.set_cons_zero, List.set_cons_succ]
    refine' plan_take _ (by rfl) _ (by rfl) ?_ ?_
    rotate_left
    · rintro _ ⟨x, rfl⟩
      have hxm0 := m0 x
      have hxn1 := n1 x
      go_simp
      try with_reducible rfl
    try simp only [Act.put, List.setIfInBounds_toArray, List.set_cons_zero, List.set_cons_succ]
    refine' plan_take _ (by rfl) _ (by rfl) ?_ ?_
    rotate_left
    · rintro _ ⟨x, rfl⟩
      have hxm0 := m0 x
      have hxn1 := n1 x
      go_simp
      try with_reducible rfl
    try simp only [Act.put, List.setIfInBounds_toArray, List.set_cons_zero, List.set_cons_succ]
    refine' plan_take _ (by rfl) _ (by rfl) ?_ ?_
    rotate_left
    · rintro _ ⟨x, rfl⟩
      have hxm0 := m0 x
      have hxn1 := n1 x
      go_simp
      try with_reducible rfl
    try simp only [Act.put, List.setIfInBounds_toArray, List.set_cons_zero, List.set_cons_succ]
    refine plan_do _ (by rfl) (by rfl) (fun K hK => ?_)
    go_simp
    refine (HU.out.2 _ Hw8s.out.2.1.drew).mono ?_
    rintro e w9 ⟨rfl, hb⟩
    have T2 := TreeOn.below (w := w8s.drew) (Hw8s.out.1.below (Below.refl _ _).drew) hb
    have B2 := Hw8s.out.2.1.drew.trans (hb.mono Hw8s.out.2.1.drew.size)
    have y2 := (hb.block w.heap.size (Array.getElem?_eq_some_iff.1 Hw8s.out.2.2.1).1).trans Hw8s.out.2.2.1
    have q2 := (hb.block b6 (Array.getElem?_eq_some_iff.1 Hw8s.out.2.2.2.1).1).trans Hw8s.out.2.2.2.1
    clear hb
    have c0 : (w9).cell? ⟨w.heap.size, 0, none⟩ = some (SV p1) := by rw [cell_of_block y2]; rfl
    have c1 : (w9).cell? ⟨w.heap.size, 1, none⟩ = some (.string ⟨#[]⟩) := by rw [cell_of_block y2]; rfl
    have f0 : (w9).frozen? ⟨w.heap.size, 0, none⟩ = false := frozen_of_block y2
    have f1 : (w9).frozen? ⟨w.heap.size, 1, none⟩ = false := frozen_of_block y2
    have HX := Lib.hid (And.intro T2 (And.intro B2 (And.intro y2 (And.intro q2 Hw8s.out.2.2.2.2))))
    clear T2 B2 y2 q2
    try go_simp
    refine hK.out _ _ (HI.out _ HX.out.1 HX.out.2.2.2.1) ?_
    clear hK K
    try simp only [Act.put, List.setIfInBounds_toArray, List.set_cons_zero, List.set_cons_succ]
    refine' plan_take _ (by rfl) _ (by rfl) ?_ ?_
    rotate_left
    · rintro _ ⟨x, rfl⟩
      go_simp
      try with_reducible rfl
    try simp only [Act.put, List.setIfInBounds_toArray, List.set_cons_zero, List.set_cons_succ]
    refine' plan_take _ (by rfl) _ (by rfl) ?_ ?_
    rotate_left
    · rintro _ ⟨x, rfl⟩
      go_simp
      try with_reducible rfl
    try simp only [Act.put, List.setIfInBounds_toArray, List.set_cons_zero, List.set_cons_succ]
    refine' plan_take _ (by rfl) _ (by rfl) ?_ ?_
    rotate_left
    · rintro _ ⟨x, rfl⟩
      go_simp
      try with_reducible rfl
    try simp only [Act.put, List.setIfInBounds_toArray, List.set_cons_zero, List.set_cons_succ]
    refine' plan_take _ (by rfl) _ (by rfl) ?_ ?_
    rotate_left
    · rintro _ ⟨x, rfl⟩
      go_simp
      try with_reducible rfl
    try simp only [Act.put, List.setIfInBounds_toArray, List.set_cons_zero, List.set_cons_succ]
    refine plan_do _ (by rfl) (by rfl) (fun K hK => ?_)
    go_simp
    have y3 := heap_setCell HX.out.2.2.1 (v := SV p2) (i := 1)
    have B3 := HX.out.2.1.setCell (p := ⟨w.heap.size, 1, none⟩) (Nat.le_refl _) (SV p2)
    have q3 := (heap_setCell_ne (w := w9) (b := w.heap.size) (i := 1) (v := SV p2) (Nat.ne_of_gt HX.out.2.2.2.2)).trans HX.out.2.2.2.1
    have T3 : TreeOn (w9.setCell ⟨w.heap.size, 1, none⟩ (SV p2)) px ps kind root := HT.out.below B3
    have lt3 := HX.out.2.2.2.2
    clear c0 c1 f0 f1 HX
    generalize w9.setCell ⟨w.heap.size, 1, none⟩ (SV p2) = w9s at *
    try go_simp
    refine hK.out _ _ (HI.out _ T3 q3) ?_
    clear hK K
    try simp only [Act.put, List.setIfInBounds_toArray, List.set_cons_zero, List.set_cons_succ]
    refine plan_nil ?_
    have Hw9s := Lib.hid (And.intro T3 (And.intro B3 (And.intro y3 (And.intro q3 lt3))))
    clear T3 B3 y3 q3 lt3
    have y := Hw9s.out.2.2.1
    have y' : w9s.heap[w.heap.size]? = some (.cells #[SV p1, SV p2] 50) := y
    have c0 : (w9s).cell? ⟨w.heap.size, 0, none⟩ = some (SV p1) := by rw [cell_of_block y']; rfl
    have c1 : (w9s).cell? ⟨w.heap.size, 1, none⟩ = some (SV p2) := by rw [cell_of_block y']; rfl
    have f0 : (w9s).frozen? ⟨w.heap.size, 0, none⟩ = false := frozen_of_block y'
    have f1 : (w9s).frozen? ⟨w.heap.size, 1, none⟩ = false := frozen_of_block y'
    have q5 := st2_heap y' (SV p1) (SV p2)
    have B5 := st2_below Hw9s.out.2.1 (Nat.le_refl _) (SV p1) (SV p2)
    have HB := Lib.hid (And.intro q5 B5)
    clear y y' q5 B5
    go_wp2_with fail
    obtain ⟨q5, B5⟩ := HB.out
    generalize ((w9s.setCell ⟨w.heap.size, 0, none⟩ (SV p1)).setCell ⟨w.heap.size, 1, none⟩ (SV p2)) = wF at *
    have e0 : (wF).cell? ⟨w.heap.size, 0, none⟩ = some (SV p1) := by rw [cell_of_block q5]; rfl
    have e1 : (wF).cell? ⟨w.heap.size, 1, none⟩ = some (SV p2) := by rw [cell_of_block q5]; rfl
    exact bodyPost_ret (v := .tuple #[.agg #[SV p1, SV p2], .int .i64 0]) (by simp [results, Tryz.f60, go_sem, e0, e1]) rfl ⟨rfl, B5⟩
end Go.Proofs.YtoaabbnieakidaaGreatDoorR
