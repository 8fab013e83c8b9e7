/- Trees of any kind, maps: Put of a key that is there: the walks. The checks that tell of a store, by computation, that it is well: plain Lean, no program in sight. -/
import Derived.Test.YtoaabbnieakidaaGreatDoorRGbq
import Derived.Test.YtoaabbnieakidaaGreatDoorRGbm
import Derived.Test.YtoaabbnieakidaaGreatDoorRGbb
import Derived.Test.YtoaabbnieakidaaGreatDoorRGbc
namespace Go.Proofs.YtoaabbnieakidaaGreatDoorR
open Go.RowKit Go.BigFrame Go.Maps Go.WideMaps Lf

/-- Put of a key that was there, where all is well: the root, the elder item, the store -/
def Lf.treeRepM (jn : Jn) (S : St) (root : Nat) (a b : List UInt8) : Option ((Nat × Nat × Nat) × St) :=
  match itemsM S a b with
  | none => none
  | some (p, S1) => binRepM jn S1 root p.1 p.2

set_option maxRecDepth 100000 in
set_option maxHeartbeats 6400000 in
theorem tree_put_was {w : World} {px ps kind root : Nat} {S S' : St} {Y : Nat → Prop} (h : StOn w ps S Y) (hi : Inv S) (hT : TreeOn w px ps kind root) (hpx : Y px) (hl : root < 18446744073709551616) {j c : FuncId} {jn : Jn} (hk : KindOk kind j c jn) (a b : List UInt8) (hm : PutOk S a b) {x ik iv : Nat} (hx : treeRepM jn S root a b = some ((x, ik, iv), S')) (hik : ik < 18446744073709551616) (hiv : iv < 18446744073709551616) (hi' : Inv S') (hg : (getBlob S' iv).2 ≠ 8) (hi2 : Inv (S'.drop ik).2) :
    Calls Tryz.prog 53 #[PV px, prV (a, b)] w fun e w' => e = .returned (.tuple #[SV (getBlob S' iv).1, .bool true, .int .i64 0]) ∧ StOn w' ps ((S'.drop ik).2.drop iv).2 Y ∧ Keep (fun k => Y k ∧ k ≠ px) w w' ∧ TreeOn w' px ps kind x ∧ x < 18446744073709551616 := by
  unfold treeRepM at hx
  split at hx
  · cases hx
  rename_i p S1 hp
  have hm6 := hm.2 _ _ hp
  have ha1 : (1000 < (a.length : Int)) = False := eq_false (by have := hm.1.1; omega)
  have hb1 : (1000 < (b.length : Int)) = False := eq_false (by have := hm.1.2.1; omega)
  have B0 := (Below.refl w.heap.size w).alloc (Nat.le_refl _) (.cells #[SV a, SV b] 50)
  have hn := tree_none (hT.below B0)
  have hit := tree_item (h.below B0) hi (hT.below B0) hpx a b hm.1 hp
  have hin := fun W Z (hp1 : p.1 < 18446744073709551616) (hp2 : p.2 < 18446744073709551616) (hW : StOn W ps S1 Z) => bin_insert_was hW hm6 hk root p.1 p.2 hl hp1 hp2 hx hi'
  have hgo := fun W Z (hW : StOn W ps S' Z) (hT : TreeOn W px ps kind x) (hy : Z px) => tree_gone hW hi' hT hy ik iv hik hiv hg hi2
  generalize (getBlob S' iv).1 = tv at *
  have hY := h.yl
  have hT0 := hT.below B0
  have hK0 := Keep.of_below B0 hY
  obtain ⟨p1, p2⟩ := p
  simp only [prV, itV] at hit hin hgo ⊢
  have hme := meth_insert
  have HG := Lib.hid (And.intro hn (And.intro hit (And.intro hin (And.intro hgo (And.intro hpx (And.intro hY (And.intro hT0 hK0)))))))
  clear hn hit hin hgo B0 h hi hT hm hm6 hk hp hY hT0 hK0 hx hik hiv hi' hg hi2
  go_enter Tryz.func53, Tryz.ntmps53
  go_wp2_with fail
  refine HG.out.1.mono ?_
  rintro e w0 ⟨rfl, rfl⟩
  go_wp2_with fail
  refine HG.out.2.1.mono ?_
  rintro e w1 ⟨rfl, s1, k1, i1, l1, l2⟩
  have A2 := (Below.refl w1.heap.size w1).alloc (Nat.le_refl _) (.cells #[.int .u64 p1, .int .u64 p2] 126)
  have q2 := heap_alloc_new w1 (.cells #[.int .u64 p1, .int .u64 p2] 126)
  have s2 := s1.wide A2
  have z2 : (w1.alloc (.cells #[.int .u64 p1, .int .u64 p2] 126)).heap.size = w1.heap.size + 1 := by simp
  have K2 := HG.out.2.2.2.2.2.2.2.trans (k1.trans (s1.keep A2))
  have T2 : TreeOn (w1.alloc (.cells #[.int .u64 p1, .int .u64 p2] 126)) px ps kind root := HG.out.2.2.2.2.2.2.1.keep (k1.trans (s1.keep A2)) HG.out.2.2.2.2.1
  have ins := fun W Z => HG.out.2.2.1 W Z l1 l2
  have le1 : w.heap.size ≤ w1.heap.size := by have := (HG.out.2.2.2.2.2.2.2.trans k1).size; exact this
  rw [z2] at s2
  clear s1 k1 i1 A2
  go_wp2_with fail
  generalize hw2 : w1.alloc (.cells #[.int .u64 p1, .int .u64 p2] 126) = w2 at *
  generalize hb7 : w1.heap.size = b7 at *
  clear hw2 hb7 w1
  have H2 := Lib.hid (And.intro T2 (And.intro s2 (And.intro K2 (And.intro q2 (And.intro ins (And.intro le1 z2))))))
  obtain ⟨I, hIi, hIo⟩ := two_class (fun w' => TreeOn w' px ps kind root) (fun w' => w'.heap[b7]? = some (.cells #[.int .u64 p1, .int .u64 p2] 126))
  have hy0 := fun x : Keeps I => (hIi _ x.ok).1
  have hz0 := fun x : Keeps I => (hIi _ x.ok).2
  simp only [TreeOn] at hy0
  have m0 : ∀ x : Keeps I, x.to.cell? ⟨px, 0, none⟩ = some (PV ps) := fun x => by rw [cell_of_block (hy0 x)]; rfl
  have m1 : ∀ x : Keeps I, x.to.cell? ⟨px, 1, none⟩ = some (.int .i64 kind) := fun x => by rw [cell_of_block (hy0 x)]; rfl
  have m2 : ∀ x : Keeps I, x.to.cell? ⟨px, 2, none⟩ = some (.int .i64 0) := fun x => by rw [cell_of_block (hy0 x)]; rfl
  have m3 : ∀ x : Keeps I, x.to.cell? ⟨px, 3, none⟩ = some (.iface 247 (binV ps kind)) := fun x => by rw [cell_of_block (hy0 x)]; rfl
  have m4 : ∀ x : Keeps I, x.to.cell? ⟨px, 4, none⟩ = some (.int .u64 root) := fun x => by rw [cell_of_block (hy0 x)]; rfl
  have n0 : ∀ x : Keeps I, x.to.cell? ⟨b7, 0, none⟩ = some (.int .u64 p1) := fun x => by rw [cell_of_block (hz0 x)]; rfl
  have n1 : ∀ x : Keeps I, x.to.cell? ⟨b7, 1, none⟩ = some (.int .u64 p2) := fun x => by rw [cell_of_block (hz0 x)]; rfl
  have hI0 : I w2.drew := hIo _ T2 q2
  have HI := Lib.hid hIo
  clear hIi hIo hy0 hz0 T2 s2 K2 q2 ins le1 z2
  refine wp_region_plan I (.take 0 (.take 1 (.take 2 (.take 3 (.take 4 (.take 5 (.take 6 (.take 7 (.take 8 (.take 9 (.take 10 (.two 11 17 (.take 12 (.take 13 (.take 14 (.take 15 (.take 16 (.go 17 (.go 18 (.go 19 (.go 20 (.go 21 .nil)))))))))) (.go 11 (.take 12 (.take 13 (.take 14 (.take 15 (.take 16 (.go 18 (.go 19 (.go 20 (.go 21 .nil)))))))))))))))))))))) (by kernel_rfl) (by kernel_rfl) hI0 ?_
  clear hI0
  refine' plan_take _ (by rfl) _ (by rfl) ?_ ?_
  rotate_left
  · rintro _ ⟨x, rfl⟩
    have hxm0 := m0 x
    have hxm1 := m1 x
    have hxm2 := m2 x
    have hxm3 := m3 x
    have hxm4 := m4 x
    have hxn0 := n0 x
    have hxn1 := n1 x
    go_simp
    try with_reducible rfl
  try simp only [Act.put, List.setIfInBounds_toArray, List.set_cons_zero, List.set_cons_succ]
  refine' plan_take _ (by rfl) _ (by rfl) ?_ ?_
  rotate_left
  · rintro _ ⟨x, rfl⟩
    have hxm0 := m0 x
    have hxm1 := m1 x
    have hxm2 := m2 x
    have hxm3 := m3 x
    have hxm4 := m4 x
    have hxn0 := n0 x
    have hxn1 := n1 x
    go_simp
    try with_reducible rfl
  try simp only [Act.put, List.setIfInBounds_toArray, List.set_cons_zero, List.set_cons_succ]
  refine' plan_take _ (by rfl) _ (by rfl) ?_ ?_
  rotate_left
  · rintro _ ⟨x, rfl⟩
    have hxm0 := m0 x
    have hxm1 := m1 x
    have hxm2 := m2 x
    have hxm3 := m3 x
    have hxm4 := m4 x
    have hxn0 := n0 x
    have hxn1 := n1 x
    go_simp
    try with_reducible rfl
  try simp only [Act.put, List.setIfInBounds_toArray, List.set_cons_zero, List.set_cons_succ]
  refine' plan_take _ (by rfl) _ (by rfl) ?_ ?_
  rotate_left
  · rintro _ ⟨x, rfl⟩
    have hxm0 := m0 x
    have hxm1 := m1 x
    have hxm2 := m2 x
    have hxm3 := m3 x
    have hxm4 := m4 x
    have hxn0 := n0 x
    have hxn1 := n1 x
    go_simp
    try with_reducible rfl
  try simp only [Act.put, List.setIfInBounds_toArray, List.set_cons_zero, List.set_cons_succ]
  refine' plan_take _ (by rfl) _ (by rfl) ?_ ?_
  rotate_left
  · rintro _ ⟨x, rfl⟩
    have hxm0 := m0 x
    have hxm1 := m1 x
    have hxm2 := m2 x
    have hxm3 := m3 x
    have hxm4 := m4 x
    have hxn0 := n0 x
    have hxn1 := n1 x
    go_simp
    try with_reducible rfl
  try simp only [Act.put, List.setIfInBounds_toArray, List.set_cons_zero, List.set_cons_succ]
  refine' plan_take _ (by rfl) _ (by rfl) ?_ ?_
  rotate_left
  · rintro _ ⟨x, rfl⟩
    have hxm0 := m0 x
    have hxm1 := m1 x
    have hxm2 := m2 x
    have hxm3 := m3 x
    have hxm4 := m4 x
    have hxn0 := n0 x
    have hxn1 := n1 x
    go_simp
    try with_reducible rfl
  try simp only [Act.put, List.setIfInBounds_toArray, List.set_cons_zero, List.set_cons_succ]
  refine' plan_take _ (by rfl) _ (by rfl) ?_ ?_
  rotate_left
  · rintro _ ⟨x, rfl⟩
    have hxm0 := m0 x
    have hxm1 := m1 x
    have hxm2 := m2 x
    have hxm3 := m3 x
    have hxm4 := m4 x
    have hxn0 := n0 x
    have hxn1 := n1 x
    go_simp
    try with_reducible rfl
  try simp only [Act.put, List.setIfInBounds_toArray, List.set_cons_zero, List.set_cons_succ]
  refine' plan_take _ (by rfl) _ (by rfl) ?_ ?_
  rotate_left
  · rintro _ ⟨x, rfl⟩
    have hxm0 := m0 x
    have hxm1 := m1 x
    have hxm2 := m2 x
    have hxm3 := m3 x
    have hxm4 := m4 x
    have hxn0 := n0 x
    have hxn1 := n1 x
    go_simp
    try with_reducible rfl
  try simp only [Act.put, List.setIfInBounds_toArray, List.set_cons_zero, List.set_cons_succ]
  refine' plan_take _ (by rfl) _ (by rfl) ?_ ?_
  rotate_left
  · rintro _ ⟨x, rfl⟩
    have hxm0 := m0 x
    have hxm1 := m1 x
    have hxm2 := m2 x
    have hxm3 := m3 x
    have hxm4 := m4 x
    have hxn0 := n0 x
    have hxn1 := n1 x
    go_simp
    try with_reducible rfl
  try simp only [Act.put, List.setIfInBounds_toArray, List.set_cons_zero, List.set_cons_succ]
  refine' plan_take _ (by rfl) _ (by rfl) ?_ ?_
  rotate_left
  · rintro _ ⟨x, rfl⟩
    have hxm0 := m0 x
    have hxm1 := m1 x
    have hxm2 := m2 x
    have hxm3 := m3 x
    have hxm4 := m4 x
    have hxn0 := n0 x
    have hxn1 := n1 x
    go_simp
    try with_reducible rfl
  try simp only [Act.put, List.setIfInBounds_toArray, List.set_cons_zero, List.set_cons_succ]
  refine' plan_take _ (by rfl) _ (by rfl) ?_ ?_
  rotate_left
  · rintro _ ⟨x, rfl⟩
    have hxm0 := m0 x
    have hxm1 := m1 x
    have hxm2 := m2 x
    have hxm3 := m3 x
    have hxm4 := m4 x
    have hxn0 := n0 x
    have hxn1 := n1 x
    go_simp
    try with_reducible rfl
  try simp only [Act.put, List.setIfInBounds_toArray, List.set_cons_zero, List.set_cons_succ]
  refine plan_two ?h1 ?h2
  case' h1 =>
    refine plan_do _ (by rfl) (by rfl) (fun K hK => ?_)
    go_simp
    refine (H2.out.2.2.2.2.1 _ _ (H2.out.2.1.below (Below.refl _ _).drew)).mono ?_
    rintro e w3 ⟨rfl, s3, k3, i3, x3⟩
    have T3 := TreeOn.keep (w := w2.drew) H2.out.1 k3 (Or.inl HG.out.2.2.2.2.1)
    have q3 : w3.heap[b7]? = some (.cells #[.int .u64 p1, .int .u64 p2] 126) := (k3.block b7 (Or.inr ⟨Nat.le_refl _, Nat.lt_succ_self _⟩)).trans H2.out.2.2.2.1
    have H3 := Lib.hid (And.intro T3 (And.intro q3 (And.intro s3 (And.intro (k3.mono (Z := Y) fun k hk => Or.inl hk) (And.intro i3 x3)))))
    clear T3 q3 s3 k3 i3 x3
    try go_simp
    refine hK.out _ _ (HI.out _ H3.out.1 H3.out.2.1) ?_
    clear hK K
    try simp only [Act.put, List.setIfInBounds_toArray, List.set_cons_zero, List.set_cons_succ]
    refine' plan_take _ (by rfl) _ (by rfl) ?_ ?_
    rotate_left
    · rintro _ ⟨x, rfl⟩
      go_simp
      try with_reducible rfl
    try simp only [Act.put, List.setIfInBounds_toArray, List.set_cons_zero, List.set_cons_succ]
    refine' plan_take _ (by rfl) _ (by rfl) ?_ ?_
    rotate_left
    · rintro _ ⟨x, rfl⟩
      go_simp
      try with_reducible rfl
    try simp only [Act.put, List.setIfInBounds_toArray, List.set_cons_zero, List.set_cons_succ]
    refine' plan_take _ (by rfl) _ (by rfl) ?_ ?_
    rotate_left
    · rintro _ ⟨x, rfl⟩
      go_simp
      try with_reducible rfl
    try simp only [Act.put, List.setIfInBounds_toArray, List.set_cons_zero, List.set_cons_succ]
    refine' plan_take _ (by rfl) _ (by rfl) ?_ ?_
    rotate_left
    · rintro _ ⟨x, rfl⟩
      go_simp
      try with_reducible rfl
    try simp only [Act.put, List.setIfInBounds_toArray, List.set_cons_zero, List.set_cons_succ]
    refine' plan_take _ (by rfl) _ (by rfl) ?_ ?_
    rotate_left
    · rintro _ ⟨x, rfl⟩
      go_simp
      try with_reducible rfl
    try simp only [Act.put, List.setIfInBounds_toArray, List.set_cons_zero, List.set_cons_succ]
    refine plan_do _ (by rfl) (by rfl) (fun K hK => ?_)
    go_simp
    have A4 := (Below.refl w3.heap.size w3).alloc (Nat.le_refl _) (.cells #[.int .u64 0, .int .u64 0] 126)
    have TA := H3.out.1.below A4
    have q4 := (A4.block b7 (Array.getElem?_eq_some_iff.1 H3.out.2.1).1).trans H3.out.2.1
    have sA := ((H3.out.2.2.1.mono (Z := Y) fun k hk => Or.inl hk).wide A4).mono (Z := fun k => Y k ∨ k = w3.heap.size) (fun k hk => hk.imp id fun e => ⟨by omega, by simp; omega⟩)
    have kA := (H2.out.2.2.1.trans (Keep.drewN Y w2 1)).trans (H3.out.2.2.2.1.trans ((H3.out.2.2.1.mono (Z := Y) fun k hk => Or.inl hk).keep A4))
    have qA := heap_alloc_new w3 (.cells #[.int .u64 0, .int .u64 0] 126)
    have lA : w.heap.size ≤ w3.heap.size := ((H2.out.2.2.1.trans (Keep.drewN Y w2 1)).trans H3.out.2.2.2.1).size
    have iA := H3.out.2.2.2.2
    have nb : b7 ≠ w3.heap.size := Nat.ne_of_lt (Array.getElem?_eq_some_iff.1 H3.out.2.1).1
    clear A4 H3
    generalize w3.alloc (.cells #[.int .u64 0, .int .u64 0] 126) = W at *
    generalize w3.heap.size = b9 at *
    try go_simp
    refine hK.out _ _ (HI.out _ TA q4) ?_
    clear hK K
    try simp only [Act.put, List.setIfInBounds_toArray, List.set_cons_zero, List.set_cons_succ]
    refine plan_do _ (by rfl) (by rfl) (fun K hK => ?_)
    go_simp
    try go_simp
    refine hK.out _ _ (HI.out _ TA q4) ?_
    clear hK K
    try simp only [Act.put, List.setIfInBounds_toArray, List.set_cons_zero, List.set_cons_succ]
    have c0 : (W).cell? ⟨b9, 0, none⟩ = some (.int .u64 0) := by rw [cell_of_block qA]; rfl
    have c1 : (W).cell? ⟨b9, 1, none⟩ = some (.int .u64 0) := by rw [cell_of_block qA]; rfl
    have f0 : (W).frozen? ⟨b9, 0, none⟩ = false := frozen_of_block qA
    have f1 : (W).frozen? ⟨b9, 1, none⟩ = false := frozen_of_block qA
    have HA := Lib.hid (And.intro TA (And.intro sA (And.intro kA (And.intro qA (And.intro lA iA)))))
    clear TA sA kA qA lA iA
    refine plan_do _ (by rfl) (by rfl) (fun K hK => ?_)
    go_simp
    have q5 : ((W.setCell ⟨b9, 0, none⟩ (.int .u64 ik)).setCell ⟨b9, 1, none⟩ (.int .u64 iv)).heap[b7]? = some (.cells #[.int .u64 p1, .int .u64 p2] 126) := (st2_other nb _ _).trans q4
    have hne : px ≠ b9 := by have := HG.out.2.2.2.2.2.1 px HG.out.2.2.2.2.1; have := HA.out.2.2.2.2.1; omega
    have qB := st2_heap HA.out.2.2.2.1 (.int .u64 ik) (.int .u64 iv)
    have oB : ∀ k, k ≠ b9 → ((W.setCell ⟨b9, 0, none⟩ (.int .u64 ik)).setCell ⟨b9, 1, none⟩ (.int .u64 iv)).heap[k]? = W.heap[k]? := fun k hk => st2_other hk _ _
    have sB : StOn ((W.setCell ⟨b9, 0, none⟩ (.int .u64 ik)).setCell ⟨b9, 1, none⟩ (.int .u64 iv)) ps S' Y := (HA.out.2.1.write (Or.inr rfl) HA.out.2.2.2.1 ⟨by decide, by decide⟩ (by simp) (by simp) fun k _ hk => oB k hk).mono fun k hk => Or.inl hk
    have kB : Keep Y w ((W.setCell ⟨b9, 0, none⟩ (.int .u64 ik)).setCell ⟨b9, 1, none⟩ (.int .u64 iv)) := HA.out.2.2.1.trans ⟨rfl, rfl, rfl, by simp, fun k hk => oB k (by have := HG.out.2.2.2.2.2.1 k hk; have := HA.out.2.2.2.2.1; omega)⟩
    have P7 : DeAt w ((W.setCell ⟨b9, 0, none⟩ (.int .u64 ik)).setCell ⟨b9, 1, none⟩ (.int .u64 iv)) px ps kind root S' Y b9 ik iv := ⟨(oB px hne).trans HA.out.1, sB, kB, qB, HA.out.2.2.2.2.1⟩
    have Hi7 := Lib.hid HA.out.2.2.2.2.2
    clear c0 c1 f0 f1 HA qB oB sB kB hne
    have H7 := Lib.hid P7
    clear P7
    generalize ((W.setCell ⟨b9, 0, none⟩ (.int .u64 ik)).setCell ⟨b9, 1, none⟩ (.int .u64 iv)) = W7 at *
    try go_simp
    refine hK.out _ _ (HI.out _ H7.out.t q5) ?_
    clear hK K
    try simp only [Act.put, List.setIfInBounds_toArray, List.set_cons_zero, List.set_cons_succ]
    refine plan_do _ (by rfl) (by rfl) (fun K hK => ?_)
    go_simp
    try go_simp
    refine hK.out _ _ (HI.out _ H7.out.t q5) ?_
    clear hK K
    try simp only [Act.put, List.setIfInBounds_toArray, List.set_cons_zero, List.set_cons_succ]
    refine plan_do _ (by rfl) (by rfl) (fun K hK => ?_)
    go_simp
    try go_simp
    refine hK.out _ _ (HI.out _ H7.out.t q5) ?_
    clear hK K
    try simp only [Act.put, List.setIfInBounds_toArray, List.set_cons_zero, List.set_cons_succ]
    refine plan_nil ?_
    clear q4 q5 w3 nb
  case' h2 =>
    refine plan_do _ (by rfl) (by rfl) (fun K hK => ?_)
    go_simp
    have A3 := ((Below.refl w2.heap.size w2).alloc (Nat.le_refl _) (.cells #[.int .u64 0, .int .u64 0] 126)).drew
    have T3 := H2.out.1.below A3
    have q3 := (A3.block b7 (Array.getElem?_eq_some_iff.1 H2.out.2.2.2.1).1).trans H2.out.2.2.2.1
    have qz : (w2.alloc (.cells #[.int .u64 0, .int .u64 0] 126)).drew.heap[w2.heap.size]? = _ := heap_alloc_new w2 (.cells #[.int .u64 0, .int .u64 0] 126)
    have s3 := H2.out.2.1.wide A3
    have z3 : (w2.alloc (.cells #[.int .u64 0, .int .u64 0] 126)).drew.heap.size = w2.heap.size + 1 := by show (w2.alloc _).heap.size = _; simp
    have k3 := H2.out.2.2.1.trans ((H2.out.2.1.mono (Z := Y) fun k hk => Or.inl hk).keep A3)
    have nb : b7 ≠ w2.heap.size := by have := H2.out.2.2.2.2.2.2; omega
    have lz : w.heap.size ≤ w2.heap.size := H2.out.2.2.1.size
    rw [z3] at s3
    clear A3 z3
    generalize (w2.alloc (.cells #[.int .u64 0, .int .u64 0] 126)).drew = w3 at *
    generalize w2.heap.size = b9 at *
    try go_simp
    refine hK.out _ _ (HI.out _ T3 q3) ?_
    clear hK K
    try simp only [Act.put, List.setIfInBounds_toArray, List.set_cons_zero, List.set_cons_succ]
    have H3 := Lib.hid (And.intro T3 (And.intro q3 (And.intro s3 (And.intro k3 (And.intro qz lz)))))
    clear T3 q3 s3 k3 qz lz
    refine plan_do _ (by rfl) (by rfl) (fun K hK => ?_)
    go_simp
    refine (H2.out.2.2.2.2.1 _ _ H3.out.2.2.1).mono ?_
    rintro e W ⟨rfl, s4, k4, i4, x4⟩
    have TA := TreeOn.keep (w := w3) H3.out.1 k4 (Or.inl (Or.inl HG.out.2.2.2.2.1))
    have q4 : W.heap[b7]? = some (.cells #[.int .u64 p1, .int .u64 p2] 126) := (k4.block b7 (Or.inl (Or.inr ⟨Nat.le_refl _, Nat.lt_succ_self _⟩))).trans H3.out.2.1
    have sA := s4.mono (Z := fun k => Y k ∨ k = b9) (fun k hk => hk.elim (fun h => Or.inl (Or.inl h)) fun e => Or.inr ⟨by omega, by omega⟩)
    have kA := H3.out.2.2.2.1.trans (k4.mono (Z := Y) fun k hk => Or.inl (Or.inl hk))
    have qA : W.heap[b9]? = some (.cells #[.int .u64 0, .int .u64 0] 126) := (k4.block b9 (Or.inr ⟨Nat.le_refl _, Nat.lt_succ_self _⟩)).trans H3.out.2.2.2.2.1
    have lA := H3.out.2.2.2.2.2
    have iA := And.intro i4 x4
    clear s4 k4 i4 x4 H3
    try go_simp
    refine hK.out _ _ (HI.out _ TA q4) ?_
    clear hK K
    try simp only [Act.put, List.setIfInBounds_toArray, List.set_cons_zero, List.set_cons_succ]
    refine' plan_take _ (by rfl) _ (by rfl) ?_ ?_
    rotate_left
    · rintro _ ⟨x, rfl⟩
      go_simp
      try with_reducible rfl
    try simp only [Act.put, List.setIfInBounds_toArray, List.set_cons_zero, List.set_cons_succ]
    refine' plan_take _ (by rfl) _ (by rfl) ?_ ?_
    rotate_left
    · rintro _ ⟨x, rfl⟩
      go_simp
      try with_reducible rfl
    try simp only [Act.put, List.setIfInBounds_toArray, List.set_cons_zero, List.set_cons_succ]
    refine' plan_take _ (by rfl) _ (by rfl) ?_ ?_
    rotate_left
    · rintro _ ⟨x, rfl⟩
      go_simp
      try with_reducible rfl
    try simp only [Act.put, List.setIfInBounds_toArray, List.set_cons_zero, List.set_cons_succ]
    refine' plan_take _ (by rfl) _ (by rfl) ?_ ?_
    rotate_left
    · rintro _ ⟨x, rfl⟩
      go_simp
      try with_reducible rfl
    try simp only [Act.put, List.setIfInBounds_toArray, List.set_cons_zero, List.set_cons_succ]
    refine' plan_take _ (by rfl) _ (by rfl) ?_ ?_
    rotate_left
    · rintro _ ⟨x, rfl⟩
      go_simp
      try with_reducible rfl
    try simp only [Act.put, List.setIfInBounds_toArray, List.set_cons_zero, List.set_cons_succ]
    refine plan_do _ (by rfl) (by rfl) (fun K hK => ?_)
    go_simp
    try go_simp
    refine hK.out _ _ (HI.out _ TA q4) ?_
    clear hK K
    try simp only [Act.put, List.setIfInBounds_toArray, List.set_cons_zero, List.set_cons_succ]
    have c0 : (W).cell? ⟨b9, 0, none⟩ = some (.int .u64 0) := by rw [cell_of_block qA]; rfl
    have c1 : (W).cell? ⟨b9, 1, none⟩ = some (.int .u64 0) := by rw [cell_of_block qA]; rfl
    have f0 : (W).frozen? ⟨b9, 0, none⟩ = false := frozen_of_block qA
    have f1 : (W).frozen? ⟨b9, 1, none⟩ = false := frozen_of_block qA
    have HA := Lib.hid (And.intro TA (And.intro sA (And.intro kA (And.intro qA (And.intro lA iA)))))
    clear TA sA kA qA lA iA
    refine plan_do _ (by rfl) (by rfl) (fun K hK => ?_)
    go_simp
    have q5 : ((W.setCell ⟨b9, 0, none⟩ (.int .u64 ik)).setCell ⟨b9, 1, none⟩ (.int .u64 iv)).heap[b7]? = some (.cells #[.int .u64 p1, .int .u64 p2] 126) := (st2_other nb _ _).trans q4
    have hne : px ≠ b9 := by have := HG.out.2.2.2.2.2.1 px HG.out.2.2.2.2.1; have := HA.out.2.2.2.2.1; omega
    have qB := st2_heap HA.out.2.2.2.1 (.int .u64 ik) (.int .u64 iv)
    have oB : ∀ k, k ≠ b9 → ((W.setCell ⟨b9, 0, none⟩ (.int .u64 ik)).setCell ⟨b9, 1, none⟩ (.int .u64 iv)).heap[k]? = W.heap[k]? := fun k hk => st2_other hk _ _
    have sB : StOn ((W.setCell ⟨b9, 0, none⟩ (.int .u64 ik)).setCell ⟨b9, 1, none⟩ (.int .u64 iv)) ps S' Y := (HA.out.2.1.write (Or.inr rfl) HA.out.2.2.2.1 ⟨by decide, by decide⟩ (by simp) (by simp) fun k _ hk => oB k hk).mono fun k hk => Or.inl hk
    have kB : Keep Y w ((W.setCell ⟨b9, 0, none⟩ (.int .u64 ik)).setCell ⟨b9, 1, none⟩ (.int .u64 iv)) := HA.out.2.2.1.trans ⟨rfl, rfl, rfl, by simp, fun k hk => oB k (by have := HG.out.2.2.2.2.2.1 k hk; have := HA.out.2.2.2.2.1; omega)⟩
    have P7 : DeAt w ((W.setCell ⟨b9, 0, none⟩ (.int .u64 ik)).setCell ⟨b9, 1, none⟩ (.int .u64 iv)) px ps kind root S' Y b9 ik iv := ⟨(oB px hne).trans HA.out.1, sB, kB, qB, HA.out.2.2.2.2.1⟩
    have Hi7 := Lib.hid HA.out.2.2.2.2.2
    clear c0 c1 f0 f1 HA qB oB sB kB hne
    have H7 := Lib.hid P7
    clear P7
    generalize ((W.setCell ⟨b9, 0, none⟩ (.int .u64 ik)).setCell ⟨b9, 1, none⟩ (.int .u64 iv)) = W7 at *
    try go_simp
    refine hK.out _ _ (HI.out _ H7.out.t q5) ?_
    clear hK K
    try simp only [Act.put, List.setIfInBounds_toArray, List.set_cons_zero, List.set_cons_succ]
    refine plan_do _ (by rfl) (by rfl) (fun K hK => ?_)
    go_simp
    try go_simp
    refine hK.out _ _ (HI.out _ H7.out.t q5) ?_
    clear hK K
    try simp only [Act.put, List.setIfInBounds_toArray, List.set_cons_zero, List.set_cons_succ]
    refine plan_do _ (by rfl) (by rfl) (fun K hK => ?_)
    go_simp
    try go_simp
    refine hK.out _ _ (HI.out _ H7.out.t q5) ?_
    clear hK K
    try simp only [Act.put, List.setIfInBounds_toArray, List.set_cons_zero, List.set_cons_succ]
    refine plan_nil ?_
    clear q4 q5 w3 nb
  all_goals
    clear m0 m1 m2 m3 m4 n0 n1 HI I
    have t7 := H7.out.t
    simp only [TreeOn] at t7
    have c0 : (W7).cell? ⟨px, 0, none⟩ = some (PV ps) := by rw [cell_of_block t7]; rfl
    have c1 : (W7).cell? ⟨px, 1, none⟩ = some (.int .i64 kind) := by rw [cell_of_block t7]; rfl
    have c2 : (W7).cell? ⟨px, 2, none⟩ = some (.int .i64 0) := by rw [cell_of_block t7]; rfl
    have c3 : (W7).cell? ⟨px, 3, none⟩ = some (.iface 247 (binV ps kind)) := by rw [cell_of_block t7]; rfl
    have c4 : (W7).cell? ⟨px, 4, none⟩ = some (.int .u64 root) := by rw [cell_of_block t7]; rfl
    have f0 : (W7).frozen? ⟨px, 0, none⟩ = false := frozen_of_block t7
    have f1 : (W7).frozen? ⟨px, 1, none⟩ = false := frozen_of_block t7
    have f2 : (W7).frozen? ⟨px, 2, none⟩ = false := frozen_of_block t7
    have f3 : (W7).frozen? ⟨px, 3, none⟩ = false := frozen_of_block t7
    have f4 : (W7).frozen? ⟨px, 4, none⟩ = false := frozen_of_block t7
    have hne : px ≠ b9 := by have := HG.out.2.2.2.2.2.1 px HG.out.2.2.2.2.1; have := H7.out.l; omega
    have t8 : TreeOn (W7.setCell ⟨px, 4, none⟩ (.int .u64 x)) px ps kind x := heap_setCell t7
    have q8 := (heap_setCell_ne (w := W7) (b := px) (i := 4) (v := .int .u64 x) hne.symm).trans H7.out.q
    have s8 : StOn (W7.setCell ⟨px, 4, none⟩ (.int .u64 x)) ps S' Y := H7.out.st.write HG.out.2.2.2.2.1 t7 ⟨by decide, by decide⟩ (by simp) (by simp) fun k _ hk => heap_setCell_ne hk
    have k8 : Keep (fun k => Y k ∧ k ≠ px) w (W7.setCell ⟨px, 4, none⟩ (.int .u64 x)) := (H7.out.k.mono fun k hk => hk.1).trans ⟨rfl, rfl, rfl, by simp, fun k hk => heap_setCell_ne hk.2⟩
    have e0 : ((W7.setCell ⟨px, 4, none⟩ (.int .u64 x))).cell? ⟨b9, 0, none⟩ = some (.int .u64 ik) := by rw [cell_of_block q8]; rfl
    have e1 : ((W7.setCell ⟨px, 4, none⟩ (.int .u64 x))).cell? ⟨b9, 1, none⟩ = some (.int .u64 iv) := by rw [cell_of_block q8]; rfl
    have H8 := Lib.hid (And.intro t8 (And.intro s8 k8))
    clear t7 t8 s8 k8 hne q8
    go_wp2_with fail
    refine (HG.out.2.2.2.1 _ _ H8.out.2.1 H8.out.1 HG.out.2.2.2.2.1).mono ?_
    rintro e w9 ⟨rfl, s9, k9⟩
    have hfin : StOn w9 ps ((S'.drop ik).2.drop iv).2 Y ∧ Keep (fun k => Y k ∧ k ≠ px) w w9 ∧ TreeOn w9 px ps kind x := ⟨s9, H8.out.2.2.trans (k9.mono fun k hk => hk.1), TreeOn.keep H8.out.1 k9 HG.out.2.2.2.2.1⟩
    have HF := Lib.hid hfin
    clear hfin s9 k9 H8 c0 c1 c2 c3 c4 f0 f1 f2 f3 f4 e0 e1
    go_wp2_with fail
    go_ret3
    exact ⟨rfl, HF.out.1, HF.out.2.1, HF.out.2.2, Hi7.out.2⟩
set_option maxRecDepth 100000 in
set_option maxHeartbeats 800000 in
theorem map_put_gen {w : World} {pm px ps limit : Nat} (hM : MapOn w pm px ps limit) (a b t : List UInt8) (ha : a.length ≤ limit) (hb : b.length ≤ limit) {Q : World → Prop} (ht : Calls Tryz.prog 53 #[PV px, .agg #[SV a, SV b]] w fun e w' => e = .returned (.tuple #[SV t, .bool true, .int .i64 0]) ∧ Q w') :
    Calls Tryz.prog 50 #[PV pm, SV a, SV b] w fun e w' => e = .returned (.tuple #[SV t, .bool true, .int .i64 0]) ∧ Q w' := by
  have HG := Lib.hid (And.intro (map_asked hM a b ha hb) ht)
  unfold MapOn at hM
  have c0 : (w).cell? ⟨pm, 0, none⟩ = some (PV ps) := by rw [cell_of_block hM]; rfl
  have c1 : (w).cell? ⟨pm, 1, none⟩ = some (PV px) := by rw [cell_of_block hM]; rfl
  have c2 : (w).cell? ⟨pm, 2, none⟩ = some (.int .i64 limit) := by rw [cell_of_block hM]; rfl
  clear hM ha hb ht
  go_enter Tryz.func50, Tryz.ntmps50
  go_wp2_with fail
  refine HG.out.1.mono ?_
  rintro e w1 ⟨rfl, rfl⟩
  go_wp2_with fail
  refine HG.out.2.mono ?_
  rintro e w2 ⟨rfl, hr⟩
  have HR := Lib.hid hr
  clear hr
  go_wp2_with fail
  go_ret3
  exact ⟨rfl, HR.out⟩

end Go.Proofs.YtoaabbnieakidaaGreatDoorR

namespace Go.Proofs.YtoaabbnieakidaaGreatDoorR
open Lf

def invB (S : St) : Bool :=
  (List.range S.t.slots.length).all fun i =>
    let x := S.t.slots.getD i ⟨0, 0, 0⟩
    x.is != 1 || (decide (S.a.rd (x.addr + 1) ≤ 3998) && decide (x.addr ≤ 1152921504606846976) &&
      (List.range S.t.slots.length).all fun j =>
        let y := S.t.slots.getD j ⟨0, 0, 0⟩
        i == j || y.is != 1 || decide (x.addr + 2 + S.a.rd (x.addr + 1) ≤ y.addr) || decide (y.addr + 2 + S.a.rd (y.addr + 1) ≤ x.addr))
theorem invB_ok {S : St} (h : invB S = true) : Inv S := by
  unfold invB at h
  rw [List.all_eq_true] at h
  have key : ∀ (i : Nat) (hi : i < S.t.slots.length), S.t.slots[i].is = 1 → (S.a.rd (S.t.slots[i].addr + 1) ≤ 3998 ∧ S.t.slots[i].addr ≤ 1152921504606846976) ∧ ∀ (j : Nat) (hj : j < S.t.slots.length), i ≠ j → S.t.slots[j].is = 1 →
      S.t.slots[i].addr + 2 + S.a.rd (S.t.slots[i].addr + 1) ≤ S.t.slots[j].addr ∨ S.t.slots[j].addr + 2 + S.a.rd (S.t.slots[j].addr + 1) ≤ S.t.slots[i].addr := by
    intro i hi h1
    have h2 := h i (List.mem_range.2 hi)
    rw [List.getD_eq_getElem?_getD, List.getElem?_eq_getElem hi] at h2
    simp only [Option.getD_some, h1, bne_self_eq_false, Bool.false_or, Bool.and_eq_true, decide_eq_true_eq] at h2
    obtain ⟨⟨h3, h4⟩, h5⟩ := h2
    refine ⟨⟨h3, h4⟩, fun j hj hij hj1 => ?_⟩
    rw [List.all_eq_true] at h5
    have h6 := h5 j (List.mem_range.2 hj)
    rw [List.getD_eq_getElem?_getD, List.getElem?_eq_getElem hj] at h6
    simp only [Option.getD_some, hj1, bne_self_eq_false, Bool.or_false, Bool.or_eq_true, decide_eq_true_eq, beq_iff_eq] at h6
    rcases h6 with (h6 | h6) | h6
    · exact absurd h6 hij
    · exact Or.inl h6
    · exact Or.inr h6
  exact ⟨fun i hi h1 => (key i hi h1).1, fun i j hi hj hij h1 h2 => (key i hi h1).2 j hj hij h2⟩
def mkB (S : St) (n : Nat) : Bool := decide ((S.t.open (allocH S.a (n + 2)).1.1).1.2 = 0) && invB (S.make n).2
theorem mkB_ok {S : St} {n : Nat} (h : mkB S n = true) : MkOk S n := by
  simp only [mkB, Bool.and_eq_true, decide_eq_true_eq] at h
  exact ⟨h.1, invB_ok h.2⟩
def putB (S : St) (a b : List UInt8) : Bool := decide (a.length ≤ 1000) && decide (b.length ≤ 1000) && mkB S (many a.length) && mkB (putBlob S a).2 (many b.length) &&
  match itemsM S a b with
  | some (_, S1) => mkB S1 6
  | none => true
theorem putB_ok {S : St} {a b : List UInt8} (h : putB S a b = true) : PutOk S a b := by
  simp only [putB, Bool.and_eq_true, decide_eq_true_eq] at h
  obtain ⟨⟨⟨⟨h1, h2⟩, h3⟩, h4⟩, h5⟩ := h
  refine ⟨⟨h1, h2, mkB_ok h3, mkB_ok h4⟩, fun p S1 e => ?_⟩
  rw [e] at h5
  exact mkB_ok h5
def slT (s : Slot) : Nat × Nat × Nat := (s.is, s.gen, s.addr)
theorem slT_inj {s t : Slot} (h : slT s = slT t) : s = t := by
  obtain ⟨a, b, c⟩ := s
  obtain ⟨x, y, z⟩ := t
  simp only [slT, Prod.mk.injEq] at h
  obtain ⟨rfl, rfl, rfl⟩ := h
  rfl
theorem slT_list : ∀ {l m : List Slot}, l.map slT = m.map slT → l = m
  | [], [], _ => rfl
  | [], _ :: _, h => by simp at h
  | _ :: _, [], h => by simp at h
  | a :: l, b :: m, h => by
    simp only [List.map_cons, List.cons.injEq] at h
    rw [slT_inj h.1, slT_list h.2]
def eqS (S T : St) : Bool := S.a.quota == T.a.quota && S.a.pages == T.a.pages && S.t.most == T.t.most && S.t.last == T.t.last && S.t.slots.map slT == T.t.slots.map slT
theorem eqS_ok {S T : St} (h : eqS S T = true) : S = T := by
  obtain ⟨⟨q, p⟩, ⟨m, l, s⟩⟩ := S
  obtain ⟨⟨q', p'⟩, ⟨m', l', s'⟩⟩ := T
  simp only [eqS, Bool.and_eq_true, beq_iff_eq] at h
  obtain ⟨⟨⟨⟨rfl, rfl⟩, rfl⟩, rfl⟩, h5⟩ := h
  rw [slT_list h5]
def runB (jn : Jn) (S : St) (root : Nat) (a b : List UInt8) (x : Nat) (T : St) : Bool := match treePutM jn S root a b with
  | some (y, U) => y == x && eqS U T
  | none => false
theorem runB_ok {jn : Jn} {S T : St} {root x : Nat} {a b : List UInt8} (h : runB jn S root a b x T = true) : treePutM jn S root a b = some (x, T) := by
  unfold runB at h
  split at h
  · rename_i y U e
    simp only [Bool.and_eq_true, beq_iff_eq] at h
    rw [e, h.1, eqS_ok h.2]
  · cases h

def pg (l : List Nat) : Page := l ++ List.replicate (64 - l.length) 0
end Go.Proofs.YtoaabbnieakidaaGreatDoorR
