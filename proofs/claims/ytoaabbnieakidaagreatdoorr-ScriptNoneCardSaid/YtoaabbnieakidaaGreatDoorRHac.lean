/- Scripts: Put in a script's world: the walks. Scripts: open, Next in a script's world: the walks. -/
import Derived.Test.YtoaabbnieakidaaGreatDoorRHaa
namespace Go.Proofs.YtoaabbnieakidaaGreatDoorR
open Go.RowKit Go.BigFrame Go.Maps Go.WideMaps Lf

theorem md_put_new {limit : Nat} {w wr : World} {ps pm px root root' : Nat} {S S' : St} {Y : Nat → Prop} (h : MdK 1 limit w ps pm px S root Y wr) (hr : root < 18446744073709551616) (a b : List UInt8) (la : a.length ≤ limit) (lb : b.length ≤ limit) (ok : PutOk S a b) (run : treePutM avlOkM S root a b = some (root', S')) :
    Calls Tryz.prog 50 #[PV pm, SV a, SV b] wr fun e w' => e = .returned (.tuple #[.string ⟨#[]⟩, .bool false, .int .i64 0]) ∧ MdK 1 limit w ps pm px S' root' Y w' ∧ Keep (fun k => Y k ∧ k ≠ px) wr w' := by
  refine (map_put h.st h.inv h.m h.t h.yx hr kind_avl a b la lb ok run).mono ?_
  rintro e w' ⟨rfl, h1, h2, h3, h4, -⟩
  exact ⟨rfl, h.next h1 h2 h3 h4, h2⟩
theorem md_put_was {limit : Nat} {w wr : World} {ps pm px root root' : Nat} {S S1 S' : St} {Y : Nat → Prop} (h : MdK 1 limit w ps pm px S root Y wr) (hr : root < 18446744073709551616) (a b : List UInt8) (la : a.length ≤ limit) (lb : b.length ≤ limit) (ok : PutOk S a b) {ik iv : Nat} {t : List UInt8} (run : treeRepM avlOkM S root a b = some ((root', ik, iv), S1)) (hik : ik < 18446744073709551616) (hiv : iv < 18446744073709551616) (hi1 : Inv S1) (hg : getBlob S1 iv = (t, 0)) (hi2 : Inv (S1.drop ik).2) (hS : ((S1.drop ik).2.drop iv).2 = S') (hi3 : Inv S') :
    Calls Tryz.prog 50 #[PV pm, SV a, SV b] wr fun e w' => e = .returned (.tuple #[SV t, .bool true, .int .i64 0]) ∧ MdK 1 limit w ps pm px S' root' Y w' ∧ Keep (fun k => Y k ∧ k ≠ px) wr w' := by
  have hp := tree_put_was h.st h.inv h.t h.yx hr kind_avl a b ok run hik hiv hi1 (by rw [hg]; simp) hi2
  rw [hg, hS] at hp
  simp only [prV] at hp
  refine map_put_gen (Q := fun w' => MdK 1 limit w ps pm px S' root' Y w' ∧ Keep (fun k => Y k ∧ k ≠ px) wr w') h.m a b t la lb (hp.mono ?_)
  rintro e w' ⟨rfl, h1, h2, h3, -⟩
  exact ⟨rfl, h.next h1 h2 h3 hi3, h2⟩

set_option maxRecDepth 100000 in
set_option maxHeartbeats 3200000 in
theorem sc_put {w W : World} {pw limit root root' : Nat} {S S' : St} {X : Nat → Prop} (ht : Tab64 w) (hP : ScM w pw limit S root X W) (d n : Int) (a b : List UInt8) (hr : root < 18446744073709551616) (la : a.length ≤ limit) (lb : b.length ≤ limit) (ok : PutOk S a b) (run : treePutM avlOkM S root a b = some (root', S')) :
    Calls Tryz.prog 18 #[PV pw, .agg #[.int .i64 d, .int .i64 n, SV a, SV b]] W fun e w' => StepQ (ScM w pw limit S' root') X W ⟨0, 0, []⟩ e w' := by
  have cP := scm_cl ht pw limit S root
  have cP' := scm_cl ht pw limit S' root'
  have B1 := (Below.refl W.heap.size W).alloc (Nat.le_refl _) (.cells #[.int .i64 d, .int .i64 n, SV a, SV b] 23)
  have z1 : (W.alloc (.cells #[.int .i64 d, .int .i64 n, SV a, SV b] 23)).heap.size = W.heap.size + 1 := by simp
  have A2 := (Below.refl _ (W.alloc (.cells #[.int .i64 d, .int .i64 n, SV a, SV b] 23))).alloc (Nat.le_refl _) (.cells #[.int .i64 0, .int .i64 0, .slice none 0 0] 35)
  have B2 := B1.alloc B1.size (.cells #[.int .i64 0, .int .i64 0, .slice none 0 0] 35)
  have q1 := heap_alloc_new W (.cells #[.int .i64 d, .int .i64 n, SV a, SV b] 23)
  have q2 := (A2.block W.heap.size (by omega)).trans q1
  have y2 := heap_alloc_new (W.alloc (.cells #[.int .i64 d, .int .i64 n, SV a, SV b] 23)) (.cells #[.int .i64 0, .int .i64 0, .slice none 0 0] 35)
  rw [z1] at y2
  have z2 : ((W.alloc (.cells #[.int .i64 d, .int .i64 n, SV a, SV b] 23)).alloc (.cells #[.int .i64 0, .int .i64 0, .slice none 0 0] 35)).heap.size = W.heap.size + 2 := by simp
  obtain ⟨Z, zx, zn, hP2⟩ := cP.grow hP B2
  have zb3 : Z W.heap.size := zn _ (Nat.le_refl _) (by omega)
  have zb4 : Z (W.heap.size + 1) := zn _ (Nat.le_succ _) (by omega)
  have lw := (cP.bl hP).size
  have hlt := cP.lt hP
  have kX : Keep X W ((W.alloc (.cells #[.int .i64 d, .int .i64 n, SV a, SV b] 23)).alloc (.cells #[.int .i64 0, .int .i64 0, .slice none 0 0] 35)) := Keep.of_below B2 hlt
  obtain ⟨ps, pm, px, Y, h, hw, hy, n1, n2, l1, hx⟩ := hP2.ex
  have hput := md_put_new (h.below (Below.refl _ _).drew) hr a b la lb ok run
  obtain ⟨I, hIi, hIo⟩ := two_class (fun w' => WoOn w' pw pm (.pointer none)) (fun w' => w'.heap[W.heap.size]? = some (.cells #[.int .i64 d, .int .i64 n, SV a, SV b] 23))
  have hy0 := fun x : Keeps I => (hIi _ x.ok).1
  have hz0 := fun x : Keeps I => (hIi _ x.ok).2
  simp only [WoOn] at hy0
  have m0 : ∀ x : Keeps I, x.to.cell? ⟨pw, 0, none⟩ = some (PV pm) := fun x => by rw [cell_of_block (hy0 x)]; rfl
  have m1 : ∀ x : Keeps I, x.to.cell? ⟨pw, 1, none⟩ = some (.pointer none) := fun x => by rw [cell_of_block (hy0 x)]; rfl
  have m2 : ∀ x : Keeps I, x.to.cell? ⟨pw, 2, none⟩ = some (.pointer none) := fun x => by rw [cell_of_block (hy0 x)]; rfl
  have m3 : ∀ x : Keeps I, x.to.cell? ⟨pw, 3, none⟩ = some (.pointer none) := fun x => by rw [cell_of_block (hy0 x)]; rfl
  have m4 : ∀ x : Keeps I, x.to.cell? ⟨pw, 4, none⟩ = some (.pointer none) := fun x => by rw [cell_of_block (hy0 x)]; rfl
  have o0 : ∀ x : Keeps I, x.to.cell? ⟨W.heap.size, 0, none⟩ = some (.int .i64 d) := fun x => by rw [cell_of_block (hz0 x)]; rfl
  have o1 : ∀ x : Keeps I, x.to.cell? ⟨W.heap.size, 1, none⟩ = some (.int .i64 n) := fun x => by rw [cell_of_block (hz0 x)]; rfl
  have o2 : ∀ x : Keeps I, x.to.cell? ⟨W.heap.size, 2, none⟩ = some (SV a) := fun x => by rw [cell_of_block (hz0 x)]; rfl
  have o3 : ∀ x : Keeps I, x.to.cell? ⟨W.heap.size, 3, none⟩ = some (SV b) := fun x => by rw [cell_of_block (hz0 x)]; rfl
  have hI0 : I ((W.alloc (.cells #[.int .i64 d, .int .i64 n, SV a, SV b] 23)).alloc (.cells #[.int .i64 0, .int .i64 0, .slice none 0 0] 35)).drew := hIo _ hw q2
  have HI := Lib.hid hIo
  have HX := Lib.hid (And.intro hw (And.intro hy (And.intro n1 (And.intro n2 (And.intro l1 hx)))))
  have HZ := Lib.hid (And.intro q2 (And.intro y2 (And.intro zx (And.intro zb3 (And.intro zb4 (And.intro lw (And.intro hlt kX)))))))
  have HC := Lib.hid (And.intro cP' hput)
  clear cP cP' B1 z1 A2 B2 q1 q2 y2 z2 zx zn hP2 zb3 zb4 lw hlt kX h hw hy n1 n2 l1 hx hput hIi hIo hy0 hz0 hP ht hr la lb ok run
  go_enter Tryz.func18, Tryz.ntmps18
  go_wp2_with fail
  refine wp_region_plan I (.take 0 (.take 1 (.take 2 (.take 3 (.take 4 (.take 5 (.take 6 (.take 7 (.go 8 (.take 9 (.take 10 (.take 11 (.take 12 (.take 13 (.take 14 (.take 15 .nil)))))))))))))))) (by kernel_rfl) (by kernel_rfl) hI0 ?_
  clear hI0
  refine' plan_take _ (by rfl) _ (by rfl) ?_ ?_
  rotate_left
  · rintro _ ⟨x, rfl⟩
    have hxm0 := m0 x
    have hxo2 := o2 x
    have hxo3 := o3 x
    go_simp
    try with_reducible rfl
  try simp only [Act.put, List.setIfInBounds_toArray, List.set_cons_zero, List.set_cons_succ]
  refine' plan_take _ (by rfl) _ (by rfl) ?_ ?_
  rotate_left
  · rintro _ ⟨x, rfl⟩
    have hxm0 := m0 x
    have hxo2 := o2 x
    have hxo3 := o3 x
    go_simp
    try with_reducible rfl
  try simp only [Act.put, List.setIfInBounds_toArray, List.set_cons_zero, List.set_cons_succ]
  refine' plan_take _ (by rfl) _ (by rfl) ?_ ?_
  rotate_left
  · rintro _ ⟨x, rfl⟩
    have hxm0 := m0 x
    have hxo2 := o2 x
    have hxo3 := o3 x
    go_simp
    try with_reducible rfl
  try simp only [Act.put, List.setIfInBounds_toArray, List.set_cons_zero, List.set_cons_succ]
  refine' plan_take _ (by rfl) _ (by rfl) ?_ ?_
  rotate_left
  · rintro _ ⟨x, rfl⟩
    have hxm0 := m0 x
    have hxo2 := o2 x
    have hxo3 := o3 x
    go_simp
    try with_reducible rfl
  try simp only [Act.put, List.setIfInBounds_toArray, List.set_cons_zero, List.set_cons_succ]
  refine' plan_take _ (by rfl) _ (by rfl) ?_ ?_
  rotate_left
  · rintro _ ⟨x, rfl⟩
    have hxm0 := m0 x
    have hxo2 := o2 x
    have hxo3 := o3 x
    go_simp
    try with_reducible rfl
  try simp only [Act.put, List.setIfInBounds_toArray, List.set_cons_zero, List.set_cons_succ]
  refine' plan_take _ (by rfl) _ (by rfl) ?_ ?_
  rotate_left
  · rintro _ ⟨x, rfl⟩
    have hxm0 := m0 x
    have hxo2 := o2 x
    have hxo3 := o3 x
    go_simp
    try with_reducible rfl
  try simp only [Act.put, List.setIfInBounds_toArray, List.set_cons_zero, List.set_cons_succ]
  refine' plan_take _ (by rfl) _ (by rfl) ?_ ?_
  rotate_left
  · rintro _ ⟨x, rfl⟩
    have hxm0 := m0 x
    have hxo2 := o2 x
    have hxo3 := o3 x
    go_simp
    try with_reducible rfl
  try simp only [Act.put, List.setIfInBounds_toArray, List.set_cons_zero, List.set_cons_succ]
  refine' plan_take _ (by rfl) _ (by rfl) ?_ ?_
  rotate_left
  · rintro _ ⟨x, rfl⟩
    have hxm0 := m0 x
    have hxo2 := o2 x
    have hxo3 := o3 x
    go_simp
    try with_reducible rfl
  try simp only [Act.put, List.setIfInBounds_toArray, List.set_cons_zero, List.set_cons_succ]
  refine plan_do _ (by rfl) (by rfl) (fun K hK => ?_)
  go_simp
  refine HC.out.2.mono ?_
  rintro e w3 ⟨rfl, h3, k3⟩
  obtain ⟨hw, hy, n1, n2, l1, hx⟩ := HX.out
  obtain ⟨q2, y2, zx, zb3, zb4, lw, hlt, kX⟩ := HZ.out
  have hw3 : WoOn w3 pw pm (.pointer none) := (k3.block pw ⟨hy, n1⟩).trans hw
  have q3 : w3.heap[W.heap.size]? = some (.cells #[.int .i64 d, .int .i64 n, SV a, SV b] 23) := (k3.block _ ⟨(hx _ zb3).1, (hx _ zb3).2.1⟩).trans q2
  have y3 : w3.heap[W.heap.size + 1]? = some (.cells #[.int .i64 0, .int .i64 0, .slice none 0 0] 35) := (k3.block _ ⟨(hx _ zb4).1, (hx _ zb4).2.1⟩).trans y2
  try go_simp
  refine hK.out _ _ (HI.out _ hw3 q3) ?_
  clear hK K
  try simp only [Act.put, List.setIfInBounds_toArray, List.set_cons_zero, List.set_cons_succ]
  refine' plan_take _ (by rfl) _ (by rfl) ?_ ?_
  rotate_left
  · rintro _ ⟨x, rfl⟩
    go_simp
    try with_reducible rfl
  try simp only [Act.put, List.setIfInBounds_toArray, List.set_cons_zero, List.set_cons_succ]
  refine' plan_take _ (by rfl) _ (by rfl) ?_ ?_
  rotate_left
  · rintro _ ⟨x, rfl⟩
    go_simp
    try with_reducible rfl
  try simp only [Act.put, List.setIfInBounds_toArray, List.set_cons_zero, List.set_cons_succ]
  refine' plan_take _ (by rfl) _ (by rfl) ?_ ?_
  rotate_left
  · rintro _ ⟨x, rfl⟩
    go_simp
    try with_reducible rfl
  try simp only [Act.put, List.setIfInBounds_toArray, List.set_cons_zero, List.set_cons_succ]
  refine' plan_take _ (by rfl) _ (by rfl) ?_ ?_
  rotate_left
  · rintro _ ⟨x, rfl⟩
    go_simp
    try with_reducible rfl
  try simp only [Act.put, List.setIfInBounds_toArray, List.set_cons_zero, List.set_cons_succ]
  refine' plan_take _ (by rfl) _ (by rfl) ?_ ?_
  rotate_left
  · rintro _ ⟨x, rfl⟩
    go_simp
    try with_reducible rfl
  try simp only [Act.put, List.setIfInBounds_toArray, List.set_cons_zero, List.set_cons_succ]
  refine' plan_take _ (by rfl) _ (by rfl) ?_ ?_
  rotate_left
  · rintro _ ⟨x, rfl⟩
    go_simp
    try with_reducible rfl
  try simp only [Act.put, List.setIfInBounds_toArray, List.set_cons_zero, List.set_cons_succ]
  refine' plan_take _ (by rfl) _ (by rfl) ?_ ?_
  rotate_left
  · rintro _ ⟨x, rfl⟩
    go_simp
    try with_reducible rfl
  try simp only [Act.put, List.setIfInBounds_toArray, List.set_cons_zero, List.set_cons_succ]
  refine plan_nil ?_
  have P3 : ScM w pw limit S' root' Z w3 := ⟨ps, pm, px, Y, h3, hw3, hy, n1, n2, l1, hx⟩
  have K3 : Keep X W w3 := kX.trans ((Keep.drewN X _ 1).trans (k3.mono fun k hk => ⟨(hx k (zx k hk)).1, (hx k (zx k hk)).2.1⟩))

  have ans := HC.out.1.answer P3 zb4 (by omega) y3 K3 (fun k hk => by have := hlt k hk; omega) (.int .i64 0) (.int .i64 0) (.slice none 0 0)
  have f0 : (w3).frozen? ⟨(W.heap.size + 1), 0, none⟩ = false := frozen_of_block y3
  have f1 : (w3).frozen? ⟨(W.heap.size + 1), 1, none⟩ = false := frozen_of_block y3
  have f2 : (w3).frozen? ⟨(W.heap.size + 1), 2, none⟩ = false := frozen_of_block y3
  have c0 : (w3).cell? ⟨(W.heap.size + 1), 0, none⟩ = some (.int .i64 0) := by rw [cell_of_block y3]; rfl
  have c1 : (w3).cell? ⟨(W.heap.size + 1), 1, none⟩ = some (.int .i64 0) := by rw [cell_of_block y3]; rfl
  have c2 : (w3).cell? ⟨(W.heap.size + 1), 2, none⟩ = some (.slice none 0 0) := by rw [cell_of_block y3]; rfl
  have HB := Lib.hid (And.intro ans zx)
  clear ans K3 P3 y3 q3 hw3 k3 h3 hw hy n1 n2 l1 hx q2 y2 zx zb3 zb4 lw hlt kX HX HZ HC HI m0 m1 m2 m3 m4 o0 o1 o2 o3
  go_wp2_with fail
  obtain ⟨⟨P4, K4, q4⟩, zx⟩ := HB.out
  generalize (((w3.setCell ⟨(W.heap.size + 1), 0, none⟩ (.int .i64 0)).setCell ⟨(W.heap.size + 1), 1, none⟩ (.int .i64 0)).setCell ⟨(W.heap.size + 1), 2, none⟩ (.slice none 0 0)) = w4 at *
  have e0 : (w4).cell? ⟨(W.heap.size + 1), 0, none⟩ = some (.int .i64 0) := by rw [cell_of_block q4]; rfl
  have e1 : (w4).cell? ⟨(W.heap.size + 1), 1, none⟩ = some (.int .i64 0) := by rw [cell_of_block q4]; rfl
  have e2 : (w4).cell? ⟨(W.heap.size + 1), 2, none⟩ = some (.slice none 0 0) := by rw [cell_of_block q4]; rfl
  exact bodyPost_ret (v := .agg #[.int .i64 0, .int .i64 0, .slice none 0 0]) (by simp [results, Tryz.f18, go_sem, e0, e1, e2]) rfl ⟨_, Z, rfl, zx, PRowX.nil _ _, P4, K4⟩

set_option maxRecDepth 100000 in
set_option maxHeartbeats 3200000 in
theorem sc_put_was {w W : World} {pw limit root root' : Nat} {S S' : St} {X : Nat → Prop} (ht : Tab64 w) (hP : ScM w pw limit S root X W) (d n : Int) (a b : List UInt8) (hr : root < 18446744073709551616) (la : a.length ≤ limit) (lb : b.length ≤ limit) {S1 : St} {ik iv : Nat} {t : List UInt8} (ok : PutOk S a b) (run : treeRepM avlOkM S root a b = some ((root', ik, iv), S1)) (hik : ik < 18446744073709551616) (hiv : iv < 18446744073709551616) (hi1 : Inv S1) (hg : getBlob S1 iv = (t, 0)) (hi2 : Inv (S1.drop ik).2) (hS : ((S1.drop ik).2.drop iv).2 = S') (hi3 : Inv S') :
    Calls Tryz.prog 18 #[PV pw, .agg #[.int .i64 d, .int .i64 n, SV a, SV b]] W fun e w' => StepQ (ScM w pw limit S' root') X W ⟨0, 1, [(a, t)]⟩ e w' := by
  have cP := scm_cl ht pw limit S root
  have cP' := scm_cl ht pw limit S' root'
  have B1 := (Below.refl W.heap.size W).alloc (Nat.le_refl _) (.cells #[.int .i64 d, .int .i64 n, SV a, SV b] 23)
  have z1 : (W.alloc (.cells #[.int .i64 d, .int .i64 n, SV a, SV b] 23)).heap.size = W.heap.size + 1 := by simp
  have A2 := (Below.refl _ (W.alloc (.cells #[.int .i64 d, .int .i64 n, SV a, SV b] 23))).alloc (Nat.le_refl _) (.cells #[.int .i64 0, .int .i64 0, .slice none 0 0] 35)
  have B2 := B1.alloc B1.size (.cells #[.int .i64 0, .int .i64 0, .slice none 0 0] 35)
  have q1 := heap_alloc_new W (.cells #[.int .i64 d, .int .i64 n, SV a, SV b] 23)
  have q2 := (A2.block W.heap.size (by omega)).trans q1
  have y2 := heap_alloc_new (W.alloc (.cells #[.int .i64 d, .int .i64 n, SV a, SV b] 23)) (.cells #[.int .i64 0, .int .i64 0, .slice none 0 0] 35)
  rw [z1] at y2
  have z2 : ((W.alloc (.cells #[.int .i64 d, .int .i64 n, SV a, SV b] 23)).alloc (.cells #[.int .i64 0, .int .i64 0, .slice none 0 0] 35)).heap.size = W.heap.size + 2 := by simp
  obtain ⟨Z, zx, zn, hP2⟩ := cP.grow hP B2
  have zb3 : Z W.heap.size := zn _ (Nat.le_refl _) (by omega)
  have zb4 : Z (W.heap.size + 1) := zn _ (Nat.le_succ _) (by omega)
  have lw := (cP.bl hP).size
  have hlt := cP.lt hP
  have kX : Keep X W ((W.alloc (.cells #[.int .i64 d, .int .i64 n, SV a, SV b] 23)).alloc (.cells #[.int .i64 0, .int .i64 0, .slice none 0 0] 35)) := Keep.of_below B2 hlt
  obtain ⟨ps, pm, px, Y, h, hw, hy, n1, n2, l1, hx⟩ := hP2.ex
  have hput := md_put_was (h.below (Below.refl _ _).drew) hr a b la lb ok run hik hiv hi1 hg hi2 hS hi3
  obtain ⟨I, hIi, hIo⟩ := two_class (fun w' => WoOn w' pw pm (.pointer none)) (fun w' => w'.heap[W.heap.size]? = some (.cells #[.int .i64 d, .int .i64 n, SV a, SV b] 23))
  have hy0 := fun x : Keeps I => (hIi _ x.ok).1
  have hz0 := fun x : Keeps I => (hIi _ x.ok).2
  simp only [WoOn] at hy0
  have m0 : ∀ x : Keeps I, x.to.cell? ⟨pw, 0, none⟩ = some (PV pm) := fun x => by rw [cell_of_block (hy0 x)]; rfl
  have m1 : ∀ x : Keeps I, x.to.cell? ⟨pw, 1, none⟩ = some (.pointer none) := fun x => by rw [cell_of_block (hy0 x)]; rfl
  have m2 : ∀ x : Keeps I, x.to.cell? ⟨pw, 2, none⟩ = some (.pointer none) := fun x => by rw [cell_of_block (hy0 x)]; rfl
  have m3 : ∀ x : Keeps I, x.to.cell? ⟨pw, 3, none⟩ = some (.pointer none) := fun x => by rw [cell_of_block (hy0 x)]; rfl
  have m4 : ∀ x : Keeps I, x.to.cell? ⟨pw, 4, none⟩ = some (.pointer none) := fun x => by rw [cell_of_block (hy0 x)]; rfl
  have o0 : ∀ x : Keeps I, x.to.cell? ⟨W.heap.size, 0, none⟩ = some (.int .i64 d) := fun x => by rw [cell_of_block (hz0 x)]; rfl
  have o1 : ∀ x : Keeps I, x.to.cell? ⟨W.heap.size, 1, none⟩ = some (.int .i64 n) := fun x => by rw [cell_of_block (hz0 x)]; rfl
  have o2 : ∀ x : Keeps I, x.to.cell? ⟨W.heap.size, 2, none⟩ = some (SV a) := fun x => by rw [cell_of_block (hz0 x)]; rfl
  have o3 : ∀ x : Keeps I, x.to.cell? ⟨W.heap.size, 3, none⟩ = some (SV b) := fun x => by rw [cell_of_block (hz0 x)]; rfl
  have hI0 : I ((W.alloc (.cells #[.int .i64 d, .int .i64 n, SV a, SV b] 23)).alloc (.cells #[.int .i64 0, .int .i64 0, .slice none 0 0] 35)).drew := hIo _ hw q2
  have HI := Lib.hid hIo
  have HX := Lib.hid (And.intro hw (And.intro hy (And.intro n1 (And.intro n2 (And.intro l1 hx)))))
  have HZ := Lib.hid (And.intro q2 (And.intro y2 (And.intro zx (And.intro zb3 (And.intro zb4 (And.intro lw (And.intro hlt kX)))))))
  have HC := Lib.hid (And.intro cP' hput)
  clear cP cP' B1 z1 A2 B2 q1 q2 y2 z2 zx zn hP2 zb3 zb4 lw hlt kX h hw hy n1 n2 l1 hx hput hIi hIo hy0 hz0 hP ht hr la lb ok run hik hiv hi1 hg hi2 hS hi3
  go_enter Tryz.func18, Tryz.ntmps18
  go_wp2_with fail
  refine wp_region_plan I (.take 0 (.take 1 (.take 2 (.take 3 (.take 4 (.take 5 (.take 6 (.take 7 (.go 8 (.take 9 (.take 10 (.take 11 (.take 12 (.take 13 (.take 14 (.take 15 .nil)))))))))))))))) (by kernel_rfl) (by kernel_rfl) hI0 ?_
  clear hI0
  refine' plan_take _ (by rfl) _ (by rfl) ?_ ?_
  rotate_left
  · rintro _ ⟨x, rfl⟩
    have hxm0 := m0 x
    have hxo2 := o2 x
    have hxo3 := o3 x
    go_simp
    try with_reducible rfl
  try simp only [Act.put, List.setIfInBounds_toArray, List.set_cons_zero, List.set_cons_succ]
  refine' plan_take _ (by rfl) _ (by rfl) ?_ ?_
  rotate_left
  · rintro _ ⟨x, rfl⟩
    have hxm0 := m0 x
    have hxo2 := o2 x
    have hxo3 := o3 x
    go_simp
    try with_reducible rfl
  try simp only [Act.put, List.setIfInBounds_toArray, List.set_cons_zero, List.set_cons_succ]
  refine' plan_take _ (by rfl) _ (by rfl) ?_ ?_
  rotate_left
  · rintro _ ⟨x, rfl⟩
    have hxm0 := m0 x
    have hxo2 := o2 x
    have hxo3 := o3 x
    go_simp
    try with_reducible rfl
  try simp only [Act.put, List.setIfInBounds_toArray, List.set_cons_zero, List.set_cons_succ]
  refine' plan_take _ (by rfl) _ (by rfl) ?_ ?_
  rotate_left
  · rintro _ ⟨x, rfl⟩
    have hxm0 := m0 x
    have hxo2 := o2 x
    have hxo3 := o3 x
    go_simp
    try with_reducible rfl
  try simp only [Act.put, List.setIfInBounds_toArray, List.set_cons_zero, List.set_cons_succ]
  refine' plan_take _ (by rfl) _ (by rfl) ?_ ?_
  rotate_left
  · rintro _ ⟨x, rfl⟩
    have hxm0 := m0 x
    have hxo2 := o2 x
    have hxo3 := o3 x
    go_simp
    try with_reducible rfl
  try simp only [Act.put, List.setIfInBounds_toArray, List.set_cons_zero, List.set_cons_succ]
  refine' plan_take _ (by rfl) _ (by rfl) ?_ ?_
  rotate_left
  · rintro _ ⟨x, rfl⟩
    have hxm0 := m0 x
    have hxo2 := o2 x
    have hxo3 := o3 x
    go_simp
    try with_reducible rfl
  try simp only [Act.put, List.setIfInBounds_toArray, List.set_cons_zero, List.set_cons_succ]
  refine' plan_take _ (by rfl) _ (by rfl) ?_ ?_
  rotate_left
  · rintro _ ⟨x, rfl⟩
    have hxm0 := m0 x
    have hxo2 := o2 x
    have hxo3 := o3 x
    go_simp
    try with_reducible rfl
  try simp only [Act.put, List.setIfInBounds_toArray, List.set_cons_zero, List.set_cons_succ]
  refine' plan_take _ (by rfl) _ (by rfl) ?_ ?_
  rotate_left
  · rintro _ ⟨x, rfl⟩
    have hxm0 := m0 x
    have hxo2 := o2 x
    have hxo3 := o3 x
    go_simp
    try with_reducible rfl
  try simp only [Act.put, List.setIfInBounds_toArray, List.set_cons_zero, List.set_cons_succ]
  refine plan_do _ (by rfl) (by rfl) (fun K hK => ?_)
  go_simp
  refine HC.out.2.mono ?_
  rintro e w3 ⟨rfl, h3, k3⟩
  obtain ⟨hw, hy, n1, n2, l1, hx⟩ := HX.out
  obtain ⟨q2, y2, zx, zb3, zb4, lw, hlt, kX⟩ := HZ.out
  have hw3 : WoOn w3 pw pm (.pointer none) := (k3.block pw ⟨hy, n1⟩).trans hw
  have q3 : w3.heap[W.heap.size]? = some (.cells #[.int .i64 d, .int .i64 n, SV a, SV b] 23) := (k3.block _ ⟨(hx _ zb3).1, (hx _ zb3).2.1⟩).trans q2
  have y3 : w3.heap[W.heap.size + 1]? = some (.cells #[.int .i64 0, .int .i64 0, .slice none 0 0] 35) := (k3.block _ ⟨(hx _ zb4).1, (hx _ zb4).2.1⟩).trans y2
  try go_simp
  refine hK.out _ _ (HI.out _ hw3 q3) ?_
  clear hK K
  try simp only [Act.put, List.setIfInBounds_toArray, List.set_cons_zero, List.set_cons_succ]
  refine' plan_take _ (by rfl) _ (by rfl) ?_ ?_
  rotate_left
  · rintro _ ⟨x, rfl⟩
    go_simp
    try with_reducible rfl
  try simp only [Act.put, List.setIfInBounds_toArray, List.set_cons_zero, List.set_cons_succ]
  refine' plan_take _ (by rfl) _ (by rfl) ?_ ?_
  rotate_left
  · rintro _ ⟨x, rfl⟩
    go_simp
    try with_reducible rfl
  try simp only [Act.put, List.setIfInBounds_toArray, List.set_cons_zero, List.set_cons_succ]
  refine' plan_take _ (by rfl) _ (by rfl) ?_ ?_
  rotate_left
  · rintro _ ⟨x, rfl⟩
    go_simp
    try with_reducible rfl
  try simp only [Act.put, List.setIfInBounds_toArray, List.set_cons_zero, List.set_cons_succ]
  refine' plan_take _ (by rfl) _ (by rfl) ?_ ?_
  rotate_left
  · rintro _ ⟨x, rfl⟩
    go_simp
    try with_reducible rfl
  try simp only [Act.put, List.setIfInBounds_toArray, List.set_cons_zero, List.set_cons_succ]
  refine' plan_take _ (by rfl) _ (by rfl) ?_ ?_
  rotate_left
  · rintro _ ⟨x, rfl⟩
    go_simp
    try with_reducible rfl
  try simp only [Act.put, List.setIfInBounds_toArray, List.set_cons_zero, List.set_cons_succ]
  refine' plan_take _ (by rfl) _ (by rfl) ?_ ?_
  rotate_left
  · rintro _ ⟨x, rfl⟩
    go_simp
    try with_reducible rfl
  try simp only [Act.put, List.setIfInBounds_toArray, List.set_cons_zero, List.set_cons_succ]
  refine' plan_take _ (by rfl) _ (by rfl) ?_ ?_
  rotate_left
  · rintro _ ⟨x, rfl⟩
    go_simp
    try with_reducible rfl
  try simp only [Act.put, List.setIfInBounds_toArray, List.set_cons_zero, List.set_cons_succ]
  refine plan_nil ?_
  have P3 : ScM w pw limit S' root' Z w3 := ⟨ps, pm, px, Y, h3, hw3, hy, n1, n2, l1, hx⟩
  have K3 : Keep X W w3 := kX.trans ((Keep.drewN X _ 1).trans (k3.mono fun k hk => ⟨(hx k (zx k hk)).1, (hx k (zx k hk)).2.1⟩))

  have g0 : (w3).cell? ⟨W.heap.size, 0, none⟩ = some (.int .i64 d) := by rw [cell_of_block q3]; rfl
  have g1 : (w3).cell? ⟨W.heap.size, 1, none⟩ = some (.int .i64 n) := by rw [cell_of_block q3]; rfl
  have g2 : (w3).cell? ⟨W.heap.size, 2, none⟩ = some (SV a) := by rw [cell_of_block q3]; rfl
  have g3 : (w3).cell? ⟨W.heap.size, 3, none⟩ = some (SV b) := by rw [cell_of_block q3]; rfl
  have A4 := (Below.refl w3.heap.size w3).alloc (Nat.le_refl _) (.cells #[SV a, SV t] 50)
  obtain ⟨Z4, zx4, zn4, P4⟩ := HC.out.1.grow P3 A4
  have r4 := heap_alloc_new w3 (.cells #[SV a, SV t] 50)
  have y4 := (A4.block _ (Array.getElem?_eq_some_iff.1 y3).1).trans y3
  have K4 := K3.trans (Keep.of_below A4 fun k hk => HC.out.1.lt P3 k (zx k hk))
  have zr : Z4 w3.heap.size := zn4 _ (Nat.le_refl _) (by simp)
  have row : PRowX (fun b => Z4 b ∧ W.heap.size ≤ b) (w3.alloc (.cells #[SV a, SV t] 50)) (.slice (some ⟨w3.heap.size, 0, none⟩) 1 1) [(a, t)] := ⟨PRow.one r4, fun g o s n c e => by cases e; exact ⟨zr, K3.size⟩⟩
  have row' := row.answer y4 (.int .i64 0) (.int .i64 1) (.slice (some ⟨w3.heap.size, 0, none⟩) 1 1)
  have ans := HC.out.1.answer P4 (zx4 _ zb4) (by omega) y4 K4 (fun k hk => by have := hlt k hk; omega) (.int .i64 0) (.int .i64 1) (.slice (some ⟨w3.heap.size, 0, none⟩) 1 1)
  have f0 : ((w3.alloc (.cells #[SV a, SV t] 50))).frozen? ⟨(W.heap.size + 1), 0, none⟩ = false := frozen_of_block y4
  have f1 : ((w3.alloc (.cells #[SV a, SV t] 50))).frozen? ⟨(W.heap.size + 1), 1, none⟩ = false := frozen_of_block y4
  have f2 : ((w3.alloc (.cells #[SV a, SV t] 50))).frozen? ⟨(W.heap.size + 1), 2, none⟩ = false := frozen_of_block y4
  have c0 : ((w3.alloc (.cells #[SV a, SV t] 50))).cell? ⟨(W.heap.size + 1), 0, none⟩ = some (.int .i64 0) := by rw [cell_of_block y4]; rfl
  have c1 : ((w3.alloc (.cells #[SV a, SV t] 50))).cell? ⟨(W.heap.size + 1), 1, none⟩ = some (.int .i64 0) := by rw [cell_of_block y4]; rfl
  have c2 : ((w3.alloc (.cells #[SV a, SV t] 50))).cell? ⟨(W.heap.size + 1), 2, none⟩ = some (.slice none 0 0) := by rw [cell_of_block y4]; rfl
  have HB := Lib.hid (And.intro ans (And.intro row' fun k hk => zx4 k (zx k hk)))
  clear ans row row' zr K4 y4 r4 P4 zx4 zn4 A4 K3 P3 y3 q3 hw3 k3 h3 hw hy n1 n2 l1 hx q2 y2 zx zb3 zb4 lw hlt kX HX HZ HC HI m0 m1 m2 m3 m4 o0 o1 o2 o3
  go_wp2_with fail
  obtain ⟨⟨P4, K4, q4⟩, row', zx⟩ := HB.out
  generalize ((((w3.alloc (.cells #[SV a, SV t] 50)).setCell ⟨(W.heap.size + 1), 0, none⟩ (.int .i64 0)).setCell ⟨(W.heap.size + 1), 1, none⟩ (.int .i64 1)).setCell ⟨(W.heap.size + 1), 2, none⟩ (.slice (some ⟨w3.heap.size, 0, none⟩) 1 1)) = w4 at *
  have e0 : (w4).cell? ⟨(W.heap.size + 1), 0, none⟩ = some (.int .i64 0) := by rw [cell_of_block q4]; rfl
  have e1 : (w4).cell? ⟨(W.heap.size + 1), 1, none⟩ = some (.int .i64 1) := by rw [cell_of_block q4]; rfl
  have e2 : (w4).cell? ⟨(W.heap.size + 1), 2, none⟩ = some (.slice (some ⟨w3.heap.size, 0, none⟩) 1 1) := by rw [cell_of_block q4]; rfl
  exact bodyPost_ret (v := .agg #[.int .i64 0, .int .i64 1, .slice (some ⟨w3.heap.size, 0, none⟩) 1 1]) (by simp [results, Tryz.f18, go_sem, e0, e1, e2]) rfl ⟨_, Z4, rfl, zx, row', P4, K4⟩

end Go.Proofs.YtoaabbnieakidaaGreatDoorR

namespace Go.Proofs.YtoaabbnieakidaaGreatDoorR
open Go.RowKit Go.BigFrame Go.Maps Go.WideMaps Lf

set_option maxRecDepth 100000 in
set_option maxHeartbeats 3200000 in
theorem sc_open {w W : World} {pw limit root hh : Nat} {S S1 : St} {X : Nat → Prop} (ht : Tab64 w) (hP : ScM w pw limit S root X W) (d : Int) (a b : List UInt8) (hlim : limit ≤ 1000) (ho : MkOk S (many limit)) (hm : S.make (many limit) = ((hh, 0), S1)) :
    Calls Tryz.prog 43 #[PV pw, .agg #[.int .i64 d, .int .i64 0, SV a, SV b]] W fun e w' => StepQ (ScC w pw limit S1 root hh 0) X W ⟨0, 0, []⟩ e w' := by
  have cP := scm_cl ht pw limit S root
  have cP' := scc_cl ht pw limit S1 root hh 0
  have B1 := (Below.refl W.heap.size W).alloc (Nat.le_refl _) (.cells #[.int .i64 d, .int .i64 0, SV a, SV b] 23)
  have z1 : (W.alloc (.cells #[.int .i64 d, .int .i64 0, SV a, SV b] 23)).heap.size = W.heap.size + 1 := by simp
  have A2 := (Below.refl _ (W.alloc (.cells #[.int .i64 d, .int .i64 0, SV a, SV b] 23))).alloc (Nat.le_refl _) (.cells #[.int .i64 0, .int .i64 0, .slice none 0 0] 35)
  have B2 := B1.alloc B1.size (.cells #[.int .i64 0, .int .i64 0, .slice none 0 0] 35)
  have q1 := heap_alloc_new W (.cells #[.int .i64 d, .int .i64 0, SV a, SV b] 23)
  have q2 := (A2.block W.heap.size (by omega)).trans q1
  have y2 := heap_alloc_new (W.alloc (.cells #[.int .i64 d, .int .i64 0, SV a, SV b] 23)) (.cells #[.int .i64 0, .int .i64 0, .slice none 0 0] 35)
  rw [z1] at y2
  have z2 : ((W.alloc (.cells #[.int .i64 d, .int .i64 0, SV a, SV b] 23)).alloc (.cells #[.int .i64 0, .int .i64 0, .slice none 0 0] 35)).heap.size = W.heap.size + 2 := by simp
  obtain ⟨Z, zx, zn, hP2⟩ := cP.grow hP B2
  have zb3 : Z W.heap.size := zn _ (Nat.le_refl _) (by omega)
  have zb4 : Z (W.heap.size + 1) := zn _ (Nat.le_succ _) (by omega)
  have lw := (cP.bl hP).size
  have hlt := cP.lt hP
  have kX : Keep X W ((W.alloc (.cells #[.int .i64 d, .int .i64 0, SV a, SV b] 23)).alloc (.cells #[.int .i64 0, .int .i64 0, .slice none 0 0] 35)) := Keep.of_below B2 hlt
  obtain ⟨ps, pm, px, Y, h, hw, hy, n1, n2, l1, hx⟩ := hP2.ex
  have hop := fun q => cursor_open (h.below (w' := ((W.alloc (.cells #[.int .i64 d, .int .i64 0, SV a, SV b] 23)).alloc (.cells #[.int .i64 0, .int .i64 0, .slice none 0 0] 35)).drewN q) ⟨rfl, rfl, rfl, Nat.le_refl _, fun _ _ => rfl⟩) hlim ho hm
  obtain ⟨I, hIi, hIo2⟩ : ∃ I : World → Prop, (∀ w', I w' → w'.heap[W.heap.size]? = some (.cells #[.int .i64 d, .int .i64 0, SV a, SV b] 23)) ∧ (∀ w', w'.heap[W.heap.size]? = some (.cells #[.int .i64 d, .int .i64 0, SV a, SV b] 23) → I w') := ⟨fun w' => w'.heap[W.heap.size]? = some (.cells #[.int .i64 d, .int .i64 0, SV a, SV b] 23), fun _ h => h, fun _ h => h⟩
  have hz0 := fun x : Keeps I => hIi _ x.ok
  have o0 : ∀ x : Keeps I, x.to.cell? ⟨W.heap.size, 0, none⟩ = some (.int .i64 d) := fun x => by rw [cell_of_block (hz0 x)]; rfl
  have o1 : ∀ x : Keeps I, x.to.cell? ⟨W.heap.size, 1, none⟩ = some (.int .i64 0) := fun x => by rw [cell_of_block (hz0 x)]; rfl
  have o2 : ∀ x : Keeps I, x.to.cell? ⟨W.heap.size, 2, none⟩ = some (SV a) := fun x => by rw [cell_of_block (hz0 x)]; rfl
  have o3 : ∀ x : Keeps I, x.to.cell? ⟨W.heap.size, 3, none⟩ = some (SV b) := fun x => by rw [cell_of_block (hz0 x)]; rfl
  have hww := hw
  unfold WoOn at hww
  have c0 : (((W.alloc (.cells #[.int .i64 d, .int .i64 0, SV a, SV b] 23)).alloc (.cells #[.int .i64 0, .int .i64 0, .slice none 0 0] 35))).cell? ⟨W.heap.size, 0, none⟩ = some (.int .i64 d) := by rw [cell_of_block q2]; rfl
  have c1 : (((W.alloc (.cells #[.int .i64 d, .int .i64 0, SV a, SV b] 23)).alloc (.cells #[.int .i64 0, .int .i64 0, .slice none 0 0] 35))).cell? ⟨W.heap.size, 1, none⟩ = some (.int .i64 0) := by rw [cell_of_block q2]; rfl
  have c2 : (((W.alloc (.cells #[.int .i64 d, .int .i64 0, SV a, SV b] 23)).alloc (.cells #[.int .i64 0, .int .i64 0, .slice none 0 0] 35))).cell? ⟨W.heap.size, 2, none⟩ = some (SV a) := by rw [cell_of_block q2]; rfl
  have c3 : (((W.alloc (.cells #[.int .i64 d, .int .i64 0, SV a, SV b] 23)).alloc (.cells #[.int .i64 0, .int .i64 0, .slice none 0 0] 35))).cell? ⟨W.heap.size, 3, none⟩ = some (SV b) := by rw [cell_of_block q2]; rfl
  have g0 : (((W.alloc (.cells #[.int .i64 d, .int .i64 0, SV a, SV b] 23)).alloc (.cells #[.int .i64 0, .int .i64 0, .slice none 0 0] 35))).cell? ⟨pw, 0, none⟩ = some (PV pm) := by rw [cell_of_block hww]; rfl
  have g1 : (((W.alloc (.cells #[.int .i64 d, .int .i64 0, SV a, SV b] 23)).alloc (.cells #[.int .i64 0, .int .i64 0, .slice none 0 0] 35))).cell? ⟨pw, 1, none⟩ = some (.pointer none) := by rw [cell_of_block hww]; rfl
  have g2 : (((W.alloc (.cells #[.int .i64 d, .int .i64 0, SV a, SV b] 23)).alloc (.cells #[.int .i64 0, .int .i64 0, .slice none 0 0] 35))).cell? ⟨pw, 2, none⟩ = some (.pointer none) := by rw [cell_of_block hww]; rfl
  have g3 : (((W.alloc (.cells #[.int .i64 d, .int .i64 0, SV a, SV b] 23)).alloc (.cells #[.int .i64 0, .int .i64 0, .slice none 0 0] 35))).cell? ⟨pw, 3, none⟩ = some (.pointer none) := by rw [cell_of_block hww]; rfl
  have g4 : (((W.alloc (.cells #[.int .i64 d, .int .i64 0, SV a, SV b] 23)).alloc (.cells #[.int .i64 0, .int .i64 0, .slice none 0 0] 35))).cell? ⟨pw, 4, none⟩ = some (.pointer none) := by rw [cell_of_block hww]; rfl
  have HX := Lib.hid (And.intro hw (And.intro hy (And.intro n1 (And.intro n2 (And.intro l1 hx)))))
  have HZ := Lib.hid (And.intro q2 (And.intro y2 (And.intro zx (And.intro zb3 (And.intro zb4 (And.intro lw (And.intro hlt kX)))))))
  have HC := Lib.hid (And.intro (And.intro h.st.yl cP') hop)
  clear cP cP' B1 z1 A2 B2 q1 q2 y2 z2 zx zn hP2 zb3 zb4 lw hlt kX h hw hy n1 n2 l1 hx hop hIi hz0 hP ht hlim ho hm hww
  go_enter Tryz.func43, Tryz.ntmps43
  go_wp2_with fail
  go_quiet (fail)
  go_wp2_with fail
  refine (noc_close (Or.inl rfl)).mono ?_
  rintro e w3 ⟨rfl, rfl⟩
  go_wp2_with fail
  refine (HC.out.2 _).mono ?_
  rintro e w5 ⟨pc, V, rfl, xz, lpc, hc5, k5⟩
  obtain ⟨hw, hy, n1, n2, l1, hx⟩ := HX.out
  obtain ⟨q2, y2, zx, zb3, zb4, lw, hlt, kX⟩ := HZ.out
  have lpc' : W.heap.size + 2 ≤ pc := by
    have e : ((W.alloc (.cells #[.int .i64 d, .int .i64 0, SV a, SV b] 23)).alloc (.cells #[.int .i64 0, .int .i64 0, .slice none 0 0] 35)).heap.size = W.heap.size + 2 := by simp
    have l : ((W.alloc (.cells #[.int .i64 d, .int .i64 0, SV a, SV b] 23)).alloc (.cells #[.int .i64 0, .int .i64 0, .slice none 0 0] 35)).heap.size ≤ pc := lpc
    omega
  have hw5 : WoOn w5 pw pm (.pointer none) := (k5.block pw hy).trans hw
  have q5 : w5.heap[W.heap.size]? = some (.cells #[.int .i64 d, .int .i64 0, SV a, SV b] 23) := (k5.block _ (hx _ zb3).1).trans q2
  have y5 : w5.heap[W.heap.size + 1]? = some (.cells #[.int .i64 0, .int .i64 0, .slice none 0 0] 35) := (k5.block _ (hx _ zb4).1).trans y2
  have n3 : pw ≠ pc := by
    have := (Array.getElem?_eq_some_iff.1 hw).1
    have e : ((W.alloc (.cells #[.int .i64 d, .int .i64 0, SV a, SV b] 23)).alloc (.cells #[.int .i64 0, .int .i64 0, .slice none 0 0] 35)).heap.size = W.heap.size + 2 := by simp
    omega
  have e2 : ((W.alloc (.cells #[.int .i64 d, .int .i64 0, SV a, SV b] 23)).alloc (.cells #[.int .i64 0, .int .i64 0, .slice none 0 0] 35)).heap.size = W.heap.size + 2 := by simp
  have hxx : ∀ k, Z k → V k ∧ k ≠ px ∧ k ≠ pm ∧ k ≠ pw ∧ k ≠ pc := fun k hk => ⟨xz k (hx k hk).1, (hx k hk).2.1, (hx k hk).2.2.1, (hx k hk).2.2.2, by
    have := HC.out.1.1 k (hx k hk).1
    omega⟩
  have hw6 : WoOn (w5.setCell ⟨pw, 1, none⟩ (PV pc)) pw pm (PV pc) := by
    have := heap_setCell (w := w5) (i := 1) (v := PV pc) hw5
    unfold WoOn
    simpa using this
  have ow : ∀ k, k ≠ pw → (w5.setCell ⟨pw, 1, none⟩ (PV pc)).heap[k]? = w5.heap[k]? := fun k hk => heap_setCell_ne (w := w5) hk
  have hwz : w5.heap[pw]? = some (.cells #[PV pm, .pointer none, .pointer none, .pointer none, .pointer none] 30) := hw5
  have c6 : CuAt limit w ps pm px pc S1 root V hh 0 (w5.setCell ⟨pw, 1, none⟩ (PV pc)) := hc5.write (xz _ hy) hwz ⟨by decide, by decide⟩ (by simp) (by show w5.heap.size ≤ (w5.setCell _ _).heap.size; simp) ow ⟨rfl, rfl, rfl⟩ n2 n1 n3 l1
  have P6 : ScC w pw limit S1 root hh 0 Z (w5.setCell ⟨pw, 1, none⟩ (PV pc)) := ⟨ps, pm, px, pc, V, c6, hw6, xz _ hy, n1, n2, n3, l1, hxx⟩
  have q6 : (w5.setCell ⟨pw, 1, none⟩ (PV pc)).heap[W.heap.size]? = some (.cells #[.int .i64 d, .int .i64 0, SV a, SV b] 23) := (ow _ (hx _ zb3).2.2.2).trans q5
  have y6 : (w5.setCell ⟨pw, 1, none⟩ (PV pc)).heap[W.heap.size + 1]? = some (.cells #[.int .i64 0, .int .i64 0, .slice none 0 0] 35) := (ow _ (hx _ zb4).2.2.2).trans y5
  have K6 : Keep X W (w5.setCell ⟨pw, 1, none⟩ (PV pc)) := (kX.trans ((Keep.drewN X _ _).trans (k5.mono fun k hk => (hx k (zx k hk)).1))).trans ⟨rfl, rfl, rfl, by show w5.heap.size ≤ (w5.setCell _ _).heap.size; simp, fun k hk => ow k (hx k (zx k hk)).2.2.2⟩
  have ans := HC.out.1.2.answer P6 zb4 (by omega) y6 K6 (fun k hk => by have := hlt k hk; omega) (.int .i64 0) (.int .i64 0) (.slice none 0 0)
  have r0 : (w5).frozen? ⟨pw, 0, none⟩ = false := frozen_of_block hwz
  have r1 : (w5).frozen? ⟨pw, 1, none⟩ = false := frozen_of_block hwz
  have r2 : (w5).frozen? ⟨pw, 2, none⟩ = false := frozen_of_block hwz
  have r3 : (w5).frozen? ⟨pw, 3, none⟩ = false := frozen_of_block hwz
  have r4 : (w5).frozen? ⟨pw, 4, none⟩ = false := frozen_of_block hwz
  have s0 : (w5).cell? ⟨pw, 0, none⟩ = some (PV pm) := by rw [cell_of_block hwz]; rfl
  have s1 : (w5).cell? ⟨pw, 1, none⟩ = some (.pointer none) := by rw [cell_of_block hwz]; rfl
  have s2 : (w5).cell? ⟨pw, 2, none⟩ = some (.pointer none) := by rw [cell_of_block hwz]; rfl
  have s3 : (w5).cell? ⟨pw, 3, none⟩ = some (.pointer none) := by rw [cell_of_block hwz]; rfl
  have s4 : (w5).cell? ⟨pw, 4, none⟩ = some (.pointer none) := by rw [cell_of_block hwz]; rfl
  have f0 : ((w5.setCell ⟨pw, 1, none⟩ (PV pc))).frozen? ⟨(W.heap.size + 1), 0, none⟩ = false := frozen_of_block y6
  have f1 : ((w5.setCell ⟨pw, 1, none⟩ (PV pc))).frozen? ⟨(W.heap.size + 1), 1, none⟩ = false := frozen_of_block y6
  have f2 : ((w5.setCell ⟨pw, 1, none⟩ (PV pc))).frozen? ⟨(W.heap.size + 1), 2, none⟩ = false := frozen_of_block y6
  have x0 : ((w5.setCell ⟨pw, 1, none⟩ (PV pc))).cell? ⟨(W.heap.size + 1), 0, none⟩ = some (.int .i64 0) := by rw [cell_of_block y6]; rfl
  have x1 : ((w5.setCell ⟨pw, 1, none⟩ (PV pc))).cell? ⟨(W.heap.size + 1), 1, none⟩ = some (.int .i64 0) := by rw [cell_of_block y6]; rfl
  have x2 : ((w5.setCell ⟨pw, 1, none⟩ (PV pc))).cell? ⟨(W.heap.size + 1), 2, none⟩ = some (.slice none 0 0) := by rw [cell_of_block y6]; rfl
  have I0 : I w5.drew := hIo2 _ q5
  have I6 : I (w5.setCell ⟨pw, 1, none⟩ (PV pc)).drew := hIo2 _ q6
  have HB := Lib.hid (And.intro ans (And.intro (And.intro zx HC.out.1.2) I6))
  clear ans K6 y6 q6 P6 c6 hwz ow hw6 hxx e2 n3 y5 q5 lpc' k5 hc5 lpc xz hy n1 n2 l1 hx q2 y2 zx zb3 zb4 lw hlt kX HX HZ HC I6 g0 g1 g2 g3 g4 c0 c1 c2 c3
  go_wp2_with fail
  refine wp_region_plan I (.take 0 (.take 1 (.take 2 (.take 3 (.take 4 (.take 5 (.take 6 (.go 7 .nil)))))))) (by kernel_rfl) (by kernel_rfl) I0 ?_
  clear I0
  refine' plan_take _ (by rfl) _ (by rfl) ?_ ?_
  rotate_left
  · rintro _ ⟨x, rfl⟩
    have hxo1 := o1 x
    go_simp
    try with_reducible rfl
  try simp only [Act.put, List.setIfInBounds_toArray, List.set_cons_zero, List.set_cons_succ]
  refine' plan_take _ (by rfl) _ (by rfl) ?_ ?_
  rotate_left
  · rintro _ ⟨x, rfl⟩
    have hxo1 := o1 x
    go_simp
    try with_reducible rfl
  try simp only [Act.put, List.setIfInBounds_toArray, List.set_cons_zero, List.set_cons_succ]
  refine' plan_take _ (by rfl) _ (by rfl) ?_ ?_
  rotate_left
  · rintro _ ⟨x, rfl⟩
    have hxo1 := o1 x
    go_simp
    try with_reducible rfl
  try simp only [Act.put, List.setIfInBounds_toArray, List.set_cons_zero, List.set_cons_succ]
  refine' plan_take _ (by rfl) _ (by rfl) ?_ ?_
  rotate_left
  · rintro _ ⟨x, rfl⟩
    have hxo1 := o1 x
    go_simp
    try with_reducible rfl
  try simp only [Act.put, List.setIfInBounds_toArray, List.set_cons_zero, List.set_cons_succ]
  refine' plan_take _ (by rfl) _ (by rfl) ?_ ?_
  rotate_left
  · rintro _ ⟨x, rfl⟩
    have hxo1 := o1 x
    go_simp
    try with_reducible rfl
  try simp only [Act.put, List.setIfInBounds_toArray, List.set_cons_zero, List.set_cons_succ]
  refine' plan_take _ (by rfl) _ (by rfl) ?_ ?_
  rotate_left
  · rintro _ ⟨x, rfl⟩
    have hxo1 := o1 x
    go_simp
    try with_reducible rfl
  try simp only [Act.put, List.setIfInBounds_toArray, List.set_cons_zero, List.set_cons_succ]
  refine' plan_take _ (by rfl) _ (by rfl) ?_ ?_
  rotate_left
  · rintro _ ⟨x, rfl⟩
    have hxo1 := o1 x
    go_simp
    try with_reducible rfl
  try simp only [Act.put, List.setIfInBounds_toArray, List.set_cons_zero, List.set_cons_succ]
  refine plan_do _ (by rfl) (by rfl) (fun K hK => ?_)
  go_simp
  try go_simp
  refine hK.out _ _ (HB.out.2.2) ?_
  clear hK K
  try simp only [Act.put, List.setIfInBounds_toArray, List.set_cons_zero, List.set_cons_succ]
  refine plan_nil ?_
  clear o0 o1 o2 o3 hIo2 r0 r1 r2 r3 r4 s0 s1 s2 s3 s4
  go_wp2_with fail
  obtain ⟨⟨P7, K7, q7⟩, ⟨zx, cP'⟩, -⟩ := HB.out
  obtain ⟨Z7, zx7, -, P8⟩ := cP'.grow P7 (Below.refl _ _).drew
  have K8 : Keep X W ((((w5.setCell ⟨pw, 1, none⟩ (PV pc)).setCell ⟨(W.heap.size + 1), 0, none⟩ (.int .i64 0)).setCell ⟨(W.heap.size + 1), 1, none⟩ (.int .i64 0)).setCell ⟨(W.heap.size + 1), 2, none⟩ (.slice none 0 0)).drew := K7.trans (Keep.drewN X _ 1)
  generalize ((((w5.setCell ⟨pw, 1, none⟩ (PV pc)).setCell ⟨(W.heap.size + 1), 0, none⟩ (.int .i64 0)).setCell ⟨(W.heap.size + 1), 1, none⟩ (.int .i64 0)).setCell ⟨(W.heap.size + 1), 2, none⟩ (.slice none 0 0)) = w7 at *
  have e0 : (w7).cell? ⟨(W.heap.size + 1), 0, none⟩ = some (.int .i64 0) := by rw [cell_of_block q7]; rfl
  have e1 : (w7).cell? ⟨(W.heap.size + 1), 1, none⟩ = some (.int .i64 0) := by rw [cell_of_block q7]; rfl
  have e2 : (w7).cell? ⟨(W.heap.size + 1), 2, none⟩ = some (.slice none 0 0) := by rw [cell_of_block q7]; rfl
  exact bodyPost_ret (v := .agg #[.int .i64 0, .int .i64 0, .slice none 0 0]) (by simp [results, Tryz.f43, go_sem, e0, e1, e2]) rfl ⟨_, Z7, rfl, fun k hk => zx7 k (zx k hk), PRowX.nil _ _, P8, K8⟩
end Go.Proofs.YtoaabbnieakidaaGreatDoorR
