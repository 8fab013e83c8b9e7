/- Trees of any face: an item made, one let go, Put: the walks. -/
import Derived.Test.YtepdkbmnkjfcpaaGreatDoorVan
import Derived.Test.YtepdkbmnkjfcpaaGreatDoorVal
import Derived.OwnWalk
import Derived.Test.YtepdkbmnkjfcpaaGreatDoorVaq
import Derived.Test.YtepdkbmnkjfcpaaGreatDoorVam
set_option maxRecDepth 100000
set_option maxHeartbeats 6400000
namespace Go.Proofs.YtepdkbmnkjfcpaaGreatDoor
open Go.RowKit Go.BigFrame Go.Maps Go.WideMaps Lf
structure ItF (w W : World) (px ps : Nat) (ty : TypeId) (kv : Value) (kind td root : Nat) (a b : List UInt8) (S : St) (Y : Nat → Prop) (q0 q1 : Value) : Prop where
  t : TreeF W px ps ty kv kind td root
  y : W.heap[w.heap.size]? = some (.cells #[SV a, SV b] 38)
  q : W.heap[w.heap.size + 1]? = some (.cells #[q0, q1] 105)
  st : StOn W ps S (fun k => Y k ∨ (w.heap.size ≤ k ∧ k < w.heap.size + 2))
  k : Keep Y w W
theorem ItF.drew {w W : World} {px ps kind td root : Nat} {ty : TypeId} {kv : Value} {a b : List UInt8} {S : St} {Y : Nat → Prop} {q0 q1 : Value} (h : ItF w W px ps ty kv kind td root a b S Y q0 q1) : ItF w W.drew px ps ty kv kind td root a b S Y q0 q1 :=
  ⟨h.t, h.y, h.q, h.st.below (Below.refl _ _).drew, h.k.trans (Keep.drewN Y W 1)⟩
theorem ItF.call {w W W' : World} {px ps kind td root : Nat} {ty : TypeId} {kv : Value} {a b : List UInt8} {S S' : St} {Y : Nat → Prop} {q0 q1 : Value} (h : ItF w W px ps ty kv kind td root a b S Y q0 q1) (hpx : Y px) (hs : StOn W' ps S' (fun k => Y k ∨ (w.heap.size ≤ k ∧ k < w.heap.size + 2))) (hk : Keep (fun k => Y k ∨ (w.heap.size ≤ k ∧ k < w.heap.size + 2)) W W') : ItF w W' px ps ty kv kind td root a b S' Y q0 q1 :=
  ⟨h.t.keep hk (Or.inl hpx), (hk.block _ (Or.inr ⟨by omega, by omega⟩)).trans h.y, (hk.block _ (Or.inr ⟨by omega, by omega⟩)).trans h.q, hs, h.k.trans (hk.mono fun _ hk => Or.inl hk)⟩
theorem ItF.write {w W W' : World} {px ps kind td root : Nat} {ty : TypeId} {kv : Value} {a b : List UInt8} {S : St} {Y : Nat → Prop} {q0 q1 r0 r1 : Value} (h : ItF w W px ps ty kv kind td root a b S Y q0 q1) (hpx : Y px) (hY : ∀ k, Y k → k < w.heap.size) (hz : W'.heap.size = W.heap.size) (ho : W'.os = W.os ∧ W'.tape = W.tape ∧ W'.output = W.output) (hw : ∀ k, k ≠ w.heap.size + 1 → W'.heap[k]? = W.heap[k]?) (hq : W'.heap[w.heap.size + 1]? = some (.cells #[r0, r1] 105)) : ItF w W' px ps ty kv kind td root a b S Y r0 r1 := by
  have h1 := hY px hpx
  refine ⟨(hw px (by omega)).trans h.t, (hw _ (by omega)).trans h.y, hq, h.st.write (Or.inr ⟨by omega, by omega⟩) h.q ⟨by decide, by decide⟩ (by simp) (by omega) fun k _ hk => hw k hk, ?_⟩
  refine h.k.trans ⟨ho.1, ho.2.1, ho.2.2, by omega, fun k hk => hw k ?_⟩
  have := hY k hk
  omega
theorem treeF_item {w : World} {px ps kind td root : Nat} {ty : TypeId} {kv : Value} {S S' : St} {Y : Nat → Prop} (h : StOn w ps S Y) (hi : Inv S) (hT : TreeF w px ps ty kv kind td root) (hpx : Y px) (a b : List UInt8) (hm : ItemsOk S a b) {p : Nat × Nat} (hp : itemsM S a b = some (p, S')) :
    Calls Tryz.prog 71 #[PV px, prV (a, b)] w fun e w' => e = .returned (.tuple #[itV p.1 p.2, .int .i64 0]) ∧ StOn w' ps S' Y ∧ Keep Y w w' ∧ Inv S' ∧ p.1 < 18446744073709551616 ∧ p.2 < 18446744073709551616 := by
  obtain ⟨e1, e2, e3⟩ := itemsM_some hp
  have hi1 := putBlob_inv hm.2.2.1 hi
  have hi2 := putBlob_inv hm.2.2.2 hi1
  have l1 := putBlob_lt h.tabwf a
  have hp1 := fun W Z (hW : StOn W ps S Z) => blob_put hW hi a hm.1 hm.2.2.1
  have hp2 := fun W Z (hW : StOn W ps (putBlob S a).2 Z) => And.intro (blob_put hW hi1 b hm.2.1 hm.2.2.2) (putBlob_lt hW.tabwf b)
  rw [e1] at hp1 l1
  rw [e2] at hp2
  rw [← e3] at hi2 hp2
  generalize (putBlob S a).2 = S1 at *
  obtain ⟨p1, p2⟩ := p
  simp only [prV, itV] at hp1 hp2 l1 ⊢
  have B1 := (Below.refl w.heap.size w).alloc (Nat.le_refl _) (.cells #[SV a, SV b] 38)
  have y1 := heap_alloc_new w (.cells #[SV a, SV b] 38)
  have z1 : (w.alloc (.cells #[SV a, SV b] 38)).heap.size = w.heap.size + 1 := by simp
  generalize hw1 : w.alloc (.cells #[SV a, SV b] 38) = w1 at *
  have A2 := (Below.refl w1.heap.size w1).alloc (Nat.le_refl _) (.cells #[.int .u64 0, .int .u64 0] 105)
  have B2 := B1.trans (A2.mono B1.size)
  have y2 := (A2.block w.heap.size (by omega)).trans y1
  have q2 := heap_alloc_new w1 (.cells #[.int .u64 0, .int .u64 0] 105)
  have z2 : (w1.alloc (.cells #[.int .u64 0, .int .u64 0] 105)).heap.size = w.heap.size + 2 := by simp [z1]
  rw [z1] at q2
  subst hw1
  have hY := h.yl
  have hA : ItF w ((w.alloc (.cells #[SV a, SV b] 38)).alloc (.cells #[.int .u64 0, .int .u64 0] 105)) px ps ty kv kind td root a b S Y (.int .u64 0) (.int .u64 0) := ⟨hT.below B2, y2, q2, by have := h.wide B2; rwa [z2] at this, Keep.of_below B2 hY⟩
  have HG := Lib.hid (And.intro hp1 (And.intro hp2 (And.intro hpx hY)))
  have HL := Lib.hid (And.intro hi2 l1)
  have HA := Lib.hid hA
  clear hp1 hp2 hA B1 B2 y1 y2 q2 A2 z1 z2 hY h hi hi1 hi2 l1 hm hp e1 e2 e3 hT
  go_enter Tryz.func71, Tryz.ntmps71
  go_wp2_with fail
  generalize ((w.alloc (.cells #[SV a, SV b] 38)).alloc (.cells #[.int .u64 0, .int .u64 0] 105)) = W0 at *
  obtain ⟨I, hIi, hIo⟩ := two_class (fun w' => TreeF w' px ps ty kv kind td root) (fun w' => w'.heap[w.heap.size]? = some (.cells #[SV a, SV b] 38))
  have hy0 := fun x : Keeps I => (hIi _ x.ok).1
  have hz0 := fun x : Keeps I => (hIi _ x.ok).2
  simp only [TreeF] at hy0
  have m0 : ∀ x : Keeps I, x.to.cell? ⟨px, 0, none⟩ = some (PV ps) := fun x => by rw [cell_of_block (hy0 x)]; rfl
  have m1 : ∀ x : Keeps I, x.to.cell? ⟨px, 1, none⟩ = some (.int .i64 kind) := fun x => by rw [cell_of_block (hy0 x)]; rfl
  have m2 : ∀ x : Keeps I, x.to.cell? ⟨px, 2, none⟩ = some (.int .i64 td) := fun x => by rw [cell_of_block (hy0 x)]; rfl
  have m3 : ∀ x : Keeps I, x.to.cell? ⟨px, 3, none⟩ = some (.iface ty kv) := fun x => by rw [cell_of_block (hy0 x)]; rfl
  have m4 : ∀ x : Keeps I, x.to.cell? ⟨px, 4, none⟩ = some (.int .u64 root) := fun x => by rw [cell_of_block (hy0 x)]; rfl
  have n0 : ∀ x : Keeps I, x.to.cell? ⟨w.heap.size, 0, none⟩ = some (SV a) := fun x => by rw [cell_of_block (hz0 x)]; rfl
  have n1 : ∀ x : Keeps I, x.to.cell? ⟨w.heap.size, 1, none⟩ = some (SV b) := fun x => by rw [cell_of_block (hz0 x)]; rfl
  have HI := Lib.hid hIo
  clear hIi hIo hy0 hz0
  have hI0 : I W0.drew := HI.out _ HA.out.drew.t HA.out.drew.y
  refine wp_region_plan I (.take 0 (.take 1 (.take 2 (.take 3 (.take 4 (.take 5 (.go 6 (.take 7 (.take 8 (.take 9 (.take 10 (.go 11 (.go 12 .nil))))))))))))) (by kernel_rfl) (by kernel_rfl) hI0 ?_
  clear hI0
  refine' plan_take _ (by rfl) _ (by rfl) ?_ ?_
  rotate_left
  · rintro _ ⟨x, rfl⟩
    have hxm0 := m0 x
    have hxn0 := n0 x
    go_simp
    try with_reducible rfl
  try simp only [Act.put, List.setIfInBounds_toArray, List.set_cons_zero, List.set_cons_succ]
  refine' plan_take _ (by rfl) _ (by rfl) ?_ ?_
  rotate_left
  · rintro _ ⟨x, rfl⟩
    have hxm0 := m0 x
    have hxn0 := n0 x
    go_simp
    try with_reducible rfl
  try simp only [Act.put, List.setIfInBounds_toArray, List.set_cons_zero, List.set_cons_succ]
  refine' plan_take _ (by rfl) _ (by rfl) ?_ ?_
  rotate_left
  · rintro _ ⟨x, rfl⟩
    have hxm0 := m0 x
    have hxn0 := n0 x
    go_simp
    try with_reducible rfl
  try simp only [Act.put, List.setIfInBounds_toArray, List.set_cons_zero, List.set_cons_succ]
  refine' plan_take _ (by rfl) _ (by rfl) ?_ ?_
  rotate_left
  · rintro _ ⟨x, rfl⟩
    have hxm0 := m0 x
    have hxn0 := n0 x
    go_simp
    try with_reducible rfl
  try simp only [Act.put, List.setIfInBounds_toArray, List.set_cons_zero, List.set_cons_succ]
  refine' plan_take _ (by rfl) _ (by rfl) ?_ ?_
  rotate_left
  · rintro _ ⟨x, rfl⟩
    have hxm0 := m0 x
    have hxn0 := n0 x
    go_simp
    try with_reducible rfl
  try simp only [Act.put, List.setIfInBounds_toArray, List.set_cons_zero, List.set_cons_succ]
  refine' plan_take _ (by rfl) _ (by rfl) ?_ ?_
  rotate_left
  · rintro _ ⟨x, rfl⟩
    have hxm0 := m0 x
    have hxn0 := n0 x
    go_simp
    try with_reducible rfl
  try simp only [Act.put, List.setIfInBounds_toArray, List.set_cons_zero, List.set_cons_succ]
  refine plan_do _ (by rfl) (by rfl) (fun K hK => ?_)
  go_simp
  refine (HG.out.1 _ _ HA.out.drew.st).mono ?_
  rintro e w3 ⟨rfl, h3, k3⟩
  have HAc := Lib.hid (HA.out.drew.call HG.out.2.2.1 h3 k3)
  clear h3 k3
  have q := HAc.out.q
  have c0 : (w3).cell? ⟨(w.heap.size + 1), 0, none⟩ = some (.int .u64 0) := by rw [cell_of_block q]; rfl
  have c1 : (w3).cell? ⟨(w.heap.size + 1), 1, none⟩ = some (.int .u64 0) := by rw [cell_of_block q]; rfl
  have f0 : (w3).frozen? ⟨(w.heap.size + 1), 0, none⟩ = false := frozen_of_block q
  have f1 : (w3).frozen? ⟨(w.heap.size + 1), 1, none⟩ = false := frozen_of_block q
  clear q
  try go_simp
  refine hK.out _ _ (HI.out _ HAc.out.t HAc.out.y) ?_
  clear hK K
  try simp only [Act.put, List.setIfInBounds_toArray, List.set_cons_zero, List.set_cons_succ]
  refine' plan_take _ (by rfl) _ (by rfl) ?_ ?_
  rotate_left
  · rintro _ ⟨x, rfl⟩
    go_simp
    try with_reducible rfl
  try simp only [Act.put, List.setIfInBounds_toArray, List.set_cons_zero, List.set_cons_succ]
  refine' plan_take _ (by rfl) _ (by rfl) ?_ ?_
  rotate_left
  · rintro _ ⟨x, rfl⟩
    go_simp
    try with_reducible rfl
  try simp only [Act.put, List.setIfInBounds_toArray, List.set_cons_zero, List.set_cons_succ]
  refine' plan_take _ (by rfl) _ (by rfl) ?_ ?_
  rotate_left
  · rintro _ ⟨x, rfl⟩
    go_simp
    try with_reducible rfl
  try simp only [Act.put, List.setIfInBounds_toArray, List.set_cons_zero, List.set_cons_succ]
  refine' plan_take _ (by rfl) _ (by rfl) ?_ ?_
  rotate_left
  · rintro _ ⟨x, rfl⟩
    go_simp
    try with_reducible rfl
  try simp only [Act.put, List.setIfInBounds_toArray, List.set_cons_zero, List.set_cons_succ]
  refine plan_do _ (by rfl) (by rfl) (fun K hK => ?_)
  go_simp
  have HAs := Lib.hid (HAc.out.write (W' := w3.setCell ⟨w.heap.size + 1, 0, none⟩ (.int .u64 p1)) HG.out.2.2.1 HG.out.2.2.2 (by simp) ⟨rfl, rfl, rfl⟩ (fun k hk => heap_setCell_ne hk) (heap_setCell HAc.out.q))
  clear c0 c1 f0 f1
  generalize w3.setCell ⟨w.heap.size + 1, 0, none⟩ (.int .u64 p1) = w4 at *
  try go_simp
  refine hK.out _ _ (HI.out _ HAs.out.t HAs.out.y) ?_
  clear hK K
  try simp only [Act.put, List.setIfInBounds_toArray, List.set_cons_zero, List.set_cons_succ]
  refine plan_do _ (by rfl) (by rfl) (fun K hK => ?_)
  go_simp
  try go_simp
  refine hK.out _ _ (HI.out _ HAs.out.t HAs.out.y) ?_
  clear hK K
  try simp only [Act.put, List.setIfInBounds_toArray, List.set_cons_zero, List.set_cons_succ]
  refine plan_nil ?_
  go_wp2_with fail
  have hI0 : I w4.drew := HI.out _ HAs.out.drew.t HAs.out.drew.y
  refine wp_region_plan I (.take 0 (.take 1 (.take 2 (.take 3 (.take 4 (.take 5 (.go 6 (.take 7 (.take 8 (.take 9 (.take 10 (.go 11 (.go 12 .nil))))))))))))) (by kernel_rfl) (by kernel_rfl) hI0 ?_
  clear hI0
  refine' plan_take _ (by rfl) _ (by rfl) ?_ ?_
  rotate_left
  · rintro _ ⟨x, rfl⟩
    have hxm0 := m0 x
    have hxn1 := n1 x
    go_simp
    try with_reducible rfl
  try simp only [Act.put, List.setIfInBounds_toArray, List.set_cons_zero, List.set_cons_succ]
  refine' plan_take _ (by rfl) _ (by rfl) ?_ ?_
  rotate_left
  · rintro _ ⟨x, rfl⟩
    have hxm0 := m0 x
    have hxn1 := n1 x
    go_simp
    try with_reducible rfl
  try simp only [Act.put, List.setIfInBounds_toArray, List.set_cons_zero, List.set_cons_succ]
  refine' plan_take _ (by rfl) _ (by rfl) ?_ ?_
  rotate_left
  · rintro _ ⟨x, rfl⟩
    have hxm0 := m0 x
    have hxn1 := n1 x
    go_simp
    try with_reducible rfl
  try simp only [Act.put, List.setIfInBounds_toArray, List.set_cons_zero, List.set_cons_succ]
  refine' plan_take _ (by rfl) _ (by rfl) ?_ ?_
  rotate_left
  · rintro _ ⟨x, rfl⟩
    have hxm0 := m0 x
    have hxn1 := n1 x
    go_simp
    try with_reducible rfl
  try simp only [Act.put, List.setIfInBounds_toArray, List.set_cons_zero, List.set_cons_succ]
  refine' plan_take _ (by rfl) _ (by rfl) ?_ ?_
  rotate_left
  · rintro _ ⟨x, rfl⟩
    have hxm0 := m0 x
    have hxn1 := n1 x
    go_simp
    try with_reducible rfl
  try simp only [Act.put, List.setIfInBounds_toArray, List.set_cons_zero, List.set_cons_succ]
  refine' plan_take _ (by rfl) _ (by rfl) ?_ ?_
  rotate_left
  · rintro _ ⟨x, rfl⟩
    have hxm0 := m0 x
    have hxn1 := n1 x
    go_simp
    try with_reducible rfl
  try simp only [Act.put, List.setIfInBounds_toArray, List.set_cons_zero, List.set_cons_succ]
  refine plan_do _ (by rfl) (by rfl) (fun K hK => ?_)
  go_simp
  obtain ⟨hb2, l2⟩ := HG.out.2.1 _ _ HAs.out.drew.st
  refine hb2.mono ?_
  rintro e w5 ⟨rfl, h3, k3⟩
  have HAsc := Lib.hid (HAs.out.drew.call HG.out.2.2.1 h3 k3)
  have Hl2 := Lib.hid l2
  clear h3 k3 hb2 l2
  have q := HAsc.out.q
  have c0 : (w5).cell? ⟨(w.heap.size + 1), 0, none⟩ = some (.int .u64 p1) := by rw [cell_of_block q]; rfl
  have c1 : (w5).cell? ⟨(w.heap.size + 1), 1, none⟩ = some (.int .u64 0) := by rw [cell_of_block q]; rfl
  have f0 : (w5).frozen? ⟨(w.heap.size + 1), 0, none⟩ = false := frozen_of_block q
  have f1 : (w5).frozen? ⟨(w.heap.size + 1), 1, none⟩ = false := frozen_of_block q
  clear q
  try go_simp
  refine hK.out _ _ (HI.out _ HAsc.out.t HAsc.out.y) ?_
  clear hK K
  try simp only [Act.put, List.setIfInBounds_toArray, List.set_cons_zero, List.set_cons_succ]
  refine' plan_take _ (by rfl) _ (by rfl) ?_ ?_
  rotate_left
  · rintro _ ⟨x, rfl⟩
    go_simp
    try with_reducible rfl
  try simp only [Act.put, List.setIfInBounds_toArray, List.set_cons_zero, List.set_cons_succ]
  refine' plan_take _ (by rfl) _ (by rfl) ?_ ?_
  rotate_left
  · rintro _ ⟨x, rfl⟩
    go_simp
    try with_reducible rfl
  try simp only [Act.put, List.setIfInBounds_toArray, List.set_cons_zero, List.set_cons_succ]
  refine' plan_take _ (by rfl) _ (by rfl) ?_ ?_
  rotate_left
  · rintro _ ⟨x, rfl⟩
    go_simp
    try with_reducible rfl
  try simp only [Act.put, List.setIfInBounds_toArray, List.set_cons_zero, List.set_cons_succ]
  refine' plan_take _ (by rfl) _ (by rfl) ?_ ?_
  rotate_left
  · rintro _ ⟨x, rfl⟩
    go_simp
    try with_reducible rfl
  try simp only [Act.put, List.setIfInBounds_toArray, List.set_cons_zero, List.set_cons_succ]
  refine plan_do _ (by rfl) (by rfl) (fun K hK => ?_)
  go_simp
  have HAss := Lib.hid (HAsc.out.write (W' := w5.setCell ⟨w.heap.size + 1, 1, none⟩ (.int .u64 p2)) HG.out.2.2.1 HG.out.2.2.2 (by simp) ⟨rfl, rfl, rfl⟩ (fun k hk => heap_setCell_ne hk) (heap_setCell HAsc.out.q))
  clear c0 c1 f0 f1
  generalize w5.setCell ⟨w.heap.size + 1, 1, none⟩ (.int .u64 p2) = w6 at *
  try go_simp
  refine hK.out _ _ (HI.out _ HAss.out.t HAss.out.y) ?_
  clear hK K
  try simp only [Act.put, List.setIfInBounds_toArray, List.set_cons_zero, List.set_cons_succ]
  refine plan_do _ (by rfl) (by rfl) (fun K hK => ?_)
  go_simp
  try go_simp
  refine hK.out _ _ (HI.out _ HAss.out.t HAss.out.y) ?_
  clear hK K
  try simp only [Act.put, List.setIfInBounds_toArray, List.set_cons_zero, List.set_cons_succ]
  refine plan_nil ?_
  have q := HAss.out.q
  have c0 : (w6).cell? ⟨(w.heap.size + 1), 0, none⟩ = some (.int .u64 p1) := by rw [cell_of_block q]; rfl
  have c1 : (w6).cell? ⟨(w.heap.size + 1), 1, none⟩ = some (.int .u64 p2) := by rw [cell_of_block q]; rfl
  have f0 : (w6).frozen? ⟨(w.heap.size + 1), 0, none⟩ = false := frozen_of_block q
  have f1 : (w6).frozen? ⟨(w.heap.size + 1), 1, none⟩ = false := frozen_of_block q
  have HF := Lib.hid (HAss.out.write (W' := ((w6.setCell ⟨(w.heap.size + 1), 0, none⟩ (.int .u64 p1)).setCell ⟨(w.heap.size + 1), 1, none⟩ (.int .u64 p2))) HG.out.2.2.1 HG.out.2.2.2 (by simp) ⟨rfl, rfl, rfl⟩ (fun k hk => st2_other hk _ _) (st2_heap q _ _))
  clear q
  go_wp2_with fail
  generalize ((w6.setCell ⟨(w.heap.size + 1), 0, none⟩ (.int .u64 p1)).setCell ⟨(w.heap.size + 1), 1, none⟩ (.int .u64 p2)) = w7 at *
  have q := HF.out.q
  have e0 : (w7).cell? ⟨(w.heap.size + 1), 0, none⟩ = some (.int .u64 p1) := by rw [cell_of_block q]; rfl
  have e1 : (w7).cell? ⟨(w.heap.size + 1), 1, none⟩ = some (.int .u64 p2) := by rw [cell_of_block q]; rfl
  exact bodyPost_ret (v := .tuple #[.agg #[.int .u64 p1, .int .u64 p2], .int .i64 0]) (by simp [results, Tryz.f71, go_sem, e0, e1]) rfl ⟨rfl, HF.out.st.mono fun k hk => Or.inl hk, HF.out.k, HL.out.1, HL.out.2, Hl2.out⟩
theorem treeF_gone {w : World} {px ps kind td root : Nat} {ty : TypeId} {kv : Value} {S : St} {Y : Nat → Prop} (h : StOn w ps S Y) (hi : Inv S) (hT : TreeF w px ps ty kv kind td root) (hpx : Y px) (k v : Nat) (hk : k < 18446744073709551616) (hv : v < 18446744073709551616) (hg : (getBlob S v).2 ≠ 8) (hi1 : Inv (S.drop k).2) :
    Calls Tryz.prog 72 #[PV px, itV k v, .bool true] w fun e w' => e = .returned (SV (getBlob S v).1) ∧ StOn w' ps ((S.drop k).2.drop v).2 Y ∧ Keep Y w w' := by
  have B1 := (Below.refl w.heap.size w).alloc (Nat.le_refl _) (.cells #[.int .u64 k, .int .u64 v] 105)
  have q1 := heap_alloc_new w (.cells #[.int .u64 k, .int .u64 v] 105)
  have S1 := h.wide B1
  have T1 := hT.below B1
  have hyl := h.yl
  have sw : (w.alloc (.cells #[.int .u64 k, .int .u64 v] 105)).heap.size = w.heap.size + 1 := by simp
  rw [sw] at S1
  have hbl := fun W Z (hW : StOn W ps S Z) => blob_get hW hi v hv hg
  have hd1 := fun W Z (hW : StOn W ps S Z) => st_drop hW hi k hk
  have hd2 := fun W Z (hW : StOn W ps (S.drop k).2 Z) => st_drop hW hi1 v hv
  simp only [itV]
  generalize (getBlob S v).1 = t at *
  generalize (getBlob S v).2 = er at *
  generalize (S.drop k).1 = e1 at *
  generalize (S.drop k).2 = S2 at *
  generalize (S2.drop v).1 = e2 at *
  generalize (S2.drop v).2 = S3 at *
  have HG := Lib.hid (And.intro hbl (And.intro hd1 (And.intro hd2 (Keep.of_below B1 hyl))))
  clear hbl hd1 hd2 h hi hi1 hg
  go_enter Tryz.func72, Tryz.ntmps72
  go_wp2_with fail
  generalize w.alloc (.cells #[.int .u64 k, .int .u64 v] 105) = W at *
  obtain ⟨I, hIi, hIo⟩ := two_class (fun w' => TreeF w' px ps ty kv kind td root) (fun w' => w'.heap[w.heap.size]? = some (.cells #[.int .u64 k, .int .u64 v] 105))
  have hy0 := fun x : Keeps I => (hIi _ x.ok).1
  have hz0 := fun x : Keeps I => (hIi _ x.ok).2
  simp only [TreeF] at hy0
  have m0 : ∀ x : Keeps I, x.to.cell? ⟨px, 0, none⟩ = some (PV ps) := fun x => by rw [cell_of_block (hy0 x)]; rfl
  have m1 : ∀ x : Keeps I, x.to.cell? ⟨px, 1, none⟩ = some (.int .i64 kind) := fun x => by rw [cell_of_block (hy0 x)]; rfl
  have m2 : ∀ x : Keeps I, x.to.cell? ⟨px, 2, none⟩ = some (.int .i64 td) := fun x => by rw [cell_of_block (hy0 x)]; rfl
  have m3 : ∀ x : Keeps I, x.to.cell? ⟨px, 3, none⟩ = some (.iface ty kv) := fun x => by rw [cell_of_block (hy0 x)]; rfl
  have m4 : ∀ x : Keeps I, x.to.cell? ⟨px, 4, none⟩ = some (.int .u64 root) := fun x => by rw [cell_of_block (hy0 x)]; rfl
  have n0 : ∀ x : Keeps I, x.to.cell? ⟨w.heap.size, 0, none⟩ = some (.int .u64 k) := fun x => by rw [cell_of_block (hz0 x)]; rfl
  have n1 : ∀ x : Keeps I, x.to.cell? ⟨w.heap.size, 1, none⟩ = some (.int .u64 v) := fun x => by rw [cell_of_block (hz0 x)]; rfl
  have hI0 : I W.drew := hIo _ T1 q1
  have HI := Lib.hid hIo
  have HW := Lib.hid (And.intro S1 (And.intro T1 q1))
  clear S1 T1 q1 B1 hIi hIo hy0 hz0
  refine wp_region_plan I (.take 0 (.take 1 (.take 2 (.take 3 (.take 4 (.take 5 (.go 6 (.take 7 (.take 8 (.take 9 (.take 10 (.take 11 .nil)))))))))))) (by kernel_rfl) (by kernel_rfl) hI0 ?_
  refine' plan_take _ (by rfl) _ (by rfl) ?_ ?_
  rotate_left
  · rintro _ ⟨x, rfl⟩
    have hxm0 := m0 x
    have hxn0 := n0 x
    have hxn1 := n1 x
    go_simp
    try with_reducible rfl
  try simp only [Act.put, List.setIfInBounds_toArray, List.set_cons_zero, List.set_cons_succ]
  refine' plan_take _ (by rfl) _ (by rfl) ?_ ?_
  rotate_left
  · rintro _ ⟨x, rfl⟩
    have hxm0 := m0 x
    have hxn0 := n0 x
    have hxn1 := n1 x
    go_simp
    try with_reducible rfl
  try simp only [Act.put, List.setIfInBounds_toArray, List.set_cons_zero, List.set_cons_succ]
  refine' plan_take _ (by rfl) _ (by rfl) ?_ ?_
  rotate_left
  · rintro _ ⟨x, rfl⟩
    have hxm0 := m0 x
    have hxn0 := n0 x
    have hxn1 := n1 x
    go_simp
    try with_reducible rfl
  try simp only [Act.put, List.setIfInBounds_toArray, List.set_cons_zero, List.set_cons_succ]
  refine' plan_take _ (by rfl) _ (by rfl) ?_ ?_
  rotate_left
  · rintro _ ⟨x, rfl⟩
    have hxm0 := m0 x
    have hxn0 := n0 x
    have hxn1 := n1 x
    go_simp
    try with_reducible rfl
  try simp only [Act.put, List.setIfInBounds_toArray, List.set_cons_zero, List.set_cons_succ]
  refine' plan_take _ (by rfl) _ (by rfl) ?_ ?_
  rotate_left
  · rintro _ ⟨x, rfl⟩
    have hxm0 := m0 x
    have hxn0 := n0 x
    have hxn1 := n1 x
    go_simp
    try with_reducible rfl
  try simp only [Act.put, List.setIfInBounds_toArray, List.set_cons_zero, List.set_cons_succ]
  refine' plan_take _ (by rfl) _ (by rfl) ?_ ?_
  rotate_left
  · rintro _ ⟨x, rfl⟩
    have hxm0 := m0 x
    have hxn0 := n0 x
    have hxn1 := n1 x
    go_simp
    try with_reducible rfl
  try simp only [Act.put, List.setIfInBounds_toArray, List.set_cons_zero, List.set_cons_succ]
  refine plan_do _ (by rfl) (by rfl) (fun K hK => ?_)
  go_simp
  refine (HG.out.1 _ _ (HW.out.1.drewN 1)).mono ?_
  rintro e w2 ⟨rfl, hb2⟩
  have T2 : TreeF w2 px ps ty kv kind td root := TreeF.below (w := W.drew) HW.out.2.1 hb2
  have q2 : w2.heap[w.heap.size]? = _ := (hb2.block w.heap.size (Array.getElem?_eq_some_iff.1 HW.out.2.2).1).trans HW.out.2.2
  have s2 := (HW.out.1.drewN 1).below hb2
  have k2 : Keep Y W w2 := (Keep.drewN Y W 1).trans ((HW.out.1.drewN 1).keep hb2 |>.mono fun k hk => Or.inl hk)
  have H2 := Lib.hid (And.intro s2 (And.intro T2 (And.intro q2 (HG.out.2.2.2.trans k2))))
  clear s2 T2 q2 hb2 k2
  try go_simp
  refine hK.out _ _ (HI.out _ H2.out.2.1 H2.out.2.2.1) ?_
  clear hK K
  try simp only [Act.put, List.setIfInBounds_toArray, List.set_cons_zero, List.set_cons_succ]
  refine' plan_take _ (by rfl) _ (by rfl) ?_ ?_
  rotate_left
  · rintro _ ⟨x, rfl⟩
    go_simp
    try with_reducible rfl
  try simp only [Act.put, List.setIfInBounds_toArray, List.set_cons_zero, List.set_cons_succ]
  refine' plan_take _ (by rfl) _ (by rfl) ?_ ?_
  rotate_left
  · rintro _ ⟨x, rfl⟩
    go_simp
    try with_reducible rfl
  try simp only [Act.put, List.setIfInBounds_toArray, List.set_cons_zero, List.set_cons_succ]
  refine' plan_take _ (by rfl) _ (by rfl) ?_ ?_
  rotate_left
  · rintro _ ⟨x, rfl⟩
    go_simp
    try with_reducible rfl
  try simp only [Act.put, List.setIfInBounds_toArray, List.set_cons_zero, List.set_cons_succ]
  refine' plan_take _ (by rfl) _ (by rfl) ?_ ?_
  rotate_left
  · rintro _ ⟨x, rfl⟩
    go_simp
    try with_reducible rfl
  try simp only [Act.put, List.setIfInBounds_toArray, List.set_cons_zero, List.set_cons_succ]
  refine' plan_take _ (by rfl) _ (by rfl) ?_ ?_
  rotate_left
  · rintro _ ⟨x, rfl⟩
    go_simp
    try with_reducible rfl
  try simp only [Act.put, List.setIfInBounds_toArray, List.set_cons_zero, List.set_cons_succ]
  refine plan_nil ?_
  go_wp2_with fail
  have hI2 : I w2.drew := HI.out _ H2.out.2.1 H2.out.2.2.1
  refine wp_region_plan I (.take 0 (.take 1 (.take 2 (.take 3 (.take 4 (.take 5 (.go 6 .nil))))))) (by kernel_rfl) (by kernel_rfl) hI2 ?_
  refine' plan_take _ (by rfl) _ (by rfl) ?_ ?_
  rotate_left
  · rintro _ ⟨x, rfl⟩
    have hxm0 := m0 x
    have hxn0 := n0 x
    have hxn1 := n1 x
    go_simp
    try with_reducible rfl
  try simp only [Act.put, List.setIfInBounds_toArray, List.set_cons_zero, List.set_cons_succ]
  refine' plan_take _ (by rfl) _ (by rfl) ?_ ?_
  rotate_left
  · rintro _ ⟨x, rfl⟩
    have hxm0 := m0 x
    have hxn0 := n0 x
    have hxn1 := n1 x
    go_simp
    try with_reducible rfl
  try simp only [Act.put, List.setIfInBounds_toArray, List.set_cons_zero, List.set_cons_succ]
  refine' plan_take _ (by rfl) _ (by rfl) ?_ ?_
  rotate_left
  · rintro _ ⟨x, rfl⟩
    have hxm0 := m0 x
    have hxn0 := n0 x
    have hxn1 := n1 x
    go_simp
    try with_reducible rfl
  try simp only [Act.put, List.setIfInBounds_toArray, List.set_cons_zero, List.set_cons_succ]
  refine' plan_take _ (by rfl) _ (by rfl) ?_ ?_
  rotate_left
  · rintro _ ⟨x, rfl⟩
    have hxm0 := m0 x
    have hxn0 := n0 x
    have hxn1 := n1 x
    go_simp
    try with_reducible rfl
  try simp only [Act.put, List.setIfInBounds_toArray, List.set_cons_zero, List.set_cons_succ]
  refine' plan_take _ (by rfl) _ (by rfl) ?_ ?_
  rotate_left
  · rintro _ ⟨x, rfl⟩
    have hxm0 := m0 x
    have hxn0 := n0 x
    have hxn1 := n1 x
    go_simp
    try with_reducible rfl
  try simp only [Act.put, List.setIfInBounds_toArray, List.set_cons_zero, List.set_cons_succ]
  refine' plan_take _ (by rfl) _ (by rfl) ?_ ?_
  rotate_left
  · rintro _ ⟨x, rfl⟩
    have hxm0 := m0 x
    have hxn0 := n0 x
    have hxn1 := n1 x
    go_simp
    try with_reducible rfl
  try simp only [Act.put, List.setIfInBounds_toArray, List.set_cons_zero, List.set_cons_succ]
  refine plan_do _ (by rfl) (by rfl) (fun K hK => ?_)
  go_simp
  refine (HG.out.2.1 _ _ (H2.out.1.drewN 1)).mono ?_
  rintro e w3 ⟨rfl, s3, k3⟩
  have T3 : TreeF w3 px ps ty kv kind td root := TreeF.keep (w := w2.drew) H2.out.2.1 k3 (Or.inl hpx)
  have q3 := (k3.block w.heap.size (Or.inr ⟨Nat.le_refl _, Nat.lt_succ_self _⟩)).trans H2.out.2.2.1
  have H3 := Lib.hid (And.intro s3 (And.intro T3 (And.intro q3 (H2.out.2.2.2.trans ((Keep.drewN Y w2 1).trans (k3.mono fun k hk => Or.inl hk))))))
  clear s3 T3 q3 k3 hI2
  try go_simp
  refine hK.out _ _ (HI.out _ H3.out.2.1 H3.out.2.2.1) ?_
  clear hK K
  try simp only [Act.put, List.setIfInBounds_toArray, List.set_cons_zero, List.set_cons_succ]
  refine plan_nil ?_
  go_wp2_with fail
  have hI3 : I w3.drew := HI.out _ H3.out.2.1 H3.out.2.2.1
  refine wp_region_plan I (.take 0 (.take 1 (.take 2 (.take 3 (.take 4 (.take 5 (.go 6 .nil))))))) (by kernel_rfl) (by kernel_rfl) hI3 ?_
  refine' plan_take _ (by rfl) _ (by rfl) ?_ ?_
  rotate_left
  · rintro _ ⟨x, rfl⟩
    have hxm0 := m0 x
    have hxn0 := n0 x
    have hxn1 := n1 x
    go_simp
    try with_reducible rfl
  try simp only [Act.put, List.setIfInBounds_toArray, List.set_cons_zero, List.set_cons_succ]
  refine' plan_take _ (by rfl) _ (by rfl) ?_ ?_
  rotate_left
  · rintro _ ⟨x, rfl⟩
    have hxm0 := m0 x
    have hxn0 := n0 x
    have hxn1 := n1 x
    go_simp
    try with_reducible rfl
  try simp only [Act.put, List.setIfInBounds_toArray, List.set_cons_zero, List.set_cons_succ]
  refine' plan_take _ (by rfl) _ (by rfl) ?_ ?_
  rotate_left
  · rintro _ ⟨x, rfl⟩
    have hxm0 := m0 x
    have hxn0 := n0 x
    have hxn1 := n1 x
    go_simp
    try with_reducible rfl
  try simp only [Act.put, List.setIfInBounds_toArray, List.set_cons_zero, List.set_cons_succ]
  refine' plan_take _ (by rfl) _ (by rfl) ?_ ?_
  rotate_left
  · rintro _ ⟨x, rfl⟩
    have hxm0 := m0 x
    have hxn0 := n0 x
    have hxn1 := n1 x
    go_simp
    try with_reducible rfl
  try simp only [Act.put, List.setIfInBounds_toArray, List.set_cons_zero, List.set_cons_succ]
  refine' plan_take _ (by rfl) _ (by rfl) ?_ ?_
  rotate_left
  · rintro _ ⟨x, rfl⟩
    have hxm0 := m0 x
    have hxn0 := n0 x
    have hxn1 := n1 x
    go_simp
    try with_reducible rfl
  try simp only [Act.put, List.setIfInBounds_toArray, List.set_cons_zero, List.set_cons_succ]
  refine' plan_take _ (by rfl) _ (by rfl) ?_ ?_
  rotate_left
  · rintro _ ⟨x, rfl⟩
    have hxm0 := m0 x
    have hxn0 := n0 x
    have hxn1 := n1 x
    go_simp
    try with_reducible rfl
  try simp only [Act.put, List.setIfInBounds_toArray, List.set_cons_zero, List.set_cons_succ]
  refine plan_do _ (by rfl) (by rfl) (fun K hK => ?_)
  go_simp
  refine (HG.out.2.2.1 _ _ (H3.out.1.drewN 1)).mono ?_
  rintro e w4 ⟨rfl, s4, k4⟩
  have T4 : TreeF w4 px ps ty kv kind td root := TreeF.keep (w := w3.drew) H3.out.2.1 k4 (Or.inl hpx)
  have q4 := (k4.block w.heap.size (Or.inr ⟨Nat.le_refl _, Nat.lt_succ_self _⟩)).trans H3.out.2.2.1
  have H4 := Lib.hid (And.intro (s4.mono (Z := Y) fun k hk => Or.inl hk) (H3.out.2.2.2.trans ((Keep.drewN Y w3 1).trans (k4.mono fun k hk => Or.inl hk))))
  try go_simp
  refine hK.out _ _ (HI.out _ T4 q4) ?_
  clear hK K
  try simp only [Act.put, List.setIfInBounds_toArray, List.set_cons_zero, List.set_cons_succ]
  clear s4 k4 hI3 T4 q4
  refine plan_nil ?_
  go_wp2_with fail
  go_ret
  exact ⟨rfl, H4.out⟩
structure DeF (w W : World) (px ps : Nat) (ty : TypeId) (kv : Value) (kind td root : Nat) (S : St) (Y : Nat → Prop) (b9 ik iv : Nat) : Prop where
  t : TreeF W px ps ty kv kind td root
  st : StOn W ps S Y
  k : Keep Y w W
  q : W.heap[b9]? = some (.cells #[.int .u64 ik, .int .u64 iv] 105)
  l : w.heap.size ≤ b9
theorem treeF_put {w : World} {px ps kind td root : Nat} {ty : TypeId} {kv : Value} {S : St} {Y : Nat → Prop} (h : StOn w ps S Y) (hi : Inv S) (hT : TreeF w px ps ty kv kind td root) (hpx : Y px) (a b : List UInt8) (hm : ItemsOk S a b) {p : Nat × Nat} {S1 : St} (hp : itemsM S a b = some (p, S1)) (was : Bool) (tv : List UInt8) {R : Nat → Nat → Nat → St → Prop} {R2 : Nat → St → Prop} {fm : FuncId} (hme : ∀ (f : Nat) (v : Value) (w : World), (method (f + 1) ty v "loft/backend.insert").run Tryz.prog w = .ok (fm, v) w) (hen : ∀ (args : Array Value) (w : World), (callFunc fm args).run Tryz.prog w = .ok (.enter fm args) w) (hin : ∀ W Z, StOn W ps S1 Z → p.1 < 18446744073709551616 → p.2 < 18446744073709551616 → Calls Tryz.prog fm #[kv, .int .u64 root, itV p.1 p.2] W fun e w' => ∃ (x ik iv : Nat) (S' : St), e = .returned (.tuple #[.int .u64 x, itV ik iv, .bool was, .int .i64 0]) ∧ StOn w' ps S' Z ∧ Keep Z W w' ∧ R x ik iv S') (hgo : ∀ x ik iv S', R x ik iv S' → ∀ W Z, StOn W ps S' Z → TreeF W px ps ty kv kind td x → Z px → Calls Tryz.prog 72 #[PV px, itV ik iv, .bool was] W fun e w' => ∃ S3, e = .returned (SV tv) ∧ StOn w' ps S3 Z ∧ Keep Z W w' ∧ R2 x S3) :
    Calls Tryz.prog 16 #[PV px, prV (a, b)] w fun e w' => ∃ (x : Nat) (S3 : St), e = .returned (.tuple #[SV tv, .bool was, .int .i64 0]) ∧ StOn w' ps S3 Y ∧ Keep (fun k => Y k ∧ k ≠ px) w w' ∧ TreeF w' px ps ty kv kind td x ∧ R2 x S3 := by
  have ha1 : (1000 < (a.length : Int)) = False := eq_false (by have := hm.1; omega)
  have hb1 : (1000 < (b.length : Int)) = False := eq_false (by have := hm.2.1; omega)
  have B0 := (Below.refl w.heap.size w).alloc (Nat.le_refl _) (.cells #[SV a, SV b] 38)
  have hn := treeF_none (hT.below B0)
  have hit := treeF_item (h.below B0) hi (hT.below B0) hpx a b hm hp
  have hY := h.yl
  have hT0 := hT.below B0
  have hK0 := Keep.of_below B0 hY
  obtain ⟨p1, p2⟩ := p
  simp only [prV, itV] at hit hin hgo ⊢
  have HG := Lib.hid (And.intro hn (And.intro hit (And.intro hin (And.intro hgo (And.intro hpx (And.intro hY (And.intro hT0 hK0)))))))
  clear hn hit hin hgo B0 h hi hT hm hp hY hT0 hK0
  go_enter Tryz.func16, Tryz.ntmps16
  go_wp2_with fail
  refine HG.out.1.mono ?_
  rintro e w0 ⟨rfl, rfl⟩
  go_wp2_with fail
  refine HG.out.2.1.mono ?_
  rintro e w1 ⟨rfl, s1, k1, i1, l1, l2⟩
  have A2 := (Below.refl w1.heap.size w1).alloc (Nat.le_refl _) (.cells #[.int .u64 p1, .int .u64 p2] 105)
  have q2 := heap_alloc_new w1 (.cells #[.int .u64 p1, .int .u64 p2] 105)
  have s2 := s1.wide A2
  have z2 : (w1.alloc (.cells #[.int .u64 p1, .int .u64 p2] 105)).heap.size = w1.heap.size + 1 := by simp
  have K2 := HG.out.2.2.2.2.2.2.2.trans (k1.trans (s1.keep A2))
  have T2 : TreeF (w1.alloc (.cells #[.int .u64 p1, .int .u64 p2] 105)) px ps ty kv kind td root := HG.out.2.2.2.2.2.2.1.keep (k1.trans (s1.keep A2)) HG.out.2.2.2.2.1
  have ins := fun W Z hW => HG.out.2.2.1 W Z hW l1 l2
  have le1 : w.heap.size ≤ w1.heap.size := by have := (HG.out.2.2.2.2.2.2.2.trans k1).size; exact this
  rw [z2] at s2
  clear s1 k1 i1 A2
  go_wp2_with fail
  generalize hw2 : w1.alloc (.cells #[.int .u64 p1, .int .u64 p2] 105) = w2 at *
  generalize hb7 : w1.heap.size = b7 at *
  clear hw2 hb7 w1
  have H2 := Lib.hid (And.intro T2 (And.intro s2 (And.intro K2 (And.intro q2 (And.intro ins (And.intro le1 z2))))))
  obtain ⟨I, hIi, hIo⟩ := two_class (fun w' => TreeF w' px ps ty kv kind td root) (fun w' => w'.heap[b7]? = some (.cells #[.int .u64 p1, .int .u64 p2] 105))
  have hy0 := fun x : Keeps I => (hIi _ x.ok).1
  have hz0 := fun x : Keeps I => (hIi _ x.ok).2
  simp only [TreeF] at hy0
  have m0 : ∀ x : Keeps I, x.to.cell? ⟨px, 0, none⟩ = some (PV ps) := fun x => by rw [cell_of_block (hy0 x)]; rfl
  have m1 : ∀ x : Keeps I, x.to.cell? ⟨px, 1, none⟩ = some (.int .i64 kind) := fun x => by rw [cell_of_block (hy0 x)]; rfl
  have m2 : ∀ x : Keeps I, x.to.cell? ⟨px, 2, none⟩ = some (.int .i64 td) := fun x => by rw [cell_of_block (hy0 x)]; rfl
  have m3 : ∀ x : Keeps I, x.to.cell? ⟨px, 3, none⟩ = some (.iface ty kv) := fun x => by rw [cell_of_block (hy0 x)]; rfl
  have m4 : ∀ x : Keeps I, x.to.cell? ⟨px, 4, none⟩ = some (.int .u64 root) := fun x => by rw [cell_of_block (hy0 x)]; rfl
  have n0 : ∀ x : Keeps I, x.to.cell? ⟨b7, 0, none⟩ = some (.int .u64 p1) := fun x => by rw [cell_of_block (hz0 x)]; rfl
  have n1 : ∀ x : Keeps I, x.to.cell? ⟨b7, 1, none⟩ = some (.int .u64 p2) := fun x => by rw [cell_of_block (hz0 x)]; rfl
  have hI0 : I w2.drew := hIo _ T2 q2
  have HI := Lib.hid hIo
  clear hIi hIo hy0 hz0 T2 s2 K2 q2 ins le1 z2
  refine wp_region_plan I (.take 0 (.take 1 (.take 2 (.take 3 (.take 4 (.take 5 (.take 6 (.take 7 (.take 8 (.take 9 (.take 10 (.two 11 17 (.take 12 (.take 13 (.take 14 (.take 15 (.take 16 (.go 17 (.go 18 (.go 19 (.go 20 (.go 21 .nil)))))))))) (.go 11 (.take 12 (.take 13 (.take 14 (.take 15 (.take 16 (.go 18 (.go 19 (.go 20 (.go 21 .nil)))))))))))))))))))))) (by kernel_rfl) (by kernel_rfl) hI0 ?_
  clear hI0
  refine' plan_take _ (by rfl) _ (by rfl) ?_ ?_
  rotate_left
  · rintro _ ⟨x, rfl⟩
    have hxm0 := m0 x
    have hxm1 := m1 x
    have hxm2 := m2 x
    have hxm3 := m3 x
    have hxm4 := m4 x
    have hxn0 := n0 x
    have hxn1 := n1 x
    go_simp
    try with_reducible rfl
  try simp only [Act.put, List.setIfInBounds_toArray, List.set_cons_zero, List.set_cons_succ]
  refine' plan_take _ (by rfl) _ (by rfl) ?_ ?_
  rotate_left
  · rintro _ ⟨x, rfl⟩
    have hxm0 := m0 x
    have hxm1 := m1 x
    have hxm2 := m2 x
    have hxm3 := m3 x
    have hxm4 := m4 x
    have hxn0 := n0 x
    have hxn1 := n1 x
    go_simp
    try with_reducible rfl
  try simp only [Act.put, List.setIfInBounds_toArray, List.set_cons_zero, List.set_cons_succ]
  refine' plan_take _ (by rfl) _ (by rfl) ?_ ?_
  rotate_left
  · rintro _ ⟨x, rfl⟩
    have hxm0 := m0 x
    have hxm1 := m1 x
    have hxm2 := m2 x
    have hxm3 := m3 x
    have hxm4 := m4 x
    have hxn0 := n0 x
    have hxn1 := n1 x
    go_simp
    try with_reducible rfl
  try simp only [Act.put, List.setIfInBounds_toArray, List.set_cons_zero, List.set_cons_succ]
  refine' plan_take _ (by rfl) _ (by rfl) ?_ ?_
  rotate_left
  · rintro _ ⟨x, rfl⟩
    have hxm0 := m0 x
    have hxm1 := m1 x
    have hxm2 := m2 x
    have hxm3 := m3 x
    have hxm4 := m4 x
    have hxn0 := n0 x
    have hxn1 := n1 x
    go_simp
    try with_reducible rfl
  try simp only [Act.put, List.setIfInBounds_toArray, List.set_cons_zero, List.set_cons_succ]
  refine' plan_take _ (by rfl) _ (by rfl) ?_ ?_
  rotate_left
  · rintro _ ⟨x, rfl⟩
    have hxm0 := m0 x
    have hxm1 := m1 x
    have hxm2 := m2 x
    have hxm3 := m3 x
    have hxm4 := m4 x
    have hxn0 := n0 x
    have hxn1 := n1 x
    go_simp
    try with_reducible rfl
  try simp only [Act.put, List.setIfInBounds_toArray, List.set_cons_zero, List.set_cons_succ]
  refine' plan_take _ (by rfl) _ (by rfl) ?_ ?_
  rotate_left
  · rintro _ ⟨x, rfl⟩
    have hxm0 := m0 x
    have hxm1 := m1 x
    have hxm2 := m2 x
    have hxm3 := m3 x
    have hxm4 := m4 x
    have hxn0 := n0 x
    have hxn1 := n1 x
    go_simp
    try with_reducible rfl
  try simp only [Act.put, List.setIfInBounds_toArray, List.set_cons_zero, List.set_cons_succ]
  refine' plan_take _ (by rfl) _ (by rfl) ?_ ?_
  rotate_left
  · rintro _ ⟨x, rfl⟩
    have hxm0 := m0 x
    have hxm1 := m1 x
    have hxm2 := m2 x
    have hxm3 := m3 x
    have hxm4 := m4 x
    have hxn0 := n0 x
    have hxn1 := n1 x
    go_simp
    try with_reducible rfl
  try simp only [Act.put, List.setIfInBounds_toArray, List.set_cons_zero, List.set_cons_succ]
  refine' plan_take _ (by rfl) _ (by rfl) ?_ ?_
  rotate_left
  · rintro _ ⟨x, rfl⟩
    have hxm0 := m0 x
    have hxm1 := m1 x
    have hxm2 := m2 x
    have hxm3 := m3 x
    have hxm4 := m4 x
    have hxn0 := n0 x
    have hxn1 := n1 x
    go_simp
    try with_reducible rfl
  try simp only [Act.put, List.setIfInBounds_toArray, List.set_cons_zero, List.set_cons_succ]
  refine' plan_take _ (by rfl) _ (by rfl) ?_ ?_
  rotate_left
  · rintro _ ⟨x, rfl⟩
    have hxm0 := m0 x
    have hxm1 := m1 x
    have hxm2 := m2 x
    have hxm3 := m3 x
    have hxm4 := m4 x
    have hxn0 := n0 x
    have hxn1 := n1 x
    go_simp
    try with_reducible rfl
  try simp only [Act.put, List.setIfInBounds_toArray, List.set_cons_zero, List.set_cons_succ]
  refine' plan_take _ (by rfl) _ (by rfl) ?_ ?_
  rotate_left
  · rintro _ ⟨x, rfl⟩
    have hxm0 := m0 x
    have hxm1 := m1 x
    have hxm2 := m2 x
    have hxm3 := m3 x
    have hxm4 := m4 x
    have hxn0 := n0 x
    have hxn1 := n1 x
    go_simp
    try with_reducible rfl
  try simp only [Act.put, List.setIfInBounds_toArray, List.set_cons_zero, List.set_cons_succ]
  refine' plan_take _ (by rfl) _ (by rfl) ?_ ?_
  rotate_left
  · rintro _ ⟨x, rfl⟩
    have hxm0 := m0 x
    have hxm1 := m1 x
    have hxm2 := m2 x
    have hxm3 := m3 x
    have hxm4 := m4 x
    have hxn0 := n0 x
    have hxn1 := n1 x
    go_simp
    try with_reducible rfl
  try simp only [Act.put, List.setIfInBounds_toArray, List.set_cons_zero, List.set_cons_succ]
  refine plan_two ?h1 ?h2
  case' h1 =>
    refine plan_do _ (by rfl) (by rfl) (fun K hK => ?_)
    go_simp
    refine (H2.out.2.2.2.2.1 _ _ (H2.out.2.1.below (Below.refl _ _).drew)).mono ?_
    rintro e w3 ⟨x, ik, iv, S', rfl, s3, k3, i3⟩
    have T3 := TreeF.keep (w := w2.drew) H2.out.1 k3 (Or.inl HG.out.2.2.2.2.1)
    have q3 : w3.heap[b7]? = some (.cells #[.int .u64 p1, .int .u64 p2] 105) := (k3.block b7 (Or.inr ⟨Nat.le_refl _, Nat.lt_succ_self _⟩)).trans H2.out.2.2.2.1
    have H3 := Lib.hid (And.intro T3 (And.intro q3 (And.intro s3 (And.intro (k3.mono (Z := Y) fun k hk => Or.inl hk) i3))))
    clear T3 q3 s3 k3 i3
    try go_simp
    refine hK.out _ _ (HI.out _ H3.out.1 H3.out.2.1) ?_
    clear hK K
    try simp only [Act.put, List.setIfInBounds_toArray, List.set_cons_zero, List.set_cons_succ]
    refine' plan_take _ (by rfl) _ (by rfl) ?_ ?_
    rotate_left
    · rintro _ ⟨x, rfl⟩
      go_simp
      try with_reducible rfl
    try simp only [Act.put, List.setIfInBounds_toArray, List.set_cons_zero, List.set_cons_succ]
    refine' plan_take _ (by rfl) _ (by rfl) ?_ ?_
    rotate_left
    · rintro _ ⟨x, rfl⟩
      go_simp
      try with_reducible rfl
    try simp only [Act.put, List.setIfInBounds_toArray, List.set_cons_zero, List.set_cons_succ]
    refine' plan_take _ (by rfl) _ (by rfl) ?_ ?_
    rotate_left
    · rintro _ ⟨x, rfl⟩
      go_simp
      try with_reducible rfl
    try simp only [Act.put, List.setIfInBounds_toArray, List.set_cons_zero, List.set_cons_succ]
    refine' plan_take _ (by rfl) _ (by rfl) ?_ ?_
    rotate_left
    · rintro _ ⟨x, rfl⟩
      go_simp
      try with_reducible rfl
    try simp only [Act.put, List.setIfInBounds_toArray, List.set_cons_zero, List.set_cons_succ]
    refine' plan_take _ (by rfl) _ (by rfl) ?_ ?_
    rotate_left
    · rintro _ ⟨x, rfl⟩
      go_simp
      try with_reducible rfl
    try simp only [Act.put, List.setIfInBounds_toArray, List.set_cons_zero, List.set_cons_succ]
    refine plan_do _ (by rfl) (by rfl) (fun K hK => ?_)
    go_simp
    have A4 := (Below.refl w3.heap.size w3).alloc (Nat.le_refl _) (.cells #[.int .u64 0, .int .u64 0] 105)
    have TA := H3.out.1.below A4
    have q4 := (A4.block b7 (Array.getElem?_eq_some_iff.1 H3.out.2.1).1).trans H3.out.2.1
    have sA := ((H3.out.2.2.1.mono (Z := Y) fun k hk => Or.inl hk).wide A4).mono (Z := fun k => Y k ∨ k = w3.heap.size) (fun k hk => hk.imp id fun e => ⟨by omega, by simp; omega⟩)
    have kA := (H2.out.2.2.1.trans (Keep.drewN Y w2 1)).trans (H3.out.2.2.2.1.trans ((H3.out.2.2.1.mono (Z := Y) fun k hk => Or.inl hk).keep A4))
    have qA := heap_alloc_new w3 (.cells #[.int .u64 0, .int .u64 0] 105)
    have lA : w.heap.size ≤ w3.heap.size := ((H2.out.2.2.1.trans (Keep.drewN Y w2 1)).trans H3.out.2.2.2.1).size
    have iA := H3.out.2.2.2.2
    have nb : b7 ≠ w3.heap.size := Nat.ne_of_lt (Array.getElem?_eq_some_iff.1 H3.out.2.1).1
    clear A4 H3
    generalize w3.alloc (.cells #[.int .u64 0, .int .u64 0] 105) = W at *
    generalize w3.heap.size = b9 at *
    try go_simp
    refine hK.out _ _ (HI.out _ TA q4) ?_
    clear hK K
    try simp only [Act.put, List.setIfInBounds_toArray, List.set_cons_zero, List.set_cons_succ]
    refine plan_do _ (by rfl) (by rfl) (fun K hK => ?_)
    go_simp
    try go_simp
    refine hK.out _ _ (HI.out _ TA q4) ?_
    clear hK K
    try simp only [Act.put, List.setIfInBounds_toArray, List.set_cons_zero, List.set_cons_succ]
    have c0 : (W).cell? ⟨b9, 0, none⟩ = some (.int .u64 0) := by rw [cell_of_block qA]; rfl
    have c1 : (W).cell? ⟨b9, 1, none⟩ = some (.int .u64 0) := by rw [cell_of_block qA]; rfl
    have f0 : (W).frozen? ⟨b9, 0, none⟩ = false := frozen_of_block qA
    have f1 : (W).frozen? ⟨b9, 1, none⟩ = false := frozen_of_block qA
    have HA := Lib.hid (And.intro TA (And.intro sA (And.intro kA (And.intro qA (And.intro lA iA)))))
    clear TA sA kA qA lA iA
    refine plan_do _ (by rfl) (by rfl) (fun K hK => ?_)
    go_simp
    have q5 : ((W.setCell ⟨b9, 0, none⟩ (.int .u64 ik)).setCell ⟨b9, 1, none⟩ (.int .u64 iv)).heap[b7]? = some (.cells #[.int .u64 p1, .int .u64 p2] 105) := (st2_other nb _ _).trans q4
    have hne : px ≠ b9 := by have := HG.out.2.2.2.2.2.1 px HG.out.2.2.2.2.1; have := HA.out.2.2.2.2.1; omega
    have qB := st2_heap HA.out.2.2.2.1 (.int .u64 ik) (.int .u64 iv)
    have oB : ∀ k, k ≠ b9 → ((W.setCell ⟨b9, 0, none⟩ (.int .u64 ik)).setCell ⟨b9, 1, none⟩ (.int .u64 iv)).heap[k]? = W.heap[k]? := fun k hk => st2_other hk _ _
    have sB : StOn ((W.setCell ⟨b9, 0, none⟩ (.int .u64 ik)).setCell ⟨b9, 1, none⟩ (.int .u64 iv)) ps S' Y := (HA.out.2.1.write (Or.inr rfl) HA.out.2.2.2.1 ⟨by decide, by decide⟩ (by simp) (by simp) fun k _ hk => oB k hk).mono fun k hk => Or.inl hk
    have kB : Keep Y w ((W.setCell ⟨b9, 0, none⟩ (.int .u64 ik)).setCell ⟨b9, 1, none⟩ (.int .u64 iv)) := HA.out.2.2.1.trans ⟨rfl, rfl, rfl, by simp, fun k hk => oB k (by have := HG.out.2.2.2.2.2.1 k hk; have := HA.out.2.2.2.2.1; omega)⟩
    have P7 : DeF w ((W.setCell ⟨b9, 0, none⟩ (.int .u64 ik)).setCell ⟨b9, 1, none⟩ (.int .u64 iv)) px ps ty kv kind td root S' Y b9 ik iv := ⟨(oB px hne).trans HA.out.1, sB, kB, qB, HA.out.2.2.2.2.1⟩
    have Hi7 := Lib.hid HA.out.2.2.2.2.2
    clear c0 c1 f0 f1 HA qB oB sB kB hne
    have H7 := Lib.hid P7
    clear P7
    generalize ((W.setCell ⟨b9, 0, none⟩ (.int .u64 ik)).setCell ⟨b9, 1, none⟩ (.int .u64 iv)) = W7 at *
    try go_simp
    refine hK.out _ _ (HI.out _ H7.out.t q5) ?_
    clear hK K
    try simp only [Act.put, List.setIfInBounds_toArray, List.set_cons_zero, List.set_cons_succ]
    refine plan_do _ (by rfl) (by rfl) (fun K hK => ?_)
    go_simp
    try go_simp
    refine hK.out _ _ (HI.out _ H7.out.t q5) ?_
    clear hK K
    try simp only [Act.put, List.setIfInBounds_toArray, List.set_cons_zero, List.set_cons_succ]
    refine plan_do _ (by rfl) (by rfl) (fun K hK => ?_)
    go_simp
    try go_simp
    refine hK.out _ _ (HI.out _ H7.out.t q5) ?_
    clear hK K
    try simp only [Act.put, List.setIfInBounds_toArray, List.set_cons_zero, List.set_cons_succ]
    refine plan_nil ?_
    clear q4 q5 w3 nb
  case' h2 =>
    refine plan_do _ (by rfl) (by rfl) (fun K hK => ?_)
    go_simp
    have A3 := ((Below.refl w2.heap.size w2).alloc (Nat.le_refl _) (.cells #[.int .u64 0, .int .u64 0] 105)).drew
    have T3 := H2.out.1.below A3
    have q3 := (A3.block b7 (Array.getElem?_eq_some_iff.1 H2.out.2.2.2.1).1).trans H2.out.2.2.2.1
    have qz : (w2.alloc (.cells #[.int .u64 0, .int .u64 0] 105)).drew.heap[w2.heap.size]? = _ := heap_alloc_new w2 (.cells #[.int .u64 0, .int .u64 0] 105)
    have s3 := H2.out.2.1.wide A3
    have z3 : (w2.alloc (.cells #[.int .u64 0, .int .u64 0] 105)).drew.heap.size = w2.heap.size + 1 := by show (w2.alloc _).heap.size = _; simp
    have k3 := H2.out.2.2.1.trans ((H2.out.2.1.mono (Z := Y) fun k hk => Or.inl hk).keep A3)
    have nb : b7 ≠ w2.heap.size := by have := H2.out.2.2.2.2.2.2; omega
    have lz : w.heap.size ≤ w2.heap.size := H2.out.2.2.1.size
    rw [z3] at s3
    clear A3 z3
    generalize (w2.alloc (.cells #[.int .u64 0, .int .u64 0] 105)).drew = w3 at *
    generalize w2.heap.size = b9 at *
    try go_simp
    refine hK.out _ _ (HI.out _ T3 q3) ?_
    clear hK K
    try simp only [Act.put, List.setIfInBounds_toArray, List.set_cons_zero, List.set_cons_succ]
    have H3 := Lib.hid (And.intro T3 (And.intro q3 (And.intro s3 (And.intro k3 (And.intro qz lz)))))
    clear T3 q3 s3 k3 qz lz
    refine plan_do _ (by rfl) (by rfl) (fun K hK => ?_)
    go_simp
    refine (H2.out.2.2.2.2.1 _ _ H3.out.2.2.1).mono ?_
    rintro e W ⟨x, ik, iv, S', rfl, s4, k4, i4⟩
    have TA := TreeF.keep (w := w3) H3.out.1 k4 (Or.inl (Or.inl HG.out.2.2.2.2.1))
    have q4 : W.heap[b7]? = some (.cells #[.int .u64 p1, .int .u64 p2] 105) := (k4.block b7 (Or.inl (Or.inr ⟨Nat.le_refl _, Nat.lt_succ_self _⟩))).trans H3.out.2.1
    have sA := s4.mono (Z := fun k => Y k ∨ k = b9) (fun k hk => hk.elim (fun h => Or.inl (Or.inl h)) fun e => Or.inr ⟨by omega, by omega⟩)
    have kA := H3.out.2.2.2.1.trans (k4.mono (Z := Y) fun k hk => Or.inl (Or.inl hk))
    have qA : W.heap[b9]? = some (.cells #[.int .u64 0, .int .u64 0] 105) := (k4.block b9 (Or.inr ⟨Nat.le_refl _, Nat.lt_succ_self _⟩)).trans H3.out.2.2.2.2.1
    have lA := H3.out.2.2.2.2.2
    have iA := i4
    clear s4 k4 i4 H3
    try go_simp
    refine hK.out _ _ (HI.out _ TA q4) ?_
    clear hK K
    try simp only [Act.put, List.setIfInBounds_toArray, List.set_cons_zero, List.set_cons_succ]
    refine' plan_take _ (by rfl) _ (by rfl) ?_ ?_
    rotate_left
    · rintro _ ⟨x, rfl⟩
      go_simp
      try with_reducible rfl
    try simp only [Act.put, List.setIfInBounds_toArray, List.set_cons_zero, List.set_cons_succ]
    refine' plan_take _ (by rfl) _ (by rfl) ?_ ?_
    rotate_left
    · rintro _ ⟨x, rfl⟩
      go_simp
      try with_reducible rfl
    try simp only [Act.put, List.setIfInBounds_toArray, List.set_cons_zero, List.set_cons_succ]
    refine' plan_take _ (by rfl) _ (by rfl) ?_ ?_
    rotate_left
    · rintro _ ⟨x, rfl⟩
      go_simp
      try with_reducible rfl
    try simp only [Act.put, List.setIfInBounds_toArray, List.set_cons_zero, List.set_cons_succ]
    refine' plan_take _ (by rfl) _ (by rfl) ?_ ?_
    rotate_left
    · rintro _ ⟨x, rfl⟩
      go_simp
      try with_reducible rfl
    try simp only [Act.put, List.setIfInBounds_toArray, List.set_cons_zero, List.set_cons_succ]
    refine' plan_take _ (by rfl) _ (by rfl) ?_ ?_
    rotate_left
    · rintro _ ⟨x, rfl⟩
      go_simp
      try with_reducible rfl
    try simp only [Act.put, List.setIfInBounds_toArray, List.set_cons_zero, List.set_cons_succ]
    refine plan_do _ (by rfl) (by rfl) (fun K hK => ?_)
    go_simp
    try go_simp
    refine hK.out _ _ (HI.out _ TA q4) ?_
    clear hK K
    try simp only [Act.put, List.setIfInBounds_toArray, List.set_cons_zero, List.set_cons_succ]
    have c0 : (W).cell? ⟨b9, 0, none⟩ = some (.int .u64 0) := by rw [cell_of_block qA]; rfl
    have c1 : (W).cell? ⟨b9, 1, none⟩ = some (.int .u64 0) := by rw [cell_of_block qA]; rfl
    have f0 : (W).frozen? ⟨b9, 0, none⟩ = false := frozen_of_block qA
    have f1 : (W).frozen? ⟨b9, 1, none⟩ = false := frozen_of_block qA
    have HA := Lib.hid (And.intro TA (And.intro sA (And.intro kA (And.intro qA (And.intro lA iA)))))
    clear TA sA kA qA lA iA
    refine plan_do _ (by rfl) (by rfl) (fun K hK => ?_)
    go_simp
    have q5 : ((W.setCell ⟨b9, 0, none⟩ (.int .u64 ik)).setCell ⟨b9, 1, none⟩ (.int .u64 iv)).heap[b7]? = some (.cells #[.int .u64 p1, .int .u64 p2] 105) := (st2_other nb _ _).trans q4
    have hne : px ≠ b9 := by have := HG.out.2.2.2.2.2.1 px HG.out.2.2.2.2.1; have := HA.out.2.2.2.2.1; omega
    have qB := st2_heap HA.out.2.2.2.1 (.int .u64 ik) (.int .u64 iv)
    have oB : ∀ k, k ≠ b9 → ((W.setCell ⟨b9, 0, none⟩ (.int .u64 ik)).setCell ⟨b9, 1, none⟩ (.int .u64 iv)).heap[k]? = W.heap[k]? := fun k hk => st2_other hk _ _
    have sB : StOn ((W.setCell ⟨b9, 0, none⟩ (.int .u64 ik)).setCell ⟨b9, 1, none⟩ (.int .u64 iv)) ps S' Y := (HA.out.2.1.write (Or.inr rfl) HA.out.2.2.2.1 ⟨by decide, by decide⟩ (by simp) (by simp) fun k _ hk => oB k hk).mono fun k hk => Or.inl hk
    have kB : Keep Y w ((W.setCell ⟨b9, 0, none⟩ (.int .u64 ik)).setCell ⟨b9, 1, none⟩ (.int .u64 iv)) := HA.out.2.2.1.trans ⟨rfl, rfl, rfl, by simp, fun k hk => oB k (by have := HG.out.2.2.2.2.2.1 k hk; have := HA.out.2.2.2.2.1; omega)⟩
    have P7 : DeF w ((W.setCell ⟨b9, 0, none⟩ (.int .u64 ik)).setCell ⟨b9, 1, none⟩ (.int .u64 iv)) px ps ty kv kind td root S' Y b9 ik iv := ⟨(oB px hne).trans HA.out.1, sB, kB, qB, HA.out.2.2.2.2.1⟩
    have Hi7 := Lib.hid HA.out.2.2.2.2.2
    clear c0 c1 f0 f1 HA qB oB sB kB hne
    have H7 := Lib.hid P7
    clear P7
    generalize ((W.setCell ⟨b9, 0, none⟩ (.int .u64 ik)).setCell ⟨b9, 1, none⟩ (.int .u64 iv)) = W7 at *
    try go_simp
    refine hK.out _ _ (HI.out _ H7.out.t q5) ?_
    clear hK K
    try simp only [Act.put, List.setIfInBounds_toArray, List.set_cons_zero, List.set_cons_succ]
    refine plan_do _ (by rfl) (by rfl) (fun K hK => ?_)
    go_simp
    try go_simp
    refine hK.out _ _ (HI.out _ H7.out.t q5) ?_
    clear hK K
    try simp only [Act.put, List.setIfInBounds_toArray, List.set_cons_zero, List.set_cons_succ]
    refine plan_do _ (by rfl) (by rfl) (fun K hK => ?_)
    go_simp
    try go_simp
    refine hK.out _ _ (HI.out _ H7.out.t q5) ?_
    clear hK K
    try simp only [Act.put, List.setIfInBounds_toArray, List.set_cons_zero, List.set_cons_succ]
    refine plan_nil ?_
    clear q4 q5 w3 nb
  all_goals
    clear m0 m1 m2 m3 m4 n0 n1 HI I
    have t7 := H7.out.t
    simp only [TreeF] at t7
    have c0 : (W7).cell? ⟨px, 0, none⟩ = some (PV ps) := by rw [cell_of_block t7]; rfl
    have c1 : (W7).cell? ⟨px, 1, none⟩ = some (.int .i64 kind) := by rw [cell_of_block t7]; rfl
    have c2 : (W7).cell? ⟨px, 2, none⟩ = some (.int .i64 td) := by rw [cell_of_block t7]; rfl
    have c3 : (W7).cell? ⟨px, 3, none⟩ = some (.iface ty kv) := by rw [cell_of_block t7]; rfl
    have c4 : (W7).cell? ⟨px, 4, none⟩ = some (.int .u64 root) := by rw [cell_of_block t7]; rfl
    have f0 : (W7).frozen? ⟨px, 0, none⟩ = false := frozen_of_block t7
    have f1 : (W7).frozen? ⟨px, 1, none⟩ = false := frozen_of_block t7
    have f2 : (W7).frozen? ⟨px, 2, none⟩ = false := frozen_of_block t7
    have f3 : (W7).frozen? ⟨px, 3, none⟩ = false := frozen_of_block t7
    have f4 : (W7).frozen? ⟨px, 4, none⟩ = false := frozen_of_block t7
    have hne : px ≠ b9 := by have := HG.out.2.2.2.2.2.1 px HG.out.2.2.2.2.1; have := H7.out.l; omega
    have t8 : TreeF (W7.setCell ⟨px, 4, none⟩ (.int .u64 x)) px ps ty kv kind td x := heap_setCell t7
    have q8 := (heap_setCell_ne (w := W7) (b := px) (i := 4) (v := .int .u64 x) hne.symm).trans H7.out.q
    have s8 : StOn (W7.setCell ⟨px, 4, none⟩ (.int .u64 x)) ps S' Y := H7.out.st.write HG.out.2.2.2.2.1 t7 ⟨by decide, by decide⟩ (by simp) (by simp) fun k _ hk => heap_setCell_ne hk
    have k8 : Keep (fun k => Y k ∧ k ≠ px) w (W7.setCell ⟨px, 4, none⟩ (.int .u64 x)) := (H7.out.k.mono fun k hk => hk.1).trans ⟨rfl, rfl, rfl, by simp, fun k hk => heap_setCell_ne hk.2⟩
    have e0 : ((W7.setCell ⟨px, 4, none⟩ (.int .u64 x))).cell? ⟨b9, 0, none⟩ = some (.int .u64 ik) := by rw [cell_of_block q8]; rfl
    have e1 : ((W7.setCell ⟨px, 4, none⟩ (.int .u64 x))).cell? ⟨b9, 1, none⟩ = some (.int .u64 iv) := by rw [cell_of_block q8]; rfl
    have H8 := Lib.hid (And.intro t8 (And.intro s8 k8))
    clear t7 t8 s8 k8 hne q8
    go_wp2_with fail
    refine (HG.out.2.2.2.1 x ik iv S' Hi7.out _ _ H8.out.2.1 H8.out.1 HG.out.2.2.2.2.1).mono ?_
    rintro e w9 ⟨S3, rfl, s9, k9, r9⟩
    have hfin : StOn w9 ps S3 Y ∧ Keep (fun k => Y k ∧ k ≠ px) w w9 ∧ TreeF w9 px ps ty kv kind td x ∧ R2 x S3 := ⟨s9, H8.out.2.2.trans (k9.mono fun k hk => hk.1), TreeF.keep H8.out.1 k9 HG.out.2.2.2.2.1, r9⟩
    have HF := Lib.hid hfin
    clear hfin s9 k9 H8 c0 c1 c2 c3 c4 f0 f1 f2 f3 f4 e0 e1
    go_wp2_with fail
    go_ret3
    exact ⟨x, S3, rfl, HF.out⟩
end Go.Proofs.YtepdkbmnkjfcpaaGreatDoor
