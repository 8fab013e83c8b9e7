/- Trees taken apart and put together: join, key, split: the walks. -/
import Derived.Test.YtepdkbmnkjfcpaaGreatDoorGaz
namespace Go.Proofs.YtepdkbmnkjfcpaaGreatDoor
open Go.RowKit Go.BigFrame Go.Maps Go.WideMaps Lf

theorem st6_heap {W : World} {b : Nat} {u0 u1 u2 u3 u4 u5 : Value} {t : TypeId} {fr : Nat × Nat} (h : W.heap[b]? = some (.cells #[u0, u1, u2, u3, u4, u5] t fr)) (v0 v1 v2 v3 v4 v5 : Value) : ((((((W.setCell ⟨b, 0, none⟩ (v0)).setCell ⟨b, 1, none⟩ (v1)).setCell ⟨b, 2, none⟩ (v2)).setCell ⟨b, 3, none⟩ (v3)).setCell ⟨b, 4, none⟩ (v4)).setCell ⟨b, 5, none⟩ (v5)).heap[b]? = some (.cells #[v0, v1, v2, v3, v4, v5] t fr) := by
  rw [heap_setCell (heap_setCell (heap_setCell (heap_setCell (heap_setCell (heap_setCell h)))))]
  rfl
theorem st6_below {w W : World} {b : Nat} (h : Below w.heap.size w W) (hb : w.heap.size ≤ b) (v0 v1 v2 v3 v4 v5 : Value) : Below w.heap.size w ((((((W.setCell ⟨b, 0, none⟩ (v0)).setCell ⟨b, 1, none⟩ (v1)).setCell ⟨b, 2, none⟩ (v2)).setCell ⟨b, 3, none⟩ (v3)).setCell ⟨b, 4, none⟩ (v4)).setCell ⟨b, 5, none⟩ (v5)) :=
  (((((h.setCell (p := ⟨b, 0, none⟩) hb _).setCell (p := ⟨b, 1, none⟩) hb _).setCell (p := ⟨b, 2, none⟩) hb _).setCell (p := ⟨b, 3, none⟩) hb _).setCell (p := ⟨b, 4, none⟩) hb _).setCell (p := ⟨b, 5, none⟩) hb _

/-- what a kind's Join is -/
structure JoinsAs (j : FuncId) (jn : Jn) : Prop where
  enter : ∀ (args : Array Value) (w : World), (callFunc j args).run Tryz.prog w = .ok (.enter j args) w
  inv : ∀ {S S' : St} {l m r : Nat} {R : Nat × Nat}, Inv S → jn S l m r = some (R, S') → Inv S'
  mem : ∀ {S S' : St} {l m r : Nat} {R : Nat × Nat}, Inv S → jn S l m r = some (R, S') → R.1 = m ∨ R.1 = l ∨ R.1 = r
  ok : ∀ {S S' : St} {l m r : Nat} {R : Nat × Nat}, jn S l m r = some (R, S') → R.2 = 0
  call : ∀ {w : World} {ps : Nat} {S S' : St} {Y : Nat → Prop} {l m r : Nat} {R : Nat × Nat}, StOn w ps S Y → Inv S → l < 18446744073709551616 → m < 18446744073709551616 → r < 18446744073709551616 → jn S l m r = some (R, S') →
    Calls Tryz.prog j #[PV ps, .int .u64 l, .int .u64 m, .int .u64 r] w fun e w' => e = .returned (.tuple #[.int .u64 R.1, .int .i64 R.2]) ∧ StOn w' ps S' Y ∧ Keep Y w w'

theorem joins_avl : JoinsAs 148 avlOkM where
  enter args w := by go_simp
  inv hi h := (joinM_inv _ _ 100 hi (avlOkM_some h).2.2.2.2.1).1
  mem hi h := (joinM_inv _ _ 100 hi (avlOkM_some h).2.2.2.2.1).2
  ok h := (avlOkM_some h).2.2.2.2.2
  call h hi hl hm hr hR := avl_Join h hi _ _ _ hl hm hr hR

theorem cjoinM_some {j : FuncId} {jn : Jn} (hj : JoinsAs j jn) {S S' : St} {l m r x : Nat} (h : cjoinM jn S l m r = some (x, S')) : jn S l m r = some ((x, 0), S') := by
  unfold cjoinM at h
  obtain ⟨⟨⟨a, b⟩, S1⟩, h1, h2⟩ := Option.map_eq_some_iff.1 h
  have := hj.ok h1
  simp only at this
  subst this
  simp only [if_true] at h2
  injection h2 with e1 e2
  rw [h1, e1, e2]

set_option maxRecDepth 100000 in
set_option maxHeartbeats 800000 in
theorem cut_join {w : World} {ps : Nat} {S S' : St} {Y : Nat → Prop} (h : StOn w ps S Y) (hi : Inv S) {j c : FuncId} {jn : Jn} (hj : JoinsAs j jn) (l m r : Nat) (hl : l < 18446744073709551616) (hm : m < 18446744073709551616) (hr : r < 18446744073709551616) {x : Nat} (hx : cjoinM jn S l m r = some (x, S')) :
    Calls Tryz.prog 336 #[cutV ps j c, .int .u64 l, .int .u64 m, .int .u64 r] w fun e w' => e = .returned (.int .u64 x) ∧ StOn w' ps S' Y ∧ Keep Y w w' := by
  have h1 := cjoinM_some hj hx
  have q0 := heap_alloc_new w (.cells #[PV ps, fnV j, fnV c] 229)
  have B0 := (Below.refl w.heap.size w).alloc (Nat.le_refl _) (.cells #[PV ps, fnV j, fnV c] 229)
  have hc := hj.call (h.below B0) hi hl hm hr h1
  simp only [cutV, fnV] at q0 B0 hc ⊢
  have hen := hj.enter
  have HG := Lib.hid (And.intro hc (And.intro B0 (And.intro q0 h)))
  clear hc q0 B0 h hi hj hx h1
  go_enter Tryz.func336, Tryz.ntmps336
  go_wp2_with fail
  refine HG.out.1.mono ?_
  rintro e w1 ⟨rfl, h1, k1⟩
  have H1 := Lib.hid (And.intro h1 ((Keep.of_below HG.out.2.1 HG.out.2.2.2.yl).trans k1))
  clear h1 k1
  go_wp2_with fail
  go_ret
  exact ⟨rfl, H1.out⟩

set_option maxRecDepth 100000 in
set_option maxHeartbeats 3200000 in
theorem cut_key {w : World} {ps : Nat} {S : St} {Y : Nat → Prop} (h : StOn w ps S Y) (hi : Inv S) {j c : FuncId} (hh : Nat) (hl : hh < 18446744073709551616) {t : List UInt8} (ht : textM S (getNode S hh).1.key = some t) :
    Calls Tryz.prog 339 #[cutV ps j c, .int .u64 hh] w fun e w' => e = .returned (.tuple #[SV t, ndV (getNode S hh).1]) ∧ Below w.heap.size w w' := by
  have hlt := getNode_lt h hh
  have hg := fun W (hW : Below w.heap.size w W) => node_get (h.below hW) hi hh hl
  obtain ⟨⟨⟨k0, k1, k2, k3, k4, k5⟩, er⟩, hE⟩ : ∃ q, getNode S hh = q := ⟨_, rfl⟩
  rw [hE] at hg hlt ht ⊢
  unfold textM at ht
  split at ht
  · cases ht
  rename_i h8
  have ht := Option.some.inj ht
  have hb := fun W (hW : Below w.heap.size w W) => blob_get (h.below hW) hi k0 hlt.key h8
  simp only at hb ht
  rw [ht] at hb
  generalize (getBlob S k0).2 = eb at *
  have q0 := heap_alloc_new w (.cells #[PV ps, fnV j, fnV c] 229)
  have B1 := (Below.refl w.heap.size w).alloc (Nat.le_refl _) (.cells #[PV ps, fnV j, fnV c] 229)
  have Bz := (Below.refl (w.alloc (.cells #[PV ps, fnV j, fnV c] 229)).heap.size (w.alloc (.cells #[PV ps, fnV j, fnV c] 229))).alloc (Nat.le_refl _) (.cells #[.int .u64 0, .int .u64 0, .int .u64 0, .int .u64 0, .int .u64 0, .int .u64 0] 183)
  have q1 := (Bz.block w.heap.size (by simp)).trans q0
  have z1 := heap_alloc_new (w.alloc (.cells #[PV ps, fnV j, fnV c] 229)) (.cells #[.int .u64 0, .int .u64 0, .int .u64 0, .int .u64 0, .int .u64 0, .int .u64 0] 183)
  have B0 := B1.trans (Bz.mono B1.size)
  simp only [World.size_alloc] at z1
  simp only [cutV, fnV, ndV] at B0 hg q1 z1 ⊢
  have HG := Lib.hid (And.intro hg (And.intro hb (And.intro B0 (And.intro q1 z1))))
  clear hg hb B0 h hi hlt hE ht h8 q0 q1 B1 Bz z1
  go_enter Tryz.func339, Tryz.ntmps339
  go_wp2_with fail
  refine (HG.out.1 _ HG.out.2.2.1).mono ?_
  rintro e w1 ⟨rfl, hb1⟩
  have hal := hb1.alloc hb1.size (.cells #[.int .u64 k0, .int .u64 k1, .int .u64 k2, .int .u64 k3, .int .u64 k4, .int .u64 k5] 183)
  have q2 := heap_alloc_new w1 (.cells #[.int .u64 k0, .int .u64 k1, .int .u64 k2, .int .u64 k3, .int .u64 k4, .int .u64 k5] 183)
  have r2 := (hal.block w.heap.size (by simp; omega)).trans HG.out.2.2.2.1
  have z2 := (hal.block (w.heap.size + 1) (by simp)).trans HG.out.2.2.2.2
  have c0 : ((w1.alloc (.cells #[.int .u64 k0, .int .u64 k1, .int .u64 k2, .int .u64 k3, .int .u64 k4, .int .u64 k5] 183))).cell? ⟨w.heap.size, 0, none⟩ = some (PV ps) := by rw [cell_of_block r2]; rfl
  have c1 : ((w1.alloc (.cells #[.int .u64 k0, .int .u64 k1, .int .u64 k2, .int .u64 k3, .int .u64 k4, .int .u64 k5] 183))).cell? ⟨w.heap.size, 1, none⟩ = some (.func (.func j) #[] #[]) := by rw [cell_of_block r2]; rfl
  have c2 : ((w1.alloc (.cells #[.int .u64 k0, .int .u64 k1, .int .u64 k2, .int .u64 k3, .int .u64 k4, .int .u64 k5] 183))).cell? ⟨w.heap.size, 2, none⟩ = some (.func (.func c) #[] #[]) := by rw [cell_of_block r2]; rfl
  have H2 := Lib.hid (And.intro (HG.out.2.2.1.trans (hal.mono HG.out.2.2.1.size)) (And.intro q2 z2))
  clear hb1 hal q2 r2 z2
  go_wp2_with fail
  refine (HG.out.2.1 _ H2.out.1).mono ?_
  rintro e w3 ⟨rfl, hb3⟩
  have q3 := (hb3.block _ (Array.getElem?_eq_some_iff.1 H2.out.2.1).1).trans H2.out.2.1
  have z3 := (hb3.block _ (Array.getElem?_eq_some_iff.1 H2.out.2.2).1).trans H2.out.2.2
  have d0 : (w3).cell? ⟨w1.heap.size, 0, none⟩ = some (.int .u64 k0) := by rw [cell_of_block q3]; rfl
  have d1 : (w3).cell? ⟨w1.heap.size, 1, none⟩ = some (.int .u64 k1) := by rw [cell_of_block q3]; rfl
  have d2 : (w3).cell? ⟨w1.heap.size, 2, none⟩ = some (.int .u64 k2) := by rw [cell_of_block q3]; rfl
  have d3 : (w3).cell? ⟨w1.heap.size, 3, none⟩ = some (.int .u64 k3) := by rw [cell_of_block q3]; rfl
  have d4 : (w3).cell? ⟨w1.heap.size, 4, none⟩ = some (.int .u64 k4) := by rw [cell_of_block q3]; rfl
  have d5 : (w3).cell? ⟨w1.heap.size, 5, none⟩ = some (.int .u64 k5) := by rw [cell_of_block q3]; rfl
  have e0 : (w3).cell? ⟨(w.heap.size + 1), 0, none⟩ = some (.int .u64 0) := by rw [cell_of_block z3]; rfl
  have e1 : (w3).cell? ⟨(w.heap.size + 1), 1, none⟩ = some (.int .u64 0) := by rw [cell_of_block z3]; rfl
  have e2 : (w3).cell? ⟨(w.heap.size + 1), 2, none⟩ = some (.int .u64 0) := by rw [cell_of_block z3]; rfl
  have e3 : (w3).cell? ⟨(w.heap.size + 1), 3, none⟩ = some (.int .u64 0) := by rw [cell_of_block z3]; rfl
  have e4 : (w3).cell? ⟨(w.heap.size + 1), 4, none⟩ = some (.int .u64 0) := by rw [cell_of_block z3]; rfl
  have e5 : (w3).cell? ⟨(w.heap.size + 1), 5, none⟩ = some (.int .u64 0) := by rw [cell_of_block z3]; rfl
  have f0 : (w3).frozen? ⟨(w.heap.size + 1), 0, none⟩ = false := frozen_of_block z3
  have f1 : (w3).frozen? ⟨(w.heap.size + 1), 1, none⟩ = false := frozen_of_block z3
  have f2 : (w3).frozen? ⟨(w.heap.size + 1), 2, none⟩ = false := frozen_of_block z3
  have f3 : (w3).frozen? ⟨(w.heap.size + 1), 3, none⟩ = false := frozen_of_block z3
  have f4 : (w3).frozen? ⟨(w.heap.size + 1), 4, none⟩ = false := frozen_of_block z3
  have f5 : (w3).frozen? ⟨(w.heap.size + 1), 5, none⟩ = false := frozen_of_block z3
  have H3 := Lib.hid (And.intro (H2.out.1.trans (hb3.mono H2.out.1.size)) z3)
  clear hb3 q3 z3
  go_wp2_with fail
  go_region
  go_wp2_with fail
  have q6 : ((((((w3.setCell ⟨(w.heap.size + 1), 0, none⟩ (.int .u64 k0)).setCell ⟨(w.heap.size + 1), 1, none⟩ (.int .u64 k1)).setCell ⟨(w.heap.size + 1), 2, none⟩ (.int .u64 k2)).setCell ⟨(w.heap.size + 1), 3, none⟩ (.int .u64 k3)).setCell ⟨(w.heap.size + 1), 4, none⟩ (.int .u64 k4)).setCell ⟨(w.heap.size + 1), 5, none⟩ (.int .u64 k5)).drew.heap[w.heap.size + 1]? = _ := st6_heap H3.out.2 (.int .u64 k0) (.int .u64 k1) (.int .u64 k2) (.int .u64 k3) (.int .u64 k4) (.int .u64 k5)
  have B6 := (st6_below H3.out.1 (Nat.le_succ w.heap.size) (.int .u64 k0) (.int .u64 k1) (.int .u64 k2) (.int .u64 k3) (.int .u64 k4) (.int .u64 k5)).drew
  generalize ((((((w3.setCell ⟨(w.heap.size + 1), 0, none⟩ (.int .u64 k0)).setCell ⟨(w.heap.size + 1), 1, none⟩ (.int .u64 k1)).setCell ⟨(w.heap.size + 1), 2, none⟩ (.int .u64 k2)).setCell ⟨(w.heap.size + 1), 3, none⟩ (.int .u64 k3)).setCell ⟨(w.heap.size + 1), 4, none⟩ (.int .u64 k4)).setCell ⟨(w.heap.size + 1), 5, none⟩ (.int .u64 k5)).drew = W6 at *
  have g0 : (W6).cell? ⟨(w.heap.size + 1), 0, none⟩ = some (.int .u64 k0) := by rw [cell_of_block q6]; rfl
  have g1 : (W6).cell? ⟨(w.heap.size + 1), 1, none⟩ = some (.int .u64 k1) := by rw [cell_of_block q6]; rfl
  have g2 : (W6).cell? ⟨(w.heap.size + 1), 2, none⟩ = some (.int .u64 k2) := by rw [cell_of_block q6]; rfl
  have g3 : (W6).cell? ⟨(w.heap.size + 1), 3, none⟩ = some (.int .u64 k3) := by rw [cell_of_block q6]; rfl
  have g4 : (W6).cell? ⟨(w.heap.size + 1), 4, none⟩ = some (.int .u64 k4) := by rw [cell_of_block q6]; rfl
  have g5 : (W6).cell? ⟨(w.heap.size + 1), 5, none⟩ = some (.int .u64 k5) := by rw [cell_of_block q6]; rfl
  exact bodyPost_ret (v := .tuple #[SV t, .agg #[.int .u64 k0, .int .u64 k1, .int .u64 k2, .int .u64 k3, .int .u64 k4, .int .u64 k5]]) (by simp [results, Tryz.f339, go_sem, g0, g1, g2, g3, g4, g5]) rfl ⟨rfl, B6⟩
end Go.Proofs.YtepdkbmnkjfcpaaGreatDoor
