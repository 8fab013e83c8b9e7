/- A map that is not there, or that nobody made: the walks. Cursors that are not there, or that nobody made: the walks. How large a rank may be: plain. -/
import Derived.Test.YtoaabbnieakidaaGreatDoorRGbc
namespace Go.Proofs.YtoaabbnieakidaaGreatDoorR
open Go.RowKit Go.BigFrame Go.Maps Go.WideMaps Lf

/-- no map: nil, or one that nobody made -/
def NoM (w : World) (v : Value) : Prop := v = .pointer none ∨ ∃ pm, v = PV pm ∧ w.heap[pm]? = some (.cells #[.pointer none, .pointer none, .int .i64 0] 89)
theorem NoM.below {w w' : World} {v : Value} (h : NoM w v) (hb : Below w.heap.size w w') : NoM w' v := h.imp id fun ⟨pm, e, hp⟩ => ⟨pm, e, (hb.block pm (Array.getElem?_eq_some_iff.1 hp).1).trans hp⟩

set_option maxRecDepth 100000 in
set_option maxHeartbeats 400000 in
theorem map_none_no {w : World} {v : Value} (h : NoM w v) :
    Calls Tryz.prog 55 #[v] w fun e w' => e = .returned (.bool true) ∧ w = w' := by
  rcases h with rfl | ⟨pm, rfl, hM⟩
  · exact map_none_nil w
  ·
    have c0 : (w).cell? ⟨pm, 0, none⟩ = some (.pointer none) := by rw [cell_of_block hM]; rfl
    have c1 : (w).cell? ⟨pm, 1, none⟩ = some (.pointer none) := by rw [cell_of_block hM]; rfl
    have c2 : (w).cell? ⟨pm, 2, none⟩ = some (.int .i64 0) := by rw [cell_of_block hM]; rfl
    clear hM
    go_enter Tryz.func55, Tryz.ntmps55
    go_wp2_with fail
    go_ret
    exact ⟨rfl, rfl⟩

set_option maxRecDepth 100000 in
set_option maxHeartbeats 400000 in
theorem no_asked {w : World} {v : Value} (h : NoM w v) (a b : List UInt8) :
    Calls Tryz.prog 51 #[v, SV a, SV b] w fun e w' => e = .returned (.int .i64 1) ∧ w = w' := by
  have HG := Lib.hid (map_none_no h)
  clear h
  go_enter Tryz.func51, Tryz.ntmps51
  go_wp2_with fail
  refine HG.out.mono ?_
  rintro e w1 ⟨rfl, rfl⟩
  go_wp2_with fail
  go_ret
  exact ⟨rfl, rfl⟩

set_option maxRecDepth 100000 in
set_option maxHeartbeats 400000 in
theorem no_put {w : World} {v : Value} (h : NoM w v) (a b : List UInt8) :
    Calls Tryz.prog 50 #[v, SV a, SV b] w fun e w' => e = .returned (.tuple #[.string ⟨#[]⟩, .bool false, .int .i64 1]) ∧ w = w' := by
  have HG := Lib.hid (no_asked h a b)
  clear h
  go_enter Tryz.func50, Tryz.ntmps50
  go_wp2_with fail
  refine HG.out.mono ?_
  rintro e w1 ⟨rfl, rfl⟩
  go_wp2_with fail
  go_ret3
  exact ⟨rfl, rfl⟩

set_option maxRecDepth 100000 in
set_option maxHeartbeats 400000 in
theorem no_absent {w : World} {v : Value} (h : NoM w v) (a b : List UInt8) :
    Calls Tryz.prog 20 #[v, SV a, SV b] w fun e w' => e = .returned (.int .i64 1) ∧ w = w' := by
  have HG := Lib.hid (no_asked h a b)
  clear h
  go_enter Tryz.func20, Tryz.ntmps20
  go_wp2_with fail
  refine HG.out.mono ?_
  rintro e w1 ⟨rfl, rfl⟩
  go_wp2_with fail
  go_ret
  exact ⟨rfl, rfl⟩

set_option maxRecDepth 100000 in
set_option maxHeartbeats 400000 in
theorem no_get {w : World} {v : Value} (h : NoM w v) (a : List UInt8) :
    Calls Tryz.prog 25 #[v, SV a] w fun e w' => e = .returned (.tuple #[.string ⟨#[]⟩, .int .i64 1]) ∧ w = w' := by
  have HG := Lib.hid (map_none_no h)
  clear h
  go_enter Tryz.func25, Tryz.ntmps25
  go_wp2_with fail
  refine HG.out.mono ?_
  rintro e w1 ⟨rfl, rfl⟩
  go_wp2_with fail
  go_ret2
  exact ⟨rfl, rfl⟩

set_option maxRecDepth 100000 in
set_option maxHeartbeats 400000 in
theorem no_delete {w : World} {v : Value} (h : NoM w v) (a : List UInt8) :
    Calls Tryz.prog 23 #[v, SV a] w fun e w' => e = .returned (.tuple #[.string ⟨#[]⟩, .int .i64 1]) ∧ w = w' := by
  have HG := Lib.hid (map_none_no h)
  clear h
  go_enter Tryz.func23, Tryz.ntmps23
  go_wp2_with fail
  refine HG.out.mono ?_
  rintro e w1 ⟨rfl, rfl⟩
  go_wp2_with fail
  go_ret2
  exact ⟨rfl, rfl⟩

set_option maxRecDepth 100000 in
set_option maxHeartbeats 400000 in
theorem no_clear {w : World} {v : Value} (h : NoM w v)  :
    Calls Tryz.prog 40 #[v] w fun e w' => e = .returned (.int .i64 1) ∧ w = w' := by
  have HG := Lib.hid (map_none_no h)
  clear h
  go_enter Tryz.func40, Tryz.ntmps40
  go_wp2_with fail
  refine HG.out.mono ?_
  rintro e w1 ⟨rfl, rfl⟩
  go_wp2_with fail
  go_ret
  exact ⟨rfl, rfl⟩

set_option maxRecDepth 100000 in
set_option maxHeartbeats 400000 in
theorem no_len {w : World} {v : Value} (h : NoM w v)  :
    Calls Tryz.prog 98 #[v] w fun e w' => e = .returned (.int .i64 0) ∧ w = w' := by
  have HG := Lib.hid (map_none_no h)
  clear h
  go_enter Tryz.func98, Tryz.ntmps98
  go_wp2_with fail
  refine HG.out.mono ?_
  rintro e w1 ⟨rfl, rfl⟩
  go_wp2_with fail
  go_ret
  exact ⟨rfl, rfl⟩

set_option maxRecDepth 100000 in
set_option maxHeartbeats 400000 in
theorem no_limit {w : World} {v : Value} (h : NoM w v)  :
    Calls Tryz.prog 95 #[v] w fun e w' => e = .returned (.int .i64 0) ∧ w = w' := by
  have HG := Lib.hid (map_none_no h)
  clear h
  go_enter Tryz.func95, Tryz.ntmps95
  go_wp2_with fail
  refine HG.out.mono ?_
  rintro e w1 ⟨rfl, rfl⟩
  go_wp2_with fail
  go_ret
  exact ⟨rfl, rfl⟩

set_option maxRecDepth 100000 in
set_option maxHeartbeats 400000 in
theorem no_rank {w : World} {v : Value} (h : NoM w v) (a : List UInt8) :
    Calls Tryz.prog 32 #[v, SV a] w fun e w' => e = .returned (.int .i64 0) ∧ w = w' := by
  have HG := Lib.hid (map_none_no h)
  clear h
  go_enter Tryz.func32, Tryz.ntmps32
  go_wp2_with fail
  refine HG.out.mono ?_
  rintro e w1 ⟨rfl, rfl⟩
  go_wp2_with fail
  go_ret
  exact ⟨rfl, rfl⟩

set_option maxRecDepth 100000 in
set_option maxHeartbeats 400000 in
theorem no_tree {w : World} {v : Value} (h : NoM w v)  :
    Calls Tryz.prog 90 #[v] w fun e w' => e = .returned (.pointer none) ∧ w = w' := by
  have HG := Lib.hid (map_none_no h)
  clear h
  go_enter Tryz.func90, Tryz.ntmps90
  go_wp2_with fail
  refine HG.out.mono ?_
  rintro e w1 ⟨rfl, rfl⟩
  go_wp2_with fail
  go_ret
  exact ⟨rfl, rfl⟩

set_option maxRecDepth 100000 in
set_option maxHeartbeats 400000 in
theorem no_store {w : World} {v : Value} (h : NoM w v)  :
    Calls Tryz.prog 73 #[v] w fun e w' => e = .returned (.pointer none) ∧ w = w' := by
  have HG := Lib.hid (map_none_no h)
  clear h
  go_enter Tryz.func73, Tryz.ntmps73
  go_wp2_with fail
  refine HG.out.mono ?_
  rintro e w1 ⟨rfl, rfl⟩
  go_wp2_with fail
  go_ret
  exact ⟨rfl, rfl⟩

set_option maxRecDepth 100000 in
set_option maxHeartbeats 400000 in
theorem no_at {w : World} {v : Value} (h : NoM w v) (pl : Value) (a : List UInt8) :
    Calls Tryz.prog 57 #[v, pl, SV a] w fun e w' => e = .returned (.tuple #[.agg #[.string ⟨#[]⟩, .string ⟨#[]⟩], .int .i64 1]) ∧ Below w.heap.size w w' := by
  have B0 := (Below.refl w.heap.size w).alloc (Nat.le_refl _) (.cells #[.string ⟨#[]⟩, .string ⟨#[]⟩] 50)
  have HG := Lib.hid (And.intro (map_none_no (h.below B0)) B0)
  clear h B0
  go_enter Tryz.func57, Tryz.ntmps57
  go_wp2_with fail
  refine HG.out.1.mono ?_
  rintro e w1 ⟨rfl, rfl⟩
  go_wp2_with fail
  exact bodyPost_ret (v := .tuple #[.agg #[.string ⟨#[]⟩, .string ⟨#[]⟩], .int .i64 1]) (by simp [results, Tryz.f57, go_sem]) rfl ⟨rfl, HG.out.2⟩

set_option maxRecDepth 100000 in
set_option maxHeartbeats 400000 in
theorem no_select {w : World} {v : Value} (h : NoM w v) (k : Int) :
    Calls Tryz.prog 34 #[v, .int .i64 k] w fun e w' => e = .returned (.tuple #[.agg #[.string ⟨#[]⟩, .string ⟨#[]⟩], .int .i64 1]) ∧ Below w.heap.size w w' := by
  have B0 := (Below.refl w.heap.size w).alloc (Nat.le_refl _) (.cells #[.string ⟨#[]⟩, .string ⟨#[]⟩] 50)
  have HG := Lib.hid (And.intro (map_none_no (h.below B0)) B0)
  clear h B0
  go_enter Tryz.func34, Tryz.ntmps34
  go_wp2_with fail
  refine HG.out.1.mono ?_
  rintro e w1 ⟨rfl, rfl⟩
  go_wp2_with fail
  exact bodyPost_ret (v := .tuple #[.agg #[.string ⟨#[]⟩, .string ⟨#[]⟩], .int .i64 1]) (by simp [results, Tryz.f34, go_sem]) rfl ⟨rfl, HG.out.2⟩

set_option maxRecDepth 100000 in
set_option maxHeartbeats 400000 in
theorem no_min {w : World} {v : Value} (h : NoM w v)  :
    Calls Tryz.prog 62 #[v] w fun e w' => e = .returned (.tuple #[.agg #[.string ⟨#[]⟩, .string ⟨#[]⟩], .int .i64 1]) ∧ Below w.heap.size w w' := by
  have B0 := (Below.refl w.heap.size w).alloc (Nat.le_refl _) (.cells #[.string ⟨#[]⟩, .string ⟨#[]⟩] 50)
  have q0 := heap_alloc_new w (.cells #[.string ⟨#[]⟩, .string ⟨#[]⟩] 50)
  have HG := Lib.hid (And.intro (no_at (h.below B0) (.func (.func 86) #[] #[]) []) (And.intro B0 q0))
  clear h B0 q0
  go_enter Tryz.func62, Tryz.ntmps62
  go_wp2_with fail
  refine HG.out.1.mono ?_
  rintro e w1 ⟨rfl, hb⟩
  have q1 := (hb.block w.heap.size (by simp)).trans HG.out.2.2
  have c0 : (w1).cell? ⟨w.heap.size, 0, none⟩ = some (.string ⟨#[]⟩) := by rw [cell_of_block q1]; rfl
  have c1 : (w1).cell? ⟨w.heap.size, 1, none⟩ = some (.string ⟨#[]⟩) := by rw [cell_of_block q1]; rfl
  have f0 : (w1).frozen? ⟨w.heap.size, 0, none⟩ = false := frozen_of_block q1
  have f1 : (w1).frozen? ⟨w.heap.size, 1, none⟩ = false := frozen_of_block q1
  have q2 := st2_heap q1 (.string ⟨#[]⟩) (.string ⟨#[]⟩)
  have B2 := st2_below (HG.out.2.1.trans (hb.mono HG.out.2.1.size)) (Nat.le_refl _) (.string ⟨#[]⟩) (.string ⟨#[]⟩)
  have HB := Lib.hid (And.intro q2 B2)
  clear hb q1 q2 B2
  go_wp2_with fail
  obtain ⟨q2, B2⟩ := HB.out
  generalize ((w1.setCell ⟨w.heap.size, 0, none⟩ (.string ⟨#[]⟩)).setCell ⟨w.heap.size, 1, none⟩ (.string ⟨#[]⟩)) = w2 at *
  have e0 : (w2).cell? ⟨w.heap.size, 0, none⟩ = some (.string ⟨#[]⟩) := by rw [cell_of_block q2]; rfl
  have e1 : (w2).cell? ⟨w.heap.size, 1, none⟩ = some (.string ⟨#[]⟩) := by rw [cell_of_block q2]; rfl
  exact bodyPost_ret (v := .tuple #[.agg #[.string ⟨#[]⟩, .string ⟨#[]⟩], .int .i64 1]) (by simp [results, Tryz.f62, go_sem, e0, e1]) rfl ⟨rfl, B2⟩

set_option maxRecDepth 100000 in
set_option maxHeartbeats 400000 in
theorem no_max {w : World} {v : Value} (h : NoM w v)  :
    Calls Tryz.prog 63 #[v] w fun e w' => e = .returned (.tuple #[.agg #[.string ⟨#[]⟩, .string ⟨#[]⟩], .int .i64 1]) ∧ Below w.heap.size w w' := by
  have B0 := (Below.refl w.heap.size w).alloc (Nat.le_refl _) (.cells #[.string ⟨#[]⟩, .string ⟨#[]⟩] 50)
  have q0 := heap_alloc_new w (.cells #[.string ⟨#[]⟩, .string ⟨#[]⟩] 50)
  have HG := Lib.hid (And.intro (no_at (h.below B0) (.func (.func 87) #[] #[]) []) (And.intro B0 q0))
  clear h B0 q0
  go_enter Tryz.func63, Tryz.ntmps63
  go_wp2_with fail
  refine HG.out.1.mono ?_
  rintro e w1 ⟨rfl, hb⟩
  have q1 := (hb.block w.heap.size (by simp)).trans HG.out.2.2
  have c0 : (w1).cell? ⟨w.heap.size, 0, none⟩ = some (.string ⟨#[]⟩) := by rw [cell_of_block q1]; rfl
  have c1 : (w1).cell? ⟨w.heap.size, 1, none⟩ = some (.string ⟨#[]⟩) := by rw [cell_of_block q1]; rfl
  have f0 : (w1).frozen? ⟨w.heap.size, 0, none⟩ = false := frozen_of_block q1
  have f1 : (w1).frozen? ⟨w.heap.size, 1, none⟩ = false := frozen_of_block q1
  have q2 := st2_heap q1 (.string ⟨#[]⟩) (.string ⟨#[]⟩)
  have B2 := st2_below (HG.out.2.1.trans (hb.mono HG.out.2.1.size)) (Nat.le_refl _) (.string ⟨#[]⟩) (.string ⟨#[]⟩)
  have HB := Lib.hid (And.intro q2 B2)
  clear hb q1 q2 B2
  go_wp2_with fail
  obtain ⟨q2, B2⟩ := HB.out
  generalize ((w1.setCell ⟨w.heap.size, 0, none⟩ (.string ⟨#[]⟩)).setCell ⟨w.heap.size, 1, none⟩ (.string ⟨#[]⟩)) = w2 at *
  have e0 : (w2).cell? ⟨w.heap.size, 0, none⟩ = some (.string ⟨#[]⟩) := by rw [cell_of_block q2]; rfl
  have e1 : (w2).cell? ⟨w.heap.size, 1, none⟩ = some (.string ⟨#[]⟩) := by rw [cell_of_block q2]; rfl
  exact bodyPost_ret (v := .tuple #[.agg #[.string ⟨#[]⟩, .string ⟨#[]⟩], .int .i64 1]) (by simp [results, Tryz.f63, go_sem, e0, e1]) rfl ⟨rfl, B2⟩

set_option maxRecDepth 100000 in
set_option maxHeartbeats 400000 in
theorem no_floor {w : World} {v : Value} (h : NoM w v) (a : List UInt8) :
    Calls Tryz.prog 28 #[v, SV a] w fun e w' => e = .returned (.tuple #[.agg #[.string ⟨#[]⟩, .string ⟨#[]⟩], .int .i64 1]) ∧ Below w.heap.size w w' := by
  have B0 := (Below.refl w.heap.size w).alloc (Nat.le_refl _) (.cells #[.string ⟨#[]⟩, .string ⟨#[]⟩] 50)
  have q0 := heap_alloc_new w (.cells #[.string ⟨#[]⟩, .string ⟨#[]⟩] 50)
  have HG := Lib.hid (And.intro (no_at (h.below B0) (.func (.func 58) #[] #[]) a) (And.intro B0 q0))
  clear h B0 q0
  go_enter Tryz.func28, Tryz.ntmps28
  go_wp2_with fail
  refine HG.out.1.mono ?_
  rintro e w1 ⟨rfl, hb⟩
  have q1 := (hb.block w.heap.size (by simp)).trans HG.out.2.2
  have c0 : (w1).cell? ⟨w.heap.size, 0, none⟩ = some (.string ⟨#[]⟩) := by rw [cell_of_block q1]; rfl
  have c1 : (w1).cell? ⟨w.heap.size, 1, none⟩ = some (.string ⟨#[]⟩) := by rw [cell_of_block q1]; rfl
  have f0 : (w1).frozen? ⟨w.heap.size, 0, none⟩ = false := frozen_of_block q1
  have f1 : (w1).frozen? ⟨w.heap.size, 1, none⟩ = false := frozen_of_block q1
  have q2 := st2_heap q1 (.string ⟨#[]⟩) (.string ⟨#[]⟩)
  have B2 := st2_below (HG.out.2.1.trans (hb.mono HG.out.2.1.size)) (Nat.le_refl _) (.string ⟨#[]⟩) (.string ⟨#[]⟩)
  have HB := Lib.hid (And.intro q2 B2)
  clear hb q1 q2 B2
  go_wp2_with fail
  obtain ⟨q2, B2⟩ := HB.out
  generalize ((w1.setCell ⟨w.heap.size, 0, none⟩ (.string ⟨#[]⟩)).setCell ⟨w.heap.size, 1, none⟩ (.string ⟨#[]⟩)) = w2 at *
  have e0 : (w2).cell? ⟨w.heap.size, 0, none⟩ = some (.string ⟨#[]⟩) := by rw [cell_of_block q2]; rfl
  have e1 : (w2).cell? ⟨w.heap.size, 1, none⟩ = some (.string ⟨#[]⟩) := by rw [cell_of_block q2]; rfl
  exact bodyPost_ret (v := .tuple #[.agg #[.string ⟨#[]⟩, .string ⟨#[]⟩], .int .i64 1]) (by simp [results, Tryz.f28, go_sem, e0, e1]) rfl ⟨rfl, B2⟩

set_option maxRecDepth 100000 in
set_option maxHeartbeats 400000 in
theorem no_ceiling {w : World} {v : Value} (h : NoM w v) (a : List UInt8) :
    Calls Tryz.prog 30 #[v, SV a] w fun e w' => e = .returned (.tuple #[.agg #[.string ⟨#[]⟩, .string ⟨#[]⟩], .int .i64 1]) ∧ Below w.heap.size w w' := by
  have B0 := (Below.refl w.heap.size w).alloc (Nat.le_refl _) (.cells #[.string ⟨#[]⟩, .string ⟨#[]⟩] 50)
  have q0 := heap_alloc_new w (.cells #[.string ⟨#[]⟩, .string ⟨#[]⟩] 50)
  have HG := Lib.hid (And.intro (no_at (h.below B0) (.func (.func 32) #[] #[]) a) (And.intro B0 q0))
  clear h B0 q0
  go_enter Tryz.func30, Tryz.ntmps30
  go_wp2_with fail
  refine HG.out.1.mono ?_
  rintro e w1 ⟨rfl, hb⟩
  have q1 := (hb.block w.heap.size (by simp)).trans HG.out.2.2
  have c0 : (w1).cell? ⟨w.heap.size, 0, none⟩ = some (.string ⟨#[]⟩) := by rw [cell_of_block q1]; rfl
  have c1 : (w1).cell? ⟨w.heap.size, 1, none⟩ = some (.string ⟨#[]⟩) := by rw [cell_of_block q1]; rfl
  have f0 : (w1).frozen? ⟨w.heap.size, 0, none⟩ = false := frozen_of_block q1
  have f1 : (w1).frozen? ⟨w.heap.size, 1, none⟩ = false := frozen_of_block q1
  have q2 := st2_heap q1 (.string ⟨#[]⟩) (.string ⟨#[]⟩)
  have B2 := st2_below (HG.out.2.1.trans (hb.mono HG.out.2.1.size)) (Nat.le_refl _) (.string ⟨#[]⟩) (.string ⟨#[]⟩)
  have HB := Lib.hid (And.intro q2 B2)
  clear hb q1 q2 B2
  go_wp2_with fail
  obtain ⟨q2, B2⟩ := HB.out
  generalize ((w1.setCell ⟨w.heap.size, 0, none⟩ (.string ⟨#[]⟩)).setCell ⟨w.heap.size, 1, none⟩ (.string ⟨#[]⟩)) = w2 at *
  have e0 : (w2).cell? ⟨w.heap.size, 0, none⟩ = some (.string ⟨#[]⟩) := by rw [cell_of_block q2]; rfl
  have e1 : (w2).cell? ⟨w.heap.size, 1, none⟩ = some (.string ⟨#[]⟩) := by rw [cell_of_block q2]; rfl
  exact bodyPost_ret (v := .tuple #[.agg #[.string ⟨#[]⟩, .string ⟨#[]⟩], .int .i64 1]) (by simp [results, Tryz.f30, go_sem, e0, e1]) rfl ⟨rfl, B2⟩

set_option maxRecDepth 100000 in
set_option maxHeartbeats 400000 in
/-- a pair that was not found is not popped -/
theorem pop_no (v : Value) (w : World) :
    Calls Tryz.prog 61 #[v, .agg #[.string ⟨#[]⟩, .string ⟨#[]⟩], .int .i64 1] w fun e w' => e = .returned (.tuple #[.agg #[.string ⟨#[]⟩, .string ⟨#[]⟩], .int .i64 1]) ∧ Below w.heap.size w w' := by
  go_enter Tryz.func61, Tryz.ntmps61
  go_wp2_with fail
  exact bodyPost_ret (v := .tuple #[.agg #[.string ⟨#[]⟩, .string ⟨#[]⟩], .int .i64 1]) (by simp [results, Tryz.f61, go_sem]) rfl ⟨rfl, ((Below.refl _ w).alloc (Nat.le_refl _) _).alloc (by simp) _⟩

set_option maxRecDepth 100000 in
set_option maxHeartbeats 400000 in
theorem no_popmin {w : World} {v : Value} (h : NoM w v) :
    Calls Tryz.prog 36 #[v] w fun e w' => e = .returned (.tuple #[.agg #[.string ⟨#[]⟩, .string ⟨#[]⟩], .int .i64 1]) ∧ Below w.heap.size w w' := by
  have B0 := (Below.refl w.heap.size w).alloc (Nat.le_refl _) (.cells #[.string ⟨#[]⟩, .string ⟨#[]⟩] 50)
  have q0 := heap_alloc_new w (.cells #[.string ⟨#[]⟩, .string ⟨#[]⟩] 50)
  have HG := Lib.hid (And.intro (no_min (h.below B0)) (And.intro B0 q0))
  clear h B0 q0
  go_enter Tryz.func36, Tryz.ntmps36
  go_wp2_with fail
  refine HG.out.1.mono ?_
  rintro e w0 ⟨rfl, hb0⟩
  have HZ := Lib.hid (And.intro (HG.out.2.1.trans (hb0.mono HG.out.2.1.size)) ((hb0.block w.heap.size (by simp)).trans HG.out.2.2))
  clear hb0
  go_wp2_with fail
  refine (pop_no _ _).mono ?_
  rintro e w1 ⟨rfl, hb⟩
  have q1 := (hb.block w.heap.size (Array.getElem?_eq_some_iff.1 HZ.out.2).1).trans HZ.out.2
  have c0 : (w1).cell? ⟨w.heap.size, 0, none⟩ = some (.string ⟨#[]⟩) := by rw [cell_of_block q1]; rfl
  have c1 : (w1).cell? ⟨w.heap.size, 1, none⟩ = some (.string ⟨#[]⟩) := by rw [cell_of_block q1]; rfl
  have f0 : (w1).frozen? ⟨w.heap.size, 0, none⟩ = false := frozen_of_block q1
  have f1 : (w1).frozen? ⟨w.heap.size, 1, none⟩ = false := frozen_of_block q1
  have q2 := st2_heap q1 (.string ⟨#[]⟩) (.string ⟨#[]⟩)
  have B2 := st2_below (HZ.out.1.trans (hb.mono HZ.out.1.size)) (Nat.le_refl _) (.string ⟨#[]⟩) (.string ⟨#[]⟩)
  have HB := Lib.hid (And.intro q2 B2)
  clear hb q1 q2 B2
  go_wp2_with fail
  obtain ⟨q2, B2⟩ := HB.out
  generalize ((w1.setCell ⟨w.heap.size, 0, none⟩ (.string ⟨#[]⟩)).setCell ⟨w.heap.size, 1, none⟩ (.string ⟨#[]⟩)) = w2 at *
  have e0 : (w2).cell? ⟨w.heap.size, 0, none⟩ = some (.string ⟨#[]⟩) := by rw [cell_of_block q2]; rfl
  have e1 : (w2).cell? ⟨w.heap.size, 1, none⟩ = some (.string ⟨#[]⟩) := by rw [cell_of_block q2]; rfl
  exact bodyPost_ret (v := .tuple #[.agg #[.string ⟨#[]⟩, .string ⟨#[]⟩], .int .i64 1]) (by simp [results, Tryz.f36, go_sem, e0, e1]) rfl ⟨rfl, B2⟩

set_option maxRecDepth 100000 in
set_option maxHeartbeats 400000 in
theorem no_popmax {w : World} {v : Value} (h : NoM w v) :
    Calls Tryz.prog 38 #[v] w fun e w' => e = .returned (.tuple #[.agg #[.string ⟨#[]⟩, .string ⟨#[]⟩], .int .i64 1]) ∧ Below w.heap.size w w' := by
  have B0 := (Below.refl w.heap.size w).alloc (Nat.le_refl _) (.cells #[.string ⟨#[]⟩, .string ⟨#[]⟩] 50)
  have q0 := heap_alloc_new w (.cells #[.string ⟨#[]⟩, .string ⟨#[]⟩] 50)
  have HG := Lib.hid (And.intro (no_max (h.below B0)) (And.intro B0 q0))
  clear h B0 q0
  go_enter Tryz.func38, Tryz.ntmps38
  go_wp2_with fail
  refine HG.out.1.mono ?_
  rintro e w0 ⟨rfl, hb0⟩
  have HZ := Lib.hid (And.intro (HG.out.2.1.trans (hb0.mono HG.out.2.1.size)) ((hb0.block w.heap.size (by simp)).trans HG.out.2.2))
  clear hb0
  go_wp2_with fail
  refine (pop_no _ _).mono ?_
  rintro e w1 ⟨rfl, hb⟩
  have q1 := (hb.block w.heap.size (Array.getElem?_eq_some_iff.1 HZ.out.2).1).trans HZ.out.2
  have c0 : (w1).cell? ⟨w.heap.size, 0, none⟩ = some (.string ⟨#[]⟩) := by rw [cell_of_block q1]; rfl
  have c1 : (w1).cell? ⟨w.heap.size, 1, none⟩ = some (.string ⟨#[]⟩) := by rw [cell_of_block q1]; rfl
  have f0 : (w1).frozen? ⟨w.heap.size, 0, none⟩ = false := frozen_of_block q1
  have f1 : (w1).frozen? ⟨w.heap.size, 1, none⟩ = false := frozen_of_block q1
  have q2 := st2_heap q1 (.string ⟨#[]⟩) (.string ⟨#[]⟩)
  have B2 := st2_below (HZ.out.1.trans (hb.mono HZ.out.1.size)) (Nat.le_refl _) (.string ⟨#[]⟩) (.string ⟨#[]⟩)
  have HB := Lib.hid (And.intro q2 B2)
  clear hb q1 q2 B2
  go_wp2_with fail
  obtain ⟨q2, B2⟩ := HB.out
  generalize ((w1.setCell ⟨w.heap.size, 0, none⟩ (.string ⟨#[]⟩)).setCell ⟨w.heap.size, 1, none⟩ (.string ⟨#[]⟩)) = w2 at *
  have e0 : (w2).cell? ⟨w.heap.size, 0, none⟩ = some (.string ⟨#[]⟩) := by rw [cell_of_block q2]; rfl
  have e1 : (w2).cell? ⟨w.heap.size, 1, none⟩ = some (.string ⟨#[]⟩) := by rw [cell_of_block q2]; rfl
  exact bodyPost_ret (v := .tuple #[.agg #[.string ⟨#[]⟩, .string ⟨#[]⟩], .int .i64 1]) (by simp [results, Tryz.f38, go_sem, e0, e1]) rfl ⟨rfl, B2⟩

end Go.Proofs.YtoaabbnieakidaaGreatDoorR

namespace Go.Proofs.YtoaabbnieakidaaGreatDoorR
open Go.RowKit Go.BigFrame Go.Maps Go.WideMaps Lf

/-- no cursor: nil, or one that nobody made -/
def NoC (w : World) (v : Value) : Prop := v = .pointer none ∨ ∃ pc, v = PV pc ∧ w.heap[pc]? = some (.cells #[.pointer none, .pointer none, .int .u64 0, .int .i64 0] 79)
theorem NoC.below {w w' : World} {v : Value} (h : NoC w v) (hb : Below w.heap.size w w') : NoC w' v := h.imp id fun ⟨pm, e, hp⟩ => ⟨pm, e, (hb.block pm (Array.getElem?_eq_some_iff.1 hp).1).trans hp⟩

set_option maxRecDepth 100000 in
set_option maxHeartbeats 400000 in
theorem noc_asked {w : World} {v : Value} (h : NoC w v) :
    Calls Tryz.prog 47 #[v] w fun e w' => e = .returned (.int .i64 1) ∧ w = w' := by
  rcases h with rfl | ⟨pc, rfl, hC⟩
  · go_enter Tryz.func47, Tryz.ntmps47
    go_wp2_with fail
    go_ret
    exact ⟨rfl, rfl⟩
  ·
    have c0 : (w).cell? ⟨pc, 0, none⟩ = some (.pointer none) := by rw [cell_of_block hC]; rfl
    have c1 : (w).cell? ⟨pc, 1, none⟩ = some (.pointer none) := by rw [cell_of_block hC]; rfl
    have c2 : (w).cell? ⟨pc, 2, none⟩ = some (.int .u64 0) := by rw [cell_of_block hC]; rfl
    have c3 : (w).cell? ⟨pc, 3, none⟩ = some (.int .i64 0) := by rw [cell_of_block hC]; rfl
    clear hC
    go_enter Tryz.func47, Tryz.ntmps47
    go_wp2_with fail
    go_ret
    exact ⟨rfl, rfl⟩

set_option maxRecDepth 100000 in
set_option maxHeartbeats 400000 in
theorem noc_end {w : World} {v : Value} (h : NoC w v) (k : Int) :
    Calls Tryz.prog 140 #[v, .int .i64 k] w fun e w' => e = .returned (.int .i64 1) ∧ w = w' := by
  have HG := Lib.hid (noc_asked h)
  clear h
  go_enter Tryz.func140, Tryz.ntmps140
  go_wp2_with fail
  refine HG.out.mono ?_
  rintro e w1 ⟨rfl, rfl⟩
  go_wp2_with fail
  go_ret
  exact ⟨rfl, rfl⟩

set_option maxRecDepth 100000 in
set_option maxHeartbeats 400000 in
theorem noc_seek {w : World} {v : Value} (h : NoC w v) (a : List UInt8) :
    Calls Tryz.prog 69 #[v, SV a] w fun e w' => e = .returned (.int .i64 1) ∧ w = w' := by
  have HG := Lib.hid (noc_asked h)
  clear h
  go_enter Tryz.func69, Tryz.ntmps69
  go_wp2_with fail
  refine HG.out.mono ?_
  rintro e w1 ⟨rfl, rfl⟩
  go_wp2_with fail
  go_ret
  exact ⟨rfl, rfl⟩

set_option maxRecDepth 100000 in
set_option maxHeartbeats 400000 in
theorem noc_close {w : World} {v : Value} (h : NoC w v) :
    Calls Tryz.prog 67 #[v] w fun e w' => e = .returned (.int .i64 1) ∧ w = w' := by
  have HG := Lib.hid (noc_asked h)
  clear h
  go_enter Tryz.func67, Tryz.ntmps67
  go_wp2_with fail
  refine HG.out.mono ?_
  rintro e w1 ⟨rfl, rfl⟩
  go_wp2_with fail
  go_ret
  exact ⟨rfl, rfl⟩

set_option maxRecDepth 100000 in
set_option maxHeartbeats 400000 in
theorem noc_handle {w : World} {v : Value} (h : NoC w v) :
    Calls Tryz.prog 16 #[v] w fun e w' => e = .returned (.int .u64 0) ∧ w = w' := by
  have HG := Lib.hid (noc_asked h)
  clear h
  go_enter Tryz.func16, Tryz.ntmps16
  go_wp2_with fail
  refine HG.out.mono ?_
  rintro e w1 ⟨rfl, rfl⟩
  go_wp2_with fail
  go_ret
  exact ⟨rfl, rfl⟩

set_option maxRecDepth 100000 in
set_option maxHeartbeats 400000 in
theorem noc_store {w : World} {v : Value} (h : NoC w v) :
    Calls Tryz.prog 159 #[v] w fun e w' => e = .returned (.pointer none) ∧ w = w' := by
  have HG := Lib.hid (noc_asked h)
  clear h
  go_enter Tryz.func159, Tryz.ntmps159
  go_wp2_with fail
  refine HG.out.mono ?_
  rintro e w1 ⟨rfl, rfl⟩
  go_wp2_with fail
  go_ret
  exact ⟨rfl, rfl⟩

set_option maxRecDepth 100000 in
set_option maxHeartbeats 400000 in
theorem noc_key {w : World} {v : Value} (h : NoC w v) :
    Calls Tryz.prog 210 #[v] w fun e w' => e = .returned (.tuple #[.string ⟨#[]⟩, .int .i64 1]) ∧ w = w' := by
  have HG := Lib.hid (noc_asked h)
  clear h
  go_enter Tryz.func210, Tryz.ntmps210
  go_wp2_with fail
  refine HG.out.mono ?_
  rintro e w1 ⟨rfl, rfl⟩
  go_wp2_with fail
  go_ret2
  exact ⟨rfl, rfl⟩

set_option maxRecDepth 100000 in
set_option maxHeartbeats 400000 in
theorem noc_next {w : World} {v : Value} (h : NoC w v) :
    Calls Tryz.prog 70 #[v] w fun e w' => e = .returned (.tuple #[.agg #[.string ⟨#[]⟩, .string ⟨#[]⟩], .int .i64 1]) ∧ Below w.heap.size w w' := by
  have B0 := (Below.refl w.heap.size w).alloc (Nat.le_refl _) (.cells #[.string ⟨#[]⟩, .string ⟨#[]⟩] 50)
  have q0 := heap_alloc_new w (.cells #[.string ⟨#[]⟩, .string ⟨#[]⟩] 50)
  have HG := Lib.hid (And.intro (noc_asked (h.below B0)) (And.intro B0 q0))
  clear h B0 q0
  go_enter Tryz.func70, Tryz.ntmps70
  go_wp2_with fail
  refine HG.out.1.mono ?_
  rintro e w1 ⟨rfl, e1⟩
  obtain ⟨W, hW⟩ : ∃ W, (w.alloc (.cells #[.string ⟨#[]⟩, .string ⟨#[]⟩] 50)) = W := ⟨_, rfl⟩
  have q1 : w1.heap[w.heap.size]? = _ := e1 ▸ HG.out.2.2
  have B1 : Below w.heap.size w w1 := e1 ▸ HG.out.2.1
  clear e1 hW
  have c0 : (w1).cell? ⟨w.heap.size, 0, none⟩ = some (.string ⟨#[]⟩) := by rw [cell_of_block q1]; rfl
  have c1 : (w1).cell? ⟨w.heap.size, 1, none⟩ = some (.string ⟨#[]⟩) := by rw [cell_of_block q1]; rfl
  have f0 : (w1).frozen? ⟨w.heap.size, 0, none⟩ = false := frozen_of_block q1
  have f1 : (w1).frozen? ⟨w.heap.size, 1, none⟩ = false := frozen_of_block q1
  have q2 := st2_heap q1 (.string ⟨#[]⟩) (.string ⟨#[]⟩)
  have B2 := st2_below B1 (Nat.le_refl _) (.string ⟨#[]⟩) (.string ⟨#[]⟩)
  have HB := Lib.hid (And.intro q2 B2)
  clear B1 q1 q2 B2
  go_wp2_with fail
  obtain ⟨q2, B2⟩ := HB.out
  generalize ((w1.setCell ⟨w.heap.size, 0, none⟩ (.string ⟨#[]⟩)).setCell ⟨w.heap.size, 1, none⟩ (.string ⟨#[]⟩)) = w2 at *
  have e0 : (w2).cell? ⟨w.heap.size, 0, none⟩ = some (.string ⟨#[]⟩) := by rw [cell_of_block q2]; rfl
  have e1 : (w2).cell? ⟨w.heap.size, 1, none⟩ = some (.string ⟨#[]⟩) := by rw [cell_of_block q2]; rfl
  exact bodyPost_ret (v := .tuple #[.agg #[.string ⟨#[]⟩, .string ⟨#[]⟩], .int .i64 1]) (by simp [results, Tryz.f70, go_sem, e0, e1]) rfl ⟨rfl, B2⟩

set_option maxRecDepth 100000 in
set_option maxHeartbeats 400000 in
theorem noc_prev {w : World} {v : Value} (h : NoC w v) :
    Calls Tryz.prog 71 #[v] w fun e w' => e = .returned (.tuple #[.agg #[.string ⟨#[]⟩, .string ⟨#[]⟩], .int .i64 1]) ∧ Below w.heap.size w w' := by
  have B0 := (Below.refl w.heap.size w).alloc (Nat.le_refl _) (.cells #[.string ⟨#[]⟩, .string ⟨#[]⟩] 50)
  have q0 := heap_alloc_new w (.cells #[.string ⟨#[]⟩, .string ⟨#[]⟩] 50)
  have HG := Lib.hid (And.intro (noc_asked (h.below B0)) (And.intro B0 q0))
  clear h B0 q0
  go_enter Tryz.func71, Tryz.ntmps71
  go_wp2_with fail
  refine HG.out.1.mono ?_
  rintro e w1 ⟨rfl, e1⟩
  obtain ⟨W, hW⟩ : ∃ W, (w.alloc (.cells #[.string ⟨#[]⟩, .string ⟨#[]⟩] 50)) = W := ⟨_, rfl⟩
  have q1 : w1.heap[w.heap.size]? = _ := e1 ▸ HG.out.2.2
  have B1 : Below w.heap.size w w1 := e1 ▸ HG.out.2.1
  clear e1 hW
  have c0 : (w1).cell? ⟨w.heap.size, 0, none⟩ = some (.string ⟨#[]⟩) := by rw [cell_of_block q1]; rfl
  have c1 : (w1).cell? ⟨w.heap.size, 1, none⟩ = some (.string ⟨#[]⟩) := by rw [cell_of_block q1]; rfl
  have f0 : (w1).frozen? ⟨w.heap.size, 0, none⟩ = false := frozen_of_block q1
  have f1 : (w1).frozen? ⟨w.heap.size, 1, none⟩ = false := frozen_of_block q1
  have q2 := st2_heap q1 (.string ⟨#[]⟩) (.string ⟨#[]⟩)
  have B2 := st2_below B1 (Nat.le_refl _) (.string ⟨#[]⟩) (.string ⟨#[]⟩)
  have HB := Lib.hid (And.intro q2 B2)
  clear B1 q1 q2 B2
  go_wp2_with fail
  obtain ⟨q2, B2⟩ := HB.out
  generalize ((w1.setCell ⟨w.heap.size, 0, none⟩ (.string ⟨#[]⟩)).setCell ⟨w.heap.size, 1, none⟩ (.string ⟨#[]⟩)) = w2 at *
  have e0 : (w2).cell? ⟨w.heap.size, 0, none⟩ = some (.string ⟨#[]⟩) := by rw [cell_of_block q2]; rfl
  have e1 : (w2).cell? ⟨w.heap.size, 1, none⟩ = some (.string ⟨#[]⟩) := by rw [cell_of_block q2]; rfl
  exact bodyPost_ret (v := .tuple #[.agg #[.string ⟨#[]⟩, .string ⟨#[]⟩], .int .i64 1]) (by simp [results, Tryz.f71, go_sem, e0, e1]) rfl ⟨rfl, B2⟩

set_option maxRecDepth 100000 in
set_option maxHeartbeats 400000 in
theorem cursor_open_nil (w : World) :
    Calls Tryz.prog 68 #[.pointer none] w fun e w' => e = .returned (.tuple #[.pointer none, .int .i64 1]) ∧ w = w' := by
  have HG := Lib.hid (no_store (w := w) (v := .pointer none) (Or.inl rfl))
  go_enter Tryz.func68, Tryz.ntmps68
  go_wp2_with fail
  refine HG.out.mono ?_
  rintro e w1 ⟨rfl, rfl⟩
  go_wp2_with fail
  go_ret2
  exact ⟨rfl, rfl⟩
end Go.Proofs.YtoaabbnieakidaaGreatDoorR

namespace Go.Proofs.YtoaabbnieakidaaGreatDoorR
open Go.RowKit Go.BigFrame Go.Maps Go.WideMaps Lf
open Go.Shelf
attribute [local go_sem] Oper.semAt_some

theorem downM_lt (S : St) (k : List UInt8) : ∀ (f root below : Nat) {R : Nat × Nat}, below < 4611686018427387904 → downM S k f root below = some R → R.2 < 4611686018427387904
  | 0, _, _, R, hb, h => by
    rw [downM_zero] at h
    have h := Option.some.inj h
    rw [← h]
    exact hb
  | f + 1, root, below, R, hb, h => by
    rw [downM_succ] at h
    split at h
    · have h := Option.some.inj h
      rw [← h]
      exact hb
    split at h
    · have h := Option.some.inj h
      rw [← h]
      exact hb
    split at h
    · cases h
    split at h
    · exact downM_lt S k f _ _ hb h
    split at h
    · cases h
    split at h
    · split at h
      · cases h
      · rename_i b hn
        exact downM_lt S k f _ _ (by have := num_some hn; omega) h
    · split at h
      · cases h
      · rename_i b hn
        have h := Option.some.inj h
        rw [← h]
        have := num_some hn
        simp only
        omega
theorem rankM_lt {S : St} {root : Nat} {k : List UInt8} {z : Nat} (h : rankM S root k = some z) : z < 4611686018427387904 := by
  unfold rankM at h
  obtain ⟨R, h1, h2⟩ := Option.map_eq_some_iff.1 h
  have := downM_lt S k _ _ _ (by decide) h1
  omega
end Go.Proofs.YtoaabbnieakidaaGreatDoorR
