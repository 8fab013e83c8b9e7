/- A map that is not there, or that nobody made: the walks. How large a rank may be: plain. -/
import Derived.Test.YtepdkbmnkjfcpaaGreatDoorGbk
namespace Go.Proofs.YtepdkbmnkjfcpaaGreatDoor
open Go.RowKit Go.BigFrame Go.Maps Go.WideMaps Lf

/-- no map: nil, or one that nobody made -/
def NoM (w : World) (v : Value) : Prop := v = .pointer none ∨ ∃ pm, v = PV pm ∧ w.heap[pm]? = some (.cells #[.pointer none, .pointer none, .int .i64 0] 66)
theorem NoM.below {w w' : World} {v : Value} (h : NoM w v) (hb : Below w.heap.size w w') : NoM w' v := h.imp id fun ⟨pm, e, hp⟩ => ⟨pm, e, (hb.block pm (Array.getElem?_eq_some_iff.1 hp).1).trans hp⟩

set_option maxRecDepth 100000 in
set_option maxHeartbeats 400000 in
theorem map_none_no {w : World} {v : Value} (h : NoM w v) :
    Calls Tryz.prog 79 #[v] w fun e w' => e = .returned (.bool true) ∧ w = w' := by
  rcases h with rfl | ⟨pm, rfl, hM⟩
  · exact map_none_nil w
  ·
    have c0 : (w).cell? ⟨pm, 0, none⟩ = some (.pointer none) := by rw [cell_of_block hM]; rfl
    have c1 : (w).cell? ⟨pm, 1, none⟩ = some (.pointer none) := by rw [cell_of_block hM]; rfl
    have c2 : (w).cell? ⟨pm, 2, none⟩ = some (.int .i64 0) := by rw [cell_of_block hM]; rfl
    clear hM
    go_enter Tryz.func79, Tryz.ntmps79
    go_wp2_with fail
    go_ret
    exact ⟨rfl, rfl⟩

set_option maxRecDepth 100000 in
set_option maxHeartbeats 400000 in
theorem no_asked {w : World} {v : Value} (h : NoM w v) (a b : List UInt8) :
    Calls Tryz.prog 78 #[v, SV a, SV b] w fun e w' => e = .returned (.int .i64 1) ∧ w = w' := by
  have HG := Lib.hid (map_none_no h)
  clear h
  go_enter Tryz.func78, Tryz.ntmps78
  go_wp2_with fail
  refine HG.out.mono ?_
  rintro e w1 ⟨rfl, rfl⟩
  go_wp2_with fail
  go_ret
  exact ⟨rfl, rfl⟩

set_option maxRecDepth 100000 in
set_option maxHeartbeats 400000 in
theorem no_put {w : World} {v : Value} (h : NoM w v) (a b : List UInt8) :
    Calls Tryz.prog 30 #[v, SV a, SV b] w fun e w' => e = .returned (.tuple #[.string ⟨#[]⟩, .bool false, .int .i64 1]) ∧ w = w' := by
  have HG := Lib.hid (no_asked h a b)
  clear h
  go_enter Tryz.func30, Tryz.ntmps30
  go_wp2_with fail
  refine HG.out.mono ?_
  rintro e w1 ⟨rfl, rfl⟩
  go_wp2_with fail
  go_ret3
  exact ⟨rfl, rfl⟩

set_option maxRecDepth 100000 in
set_option maxHeartbeats 400000 in
theorem no_absent {w : World} {v : Value} (h : NoM w v) (a b : List UInt8) :
    Calls Tryz.prog 40 #[v, SV a, SV b] w fun e w' => e = .returned (.int .i64 1) ∧ w = w' := by
  have HG := Lib.hid (no_asked h a b)
  clear h
  go_enter Tryz.func40, Tryz.ntmps40
  go_wp2_with fail
  refine HG.out.mono ?_
  rintro e w1 ⟨rfl, rfl⟩
  go_wp2_with fail
  go_ret
  exact ⟨rfl, rfl⟩

set_option maxRecDepth 100000 in
set_option maxHeartbeats 400000 in
theorem no_get {w : World} {v : Value} (h : NoM w v) (a : List UInt8) :
    Calls Tryz.prog 31 #[v, SV a] w fun e w' => e = .returned (.tuple #[.string ⟨#[]⟩, .int .i64 1]) ∧ w = w' := by
  have HG := Lib.hid (map_none_no h)
  clear h
  go_enter Tryz.func31, Tryz.ntmps31
  go_wp2_with fail
  refine HG.out.mono ?_
  rintro e w1 ⟨rfl, rfl⟩
  go_wp2_with fail
  go_ret2
  exact ⟨rfl, rfl⟩

set_option maxRecDepth 100000 in
set_option maxHeartbeats 400000 in
theorem no_delete {w : World} {v : Value} (h : NoM w v) (a : List UInt8) :
    Calls Tryz.prog 32 #[v, SV a] w fun e w' => e = .returned (.tuple #[.string ⟨#[]⟩, .int .i64 1]) ∧ w = w' := by
  have HG := Lib.hid (map_none_no h)
  clear h
  go_enter Tryz.func32, Tryz.ntmps32
  go_wp2_with fail
  refine HG.out.mono ?_
  rintro e w1 ⟨rfl, rfl⟩
  go_wp2_with fail
  go_ret2
  exact ⟨rfl, rfl⟩

set_option maxRecDepth 100000 in
set_option maxHeartbeats 400000 in
theorem no_clear {w : World} {v : Value} (h : NoM w v)  :
    Calls Tryz.prog 41 #[v] w fun e w' => e = .returned (.int .i64 1) ∧ w = w' := by
  have HG := Lib.hid (map_none_no h)
  clear h
  go_enter Tryz.func41, Tryz.ntmps41
  go_wp2_with fail
  refine HG.out.mono ?_
  rintro e w1 ⟨rfl, rfl⟩
  go_wp2_with fail
  go_ret
  exact ⟨rfl, rfl⟩

set_option maxRecDepth 100000 in
set_option maxHeartbeats 400000 in
theorem no_len {w : World} {v : Value} (h : NoM w v)  :
    Calls Tryz.prog 43 #[v] w fun e w' => e = .returned (.int .i64 0) ∧ w = w' := by
  have HG := Lib.hid (map_none_no h)
  clear h
  go_enter Tryz.func43, Tryz.ntmps43
  go_wp2_with fail
  refine HG.out.mono ?_
  rintro e w1 ⟨rfl, rfl⟩
  go_wp2_with fail
  go_ret
  exact ⟨rfl, rfl⟩

set_option maxRecDepth 100000 in
set_option maxHeartbeats 400000 in
theorem no_limit {w : World} {v : Value} (h : NoM w v)  :
    Calls Tryz.prog 44 #[v] w fun e w' => e = .returned (.int .i64 0) ∧ w = w' := by
  have HG := Lib.hid (map_none_no h)
  clear h
  go_enter Tryz.func44, Tryz.ntmps44
  go_wp2_with fail
  refine HG.out.mono ?_
  rintro e w1 ⟨rfl, rfl⟩
  go_wp2_with fail
  go_ret
  exact ⟨rfl, rfl⟩

set_option maxRecDepth 100000 in
set_option maxHeartbeats 400000 in
theorem no_rank {w : World} {v : Value} (h : NoM w v) (a : List UInt8) :
    Calls Tryz.prog 42 #[v, SV a] w fun e w' => e = .returned (.int .i64 0) ∧ w = w' := by
  have HG := Lib.hid (map_none_no h)
  clear h
  go_enter Tryz.func42, Tryz.ntmps42
  go_wp2_with fail
  refine HG.out.mono ?_
  rintro e w1 ⟨rfl, rfl⟩
  go_wp2_with fail
  go_ret
  exact ⟨rfl, rfl⟩

set_option maxRecDepth 100000 in
set_option maxHeartbeats 400000 in
theorem no_tree {w : World} {v : Value} (h : NoM w v)  :
    Calls Tryz.prog 45 #[v] w fun e w' => e = .returned (.pointer none) ∧ w = w' := by
  have HG := Lib.hid (map_none_no h)
  clear h
  go_enter Tryz.func45, Tryz.ntmps45
  go_wp2_with fail
  refine HG.out.mono ?_
  rintro e w1 ⟨rfl, rfl⟩
  go_wp2_with fail
  go_ret
  exact ⟨rfl, rfl⟩

set_option maxRecDepth 100000 in
set_option maxHeartbeats 400000 in
theorem no_store {w : World} {v : Value} (h : NoM w v)  :
    Calls Tryz.prog 46 #[v] w fun e w' => e = .returned (.pointer none) ∧ w = w' := by
  have HG := Lib.hid (map_none_no h)
  clear h
  go_enter Tryz.func46, Tryz.ntmps46
  go_wp2_with fail
  refine HG.out.mono ?_
  rintro e w1 ⟨rfl, rfl⟩
  go_wp2_with fail
  go_ret
  exact ⟨rfl, rfl⟩

set_option maxRecDepth 100000 in
set_option maxHeartbeats 400000 in
theorem no_at {w : World} {v : Value} (h : NoM w v) (pl : Value) (a : List UInt8) :
    Calls Tryz.prog 80 #[v, pl, SV a] w fun e w' => e = .returned (.tuple #[.agg #[.string ⟨#[]⟩, .string ⟨#[]⟩], .int .i64 1]) ∧ Below w.heap.size w w' := by
  have B0 := (Below.refl w.heap.size w).alloc (Nat.le_refl _) (.cells #[.string ⟨#[]⟩, .string ⟨#[]⟩] 38)
  have HG := Lib.hid (And.intro (map_none_no (h.below B0)) B0)
  clear h B0
  go_enter Tryz.func80, Tryz.ntmps80
  go_wp2_with fail
  refine HG.out.1.mono ?_
  rintro e w1 ⟨rfl, rfl⟩
  go_wp2_with fail
  exact bodyPost_ret (v := .tuple #[.agg #[.string ⟨#[]⟩, .string ⟨#[]⟩], .int .i64 1]) (by simp [results, Tryz.f80, go_sem]) rfl ⟨rfl, HG.out.2⟩

set_option maxRecDepth 100000 in
set_option maxHeartbeats 400000 in
theorem no_select {w : World} {v : Value} (h : NoM w v) (k : Int) :
    Calls Tryz.prog 37 #[v, .int .i64 k] w fun e w' => e = .returned (.tuple #[.agg #[.string ⟨#[]⟩, .string ⟨#[]⟩], .int .i64 1]) ∧ Below w.heap.size w w' := by
  have B0 := (Below.refl w.heap.size w).alloc (Nat.le_refl _) (.cells #[.string ⟨#[]⟩, .string ⟨#[]⟩] 38)
  have HG := Lib.hid (And.intro (map_none_no (h.below B0)) B0)
  clear h B0
  go_enter Tryz.func37, Tryz.ntmps37
  go_wp2_with fail
  refine HG.out.1.mono ?_
  rintro e w1 ⟨rfl, rfl⟩
  go_wp2_with fail
  exact bodyPost_ret (v := .tuple #[.agg #[.string ⟨#[]⟩, .string ⟨#[]⟩], .int .i64 1]) (by simp [results, Tryz.f37, go_sem]) rfl ⟨rfl, HG.out.2⟩

set_option maxRecDepth 100000 in
set_option maxHeartbeats 400000 in
theorem no_min {w : World} {v : Value} (h : NoM w v)  :
    Calls Tryz.prog 33 #[v] w fun e w' => e = .returned (.tuple #[.agg #[.string ⟨#[]⟩, .string ⟨#[]⟩], .int .i64 1]) ∧ Below w.heap.size w w' := by
  have B0 := (Below.refl w.heap.size w).alloc (Nat.le_refl _) (.cells #[.string ⟨#[]⟩, .string ⟨#[]⟩] 38)
  have q0 := heap_alloc_new w (.cells #[.string ⟨#[]⟩, .string ⟨#[]⟩] 38)
  have HG := Lib.hid (And.intro (no_at (h.below B0) (.func (.func 81) #[] #[]) []) (And.intro B0 q0))
  clear h B0 q0
  go_enter Tryz.func33, Tryz.ntmps33
  go_wp2_with fail
  refine HG.out.1.mono ?_
  rintro e w1 ⟨rfl, hb⟩
  have q1 := (hb.block w.heap.size (by simp)).trans HG.out.2.2
  have c0 : (w1).cell? ⟨w.heap.size, 0, none⟩ = some (.string ⟨#[]⟩) := by rw [cell_of_block q1]; rfl
  have c1 : (w1).cell? ⟨w.heap.size, 1, none⟩ = some (.string ⟨#[]⟩) := by rw [cell_of_block q1]; rfl
  have f0 : (w1).frozen? ⟨w.heap.size, 0, none⟩ = false := frozen_of_block q1
  have f1 : (w1).frozen? ⟨w.heap.size, 1, none⟩ = false := frozen_of_block q1
  have q2 := st2_heap q1 (.string ⟨#[]⟩) (.string ⟨#[]⟩)
  have B2 := st2_below (HG.out.2.1.trans (hb.mono HG.out.2.1.size)) (Nat.le_refl _) (.string ⟨#[]⟩) (.string ⟨#[]⟩)
  have HB := Lib.hid (And.intro q2 B2)
  clear hb q1 q2 B2
  go_wp2_with fail
  obtain ⟨q2, B2⟩ := HB.out
  generalize ((w1.setCell ⟨w.heap.size, 0, none⟩ (.string ⟨#[]⟩)).setCell ⟨w.heap.size, 1, none⟩ (.string ⟨#[]⟩)) = w2 at *
  have e0 : (w2).cell? ⟨w.heap.size, 0, none⟩ = some (.string ⟨#[]⟩) := by rw [cell_of_block q2]; rfl
  have e1 : (w2).cell? ⟨w.heap.size, 1, none⟩ = some (.string ⟨#[]⟩) := by rw [cell_of_block q2]; rfl
  exact bodyPost_ret (v := .tuple #[.agg #[.string ⟨#[]⟩, .string ⟨#[]⟩], .int .i64 1]) (by simp [results, Tryz.f33, go_sem, e0, e1]) rfl ⟨rfl, B2⟩

set_option maxRecDepth 100000 in
set_option maxHeartbeats 400000 in
theorem no_max {w : World} {v : Value} (h : NoM w v)  :
    Calls Tryz.prog 34 #[v] w fun e w' => e = .returned (.tuple #[.agg #[.string ⟨#[]⟩, .string ⟨#[]⟩], .int .i64 1]) ∧ Below w.heap.size w w' := by
  have B0 := (Below.refl w.heap.size w).alloc (Nat.le_refl _) (.cells #[.string ⟨#[]⟩, .string ⟨#[]⟩] 38)
  have q0 := heap_alloc_new w (.cells #[.string ⟨#[]⟩, .string ⟨#[]⟩] 38)
  have HG := Lib.hid (And.intro (no_at (h.below B0) (.func (.func 82) #[] #[]) []) (And.intro B0 q0))
  clear h B0 q0
  go_enter Tryz.func34, Tryz.ntmps34
  go_wp2_with fail
  refine HG.out.1.mono ?_
  rintro e w1 ⟨rfl, hb⟩
  have q1 := (hb.block w.heap.size (by simp)).trans HG.out.2.2
  have c0 : (w1).cell? ⟨w.heap.size, 0, none⟩ = some (.string ⟨#[]⟩) := by rw [cell_of_block q1]; rfl
  have c1 : (w1).cell? ⟨w.heap.size, 1, none⟩ = some (.string ⟨#[]⟩) := by rw [cell_of_block q1]; rfl
  have f0 : (w1).frozen? ⟨w.heap.size, 0, none⟩ = false := frozen_of_block q1
  have f1 : (w1).frozen? ⟨w.heap.size, 1, none⟩ = false := frozen_of_block q1
  have q2 := st2_heap q1 (.string ⟨#[]⟩) (.string ⟨#[]⟩)
  have B2 := st2_below (HG.out.2.1.trans (hb.mono HG.out.2.1.size)) (Nat.le_refl _) (.string ⟨#[]⟩) (.string ⟨#[]⟩)
  have HB := Lib.hid (And.intro q2 B2)
  clear hb q1 q2 B2
  go_wp2_with fail
  obtain ⟨q2, B2⟩ := HB.out
  generalize ((w1.setCell ⟨w.heap.size, 0, none⟩ (.string ⟨#[]⟩)).setCell ⟨w.heap.size, 1, none⟩ (.string ⟨#[]⟩)) = w2 at *
  have e0 : (w2).cell? ⟨w.heap.size, 0, none⟩ = some (.string ⟨#[]⟩) := by rw [cell_of_block q2]; rfl
  have e1 : (w2).cell? ⟨w.heap.size, 1, none⟩ = some (.string ⟨#[]⟩) := by rw [cell_of_block q2]; rfl
  exact bodyPost_ret (v := .tuple #[.agg #[.string ⟨#[]⟩, .string ⟨#[]⟩], .int .i64 1]) (by simp [results, Tryz.f34, go_sem, e0, e1]) rfl ⟨rfl, B2⟩

set_option maxRecDepth 100000 in
set_option maxHeartbeats 400000 in
theorem no_floor {w : World} {v : Value} (h : NoM w v) (a : List UInt8) :
    Calls Tryz.prog 35 #[v, SV a] w fun e w' => e = .returned (.tuple #[.agg #[.string ⟨#[]⟩, .string ⟨#[]⟩], .int .i64 1]) ∧ Below w.heap.size w w' := by
  have B0 := (Below.refl w.heap.size w).alloc (Nat.le_refl _) (.cells #[.string ⟨#[]⟩, .string ⟨#[]⟩] 38)
  have q0 := heap_alloc_new w (.cells #[.string ⟨#[]⟩, .string ⟨#[]⟩] 38)
  have HG := Lib.hid (And.intro (no_at (h.below B0) (.func (.func 83) #[] #[]) a) (And.intro B0 q0))
  clear h B0 q0
  go_enter Tryz.func35, Tryz.ntmps35
  go_wp2_with fail
  refine HG.out.1.mono ?_
  rintro e w1 ⟨rfl, hb⟩
  have q1 := (hb.block w.heap.size (by simp)).trans HG.out.2.2
  have c0 : (w1).cell? ⟨w.heap.size, 0, none⟩ = some (.string ⟨#[]⟩) := by rw [cell_of_block q1]; rfl
  have c1 : (w1).cell? ⟨w.heap.size, 1, none⟩ = some (.string ⟨#[]⟩) := by rw [cell_of_block q1]; rfl
  have f0 : (w1).frozen? ⟨w.heap.size, 0, none⟩ = false := frozen_of_block q1
  have f1 : (w1).frozen? ⟨w.heap.size, 1, none⟩ = false := frozen_of_block q1
  have q2 := st2_heap q1 (.string ⟨#[]⟩) (.string ⟨#[]⟩)
  have B2 := st2_below (HG.out.2.1.trans (hb.mono HG.out.2.1.size)) (Nat.le_refl _) (.string ⟨#[]⟩) (.string ⟨#[]⟩)
  have HB := Lib.hid (And.intro q2 B2)
  clear hb q1 q2 B2
  go_wp2_with fail
  obtain ⟨q2, B2⟩ := HB.out
  generalize ((w1.setCell ⟨w.heap.size, 0, none⟩ (.string ⟨#[]⟩)).setCell ⟨w.heap.size, 1, none⟩ (.string ⟨#[]⟩)) = w2 at *
  have e0 : (w2).cell? ⟨w.heap.size, 0, none⟩ = some (.string ⟨#[]⟩) := by rw [cell_of_block q2]; rfl
  have e1 : (w2).cell? ⟨w.heap.size, 1, none⟩ = some (.string ⟨#[]⟩) := by rw [cell_of_block q2]; rfl
  exact bodyPost_ret (v := .tuple #[.agg #[.string ⟨#[]⟩, .string ⟨#[]⟩], .int .i64 1]) (by simp [results, Tryz.f35, go_sem, e0, e1]) rfl ⟨rfl, B2⟩

set_option maxRecDepth 100000 in
set_option maxHeartbeats 400000 in
theorem no_ceiling {w : World} {v : Value} (h : NoM w v) (a : List UInt8) :
    Calls Tryz.prog 36 #[v, SV a] w fun e w' => e = .returned (.tuple #[.agg #[.string ⟨#[]⟩, .string ⟨#[]⟩], .int .i64 1]) ∧ Below w.heap.size w w' := by
  have B0 := (Below.refl w.heap.size w).alloc (Nat.le_refl _) (.cells #[.string ⟨#[]⟩, .string ⟨#[]⟩] 38)
  have q0 := heap_alloc_new w (.cells #[.string ⟨#[]⟩, .string ⟨#[]⟩] 38)
  have HG := Lib.hid (And.intro (no_at (h.below B0) (.func (.func 42) #[] #[]) a) (And.intro B0 q0))
  clear h B0 q0
  go_enter Tryz.func36, Tryz.ntmps36
  go_wp2_with fail
  refine HG.out.1.mono ?_
  rintro e w1 ⟨rfl, hb⟩
  have q1 := (hb.block w.heap.size (by simp)).trans HG.out.2.2
  have c0 : (w1).cell? ⟨w.heap.size, 0, none⟩ = some (.string ⟨#[]⟩) := by rw [cell_of_block q1]; rfl
  have c1 : (w1).cell? ⟨w.heap.size, 1, none⟩ = some (.string ⟨#[]⟩) := by rw [cell_of_block q1]; rfl
  have f0 : (w1).frozen? ⟨w.heap.size, 0, none⟩ = false := frozen_of_block q1
  have f1 : (w1).frozen? ⟨w.heap.size, 1, none⟩ = false := frozen_of_block q1
  have q2 := st2_heap q1 (.string ⟨#[]⟩) (.string ⟨#[]⟩)
  have B2 := st2_below (HG.out.2.1.trans (hb.mono HG.out.2.1.size)) (Nat.le_refl _) (.string ⟨#[]⟩) (.string ⟨#[]⟩)
  have HB := Lib.hid (And.intro q2 B2)
  clear hb q1 q2 B2
  go_wp2_with fail
  obtain ⟨q2, B2⟩ := HB.out
  generalize ((w1.setCell ⟨w.heap.size, 0, none⟩ (.string ⟨#[]⟩)).setCell ⟨w.heap.size, 1, none⟩ (.string ⟨#[]⟩)) = w2 at *
  have e0 : (w2).cell? ⟨w.heap.size, 0, none⟩ = some (.string ⟨#[]⟩) := by rw [cell_of_block q2]; rfl
  have e1 : (w2).cell? ⟨w.heap.size, 1, none⟩ = some (.string ⟨#[]⟩) := by rw [cell_of_block q2]; rfl
  exact bodyPost_ret (v := .tuple #[.agg #[.string ⟨#[]⟩, .string ⟨#[]⟩], .int .i64 1]) (by simp [results, Tryz.f36, go_sem, e0, e1]) rfl ⟨rfl, B2⟩

set_option maxRecDepth 100000 in
set_option maxHeartbeats 400000 in
/-- a pair that was not found is not popped -/
theorem pop_no (v : Value) (w : World) :
    Calls Tryz.prog 84 #[v, .agg #[.string ⟨#[]⟩, .string ⟨#[]⟩], .int .i64 1] w fun e w' => e = .returned (.tuple #[.agg #[.string ⟨#[]⟩, .string ⟨#[]⟩], .int .i64 1]) ∧ Below w.heap.size w w' := by
  go_enter Tryz.func84, Tryz.ntmps84
  go_wp2_with fail
  exact bodyPost_ret (v := .tuple #[.agg #[.string ⟨#[]⟩, .string ⟨#[]⟩], .int .i64 1]) (by simp [results, Tryz.f84, go_sem]) rfl ⟨rfl, ((Below.refl _ w).alloc (Nat.le_refl _) _).alloc (by simp) _⟩

set_option maxRecDepth 100000 in
set_option maxHeartbeats 400000 in
theorem no_popmin {w : World} {v : Value} (h : NoM w v) :
    Calls Tryz.prog 38 #[v] w fun e w' => e = .returned (.tuple #[.agg #[.string ⟨#[]⟩, .string ⟨#[]⟩], .int .i64 1]) ∧ Below w.heap.size w w' := by
  have B0 := (Below.refl w.heap.size w).alloc (Nat.le_refl _) (.cells #[.string ⟨#[]⟩, .string ⟨#[]⟩] 38)
  have q0 := heap_alloc_new w (.cells #[.string ⟨#[]⟩, .string ⟨#[]⟩] 38)
  have HG := Lib.hid (And.intro (no_min (h.below B0)) (And.intro B0 q0))
  clear h B0 q0
  go_enter Tryz.func38, Tryz.ntmps38
  go_wp2_with fail
  refine HG.out.1.mono ?_
  rintro e w0 ⟨rfl, hb0⟩
  have HZ := Lib.hid (And.intro (HG.out.2.1.trans (hb0.mono HG.out.2.1.size)) ((hb0.block w.heap.size (by simp)).trans HG.out.2.2))
  clear hb0
  go_wp2_with fail
  refine (pop_no _ _).mono ?_
  rintro e w1 ⟨rfl, hb⟩
  have q1 := (hb.block w.heap.size (Array.getElem?_eq_some_iff.1 HZ.out.2).1).trans HZ.out.2
  have c0 : (w1).cell? ⟨w.heap.size, 0, none⟩ = some (.string ⟨#[]⟩) := by rw [cell_of_block q1]; rfl
  have c1 : (w1).cell? ⟨w.heap.size, 1, none⟩ = some (.string ⟨#[]⟩) := by rw [cell_of_block q1]; rfl
  have f0 : (w1).frozen? ⟨w.heap.size, 0, none⟩ = false := frozen_of_block q1
  have f1 : (w1).frozen? ⟨w.heap.size, 1, none⟩ = false := frozen_of_block q1
  have q2 := st2_heap q1 (.string ⟨#[]⟩) (.string ⟨#[]⟩)
  have B2 := st2_below (HZ.out.1.trans (hb.mono HZ.out.1.size)) (Nat.le_refl _) (.string ⟨#[]⟩) (.string ⟨#[]⟩)
  have HB := Lib.hid (And.intro q2 B2)
  clear hb q1 q2 B2
  go_wp2_with fail
  obtain ⟨q2, B2⟩ := HB.out
  generalize ((w1.setCell ⟨w.heap.size, 0, none⟩ (.string ⟨#[]⟩)).setCell ⟨w.heap.size, 1, none⟩ (.string ⟨#[]⟩)) = w2 at *
  have e0 : (w2).cell? ⟨w.heap.size, 0, none⟩ = some (.string ⟨#[]⟩) := by rw [cell_of_block q2]; rfl
  have e1 : (w2).cell? ⟨w.heap.size, 1, none⟩ = some (.string ⟨#[]⟩) := by rw [cell_of_block q2]; rfl
  exact bodyPost_ret (v := .tuple #[.agg #[.string ⟨#[]⟩, .string ⟨#[]⟩], .int .i64 1]) (by simp [results, Tryz.f38, go_sem, e0, e1]) rfl ⟨rfl, B2⟩

set_option maxRecDepth 100000 in
set_option maxHeartbeats 400000 in
theorem no_popmax {w : World} {v : Value} (h : NoM w v) :
    Calls Tryz.prog 39 #[v] w fun e w' => e = .returned (.tuple #[.agg #[.string ⟨#[]⟩, .string ⟨#[]⟩], .int .i64 1]) ∧ Below w.heap.size w w' := by
  have B0 := (Below.refl w.heap.size w).alloc (Nat.le_refl _) (.cells #[.string ⟨#[]⟩, .string ⟨#[]⟩] 38)
  have q0 := heap_alloc_new w (.cells #[.string ⟨#[]⟩, .string ⟨#[]⟩] 38)
  have HG := Lib.hid (And.intro (no_max (h.below B0)) (And.intro B0 q0))
  clear h B0 q0
  go_enter Tryz.func39, Tryz.ntmps39
  go_wp2_with fail
  refine HG.out.1.mono ?_
  rintro e w0 ⟨rfl, hb0⟩
  have HZ := Lib.hid (And.intro (HG.out.2.1.trans (hb0.mono HG.out.2.1.size)) ((hb0.block w.heap.size (by simp)).trans HG.out.2.2))
  clear hb0
  go_wp2_with fail
  refine (pop_no _ _).mono ?_
  rintro e w1 ⟨rfl, hb⟩
  have q1 := (hb.block w.heap.size (Array.getElem?_eq_some_iff.1 HZ.out.2).1).trans HZ.out.2
  have c0 : (w1).cell? ⟨w.heap.size, 0, none⟩ = some (.string ⟨#[]⟩) := by rw [cell_of_block q1]; rfl
  have c1 : (w1).cell? ⟨w.heap.size, 1, none⟩ = some (.string ⟨#[]⟩) := by rw [cell_of_block q1]; rfl
  have f0 : (w1).frozen? ⟨w.heap.size, 0, none⟩ = false := frozen_of_block q1
  have f1 : (w1).frozen? ⟨w.heap.size, 1, none⟩ = false := frozen_of_block q1
  have q2 := st2_heap q1 (.string ⟨#[]⟩) (.string ⟨#[]⟩)
  have B2 := st2_below (HZ.out.1.trans (hb.mono HZ.out.1.size)) (Nat.le_refl _) (.string ⟨#[]⟩) (.string ⟨#[]⟩)
  have HB := Lib.hid (And.intro q2 B2)
  clear hb q1 q2 B2
  go_wp2_with fail
  obtain ⟨q2, B2⟩ := HB.out
  generalize ((w1.setCell ⟨w.heap.size, 0, none⟩ (.string ⟨#[]⟩)).setCell ⟨w.heap.size, 1, none⟩ (.string ⟨#[]⟩)) = w2 at *
  have e0 : (w2).cell? ⟨w.heap.size, 0, none⟩ = some (.string ⟨#[]⟩) := by rw [cell_of_block q2]; rfl
  have e1 : (w2).cell? ⟨w.heap.size, 1, none⟩ = some (.string ⟨#[]⟩) := by rw [cell_of_block q2]; rfl
  exact bodyPost_ret (v := .tuple #[.agg #[.string ⟨#[]⟩, .string ⟨#[]⟩], .int .i64 1]) (by simp [results, Tryz.f39, go_sem, e0, e1]) rfl ⟨rfl, B2⟩

end Go.Proofs.YtepdkbmnkjfcpaaGreatDoor

namespace Go.Proofs.YtepdkbmnkjfcpaaGreatDoor
open Go.RowKit Go.BigFrame Go.Maps Go.WideMaps Lf
open Go.Shelf
attribute [local go_sem] Oper.semAt_some

theorem downM_lt (S : St) (k : List UInt8) : ∀ (f root below : Nat) {R : Nat × Nat}, below < 4611686018427387904 → downM S k f root below = some R → R.2 < 4611686018427387904
  | 0, _, _, R, hb, h => by
    rw [downM_zero] at h
    have h := Option.some.inj h
    rw [← h]
    exact hb
  | f + 1, root, below, R, hb, h => by
    rw [downM_succ] at h
    split at h
    · have h := Option.some.inj h
      rw [← h]
      exact hb
    split at h
    · have h := Option.some.inj h
      rw [← h]
      exact hb
    split at h
    · cases h
    split at h
    · exact downM_lt S k f _ _ hb h
    split at h
    · cases h
    split at h
    · split at h
      · cases h
      · rename_i b hn
        exact downM_lt S k f _ _ (by have := num_some hn; omega) h
    · split at h
      · cases h
      · rename_i b hn
        have h := Option.some.inj h
        rw [← h]
        have := num_some hn
        simp only
        omega
theorem rankM_lt {S : St} {root : Nat} {k : List UInt8} {z : Nat} (h : rankM S root k = some z) : z < 4611686018427387904 := by
  unfold rankM at h
  obtain ⟨R, h1, h2⟩ := Option.map_eq_some_iff.1 h
  have := downM_lt S k _ _ _ (by decide) h1
  omega
end Go.Proofs.YtepdkbmnkjfcpaaGreatDoor
