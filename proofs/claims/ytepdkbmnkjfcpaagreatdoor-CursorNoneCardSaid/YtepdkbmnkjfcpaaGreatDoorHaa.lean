/- Cursors that are not there, or that nobody made: the walks. Trees taken apart and put together: the last node, two trees, what is asked of a row of roots: the walks. Trees taken apart and put together: what is asked of a row of roots; Delete: the walks. A region that draws its order, inside a round of the wide fence, walked by a plan: it leaves by its end alone. -/
import Derived.Test.YtepdkbmnkjfcpaaGreatDoorGbn
import Derived.Test.YtepdkbmnkjfcpaaGreatDoorGbc
import Derived.Test.YtepdkbmnkjfcpaaGreatDoorGbg
import Derived.Test.YtepdkbmnkjfcpaaGreatDoorGao
namespace Go.Proofs.YtepdkbmnkjfcpaaGreatDoor
open Go.RowKit Go.BigFrame Go.Maps Go.WideMaps Lf

/-- no cursor: nil, or one that nobody made -/
def NoC (w : World) (v : Value) : Prop := v = .pointer none ∨ ∃ pc, v = PV pc ∧ w.heap[pc]? = some (.cells #[.pointer none, .pointer none, .int .u64 0, .int .i64 0] 82)
theorem NoC.below {w w' : World} {v : Value} (h : NoC w v) (hb : Below w.heap.size w w') : NoC w' v := h.imp id fun ⟨pm, e, hp⟩ => ⟨pm, e, (hb.block pm (Array.getElem?_eq_some_iff.1 hp).1).trans hp⟩

set_option maxRecDepth 100000 in
set_option maxHeartbeats 400000 in
theorem noc_asked {w : World} {v : Value} (h : NoC w v) :
    Calls Tryz.prog 87 #[v] w fun e w' => e = .returned (.int .i64 1) ∧ w = w' := by
  rcases h with rfl | ⟨pc, rfl, hC⟩
  · go_enter Tryz.func87, Tryz.ntmps87
    go_wp2_with fail
    go_ret
    exact ⟨rfl, rfl⟩
  ·
    have c0 : (w).cell? ⟨pc, 0, none⟩ = some (.pointer none) := by rw [cell_of_block hC]; rfl
    have c1 : (w).cell? ⟨pc, 1, none⟩ = some (.pointer none) := by rw [cell_of_block hC]; rfl
    have c2 : (w).cell? ⟨pc, 2, none⟩ = some (.int .u64 0) := by rw [cell_of_block hC]; rfl
    have c3 : (w).cell? ⟨pc, 3, none⟩ = some (.int .i64 0) := by rw [cell_of_block hC]; rfl
    clear hC
    go_enter Tryz.func87, Tryz.ntmps87
    go_wp2_with fail
    go_ret
    exact ⟨rfl, rfl⟩

set_option maxRecDepth 100000 in
set_option maxHeartbeats 400000 in
theorem noc_end {w : World} {v : Value} (h : NoC w v) (k : Int) :
    Calls Tryz.prog 91 #[v, .int .i64 k] w fun e w' => e = .returned (.int .i64 1) ∧ w = w' := by
  have HG := Lib.hid (noc_asked h)
  clear h
  go_enter Tryz.func91, Tryz.ntmps91
  go_wp2_with fail
  refine HG.out.mono ?_
  rintro e w1 ⟨rfl, rfl⟩
  go_wp2_with fail
  go_ret
  exact ⟨rfl, rfl⟩

set_option maxRecDepth 100000 in
set_option maxHeartbeats 400000 in
theorem noc_seek {w : World} {v : Value} (h : NoC w v) (a : List UInt8) :
    Calls Tryz.prog 53 #[v, SV a] w fun e w' => e = .returned (.int .i64 1) ∧ w = w' := by
  have HG := Lib.hid (noc_asked h)
  clear h
  go_enter Tryz.func53, Tryz.ntmps53
  go_wp2_with fail
  refine HG.out.mono ?_
  rintro e w1 ⟨rfl, rfl⟩
  go_wp2_with fail
  go_ret
  exact ⟨rfl, rfl⟩

set_option maxRecDepth 100000 in
set_option maxHeartbeats 400000 in
theorem noc_first {w : World} {v : Value} (h : NoC w v) :
    Calls Tryz.prog 54 #[v] w fun e w' => e = .returned (.int .i64 1) ∧ w = w' := by
  have HG := Lib.hid (noc_end h 0)
  clear h
  go_enter Tryz.func54, Tryz.ntmps54
  go_wp2_with fail
  refine HG.out.mono ?_
  rintro e w1 ⟨rfl, rfl⟩
  go_wp2_with fail
  go_ret
  exact ⟨rfl, rfl⟩

set_option maxRecDepth 100000 in
set_option maxHeartbeats 400000 in
theorem noc_last {w : World} {v : Value} (h : NoC w v) :
    Calls Tryz.prog 55 #[v] w fun e w' => e = .returned (.int .i64 1) ∧ w = w' := by
  have HG := Lib.hid (noc_end h 2)
  clear h
  go_enter Tryz.func55, Tryz.ntmps55
  go_wp2_with fail
  refine HG.out.mono ?_
  rintro e w1 ⟨rfl, rfl⟩
  go_wp2_with fail
  go_ret
  exact ⟨rfl, rfl⟩

set_option maxRecDepth 100000 in
set_option maxHeartbeats 400000 in
theorem noc_close {w : World} {v : Value} (h : NoC w v) :
    Calls Tryz.prog 56 #[v] w fun e w' => e = .returned (.int .i64 1) ∧ w = w' := by
  have HG := Lib.hid (noc_asked h)
  clear h
  go_enter Tryz.func56, Tryz.ntmps56
  go_wp2_with fail
  refine HG.out.mono ?_
  rintro e w1 ⟨rfl, rfl⟩
  go_wp2_with fail
  go_ret
  exact ⟨rfl, rfl⟩

set_option maxRecDepth 100000 in
set_option maxHeartbeats 400000 in
theorem noc_handle {w : World} {v : Value} (h : NoC w v) :
    Calls Tryz.prog 57 #[v] w fun e w' => e = .returned (.int .u64 0) ∧ w = w' := by
  have HG := Lib.hid (noc_asked h)
  clear h
  go_enter Tryz.func57, Tryz.ntmps57
  go_wp2_with fail
  refine HG.out.mono ?_
  rintro e w1 ⟨rfl, rfl⟩
  go_wp2_with fail
  go_ret
  exact ⟨rfl, rfl⟩

set_option maxRecDepth 100000 in
set_option maxHeartbeats 400000 in
theorem noc_store {w : World} {v : Value} (h : NoC w v) :
    Calls Tryz.prog 58 #[v] w fun e w' => e = .returned (.pointer none) ∧ w = w' := by
  have HG := Lib.hid (noc_asked h)
  clear h
  go_enter Tryz.func58, Tryz.ntmps58
  go_wp2_with fail
  refine HG.out.mono ?_
  rintro e w1 ⟨rfl, rfl⟩
  go_wp2_with fail
  go_ret
  exact ⟨rfl, rfl⟩

set_option maxRecDepth 100000 in
set_option maxHeartbeats 400000 in
theorem noc_key {w : World} {v : Value} (h : NoC w v) :
    Calls Tryz.prog 52 #[v] w fun e w' => e = .returned (.tuple #[.string ⟨#[]⟩, .int .i64 1]) ∧ w = w' := by
  have HG := Lib.hid (noc_asked h)
  clear h
  go_enter Tryz.func52, Tryz.ntmps52
  go_wp2_with fail
  refine HG.out.mono ?_
  rintro e w1 ⟨rfl, rfl⟩
  go_wp2_with fail
  go_ret2
  exact ⟨rfl, rfl⟩

set_option maxRecDepth 100000 in
set_option maxHeartbeats 400000 in
theorem noc_next {w : World} {v : Value} (h : NoC w v) :
    Calls Tryz.prog 50 #[v] w fun e w' => e = .returned (.tuple #[.agg #[.string ⟨#[]⟩, .string ⟨#[]⟩], .int .i64 1]) ∧ Below w.heap.size w w' := by
  have B0 := (Below.refl w.heap.size w).alloc (Nat.le_refl _) (.cells #[.string ⟨#[]⟩, .string ⟨#[]⟩] 38)
  have q0 := heap_alloc_new w (.cells #[.string ⟨#[]⟩, .string ⟨#[]⟩] 38)
  have HG := Lib.hid (And.intro (noc_asked (h.below B0)) (And.intro B0 q0))
  clear h B0 q0
  go_enter Tryz.func50, Tryz.ntmps50
  go_wp2_with fail
  refine HG.out.1.mono ?_
  rintro e w1 ⟨rfl, e1⟩
  obtain ⟨W, hW⟩ : ∃ W, (w.alloc (.cells #[.string ⟨#[]⟩, .string ⟨#[]⟩] 38)) = W := ⟨_, rfl⟩
  have q1 : w1.heap[w.heap.size]? = _ := e1 ▸ HG.out.2.2
  have B1 : Below w.heap.size w w1 := e1 ▸ HG.out.2.1
  clear e1 hW
  have c0 : (w1).cell? ⟨w.heap.size, 0, none⟩ = some (.string ⟨#[]⟩) := by rw [cell_of_block q1]; rfl
  have c1 : (w1).cell? ⟨w.heap.size, 1, none⟩ = some (.string ⟨#[]⟩) := by rw [cell_of_block q1]; rfl
  have f0 : (w1).frozen? ⟨w.heap.size, 0, none⟩ = false := frozen_of_block q1
  have f1 : (w1).frozen? ⟨w.heap.size, 1, none⟩ = false := frozen_of_block q1
  have q2 := st2_heap q1 (.string ⟨#[]⟩) (.string ⟨#[]⟩)
  have B2 := st2_below B1 (Nat.le_refl _) (.string ⟨#[]⟩) (.string ⟨#[]⟩)
  have HB := Lib.hid (And.intro q2 B2)
  clear B1 q1 q2 B2
  go_wp2_with fail
  obtain ⟨q2, B2⟩ := HB.out
  generalize ((w1.setCell ⟨w.heap.size, 0, none⟩ (.string ⟨#[]⟩)).setCell ⟨w.heap.size, 1, none⟩ (.string ⟨#[]⟩)) = w2 at *
  have e0 : (w2).cell? ⟨w.heap.size, 0, none⟩ = some (.string ⟨#[]⟩) := by rw [cell_of_block q2]; rfl
  have e1 : (w2).cell? ⟨w.heap.size, 1, none⟩ = some (.string ⟨#[]⟩) := by rw [cell_of_block q2]; rfl
  exact bodyPost_ret (v := .tuple #[.agg #[.string ⟨#[]⟩, .string ⟨#[]⟩], .int .i64 1]) (by simp [results, Tryz.f50, go_sem, e0, e1]) rfl ⟨rfl, B2⟩

set_option maxRecDepth 100000 in
set_option maxHeartbeats 400000 in
theorem noc_prev {w : World} {v : Value} (h : NoC w v) :
    Calls Tryz.prog 51 #[v] w fun e w' => e = .returned (.tuple #[.agg #[.string ⟨#[]⟩, .string ⟨#[]⟩], .int .i64 1]) ∧ Below w.heap.size w w' := by
  have B0 := (Below.refl w.heap.size w).alloc (Nat.le_refl _) (.cells #[.string ⟨#[]⟩, .string ⟨#[]⟩] 38)
  have q0 := heap_alloc_new w (.cells #[.string ⟨#[]⟩, .string ⟨#[]⟩] 38)
  have HG := Lib.hid (And.intro (noc_asked (h.below B0)) (And.intro B0 q0))
  clear h B0 q0
  go_enter Tryz.func51, Tryz.ntmps51
  go_wp2_with fail
  refine HG.out.1.mono ?_
  rintro e w1 ⟨rfl, e1⟩
  obtain ⟨W, hW⟩ : ∃ W, (w.alloc (.cells #[.string ⟨#[]⟩, .string ⟨#[]⟩] 38)) = W := ⟨_, rfl⟩
  have q1 : w1.heap[w.heap.size]? = _ := e1 ▸ HG.out.2.2
  have B1 : Below w.heap.size w w1 := e1 ▸ HG.out.2.1
  clear e1 hW
  have c0 : (w1).cell? ⟨w.heap.size, 0, none⟩ = some (.string ⟨#[]⟩) := by rw [cell_of_block q1]; rfl
  have c1 : (w1).cell? ⟨w.heap.size, 1, none⟩ = some (.string ⟨#[]⟩) := by rw [cell_of_block q1]; rfl
  have f0 : (w1).frozen? ⟨w.heap.size, 0, none⟩ = false := frozen_of_block q1
  have f1 : (w1).frozen? ⟨w.heap.size, 1, none⟩ = false := frozen_of_block q1
  have q2 := st2_heap q1 (.string ⟨#[]⟩) (.string ⟨#[]⟩)
  have B2 := st2_below B1 (Nat.le_refl _) (.string ⟨#[]⟩) (.string ⟨#[]⟩)
  have HB := Lib.hid (And.intro q2 B2)
  clear B1 q1 q2 B2
  go_wp2_with fail
  obtain ⟨q2, B2⟩ := HB.out
  generalize ((w1.setCell ⟨w.heap.size, 0, none⟩ (.string ⟨#[]⟩)).setCell ⟨w.heap.size, 1, none⟩ (.string ⟨#[]⟩)) = w2 at *
  have e0 : (w2).cell? ⟨w.heap.size, 0, none⟩ = some (.string ⟨#[]⟩) := by rw [cell_of_block q2]; rfl
  have e1 : (w2).cell? ⟨w.heap.size, 1, none⟩ = some (.string ⟨#[]⟩) := by rw [cell_of_block q2]; rfl
  exact bodyPost_ret (v := .tuple #[.agg #[.string ⟨#[]⟩, .string ⟨#[]⟩], .int .i64 1]) (by simp [results, Tryz.f51, go_sem, e0, e1]) rfl ⟨rfl, B2⟩

set_option maxRecDepth 100000 in
set_option maxHeartbeats 400000 in
theorem cursor_open_nil (w : World) :
    Calls Tryz.prog 59 #[.pointer none] w fun e w' => e = .returned (.tuple #[.pointer none, .int .i64 1]) ∧ w = w' := by
  have HG := Lib.hid (no_store (w := w) (v := .pointer none) (Or.inl rfl))
  go_enter Tryz.func59, Tryz.ntmps59
  go_wp2_with fail
  refine HG.out.mono ?_
  rintro e w1 ⟨rfl, rfl⟩
  go_wp2_with fail
  go_ret2
  exact ⟨rfl, rfl⟩
end Go.Proofs.YtepdkbmnkjfcpaaGreatDoor

namespace Go.Proofs.YtepdkbmnkjfcpaaGreatDoor
open Go.RowKit Go.BigFrame Go.Maps Go.WideMaps Lf

/-- the last node off a tree, where all is well: what is left, the node -/
def Lf.lastM (jn : Jn) : Nat → St → Nat → Option ((Nat × Nat) × St)
  | 0, S, root => match textM S (getNode S root).1.key with
    | none => none
    | some _ => some (((getNode S root).1.left, root), S)
  | f + 1, S, root => match textM S (getNode S root).1.key with
    | none => none
    | some _ =>
      if (getNode S root).1.right = 0 then some (((getNode S root).1.left, root), S)
      else match lastM jn f S (getNode S root).1.right with
        | none => none
        | some ((r, last), S1) => (cjoinM jn S1 (getNode S root).1.left root r).map fun x => ((x.1, last), x.2)
def Lf.concatM (jn : Jn) (S : St) (l r : Nat) : Option (Nat × St) :=
  if l = 0 then some (r, S)
  else match lastM jn 200 S l with
    | none => none
    | some ((left, m), S1) => cjoinM jn S1 left m r

set_option maxRecDepth 100000 in
set_option maxHeartbeats 6400000 in
theorem cut_last {ps : Nat} {j c : FuncId} {jn : Jn} (hjn : JoinsAs j jn) : ∀ (f d : Nat), d + f = 200 → ∀ {w : World} {S S' : St} {Y : Nat → Prop} {root l m : Nat}, StOn w ps S Y → Inv S → root < 18446744073709551616 →
    lastM jn f S root = some ((l, m), S') →
    (Calls Tryz.prog 340 #[cutV ps j c, .int .u64 root, .int .i64 d] w fun e w' => e = .returned (.tuple #[.int .u64 l, .int .u64 m]) ∧ StOn w' ps S' Y ∧ Keep Y w w') ∧ Inv S' ∧ l < 18446744073709551616 ∧ m < 18446744073709551616 := by
  intro f
  induction f with
  | zero =>
    intro d hd w S S' Y root l m h hi hl hs
    obtain rfl : d = 200 := by omega
    unfold lastM at hs
    split at hs
    · cases hs
    rename_i t ht
    have hs := Option.some.inj hs
    injection hs with e1 e2
    injection e1 with e1 e3
    subst e1 e2 e3
    have hlt := getNode_lt h root
    refine ⟨?_, hi, hlt.left, hl⟩
    have q0 := heap_alloc_new w (.cells #[PV ps, fnV j, fnV c] 229)
    have B0 := (Below.refl w.heap.size w).alloc (Nat.le_refl _) (.cells #[PV ps, fnV j, fnV c] 229)
    have hkey := fun W (hW : Below w.heap.size w W) => cut_key (j := j) (c := c) (h.below hW) hi root hl ht
    obtain ⟨⟨⟨k0, k1, k2, k3, k4, k5⟩, er⟩, hE⟩ : ∃ q, getNode S root = q := ⟨_, rfl⟩
    rw [hE] at hkey ⊢
    simp only [cutV, fnV, ndV] at q0 B0 hkey ⊢
    have HG := Lib.hid (And.intro hkey (And.intro q0 (And.intro B0 h)))
    clear hkey q0 B0 h hi hE ht hjn hlt hd
    go_enter Tryz.func340, Tryz.ntmps340
    go_wp2_with fail
    refine (HG.out.1 _ HG.out.2.2.1).mono ?_
    rintro e w1 ⟨rfl, hb1⟩
    have hal := hb1.alloc hb1.size (.cells #[.int .u64 k0, .int .u64 k1, .int .u64 k2, .int .u64 k3, .int .u64 k4, .int .u64 k5] 183)
    have q2 := heap_alloc_new w1 (.cells #[.int .u64 k0, .int .u64 k1, .int .u64 k2, .int .u64 k3, .int .u64 k4, .int .u64 k5] 183)
    have B2 := HG.out.2.2.1.trans (hal.mono HG.out.2.2.1.size)
    have d0 : ((w1.alloc (.cells #[.int .u64 k0, .int .u64 k1, .int .u64 k2, .int .u64 k3, .int .u64 k4, .int .u64 k5] 183))).cell? ⟨w1.heap.size, 0, none⟩ = some (.int .u64 k0) := by rw [cell_of_block q2]; rfl
    have d1 : ((w1.alloc (.cells #[.int .u64 k0, .int .u64 k1, .int .u64 k2, .int .u64 k3, .int .u64 k4, .int .u64 k5] 183))).cell? ⟨w1.heap.size, 1, none⟩ = some (.int .u64 k1) := by rw [cell_of_block q2]; rfl
    have d2 : ((w1.alloc (.cells #[.int .u64 k0, .int .u64 k1, .int .u64 k2, .int .u64 k3, .int .u64 k4, .int .u64 k5] 183))).cell? ⟨w1.heap.size, 2, none⟩ = some (.int .u64 k2) := by rw [cell_of_block q2]; rfl
    have d3 : ((w1.alloc (.cells #[.int .u64 k0, .int .u64 k1, .int .u64 k2, .int .u64 k3, .int .u64 k4, .int .u64 k5] 183))).cell? ⟨w1.heap.size, 3, none⟩ = some (.int .u64 k3) := by rw [cell_of_block q2]; rfl
    have d4 : ((w1.alloc (.cells #[.int .u64 k0, .int .u64 k1, .int .u64 k2, .int .u64 k3, .int .u64 k4, .int .u64 k5] 183))).cell? ⟨w1.heap.size, 4, none⟩ = some (.int .u64 k4) := by rw [cell_of_block q2]; rfl
    have d5 : ((w1.alloc (.cells #[.int .u64 k0, .int .u64 k1, .int .u64 k2, .int .u64 k3, .int .u64 k4, .int .u64 k5] 183))).cell? ⟨w1.heap.size, 5, none⟩ = some (.int .u64 k5) := by rw [cell_of_block q2]; rfl
    have H2 := Lib.hid B2
    clear hb1 hal q2 B2
    by_cases h3 : k3 = 0
    · subst h3
      go_wp2_with fail
      try go_quiet (fail)
      try go_wp2_with fail
      go_ret2
      exact ⟨rfl, HG.out.2.2.2.below H2.out, HG.out.2.2.2.keep H2.out⟩
    · have hq : ((k3 : Int) == 0) = false := by simp; omega
      go_wp2_with fail
      try go_quiet (fail)
      try go_wp2_with fail
      go_ret2
      exact ⟨rfl, HG.out.2.2.2.below H2.out, HG.out.2.2.2.keep H2.out⟩
  | succ f ih =>
    intro d hd w S S' Y root l m h hi hl hs
    have hdq : ((d : Int) == 200) = false := by simp; omega
    have hdw : IntKind.i64.wrap ((d : Int) + 1) = (d : Int) + 1 := IntWalk.i64_in _ (by omega)
    have hlt := getNode_lt h root
    have q0 := heap_alloc_new w (.cells #[PV ps, fnV j, fnV c] 229)
    have B0 := (Below.refl w.heap.size w).alloc (Nat.le_refl _) (.cells #[PV ps, fnV j, fnV c] 229)
    unfold lastM at hs
    split at hs
    · cases hs
    rename_i t ht
    have hkey := fun W (hW : Below w.heap.size w W) => cut_key (j := j) (c := c) (h.below hW) hi root hl ht
    split at hs
    · rename_i h0
      have hs := Option.some.inj hs
      injection hs with e1 e2
      injection e1 with e1 e3
      subst e1 e2 e3
      refine ⟨?_, hi, hlt.left, hl⟩
      obtain ⟨⟨⟨k0, k1, k2, k3, k4, k5⟩, er⟩, hE⟩ : ∃ q, getNode S root = q := ⟨_, rfl⟩
      rw [hE] at hkey h0 ⊢
      simp only at h0
      subst h0
      simp only [cutV, fnV, ndV] at q0 B0 hkey ⊢
      have HG := Lib.hid (And.intro hkey (And.intro q0 (And.intro B0 h)))
      clear hkey q0 B0 h hi hE ht hjn hlt hd ih
      go_enter Tryz.func340, Tryz.ntmps340
      go_wp2_with fail
      refine (HG.out.1 _ HG.out.2.2.1).mono ?_
      rintro e w1 ⟨rfl, hb1⟩
      have hal := hb1.alloc hb1.size (.cells #[.int .u64 k0, .int .u64 k1, .int .u64 k2, .int .u64 (0 : Nat), .int .u64 k4, .int .u64 k5] 183)
      have q2 := heap_alloc_new w1 (.cells #[.int .u64 k0, .int .u64 k1, .int .u64 k2, .int .u64 (0 : Nat), .int .u64 k4, .int .u64 k5] 183)
      have B2 := HG.out.2.2.1.trans (hal.mono HG.out.2.2.1.size)
      have d0 : ((w1.alloc (.cells #[.int .u64 k0, .int .u64 k1, .int .u64 k2, .int .u64 (0 : Nat), .int .u64 k4, .int .u64 k5] 183))).cell? ⟨w1.heap.size, 0, none⟩ = some (.int .u64 k0) := by rw [cell_of_block q2]; rfl
      have d1 : ((w1.alloc (.cells #[.int .u64 k0, .int .u64 k1, .int .u64 k2, .int .u64 (0 : Nat), .int .u64 k4, .int .u64 k5] 183))).cell? ⟨w1.heap.size, 1, none⟩ = some (.int .u64 k1) := by rw [cell_of_block q2]; rfl
      have d2 : ((w1.alloc (.cells #[.int .u64 k0, .int .u64 k1, .int .u64 k2, .int .u64 (0 : Nat), .int .u64 k4, .int .u64 k5] 183))).cell? ⟨w1.heap.size, 2, none⟩ = some (.int .u64 k2) := by rw [cell_of_block q2]; rfl
      have d3 : ((w1.alloc (.cells #[.int .u64 k0, .int .u64 k1, .int .u64 k2, .int .u64 (0 : Nat), .int .u64 k4, .int .u64 k5] 183))).cell? ⟨w1.heap.size, 3, none⟩ = some (.int .u64 (0 : Nat)) := by rw [cell_of_block q2]; rfl
      have d4 : ((w1.alloc (.cells #[.int .u64 k0, .int .u64 k1, .int .u64 k2, .int .u64 (0 : Nat), .int .u64 k4, .int .u64 k5] 183))).cell? ⟨w1.heap.size, 4, none⟩ = some (.int .u64 k4) := by rw [cell_of_block q2]; rfl
      have d5 : ((w1.alloc (.cells #[.int .u64 k0, .int .u64 k1, .int .u64 k2, .int .u64 (0 : Nat), .int .u64 k4, .int .u64 k5] 183))).cell? ⟨w1.heap.size, 5, none⟩ = some (.int .u64 k5) := by rw [cell_of_block q2]; rfl
      have H2 := Lib.hid B2
      clear hb1 hal q2 B2
      go_wp2_with fail
      try go_quiet (fail)
      try go_wp2_with fail
      go_ret2
      exact ⟨rfl, HG.out.2.2.2.below H2.out, HG.out.2.2.2.keep H2.out⟩
    · rename_i h0
      split at hs
      · cases hs
      rename_i r1 m1 S1 h1
      obtain ⟨⟨x, S2⟩, hj1, he⟩ := Option.map_eq_some_iff.1 hs
      injection he with e1 e2
      injection e1 with e1 e3
      simp only at e1 e3 hj1
      subst e1 e2 e3
      have hrec := fun W Z (hW : StOn W ps S Z) => (ih (d + 1) (by omega) hW hi hlt.right h1).1
      obtain ⟨-, hi1, hr1, hm1⟩ := ih (d + 1) (by omega) h hi hlt.right h1
      have hjs := cjoinM_some hjn hj1
      have hjoin := fun W Z (hW : StOn W ps S1 Z) => cut_join (c := c) hW hi1 hjn (getNode S root).1.left root r1 hlt.left hl hr1 hj1
      refine ⟨?_, hjn.inv hi1 hjs, by rcases hjn.mem hi1 hjs with e | e | e <;> simp only at e <;> first | (rw [e]; exact hl) | (rw [e]; exact hr1) | (rw [e]; exact hlt.left), hm1⟩
      obtain ⟨⟨⟨k0, k1, k2, k3, k4, k5⟩, er⟩, hE⟩ : ∃ q, getNode S root = q := ⟨_, rfl⟩
      rw [hE] at hkey hlt hrec hjoin h0
      simp only at hlt hrec hjoin h0
      have hq : ((k3 : Int) == 0) = false := by simp; omega
      simp only [cutV, fnV, ndV] at q0 B0 hkey hrec hjoin ⊢
      have HG := Lib.hid (And.intro hkey (And.intro q0 (And.intro B0 (And.intro hrec (And.intro hjoin h)))))
      clear hkey q0 B0 hrec hjoin h hi hE ht h1 hs hj1 hi1 hjn ih hd h0 hlt hr1 hm1 hjs hl
      go_enter Tryz.func340, Tryz.ntmps340
      go_wp2_with fail
      refine (HG.out.1 _ HG.out.2.2.1).mono ?_
      rintro e w1 ⟨rfl, hb1⟩
      have hal := hb1.alloc hb1.size (.cells #[.int .u64 k0, .int .u64 k1, .int .u64 k2, .int .u64 k3, .int .u64 k4, .int .u64 k5] 183)
      have q2 := heap_alloc_new w1 (.cells #[.int .u64 k0, .int .u64 k1, .int .u64 k2, .int .u64 k3, .int .u64 k4, .int .u64 k5] 183)
      have r2 := (hal.block w.heap.size (by simp)).trans HG.out.2.1
      have hlt1 : w.heap.size ≤ w1.heap.size := by have := hb1.size; simp at this; omega
      have B2 := HG.out.2.2.1.trans (hal.mono HG.out.2.2.1.size)
      have d0 : ((w1.alloc (.cells #[.int .u64 k0, .int .u64 k1, .int .u64 k2, .int .u64 k3, .int .u64 k4, .int .u64 k5] 183))).cell? ⟨w1.heap.size, 0, none⟩ = some (.int .u64 k0) := by rw [cell_of_block q2]; rfl
      have d1 : ((w1.alloc (.cells #[.int .u64 k0, .int .u64 k1, .int .u64 k2, .int .u64 k3, .int .u64 k4, .int .u64 k5] 183))).cell? ⟨w1.heap.size, 1, none⟩ = some (.int .u64 k1) := by rw [cell_of_block q2]; rfl
      have d2 : ((w1.alloc (.cells #[.int .u64 k0, .int .u64 k1, .int .u64 k2, .int .u64 k3, .int .u64 k4, .int .u64 k5] 183))).cell? ⟨w1.heap.size, 2, none⟩ = some (.int .u64 k2) := by rw [cell_of_block q2]; rfl
      have d3 : ((w1.alloc (.cells #[.int .u64 k0, .int .u64 k1, .int .u64 k2, .int .u64 k3, .int .u64 k4, .int .u64 k5] 183))).cell? ⟨w1.heap.size, 3, none⟩ = some (.int .u64 k3) := by rw [cell_of_block q2]; rfl
      have d4 : ((w1.alloc (.cells #[.int .u64 k0, .int .u64 k1, .int .u64 k2, .int .u64 k3, .int .u64 k4, .int .u64 k5] 183))).cell? ⟨w1.heap.size, 4, none⟩ = some (.int .u64 k4) := by rw [cell_of_block q2]; rfl
      have d5 : ((w1.alloc (.cells #[.int .u64 k0, .int .u64 k1, .int .u64 k2, .int .u64 k3, .int .u64 k4, .int .u64 k5] 183))).cell? ⟨w1.heap.size, 5, none⟩ = some (.int .u64 k5) := by rw [cell_of_block q2]; rfl
      have c0 : ((w1.alloc (.cells #[.int .u64 k0, .int .u64 k1, .int .u64 k2, .int .u64 k3, .int .u64 k4, .int .u64 k5] 183))).cell? ⟨w.heap.size, 0, none⟩ = some (PV ps) := by rw [cell_of_block r2]; rfl
      have c1 : ((w1.alloc (.cells #[.int .u64 k0, .int .u64 k1, .int .u64 k2, .int .u64 k3, .int .u64 k4, .int .u64 k5] 183))).cell? ⟨w.heap.size, 1, none⟩ = some (.func (.func j) #[] #[]) := by rw [cell_of_block r2]; rfl
      have c2 : ((w1.alloc (.cells #[.int .u64 k0, .int .u64 k1, .int .u64 k2, .int .u64 k3, .int .u64 k4, .int .u64 k5] 183))).cell? ⟨w.heap.size, 2, none⟩ = some (.func (.func c) #[] #[]) := by rw [cell_of_block r2]; rfl
      have l8 := (Array.getElem?_eq_some_iff.1 r2).1
      have l12 := (Array.getElem?_eq_some_iff.1 q2).1
      have H2 := Lib.hid (And.intro B2 (And.intro r2 q2))
      have hle12 := Lib.hid hlt1
      clear hb1 hal q2 r2 B2 hlt1
      go_wp2_with fail
      generalize w1.alloc (.cells #[.int .u64 k0, .int .u64 k1, .int .u64 k2, .int .u64 k3, .int .u64 k4, .int .u64 k5] 183) = W at *
      generalize w1.heap.size = b12 at *
      refine (HG.out.2.2.2.1 _ _ (HG.out.2.2.2.2.2.wide H2.out.1)).mono ?_
      rintro e w3 ⟨rfl, h3, k3'⟩
      have r3 := (k3'.block w.heap.size (Or.inr ⟨Nat.le_refl _, l8⟩)).trans H2.out.2.1
      have q3 := (k3'.block b12 (Or.inr ⟨hle12.out, l12⟩)).trans H2.out.2.2
      have e0 : (w3).cell? ⟨w.heap.size, 0, none⟩ = some (PV ps) := by rw [cell_of_block r3]; rfl
      have e1 : (w3).cell? ⟨w.heap.size, 1, none⟩ = some (.func (.func j) #[] #[]) := by rw [cell_of_block r3]; rfl
      have e2 : (w3).cell? ⟨w.heap.size, 2, none⟩ = some (.func (.func c) #[] #[]) := by rw [cell_of_block r3]; rfl
      have g0 : (w3).cell? ⟨b12, 0, none⟩ = some (.int .u64 k0) := by rw [cell_of_block q3]; rfl
      have g1 : (w3).cell? ⟨b12, 1, none⟩ = some (.int .u64 k1) := by rw [cell_of_block q3]; rfl
      have g2 : (w3).cell? ⟨b12, 2, none⟩ = some (.int .u64 k2) := by rw [cell_of_block q3]; rfl
      have g3 : (w3).cell? ⟨b12, 3, none⟩ = some (.int .u64 k3) := by rw [cell_of_block q3]; rfl
      have g4 : (w3).cell? ⟨b12, 4, none⟩ = some (.int .u64 k4) := by rw [cell_of_block q3]; rfl
      have g5 : (w3).cell? ⟨b12, 5, none⟩ = some (.int .u64 k5) := by rw [cell_of_block q3]; rfl
      have H3 := Lib.hid (And.intro h3 k3')
      clear h3 k3' r3 q3 c0 c1 c2 d0 d1 d2 d3 d4 d5
      go_wp2_with fail
      refine (HG.out.2.2.2.2.1 _ _ H3.out.1).mono ?_
      rintro e w4 ⟨rfl, h4, k4'⟩
      have H4 := Lib.hid (And.intro (h4.mono (Z := Y) fun k hk => Or.inl hk) ((Keep.of_below H2.out.1 HG.out.2.2.2.2.2.yl).trans ((H3.out.2.trans k4').mono fun k hk => Or.inl hk)))
      clear h4 k4' e0 e1 e2 g0 g1 g2 g3 g4 g5
      go_wp2_with fail
      go_ret2
      exact ⟨rfl, H4.out⟩

set_option maxRecDepth 100000 in
set_option maxHeartbeats 1600000 in
theorem cut_concat {w : World} {ps : Nat} {S S' : St} {Y : Nat → Prop} (h : StOn w ps S Y) (hi : Inv S) {j c : FuncId} {jn : Jn} (hjn : JoinsAs j jn) (l r : Nat) (hl : l < 18446744073709551616) (hr : r < 18446744073709551616) {x : Nat} (hx : concatM jn S l r = some (x, S')) :
    (Calls Tryz.prog 337 #[cutV ps j c, .int .u64 l, .int .u64 r] w fun e w' => e = .returned (.int .u64 x) ∧ StOn w' ps S' Y ∧ Keep Y w w') ∧ Inv S' ∧ x < 18446744073709551616 := by
  have q0 := heap_alloc_new w (.cells #[PV ps, fnV j, fnV c] 229)
  have B0 := (Below.refl w.heap.size w).alloc (Nat.le_refl _) (.cells #[PV ps, fnV j, fnV c] 229)
  unfold concatM at hx
  split at hx
  · rename_i h0
    subst h0
    have hx := Option.some.inj hx
    injection hx with e1 e2
    subst e1 e2
    refine ⟨?_, hi, hr⟩
    simp only [cutV, fnV] at B0 ⊢
    have HG := Lib.hid (And.intro (h.below B0) (h.keep B0))
    clear q0 B0 h hi hjn
    go_enter Tryz.func337, Tryz.ntmps337
    go_wp2_with fail
    go_ret
    exact ⟨rfl, HG.out⟩
  · rename_i h0
    split at hx
    · cases hx
    rename_i l1 m1 S1 h1
    obtain ⟨-, hi1, hl1, hm1⟩ := cut_last (c := c) hjn 200 0 rfl h hi hl h1
    have hla := fun W Z (hW : StOn W ps S Z) => (cut_last (c := c) hjn 200 0 rfl hW hi hl h1).1
    have hjs := cjoinM_some hjn hx
    have hjoin := fun W Z (hW : StOn W ps S1 Z) => cut_join (c := c) hW hi1 hjn l1 m1 r hl1 hm1 hr hx
    refine ⟨?_, hjn.inv hi1 hjs, by rcases hjn.mem hi1 hjs with e | e | e <;> simp only at e <;> first | (rw [e]; exact hm1) | (rw [e]; exact hl1) | (rw [e]; exact hr)⟩
    have hq : ((l : Int) == 0) = false := by simp; omega
    simp only [cutV, fnV] at q0 B0 hla hjoin ⊢
    have sw : (w.alloc (.cells #[PV ps, .func (.func j) #[] #[], .func (.func c) #[] #[]] 229)).heap.size = w.heap.size + 1 := by simp
    have S1 := h.wide B0
    rw [sw] at S1
    have HG := Lib.hid (And.intro hla (And.intro hjoin (And.intro S1 (And.intro q0 (Keep.of_below B0 h.yl)))))
    clear hla hjoin S1 q0 B0 h hi h1 hx hi1 hl1 hm1 hjs hjn h0 sw
    go_enter Tryz.func337, Tryz.ntmps337
    go_wp2_with fail
    refine (HG.out.1 _ _ HG.out.2.2.1).mono ?_
    rintro e w2 ⟨rfl, h2, k2⟩
    have r2 := (k2.block w.heap.size (Or.inr ⟨Nat.le_refl _, Nat.lt_succ_self _⟩)).trans HG.out.2.2.2.1
    have c0 : (w2).cell? ⟨w.heap.size, 0, none⟩ = some (PV ps) := by rw [cell_of_block r2]; rfl
    have c1 : (w2).cell? ⟨w.heap.size, 1, none⟩ = some (.func (.func j) #[] #[]) := by rw [cell_of_block r2]; rfl
    have c2 : (w2).cell? ⟨w.heap.size, 2, none⟩ = some (.func (.func c) #[] #[]) := by rw [cell_of_block r2]; rfl
    have H2 := Lib.hid (And.intro h2 k2)
    clear h2 k2 r2
    go_wp2_with fail
    refine (HG.out.2.1 _ _ H2.out.1).mono ?_
    rintro e w3 ⟨rfl, h3, k3⟩
    have H3 := Lib.hid (And.intro (h3.mono (Z := Y) fun k hk => Or.inl hk) (HG.out.2.2.2.2.trans ((H2.out.2.trans k3).mono fun k hk => Or.inl hk)))
    clear h3 k3 c0 c1 c2
    go_wp2_with fail
    go_ret
    exact ⟨rfl, H3.out⟩

end Go.Proofs.YtepdkbmnkjfcpaaGreatDoor

namespace Go.Proofs.YtepdkbmnkjfcpaaGreatDoor
open Go.RowKit Go.BigFrame Go.Maps Go.WideMaps Lf

set_option maxRecDepth 100000 in
set_option maxHeartbeats 1600000 in
theorem asked_row {w : World} {ps : Nat} {S : St} {Y : Nat → Prop} (h : StOn w ps S Y) (hi : Inv S) {kind : Nat} {j c : FuncId} (hk : WayOk kind j c) (key : List UInt8) (hkey : key.length ≤ 1000) (rs : List Nat) (hrn : rs.length ≤ 1000) (hrs : ∀ a ∈ rs, a < 18446744073709551616 ∧ isT S a = true) (rb : Nat) {t : TypeId} {fr : Nat × Nat} (hr : w.heap[rb]? = some (.cells (rs.map fun a : Nat => Value.int .u64 (a : Int)).toArray t fr)) :
    Calls Tryz.prog 159 #[PV ps, .int .i64 kind, SV key, .slice (some ⟨rb, 0, none⟩) rs.length rs.length] w fun e w' => e = .returned (.tuple #[cutV ps j c, .int .i64 0]) ∧ Below w.heap.size w w' := by
  have q0 := heap_alloc_new w (.cells #[.pointer none, .nilFunc, .nilFunc] 229)
  have B0 := (Below.refl w.heap.size w).alloc (Nat.le_refl _) (.cells #[.pointer none, .nilFunc, .nilFunc] 229)
  have hlen := st_len (h.below B0) hi 0 (by omega)
  rw [len_zero] at hlen
  have hg := fun W (hW : Below w.heap.size w W) a (ha : a < 18446744073709551616) => node_get (h.below hW) hi a ha
  have hz : ∀ a er : Nat, isT S a = true → (getNode S a).2 = er → (((a : Int) != 0) && ((er : Int) != 0)) = false := fun a er hta he => by
    unfold isT at hta
    simp only [he, Bool.or_eq_true, decide_eq_true_eq] at hta
    rcases hta with e | e <;> simp [e]
  have hk1 : (1000 < (key.length : Int)) = False := eq_false (by omega)
  obtain ⟨n, hn⟩ : ∃ n, rs.length = n := ⟨_, rfl⟩
  rw [hn] at hrn ⊢
  simp only [cutV, WayOk, fnV, ndV] at hk hg ⊢
  have HG := Lib.hid (And.intro hlen (And.intro hk (And.intro q0 (And.intro B0 (And.intro hg (And.intro hr (And.intro hz (And.intro hrs hn))))))))
  clear hlen hk h hi q0 B0 hg hr hz hrs hn
  go_enter Tryz.func159, Tryz.ntmps159
  go_wp2_with fail
  refine HG.out.1.mono ?_
  rintro e w1 ⟨rfl, rfl⟩
  go_wp2_with fail
  refine (HG.out.2.1 _).mono ?_
  rintro e w2 ⟨rfl, hb2⟩
  have hal := hb2.alloc hb2.size (.cells #[.func (.func j) #[] #[], .func (.func c) #[] #[]] 227)
  have r2 := (hal.block w.heap.size (by simp)).trans HG.out.2.2.1
  have q2 := heap_alloc_new w2 (.cells #[.func (.func j) #[] #[], .func (.func c) #[] #[]] 227)
  have B2 := HG.out.2.2.2.1.trans (hal.mono HG.out.2.2.2.1.size)
  have hsz2 : w.heap.size < w2.heap.size := by have := hb2.size; simp at this; omega
  go_wp2_with fail
  generalize w2.alloc (.cells #[.func (.func j) #[] #[], .func (.func c) #[] #[]] 227) = W at *
  generalize w2.heap.size = bt at *
  have HR := Lib.hid (And.intro r2 (And.intro B2 (And.intro q2 hsz2)))
  clear r2 B2 hb2 hal q2 hsz2
  go_loopw [15, 16, 17, 40] (fun _ _ _ i wr => ∃ k : Nat, k ≤ n ∧ i = .int .i64 k ∧ Below W.heap.size W wr) (fun _ _ _ i _ => n - (intOf i).toNat)
  case atStart => exact ⟨0, by omega, rfl, Below.refl _ _⟩
  case round =>
    obtain ⟨k, hkn, rfl, hW⟩ := hrel
    by_cases hlt : k < n
    · have hlt' : (k : Int) < n := by omega
      have hkr : k < rs.length := by rw [HG.out.2.2.2.2.2.2.2.2]; exact hlt
      have hbr := ((HR.out.2.1.trans (hW.mono HR.out.2.1.size)).block rb (Array.getElem?_eq_some_iff.1 HG.out.2.2.2.2.2.1).1).trans HG.out.2.2.2.2.2.1
      obtain ⟨ha, hta⟩ := HG.out.2.2.2.2.2.2.2.1 rs[k] (List.getElem_mem hkr)
      have c0 : wr.cell? ⟨rb, k, none⟩ = some (.int .u64 (rs[k] : Nat)) := by rw [cell_of_block hbr]; simp [hkr]
      have hgk := fun W hW => HG.out.2.2.2.2.1 W hW rs[k] ha
      have hzk := fun er => HG.out.2.2.2.2.2.2.1 rs[k] er hta
      generalize rs[k] = a at *
      obtain ⟨⟨⟨a0, a1, a2, a3, a4, a5⟩, ea⟩, hEa⟩ : ∃ q, getNode S a = q := ⟨_, rfl⟩
      rw [hEa] at hgk hzk
      have hzk := hzk ea rfl
      simp only at hgk
      have HW := Lib.hid (And.intro hW (And.intro hgk hzk))
      clear hW hbr hgk hzk hEa hta ha
      go_wp2_with fail
      refine (HW.out.2.1 _ (HR.out.2.1.trans (HW.out.1.mono HR.out.2.1.size))).mono ?_
      rintro e w5 ⟨rfl, hb5⟩
      have H5 := Lib.hid ((HW.out.1.trans (hb5.mono HW.out.1.size)).alloc (HW.out.1.trans (hb5.mono HW.out.1.size)).size (.cells #[.int .u64 a0, .int .u64 a1, .int .u64 a2, .int .u64 a3, .int .u64 a4, .int .u64 a5] 183))
      clear hb5
      have hz := HW.out.2.2
      go_wp2_with fail
      all_goals exact ⟨⟨k + 1, by omega, by simp, H5.out⟩, by simp [intOf]; omega⟩
    · obtain rfl : k = n := by omega
      obtain ⟨r2, B2, q2, -⟩ := HR.out
      replace B2 := B2.trans (hW.mono B2.size)
      replace r2 := (hW.block _ (Array.getElem?_eq_some_iff.1 r2).1).trans r2
      replace q2 := (hW.block _ (Array.getElem?_eq_some_iff.1 q2).1).trans q2
      have c0 : (wr).cell? ⟨w.heap.size, 0, none⟩ = some (.pointer none) := by rw [cell_of_block r2]; rfl
      have c1 : (wr).cell? ⟨w.heap.size, 1, none⟩ = some (.nilFunc) := by rw [cell_of_block r2]; rfl
      have c2 : (wr).cell? ⟨w.heap.size, 2, none⟩ = some (.nilFunc) := by rw [cell_of_block r2]; rfl
      have f0 : (wr).frozen? ⟨w.heap.size, 0, none⟩ = false := frozen_of_block r2
      have f1 : (wr).frozen? ⟨w.heap.size, 1, none⟩ = false := frozen_of_block r2
      have f2 : (wr).frozen? ⟨w.heap.size, 2, none⟩ = false := frozen_of_block r2
      have d0 : (wr).cell? ⟨bt, 0, none⟩ = some (.func (.func j) #[] #[]) := by rw [cell_of_block q2]; rfl
      have d1 : (wr).cell? ⟨bt, 1, none⟩ = some (.func (.func c) #[] #[]) := by rw [cell_of_block q2]; rfl
      have HX := Lib.hid (And.intro r2 B2)
      clear r2 B2 q2
      go_wp2_with fail
      have q3 := st3_heap HX.out.1 (PV ps) (.func (.func j) #[] #[]) (.func (.func c) #[] #[])
      have B3 := st3_below HX.out.2 (Nat.le_refl w.heap.size) (PV ps) (.func (.func j) #[] #[]) (.func (.func c) #[] #[])
      generalize (((wr.setCell ⟨w.heap.size, 0, none⟩ (PV ps)).setCell ⟨w.heap.size, 1, none⟩ (.func (.func j) #[] #[])).setCell ⟨w.heap.size, 2, none⟩ (.func (.func c) #[] #[])) = W3 at *
      have e0 : (W3).cell? ⟨w.heap.size, 0, none⟩ = some (PV ps) := by rw [cell_of_block q3]; rfl
      have e1 : (W3).cell? ⟨w.heap.size, 1, none⟩ = some (.func (.func j) #[] #[]) := by rw [cell_of_block q3]; rfl
      have e2 : (W3).cell? ⟨w.heap.size, 2, none⟩ = some (.func (.func c) #[] #[]) := by rw [cell_of_block q3]; rfl
      exact bodyPost_ret (v := .tuple #[.agg #[PV ps, .func (.func j) #[] #[], .func (.func c) #[] #[]], .int .i64 0]) (by simp [results, Tryz.f159, go_sem, e0, e1, e2]) rfl ⟨rfl, B3⟩
end Go.Proofs.YtepdkbmnkjfcpaaGreatDoor

namespace Go.Proofs.YtepdkbmnkjfcpaaGreatDoor.Qx
open Go Go.RowKit Qw Qu

/-- Q at a region's end, no other way out -/
def Only (Q : Exit → Act → World → Prop) : Exit → Act → World → Prop
  | .normal, a, w => Q .normal a w
  | _, _, _ => False
theorem Only.imp {Q : Exit → Act → World → Prop} : ∀ (e : Exit) (a : Act) (w : World), Only Q e a w → Q e a w := fun e a w h => by
  cases e <;> first | exact h | exact (h : False).elim
theorem Only.shut {Q : Exit → Act → World → Prop} : ¬ LetsOut (Only Q) := fun ⟨_, _, h⟩ => h
theorem rowsIn_wide {n : Nat} {P : Program} {row : String} {args : Array Value} {w : World} {R : Value → World → Prop} (h : Rows P row args w R) : RowsIn Fence.wide n P row args w R :=
  fun c cs _ => let ⟨v, w', r, s⟩ := h c cs; ⟨v, w', r, stepsIn_wide.2 s⟩
section
variable {P : Program} {ops : Array Oper} {md : Region.Mode} {S : World → Prop} {Q : Exit → Act → World → Prop} {l n : Nat}

theorem wpIn_of_wp {o : Oper} {a : Act} {w : World} {K : Act → World → Prop} (hnd : ∀ c, o.op ≠ .defer c) (h : o.wp P a w K Q) : o.wpIn (Fence.wide.inRound l) n P a w K Q := by
  refine ⟨fun _ _ => trivial, ?_⟩
  rw [Oper.semAt_eq _ _ _ hnd]
  unfold Oper.wp at h
  generalize (execOp a.eval o).run P w = r at h ⊢
  cases r with
  | ok x w' =>
    cases x with
    | value v => exact h
    | skip => exact h
    | defer d => exact h
    | enter f args => exact ⟨fun hd => (by cases hd), (callsIn_wide.2 h : CallsIn Fence.wide (n - 1) P f args w' _)⟩
    | row row args => exact ⟨fun hd => (by cases hd), rowsIn_wide h⟩
    | _ => exact (h : False).elim
  | halt x w' =>
    cases x <;> first | exact h | exact (h : False).elim
theorem wpAnyIn_of_held (hnd : noDefer ops = true) (hl : ¬ LetsOut Q) : ∀ (fuel : Nat) (listed : Array Bool) (a : Act) (w : World), wpAnyH P md ops Q S fuel listed a w → wpAnyIn (Fence.wide.inRound l) n P md ops Q fuel listed a w
  | 0, _, _, _, h => h
  | fuel + 1, listed, a, w, h => by
    refine ⟨h.1, fun i hi => ?_⟩
    have h2 := h.2 i hi
    unfold wpOp at h2
    unfold wpOpIn
    split
    · rename_i ho
      simp only [ho] at h2
      exact wpAnyIn_of_held hnd hl fuel _ _ _ h2.2
    · rename_i o ho
      simp only [ho] at h2
      split
      · rename_i hw
        simp only [hw, if_true] at h2
        rcases h2 with h2 | h2
        · exact wpIn_of_wp (noDefer_at hnd ho) (Oper.wp_mono (fun a' w' h' => wpAnyIn_of_held hnd hl fuel _ _ _ h'.2) h2)
        · exact absurd h2.2 hl
      · rename_i hw
        simp only [hw] at h2
        exact ⟨fun _ _ => trivial, wpAnyIn_of_held hnd hl fuel _ _ _ h2.2⟩
end
end Qx
open Qw Qu Qx

theorem wpIn_region_plan {P : Program} {id r n : Nat} {Q : Exit → Act → World → Prop} {a : Act} {w : World} {l : List Oper} (I : World → Prop) (p : Plan) (hnd : noDefer l.toArray = true) (hm : P.follows .mixedOrders = true) (hB : lexPlanB .any l.toArray p = true)
    (hI : I w.drew) (h : wpPlan P l (Only Q) (InK I) p a w.drew) : (Code.region id l.toArray true).wpIn (Fence.wide.inRound r) n P Q a w := by
  simp only [lexPlanB, Bool.and_eq_true, decide_eq_true_eq] at hB
  obtain ⟨⟨hsel, hn⟩, hlex⟩ := hB
  have hS : InK I w.drew := ⟨⟨_, hI⟩, rfl⟩
  have := wpAnyH_plan (md := .any) (Q := Only Q) hsel (fun _ _ _ _ _ h => (h : False).elim) p _ a w.drew hlex hS h
  rw [hn] at this
  exact Code.wpIn_mono Only.imp (wpIn_region_any hm (wpAnyIn_of_held hnd Only.shut _ _ _ _ this))
theorem plan_end {P : Program} {l : List Oper} {Q : Exit → Act → World → Prop} {S : World → Prop} {a : Act} {w : World} (h : Q .normal a w) : wpPlan P l (Only Q) S .nil a w := h
end Go.Proofs.YtepdkbmnkjfcpaaGreatDoor
