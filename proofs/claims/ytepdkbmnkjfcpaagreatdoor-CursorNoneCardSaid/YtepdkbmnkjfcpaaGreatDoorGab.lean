/- The classes' sizes: the iterator's contract; Size, Slots: the walks. -/
import Derived.Test.YtepdkbmnkjfcpaaGreatDoorGaa
import Derived.RangeFuncNested
import Derived.RangeFuncBound
import Derived.RangeFuncCalls
import Derived.RangeFuncLeaves
import Derived.RangeFuncMany
import Derived.RangeFuncFrom
import Derived.Shelf.Abstract
import Derived.Shelf.RegionOpen
import Derived.OwnWalkIn
import Derived.TacticsInMore
import Derived.LoopNIn
import Derived.LoopIn
namespace Go.Proofs.YtepdkbmnkjfcpaaGreatDoor
open Go.RowKit Go.BigFrame Lf
open Go.Shelf
attribute [local go_sem] Oper.semAt_some

/-- a variable in a box of its own -/
def Bx (W : World) (B : Nat) (v : Value) : Prop := W.cell? ⟨B, 0, none⟩ = some v ∧ W.frozen? ⟨B, 0, none⟩ = false
theorem Bx.new (W : World) (v : Value) (t : TypeId) : Bx (W.alloc (.cells #[v] t)) W.heap.size v := by
  have h : (W.alloc (.cells #[v] t)).heap[W.heap.size]? = some (.cells #[v] t (0, 0)) := by show (W.heap.push _)[W.heap.size]? = _; simp
  exact ⟨by rw [cell_of_block h]; rfl, frozen_of_block h⟩
theorem Bx.kept {W W' : World} {row : Option Nat} {B : Nat} {v : Value} (h : Bx W B v) (hg : W.grownBy W' row) (hr : ∀ r, row = some r → ∃ o : Obj, W.heap[r]? = some o ∧ o.isCells = false) : Bx W' B v :=
  ⟨cell_kept h.1 hg hr, (frozen_kept h.1 hg hr).trans h.2⟩
theorem Bx.alloc {W : World} {B : Nat} {v : Value} (h : Bx W B v) (o : Obj) : Bx (W.alloc o) B v := h.kept (World.grownBy_alloc W o none) (fun r e => by cases e)
theorem Bx.drewN {W : World} {B : Nat} {v : Value} (h : Bx W B v) (n : Nat) : Bx (W.drewN n) B v := h
theorem Bx.set {W : World} {B : Nat} {v : Value} (h : Bx W B v) (u : Value) : Bx (W.setCell ⟨B, 0, none⟩ u) B u :=
  ⟨World.cell?_setCell_same' _ _ _ (by rw [h.1]; rfl), by rw [World.frozen?_setCell]; exact h.2⟩
theorem Bx.other {W : World} {B C : Nat} {v : Value} (h : Bx W B v) (u : Value) (hne : B ≠ C) : Bx (W.setCell ⟨C, 0, none⟩ u) B v := by
  refine ⟨?_, by rw [World.frozen?_setCell]; exact h.2⟩
  have e : (W.setCell ⟨C, 0, none⟩ u).cell? ⟨B, 0, none⟩ = W.cell? ⟨B, 0, none⟩ := World.cell?_of_block (Below.heap_setCell W ⟨C, 0, none⟩ u B hne)
  rw [e]
  exact h.1
theorem Bx.put {W : World} {B D : Nat} {v : Value} {o o' : Obj} (h : Bx W B v) (hD : W.heap[D]? = some o) (ho : o.isCells = false) : Bx (W.putObj D o') B v :=
  h.kept (grownBy_putObj' W D o') (fun r e => by cases e; exact ⟨o, hD, ho⟩)
theorem Bx.below {W W' : World} {B n : Nat} {v : Value} (h : Bx W B v) (hb : Below n W W') (hB : B < n) : Bx W' B v :=
  ⟨(hb.cell (p := ⟨B, 0, none⟩) hB).trans h.1, (hb.frozen (p := ⟨B, 0, none⟩) hB).trans h.2⟩

def szs (k : Nat) : Nat := [2, 3, 4, 6, 9, 13, 19, 28, 42].getD k 0
abbrev encP (p : Nat × Nat) : Array Value := #[.int .i64 p.1, .int .i64 p.2]
def szL (k : Nat) : List (Nat × Nat) := (List.range k).map fun i => (i, szs i)
theorem szL_succ (k : Nat) : szL (k + 1) = szL k ++ [(k, szs k)] := by simp [szL, List.range_succ]
theorem szL_length (k : Nat) : (szL k).length = k := by simp [szL]
theorem szs_step : ∀ k, k < 8 → 2 ≤ szs k ∧ szs k ≤ 28 ∧ szs (k + 1) = szs k + max (szs k / 2) 1 := by decide
theorem szL_add (k : Nat) : ∀ d, szL k <+: szL (k + d)
  | 0 => List.prefix_refl _
  | d + 1 => (szL_add k d).trans (by rw [← Nat.add_assoc, szL_succ]; exact List.prefix_append _ _)

set_option maxRecDepth 100000 in
set_option maxHeartbeats 1000000 in
theorem sizes_stops (F : Fence) (n : Nat) (hg : F.fn 246) (hro : F.round = none) (hn : 1 ≤ n) (w : World) :
    SeqStopsA F n Tryz.prog 246 #[] encP (fun xs => xs = szL 8) (fun pre => ∃ k, k < 8 ∧ pre = szL (k + 1)) 8 w := fun l J Jx W _ _ _ hY h0 => by
  refine callsIn_of_wp Tryz.func246 rfl hg ?_ hro
  simp only [Tryz.ntmps246, List.size_toArray, List.length_cons, List.length_nil, Nat.reduceAdd, Nat.reduceSub, Array.replicate_succ, Array.replicate_zero, List.push_toArray, List.append_toArray, List.nil_append, List.cons_append]
  gi_wp2
  gi_loopw [2, 3] (fun c x wr => ∃ k : Nat, k ≤ 8 ∧ c = .int .i64 k ∧ x = .int .i64 (szs k) ∧ J (szL k) wr) (fun c _ _ => 8 - (intOf c).toNat)
  case atStart => exact ⟨0, by omega, rfl, rfl, h0⟩
  case round =>
    obtain ⟨k, hk, rfl, rfl, hJ⟩ := hrel
    by_cases hlt : k < 8
    · obtain ⟨fn, tmps, assign, body, hy, hR⟩ := hY (szL k) (k, szs k) wr hJ (by rw [szL_length]; exact hlt)
      rw [← szL_succ] at hR
      obtain ⟨h1, h2, h3⟩ := szs_step k hlt
      have h4 : ((szs (k + 1) : Nat) : Int) = (szs k : Int) + max ((szs k : Int) / 2) 1 := by rw [h3]; omega
      generalize szs k = z at *
      generalize hze : szs (k + 1) = z1 at *
      have HZ := Lib.hid (And.intro hze h4)
      clear hze h4 h3
      dsimp only [encP] at hy
      gi_wp2
      refine hR.mono ?_
      rintro e W3 (⟨rfl, hJ3, hk3⟩ | ⟨rfl, hJx3⟩)
      · gi_wp2
        go_roundw
        case rel => exact ⟨k + 1, by omega, by go_num, by rw [HZ.out.1]; exact congrArg (Value.int .i64) (by have := HZ.out.2; omega), hJ3⟩
        case measure => simp [intOf]; omega
      · gi_wp2
        refine bodyPost_ret (results_none rfl _ _ _) rfl ?_
        exact ⟨⟨_, rfl⟩, .inr ⟨_, ⟨k, hlt, rfl⟩, hJx3⟩⟩
    · obtain rfl : k = 8 := by omega
      gi_wp2
      go_end0
      exact ⟨⟨_, rfl⟩, .inl ⟨_, rfl, hJ⟩⟩

/-- what Size says -/
def sizeRes (c : Int) : Nat × Nat := if 0 ≤ c ∧ c < 8 then (classSize c.toNat, 0) else (0, 2)
theorem sizeRes_no {c : Int} (h : ∀ x ∈ szL 8, (x.1 : Int) ≠ c) : sizeRes c = (0, 2) := by
  unfold sizeRes
  rw [if_neg]
  rintro ⟨h1, h2⟩
  exact h (c.toNat, szs c.toNat) (List.mem_map.2 ⟨c.toNat, by rw [List.mem_range]; omega, rfl⟩) (by simp; omega)
theorem szs_size : ∀ k, k < 8 → szs k = classSize k := by decide
theorem szL_last {k : Nat} {p : List (Nat × Nat)} {x : Nat × Nat} (h : p ++ [x] = szL (k + 1)) : p = szL k ∧ x = (k, szs k) := by
  rw [szL_succ] at h
  have := List.append_inj' h rfl
  exact ⟨this.1, by simpa using this.2⟩
theorem sizeRes_yes {k : Nat} (h : k < 8) : sizeRes k = (szs k, 0) := by
  unfold sizeRes
  rw [if_pos (by omega), szs_size k h]
  simp

set_option maxRecDepth 100000 in
set_option maxHeartbeats 1000000 in
theorem sizes_any (w : World) : Calls Tryz.prog 217 #[] w fun e w' => e = .returned (.func (.func 246) #[] #[]) ∧ w = w' := by
  go_enter Tryz.func217, Tryz.ntmps217
  go_wp2
  go_ret
  exact ⟨rfl, rfl⟩

set_option maxRecDepth 100000 in
set_option maxHeartbeats 1000000 in
theorem class_size (c : Int) (w : World) :
    Calls Tryz.prog 182 #[.int .i64 c] w fun e w' => e = .returned (.tuple #[.int .i64 (sizeRes c).1, .int .i64 (sizeRes c).2]) ∧ Below w.heap.size w w' := by
  refine (callsIn_wide (n := 4)).1 ?_
  have h1 : 1 ≤ 4 := by omega
  have hS : Fence.wide.fn 217 := trivial
  have hs1 : ∀ W, CallsIn Fence.wide 3 Tryz.prog 217 #[] W _ := fun W => callsIn_wide.2 (sizes_any W)
  obtain ⟨R, hR⟩ : ∃ R, sizeRes c = R := ⟨_, rfl⟩
  rw [hR]
  have HR := Lib.hid hR
  clear hR
  refine callsIn_of_wp_marks Tryz.func182 rfl trivial ?_ rfl
  simp only [Tryz.ntmps182, List.size_toArray, List.length_cons, List.length_nil, Nat.reduceAdd, Nat.reduceSub, Array.replicate_succ, Array.replicate_zero, List.push_toArray, List.append_toArray, List.nil_append, List.cons_append]
  gi_wp2_with (gi_at_call 217; refine (hs1 _).mono ?_; rintro e w' ⟨rfl, rfl⟩)
  have c0 := Bx.new w (.int .i64 c) 3
  have c1 := Bx.new (w.alloc (.cells #[.int .i64 c] 3)) (.int .i64 0) 3
  have c2 := Bx.new ((w.alloc (.cells #[.int .i64 c] 3)).alloc (.cells #[.int .i64 0] 3)) (.int .i64 0) 26
  simp only [World.size_alloc] at c1 c2
  have hB0 : Below w.heap.size w (((w.alloc (.cells #[.int .i64 c] 3)).alloc (.cells #[.int .i64 0] 3)).alloc (.cells #[.int .i64 0] 26)) := (((Below.refl _ w).alloc (Nat.le_refl _) _).alloc (by simp) _).alloc (by simp; omega) _
  refine wpIn_rangeFunc_ownF rfl h1 (gf := 246) (lb := #[]) rfl trivial (enters_of Tryz.func246 (by kernel_rfl) rfl)
    (sizes_stops Fence.wide (4 - 1) trivial rfl (by omega) _) walksK_t walksK_b (Below.refl _ _) (fun _ => rfl)
    (fun pre W => ((∀ y ∈ pre, (y.1 : Int) ≠ c) ∧ Bx W w.heap.size (.int .i64 c) ∧ Bx W (w.heap.size + 1) (.int .i64 0) ∧ Bx W (w.heap.size + 1 + 1) (.int .i64 0)) ∧ Below w.heap.size w W)
    (fun cd pre W => (cd = .ret ∧ (∃ p x, pre = p ++ [x] ∧ (x.1 : Int) = c ∧ Bx W (w.heap.size + 1) (.int .i64 x.2)) ∧ Bx W (w.heap.size + 1 + 1) (.int .i64 0)) ∧ Below w.heap.size w W)
    (OwnFrom.and (Own.from (fun s A B row hs hg hr => ⟨hs.1, hs.2.1.kept hg hr, hs.2.2.1.kept hg hr, hs.2.2.2.kept hg hr⟩) _) (ownFrom_below (Nat.le_refl _) (by simp; omega)))
    (fun cd => OwnFrom.and (Own.from (fun s A B row hs hg hr => ⟨hs.1, (let ⟨p, x, h1, h2, h3⟩ := hs.2.1; ⟨p, x, h1, h2, h3.kept hg hr⟩), hs.2.2.kept hg hr⟩) _) (ownFrom_below (Nat.le_refl _) (by simp; omega)))
    ⟨⟨by simp, (c0.alloc _).alloc _, c1.alloc _, c2⟩, hB0⟩
    (fun x => { tmps := #[.int .i64 c, .pointer (some ⟨w.heap.size, 0, none⟩), .pointer (some ⟨w.heap.size + 1, 0, none⟩), .pointer (some ⟨w.heap.size + 1 + 1, 0, none⟩), .int .i64 x.1, .int .i64 x.2, .func (.func 246) #[] #[], .int .i64 x.1, .int .i64 x.2, undef, undef, undef, undef], defers := [] }) ?assign ?body ?done ?stop
  case assign =>
    intro l x W K hK
    gi_wp2
    exact hK
  case body =>
    rintro l pre x W ⟨⟨hp, hb0, hb1, hb2⟩, hB⟩ _
    have k0 := hb0.1
    obtain ⟨k1, f1⟩ := id hb1
    obtain ⟨k2, f2⟩ := id hb2
    have H0 := Lib.hid hb0
    have HH := Lib.hid (And.intro hp (And.intro hb1 (And.intro hb2 hB)))
    clear hp hb0 hb1 hb2 hB
    by_cases hx : (x.1 : Int) = c
    · have hxb : ((x.1 : Int) == c) = true := by simpa using hx
      have HX := Lib.hid hx
      clear hx
      gi_wp2
      exact ⟨(KeepsOthers.setCell _ _ _).trans (KeepsOthers.setCell _ _ _), ⟨rfl, ⟨pre, x, rfl, HX.out, (HH.out.2.1.set _).other _ (by omega)⟩, (HH.out.2.2.1.other _ (by omega)).set _⟩, (HH.out.2.2.2.setCell (p := ⟨w.heap.size + 1, 0, none⟩) (by simp) _).setCell (p := ⟨w.heap.size + 1 + 1, 0, none⟩) (by simp; omega) _⟩
    · have hxb : ((x.1 : Int) == c) = false := by simpa using hx
      have HX := Lib.hid hx
      clear hx
      gi_wp2
      exact ⟨KeepsOthers.refl _, KeepsWalks.refl _, ⟨fun y hy => (List.mem_append.1 hy).elim (HH.out.1 y) (fun e => by rw [List.mem_singleton.1 e]; exact HX.out), H0.out, HH.out.2.1, HH.out.2.2.1⟩, HH.out.2.2.2⟩
  case done =>
    rintro D ys W hD rfl ⟨⟨hp, hb0, hb1, hb2⟩, hB⟩ hK
    obtain ⟨k1, f1⟩ := id hb1
    obtain ⟨k2, f2⟩ := id hb2
    have HH := Lib.hid (And.intro hp (And.intro hb1 (And.intro hb2 hB)))
    clear hp hb1 hb2 hB
    gi_wp2
    have hK' := ((KeepsOthers.setCell W ⟨w.heap.size + 1, 0, none⟩ (.int .i64 0)).trans (KeepsOthers.setCell _ ⟨w.heap.size + 1 + 1, 0, none⟩ (.int .i64 2))).same D _ hK rfl
    refine ⟨by simp, .inl ⟨_, _, rfl, run_takeDeferred hK', ?_⟩⟩
    have r1 := (((HH.out.2.1.set (.int .i64 0)).other (.int .i64 2) (show w.heap.size + 1 ≠ w.heap.size + 1 + 1 by omega)).put (o' := .deferred none) hK' rfl).1
    have r2 := (((HH.out.2.2.1.other (.int .i64 0) (show w.heap.size + 1 + 1 ≠ w.heap.size + 1 by omega)).set (.int .i64 2)).put (o' := .deferred none) hK' rfl).1
    have hRe : R = (0, 2) := by rw [← HR.out]; exact sizeRes_no HH.out.1
    subst hRe
    refine ⟨.tuple #[.int .i64 0, .int .i64 2], ?_, rfl, ((HH.out.2.2.2.setCell (p := ⟨w.heap.size + 1, 0, none⟩) (by simp) _).setCell (p := ⟨w.heap.size + 1 + 1, 0, none⟩) (by simp; omega) _).trans (belowK_b (w := w) (Nat.le_refl _) _ D _ _ (by simp at hD; omega) hK' rfl rfl)⟩
    simp [results, Tryz.f182, go_sem, r1, r2]
  case stop =>
    rintro D cd pre W hD ⟨k, hk, rfl⟩ ⟨⟨rfl, ⟨p, x, hpx, hx, hb1⟩, hb2⟩, hB⟩ hK
    obtain ⟨_, hxe⟩ := szL_last hpx.symm
    have HH := Lib.hid hB
    have hRe : R = (x.2, 0) := by rw [← HR.out, ← hx, hxe]; exact sizeRes_yes hk
    have r1 := (hb1.put (o' := .deferred none) hK rfl).1
    have r2 := (hb2.put (o' := .deferred none) hK rfl).1
    clear hpx hx hxe hb1 hb2 hB
    subst hRe
    gi_wp2
    refine ⟨by simp, .inl ⟨_, _, rfl, run_takeDeferred hK, ?_⟩⟩
    refine ⟨.tuple #[.int .i64 x.2, .int .i64 0], ?_, rfl, HH.out.trans (belowK_b (w := w) (Nat.le_refl _) W D _ _ (by simp at hD; omega) hK rfl rfl)⟩
    simp [results, Tryz.f182, go_sem, r1, r2]

/-- what Slots says -/
def slotsRes (c : Int) : Nat × Nat := if 0 ≤ c ∧ c < 8 then (classSlots c.toNat, 0) else (0, 2)

set_option maxRecDepth 100000 in
set_option maxHeartbeats 1000000 in
theorem class_slots (c : Int) (w : World) :
    Calls Tryz.prog 133 #[.int .i64 c] w fun e w' => e = .returned (.tuple #[.int .i64 (slotsRes c).1, .int .i64 (slotsRes c).2]) ∧ Below w.heap.size w w' := by
  have hs := class_size c w
  by_cases h : 0 ≤ c ∧ c < 8
  · obtain ⟨k, rfl⟩ := Int.eq_ofNat_of_zero_le h.1
    have hk : k < 8 := by omega
    have h1 : sizeRes k = (classSize k, 0) := by unfold sizeRes; rw [if_pos h]; simp
    have h2 : slotsRes k = (62 / classSize k, 0) := by
      unfold slotsRes classSlots
      rw [if_pos h, Int.toNat_natCast, if_pos hk]
      have : ∀ k, k < 8 → sizes.getD k 1 = classSize k := by decide
      rw [this k hk]
    have h3 : 2 ≤ classSize k ∧ classSize k ≤ 28 := by
      have : ∀ k, k < 8 → 2 ≤ classSize k ∧ classSize k ≤ 28 := by decide
      exact this k hk
    rw [h1] at hs
    rw [h2]
    have HS := Lib.hid hs
    clear hs h1 h2 h
    generalize classSize k = z at *
    obtain ⟨h4, h5⟩ := h3
    go_enter Tryz.func133, Tryz.ntmps133
    go_wp2_with fail
    refine HS.out.mono ?_
    rintro e w1 ⟨rfl, hb⟩
    go_wp2_with fail
    go_ret2
    exact ⟨rfl, hb⟩
  · have h1 : sizeRes c = (0, 2) := by unfold sizeRes; rw [if_neg h]
    have h2 : slotsRes c = (0, 2) := by unfold slotsRes; rw [if_neg h]
    rw [h1] at hs
    rw [h2]
    have HS := Lib.hid hs
    clear hs h1 h2 h
    go_enter Tryz.func133, Tryz.ntmps133
    go_wp2_with fail
    refine HS.out.mono ?_
    rintro e w1 ⟨rfl, hb⟩
    go_wp2_with fail
    go_ret2
    exact ⟨rfl, hb⟩
end Go.Proofs.YtepdkbmnkjfcpaaGreatDoor
