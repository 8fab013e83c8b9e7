import Derived.Test.YtcibkdbpicledaaGreatDoorWab
import Derived.RangeFuncNested
import Derived.RangeFuncBound
import Derived.RangeFuncCalls
import Derived.RangeFuncLeaves
import Derived.RangeFuncMany
import Derived.RangeFuncFrom
import Derived.Shelf.Abstract
import Derived.Shelf.RegionOpen
import Derived.OwnWalkIn
import Derived.TacticsInMore
import Derived.LoopNIn
import Derived.LoopIn
import Derived.Shelf.Small.Bits
import Derived.Shelf.Small.Strs
import Derived.Shelf.Strconv.Itoa0
import Derived.Ground.Names2Prog
import Derived.Shelf.Spec.TrailingZeros
import Derived.Ground.Names7Prog
import Derived.Shelf.SlIterI.Nil
import Derived.Shelf.SortM.Plain
import Derived.Shelf.SortM.SortNone
import Derived.Ground.GgzProg
import Derived.Ground.SlgmProg
import Derived.Laws.Bits64
import Derived.Laws.Bits64b
import Derived.Laws.BitsAllLaws
set_option maxRecDepth 100000
set_option maxHeartbeats 1000000
namespace Go.Proofs.YtcibkdbpicledaaGreatDoor
open Go.RowKit Go.BigFrame Lf
open Go.Shelf
attribute [local go_sem] Oper.semAt_some
def Bx (W : World) (B : Nat) (v : Value) : Prop := W.cell? ⟨B, 0, none⟩ = some v ∧ W.frozen? ⟨B, 0, none⟩ = false
theorem Bx.new (W : World) (v : Value) (t : TypeId) : Bx (W.alloc (.cells #[v] t)) W.heap.size v := by
 have h : (W.alloc (.cells #[v] t)).heap[W.heap.size]? = some (.cells #[v] t (0, 0)) := by show (W.heap.push _)[W.heap.size]? = _; simp
 exact ⟨by rw [cell_of_block h]; rfl, frozen_of_block h⟩
theorem Bx.kept {W W' : World} {row : Option Nat} {B : Nat} {v : Value} (h : Bx W B v) (hg : W.grownBy W' row) (hr : ∀ r, row = some r → ∃ o : Obj, W.heap[r]? = some o ∧ o.isCells = false) : Bx W' B v :=
 ⟨cell_kept h.1 hg hr, (frozen_kept h.1 hg hr).trans h.2⟩
theorem Bx.alloc {W : World} {B : Nat} {v : Value} (h : Bx W B v) (o : Obj) : Bx (W.alloc o) B v := h.kept (World.grownBy_alloc W o none) (fun r e => by cases e)
theorem Bx.set {W : World} {B : Nat} {v : Value} (h : Bx W B v) (u : Value) : Bx (W.setCell ⟨B, 0, none⟩ u) B u :=
 ⟨World.cell?_setCell_same' _ _ _ (by rw [h.1]; rfl), by rw [World.frozen?_setCell]; exact h.2⟩
theorem Bx.other {W : World} {B C : Nat} {v : Value} (h : Bx W B v) (u : Value) (hne : B ≠ C) : Bx (W.setCell ⟨C, 0, none⟩ u) B v := by
 refine ⟨?_, by rw [World.frozen?_setCell]; exact h.2⟩
 have e : (W.setCell ⟨C, 0, none⟩ u).cell? ⟨B, 0, none⟩ = W.cell? ⟨B, 0, none⟩ := World.cell?_of_block (Below.heap_setCell W ⟨C, 0, none⟩ u B hne)
 rw [e]
 exact h.1
theorem Bx.put {W : World} {B D : Nat} {v : Value} {o o' : Obj} (h : Bx W B v) (hD : W.heap[D]? = some o) (ho : o.isCells = false) : Bx (W.putObj D o') B v :=
 h.kept (grownBy_putObj' W D o') (fun r e => by cases e; exact ⟨o, hD, ho⟩)
theorem Bx.below {W W' : World} {B n : Nat} {v : Value} (h : Bx W B v) (hb : Below n W W') (hB : B < n) : Bx W' B v :=
 ⟨(hb.cell (p := ⟨B, 0, none⟩) hB).trans h.1, (hb.frozen (p := ⟨B, 0, none⟩) hB).trans h.2⟩
def szs (k : Nat) : Nat := [2, 3, 4, 6, 9, 13, 19, 28, 42].getD k 0
abbrev encP (p : Nat × Nat) : Array Value := #[.int .i64 p.1, .int .i64 p.2]
def szL (k : Nat) : List (Nat × Nat) := (List.range k).map fun i => (i, szs i)
theorem szL_succ (k : Nat) : szL (k + 1) = szL k ++ [(k, szs k)] := by simp [szL, List.range_succ]
theorem szL_length (k : Nat) : (szL k).length = k := by simp [szL]
theorem szs_step : ∀ k, k < 8 → 2 ≤ szs k ∧ szs k ≤ 28 ∧ szs (k + 1) = szs k + max (szs k / 2) 1 := by decide
theorem sizes_stops (F : Fence) (n : Nat) (hg : F.fn 169) (hro : F.round = none) (hn : 1 ≤ n) (w : World) :
 SeqStopsA F n Tryz.prog 169 #[] encP (fun xs => xs = szL 8) (fun pre => ∃ k, k < 8 ∧ pre = szL (k + 1)) 8 w := fun l J Jx W _ _ _ hY h0 => by
 refine callsIn_of_wp Tryz.func169 rfl hg ?_ hro
 simp only [Tryz.ntmps169, List.size_toArray, List.length_cons, List.length_nil, Nat.reduceAdd, Nat.reduceSub, Array.replicate_succ, Array.replicate_zero, List.push_toArray, List.append_toArray, List.nil_append, List.cons_append]
 gi_wp2
 gi_loopw [2, 3] (fun c x wr => ∃ k : Nat, k ≤ 8 ∧ c = .int .i64 k ∧ x = .int .i64 (szs k) ∧ J (szL k) wr) (fun c _ _ => 8 - (intOf c).toNat)
 case atStart => exact ⟨0, by omega, rfl, rfl, h0⟩
 case round =>
  obtain ⟨k, hk, rfl, rfl, hJ⟩ := hrel
  by_cases hlt : k < 8
  · obtain ⟨fn, tmps, assign, body, hy, hR⟩ := hY (szL k) (k, szs k) wr hJ (by rw [szL_length]; exact hlt)
    rw [← szL_succ] at hR
    obtain ⟨h1, h2, h3⟩ := szs_step k hlt
    have h4 : ((szs (k + 1) : Nat) : Int) = (szs k : Int) + max ((szs k : Int) / 2) 1 := by rw [h3]; omega
    generalize szs k = z at *
    generalize hze : szs (k + 1) = z1 at *
    have HZ := kq2 hze h4
    clear hze h4 h3
    dsimp only [encP] at hy
    gi_wp2
    refine hR.mono ?_
    rintro e W3 (⟨rfl, hJ3, hk3⟩ | ⟨rfl, hJx3⟩)
    · gi_wp2
      go_roundw
      case rel => exact ⟨k + 1, by omega, by go_num, by rw [HZ.out.1]; exact congrArg (Value.int .i64) (by have := HZ.out.2; omega), hJ3⟩
      case measure => simp [intOf]; omega
    · gi_wp2
      refine bodyPost_ret (results_none rfl _ _ _) rfl ?_
      exact ⟨⟨_, rfl⟩, .inr ⟨_, ⟨k, hlt, rfl⟩, hJx3⟩⟩
  · obtain rfl : k = 8 := by omega
    gi_wp2
    go_end0
    exact ⟨⟨_, rfl⟩, .inl ⟨_, rfl, hJ⟩⟩
def sizeRes (c : Int) : Nat × Nat := if 0 ≤ c ∧ c < 8 then (classSize c.toNat, 0) else (0, 2)
theorem sizeRes_no {c : Int} (h : ∀ x ∈ szL 8, (x.1 : Int) ≠ c) : sizeRes c = (0, 2) := by
 unfold sizeRes
 rw [if_neg]
 rintro ⟨h1, h2⟩
 exact h (c.toNat, szs c.toNat) (List.mem_map.2 ⟨c.toNat, by rw [List.mem_range]; omega, rfl⟩) (by simp; omega)
theorem szs_size : ∀ k, k < 8 → szs k = classSize k := by decide
theorem szL_last {k : Nat} {p : List (Nat × Nat)} {x : Nat × Nat} (h : p ++ [x] = szL (k + 1)) : p = szL k ∧ x = (k, szs k) := by
 rw [szL_succ] at h
 have := List.append_inj' h rfl
 exact ⟨this.1, by simpa using this.2⟩
theorem sizeRes_yes {k : Nat} (h : k < 8) : sizeRes k = (szs k, 0) := by
 unfold sizeRes
 rw [if_pos (by omega), szs_size k h]
 simp
theorem sizes_any (w : World) : Calls Tryz.prog 141 #[] w fun e w' => e = .returned (.func (.func 169) #[] #[]) ∧ w = w' := by
 go_enter Tryz.func141, Tryz.ntmps141
 go_wp2
 go_ret
 exact ⟨rfl, rfl⟩
theorem class_size (c : Int) (w : World) :
 Calls Tryz.prog 146 #[.int .i64 c] w fun e w' => e = .returned (.tuple #[.int .i64 (sizeRes c).1, .int .i64 (sizeRes c).2]) ∧ Below w.heap.size w w' := by
 refine (callsIn_wide (n := 4)).1 ?_
 have h1 : 1 ≤ 4 := by omega
 have hS : Fence.wide.fn 141 := trivial
 have hs1 : ∀ W, CallsIn Fence.wide 3 Tryz.prog 141 #[] W _ := fun W => callsIn_wide.2 (sizes_any W)
 obtain ⟨R, hR⟩ : ∃ R, sizeRes c = R := ⟨_, rfl⟩
 rw [hR]
 have HR := Lib.hid hR
 clear hR
 refine callsIn_of_wp_marks Tryz.func146 rfl trivial ?_ rfl
 simp only [Tryz.ntmps146, List.size_toArray, List.length_cons, List.length_nil, Nat.reduceAdd, Nat.reduceSub, Array.replicate_succ, Array.replicate_zero, List.push_toArray, List.append_toArray, List.nil_append, List.cons_append]
 gi_wp2_with (gi_at_call 141; refine (hs1 _).mono ?_; rintro e w' ⟨rfl, rfl⟩)
 have c0 := Bx.new w (.int .i64 c) 3
 have c1 := Bx.new (w.alloc (.cells #[.int .i64 c] 3)) (.int .i64 0) 3
 have c2 := Bx.new ((w.alloc (.cells #[.int .i64 c] 3)).alloc (.cells #[.int .i64 0] 3)) (.int .i64 0) 30
 simp only [World.size_alloc] at c1 c2
 have hB0 : Below w.heap.size w (((w.alloc (.cells #[.int .i64 c] 3)).alloc (.cells #[.int .i64 0] 3)).alloc (.cells #[.int .i64 0] 30)) := (((Below.refl _ w).alloc (Nat.le_refl _) _).alloc (by simp) _).alloc (by simp; omega) _
 refine wpIn_rangeFunc_ownF rfl h1 (gf := 169) (lb := #[]) rfl trivial (enters_of Tryz.func169 (by kernel_rfl) rfl)
  (sizes_stops Fence.wide (4 - 1) trivial rfl (by omega) _) walksK_t walksK_b (Below.refl _ _) (fun _ => rfl)
  (fun pre W => ((∀ y ∈ pre, (y.1 : Int) ≠ c) ∧ Bx W w.heap.size (.int .i64 c) ∧ Bx W (w.heap.size + 1) (.int .i64 0) ∧ Bx W (w.heap.size + 1 + 1) (.int .i64 0)) ∧ Below w.heap.size w W)
  (fun cd pre W => (cd = .ret ∧ (∃ p x, pre = p ++ [x] ∧ (x.1 : Int) = c ∧ Bx W (w.heap.size + 1) (.int .i64 x.2)) ∧ Bx W (w.heap.size + 1 + 1) (.int .i64 0)) ∧ Below w.heap.size w W)
  (OwnFrom.and (Own.from (fun s A B row hs hg hr => ⟨hs.1, hs.2.1.kept hg hr, hs.2.2.1.kept hg hr, hs.2.2.2.kept hg hr⟩) _) (ownFrom_below (Nat.le_refl _) (by simp; omega)))
  (fun cd => OwnFrom.and (Own.from (fun s A B row hs hg hr => ⟨hs.1, (let ⟨p, x, h1, h2, h3⟩ := hs.2.1; ⟨p, x, h1, h2, h3.kept hg hr⟩), hs.2.2.kept hg hr⟩) _) (ownFrom_below (Nat.le_refl _) (by simp; omega)))
  ⟨⟨by simp, (c0.alloc _).alloc _, c1.alloc _, c2⟩, hB0⟩
  (fun x => { tmps := #[.int .i64 c, .pointer (some ⟨w.heap.size, 0, none⟩), .pointer (some ⟨w.heap.size + 1, 0, none⟩), .pointer (some ⟨w.heap.size + 1 + 1, 0, none⟩), .int .i64 x.1, .int .i64 x.2, .func (.func 169) #[] #[], .int .i64 x.1, .int .i64 x.2, undef, undef, undef, undef], defers := [] }) ?assign ?body ?done ?stop
 case assign =>
  intro l x W K hK
  gi_wp2
  exact hK
 case body =>
  rintro l pre x W ⟨⟨hp, hb0, hb1, hb2⟩, hB⟩ _
  have k0 := hb0.1
  obtain ⟨k1, f1⟩ := id hb1
  obtain ⟨k2, f2⟩ := id hb2
  have H0 := Lib.hid hb0
  have HH := kq4 hp hb1 hb2 hB
  clear hp hb0 hb1 hb2 hB
  by_cases hx : (x.1 : Int) = c
  · have hxb : ((x.1 : Int) == c) = true := by simpa using hx
    have HX := Lib.hid hx
    clear hx
    gi_wp2
    exact ⟨(KeepsOthers.setCell _ _ _).trans (KeepsOthers.setCell _ _ _), ⟨rfl, ⟨pre, x, rfl, HX.out, (HH.out.2.1.set _).other _ (by omega)⟩, (HH.out.2.2.1.other _ (by omega)).set _⟩, (HH.out.2.2.2.setCell (p := ⟨w.heap.size + 1, 0, none⟩) (by simp) _).setCell (p := ⟨w.heap.size + 1 + 1, 0, none⟩) (by simp; omega) _⟩
  · have hxb : ((x.1 : Int) == c) = false := by simpa using hx
    have HX := Lib.hid hx
    clear hx
    gi_wp2
    exact ⟨KeepsOthers.refl _, KeepsWalks.refl _, ⟨fun y hy => (List.mem_append.1 hy).elim (HH.out.1 y) (fun e => by rw [List.mem_singleton.1 e]; exact HX.out), H0.out, HH.out.2.1, HH.out.2.2.1⟩, HH.out.2.2.2⟩
 case done =>
  rintro D ys W hD rfl ⟨⟨hp, hb0, hb1, hb2⟩, hB⟩ hK
  obtain ⟨k1, f1⟩ := id hb1
  obtain ⟨k2, f2⟩ := id hb2
  have HH := kq4 hp hb1 hb2 hB
  clear hp hb1 hb2 hB
  gi_wp2
  have hK' := ((KeepsOthers.setCell W ⟨w.heap.size + 1, 0, none⟩ (.int .i64 0)).trans (KeepsOthers.setCell _ ⟨w.heap.size + 1 + 1, 0, none⟩ (.int .i64 2))).same D _ hK rfl
  refine ⟨by simp, .inl ⟨_, _, rfl, run_takeDeferred hK', ?_⟩⟩
  have r1 := (((HH.out.2.1.set (.int .i64 0)).other (.int .i64 2) (show w.heap.size + 1 ≠ w.heap.size + 1 + 1 by omega)).put (o' := .deferred none) hK' rfl).1
  have r2 := (((HH.out.2.2.1.other (.int .i64 0) (show w.heap.size + 1 + 1 ≠ w.heap.size + 1 by omega)).set (.int .i64 2)).put (o' := .deferred none) hK' rfl).1
  have hRe : R = (0, 2) := by rw [← HR.out]; exact sizeRes_no HH.out.1
  subst hRe
  refine ⟨.tuple #[.int .i64 0, .int .i64 2], ?_, rfl, ((HH.out.2.2.2.setCell (p := ⟨w.heap.size + 1, 0, none⟩) (by simp) _).setCell (p := ⟨w.heap.size + 1 + 1, 0, none⟩) (by simp; omega) _).trans (belowK_b (w := w) (Nat.le_refl _) _ D _ _ (by simp at hD; omega) hK' rfl rfl)⟩
  simp [results, Tryz.f146, go_sem, r1, r2]
 case stop =>
  rintro D cd pre W hD ⟨k, hk, rfl⟩ ⟨⟨rfl, ⟨p, x, hpx, hx, hb1⟩, hb2⟩, hB⟩ hK
  obtain ⟨_, hxe⟩ := szL_last hpx.symm
  have HH := Lib.hid hB
  have hRe : R = (x.2, 0) := by rw [← HR.out, ← hx, hxe]; exact sizeRes_yes hk
  have r1 := (hb1.put (o' := .deferred none) hK rfl).1
  have r2 := (hb2.put (o' := .deferred none) hK rfl).1
  clear hpx hx hxe hb1 hb2 hB
  subst hRe
  gi_wp2
  refine ⟨by simp, .inl ⟨_, _, rfl, run_takeDeferred hK, ?_⟩⟩
  refine ⟨.tuple #[.int .i64 x.2, .int .i64 0], ?_, rfl, HH.out.trans (belowK_b (w := w) (Nat.le_refl _) W D _ _ (by simp at hD; omega) hK rfl rfl)⟩
  simp [results, Tryz.f146, go_sem, r1, r2]
def slotsRes (c : Int) : Nat × Nat := if 0 ≤ c ∧ c < 8 then (classSlots c.toNat, 0) else (0, 2)
theorem class_slots (c : Int) (w : World) :
 Calls Tryz.prog 129 #[.int .i64 c] w fun e w' => e = .returned (.tuple #[.int .i64 (slotsRes c).1, .int .i64 (slotsRes c).2]) ∧ Below w.heap.size w w' := by
 have hs := class_size c w
 by_cases h : 0 ≤ c ∧ c < 8
 · obtain ⟨k, rfl⟩ := Int.eq_ofNat_of_zero_le h.1
   have hk : k < 8 := by omega
   have h1 : sizeRes k = (classSize k, 0) := by unfold sizeRes; rw [if_pos h]; simp
   have h2 : slotsRes k = (62 / classSize k, 0) := by
    unfold slotsRes classSlots
    rw [if_pos h, Int.toNat_natCast, if_pos hk]
    have : ∀ k, k < 8 → sizes.getD k 1 = classSize k := by decide
    rw [this k hk]
   have h3 : 2 ≤ classSize k ∧ classSize k ≤ 28 := by
    have : ∀ k, k < 8 → 2 ≤ classSize k ∧ classSize k ≤ 28 := by decide
    exact this k hk
   rw [h1] at hs
   rw [h2]
   have HS := Lib.hid hs
   clear hs h1 h2 h
   generalize classSize k = z at *
   obtain ⟨h4, h5⟩ := h3
   go_enter Tryz.func129, Tryz.ntmps129
   go_wp2_with fail
   refine HS.out.mono ?_
   rintro e w1 ⟨rfl, hb⟩
   go_wp2_with fail
   go_ret2
   exact ⟨rfl, hb⟩
 · have h1 : sizeRes c = (0, 2) := by unfold sizeRes; rw [if_neg h]
   have h2 : slotsRes c = (0, 2) := by unfold slotsRes; rw [if_neg h]
   rw [h1] at hs
   rw [h2]
   have HS := Lib.hid hs
   clear hs h1 h2 h
   go_enter Tryz.func129, Tryz.ntmps129
   go_wp2_with fail
   refine HS.out.mono ?_
   rintro e w1 ⟨rfl, hb⟩
   go_wp2_with fail
   go_ret2
   exact ⟨rfl, hb⟩
attribute [local go_sem] Oper.semAt_some
def ofRes (x : Int) : Nat × Bool × Nat :=
 if x < 1 ∨ 4000 < x then (0, false, 2) else match classOf x.toNat with | some c => (c, true, 0) | none => (0, false, 0)
theorem ofRes_out {x : Int} (h : x < 1 ∨ 4000 < x) : ofRes x = (0, false, 2) := by unfold ofRes; rw [if_pos h]
theorem szs_get : ∀ k, k < 8 → szs k = sizes.getD k 0 := by decide
theorem classOf_some {n k : Nat} (hk : k < 8) (h1 : n ≤ szs k) (h2 : ∀ i, i < k → szs i < n) : classOf n = some k := by
 unfold classOf
 rw [List.find?_range_eq_some]
 refine ⟨by rw [← szs_get k hk]; simpa using h1, by simpa using hk, fun j hj => ?_⟩
 have := h2 j hj
 rw [← szs_get j (by omega)]
 simp
 omega
theorem classOf_none {n : Nat} (h : ∀ i, i < 8 → szs i < n) : classOf n = none := by
 unfold classOf
 rw [List.find?_eq_none]
 intro j hj
 have hj' : j < 8 := by simpa using hj
 have := h j hj'
 rw [← szs_get j hj']
 simp
 omega
theorem ofRes_large {x : Int} (h1 : 1 ≤ x) (h2 : x ≤ 4000) (h : ∀ y ∈ szL 8, (y.2 : Int) < x) : ofRes x = (0, false, 0) := by
 have : classOf x.toNat = none := classOf_none fun i hi => by
  have := h (i, szs i) (List.mem_map.2 ⟨i, by simpa using hi, rfl⟩)
  simp only at this
  omega
 unfold ofRes
 rw [if_neg (by omega), this]
theorem ofRes_small {x : Int} (h1 : 1 ≤ x) (h2 : x ≤ 4000) {k : Nat} (hk : k < 8) (h : ∀ y ∈ szL k, (y.2 : Int) < x) (h3 : x ≤ szs k) : ofRes x = (k, true, 0) := by
 have : classOf x.toNat = some k := classOf_some hk (by omega) fun i hi => by
  have := h (i, szs i) (List.mem_map.2 ⟨i, by simpa using hi, rfl⟩)
  simp only at this
  omega
 unfold ofRes
 rw [if_neg (by omega), this]
def Less (x : Int) (pre : List (Nat × Nat)) : Prop := ∀ y ∈ pre, (y.2 : Int) < x
theorem class_of_in (x : Int) (w : World) (hx1 : 1 ≤ x) (hx2 : x ≤ 4000) :
 Calls Tryz.prog 111 #[.int .i64 x] w fun e w' => e = .returned (.tuple #[.int .i64 (ofRes x).1, .bool (ofRes x).2.1, .int .i64 (ofRes x).2.2]) ∧ Below w.heap.size w w' := by
 refine (callsIn_wide (n := 4)).1 ?_
 have h1 : 1 ≤ 4 := by omega
 have hS : Fence.wide.fn 141 := trivial
 have hs1 : ∀ W, CallsIn Fence.wide 3 Tryz.prog 141 #[] W _ := fun W => callsIn_wide.2 (sizes_any W)
 obtain ⟨R, hR⟩ : ∃ R, ofRes x = R := ⟨_, rfl⟩
 rw [hR]
 have HR := Lib.hid hR
 clear hR
 have hd1 : decide (x < 1) = false := by simp; omega
 have hd2 : decide (4000 < x) = false := by simp; omega
 refine callsIn_of_wp_marks Tryz.func111 rfl trivial ?_ rfl
 simp only [Tryz.ntmps111, List.size_toArray, List.length_cons, List.length_nil, Nat.reduceAdd, Nat.reduceSub, Array.replicate_succ, Array.replicate_zero, List.push_toArray, List.append_toArray, List.nil_append, List.cons_append]
 gi_wp2_with (gi_at_call 141; refine (hs1 _).mono ?_; rintro e w' ⟨rfl, rfl⟩)
 have c0 := Bx.new w (.int .i64 x) 3
 have c1 := Bx.new (w.alloc (.cells #[.int .i64 x] 3)) (.int .i64 0) 3
 have c2 := Bx.new ((w.alloc (.cells #[.int .i64 x] 3)).alloc (.cells #[.int .i64 0] 3)) (.bool false) 4
 have c3 := Bx.new (((w.alloc (.cells #[.int .i64 x] 3)).alloc (.cells #[.int .i64 0] 3)).alloc (.cells #[.bool false] 4)) (.int .i64 0) 30
 simp only [World.size_alloc] at c1 c2 c3
 have hB0 : Below w.heap.size w ((((w.alloc (.cells #[.int .i64 x] 3)).alloc (.cells #[.int .i64 0] 3)).alloc (.cells #[.bool false] 4)).alloc (.cells #[.int .i64 0] 30)) := ((((Below.refl _ w).alloc (Nat.le_refl _) _).alloc (by simp) _).alloc (by simp; omega) _).alloc (by simp; omega) _
 refine wpIn_rangeFunc_ownF rfl h1 (gf := 169) (lb := #[]) rfl trivial (enters_of Tryz.func169 (by kernel_rfl) rfl)
  (sizes_stops Fence.wide (4 - 1) trivial rfl (by omega) _) walksK_t walksK_b (Below.refl _ _) (fun _ => rfl)
  (fun pre W => (Less x pre ∧ Bx W w.heap.size (.int .i64 x) ∧ Bx W (w.heap.size + 1) (.int .i64 0) ∧ Bx W (w.heap.size + 1 + 1) (.bool false) ∧ Bx W (w.heap.size + 1 + 1 + 1) (.int .i64 0)) ∧ Below w.heap.size w W)
  (fun cd pre W => (cd = .ret ∧ (∃ p y, pre = p ++ [y] ∧ Less x p ∧ x ≤ (y.2 : Int) ∧ Bx W (w.heap.size + 1) (.int .i64 y.1)) ∧ Bx W (w.heap.size + 1 + 1) (.bool true) ∧ Bx W (w.heap.size + 1 + 1 + 1) (.int .i64 0)) ∧ Below w.heap.size w W)
  (OwnFrom.and (Own.from (fun s A B row hs hg hr => ⟨hs.1, hs.2.1.kept hg hr, hs.2.2.1.kept hg hr, hs.2.2.2.1.kept hg hr, hs.2.2.2.2.kept hg hr⟩) _) (ownFrom_below (Nat.le_refl _) (by simp; omega)))
  (fun cd => OwnFrom.and (Own.from (fun s A B row hs hg hr => ⟨hs.1, (let ⟨p, y, k1, k2, k3, k4⟩ := hs.2.1; ⟨p, y, k1, k2, k3, k4.kept hg hr⟩), hs.2.2.1.kept hg hr, hs.2.2.2.kept hg hr⟩) _) (ownFrom_below (Nat.le_refl _) (by simp; omega)))
  ⟨⟨fun y hy => absurd hy (by simp), ((c0.alloc _).alloc _).alloc _, (c1.alloc _).alloc _, c2.alloc _, c3⟩, hB0⟩
  (fun y => { tmps := #[.int .i64 x, .pointer (some ⟨w.heap.size, 0, none⟩), .pointer (some ⟨w.heap.size + 1, 0, none⟩), .pointer (some ⟨w.heap.size + 1 + 1, 0, none⟩), .pointer (some ⟨w.heap.size + 1 + 1 + 1, 0, none⟩), .int .i64 y.1, .int .i64 y.2, .int .i64 x, .bool false, .bool false, .int .i64 x, .bool false, .bool false, .func (.func 169) #[] #[], .int .i64 y.1, .int .i64 y.2, undef, undef, undef, undef], defers := [] }) ?assign ?body ?done ?stop
 case assign =>
  intro l y W K hK
  gi_wp2
  exact hK
 case body =>
  rintro l pre y W ⟨⟨hp, hb0, hb1, hb2, hb3⟩, hB⟩ _
  have k0 := hb0.1
  obtain ⟨k1, f1⟩ := id hb1
  obtain ⟨k2, f2⟩ := id hb2
  obtain ⟨k3, f3⟩ := id hb3
  have H0 := Lib.hid hb0
  have HH := kq5 hp hb1 hb2 hb3 hB
  clear hp hb0 hb1 hb2 hb3 hB
  by_cases hx : x ≤ (y.2 : Int)
  · gi_wp2
    exact ⟨((KeepsOthers.setCell _ _ _).trans (KeepsOthers.setCell _ _ _)).trans (KeepsOthers.setCell _ _ _), ⟨rfl, ⟨pre, y, rfl, HH.out.1, hx, ((HH.out.2.1.set _).other _ (by omega)).other _ (by omega)⟩, ((HH.out.2.2.1.other _ (by omega)).set _).other _ (by omega), ((HH.out.2.2.2.1.other _ (by omega)).other _ (by omega)).set _⟩, ((HH.out.2.2.2.2.setCell (p := ⟨w.heap.size + 1, 0, none⟩) (by simp) _).setCell (p := ⟨w.heap.size + 1 + 1, 0, none⟩) (by simp; omega) _).setCell (p := ⟨w.heap.size + 1 + 1 + 1, 0, none⟩) (by simp; omega) _⟩
  · have HX := Lib.hid hx
    gi_wp2
    exact ⟨KeepsOthers.refl _, KeepsWalks.refl _, ⟨fun z hz => (List.mem_append.1 hz).elim (HH.out.1 z) (fun e => by rw [List.mem_singleton.1 e]; have := HX.out; omega), H0.out, HH.out.2.1, HH.out.2.2.1, HH.out.2.2.2.1⟩, HH.out.2.2.2.2⟩
 case done =>
  rintro D ys W hD rfl ⟨⟨hp, hb0, hb1, hb2, hb3⟩, hB⟩ hK
  obtain ⟨k1, f1⟩ := id hb1
  obtain ⟨k2, f2⟩ := id hb2
  obtain ⟨k3, f3⟩ := id hb3
  have HH := kq5 hp hb1 hb2 hb3 hB
  clear hp hb1 hb2 hb3 hB
  gi_wp2
  have hK' := (((KeepsOthers.setCell W ⟨w.heap.size + 1, 0, none⟩ (.int .i64 0)).trans (KeepsOthers.setCell _ ⟨w.heap.size + 1 + 1, 0, none⟩ (.bool false))).trans (KeepsOthers.setCell _ ⟨w.heap.size + 1 + 1 + 1, 0, none⟩ (.int .i64 0))).same D _ hK rfl
  refine ⟨by simp, .inl ⟨_, _, rfl, run_takeDeferred hK', ?_⟩⟩
  have r1 := ((((HH.out.2.1.set (.int .i64 0)).other (.bool false) (show w.heap.size + 1 ≠ w.heap.size + 1 + 1 by omega)).other (.int .i64 0) (show w.heap.size + 1 ≠ w.heap.size + 1 + 1 + 1 by omega)).put (o' := .deferred none) hK' rfl).1
  have r2 := ((((HH.out.2.2.1.other (.int .i64 0) (show w.heap.size + 1 + 1 ≠ w.heap.size + 1 by omega)).set (.bool false)).other (.int .i64 0) (show w.heap.size + 1 + 1 ≠ w.heap.size + 1 + 1 + 1 by omega)).put (o' := .deferred none) hK' rfl).1
  have r3 := ((((HH.out.2.2.2.1.other (.int .i64 0) (show w.heap.size + 1 + 1 + 1 ≠ w.heap.size + 1 by omega)).other (.bool false) (show w.heap.size + 1 + 1 + 1 ≠ w.heap.size + 1 + 1 by omega)).set (.int .i64 0)).put (o' := .deferred none) hK' rfl).1
  have hRe : R = (0, false, 0) := by rw [← HR.out]; exact ofRes_large hx1 hx2 HH.out.1
  subst hRe
  refine ⟨.tuple #[.int .i64 0, .bool false, .int .i64 0], ?_, rfl, (((HH.out.2.2.2.2.setCell (p := ⟨w.heap.size + 1, 0, none⟩) (by simp) _).setCell (p := ⟨w.heap.size + 1 + 1, 0, none⟩) (by simp; omega) _).setCell (p := ⟨w.heap.size + 1 + 1 + 1, 0, none⟩) (by simp; omega) _).trans (belowK_b (w := w) (Nat.le_refl _) _ D _ _ (by simp at hD; omega) hK' rfl rfl)⟩
  simp [results, Tryz.f111, go_sem, r1, r2, r3]
 case stop =>
  rintro D cd pre W hD ⟨k, hk, rfl⟩ ⟨⟨rfl, ⟨p, y, hpx, hp, hx, hb1⟩, hb2, hb3⟩, hB⟩ hK
  obtain ⟨hpe, hxe⟩ := szL_last hpx.symm
  have HH := Lib.hid hB
  have hRe : R = (y.1, true, 0) := by rw [← HR.out]; rw [hpe] at hp; rw [hxe] at hx ⊢; exact ofRes_small hx1 hx2 hk hp hx
  have r1 := (hb1.put (o' := .deferred none) hK rfl).1
  have r2 := (hb2.put (o' := .deferred none) hK rfl).1
  have r3 := (hb3.put (o' := .deferred none) hK rfl).1
  clear hpx hx hxe hpe hp hb1 hb2 hb3 hB
  subst hRe
  gi_wp2
  refine ⟨by simp, .inl ⟨_, _, rfl, run_takeDeferred hK, ?_⟩⟩
  refine ⟨.tuple #[.int .i64 y.1, .bool true, .int .i64 0], ?_, rfl, HH.out.trans (belowK_b (w := w) (Nat.le_refl _) W D _ _ (by simp at hD; omega) hK rfl rfl)⟩
  simp [results, Tryz.f111, go_sem, r1, r2, r3]
theorem below4 (w : World) (a b c d : Obj) : Below w.heap.size w ((((w.alloc a).alloc b).alloc c).alloc d) :=
 ((((Below.refl _ w).alloc (Nat.le_refl _) _).alloc (by simp) _).alloc (by simp; omega) _).alloc (by simp; omega) _
theorem class_of_out (x : Int) (w : World) (hx : x < 1 ∨ 4000 < x) :
 Calls Tryz.prog 111 #[.int .i64 x] w fun e w' => e = .returned (.tuple #[.int .i64 (ofRes x).1, .bool (ofRes x).2.1, .int .i64 (ofRes x).2.2]) ∧ Below w.heap.size w w' := by
 rw [ofRes_out hx]
 rcases hx with hx | hx
 · go_enter Tryz.func111, Tryz.ntmps111
   go_wp2_with fail
   exact bodyPost_ret (v := .tuple #[.int .i64 0, .bool false, .int .i64 2]) (by simp [results, Tryz.f111, go_sem]) rfl ⟨rfl, below4 w _ _ _ _⟩
 · have h1 : 1 ≤ x := by omega
   go_enter Tryz.func111, Tryz.ntmps111
   go_wp2_with fail
   exact bodyPost_ret (v := .tuple #[.int .i64 0, .bool false, .int .i64 2]) (by simp [results, Tryz.f111, go_sem]) rfl ⟨rfl, below4 w _ _ _ _⟩
theorem class_of (x : Int) (w : World) :
 Calls Tryz.prog 111 #[.int .i64 x] w fun e w' => e = .returned (.tuple #[.int .i64 (ofRes x).1, .bool (ofRes x).2.1, .int .i64 (ofRes x).2.2]) ∧ Below w.heap.size w w' := by
 by_cases h : x < 1 ∨ 4000 < x
 · exact class_of_out x w h
 · exact class_of_in x w (by omega) (by omega)
theorem ofRes_nat (n : Nat) : (n < 1 ∨ 4000 < n) ∧ ofRes n = (0, false, 2) ∧ classPages n = 0 ∨ (1 ≤ n ∧ n ≤ 4000) ∧ ((∃ c, classOf n = some c ∧ ofRes n = (c, true, 0) ∧ classPages n = 1) ∨ (classOf n = none ∧ ofRes n = (0, false, 0) ∧ classPages n = (n + 65) / 64)) := by
 by_cases h : n < 1 ∨ 4000 < n
 · exact Or.inl ⟨h, ofRes_out (by omega), by unfold classPages; rw [if_pos h]⟩
 · refine Or.inr ⟨by omega, ?_⟩
   have h1 : ¬ ((n : Int) < 1 ∨ 4000 < (n : Int)) := by omega
   unfold ofRes classPages
   rw [if_neg h1, if_neg h, Int.toNat_natCast]
   cases classOf n with
   | none => exact Or.inr ⟨rfl, rfl, rfl⟩
   | some c => exact Or.inl ⟨c, rfl, rfl, rfl⟩
theorem class_pages (n : Nat) (w : World) (hn : n ≤ 4000) (h1 : 1 ≤ n) :
 Calls Tryz.prog 112 #[.int .i64 n] w fun e w' => e = .returned (.tuple #[.int .i64 (classPages n : Nat), .int .i64 0]) ∧ Below w.heap.size w w' := by
 have ho := class_of n w
 rcases ofRes_nat n with ⟨h, _⟩ | ⟨_, ⟨c, _, h2, h3⟩ | ⟨_, h2, h3⟩⟩
 · omega
 · rw [h2] at ho
   rw [h3]
   have HO := Lib.hid ho
   clear ho h2 h3
   go_enter Tryz.func112, Tryz.ntmps112
   go_wp2_with fail
   refine HO.out.mono ?_
   rintro e w1 ⟨rfl, hb⟩
   go_wp2_with fail
   go_ret2
   exact ⟨rfl, hb⟩
 · rw [h2] at ho
   rw [h3]
   have HO := Lib.hid ho
   have hq : ((n + 65) / 64 : Nat) = (((n : Int) + 2 + 64 - 1) / 64).toNat := by omega
   obtain ⟨R, hR⟩ : ∃ R, (n + 65) / 64 = R := ⟨_, rfl⟩
   rw [hR] at hq ⊢
   have HQ := Lib.hid hq
   clear ho h2 h3 hq hR
   go_enter Tryz.func112, Tryz.ntmps112
   go_wp2_with fail
   refine HO.out.mono ?_
   rintro e w1 ⟨rfl, hb⟩
   go_wp2_with fail
   go_ret2
   refine ⟨?_, hb⟩
   have := HQ.out
   have e : (((n : Int) + 2 + 64 - 1) / 64) = (R : Int) := by omega
   rw [← e]
   rfl
theorem classPlace_le (c k : Nat) : classPlace c k ≤ 62 := by
 unfold classPlace
 split
 · rename_i h
   have h2 : ∀ c, c < 8 → classSlots c * classSize c ≤ 62 ∧ 2 ≤ classSize c := by decide
   obtain ⟨h3, h4⟩ := h2 c h.1
   have : (k + 1) * classSize c ≤ classSlots c * classSize c := Nat.mul_le_mul_right _ h.2
   rw [Nat.add_mul] at this
   omega
 · omega
theorem class_place (c k : Nat) (w : World) (hc : c ≤ 72057594037927936) (hk : k ≤ 1000) :
 Calls Tryz.prog 172 #[.int .i64 c, .int .i64 k] w fun e w' => (∃ er : Nat, e = .returned (.tuple #[.int .i64 (classPlace c k : Nat), .int .i64 er])) ∧ Below w.heap.size w w' := by
 have hs := class_slots c w
 have hz := fun W => class_size c W
 by_cases h : c < 8
 · have h1 : slotsRes c = (classSlots c, 0) := by unfold slotsRes; rw [if_pos (by omega), Int.toNat_natCast]
   have h2 : sizeRes c = (classSize c, 0) := by unfold sizeRes; rw [if_pos (by omega), Int.toNat_natCast]
   have h3 : classSlots c ≤ 31 ∧ classSize c ≤ 28 := by
    have : ∀ c, c < 8 → classSlots c ≤ 31 ∧ classSize c ≤ 28 := by decide
    exact this c h
   rw [h1] at hs
   rw [h2] at hz
   by_cases hlt : k < classSlots c
   · have h4 : classPlace c k = 2 + k * classSize c := by unfold classPlace; rw [if_pos ⟨h, hlt⟩]
     rw [h4]
     have HS := kq2 hs hz
     clear hs hz h1 h2 h4
     generalize classSlots c = m at *
     generalize classSize c = z at *
     obtain ⟨h5, h6⟩ := h3
     have h7 : (k : Int) * z ≤ 1000 * 28 := by
      have : k * z ≤ 1000 * 28 := Nat.mul_le_mul hk h6
      omega
     have h8 : 0 ≤ (k : Int) * z := by
      have : ((k * z : Nat) : Int) = (k : Int) * z := by simp
      omega
     have hmk : ¬ (m : Int) ≤ k := by omega
     go_enter Tryz.func172, Tryz.ntmps172
     go_wp2_with fail
     refine HS.out.1.mono ?_
     rintro e w1 ⟨rfl, hb⟩
     have HB := Lib.hid hb
     clear hb
     go_wp2_with fail
     refine (HS.out.2 _).mono ?_
     rintro e w2 ⟨rfl, hb2⟩
     have HB2 := Lib.hid hb2
     clear hb2
     go_wp2_with fail
     go_ret2
     exact ⟨⟨0, by simp⟩, HB.out.trans (HB2.out.mono HB.out.size)⟩
   · have h4 : classPlace c k = 0 := by unfold classPlace; rw [if_neg (fun hh => hlt hh.2)]
     rw [h4]
     have HS := Lib.hid hs
     clear hs hz h1 h2 h4
     generalize classSlots c = m at *
     generalize classSize c = z at *
     have hmk : (m : Int) ≤ k := by omega
     go_enter Tryz.func172, Tryz.ntmps172
     go_wp2_with fail
     refine HS.out.mono ?_
     rintro e w1 ⟨rfl, hb⟩
     have HB := Lib.hid hb
     clear hb
     go_wp2_with fail
     go_ret2
     exact ⟨⟨2, rfl⟩, HB.out⟩
 · have h1 : slotsRes c = (0, 2) := by unfold slotsRes; rw [if_neg (by omega)]
   have h4 : classPlace c k = 0 := by unfold classPlace; rw [if_neg (fun hh => h hh.1)]
   rw [h1] at hs
   rw [h4]
   have HS := Lib.hid hs
   clear hs hz h1 h4
   go_enter Tryz.func172, Tryz.ntmps172
   go_wp2_with fail
   refine HS.out.mono ?_
   rintro e w1 ⟨rfl, hb⟩
   have HB := Lib.hid hb
   clear hb
   go_wp2_with fail
   go_ret2
   exact ⟨⟨2, rfl⟩, HB.out⟩
theorem heap_place (p c k : Nat) (w : World) (hp : p ≤ 1048576) (hc : c ≤ 72057594037927936) (hk : k ≤ 1000) :
 Calls Tryz.prog 147 #[.int .i64 p, .int .i64 c, .int .i64 k] w fun e w' => e = .returned (.int .i64 (placeH p c k : Nat)) ∧ Below w.heap.size w w' := by
 have hs := class_place c k w hc hk
 have h1 := classPlace_le c k
 have h2 : placeH p c k = p * 64 + classPlace c k := rfl
 rw [h2]
 clear h2
 generalize classPlace c k = z at *
 have HS := Lib.hid hs
 clear hs
 go_enter Tryz.func147, Tryz.ntmps147
 go_wp2_with fail
 refine HS.out.mono ?_
 rintro e w1 ⟨⟨er, rfl⟩, hb⟩
 have HB := Lib.hid hb
 clear hb
 go_wp2_with fail
 go_ret
 exact ⟨by simp, HB.out⟩
end Go.Proofs.YtcibkdbpicledaaGreatDoor
namespace Go.Proofs
open Go.Shelf
def Tryz.lays213_ren : Go.Shelf.Ren := ⟨fun | 213 => 196 | 265 => 217 | n => n, fun | 9 => 9 | 3 => 3 | n => n, fun | n => n⟩
theorem Tryz.lays213 : Go.Proofs.Lays.n213 Tryz.prog Tryz.lays213_ren := {
 mixed := by kernel_rfl
 f213 := Tryz.func196.trans (congrArg some (by kernel_rfl))
 f265 := Tryz.func217.trans (congrArg some (by kernel_rfl))
 t3 := Tryz.underlying3
 a3 := Tryz.isAgg3
 z3 := Tryz.sizeOf3
 v3 := Tryz.zeroValue3
 t9 := Tryz.underlying9
 a9 := Tryz.isAgg9
 z9 := Tryz.sizeOf9
 v9 := Tryz.zeroValue9 }
open Go.RowKit in
theorem Tryz.bytealg_CompareString (a b : ByteArray) (w : World) :
 Calls Tryz.prog 196 #[.string a, .string b] w fun e w' => e = .returned (.int .i64 (Lib.compareBytes a.data.toList b.data.toList)) ∧ w' = w := Any.bytealg_CompareString Tryz.lays213 a b w
def Tryz.laysNm729_ren : Go.Shelf.Ren := ⟨fun | 29 => 171 | n => n, fun | 22 => 82 | 3 => 3 | 4 => 4 | 25 => 241 | 54 => 293 | 0 => 0 | 5 => 5 | n => n, fun | 1 => 0 | n => n⟩
theorem Tryz.laysNm729 : Go.Proofs.Lays7.n29 Tryz.prog Tryz.laysNm729_ren := {
 mixed := by kernel_rfl
 f29 := Tryz.func171.trans (congrArg some (by kernel_rfl))
 t0 := Tryz.underlying0
 a0 := Tryz.isAgg0
 z0 := Tryz.sizeOf0
 v0 := Tryz.zeroValue0
 i0 := by kernel_rfl
 t3 := Tryz.underlying3
 a3 := Tryz.isAgg3
 z3 := Tryz.sizeOf3
 v3 := Tryz.zeroValue3
 i3 := by kernel_rfl
 t4 := Tryz.underlying4
 a4 := Tryz.isAgg4
 z4 := Tryz.sizeOf4
 v4 := Tryz.zeroValue4
 i4 := by kernel_rfl
 t5 := Tryz.underlying5
 a5 := Tryz.isAgg5
 z5 := Tryz.sizeOf5
 v5 := Tryz.zeroValue5
 i5 := by kernel_rfl
 t22 := Tryz.underlying82
 a22 := Tryz.isAgg82
 z22 := Tryz.sizeOf82
 v22 := Tryz.zeroValue82
 i22 := by kernel_rfl
 t25 := Tryz.underlying241
 a25 := Tryz.isAgg241
 z25 := Tryz.sizeOf241
 v25 := Tryz.zeroValue241
 i25 := by kernel_rfl
 t54 := Tryz.underlying293
 a54 := Tryz.isAgg293
 z54 := Tryz.sizeOf293
 g1 := by kernel_rfl }
def Tryz.keysA_ren : Go.Shelf.Ren := ⟨fun | 7 => 154 | 10 => 175 | n => n, fun | 23 => 169 | 26 => 3 | 3 => 238 | 28 => 250 | 0 => 0 | 27 => 249 | 33 => 247 | 4 => 4 | n => n, fun | n => n⟩
theorem Tryz.keysA : Go.Proofs.SlLaysZI.n7 Tryz.prog Tryz.keysA_ren := {
 mixed := by kernel_rfl
 f7 := ⟨Tryz.f154.name, by decide, Tryz.func154.trans (congrArg some (by kernel_rfl))⟩
 f10 := ⟨Tryz.f175.name, by decide, Tryz.func175.trans (congrArg some (by kernel_rfl))⟩
 t0 := Tryz.underlying0
 a0 := Tryz.isAgg0
 z0 := Tryz.sizeOf0
 v0 := Tryz.zeroValue0
 t4 := Tryz.underlying4
 a4 := Tryz.isAgg4
 z4 := Tryz.sizeOf4
 v4 := Tryz.zeroValue4
 t23 := Tryz.underlying169
 a23 := Tryz.isAgg169
 z23 := Tryz.sizeOf169
 v23 := Tryz.zeroValue169
 t26 := Tryz.underlying3
 a26 := Tryz.isAgg3
 z26 := Tryz.sizeOf3
 v26 := Tryz.zeroValue3
 t27 := Tryz.underlying249
 a27 := Tryz.isAgg249
 z27 := Tryz.sizeOf249
 v27 := Tryz.zeroValue249
 t28 := Tryz.underlying250
 a28 := Tryz.isAgg250
 z28 := Tryz.sizeOf250
 v28 := Tryz.zeroValue250
 t33 := Tryz.underlying247
 a33 := Tryz.isAgg247
 z33 := Tryz.sizeOf247
 v33 := Tryz.zeroValue247 }
def Tryz.sortedA_ren : Go.Shelf.Ren := ⟨fun | 6 => 153 | 8 => 173 | 9 => 174 | 11 => 189 | 13 => 191 | 12 => 190 | 23 => 210 | 24 => 211 | 14 => 201 | 15 => 202 | 16 => 203 | 17 => 204 | 18 => 205 | 19 => 206 | 20 => 207 | 21 => 208 | 22 => 209 | 25 => 229 | 26 => 230 | 27 => 231 | 28 => 232 | 29 => 233 | 30 => 234 | 31 => 255 | n => n, fun | 26 => 3 | 28 => 250 | 24 => 221 | 0 => 0 | 3 => 3 | 37 => 241 | 48 => 89 | 50 => 82 | 4 => 4 | 40 => 303 | 39 => 302 | 45 => 307 | 5 => 5 | 9 => 9 | 51 => 328 | 55 => 269 | 57 => 352 | 58 => 104 | 33 => 247 | n => n, fun | n => n⟩
theorem Tryz.sortedA : Go.Proofs.SlLaysZI.n6 Tryz.prog Tryz.sortedA_ren := {
 mixed := by kernel_rfl
 f6 := ⟨Tryz.f153.name, by decide, Tryz.func153.trans (congrArg some (by kernel_rfl))⟩
 f8 := ⟨Tryz.f173.name, by decide, Tryz.func173.trans (congrArg some (by kernel_rfl))⟩
 f11 := ⟨Tryz.f189.name, by decide, Tryz.func189.trans (congrArg some (by kernel_rfl))⟩
 t0 := Tryz.underlying0
 a0 := Tryz.isAgg0
 z0 := Tryz.sizeOf0
 v0 := Tryz.zeroValue0
 t24 := Tryz.underlying221
 a24 := Tryz.isAgg221
 z24 := Tryz.sizeOf221
 v24 := Tryz.zeroValue221
 t26 := Tryz.underlying3
 a26 := Tryz.isAgg3
 z26 := Tryz.sizeOf3
 v26 := Tryz.zeroValue3
 t28 := Tryz.underlying250
 a28 := Tryz.isAgg250
 z28 := Tryz.sizeOf250
 v28 := Tryz.zeroValue250
 i26 := by kernel_rfl }
def Tryz.sortA_ren : Go.Shelf.Ren := ⟨fun | 5 => 174 | 8 => 191 | 7 => 190 | 19 => 210 | 20 => 211 | 10 => 201 | 11 => 202 | 12 => 203 | 13 => 204 | 14 => 205 | 15 => 206 | 16 => 207 | 17 => 208 | 18 => 209 | 30 => 229 | 31 => 230 | 32 => 231 | 33 => 232 | 34 => 233 | 35 => 234 | 40 => 255 | n => n, fun | 23 => 221 | 25 => 3 | 3 => 3 | 32 => 241 | 22 => 221 | 0 => 0 | 44 => 89 | 46 => 82 | 4 => 4 | 36 => 303 | 35 => 302 | 41 => 307 | 5 => 5 | 9 => 9 | 53 => 328 | 57 => 269 | 63 => 352 | 64 => 104 | n => n, fun | n => n⟩
theorem Tryz.sortA : Go.Proofs.SlLaysM.n5 Tryz.prog Tryz.sortA_ren := {
 mixed := by kernel_rfl
 f5 := ⟨Tryz.f174.name, by decide, Tryz.func174.trans (congrArg some (by kernel_rfl))⟩
 f7 := ⟨Tryz.f190.name, by decide, Tryz.func190.trans (congrArg some (by kernel_rfl))⟩
 f8 := Tryz.func191.trans (congrArg some (by kernel_rfl))
 f10 := ⟨Tryz.f201.name, by decide, Tryz.func201.trans (congrArg some (by kernel_rfl))⟩
 f11 := ⟨Tryz.f202.name, by decide, Tryz.func202.trans (congrArg some (by kernel_rfl))⟩
 f12 := ⟨Tryz.f203.name, by decide, Tryz.func203.trans (congrArg some (by kernel_rfl))⟩
 f13 := ⟨Tryz.f204.name, by decide, Tryz.func204.trans (congrArg some (by kernel_rfl))⟩
 f14 := ⟨Tryz.f205.name, by decide, Tryz.func205.trans (congrArg some (by kernel_rfl))⟩
 f15 := ⟨Tryz.f206.name, by decide, Tryz.func206.trans (congrArg some (by kernel_rfl))⟩
 f16 := ⟨Tryz.f207.name, by decide, Tryz.func207.trans (congrArg some (by kernel_rfl))⟩
 f17 := ⟨Tryz.f208.name, by decide, Tryz.func208.trans (congrArg some (by kernel_rfl))⟩
 f18 := ⟨Tryz.f209.name, by decide, Tryz.func209.trans (congrArg some (by kernel_rfl))⟩
 f19 := Tryz.func210.trans (congrArg some (by kernel_rfl))
 f20 := Tryz.func211.trans (congrArg some (by kernel_rfl))
 f30 := ⟨Tryz.f229.name, by decide, Tryz.func229.trans (congrArg some (by kernel_rfl))⟩
 f31 := Tryz.func230.trans (congrArg some (by kernel_rfl))
 f32 := Tryz.func231.trans (congrArg some (by kernel_rfl))
 f33 := ⟨Tryz.f232.name, by decide, Tryz.func232.trans (congrArg some (by kernel_rfl))⟩
 f34 := ⟨Tryz.f233.name, by decide, Tryz.func233.trans (congrArg some (by kernel_rfl))⟩
 f35 := ⟨Tryz.f234.name, by decide, Tryz.func234.trans (congrArg some (by kernel_rfl))⟩
 f40 := ⟨Tryz.f255.name, by decide, Tryz.func255.trans (congrArg some (by kernel_rfl))⟩
 t0 := Tryz.underlying0
 a0 := Tryz.isAgg0
 z0 := Tryz.sizeOf0
 v0 := Tryz.zeroValue0
 t3 := Tryz.underlying3
 a3 := Tryz.isAgg3
 z3 := Tryz.sizeOf3
 v3 := Tryz.zeroValue3
 t4 := Tryz.underlying4
 a4 := Tryz.isAgg4
 z4 := Tryz.sizeOf4
 v4 := Tryz.zeroValue4
 t5 := Tryz.underlying5
 a5 := Tryz.isAgg5
 z5 := Tryz.sizeOf5
 v5 := Tryz.zeroValue5
 t9 := Tryz.underlying9
 a9 := Tryz.isAgg9
 z9 := Tryz.sizeOf9
 v9 := Tryz.zeroValue9
 t22 := Tryz.underlying221
 a22 := Tryz.isAgg221
 z22 := Tryz.sizeOf221
 v22 := Tryz.zeroValue221
 t23 := Tryz.underlying221
 a23 := Tryz.isAgg221
 z23 := Tryz.sizeOf221
 v23 := Tryz.zeroValue221
 t25 := Tryz.underlying3
 a25 := Tryz.isAgg3
 z25 := Tryz.sizeOf3
 v25 := Tryz.zeroValue3
 t32 := Tryz.underlying241
 a32 := Tryz.isAgg241
 z32 := Tryz.sizeOf241
 v32 := Tryz.zeroValue241
 t35 := Tryz.underlying302
 a35 := Tryz.isAgg302
 z35 := Tryz.sizeOf302
 v35 := Tryz.zeroValue302
 t36 := Tryz.underlying303
 a36 := Tryz.isAgg303
 z36 := Tryz.sizeOf303
 v36 := Tryz.zeroValue303
 t41 := Tryz.underlying307
 a41 := Tryz.isAgg307
 z41 := Tryz.sizeOf307
 v41 := Tryz.zeroValue307
 t44 := Tryz.underlying89
 a44 := Tryz.isAgg89
 z44 := Tryz.sizeOf89
 v44 := Tryz.zeroValue89
 t46 := Tryz.underlying82
 a46 := Tryz.isAgg82
 z46 := Tryz.sizeOf82
 v46 := Tryz.zeroValue82
 t53 := Tryz.underlying328
 a53 := Tryz.isAgg328
 z53 := Tryz.sizeOf328
 v53 := Tryz.zeroValue328
 t57 := Tryz.underlying269
 a57 := Tryz.isAgg269
 z57 := Tryz.sizeOf269
 v57 := Tryz.zeroValue269
 t63 := Tryz.underlying352
 a63 := Tryz.isAgg352
 z63 := Tryz.sizeOf352
 v63 := Tryz.zeroValue352
 t64 := Tryz.underlying104
 a64 := Tryz.isAgg104
 z64 := Tryz.sizeOf104
 v64 := Tryz.zeroValue104 }
end Go.Proofs
namespace Go.Proofs.YtcibkdbpicledaaGreatDoor
open Go.RowKit Go.BigFrame Lf
theorem pow_lt64 {k : Nat} (h : k < 64) : 2 ^ k < 18446744073709551616 := Nat.pow_lt_pow_right (n := 64) (by decide) h
theorem wrapu_pow {k : Nat} (h : k < 64) : IntKind.u64.wrap ((2 : Int) ^ k) = ((2 ^ k : Nat) : Int) := by
 have h1 := pow_lt64 h
 rw [show ((2 : Int) ^ k) = ((2 ^ k : Nat) : Int) by simp, IntKind.wrap_u64]
 generalize 2 ^ k = m at *
 omega
theorem has_bit (w k : Nat) (hw : w < 18446744073709551616) (hk : k < 64) : (bits BinOp.and IntKind.u64 ((w : Int) / 2 ^ k) 1 == 1) = bitOf w k := by
 have h1 : (w : Int) / 2 ^ k = ((w / 2 ^ k : Nat) : Int) := by simp
 have h2 : w / 2 ^ k < 18446744073709551616 := Nat.lt_of_le_of_lt (Nat.div_le_self _ _) hw
 rw [h1, show (1 : Int) = ((1 : Nat) : Int) from rfl, bits_and_u64_nat _ _ h2 (by decide)]
 unfold bitOf
 rw [decide_eq_true hk, Bool.true_and, Nat.testBit, Nat.shiftRight_eq_div_pow, Nat.and_one_is_mod, Nat.one_and_eq_mod_two]
 have := Nat.mod_two_eq_zero_or_one (w / 2 ^ k)
 generalize w / 2 ^ k % 2 = q at *
 rcases this with rfl | rfl <;> rfl
theorem bits_has (w k : Nat) (W : World) (hw : w < 18446744073709551616) (hk : k ≤ 1000) :
 Calls Tryz.prog 149 #[.int .u64 w, .int .i64 k] W fun e w' => e = .returned (.bool (bitOf w k)) ∧ W = w' := by
 by_cases h : k < 64
 · have hb := Lib.hid (has_bit w k hw h)
   go_enter Tryz.func149, Tryz.ntmps149
   go_wp2
   go_ret
   rw [← hb.out]
   exact ⟨rfl, rfl⟩
 · have hb : bitOf w k = false := by unfold bitOf; rw [decide_eq_false h]; rfl
   have hd : ¬ (k : Int) < 64 := by omega
   rw [hb]
   go_enter Tryz.func149, Tryz.ntmps149
   go_wp2
   go_ret
   exact ⟨rfl, rfl⟩
theorem bits_set (w k : Nat) (W : World) (hw : w < 18446744073709551616) (hk : k < 64) :
 Calls Tryz.prog 145 #[.int .u64 w, .int .i64 k] W fun e w' => e = .returned (.tuple #[.int .u64 (bitSet w k : Nat), .int .i64 0]) ∧ W = w' := by
 have hb : bits BinOp.or IntKind.u64 (w : Int) (IntKind.u64.wrap (2 ^ k)) = ((bitSet w k : Nat) : Int) := by
  rw [wrapu_pow hk, bits_or_u64_nat _ _ hw (pow_lt64 hk)]
  rfl
 have HB := Lib.hid hb
 clear hb
 go_enter Tryz.func145, Tryz.ntmps145
 go_wp2
 go_ret2
 rw [← HB.out]
 exact ⟨rfl, rfl⟩
theorem bits_clear (w k : Nat) (W : World) (hw : w < 18446744073709551616) (hk : k < 64) :
 Calls Tryz.prog 150 #[.int .u64 w, .int .i64 k] W fun e w' => e = .returned (.tuple #[.int .u64 (bitClear w k : Nat), .int .i64 0]) ∧ W = w' := by
 have hb : bits BinOp.andNot IntKind.u64 (w : Int) (IntKind.u64.wrap (2 ^ k)) = ((bitClear w k : Nat) : Int) := by
  rw [wrapu_pow hk, u64_andNot_nat _ _ hw (pow_lt64 hk)]
  rfl
 have HB := Lib.hid hb
 clear hb
 go_enter Tryz.func150, Tryz.ntmps150
 go_wp2
 go_ret2
 rw [← HB.out]
 exact ⟨rfl, rfl⟩
theorem bits_full (n : Nat) (W : World) (hk : n < 64) :
 Calls Tryz.prog 130 #[.int .i64 n] W fun e w' => e = .returned (.int .u64 (2 ^ n - 1 : Nat)) ∧ W = w' := by
 have hb : IntKind.u64.wrap (IntKind.u64.wrap (2 ^ n) - 1) = ((2 ^ n - 1 : Nat) : Int) := by
  have h1 := pow_lt64 hk
  have h2 : 0 < 2 ^ n := Nat.two_pow_pos n
  rw [wrapu_pow hk, IntKind.wrap_u64]
  generalize 2 ^ n = m at *
  omega
 have HB := Lib.hid hb
 clear hb
 go_enter Tryz.func130, Tryz.ntmps130
 go_wp2
 go_ret
 rw [← HB.out]
 exact ⟨rfl, rfl⟩
theorem bits_cut (n : Nat) (W : World) (hk : n < 64) :
 Calls Tryz.prog 170 #[.int .i64 n] W fun e w' => e = .returned (.func (.func 188) #[] #[PV W.heap.size]) ∧ w' = W.alloc (.cells #[.int .u64 (2 ^ n - 1 : Nat)] 82) := by
 have hf := bits_full n W hk
 generalize 2 ^ n - 1 = m at *
 have HF := Lib.hid hf
 clear hf
 go_enter Tryz.func170, Tryz.ntmps170
 go_wp2_with fail
 refine HF.out.mono ?_
 rintro e w1 ⟨rfl, rfl⟩
 go_wp2_with fail
 go_ret
 exact ⟨rfl, rfl⟩
theorem bits_cut1 (w m B : Nat) (W : World) (hw : w < 18446744073709551616) (hm : m < 18446744073709551616) (hB : W.cell? ⟨B, 0, none⟩ = some (.int .u64 m)) :
 Calls Tryz.prog 188 #[.int .u64 w, PV B] W fun e w' => e = .returned (.int .u64 (w &&& m : Nat)) ∧ W = w' := by
 have hb := bits_and_u64_nat w m hw hm
 have HB := Lib.hid hb
 clear hb
 go_enter Tryz.func188, Tryz.ntmps188
 go_wp2_with fail
 go_ret
 rw [← HB.out]
 exact ⟨rfl, rfl⟩
def Tab64 (w : World) : Prop := TabAt 0 Go.Lib.deBruijn64tab w
theorem Tab64.lt {w : World} (h : Tab64 w) : 0 < w.heap.size := by
 have := h 0 (by decide)
 unfold World.cell? at this
 simp only at this
 by_cases hl : 0 < w.heap.size
 · exact hl
 · rw [Array.getElem?_eq_none (by omega)] at this
   cases this
theorem Tab64.of_block {w w' : World} (h : Tab64 w) (hb : w'.heap[(0 : Nat)]? = w.heap[(0 : Nat)]?) : Tab64 w' := fun j hj => by
 rw [← h j hj]
 exact World.cell?_of_block hb
theorem Tab64.below {w w' : World} (h : Tab64 w) {n : Nat} (hb : Below n w w') (hn : w.heap.size ≤ n) : Tab64 w' := h.of_block (hb.block _ (Nat.lt_of_lt_of_le h.lt hn))
def freeI (w n : Nat) : Int := match bitFree w n with | some k => k | none => -1
theorem left_bit {w n j : Nat} (hw : w < 18446744073709551616) (hn : n < 64) : ((18446744073709551615 - w) &&& (2 ^ n - 1)).testBit j = (decide (j < n) && !w.testBit j) := by
 rw [Nat.testBit_and, Nat.testBit_two_pow_sub_one, show 18446744073709551615 - w = 2 ^ 64 - (w + 1) by omega, Nat.testBit_two_pow_sub_succ (by omega)]
 by_cases h : j < n
 · simp [h, show j < 64 by omega]
 · simp [h]
theorem free_none {w n : Nat} (hw : w < 18446744073709551616) (hn : n < 64) (h : (18446744073709551615 - w) &&& (2 ^ n - 1) = 0) : freeI w n = -1 := by
 have : bitFree w n = none := by
  unfold bitFree
  rw [List.find?_eq_none]
  intro j hj
  have hb := left_bit (w := w) (n := n) (j := j) hw hn
  rw [h, Nat.zero_testBit] at hb
  have hj' : j < n := by simpa using hj
  simpa [hj'] using hb
 unfold freeI
 rw [this]
theorem free_some {w n : Nat} (hw : w < 18446744073709551616) (hn : n < 64) (h : (18446744073709551615 - w) &&& (2 ^ n - 1) ≠ 0) : freeI w n = (Go.Lib.ctz 64 ((18446744073709551615 - w) &&& (2 ^ n - 1)) : Nat) := by
 obtain ⟨x, hx⟩ : ∃ x, (18446744073709551615 - w) &&& (2 ^ n - 1) = x := ⟨_, rfl⟩
 have hb := fun j => left_bit (w := w) (n := n) (j := j) hw hn
 rw [hx] at h hb ⊢
 have hlt : x < 2 ^ 64 := by rw [← hx]; exact Nat.and_lt_two_pow _ (Nat.lt_of_le_of_lt (Nat.sub_le _ _) (Nat.pow_lt_pow_right (by decide) hn))
 obtain ⟨m, hm, hc⟩ := Go.Lib.ctzFrom_spec 64 x (Nat.pos_of_ne_zero h) hlt
 have hcz : Go.Lib.ctz 64 x = Go.Lib.ctzFrom 64 x := by unfold Go.Lib.ctz; rw [if_neg h]
 rw [hcz]
 generalize Go.Lib.ctzFrom 64 x = c at *
 have b1 : x.testBit c = true := by
  rw [hm, Nat.testBit_two_pow_mul]
  simp
 have b2 : ∀ j, j < c → x.testBit j = false := fun j hj => by
  rw [hm, Nat.testBit_two_pow_mul]
  have : ¬ c ≤ j := by omega
  simp [this]
 rw [hb c] at b1
 simp at b1
 have : bitFree w n = some c := by
  unfold bitFree
  rw [List.find?_range_eq_some]
  refine ⟨by simp [b1.2], by simpa using b1.1, fun j hj => ?_⟩
  have := b2 j hj
  rw [hb j] at this
  have hjn : j < n := by omega
  simpa [hjn] using this
 unfold freeI
 rw [this]
theorem bits_free (w n : Nat) (W : World) (hw : w < 18446744073709551616) (hk : n < 64) (hT : Tab64 W) :
 Calls Tryz.prog 143 #[.int .u64 w, .int .i64 n] W fun e w' => e = .returned (.int .i64 (freeI w n)) ∧ Below W.heap.size W w' := by
 have hf := bits_cut n W hk
 have hm : 2 ^ n - 1 < 18446744073709551616 := by have := pow_lt64 hk; omega
 have h0 := fun h => free_none (w := w) (n := n) hw hk h
 have h1 := fun h => free_some (w := w) (n := n) hw hk h
 have hbw : Below W.heap.size W (W.alloc (.cells #[.int .u64 (2 ^ n - 1 : Nat)] 82)) := (Below.refl _ W).alloc (Nat.le_refl _) _
 have hc := bits_cut1 (18446744073709551615 - w) (2 ^ n - 1) W.heap.size (W.alloc (.cells #[.int .u64 (2 ^ n - 1 : Nat)] 82)) (by omega) hm (by simp)
 have hlt : (18446744073709551615 - w) &&& (2 ^ n - 1) < 18446744073709551616 := Nat.lt_of_le_of_lt Nat.and_le_left (by omega)
 have hz := Any7.bits_TrailingZeros64 Tryz.laysNm729 ((18446744073709551615 - w) &&& (2 ^ n - 1)) hlt (W.alloc (.cells #[.int .u64 (2 ^ n - 1 : Nat)] 82)) (fun _ => hT.below hbw (Nat.le_refl _))
 change Calls _ 171 _ _ _ at hz
 have hx : bits BinOp.xor IntKind.u64 IntKind.u64.max (w : Int) = ((18446744073709551615 - w : Nat) : Int) := by
  rw [show IntKind.u64.max = ((18446744073709551615 : Nat) : Int) from rfl, bits_xor_u64_nat _ _ (by decide) hw]
  congr 1
  refine Nat.eq_of_testBit_eq fun i => ?_
  rw [Nat.testBit_xor, show 18446744073709551615 - w = 2 ^ 64 - (w + 1) by omega, Nat.testBit_two_pow_sub_succ (by omega), show 18446744073709551615 = 2 ^ 64 - 1 from rfl, Nat.testBit_two_pow_sub_one]
  by_cases hi : i < 64
  · simp [hi]
  · have : w.testBit i = false := Nat.testBit_lt_two_pow (Nat.lt_of_lt_of_le hw (Nat.pow_le_pow_right (n := 2) (by decide) (show 64 ≤ i by omega)))
    simp [hi, this]
 generalize (18446744073709551615 - w) &&& (2 ^ n - 1) = x at *
 generalize freeI w n = fr at *
 generalize hv : 18446744073709551615 - w = v at *
 generalize 2 ^ n - 1 = m at *
 have HF := kq4 hf hc hz hbw
 clear hf hc hz hbw hv
 by_cases hx0 : x = 0
 · subst hx0
   obtain rfl := h0 rfl
   clear h0 h1
   go_enter Tryz.func143, Tryz.ntmps143
   go_wp2_with fail
   refine HF.out.1.mono ?_
   rintro e w1 ⟨rfl, rfl⟩
   go_wp2_with fail
   refine HF.out.2.1.mono ?_
   rintro e w1 ⟨rfl, rfl⟩
   go_wp2_with fail
   go_ret
   exact ⟨rfl, HF.out.2.2.2⟩
 · obtain rfl := h1 hx0
   have hx1 : ((x : Int) == 0) = false := by simp; omega
   have hx2 : ¬ (x : Int) = 0 := by omega
   clear h0 h1 hx0
   go_enter Tryz.func143, Tryz.ntmps143
   go_wp2_with fail
   refine HF.out.1.mono ?_
   rintro e w1 ⟨rfl, rfl⟩
   go_wp2_with fail
   refine HF.out.2.1.mono ?_
   rintro e w1 ⟨rfl, rfl⟩
   go_wp2_with fail
   refine HF.out.2.2.1.mono ?_
   rintro e w1 ⟨rfl, rfl⟩
   go_wp2_with fail
   go_ret
   exact ⟨rfl, HF.out.2.2.2⟩
end Go.Proofs.YtcibkdbpicledaaGreatDoor
namespace Go.Proofs.YtcibkdbpicledaaGreatDoor
open Go.RowKit Go.BigFrame Go.Maps Go.WideMaps Lf
theorem keys_mem {s : Slab} {p : Nat} : p ∈ s.keys ↔ ∃ l, (p, l) ∈ s.pages := by
 unfold Slab.keys
 simp
theorem page_none {s : Slab} {p : Nat} (h : p ∉ s.keys) : s.page? p = none := by
 unfold Slab.page?
 rw [List.lookup_eq_none_iff]
 intro x hx
 have : x.1 ≠ p := fun e => h (by unfold Slab.keys; exact List.mem_map.2 ⟨x, hx, e⟩)
 simpa using fun e => this e.symm
theorem page_some {s : Slab} {p : Nat} (h : p ∈ s.keys) : ∃ l, s.page? p = some l ∧ (p, l) ∈ s.pages := by
 unfold Slab.keys at h
 unfold Slab.page?
 generalize s.pages = l at *
 induction l with
 | nil => simp at h
 | cons x r ih =>
  by_cases e : p = x.1
  · subst e
    exact ⟨x.2, by simp [List.lookup], by simp⟩
  · have h' : p ∈ r.map (·.1) := by
     simp only [List.map_cons, List.mem_cons] at h
     exact h.resolve_left e
    obtain ⟨l, h1, h2⟩ := ih h'
    exact ⟨l, by rw [List.lookup_cons, show (p == x.1) = false by simpa using e]; exact h1, List.mem_cons_of_mem _ h2⟩
theorem err_top {s : Slab} {a : Nat} (h : lastAddr < a) : s.err a = 2 := by unfold Slab.err; rw [if_pos h]
theorem err_none {s : Slab} {a : Nat} (h : a ≤ lastAddr) (hp : a / 64 ∉ s.keys) : s.err a = 5 := by unfold Slab.err; rw [if_neg (by omega), page_none hp]
theorem err_ok {s : Slab} {a : Nat} (h : a ≤ lastAddr) (hp : a / 64 ∈ s.keys) : s.err a = 0 := by
 obtain ⟨l, h1, _⟩ := page_some hp
 unfold Slab.err
 rw [if_neg (by omega), h1]
theorem rd_none {s : Slab} {a : Nat} (hp : a / 64 ∉ s.keys) : s.rd a = 0 := by unfold Slab.rd; rw [page_none hp]
theorem rd_some {s : Slab} {a : Nat} {l : Page} (h : s.page? (a / 64) = some l) : s.rd a = l.getD (a % 64) 0 := by unfold Slab.rd; rw [h]
theorem SlabOn.word {w : World} {pa pm : Nat} {s : Slab} {Y : Nat → Prop} {blk : Nat → Nat} (h : SlabOn w pa pm s Y blk) {a : Nat} (hp : a / 64 ∈ s.keys) :
 w.cell? ⟨blk (a / 64), a % 64, none⟩ = some (.int .u64 (s.rd a : Nat)) ∧ w.frozen? ⟨blk (a / 64), a % 64, none⟩ = false := by
 obtain ⟨l, h1, h2⟩ := page_some hp
 have hb := h.pg _ h2
 have hl := h.wf.len _ h2
 refine ⟨?_, frozen_of_block hb⟩
 rw [cell_of_block hb, rd_some h1]
 simp only at hl
 have hlt : a % 64 < l.length := by omega
 simp [List.getElem?_eq_getElem hlt]
theorem SlabOn.rd_lt {w : World} {pa pm : Nat} {s : Slab} {Y : Nat → Prop} {blk : Nat → Nat} (h : SlabOn w pa pm s Y blk) (a : Nat) : s.rd a < 18446744073709551616 := by
 by_cases hp : a / 64 ∈ s.keys
 · obtain ⟨l, h1, h2⟩ := page_some hp
   rw [rd_some h1]
   have hl := h.wf.len _ h2
   simp only at hl
   have hlt : a % 64 < l.length := by omega
   rw [List.getD_eq_getElem?_getD, List.getElem?_eq_getElem hlt]
   exact h.wf.word _ h2 _ (List.getElem_mem hlt)
 · rw [rd_none hp]; decide
theorem slab_none {w : World} {pa pm : Nat} {s : Slab} {Y : Nat → Prop} {blk : Nat → Nat} (h : SlabOn w pa pm s Y blk) :
 Calls Tryz.prog 142 #[PV pa] w fun e w' => e = .returned (.bool false) ∧ w = w' := by
 have c1 := h.cells.2
 have hm := run_eql_map_nil (P := Tryz.prog) w 169 3 238 (some pm) Tryz.underlying169
 clear h
 go_enter Tryz.func142, Tryz.ntmps142
 go_wp2
 go_ret
 exact ⟨rfl, rfl⟩
theorem slab_at_no {w : World} {pa pm : Nat} {s : Slab} {Y : Nat → Prop} {blk : Nat → Nat} (h : SlabOn w pa pm s Y blk) (a : Nat) (ha : a ≤ 4611686018427387904) (hp : a / 64 ∉ s.keys ∨ lastAddr < a) :
 Calls Tryz.prog 122 #[PV pa, .int .i64 a] w fun e w' => e = .returned (.tuple #[.pointer none, .int .i64 (s.err a : Nat)]) ∧ w = w' := by
 have c1 := h.cells.2
 have hn := Lib.hid (slab_none h)
 have hl := h.look (a / 64) (by omega)
 rw [show ((a / 64 : Nat) : Int) = (a : Int) / 64 from by simp] at hl
 by_cases ht : lastAddr < a
 · have he := err_top (s := s) ht
   generalize s.err a = er at *
   subst he
   unfold lastAddr at ht
   clear hl hp h
   go_enter Tryz.func122, Tryz.ntmps122
   go_wp2_with fail
   refine hn.out.mono ?_
   rintro e w' ⟨rfl, rfl⟩
   go_wp2_with fail
   go_ret2
   exact ⟨rfl, rfl⟩
 · have hp' : a / 64 ∉ s.keys := hp.resolve_right ht
   have he := err_none (s := s) (by omega) hp'
   generalize s.err a = er at *
   subst he
   unfold lastAddr at ht
   have hv : pgV s.keys blk (a / 64) = .pointer none := by unfold pgV; rw [if_neg hp']
   rw [hv] at hl
   clear hv hp hp' h
   go_enter Tryz.func122, Tryz.ntmps122
   go_wp2_with fail
   refine hn.out.mono ?_
   rintro e w' ⟨rfl, rfl⟩
   go_wp2_with fail
   go_ret2
   exact ⟨rfl, rfl⟩
theorem slab_at_ok {w : World} {pa pm : Nat} {s : Slab} {Y : Nat → Prop} {blk : Nat → Nat} (h : SlabOn w pa pm s Y blk) (a : Nat) (ha : a ≤ lastAddr) (hp : a / 64 ∈ s.keys) :
 Calls Tryz.prog 122 #[PV pa, .int .i64 a] w fun e w' => e = .returned (.tuple #[.pointer (some ⟨blk (a / 64), a % 64, none⟩), .int .i64 0]) ∧ w = w' := by
 unfold lastAddr at ha
 have c1 := h.cells.2
 have hn := Lib.hid (slab_none h)
 have hl := h.look (a / 64) (by omega)
 rw [show ((a / 64 : Nat) : Int) = (a : Int) / 64 from by simp] at hl
 have hv : pgV s.keys blk (a / 64) = PV (blk (a / 64)) := by unfold pgV; rw [if_pos hp]
 rw [hv] at hl
 have hq2 : ((a : Int) % 64).toNat = a % 64 := by omega
 have hq3 : (a : Int) % 64 < 64 := by omega
 have hq4 : 0 ≤ (a : Int) % 64 := by omega
 clear hv hp h
 generalize blk (a / 64) = b at *
 go_enter Tryz.func122, Tryz.ntmps122
 go_wp2_with fail
 refine hn.out.mono ?_
 rintro e w' ⟨rfl, rfl⟩
 go_wp2_with fail
 go_ret2
 exact ⟨rfl, rfl⟩
