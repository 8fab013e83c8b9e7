/- The classes: Of, Pages, Place: the walks. The classes: Of beyond the bounds, Pages, Place; a place on a page: the walks. DERIVED: THE SHELF's CONTRACTS AT THIS DUMP, IN PLAIN WORDS (tools/lay-plain.mjs out of 'YtoaabbnieakidaaGreatDoorRShSrc.lean', which tools/lay-shelf.mjs wrote): THE SAME DECLARATIONS UNDER THE SAME NAMES: 'import', 'namespace', 'open', 'def', 'theorem' AND NOTHING ELSE: no command of the shelf's: FOR A HAND-IN. Each laying: the table of numbers ('.._ren') and one theorem, a field a fact of the dump's own or the kernel's comparison; each contract: ONE APPLICATION. -/
import Derived.Test.YtoaabbnieakidaaGreatDoorRGaa
import Derived.Shelf.Small.Bits
import Derived.Shelf.Small.Strs
import Derived.Shelf.Strconv.Itoa0
import Derived.Ground.Names2Prog
import Derived.Shelf.Spec.TrailingZeros
import Derived.Ground.Names7Prog
import Derived.Shelf.SlIterI.Nil
import Derived.Shelf.SortM.Plain
import Derived.Shelf.SortM.SortNone
import Derived.Ground.GgzProg
import Derived.Ground.SlgmProg
import Derived.Test.YtoaabbnieakidaaGreatDoorRProg
namespace Go.Proofs.YtoaabbnieakidaaGreatDoorR
open Go.RowKit Go.BigFrame Lf
open Go.Shelf
attribute [local go_sem] Oper.semAt_some

/-- what Of says -/
def ofRes (x : Int) : Nat × Bool × Nat :=
  if x < 1 ∨ 4000 < x then (0, false, 2) else match classOf x.toNat with | some c => (c, true, 0) | none => (0, false, 0)
theorem ofRes_out {x : Int} (h : x < 1 ∨ 4000 < x) : ofRes x = (0, false, 2) := by unfold ofRes; rw [if_pos h]
theorem szs_get : ∀ k, k < 8 → szs k = sizes.getD k 0 := by decide
theorem classOf_some {n k : Nat} (hk : k < 8) (h1 : n ≤ szs k) (h2 : ∀ i, i < k → szs i < n) : classOf n = some k := by
  unfold classOf
  rw [List.find?_range_eq_some]
  refine ⟨by rw [← szs_get k hk]; simpa using h1, by simpa using hk, fun j hj => ?_⟩
  have := h2 j hj
  rw [← szs_get j (by omega)]
  simp
  omega
theorem classOf_none {n : Nat} (h : ∀ i, i < 8 → szs i < n) : classOf n = none := by
  unfold classOf
  rw [List.find?_eq_none]
  intro j hj
  have hj' : j < 8 := by simpa using hj
  have := h j hj'
  rw [← szs_get j hj']
  simp
  omega
theorem ofRes_large {x : Int} (h1 : 1 ≤ x) (h2 : x ≤ 4000) (h : ∀ y ∈ szL 8, (y.2 : Int) < x) : ofRes x = (0, false, 0) := by
  have : classOf x.toNat = none := classOf_none fun i hi => by
    have := h (i, szs i) (List.mem_map.2 ⟨i, by simpa using hi, rfl⟩)
    simp only at this
    omega
  unfold ofRes
  rw [if_neg (by omega), this]
theorem ofRes_small {x : Int} (h1 : 1 ≤ x) (h2 : x ≤ 4000) {k : Nat} (hk : k < 8) (h : ∀ y ∈ szL k, (y.2 : Int) < x) (h3 : x ≤ szs k) : ofRes x = (k, true, 0) := by
  have : classOf x.toNat = some k := classOf_some hk (by omega) fun i hi => by
    have := h (i, szs i) (List.mem_map.2 ⟨i, by simpa using hi, rfl⟩)
    simp only at this
    omega
  unfold ofRes
  rw [if_neg (by omega), this]

/-- each size is below a number -/
def Less (x : Int) (pre : List (Nat × Nat)) : Prop := ∀ y ∈ pre, (y.2 : Int) < x

set_option maxRecDepth 100000 in
set_option maxHeartbeats 1000000 in
theorem class_of_in (x : Int) (w : World) (hx1 : 1 ≤ x) (hx2 : x ≤ 4000) :
    Calls Tryz.prog 186 #[.int .i64 x] w fun e w' => e = .returned (.tuple #[.int .i64 (ofRes x).1, .bool (ofRes x).2.1, .int .i64 (ofRes x).2.2]) ∧ Below w.heap.size w w' := by
  refine (callsIn_wide (n := 4)).1 ?_
  have h1 : 1 ≤ 4 := by omega
  have hS : Fence.wide.fn 234 := trivial
  have hs1 : ∀ W, CallsIn Fence.wide 3 Tryz.prog 234 #[] W _ := fun W => callsIn_wide.2 (sizes_any W)
  obtain ⟨R, hR⟩ : ∃ R, ofRes x = R := ⟨_, rfl⟩
  rw [hR]
  have HR := Lib.hid hR
  clear hR
  have hd1 : decide (x < 1) = false := by simp; omega
  have hd2 : decide (4000 < x) = false := by simp; omega
  refine callsIn_of_wp_marks Tryz.func186 rfl trivial ?_ rfl
  simp only [Tryz.ntmps186, List.size_toArray, List.length_cons, List.length_nil, Nat.reduceAdd, Nat.reduceSub, Array.replicate_succ, Array.replicate_zero, List.push_toArray, List.append_toArray, List.nil_append, List.cons_append]
  gi_wp2_with (gi_at_call 234; refine (hs1 _).mono ?_; rintro e w' ⟨rfl, rfl⟩)
  have c0 := Bx.new w (.int .i64 x) 3
  have c1 := Bx.new (w.alloc (.cells #[.int .i64 x] 3)) (.int .i64 0) 3
  have c2 := Bx.new ((w.alloc (.cells #[.int .i64 x] 3)).alloc (.cells #[.int .i64 0] 3)) (.bool false) 4
  have c3 := Bx.new (((w.alloc (.cells #[.int .i64 x] 3)).alloc (.cells #[.int .i64 0] 3)).alloc (.cells #[.bool false] 4)) (.int .i64 0) 32
  simp only [World.size_alloc] at c1 c2 c3
  have hB0 : Below w.heap.size w ((((w.alloc (.cells #[.int .i64 x] 3)).alloc (.cells #[.int .i64 0] 3)).alloc (.cells #[.bool false] 4)).alloc (.cells #[.int .i64 0] 32)) := ((((Below.refl _ w).alloc (Nat.le_refl _) _).alloc (by simp) _).alloc (by simp; omega) _).alloc (by simp; omega) _
  refine wpIn_rangeFunc_ownF rfl h1 (gf := 256) (lb := #[]) rfl trivial (enters_of Tryz.func256 (by kernel_rfl) rfl)
    (sizes_stops Fence.wide (4 - 1) trivial rfl (by omega) _) walksK_t walksK_b (Below.refl _ _) (fun _ => rfl)
    (fun pre W => (Less x pre ∧ Bx W w.heap.size (.int .i64 x) ∧ Bx W (w.heap.size + 1) (.int .i64 0) ∧ Bx W (w.heap.size + 1 + 1) (.bool false) ∧ Bx W (w.heap.size + 1 + 1 + 1) (.int .i64 0)) ∧ Below w.heap.size w W)
    (fun cd pre W => (cd = .ret ∧ (∃ p y, pre = p ++ [y] ∧ Less x p ∧ x ≤ (y.2 : Int) ∧ Bx W (w.heap.size + 1) (.int .i64 y.1)) ∧ Bx W (w.heap.size + 1 + 1) (.bool true) ∧ Bx W (w.heap.size + 1 + 1 + 1) (.int .i64 0)) ∧ Below w.heap.size w W)
    (OwnFrom.and (Own.from (fun s A B row hs hg hr => ⟨hs.1, hs.2.1.kept hg hr, hs.2.2.1.kept hg hr, hs.2.2.2.1.kept hg hr, hs.2.2.2.2.kept hg hr⟩) _) (ownFrom_below (Nat.le_refl _) (by simp; omega)))
    (fun cd => OwnFrom.and (Own.from (fun s A B row hs hg hr => ⟨hs.1, (let ⟨p, y, k1, k2, k3, k4⟩ := hs.2.1; ⟨p, y, k1, k2, k3, k4.kept hg hr⟩), hs.2.2.1.kept hg hr, hs.2.2.2.kept hg hr⟩) _) (ownFrom_below (Nat.le_refl _) (by simp; omega)))
    ⟨⟨fun y hy => absurd hy (by simp), ((c0.alloc _).alloc _).alloc _, (c1.alloc _).alloc _, c2.alloc _, c3⟩, hB0⟩
    (fun y => { tmps := #[.int .i64 x, .pointer (some ⟨w.heap.size, 0, none⟩), .pointer (some ⟨w.heap.size + 1, 0, none⟩), .pointer (some ⟨w.heap.size + 1 + 1, 0, none⟩), .pointer (some ⟨w.heap.size + 1 + 1 + 1, 0, none⟩), .int .i64 y.1, .int .i64 y.2, .int .i64 x, .bool false, .bool false, .int .i64 x, .bool false, .bool false, .func (.func 256) #[] #[], .int .i64 y.1, .int .i64 y.2, undef, undef, undef, undef], defers := [] }) ?assign ?body ?done ?stop
  case assign =>
    intro l y W K hK
    gi_wp2
    exact hK
  case body =>
    rintro l pre y W ⟨⟨hp, hb0, hb1, hb2, hb3⟩, hB⟩ _
    have k0 := hb0.1
    obtain ⟨k1, f1⟩ := id hb1
    obtain ⟨k2, f2⟩ := id hb2
    obtain ⟨k3, f3⟩ := id hb3
    have H0 := Lib.hid hb0
    have HH := Lib.hid (And.intro hp (And.intro hb1 (And.intro hb2 (And.intro hb3 hB))))
    clear hp hb0 hb1 hb2 hb3 hB
    by_cases hx : x ≤ (y.2 : Int)
    · gi_wp2
      exact ⟨((KeepsOthers.setCell _ _ _).trans (KeepsOthers.setCell _ _ _)).trans (KeepsOthers.setCell _ _ _), ⟨rfl, ⟨pre, y, rfl, HH.out.1, hx, ((HH.out.2.1.set _).other _ (by omega)).other _ (by omega)⟩, ((HH.out.2.2.1.other _ (by omega)).set _).other _ (by omega), ((HH.out.2.2.2.1.other _ (by omega)).other _ (by omega)).set _⟩, ((HH.out.2.2.2.2.setCell (p := ⟨w.heap.size + 1, 0, none⟩) (by simp) _).setCell (p := ⟨w.heap.size + 1 + 1, 0, none⟩) (by simp; omega) _).setCell (p := ⟨w.heap.size + 1 + 1 + 1, 0, none⟩) (by simp; omega) _⟩
    · have HX := Lib.hid hx
      gi_wp2
      exact ⟨KeepsOthers.refl _, KeepsWalks.refl _, ⟨fun z hz => (List.mem_append.1 hz).elim (HH.out.1 z) (fun e => by rw [List.mem_singleton.1 e]; have := HX.out; omega), H0.out, HH.out.2.1, HH.out.2.2.1, HH.out.2.2.2.1⟩, HH.out.2.2.2.2⟩
  case done =>
    rintro D ys W hD rfl ⟨⟨hp, hb0, hb1, hb2, hb3⟩, hB⟩ hK
    obtain ⟨k1, f1⟩ := id hb1
    obtain ⟨k2, f2⟩ := id hb2
    obtain ⟨k3, f3⟩ := id hb3
    have HH := Lib.hid (And.intro hp (And.intro hb1 (And.intro hb2 (And.intro hb3 hB))))
    clear hp hb1 hb2 hb3 hB
    gi_wp2
    have hK' := (((KeepsOthers.setCell W ⟨w.heap.size + 1, 0, none⟩ (.int .i64 0)).trans (KeepsOthers.setCell _ ⟨w.heap.size + 1 + 1, 0, none⟩ (.bool false))).trans (KeepsOthers.setCell _ ⟨w.heap.size + 1 + 1 + 1, 0, none⟩ (.int .i64 0))).same D _ hK rfl
    refine ⟨by simp, .inl ⟨_, _, rfl, run_takeDeferred hK', ?_⟩⟩
    have r1 := ((((HH.out.2.1.set (.int .i64 0)).other (.bool false) (show w.heap.size + 1 ≠ w.heap.size + 1 + 1 by omega)).other (.int .i64 0) (show w.heap.size + 1 ≠ w.heap.size + 1 + 1 + 1 by omega)).put (o' := .deferred none) hK' rfl).1
    have r2 := ((((HH.out.2.2.1.other (.int .i64 0) (show w.heap.size + 1 + 1 ≠ w.heap.size + 1 by omega)).set (.bool false)).other (.int .i64 0) (show w.heap.size + 1 + 1 ≠ w.heap.size + 1 + 1 + 1 by omega)).put (o' := .deferred none) hK' rfl).1
    have r3 := ((((HH.out.2.2.2.1.other (.int .i64 0) (show w.heap.size + 1 + 1 + 1 ≠ w.heap.size + 1 by omega)).other (.bool false) (show w.heap.size + 1 + 1 + 1 ≠ w.heap.size + 1 + 1 by omega)).set (.int .i64 0)).put (o' := .deferred none) hK' rfl).1
    have hRe : R = (0, false, 0) := by rw [← HR.out]; exact ofRes_large hx1 hx2 HH.out.1
    subst hRe
    refine ⟨.tuple #[.int .i64 0, .bool false, .int .i64 0], ?_, rfl, (((HH.out.2.2.2.2.setCell (p := ⟨w.heap.size + 1, 0, none⟩) (by simp) _).setCell (p := ⟨w.heap.size + 1 + 1, 0, none⟩) (by simp; omega) _).setCell (p := ⟨w.heap.size + 1 + 1 + 1, 0, none⟩) (by simp; omega) _).trans (belowK_b (w := w) (Nat.le_refl _) _ D _ _ (by simp at hD; omega) hK' rfl rfl)⟩
    simp [results, Tryz.f186, go_sem, r1, r2, r3]
  case stop =>
    rintro D cd pre W hD ⟨k, hk, rfl⟩ ⟨⟨rfl, ⟨p, y, hpx, hp, hx, hb1⟩, hb2, hb3⟩, hB⟩ hK
    obtain ⟨hpe, hxe⟩ := szL_last hpx.symm
    have HH := Lib.hid hB
    have hRe : R = (y.1, true, 0) := by rw [← HR.out]; rw [hpe] at hp; rw [hxe] at hx ⊢; exact ofRes_small hx1 hx2 hk hp hx
    have r1 := (hb1.put (o' := .deferred none) hK rfl).1
    have r2 := (hb2.put (o' := .deferred none) hK rfl).1
    have r3 := (hb3.put (o' := .deferred none) hK rfl).1
    clear hpx hx hxe hpe hp hb1 hb2 hb3 hB
    subst hRe
    gi_wp2
    refine ⟨by simp, .inl ⟨_, _, rfl, run_takeDeferred hK, ?_⟩⟩
    refine ⟨.tuple #[.int .i64 y.1, .bool true, .int .i64 0], ?_, rfl, HH.out.trans (belowK_b (w := w) (Nat.le_refl _) W D _ _ (by simp at hD; omega) hK rfl rfl)⟩
    simp [results, Tryz.f186, go_sem, r1, r2, r3]
end Go.Proofs.YtoaabbnieakidaaGreatDoorR

namespace Go.Proofs.YtoaabbnieakidaaGreatDoorR
open Go.RowKit Go.BigFrame Lf
open Go.Shelf

theorem below4 (w : World) (a b c d : Obj) : Below w.heap.size w ((((w.alloc a).alloc b).alloc c).alloc d) :=
  ((((Below.refl _ w).alloc (Nat.le_refl _) _).alloc (by simp) _).alloc (by simp; omega) _).alloc (by simp; omega) _

set_option maxRecDepth 100000 in
set_option maxHeartbeats 1000000 in
theorem class_of_out (x : Int) (w : World) (hx : x < 1 ∨ 4000 < x) :
    Calls Tryz.prog 186 #[.int .i64 x] w fun e w' => e = .returned (.tuple #[.int .i64 (ofRes x).1, .bool (ofRes x).2.1, .int .i64 (ofRes x).2.2]) ∧ Below w.heap.size w w' := by
  rw [ofRes_out hx]
  rcases hx with hx | hx
  · go_enter Tryz.func186, Tryz.ntmps186
    go_wp2_with fail
    exact bodyPost_ret (v := .tuple #[.int .i64 0, .bool false, .int .i64 2]) (by simp [results, Tryz.f186, go_sem]) rfl ⟨rfl, below4 w _ _ _ _⟩
  · have h1 : 1 ≤ x := by omega
    go_enter Tryz.func186, Tryz.ntmps186
    go_wp2_with fail
    exact bodyPost_ret (v := .tuple #[.int .i64 0, .bool false, .int .i64 2]) (by simp [results, Tryz.f186, go_sem]) rfl ⟨rfl, below4 w _ _ _ _⟩
theorem class_of (x : Int) (w : World) :
    Calls Tryz.prog 186 #[.int .i64 x] w fun e w' => e = .returned (.tuple #[.int .i64 (ofRes x).1, .bool (ofRes x).2.1, .int .i64 (ofRes x).2.2]) ∧ Below w.heap.size w w' := by
  by_cases h : x < 1 ∨ 4000 < x
  · exact class_of_out x w h
  · exact class_of_in x w (by omega) (by omega)

/-- what Of says of a number of words -/
theorem ofRes_nat (n : Nat) : (n < 1 ∨ 4000 < n) ∧ ofRes n = (0, false, 2) ∧ classPages n = 0 ∨ (1 ≤ n ∧ n ≤ 4000) ∧ ((∃ c, classOf n = some c ∧ ofRes n = (c, true, 0) ∧ classPages n = 1) ∨ (classOf n = none ∧ ofRes n = (0, false, 0) ∧ classPages n = (n + 65) / 64)) := by
  by_cases h : n < 1 ∨ 4000 < n
  · exact Or.inl ⟨h, ofRes_out (by omega), by unfold classPages; rw [if_pos h]⟩
  · refine Or.inr ⟨by omega, ?_⟩
    have h1 : ¬ ((n : Int) < 1 ∨ 4000 < (n : Int)) := by omega
    unfold ofRes classPages
    rw [if_neg h1, if_neg h, Int.toNat_natCast]
    cases classOf n with
    | none => exact Or.inr ⟨rfl, rfl, rfl⟩
    | some c => exact Or.inl ⟨c, rfl, rfl, rfl⟩

set_option maxRecDepth 100000 in
set_option maxHeartbeats 1000000 in
theorem class_pages (n : Nat) (w : World) (hn : n ≤ 4000) (h1 : 1 ≤ n) :
    Calls Tryz.prog 187 #[.int .i64 n] w fun e w' => e = .returned (.tuple #[.int .i64 (classPages n : Nat), .int .i64 0]) ∧ Below w.heap.size w w' := by
  have ho := class_of n w
  rcases ofRes_nat n with ⟨h, _⟩ | ⟨_, ⟨c, _, h2, h3⟩ | ⟨_, h2, h3⟩⟩
  · omega
  · rw [h2] at ho
    rw [h3]
    have HO := Lib.hid ho
    clear ho h2 h3
    go_enter Tryz.func187, Tryz.ntmps187
    go_wp2_with fail
    refine HO.out.mono ?_
    rintro e w1 ⟨rfl, hb⟩
    go_wp2_with fail
    go_ret2
    exact ⟨rfl, hb⟩
  · rw [h2] at ho
    rw [h3]
    have HO := Lib.hid ho
    have hq : ((n + 65) / 64 : Nat) = (((n : Int) + 2 + 64 - 1) / 64).toNat := by omega
    obtain ⟨R, hR⟩ : ∃ R, (n + 65) / 64 = R := ⟨_, rfl⟩
    rw [hR] at hq ⊢
    have HQ := Lib.hid hq
    clear ho h2 h3 hq hR
    go_enter Tryz.func187, Tryz.ntmps187
    go_wp2_with fail
    refine HO.out.mono ?_
    rintro e w1 ⟨rfl, hb⟩
    go_wp2_with fail
    go_ret2
    refine ⟨?_, hb⟩
    have := HQ.out
    have e : (((n : Int) + 2 + 64 - 1) / 64) = (R : Int) := by omega
    rw [← e]
    rfl

theorem classPlace_le (c k : Nat) : classPlace c k ≤ 62 := by
  unfold classPlace
  split
  · rename_i h
    have h2 : ∀ c, c < 8 → classSlots c * classSize c ≤ 62 ∧ 2 ≤ classSize c := by decide
    obtain ⟨h3, h4⟩ := h2 c h.1
    have : (k + 1) * classSize c ≤ classSlots c * classSize c := Nat.mul_le_mul_right _ h.2
    rw [Nat.add_mul] at this
    omega
  · omega

set_option maxRecDepth 100000 in
set_option maxHeartbeats 1000000 in
theorem class_place (c k : Nat) (w : World) (hc : c ≤ 72057594037927936) (hk : k ≤ 1000) :
    Calls Tryz.prog 255 #[.int .i64 c, .int .i64 k] w fun e w' => (∃ er : Nat, e = .returned (.tuple #[.int .i64 (classPlace c k : Nat), .int .i64 er])) ∧ Below w.heap.size w w' := by
  have hs := class_slots c w
  have hz := fun W => class_size c W
  by_cases h : c < 8
  · have h1 : slotsRes c = (classSlots c, 0) := by unfold slotsRes; rw [if_pos (by omega), Int.toNat_natCast]
    have h2 : sizeRes c = (classSize c, 0) := by unfold sizeRes; rw [if_pos (by omega), Int.toNat_natCast]
    have h3 : classSlots c ≤ 31 ∧ classSize c ≤ 28 := by
      have : ∀ c, c < 8 → classSlots c ≤ 31 ∧ classSize c ≤ 28 := by decide
      exact this c h
    rw [h1] at hs
    rw [h2] at hz
    by_cases hlt : k < classSlots c
    · have h4 : classPlace c k = 2 + k * classSize c := by unfold classPlace; rw [if_pos ⟨h, hlt⟩]
      rw [h4]
      have HS := Lib.hid (And.intro hs hz)
      clear hs hz h1 h2 h4
      generalize classSlots c = m at *
      generalize classSize c = z at *
      obtain ⟨h5, h6⟩ := h3
      have h7 : (k : Int) * z ≤ 1000 * 28 := by
        have : k * z ≤ 1000 * 28 := Nat.mul_le_mul hk h6
        omega
      have h8 : 0 ≤ (k : Int) * z := by have : ((k * z : Nat) : Int) = (k : Int) * z := by simp
                                        omega
      have hmk : ¬ (m : Int) ≤ k := by omega
      go_enter Tryz.func255, Tryz.ntmps255
      go_wp2_with fail
      refine HS.out.1.mono ?_
      rintro e w1 ⟨rfl, hb⟩
      have HB := Lib.hid hb
      clear hb
      go_wp2_with fail
      refine (HS.out.2 _).mono ?_
      rintro e w2 ⟨rfl, hb2⟩
      have HB2 := Lib.hid hb2
      clear hb2
      go_wp2_with fail
      go_ret2
      exact ⟨⟨0, by simp⟩, HB.out.trans (HB2.out.mono HB.out.size)⟩
    · have h4 : classPlace c k = 0 := by unfold classPlace; rw [if_neg (fun hh => hlt hh.2)]
      rw [h4]
      have HS := Lib.hid hs
      clear hs hz h1 h2 h4
      generalize classSlots c = m at *
      generalize classSize c = z at *
      have hmk : (m : Int) ≤ k := by omega
      go_enter Tryz.func255, Tryz.ntmps255
      go_wp2_with fail
      refine HS.out.mono ?_
      rintro e w1 ⟨rfl, hb⟩
      have HB := Lib.hid hb
      clear hb
      go_wp2_with fail
      go_ret2
      exact ⟨⟨2, rfl⟩, HB.out⟩
  · have h1 : slotsRes c = (0, 2) := by unfold slotsRes; rw [if_neg (by omega)]
    have h4 : classPlace c k = 0 := by unfold classPlace; rw [if_neg (fun hh => h hh.1)]
    rw [h1] at hs
    rw [h4]
    have HS := Lib.hid hs
    clear hs hz h1 h4
    go_enter Tryz.func255, Tryz.ntmps255
    go_wp2_with fail
    refine HS.out.mono ?_
    rintro e w1 ⟨rfl, hb⟩
    have HB := Lib.hid hb
    clear hb
    go_wp2_with fail
    go_ret2
    exact ⟨⟨2, rfl⟩, HB.out⟩

set_option maxRecDepth 100000 in
set_option maxHeartbeats 1000000 in
theorem heap_place (p c k : Nat) (w : World) (hp : p ≤ 1048576) (hc : c ≤ 72057594037927936) (hk : k ≤ 1000) :
    Calls Tryz.prog 231 #[.int .i64 p, .int .i64 c, .int .i64 k] w fun e w' => e = .returned (.int .i64 (placeH p c k : Nat)) ∧ Below w.heap.size w w' := by
  have hs := class_place c k w hc hk
  have h1 := classPlace_le c k
  have h2 : placeH p c k = p * 64 + classPlace c k := rfl
  rw [h2]
  clear h2
  generalize classPlace c k = z at *
  have HS := Lib.hid hs
  clear hs
  go_enter Tryz.func231, Tryz.ntmps231
  go_wp2_with fail
  refine HS.out.mono ?_
  rintro e w1 ⟨⟨er, rfl⟩, hb⟩
  have HB := Lib.hid hb
  clear hb
  go_wp2_with fail
  go_ret
  exact ⟨by simp, HB.out⟩
end Go.Proofs.YtoaabbnieakidaaGreatDoorR

namespace Go.Proofs
open Go.Shelf
def Tryz.lays213_ren : Go.Shelf.Ren := ⟨fun | 213 => 269 | 265 => 291 | n => n, fun | 9 => 9 | 3 => 3 | n => n, fun | n => n⟩
theorem Tryz.lays213 : Go.Proofs.Lays.n213 Tryz.prog Tryz.lays213_ren := {
  mixed := by kernel_rfl
  f213 := Tryz.func269.trans (congrArg some (by kernel_rfl))
  f265 := Tryz.func291.trans (congrArg some (by kernel_rfl))
  t3 := Tryz.underlying3
  a3 := Tryz.isAgg3
  z3 := Tryz.sizeOf3
  v3 := Tryz.zeroValue3
  t9 := Tryz.underlying9
  a9 := Tryz.isAgg9
  z9 := Tryz.sizeOf9
  v9 := Tryz.zeroValue9 }
open Go.RowKit in
/-- internal/bytealg.CompareString -/
theorem Tryz.bytealg_CompareString (a b : ByteArray) (w : World) :
    Calls Tryz.prog 269 #[.string a, .string b] w fun e w' => e = .returned (.int .i64 (Lib.compareBytes a.data.toList b.data.toList)) ∧ w' = w := Any.bytealg_CompareString Tryz.lays213 a b w
def Tryz.lays106_ren : Go.Shelf.Ren := ⟨fun | 106 => 251 | 213 => 269 | 265 => 291 | n => n, fun | 9 => 9 | 3 => 3 | n => n, fun | n => n⟩
theorem Tryz.lays106 : Go.Proofs.Lays.n106 Tryz.prog Tryz.lays106_ren := {
  mixed := by kernel_rfl
  f106 := Tryz.func251.trans (congrArg some (by kernel_rfl))
  f213 := Tryz.func269.trans (congrArg some (by kernel_rfl))
  f265 := Tryz.func291.trans (congrArg some (by kernel_rfl))
  t3 := Tryz.underlying3
  a3 := Tryz.isAgg3
  z3 := Tryz.sizeOf3
  v3 := Tryz.zeroValue3
  t9 := Tryz.underlying9
  a9 := Tryz.isAgg9
  z9 := Tryz.sizeOf9
  v9 := Tryz.zeroValue9 }
def Tryz.laysNm729_ren : Go.Shelf.Ren := ⟨fun | 29 => 258 | n => n, fun | 22 => 60 | 3 => 3 | 4 => 4 | 25 => 237 | 54 => 370 | 0 => 0 | 5 => 5 | n => n, fun | 1 => 0 | n => n⟩
theorem Tryz.laysNm729 : Go.Proofs.Lays7.n29 Tryz.prog Tryz.laysNm729_ren := {
  mixed := by kernel_rfl
  f29 := Tryz.func258.trans (congrArg some (by kernel_rfl))
  t0 := Tryz.underlying0
  a0 := Tryz.isAgg0
  z0 := Tryz.sizeOf0
  v0 := Tryz.zeroValue0
  i0 := by kernel_rfl
  t3 := Tryz.underlying3
  a3 := Tryz.isAgg3
  z3 := Tryz.sizeOf3
  v3 := Tryz.zeroValue3
  i3 := by kernel_rfl
  t4 := Tryz.underlying4
  a4 := Tryz.isAgg4
  z4 := Tryz.sizeOf4
  v4 := Tryz.zeroValue4
  i4 := by kernel_rfl
  t5 := Tryz.underlying5
  a5 := Tryz.isAgg5
  z5 := Tryz.sizeOf5
  v5 := Tryz.zeroValue5
  i5 := by kernel_rfl
  t22 := Tryz.underlying60
  a22 := Tryz.isAgg60
  z22 := Tryz.sizeOf60
  v22 := Tryz.zeroValue60
  i22 := by kernel_rfl
  t25 := Tryz.underlying237
  a25 := Tryz.isAgg237
  z25 := Tryz.sizeOf237
  v25 := Tryz.zeroValue237
  i25 := by kernel_rfl
  t54 := Tryz.underlying370
  a54 := Tryz.isAgg370
  z54 := Tryz.sizeOf370
  g1 := by kernel_rfl }
def Tryz.keysA_ren : Go.Shelf.Ren := ⟨fun | 7 => 202 | 10 => 242 | n => n, fun | 23 => 197 | 26 => 3 | 3 => 300 | 28 => 298 | 0 => 0 | 27 => 297 | 33 => 310 | 4 => 4 | n => n, fun | n => n⟩
theorem Tryz.keysA : Go.Proofs.SlLaysZI.n7 Tryz.prog Tryz.keysA_ren := {
  mixed := by kernel_rfl
  f7 := ⟨Tryz.f202.name, by decide, Tryz.func202.trans (congrArg some (by kernel_rfl))⟩
  f10 := ⟨Tryz.f242.name, by decide, Tryz.func242.trans (congrArg some (by kernel_rfl))⟩
  t0 := Tryz.underlying0
  a0 := Tryz.isAgg0
  z0 := Tryz.sizeOf0
  v0 := Tryz.zeroValue0
  t4 := Tryz.underlying4
  a4 := Tryz.isAgg4
  z4 := Tryz.sizeOf4
  v4 := Tryz.zeroValue4
  t23 := Tryz.underlying197
  a23 := Tryz.isAgg197
  z23 := Tryz.sizeOf197
  v23 := Tryz.zeroValue197
  t26 := Tryz.underlying3
  a26 := Tryz.isAgg3
  z26 := Tryz.sizeOf3
  v26 := Tryz.zeroValue3
  t27 := Tryz.underlying297
  a27 := Tryz.isAgg297
  z27 := Tryz.sizeOf297
  v27 := Tryz.zeroValue297
  t28 := Tryz.underlying298
  a28 := Tryz.isAgg298
  z28 := Tryz.sizeOf298
  v28 := Tryz.zeroValue298
  t33 := Tryz.underlying310
  a33 := Tryz.isAgg310
  z33 := Tryz.sizeOf310
  v33 := Tryz.zeroValue310 }
def Tryz.sortedA_ren : Go.Shelf.Ren := ⟨fun | 6 => 201 | 8 => 240 | 9 => 241 | 11 => 260 | 13 => 262 | 12 => 261 | 23 => 280 | 24 => 281 | 14 => 271 | 15 => 272 | 16 => 273 | 17 => 274 | 18 => 275 | 19 => 276 | 20 => 277 | 21 => 278 | 22 => 279 | 25 => 292 | 26 => 293 | 27 => 294 | 28 => 295 | 29 => 296 | 30 => 297 | 31 => 319 | n => n, fun | 26 => 3 | 28 => 298 | 24 => 235 | 0 => 0 | 3 => 3 | 37 => 237 | 48 => 44 | 50 => 60 | 4 => 4 | 40 => 373 | 39 => 372 | 45 => 377 | 5 => 5 | 9 => 9 | 51 => 386 | 55 => 320 | 57 => 411 | 58 => 146 | 33 => 310 | n => n, fun | n => n⟩
theorem Tryz.sortedA : Go.Proofs.SlLaysZI.n6 Tryz.prog Tryz.sortedA_ren := {
  mixed := by kernel_rfl
  f6 := ⟨Tryz.f201.name, by decide, Tryz.func201.trans (congrArg some (by kernel_rfl))⟩
  f8 := ⟨Tryz.f240.name, by decide, Tryz.func240.trans (congrArg some (by kernel_rfl))⟩
  f11 := ⟨Tryz.f260.name, by decide, Tryz.func260.trans (congrArg some (by kernel_rfl))⟩
  t0 := Tryz.underlying0
  a0 := Tryz.isAgg0
  z0 := Tryz.sizeOf0
  v0 := Tryz.zeroValue0
  t24 := Tryz.underlying235
  a24 := Tryz.isAgg235
  z24 := Tryz.sizeOf235
  v24 := Tryz.zeroValue235
  t26 := Tryz.underlying3
  a26 := Tryz.isAgg3
  z26 := Tryz.sizeOf3
  v26 := Tryz.zeroValue3
  t28 := Tryz.underlying298
  a28 := Tryz.isAgg298
  z28 := Tryz.sizeOf298
  v28 := Tryz.zeroValue298
  i26 := by kernel_rfl }
def Tryz.sortA_ren : Go.Shelf.Ren := ⟨fun | 5 => 241 | 8 => 262 | 7 => 261 | 19 => 280 | 20 => 281 | 10 => 271 | 11 => 272 | 12 => 273 | 13 => 274 | 14 => 275 | 15 => 276 | 16 => 277 | 17 => 278 | 18 => 279 | 30 => 292 | 31 => 293 | 32 => 294 | 33 => 295 | 34 => 296 | 35 => 297 | 40 => 319 | n => n, fun | 23 => 235 | 25 => 3 | 3 => 3 | 32 => 237 | 22 => 235 | 0 => 0 | 44 => 44 | 46 => 60 | 4 => 4 | 36 => 373 | 35 => 372 | 41 => 377 | 5 => 5 | 9 => 9 | 53 => 386 | 57 => 320 | 63 => 411 | 64 => 146 | n => n, fun | n => n⟩
theorem Tryz.sortA : Go.Proofs.SlLaysM.n5 Tryz.prog Tryz.sortA_ren := {
  mixed := by kernel_rfl
  f5 := ⟨Tryz.f241.name, by decide, Tryz.func241.trans (congrArg some (by kernel_rfl))⟩
  f7 := ⟨Tryz.f261.name, by decide, Tryz.func261.trans (congrArg some (by kernel_rfl))⟩
  f8 := Tryz.func262.trans (congrArg some (by kernel_rfl))
  f10 := ⟨Tryz.f271.name, by decide, Tryz.func271.trans (congrArg some (by kernel_rfl))⟩
  f11 := ⟨Tryz.f272.name, by decide, Tryz.func272.trans (congrArg some (by kernel_rfl))⟩
  f12 := ⟨Tryz.f273.name, by decide, Tryz.func273.trans (congrArg some (by kernel_rfl))⟩
  f13 := ⟨Tryz.f274.name, by decide, Tryz.func274.trans (congrArg some (by kernel_rfl))⟩
  f14 := ⟨Tryz.f275.name, by decide, Tryz.func275.trans (congrArg some (by kernel_rfl))⟩
  f15 := ⟨Tryz.f276.name, by decide, Tryz.func276.trans (congrArg some (by kernel_rfl))⟩
  f16 := ⟨Tryz.f277.name, by decide, Tryz.func277.trans (congrArg some (by kernel_rfl))⟩
  f17 := ⟨Tryz.f278.name, by decide, Tryz.func278.trans (congrArg some (by kernel_rfl))⟩
  f18 := ⟨Tryz.f279.name, by decide, Tryz.func279.trans (congrArg some (by kernel_rfl))⟩
  f19 := Tryz.func280.trans (congrArg some (by kernel_rfl))
  f20 := Tryz.func281.trans (congrArg some (by kernel_rfl))
  f30 := ⟨Tryz.f292.name, by decide, Tryz.func292.trans (congrArg some (by kernel_rfl))⟩
  f31 := Tryz.func293.trans (congrArg some (by kernel_rfl))
  f32 := Tryz.func294.trans (congrArg some (by kernel_rfl))
  f33 := ⟨Tryz.f295.name, by decide, Tryz.func295.trans (congrArg some (by kernel_rfl))⟩
  f34 := ⟨Tryz.f296.name, by decide, Tryz.func296.trans (congrArg some (by kernel_rfl))⟩
  f35 := ⟨Tryz.f297.name, by decide, Tryz.func297.trans (congrArg some (by kernel_rfl))⟩
  f40 := ⟨Tryz.f319.name, by decide, Tryz.func319.trans (congrArg some (by kernel_rfl))⟩
  t0 := Tryz.underlying0
  a0 := Tryz.isAgg0
  z0 := Tryz.sizeOf0
  v0 := Tryz.zeroValue0
  t3 := Tryz.underlying3
  a3 := Tryz.isAgg3
  z3 := Tryz.sizeOf3
  v3 := Tryz.zeroValue3
  t4 := Tryz.underlying4
  a4 := Tryz.isAgg4
  z4 := Tryz.sizeOf4
  v4 := Tryz.zeroValue4
  t5 := Tryz.underlying5
  a5 := Tryz.isAgg5
  z5 := Tryz.sizeOf5
  v5 := Tryz.zeroValue5
  t9 := Tryz.underlying9
  a9 := Tryz.isAgg9
  z9 := Tryz.sizeOf9
  v9 := Tryz.zeroValue9
  t22 := Tryz.underlying235
  a22 := Tryz.isAgg235
  z22 := Tryz.sizeOf235
  v22 := Tryz.zeroValue235
  t23 := Tryz.underlying235
  a23 := Tryz.isAgg235
  z23 := Tryz.sizeOf235
  v23 := Tryz.zeroValue235
  t25 := Tryz.underlying3
  a25 := Tryz.isAgg3
  z25 := Tryz.sizeOf3
  v25 := Tryz.zeroValue3
  t32 := Tryz.underlying237
  a32 := Tryz.isAgg237
  z32 := Tryz.sizeOf237
  v32 := Tryz.zeroValue237
  t35 := Tryz.underlying372
  a35 := Tryz.isAgg372
  z35 := Tryz.sizeOf372
  v35 := Tryz.zeroValue372
  t36 := Tryz.underlying373
  a36 := Tryz.isAgg373
  z36 := Tryz.sizeOf373
  v36 := Tryz.zeroValue373
  t41 := Tryz.underlying377
  a41 := Tryz.isAgg377
  z41 := Tryz.sizeOf377
  v41 := Tryz.zeroValue377
  t44 := Tryz.underlying44
  a44 := Tryz.isAgg44
  z44 := Tryz.sizeOf44
  v44 := Tryz.zeroValue44
  t46 := Tryz.underlying60
  a46 := Tryz.isAgg60
  z46 := Tryz.sizeOf60
  v46 := Tryz.zeroValue60
  t53 := Tryz.underlying386
  a53 := Tryz.isAgg386
  z53 := Tryz.sizeOf386
  v53 := Tryz.zeroValue386
  t57 := Tryz.underlying320
  a57 := Tryz.isAgg320
  z57 := Tryz.sizeOf320
  v57 := Tryz.zeroValue320
  t63 := Tryz.underlying411
  a63 := Tryz.isAgg411
  z63 := Tryz.sizeOf411
  v63 := Tryz.zeroValue411
  t64 := Tryz.underlying146
  a64 := Tryz.isAgg146
  z64 := Tryz.sizeOf146
  v64 := Tryz.zeroValue146 }
end Go.Proofs
