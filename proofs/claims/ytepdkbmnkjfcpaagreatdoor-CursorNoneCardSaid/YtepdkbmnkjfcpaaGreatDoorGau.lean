/- Nodes: asked, fields, Get, Put, Make, Drop: the walks. -/
import Derived.Test.YtepdkbmnkjfcpaaGreatDoorGat
import Derived.Lib.ItoaWalk
namespace Go.Proofs.YtepdkbmnkjfcpaaGreatDoor
open Go.RowKit Go.BigFrame Go.Maps Go.WideMaps Lf

/-- a node as a value -/
def ndV (n : Nd) : Value := .agg #[.int .u64 n.key, .int .u64 n.val, .int .u64 n.left, .int .u64 n.right, .int .u64 n.mark, .int .u64 n.size]
structure NdLt (n : Nd) : Prop where
  key : n.key < 18446744073709551616
  val : n.val < 18446744073709551616
  left : n.left < 18446744073709551616
  right : n.right < 18446744073709551616
  mark : n.mark < 18446744073709551616
  size : n.size < 18446744073709551616

set_option maxRecDepth 100000 in
set_option maxHeartbeats 800000 in
theorem node_asked {w : World} {ps : Nat} {S : St} {Y : Nat → Prop} (h : StOn w ps S Y) (hi : Inv S) (hh : Nat) (hl : hh < 18446744073709551616) :
    Calls Tryz.prog 163 #[PV ps, .int .u64 hh] w fun e w' => e = .returned (.int .i64 (askedN S hh : Nat)) ∧ w = w' := by
  have hle := st_len h hi hh hl
  obtain ⟨R, hR⟩ : ∃ R, askedN S hh = R := ⟨_, rfl⟩
  rw [hR]
  unfold askedN at hR
  obtain ⟨⟨n, er⟩, hn⟩ : ∃ r, S.len hh = r := ⟨_, rfl⟩
  rw [hn] at hle hR
  simp only at hle
  cases er with
  | succ er =>
    have hR1 : R = er + 1 := by rw [← hR]; rfl
    have hq1 : (((er + 1 : Nat) : Int) == 0) = false := by simp; omega
    obtain ⟨g1, hg1⟩ : ∃ g1, er + 1 = g1 := ⟨_, rfl⟩
    rw [hg1] at hle hR1 hq1
    have HG := Lib.hid (And.intro hle hR1)
    clear hle hR hR1 hg1 h hi hn
    go_enter Tryz.func163, Tryz.ntmps163
    go_wp2_with fail
    refine HG.out.1.mono ?_
    rintro e w1 ⟨rfl, rfl⟩
    go_wp2_with fail
    go_ret
    obtain rfl := HG.out.2
    exact ⟨rfl, rfl⟩
  | zero =>
    by_cases h6 : n = 6
    · have hR1 : R = 0 := by rw [← hR, h6]; rfl
      subst h6
      have HG := Lib.hid (And.intro hle hR1)
      clear hle hR hR1 h hi hn
      go_enter Tryz.func163, Tryz.ntmps163
      go_wp2_with fail
      refine HG.out.1.mono ?_
      rintro e w1 ⟨rfl, rfl⟩
      go_wp2_with fail
      go_ret
      obtain rfl := HG.out.2
      exact ⟨rfl, rfl⟩
    · have hR1 : R = 8 := by rw [← hR]; show (if n ≠ 6 then 8 else 0) = 8; rw [if_pos h6]
      have hq1 : ((n : Int) != 6) = true := by simp; omega
      have HG := Lib.hid (And.intro hle hR1)
      clear hle hR hR1 h hi hn h6
      go_enter Tryz.func163, Tryz.ntmps163
      go_wp2_with fail
      refine HG.out.1.mono ?_
      rintro e w1 ⟨rfl, rfl⟩
      go_wp2_with fail
      go_ret
      obtain rfl := HG.out.2
      exact ⟨rfl, rfl⟩

set_option maxRecDepth 100000 in
set_option maxHeartbeats 400000 in
theorem node_fields (n : Nd) (w : World) :
    Calls Tryz.prog 231 #[ndV n] w fun e w' => e = .returned (ndV n) ∧ Below w.heap.size w w' := by
  obtain ⟨k, v, l, r, m, s⟩ := n
  unfold ndV
  simp only
  have hb : ∀ o o', Below w.heap.size w ((w.alloc o).alloc o') := fun o o' => ((Below.refl _ w).alloc (Nat.le_refl _) o).alloc (by simp) o'
  have HB := Lib.hid hb
  clear hb
  go_enter Tryz.func231, Tryz.ntmps231
  go_wp2_with fail
  refine bodyPost_ret (v := .agg #[.int .u64 k, .int .u64 v, .int .u64 l, .int .u64 r, .int .u64 m, .int .u64 s]) (by simp [results, Tryz.f231, go_sem]) rfl ⟨rfl, HB.out _ _⟩

def gotV (S : St) (hh k : Nat) : List Value := (List.range 6).map fun i => .int .u64 (if i < k then ((S.get hh i).1 : Nat) else (0 : Nat))

set_option maxRecDepth 100000 in
set_option maxHeartbeats 1600000 in
theorem node_get {w : World} {ps : Nat} {S : St} {Y : Nat → Prop} (h : StOn w ps S Y) (hi : Inv S) (hh : Nat) (hl : hh < 18446744073709551616) :
    Calls Tryz.prog 116 #[PV ps, .int .u64 hh] w fun e w' => e = .returned (.tuple #[ndV (getNode S hh).1, .int .i64 ((getNode S hh).2 : Nat)]) ∧ Below w.heap.size w w' := by
  have hb1 : Below w.heap.size w (w.alloc (.cells #[.int .u64 0, .int .u64 0, .int .u64 0, .int .u64 0, .int .u64 0, .int .u64 0] 183)) := (Below.refl _ w).alloc (Nat.le_refl _) _
  have has := node_asked (h.below hb1) hi hh hl
  have hgt := fun W (hW : Below w.heap.size w W) (k : Nat) (hk : k ≤ 6) => st_get (h.below hW) hi hh k hl (by omega)
  obtain ⟨R, hR⟩ : ∃ R, getNode S hh = R := ⟨_, rfl⟩
  rw [hR]
  unfold getNode at hR
  obtain ⟨a, ha⟩ : ∃ a, askedN S hh = a := ⟨_, rfl⟩
  rw [ha] at has hR
  cases a with
  | succ a =>
    have hR1 : R = (Nd.zero, a + 1) := by rw [← hR]; rfl
    have hq1 : (((a + 1 : Nat) : Int) != 0) = true := by simp; omega
    obtain ⟨g1, hg1⟩ : ∃ g1, a + 1 = g1 := ⟨_, rfl⟩
    rw [hg1] at has hR1 hq1
    have HG := Lib.hid (And.intro has (And.intro hR1 hb1))
    clear has hR hR1 hg1 h hi ha hgt hb1
    go_enter Tryz.func116, Tryz.ntmps116
    go_wp2_with fail
    refine HG.out.1.mono ?_
    rintro e w1 ⟨rfl, rfl⟩
    go_wp2_with fail
    obtain rfl := HG.out.2.1
    refine bodyPost_ret (v := .tuple #[ndV Nd.zero, .int .i64 g1]) (by simp [results, Tryz.f116, go_sem, ndV, Nd.zero]) rfl ⟨rfl, (Below.refl _ w).alloc (Nat.le_refl _) _⟩
  | zero =>
    have hR1 : R = (⟨(S.get hh 0).1, (S.get hh 1).1, (S.get hh 2).1, (S.get hh 3).1, (S.get hh 4).1, (S.get hh 5).1⟩, 0) := by rw [← hR]; rfl
    have HG := Lib.hid (And.intro has (And.intro hR1 (And.intro hb1 hgt)))
    clear has hR hR1 h hi ha hgt hb1
    go_enter Tryz.func116, Tryz.ntmps116
    go_wp2_with fail
    refine HG.out.1.mono ?_
    rintro e w1 ⟨rfl, rfl⟩
    go_wp2_with fail
    have hA : ∀ k, gotV S hh k = [.int .u64 (if 0 < k then ((S.get hh 0).1 : Nat) else (0 : Nat)), .int .u64 (if 1 < k then ((S.get hh 1).1 : Nat) else (0 : Nat)), .int .u64 (if 2 < k then ((S.get hh 2).1 : Nat) else (0 : Nat)), .int .u64 (if 3 < k then ((S.get hh 3).1 : Nat) else (0 : Nat)), .int .u64 (if 4 < k then ((S.get hh 4).1 : Nat) else (0 : Nat)), .int .u64 (if 5 < k then ((S.get hh 5).1 : Nat) else (0 : Nat))] := fun k => rfl
    have hst : ∀ k, k < 6 → (gotV S hh k).toArray.setIfInBounds k (.int .u64 ((S.get hh k).1 : Nat)) = (gotV S hh (k + 1)).toArray := fun k hk => by
      apply Array.toList_inj.1
      simp only [Array.toList_setIfInBounds]
      apply List.ext_getElem (by simp [gotV])
      intro n h1 h2
      simp only [gotV, List.getElem_set, List.getElem_map, List.getElem_range]
      by_cases e : k = n
      · subst e; simp
      · rw [if_neg e]
        by_cases e2 : n < k
        · rw [if_pos e2, if_pos (by omega)]
        · rw [if_neg e2, if_neg (by omega)]
    go_name_world W0 HW0
    have q1 : W0.heap[w.heap.size + 1]? = some (.cells (gotV S hh 0).toArray 237 (0, 0)) := by
      rw [← HW0]
      have := heap_alloc_new (w.alloc (.cells #[.int .u64 0, .int .u64 0, .int .u64 0, .int .u64 0, .int .u64 0, .int .u64 0] 183)) (.cells #[.int .u64 0, .int .u64 0, .int .u64 0, .int .u64 0, .int .u64 0, .int .u64 0] 237)
      rw [World.size_alloc] at this
      exact this
    have q0 : W0.heap[w.heap.size]? = some (.cells #[.int .u64 0, .int .u64 0, .int .u64 0, .int .u64 0, .int .u64 0, .int .u64 0] 183 (0, 0)) := by
      rw [← HW0, heap_alloc_old _ _ (by simp)]; exact heap_alloc_new w _
    have qb : Below w.heap.size w W0 := by rw [← HW0]; exact HG.out.2.2.1.alloc (by simp) _
    clear HW0
    have H0 := Lib.hid (And.intro q1 (And.intro q0 (And.intro qb (And.intro hA hst))))
    clear q1 q0 qb hA hst
    go_loopw [8, 16] (fun _ i wr => ∃ k : Nat, k ≤ 6 ∧ i = .int .i64 k ∧ wr.heap[w.heap.size + 1]? = some (.cells (gotV S hh k).toArray 237 (0, 0)) ∧ wr.heap[w.heap.size]? = some (.cells #[.int .u64 0, .int .u64 0, .int .u64 0, .int .u64 0, .int .u64 0, .int .u64 0] 183 (0, 0)) ∧ Below w.heap.size w wr) (fun _ i _ => 6 - (intOf i).toNat)
    case atStart => exact ⟨0, by omega, rfl, H0.out.1, H0.out.2.1, H0.out.2.2.1⟩
    case round =>
      obtain ⟨k, hk, rfl, r1, r0, rb⟩ := hrel
      by_cases hlt : k < 6
      · have hlt' : (k : Int) < 6 := by omega
        have hge := HG.out.2.2.2 wr rb k hk
        have c1 : ∃ v, wr.cell? ⟨w.heap.size + 1, k, none⟩ = some v := by
          rw [cell_of_block r1]
          refine ⟨(gotV S hh k)[k]'(by simp [gotV]; omega), ?_⟩
          rw [List.getElem?_toArray, List.getElem?_eq_getElem]
        obtain ⟨v0, c1⟩ := c1
        have f1 : wr.frozen? ⟨w.heap.size + 1, k, none⟩ = false := frozen_of_block r1
        have hs2 := H0.out.2.2.2.2 k hlt
        generalize (S.get hh k).1 = x at hge hs2
        generalize (S.get hh k).2 = er at hge
        have HK := Lib.hid (And.intro hge (And.intro r1 (And.intro r0 (And.intro rb hs2))))
        clear hge r1 r0 rb hs2
        go_wp2_with fail
        refine HK.out.1.mono ?_
        rintro e w2 ⟨rfl, rfl⟩
        go_wp2_with fail
        go_roundw
        case rel =>
          refine ⟨k + 1, by omega, by simp, ?_, ?_, HK.out.2.2.2.1.setCell (p := ⟨w.heap.size + 1, k, none⟩) (by simp) _⟩
          · rw [heap_setCell HK.out.2.1, HK.out.2.2.2.2]
          · rw [heap_setCell_ne (by omega)]; exact HK.out.2.2.1
        case measure => simp [intOf]; omega
      · obtain rfl : k = 6 := by omega
        have hA := H0.out.2.2.2.1 6
        simp only [show (0 : Nat) < 6 from by decide, show (1 : Nat) < 6 from by decide, show (2 : Nat) < 6 from by decide, show (3 : Nat) < 6 from by decide, show (4 : Nat) < 6 from by decide, show (5 : Nat) < 6 from by decide, if_true] at hA
        rw [hA] at r1
        have g0 := HG.out.2.1
        generalize (S.get hh 0).1 = x0 at r1 g0
        generalize (S.get hh 1).1 = x1 at r1 g0
        generalize (S.get hh 2).1 = x2 at r1 g0
        generalize (S.get hh 3).1 = x3 at r1 g0
        generalize (S.get hh 4).1 = x4 at r1 g0
        generalize (S.get hh 5).1 = x5 at r1 g0
        have a0 : wr.cell? ⟨w.heap.size + 1, 0, none⟩ = some (.int .u64 x0) := by rw [cell_of_block r1]; rfl
        have a1 : wr.cell? ⟨w.heap.size + 1, 1, none⟩ = some (.int .u64 x1) := by rw [cell_of_block r1]; rfl
        have a2 : wr.cell? ⟨w.heap.size + 1, 2, none⟩ = some (.int .u64 x2) := by rw [cell_of_block r1]; rfl
        have a3 : wr.cell? ⟨w.heap.size + 1, 3, none⟩ = some (.int .u64 x3) := by rw [cell_of_block r1]; rfl
        have a4 : wr.cell? ⟨w.heap.size + 1, 4, none⟩ = some (.int .u64 x4) := by rw [cell_of_block r1]; rfl
        have a5 : wr.cell? ⟨w.heap.size + 1, 5, none⟩ = some (.int .u64 x5) := by rw [cell_of_block r1]; rfl
        have b0 : wr.cell? ⟨w.heap.size, 0, none⟩ = some (.int .u64 0) := by rw [cell_of_block r0]; rfl
        have b1 : wr.cell? ⟨w.heap.size, 1, none⟩ = some (.int .u64 0) := by rw [cell_of_block r0]; rfl
        have b2 : wr.cell? ⟨w.heap.size, 2, none⟩ = some (.int .u64 0) := by rw [cell_of_block r0]; rfl
        have b3 : wr.cell? ⟨w.heap.size, 3, none⟩ = some (.int .u64 0) := by rw [cell_of_block r0]; rfl
        have b4 : wr.cell? ⟨w.heap.size, 4, none⟩ = some (.int .u64 0) := by rw [cell_of_block r0]; rfl
        have b5 : wr.cell? ⟨w.heap.size, 5, none⟩ = some (.int .u64 0) := by rw [cell_of_block r0]; rfl
        have bf : ∀ o, wr.frozen? ⟨w.heap.size, o, none⟩ = false := fun o => frozen_of_block r0
        have f0 := bf 0
        have f1 := bf 1
        have f2 := bf 2
        have f3 := bf 3
        have f4 := bf 4
        have f5 := bf 5
        have HK := Lib.hid (And.intro r1 (And.intro r0 (And.intro rb g0)))
        clear r1 r0 rb g0 hA bf
        go_wp2_with fail
        have hX : ((((((wr.setCell ⟨w.heap.size, 0, none⟩ (.int .u64 x0)).setCell ⟨w.heap.size, 1, none⟩ (.int .u64 x1)).setCell ⟨w.heap.size, 2, none⟩ (.int .u64 x2)).setCell ⟨w.heap.size, 3, none⟩ (.int .u64 x3)).setCell ⟨w.heap.size, 4, none⟩ (.int .u64 x4)).setCell ⟨w.heap.size, 5, none⟩ (.int .u64 x5)).heap[w.heap.size]? = some (.cells #[.int .u64 x0, .int .u64 x1, .int .u64 x2, .int .u64 x3, .int .u64 x4, .int .u64 x5] 183 (0, 0)) := by
          rw [heap_setCell (heap_setCell (heap_setCell (heap_setCell (heap_setCell (heap_setCell HK.out.2.1)))))]; rfl
        have hY : Below w.heap.size w ((((((wr.setCell ⟨w.heap.size, 0, none⟩ (.int .u64 x0)).setCell ⟨w.heap.size, 1, none⟩ (.int .u64 x1)).setCell ⟨w.heap.size, 2, none⟩ (.int .u64 x2)).setCell ⟨w.heap.size, 3, none⟩ (.int .u64 x3)).setCell ⟨w.heap.size, 4, none⟩ (.int .u64 x4)).setCell ⟨w.heap.size, 5, none⟩ (.int .u64 x5)) :=
          (((((HK.out.2.2.1.setCell (p := ⟨w.heap.size, 0, none⟩) (Nat.le_refl w.heap.size) _).setCell (p := ⟨w.heap.size, 1, none⟩) (Nat.le_refl w.heap.size) _).setCell (p := ⟨w.heap.size, 2, none⟩) (Nat.le_refl w.heap.size) _).setCell (p := ⟨w.heap.size, 3, none⟩) (Nat.le_refl w.heap.size) _).setCell (p := ⟨w.heap.size, 4, none⟩) (Nat.le_refl w.heap.size) _).setCell (p := ⟨w.heap.size, 5, none⟩) (Nat.le_refl w.heap.size) _
        generalize ((((((wr.setCell ⟨w.heap.size, 0, none⟩ (.int .u64 x0)).setCell ⟨w.heap.size, 1, none⟩ (.int .u64 x1)).setCell ⟨w.heap.size, 2, none⟩ (.int .u64 x2)).setCell ⟨w.heap.size, 3, none⟩ (.int .u64 x3)).setCell ⟨w.heap.size, 4, none⟩ (.int .u64 x4)).setCell ⟨w.heap.size, 5, none⟩ (.int .u64 x5)) = W9 at *
        have e0 : W9.cell? ⟨w.heap.size, 0, none⟩ = some (.int .u64 x0) := by rw [cell_of_block hX]; rfl
        have e1 : W9.cell? ⟨w.heap.size, 1, none⟩ = some (.int .u64 x1) := by rw [cell_of_block hX]; rfl
        have e2 : W9.cell? ⟨w.heap.size, 2, none⟩ = some (.int .u64 x2) := by rw [cell_of_block hX]; rfl
        have e3 : W9.cell? ⟨w.heap.size, 3, none⟩ = some (.int .u64 x3) := by rw [cell_of_block hX]; rfl
        have e4 : W9.cell? ⟨w.heap.size, 4, none⟩ = some (.int .u64 x4) := by rw [cell_of_block hX]; rfl
        have e5 : W9.cell? ⟨w.heap.size, 5, none⟩ = some (.int .u64 x5) := by rw [cell_of_block hX]; rfl
        obtain rfl := HK.out.2.2.2
        exact bodyPost_ret (v := .tuple #[.agg #[.int .u64 x0, .int .u64 x1, .int .u64 x2, .int .u64 x3, .int .u64 x4, .int .u64 x5], .int .i64 0]) (by simp [results, Tryz.f116, go_sem, e0, e1, e2, e3, e4, e5]) rfl ⟨rfl, hY⟩

set_option maxRecDepth 100000 in
set_option maxHeartbeats 400000 in
theorem node_drop_no {w : World} {ps : Nat} {S : St} {Y : Nat → Prop} (h : StOn w ps S Y) (hi : Inv S) (hh : Nat) (hl : hh < 18446744073709551616) (ha : askedN S hh ≠ 0) :
    Calls Tryz.prog 152 #[PV ps, .int .u64 hh] w fun e w' => e = .returned (.int .i64 (askedN S hh : Nat)) ∧ w = w' := by
  have has := node_asked h hi hh hl
  generalize askedN S hh = a at *
  have hq1 : ((a : Int) != 0) = true := by simp; omega
  have HG := Lib.hid has
  clear has ha h hi
  go_enter Tryz.func152, Tryz.ntmps152
  go_wp2_with fail
  refine HG.out.mono ?_
  rintro e w1 ⟨rfl, rfl⟩
  go_wp2_with fail
  go_ret
  exact ⟨rfl, rfl⟩
end Go.Proofs.YtepdkbmnkjfcpaaGreatDoor
