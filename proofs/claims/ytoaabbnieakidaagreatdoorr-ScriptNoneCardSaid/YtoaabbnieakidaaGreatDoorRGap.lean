/- Blobs: Get; texts: Compare: the walks. Nodes: asked, fields, Get, Put, Make, Drop: the walks. Nodes: Put, Make: the walks. -/
import Derived.Test.YtoaabbnieakidaaGreatDoorRGao
import Derived.Test.YtoaabbnieakidaaGreatDoorRGab
import Derived.Lib.ItoaWalk
namespace Go.Proofs.YtoaabbnieakidaaGreatDoorR
open Go.RowKit Go.BigFrame Go.Maps Go.WideMaps Lf
open Go.Shelf

set_option maxRecDepth 100000 in
set_option maxHeartbeats 800000 in
theorem blob_get {w : World} {ps : Nat} {S : St} {Y : Nat → Prop} (h : StOn w ps S Y) (hi : Inv S) (hh : Nat) (hl : hh < 18446744073709551616) (hg : (getBlob S hh).2 ≠ 8) :
    Calls Tryz.prog 83 #[PV ps, .int .u64 hh] w fun e w' => e = .returned (.tuple #[SV (getBlob S hh).1, .int .i64 ((getBlob S hh).2 : Nat)]) ∧ Below w.heap.size w w' := by
  have hle := st_len h hi hh hl
  obtain ⟨R, hR⟩ : ∃ R, getBlob S hh = R := ⟨_, rfl⟩
  rw [hR] at hg ⊢
  unfold getBlob at hR
  obtain ⟨⟨n, er⟩, hn⟩ : ∃ r, S.len hh = r := ⟨_, rfl⟩
  rw [hn] at hle hR
  simp only at hle
  cases er with
  | succ er =>
    have hR1 : R = ([], er + 1) := by rw [← hR]; rfl
    have hq1 : (((er + 1 : Nat) : Int) != 0) = true := by simp; omega
    obtain ⟨g1, hg1⟩ : ∃ g1, er + 1 = g1 := ⟨_, rfl⟩
    rw [hg1] at hle hR1 hq1
    have HG := Lib.hid (And.intro hle hR1)
    clear hle hR hR1 hg1 hg h hi hn
    go_enter Tryz.func83, Tryz.ntmps83
    go_wp2_with fail
    refine HG.out.1.mono ?_
    rintro e w1 ⟨rfl, rfl⟩
    go_wp2_with fail
    go_ret2
    obtain rfl := HG.out.2
    exact ⟨rfl, Below.refl _ _⟩
  | zero =>
    cases ht : textOf (recWords S hh) with
    | none =>
      rw [ht] at hR
      exact absurd (by rw [← hR]; rfl) hg
    | some t =>
      have hR1 : R = (t, 0) := by rw [← hR, ht]; rfl
      obtain ⟨htl, hrw⟩ := textOf_some ht
      have HG := Lib.hid (And.intro hle (And.intro hR1 (And.intro h (And.intro hi (And.intro hrw htl)))))
      clear hle hR hR1 hg h hi hn ht hrw htl
      go_enter Tryz.func83, Tryz.ntmps83
      go_wp2_with fail
      refine HG.out.1.mono ?_
      rintro e w1 ⟨rfl, rfl⟩
      go_wp2_with fail
      refine (blob_words ps hh w).mono ?_
      rintro e w1 ⟨rfl, hw1⟩
      have hb : Below w.heap.size w w1 := by rw [hw1]; exact ((Below.refl _ w).alloc (Nat.le_refl _) _).alloc (by simp) _
      have hsz : w1.heap.size = w.heap.size + 2 := by rw [hw1]; simp
      have k0 : w1.cell? ⟨w.heap.size, 0, none⟩ = some (PV ps) := by
        have : w1.heap[w.heap.size]? = some (.cells #[PV ps] 77 (0, 0)) := by rw [hw1, heap_alloc_old _ _ (by simp)]; exact heap_alloc_new w _
        rw [cell_of_block this]; rfl
      have k1 : w1.cell? ⟨w.heap.size + 1, 0, none⟩ = some (.int .u64 hh) := by
        have h0 : w1.heap[w.heap.size + 1]? = some (.cells #[.int .u64 hh] 61 (0, 0)) := by
          have := heap_alloc_new (w.alloc (.cells #[PV ps] 77)) (.cells #[.int .u64 hh] 61)
          rw [World.size_alloc] at this
          rw [hw1]; exact this
        rw [cell_of_block h0]; rfl
      have hst := words_stops (HG.out.2.2.1.below hb) HG.out.2.2.2.1 hh hl w.heap.size (w.heap.size + 1) ⟨by omega, k0⟩ ⟨by omega, k1⟩
      rw [HG.out.2.2.2.2.1] at hst
      have hco := collect_words (by omega) (enters_of Tryz.func170 (by kernel_rfl) rfl) hst
      have HC := Lib.hid (And.intro hco hb)
      clear hst hco hb hsz k0 k1 hw1
      go_wp2_with fail
      refine HC.out.1.mono ?_
      rintro e w2 ⟨v, rfl, hrow, hb2⟩
      have hru := rowU_of_owns hrow (by unfold wordsOf; simp)
      have hof := text_of hru HG.out.2.2.2.2.2
      have HO := Lib.hid (And.intro hof (HC.out.2.trans (hb2.mono HC.out.2.size)))
      clear hrow hb2 hru hof
      go_wp2_with fail
      refine HO.out.1.mono ?_
      rintro e w3 ⟨rfl, hb3⟩
      have HB := Lib.hid (HO.out.2.trans (hb3.mono HO.out.2.size))
      clear hb3
      go_wp2_with fail
      go_ret2
      obtain rfl := HG.out.2.1
      exact ⟨rfl, HB.out⟩

theorem cmpB_eq : ∀ (a b : List UInt8), cmpB a b = Lib.compareBytes a b
  | [], [] => rfl
  | [], _ :: _ => rfl
  | _ :: _, [] => rfl
  | a :: l, b :: m => by
    unfold cmpB Lib.compareBytes
    rw [cmpB_eq l m]

set_option maxRecDepth 100000 in
set_option maxHeartbeats 400000 in
theorem strings_compare (a b : List UInt8) (w : World) :
    Calls Tryz.prog 251 #[SV a, SV b] w fun e w' => e = .returned (.int .i64 (cmpB a b)) ∧ w' = w := by
  have hc := Tryz.bytealg_CompareString ⟨a.toArray⟩ ⟨b.toArray⟩ w
  rw [cmpB_eq]
  have HC := Lib.hid hc
  clear hc
  go_enter Tryz.func251, Tryz.ntmps251
  go_wp2_with fail
  refine HC.out.mono ?_
  rintro e w1 ⟨rfl, rfl⟩
  go_wp2_with fail
  go_ret
  exact ⟨rfl, rfl⟩
set_option maxRecDepth 100000 in
set_option maxHeartbeats 400000 in
theorem text_compare (a b : List UInt8) (w : World) :
    Calls Tryz.prog 221 #[SV a, SV b] w fun e w' => e = .returned (.int .i64 (cmpB a b)) ∧ w' = w := by
  have HC := Lib.hid (strings_compare a b w)
  go_enter Tryz.func221, Tryz.ntmps221
  go_wp2_with fail
  refine HC.out.mono ?_
  rintro e w1 ⟨rfl, rfl⟩
  go_wp2_with fail
  go_ret
  exact ⟨rfl, rfl⟩
end Go.Proofs.YtoaabbnieakidaaGreatDoorR

namespace Go.Proofs.YtoaabbnieakidaaGreatDoorR
open Go.RowKit Go.BigFrame Go.Maps Go.WideMaps Lf

/-- a node as a value -/
def ndV (n : Nd) : Value := .agg #[.int .u64 n.key, .int .u64 n.val, .int .u64 n.left, .int .u64 n.right, .int .u64 n.mark, .int .u64 n.size]
structure NdLt (n : Nd) : Prop where
  key : n.key < 18446744073709551616
  val : n.val < 18446744073709551616
  left : n.left < 18446744073709551616
  right : n.right < 18446744073709551616
  mark : n.mark < 18446744073709551616
  size : n.size < 18446744073709551616

set_option maxRecDepth 100000 in
set_option maxHeartbeats 800000 in
theorem node_asked {w : World} {ps : Nat} {S : St} {Y : Nat → Prop} (h : StOn w ps S Y) (hi : Inv S) (hh : Nat) (hl : hh < 18446744073709551616) :
    Calls Tryz.prog 230 #[PV ps, .int .u64 hh] w fun e w' => e = .returned (.int .i64 (askedN S hh : Nat)) ∧ w = w' := by
  have hle := st_len h hi hh hl
  obtain ⟨R, hR⟩ : ∃ R, askedN S hh = R := ⟨_, rfl⟩
  rw [hR]
  unfold askedN at hR
  obtain ⟨⟨n, er⟩, hn⟩ : ∃ r, S.len hh = r := ⟨_, rfl⟩
  rw [hn] at hle hR
  simp only at hle
  cases er with
  | succ er =>
    have hR1 : R = er + 1 := by rw [← hR]; rfl
    have hq1 : (((er + 1 : Nat) : Int) == 0) = false := by simp; omega
    obtain ⟨g1, hg1⟩ : ∃ g1, er + 1 = g1 := ⟨_, rfl⟩
    rw [hg1] at hle hR1 hq1
    have HG := Lib.hid (And.intro hle hR1)
    clear hle hR hR1 hg1 h hi hn
    go_enter Tryz.func230, Tryz.ntmps230
    go_wp2_with fail
    refine HG.out.1.mono ?_
    rintro e w1 ⟨rfl, rfl⟩
    go_wp2_with fail
    go_ret
    obtain rfl := HG.out.2
    exact ⟨rfl, rfl⟩
  | zero =>
    by_cases h6 : n = 6
    · have hR1 : R = 0 := by rw [← hR, h6]; rfl
      subst h6
      have HG := Lib.hid (And.intro hle hR1)
      clear hle hR hR1 h hi hn
      go_enter Tryz.func230, Tryz.ntmps230
      go_wp2_with fail
      refine HG.out.1.mono ?_
      rintro e w1 ⟨rfl, rfl⟩
      go_wp2_with fail
      go_ret
      obtain rfl := HG.out.2
      exact ⟨rfl, rfl⟩
    · have hR1 : R = 8 := by rw [← hR]; show (if n ≠ 6 then 8 else 0) = 8; rw [if_pos h6]
      have hq1 : ((n : Int) != 6) = true := by simp; omega
      have HG := Lib.hid (And.intro hle hR1)
      clear hle hR hR1 h hi hn h6
      go_enter Tryz.func230, Tryz.ntmps230
      go_wp2_with fail
      refine HG.out.1.mono ?_
      rintro e w1 ⟨rfl, rfl⟩
      go_wp2_with fail
      go_ret
      obtain rfl := HG.out.2
      exact ⟨rfl, rfl⟩

set_option maxRecDepth 100000 in
set_option maxHeartbeats 400000 in
theorem node_fields (n : Nd) (w : World) :
    Calls Tryz.prog 336 #[ndV n] w fun e w' => e = .returned (ndV n) ∧ Below w.heap.size w w' := by
  obtain ⟨k, v, l, r, m, s⟩ := n
  unfold ndV
  simp only
  have hb : ∀ o o', Below w.heap.size w ((w.alloc o).alloc o') := fun o o' => ((Below.refl _ w).alloc (Nat.le_refl _) o).alloc (by simp) o'
  have HB := Lib.hid hb
  clear hb
  go_enter Tryz.func336, Tryz.ntmps336
  go_wp2_with fail
  refine bodyPost_ret (v := .agg #[.int .u64 k, .int .u64 v, .int .u64 l, .int .u64 r, .int .u64 m, .int .u64 s]) (by simp [results, Tryz.f336, go_sem]) rfl ⟨rfl, HB.out _ _⟩

def gotV (S : St) (hh k : Nat) : List Value := (List.range 6).map fun i => .int .u64 (if i < k then ((S.get hh i).1 : Nat) else (0 : Nat))

set_option maxRecDepth 100000 in
set_option maxHeartbeats 1600000 in
theorem node_get {w : World} {ps : Nat} {S : St} {Y : Nat → Prop} (h : StOn w ps S Y) (hi : Inv S) (hh : Nat) (hl : hh < 18446744073709551616) :
    Calls Tryz.prog 178 #[PV ps, .int .u64 hh] w fun e w' => e = .returned (.tuple #[ndV (getNode S hh).1, .int .i64 ((getNode S hh).2 : Nat)]) ∧ Below w.heap.size w w' := by
  have hb1 : Below w.heap.size w (w.alloc (.cells #[.int .u64 0, .int .u64 0, .int .u64 0, .int .u64 0, .int .u64 0, .int .u64 0] 274)) := (Below.refl _ w).alloc (Nat.le_refl _) _
  have has := node_asked (h.below hb1) hi hh hl
  have hgt := fun W (hW : Below w.heap.size w W) (k : Nat) (hk : k ≤ 6) => st_get (h.below hW) hi hh k hl (by omega)
  obtain ⟨R, hR⟩ : ∃ R, getNode S hh = R := ⟨_, rfl⟩
  rw [hR]
  unfold getNode at hR
  obtain ⟨a, ha⟩ : ∃ a, askedN S hh = a := ⟨_, rfl⟩
  rw [ha] at has hR
  cases a with
  | succ a =>
    have hR1 : R = (Nd.zero, a + 1) := by rw [← hR]; rfl
    have hq1 : (((a + 1 : Nat) : Int) != 0) = true := by simp; omega
    obtain ⟨g1, hg1⟩ : ∃ g1, a + 1 = g1 := ⟨_, rfl⟩
    rw [hg1] at has hR1 hq1
    have HG := Lib.hid (And.intro has (And.intro hR1 hb1))
    clear has hR hR1 hg1 h hi ha hgt hb1
    go_enter Tryz.func178, Tryz.ntmps178
    go_wp2_with fail
    refine HG.out.1.mono ?_
    rintro e w1 ⟨rfl, rfl⟩
    go_wp2_with fail
    obtain rfl := HG.out.2.1
    refine bodyPost_ret (v := .tuple #[ndV Nd.zero, .int .i64 g1]) (by simp [results, Tryz.f178, go_sem, ndV, Nd.zero]) rfl ⟨rfl, (Below.refl _ w).alloc (Nat.le_refl _) _⟩
  | zero =>
    have hR1 : R = (⟨(S.get hh 0).1, (S.get hh 1).1, (S.get hh 2).1, (S.get hh 3).1, (S.get hh 4).1, (S.get hh 5).1⟩, 0) := by rw [← hR]; rfl
    have HG := Lib.hid (And.intro has (And.intro hR1 (And.intro hb1 hgt)))
    clear has hR hR1 h hi ha hgt hb1
    go_enter Tryz.func178, Tryz.ntmps178
    go_wp2_with fail
    refine HG.out.1.mono ?_
    rintro e w1 ⟨rfl, rfl⟩
    go_wp2_with fail
    have hA : ∀ k, gotV S hh k = [.int .u64 (if 0 < k then ((S.get hh 0).1 : Nat) else (0 : Nat)), .int .u64 (if 1 < k then ((S.get hh 1).1 : Nat) else (0 : Nat)), .int .u64 (if 2 < k then ((S.get hh 2).1 : Nat) else (0 : Nat)), .int .u64 (if 3 < k then ((S.get hh 3).1 : Nat) else (0 : Nat)), .int .u64 (if 4 < k then ((S.get hh 4).1 : Nat) else (0 : Nat)), .int .u64 (if 5 < k then ((S.get hh 5).1 : Nat) else (0 : Nat))] := fun k => rfl
    have hst : ∀ k, k < 6 → (gotV S hh k).toArray.setIfInBounds k (.int .u64 ((S.get hh k).1 : Nat)) = (gotV S hh (k + 1)).toArray := fun k hk => by
      apply Array.toList_inj.1
      simp only [Array.toList_setIfInBounds]
      apply List.ext_getElem (by simp [gotV])
      intro n h1 h2
      simp only [gotV, List.getElem_set, List.getElem_map, List.getElem_range]
      by_cases e : k = n
      · subst e; simp
      · rw [if_neg e]
        by_cases e2 : n < k
        · rw [if_pos e2, if_pos (by omega)]
        · rw [if_neg e2, if_neg (by omega)]
    go_name_world W0 HW0
    have q1 : W0.heap[w.heap.size + 1]? = some (.cells (gotV S hh 0).toArray 328 (0, 0)) := by
      rw [← HW0]
      have := heap_alloc_new (w.alloc (.cells #[.int .u64 0, .int .u64 0, .int .u64 0, .int .u64 0, .int .u64 0, .int .u64 0] 274)) (.cells #[.int .u64 0, .int .u64 0, .int .u64 0, .int .u64 0, .int .u64 0, .int .u64 0] 328)
      rw [World.size_alloc] at this
      exact this
    have q0 : W0.heap[w.heap.size]? = some (.cells #[.int .u64 0, .int .u64 0, .int .u64 0, .int .u64 0, .int .u64 0, .int .u64 0] 274 (0, 0)) := by
      rw [← HW0, heap_alloc_old _ _ (by simp)]; exact heap_alloc_new w _
    have qb : Below w.heap.size w W0 := by rw [← HW0]; exact HG.out.2.2.1.alloc (by simp) _
    clear HW0
    have H0 := Lib.hid (And.intro q1 (And.intro q0 (And.intro qb (And.intro hA hst))))
    clear q1 q0 qb hA hst
    go_loopw [8, 16] (fun _ i wr => ∃ k : Nat, k ≤ 6 ∧ i = .int .i64 k ∧ wr.heap[w.heap.size + 1]? = some (.cells (gotV S hh k).toArray 328 (0, 0)) ∧ wr.heap[w.heap.size]? = some (.cells #[.int .u64 0, .int .u64 0, .int .u64 0, .int .u64 0, .int .u64 0, .int .u64 0] 274 (0, 0)) ∧ Below w.heap.size w wr) (fun _ i _ => 6 - (intOf i).toNat)
    case atStart => exact ⟨0, by omega, rfl, H0.out.1, H0.out.2.1, H0.out.2.2.1⟩
    case round =>
      obtain ⟨k, hk, rfl, r1, r0, rb⟩ := hrel
      by_cases hlt : k < 6
      · have hlt' : (k : Int) < 6 := by omega
        have hge := HG.out.2.2.2 wr rb k hk
        have c1 : ∃ v, wr.cell? ⟨w.heap.size + 1, k, none⟩ = some v := by
          rw [cell_of_block r1]
          refine ⟨(gotV S hh k)[k]'(by simp [gotV]; omega), ?_⟩
          rw [List.getElem?_toArray, List.getElem?_eq_getElem]
        obtain ⟨v0, c1⟩ := c1
        have f1 : wr.frozen? ⟨w.heap.size + 1, k, none⟩ = false := frozen_of_block r1
        have hs2 := H0.out.2.2.2.2 k hlt
        generalize (S.get hh k).1 = x at hge hs2
        generalize (S.get hh k).2 = er at hge
        have HK := Lib.hid (And.intro hge (And.intro r1 (And.intro r0 (And.intro rb hs2))))
        clear hge r1 r0 rb hs2
        go_wp2_with fail
        refine HK.out.1.mono ?_
        rintro e w2 ⟨rfl, rfl⟩
        go_wp2_with fail
        go_roundw
        case rel =>
          refine ⟨k + 1, by omega, by simp, ?_, ?_, HK.out.2.2.2.1.setCell (p := ⟨w.heap.size + 1, k, none⟩) (by simp) _⟩
          · rw [heap_setCell HK.out.2.1, HK.out.2.2.2.2]
          · rw [heap_setCell_ne (by omega)]; exact HK.out.2.2.1
        case measure => simp [intOf]; omega
      · obtain rfl : k = 6 := by omega
        have hA := H0.out.2.2.2.1 6
        simp only [show (0 : Nat) < 6 from by decide, show (1 : Nat) < 6 from by decide, show (2 : Nat) < 6 from by decide, show (3 : Nat) < 6 from by decide, show (4 : Nat) < 6 from by decide, show (5 : Nat) < 6 from by decide, if_true] at hA
        rw [hA] at r1
        have g0 := HG.out.2.1
        generalize (S.get hh 0).1 = x0 at r1 g0
        generalize (S.get hh 1).1 = x1 at r1 g0
        generalize (S.get hh 2).1 = x2 at r1 g0
        generalize (S.get hh 3).1 = x3 at r1 g0
        generalize (S.get hh 4).1 = x4 at r1 g0
        generalize (S.get hh 5).1 = x5 at r1 g0
        have a0 : wr.cell? ⟨w.heap.size + 1, 0, none⟩ = some (.int .u64 x0) := by rw [cell_of_block r1]; rfl
        have a1 : wr.cell? ⟨w.heap.size + 1, 1, none⟩ = some (.int .u64 x1) := by rw [cell_of_block r1]; rfl
        have a2 : wr.cell? ⟨w.heap.size + 1, 2, none⟩ = some (.int .u64 x2) := by rw [cell_of_block r1]; rfl
        have a3 : wr.cell? ⟨w.heap.size + 1, 3, none⟩ = some (.int .u64 x3) := by rw [cell_of_block r1]; rfl
        have a4 : wr.cell? ⟨w.heap.size + 1, 4, none⟩ = some (.int .u64 x4) := by rw [cell_of_block r1]; rfl
        have a5 : wr.cell? ⟨w.heap.size + 1, 5, none⟩ = some (.int .u64 x5) := by rw [cell_of_block r1]; rfl
        have b0 : wr.cell? ⟨w.heap.size, 0, none⟩ = some (.int .u64 0) := by rw [cell_of_block r0]; rfl
        have b1 : wr.cell? ⟨w.heap.size, 1, none⟩ = some (.int .u64 0) := by rw [cell_of_block r0]; rfl
        have b2 : wr.cell? ⟨w.heap.size, 2, none⟩ = some (.int .u64 0) := by rw [cell_of_block r0]; rfl
        have b3 : wr.cell? ⟨w.heap.size, 3, none⟩ = some (.int .u64 0) := by rw [cell_of_block r0]; rfl
        have b4 : wr.cell? ⟨w.heap.size, 4, none⟩ = some (.int .u64 0) := by rw [cell_of_block r0]; rfl
        have b5 : wr.cell? ⟨w.heap.size, 5, none⟩ = some (.int .u64 0) := by rw [cell_of_block r0]; rfl
        have bf : ∀ o, wr.frozen? ⟨w.heap.size, o, none⟩ = false := fun o => frozen_of_block r0
        have f0 := bf 0
        have f1 := bf 1
        have f2 := bf 2
        have f3 := bf 3
        have f4 := bf 4
        have f5 := bf 5
        have HK := Lib.hid (And.intro r1 (And.intro r0 (And.intro rb g0)))
        clear r1 r0 rb g0 hA bf
        go_wp2_with fail
        have hX : ((((((wr.setCell ⟨w.heap.size, 0, none⟩ (.int .u64 x0)).setCell ⟨w.heap.size, 1, none⟩ (.int .u64 x1)).setCell ⟨w.heap.size, 2, none⟩ (.int .u64 x2)).setCell ⟨w.heap.size, 3, none⟩ (.int .u64 x3)).setCell ⟨w.heap.size, 4, none⟩ (.int .u64 x4)).setCell ⟨w.heap.size, 5, none⟩ (.int .u64 x5)).heap[w.heap.size]? = some (.cells #[.int .u64 x0, .int .u64 x1, .int .u64 x2, .int .u64 x3, .int .u64 x4, .int .u64 x5] 274 (0, 0)) := by
          rw [heap_setCell (heap_setCell (heap_setCell (heap_setCell (heap_setCell (heap_setCell HK.out.2.1)))))]; rfl
        have hY : Below w.heap.size w ((((((wr.setCell ⟨w.heap.size, 0, none⟩ (.int .u64 x0)).setCell ⟨w.heap.size, 1, none⟩ (.int .u64 x1)).setCell ⟨w.heap.size, 2, none⟩ (.int .u64 x2)).setCell ⟨w.heap.size, 3, none⟩ (.int .u64 x3)).setCell ⟨w.heap.size, 4, none⟩ (.int .u64 x4)).setCell ⟨w.heap.size, 5, none⟩ (.int .u64 x5)) :=
          (((((HK.out.2.2.1.setCell (p := ⟨w.heap.size, 0, none⟩) (Nat.le_refl w.heap.size) _).setCell (p := ⟨w.heap.size, 1, none⟩) (Nat.le_refl w.heap.size) _).setCell (p := ⟨w.heap.size, 2, none⟩) (Nat.le_refl w.heap.size) _).setCell (p := ⟨w.heap.size, 3, none⟩) (Nat.le_refl w.heap.size) _).setCell (p := ⟨w.heap.size, 4, none⟩) (Nat.le_refl w.heap.size) _).setCell (p := ⟨w.heap.size, 5, none⟩) (Nat.le_refl w.heap.size) _
        generalize ((((((wr.setCell ⟨w.heap.size, 0, none⟩ (.int .u64 x0)).setCell ⟨w.heap.size, 1, none⟩ (.int .u64 x1)).setCell ⟨w.heap.size, 2, none⟩ (.int .u64 x2)).setCell ⟨w.heap.size, 3, none⟩ (.int .u64 x3)).setCell ⟨w.heap.size, 4, none⟩ (.int .u64 x4)).setCell ⟨w.heap.size, 5, none⟩ (.int .u64 x5)) = W9 at *
        have e0 : W9.cell? ⟨w.heap.size, 0, none⟩ = some (.int .u64 x0) := by rw [cell_of_block hX]; rfl
        have e1 : W9.cell? ⟨w.heap.size, 1, none⟩ = some (.int .u64 x1) := by rw [cell_of_block hX]; rfl
        have e2 : W9.cell? ⟨w.heap.size, 2, none⟩ = some (.int .u64 x2) := by rw [cell_of_block hX]; rfl
        have e3 : W9.cell? ⟨w.heap.size, 3, none⟩ = some (.int .u64 x3) := by rw [cell_of_block hX]; rfl
        have e4 : W9.cell? ⟨w.heap.size, 4, none⟩ = some (.int .u64 x4) := by rw [cell_of_block hX]; rfl
        have e5 : W9.cell? ⟨w.heap.size, 5, none⟩ = some (.int .u64 x5) := by rw [cell_of_block hX]; rfl
        obtain rfl := HK.out.2.2.2
        exact bodyPost_ret (v := .tuple #[.agg #[.int .u64 x0, .int .u64 x1, .int .u64 x2, .int .u64 x3, .int .u64 x4, .int .u64 x5], .int .i64 0]) (by simp [results, Tryz.f178, go_sem, e0, e1, e2, e3, e4, e5]) rfl ⟨rfl, hY⟩

set_option maxRecDepth 100000 in
set_option maxHeartbeats 400000 in
theorem node_drop_no {w : World} {ps : Nat} {S : St} {Y : Nat → Prop} (h : StOn w ps S Y) (hi : Inv S) (hh : Nat) (hl : hh < 18446744073709551616) (ha : askedN S hh ≠ 0) :
    Calls Tryz.prog 179 #[PV ps, .int .u64 hh] w fun e w' => e = .returned (.int .i64 (askedN S hh : Nat)) ∧ w = w' := by
  have has := node_asked h hi hh hl
  generalize askedN S hh = a at *
  have hq1 : ((a : Int) != 0) = true := by simp; omega
  have HG := Lib.hid has
  clear has ha h hi
  go_enter Tryz.func179, Tryz.ntmps179
  go_wp2_with fail
  refine HG.out.mono ?_
  rintro e w1 ⟨rfl, rfl⟩
  go_wp2_with fail
  go_ret
  exact ⟨rfl, rfl⟩
end Go.Proofs.YtoaabbnieakidaaGreatDoorR

namespace Go.Proofs.YtoaabbnieakidaaGreatDoorR
open Go.RowKit Go.BigFrame Go.Maps Go.WideMaps Lf

def ndL (n : Nd) : List Nat := [n.key, n.val, n.left, n.right, n.mark, n.size]
def NPut (ps hh : Nat) (n : Nd) (Y : Nat → Prop) (w2 : World) (F : St) (k : Nat) (wr : World) : Prop := ∃ Sk, StOn wr ps Sk Y ∧ Inv Sk ∧ putWords Sk hh k ((ndL n).drop k) = F ∧ Keep Y w2 wr
theorem NPut.step {ps hh : Nat} {n : Nd} {Y : Nat → Prop} {w2 : World} {F : St} {k : Nat} {wr : World} (h : NPut ps hh n Y w2 F k wr) (hl : hh < 18446744073709551616) (x : Nat) (hx : x < 18446744073709551616) (hk : k < 6) (hxk : (ndL n)[k]? = some x) :
    Calls Tryz.prog 139 #[PV ps, .int .u64 hh, .int .i64 k, .int .u64 x] wr fun e w' => ∃ er : Int, e = .returned (.int .i64 er) ∧ NPut ps hh n Y w2 F (k + 1) w' := by
  obtain ⟨Sk, h1, h2, h3, h4⟩ := h
  refine (st_put h1 h2 hh k x hl (by omega) hx).mono ?_
  rintro e w' ⟨rfl, h5, h6⟩
  obtain ⟨hlt, hv⟩ := List.getElem?_eq_some_iff.1 hxk
  rw [List.drop_eq_getElem_cons hlt, hv] at h3
  exact ⟨_, rfl, _, h5, h2.put hh k x, h3, h4.trans h6⟩

theorem ix6 (a0 a1 a2 a3 a4 a5 : Value) (w : World) :
    (Instr.index 328 (.agg #[a0, a1, a2, a3, a4, a5]) (.int .i64 0)).run Tryz.prog w = .ok a0 w ∧
    (Instr.index 328 (.agg #[a0, a1, a2, a3, a4, a5]) (.int .i64 1)).run Tryz.prog w = .ok a1 w ∧
    (Instr.index 328 (.agg #[a0, a1, a2, a3, a4, a5]) (.int .i64 2)).run Tryz.prog w = .ok a2 w ∧
    (Instr.index 328 (.agg #[a0, a1, a2, a3, a4, a5]) (.int .i64 3)).run Tryz.prog w = .ok a3 w ∧
    (Instr.index 328 (.agg #[a0, a1, a2, a3, a4, a5]) (.int .i64 4)).run Tryz.prog w = .ok a4 w ∧
    (Instr.index 328 (.agg #[a0, a1, a2, a3, a4, a5]) (.int .i64 5)).run Tryz.prog w = .ok a5 w := by
  refine ⟨?_, ?_, ?_, ?_, ?_, ?_⟩ <;> kernel_rfl

set_option maxRecDepth 100000 in
set_option maxHeartbeats 3200000 in
theorem node_put {w : World} {ps : Nat} {S : St} {Y : Nat → Prop} (h : StOn w ps S Y) (hi : Inv S) (hh : Nat) (hl : hh < 18446744073709551616) (n : Nd) (hn : NdLt n) :
    Calls Tryz.prog 326 #[PV ps, .int .u64 hh, ndV n] w fun e w' => e = .returned (.int .i64 ((putNode S hh n).1 : Nat)) ∧ StOn w' ps (putNode S hh n).2 Y ∧ Keep Y w w' := by
  have hY := h.yl
  obtain ⟨R, hR⟩ : ∃ R, putNode S hh n = R := ⟨_, rfl⟩
  rw [hR]
  unfold putNode at hR
  have hf := fun W => node_fields n W
  have hP : ∀ {F : St} {w2 : World}, True := trivial
  obtain ⟨k0, k1, k2, k3, k4, k5⟩ := n
  obtain ⟨l0, l1, l2, l3, l4, l5⟩ := hn
  simp only at l0 l1 l2 l3 l4 l5
  unfold ndV at hf ⊢
  simp only at hf ⊢
  have hb1 : Below w.heap.size w (w.alloc (.cells #[.int .u64 k0, .int .u64 k1, .int .u64 k2, .int .u64 k3, .int .u64 k4, .int .u64 k5] 274)) := (Below.refl _ w).alloc (Nat.le_refl _) _
  have has := node_asked (h.below hb1) hi hh hl
  obtain ⟨a, ha⟩ : ∃ a, askedN S hh = a := ⟨_, rfl⟩
  rw [ha] at has hR
  cases a with
  | succ a =>
    have hR1 : R = (a + 1, S) := by rw [← hR]; rfl
    have hq1 : (((a + 1 : Nat) : Int) != 0) = true := by simp; omega
    obtain ⟨g1, hg1⟩ : ∃ g1, a + 1 = g1 := ⟨_, rfl⟩
    rw [hg1] at has hR1 hq1
    have HG := Lib.hid (And.intro has (And.intro hR1 (And.intro hb1 h)))
    clear has hR hR1 hg1 h hi ha hf hb1 hY
    go_enter Tryz.func326, Tryz.ntmps326
    go_wp2_with fail
    refine HG.out.1.mono ?_
    rintro e w1 ⟨rfl, rfl⟩
    go_wp2_with fail
    go_ret
    obtain rfl := HG.out.2.1
    exact ⟨rfl, HG.out.2.2.2.below HG.out.2.2.1, HG.out.2.2.2.keep HG.out.2.2.1⟩
  | zero =>
    have hR1 : R = (0, putWords S hh 0 [k0, k1, k2, k3, k4, k5]) := by rw [← hR]; rfl
    have HG := Lib.hid (And.intro has (And.intro hR1 (And.intro hb1 (And.intro h (And.intro hi hf)))))
    clear has hR hR1 h hi ha hf hb1 hY
    go_enter Tryz.func326, Tryz.ntmps326
    go_wp2_with fail
    refine HG.out.1.mono ?_
    rintro e w1 ⟨rfl, rfl⟩
    go_wp2_with fail
    refine (HG.out.2.2.2.2.2 _).mono ?_
    rintro e w2 ⟨rfl, hb2⟩
    have hbb := HG.out.2.2.1.trans (hb2.mono HG.out.2.2.1.size)
    have H0 : NPut ps hh ⟨k0, k1, k2, k3, k4, k5⟩ Y w2 R.2 0 w2 := ⟨S, HG.out.2.2.2.1.below hbb, HG.out.2.2.2.2.1, by rw [HG.out.2.1]; rfl, Keep.refl _ _⟩
    have HB := Lib.hid hbb
    clear hbb hb2
    go_wp2_with fail
    go_loopw [8, 9, 18] (fun _ _ i wr => (i = .int .i64 0 ∧ NPut ps hh ⟨k0, k1, k2, k3, k4, k5⟩ Y w2 R.2 0 wr) ∨ (i = .int .i64 1 ∧ NPut ps hh ⟨k0, k1, k2, k3, k4, k5⟩ Y w2 R.2 1 wr) ∨ (i = .int .i64 2 ∧ NPut ps hh ⟨k0, k1, k2, k3, k4, k5⟩ Y w2 R.2 2 wr) ∨ (i = .int .i64 3 ∧ NPut ps hh ⟨k0, k1, k2, k3, k4, k5⟩ Y w2 R.2 3 wr) ∨ (i = .int .i64 4 ∧ NPut ps hh ⟨k0, k1, k2, k3, k4, k5⟩ Y w2 R.2 4 wr) ∨ (i = .int .i64 5 ∧ NPut ps hh ⟨k0, k1, k2, k3, k4, k5⟩ Y w2 R.2 5 wr) ∨ (i = .int .i64 6 ∧ NPut ps hh ⟨k0, k1, k2, k3, k4, k5⟩ Y w2 R.2 6 wr)) (fun _ _ i _ => 6 - (intOf i).toNat)
    case atStart => exact Or.inl ⟨rfl, H0⟩
    case round =>
      rcases hrel with ⟨rfl, hP⟩ | ⟨rfl, hP⟩ | ⟨rfl, hP⟩ | ⟨rfl, hP⟩ | ⟨rfl, hP⟩ | ⟨rfl, hP⟩ | ⟨rfl, hP⟩
      · have HS := Lib.hid (hP.step hl k0 l0 (by decide) rfl)
        have hix := fun w => (ix6 (.int .u64 k0) (.int .u64 k1) (.int .u64 k2) (.int .u64 k3) (.int .u64 k4) (.int .u64 k5) w).1
        clear hP H0
        go_wp2_with fail
        refine HS.out.mono ?_
        rintro e w3 ⟨er, rfl, hP⟩
        go_wp2_with fail
        go_roundw
        case rel => exact Or.inr (Or.inl ⟨rfl, hP⟩)
        case measure => simp [intOf]
      · have HS := Lib.hid (hP.step hl k1 l1 (by decide) rfl)
        have hix := fun w => (ix6 (.int .u64 k0) (.int .u64 k1) (.int .u64 k2) (.int .u64 k3) (.int .u64 k4) (.int .u64 k5) w).2.1
        clear hP H0
        go_wp2_with fail
        refine HS.out.mono ?_
        rintro e w3 ⟨er, rfl, hP⟩
        go_wp2_with fail
        go_roundw
        case rel => exact Or.inr (Or.inr (Or.inl ⟨rfl, hP⟩))
        case measure => simp [intOf]
      · have HS := Lib.hid (hP.step hl k2 l2 (by decide) rfl)
        have hix := fun w => (ix6 (.int .u64 k0) (.int .u64 k1) (.int .u64 k2) (.int .u64 k3) (.int .u64 k4) (.int .u64 k5) w).2.2.1
        clear hP H0
        go_wp2_with fail
        refine HS.out.mono ?_
        rintro e w3 ⟨er, rfl, hP⟩
        go_wp2_with fail
        go_roundw
        case rel => exact Or.inr (Or.inr (Or.inr (Or.inl ⟨rfl, hP⟩)))
        case measure => simp [intOf]
      · have HS := Lib.hid (hP.step hl k3 l3 (by decide) rfl)
        have hix := fun w => (ix6 (.int .u64 k0) (.int .u64 k1) (.int .u64 k2) (.int .u64 k3) (.int .u64 k4) (.int .u64 k5) w).2.2.2.1
        clear hP H0
        go_wp2_with fail
        refine HS.out.mono ?_
        rintro e w3 ⟨er, rfl, hP⟩
        go_wp2_with fail
        go_roundw
        case rel => exact Or.inr (Or.inr (Or.inr (Or.inr (Or.inl ⟨rfl, hP⟩))))
        case measure => simp [intOf]
      · have HS := Lib.hid (hP.step hl k4 l4 (by decide) rfl)
        have hix := fun w => (ix6 (.int .u64 k0) (.int .u64 k1) (.int .u64 k2) (.int .u64 k3) (.int .u64 k4) (.int .u64 k5) w).2.2.2.2.1
        clear hP H0
        go_wp2_with fail
        refine HS.out.mono ?_
        rintro e w3 ⟨er, rfl, hP⟩
        go_wp2_with fail
        go_roundw
        case rel => exact Or.inr (Or.inr (Or.inr (Or.inr (Or.inr (Or.inl ⟨rfl, hP⟩)))))
        case measure => simp [intOf]
      · have HS := Lib.hid (hP.step hl k5 l5 (by decide) rfl)
        have hix := fun w => (ix6 (.int .u64 k0) (.int .u64 k1) (.int .u64 k2) (.int .u64 k3) (.int .u64 k4) (.int .u64 k5) w).2.2.2.2.2
        clear hP H0
        go_wp2_with fail
        refine HS.out.mono ?_
        rintro e w3 ⟨er, rfl, hP⟩
        go_wp2_with fail
        go_roundw
        case rel => exact Or.inr (Or.inr (Or.inr (Or.inr (Or.inr (Or.inr ⟨rfl, hP⟩)))))
        case measure => simp [intOf]
      · have HP := Lib.hid hP
        clear hP H0
        go_wp2_with fail
        go_ret
        obtain ⟨Sk, h1, h2, h3, h4⟩ := HP.out
        have e1 : R.1 = 0 := by rw [HG.out.2.1]
        have e2 : Sk = R.2 := h3
        rw [e1, ← e2]
        exact ⟨rfl, h1, (Keep.of_below HB.out HG.out.2.2.2.1.yl).trans h4⟩

set_option maxRecDepth 100000 in
set_option maxHeartbeats 1600000 in
theorem node_make {w : World} {ps : Nat} {S : St} {Y : Nat → Prop} (h : StOn w ps S Y) (hm : MkOk S 6) (n : Nd) (hn : NdLt n) :
    Calls Tryz.prog 365 #[PV ps, ndV n] w fun e w' => e = .returned (.tuple #[.int .u64 ((makeNode S n).1.1 : Nat), .int .i64 ((makeNode S n).1.2 : Nat)]) ∧ StOn w' ps (makeNode S n).2 Y ∧ Keep Y w w' := by
  have hmk := fun W (hW : Below w.heap.size w W) => st_make (h.wide hW) 6 (by omega) hm.1
  have hmlt := make_lt h.tabwf 6
  have hmi := hm.2
  obtain ⟨R, hR⟩ : ∃ R, makeNode S n = R := ⟨_, rfl⟩
  rw [hR]
  unfold makeNode at hR
  obtain ⟨⟨⟨hh, er⟩, S1⟩, hS⟩ : ∃ r, S.make 6 = r := ⟨_, rfl⟩
  rw [hS] at hmk hmlt hmi hR
  simp only at hmk hmlt hmi
  have hpu := fun W Z (hW : StOn W ps S1 Z) => node_put hW hmi hh hmlt n hn
  obtain ⟨k0, k1, k2, k3, k4, k5⟩ := n
  unfold ndV at hpu ⊢
  simp only at hpu ⊢
  have hb1 : Below w.heap.size w (w.alloc (.cells #[.int .u64 k0, .int .u64 k1, .int .u64 k2, .int .u64 k3, .int .u64 k4, .int .u64 k5] 274)) := (Below.refl _ w).alloc (Nat.le_refl _) _
  have kx := heap_alloc_new w (.cells #[.int .u64 k0, .int .u64 k1, .int .u64 k2, .int .u64 k3, .int .u64 k4, .int .u64 k5] 274)
  have HG := Lib.hid (And.intro (hmk _ hb1) (And.intro hR (And.intro hb1 (And.intro h (And.intro hpu kx)))))
  clear hmk hR hb1 hm hmi hS hn hpu kx
  go_enter Tryz.func365, Tryz.ntmps365
  go_wp2_with fail
  refine HG.out.1.mono ?_
  rintro e w1 ⟨rfl, h1, kp1⟩
  have hx : w1.heap[w.heap.size]? = some (.cells #[.int .u64 k0, .int .u64 k1, .int .u64 k2, .int .u64 k3, .int .u64 k4, .int .u64 k5] 274 (0, 0)) := (kp1.block _ (Or.inr ⟨Nat.le_refl _, by simp⟩)).trans HG.out.2.2.2.2.2
  have a0 : w1.cell? ⟨w.heap.size, 0, none⟩ = some (.int .u64 k0) := by rw [cell_of_block hx]; rfl
  have a1 : w1.cell? ⟨w.heap.size, 1, none⟩ = some (.int .u64 k1) := by rw [cell_of_block hx]; rfl
  have a2 : w1.cell? ⟨w.heap.size, 2, none⟩ = some (.int .u64 k2) := by rw [cell_of_block hx]; rfl
  have a3 : w1.cell? ⟨w.heap.size, 3, none⟩ = some (.int .u64 k3) := by rw [cell_of_block hx]; rfl
  have a4 : w1.cell? ⟨w.heap.size, 4, none⟩ = some (.int .u64 k4) := by rw [cell_of_block hx]; rfl
  have a5 : w1.cell? ⟨w.heap.size, 5, none⟩ = some (.int .u64 k5) := by rw [cell_of_block hx]; rfl
  have h1' := h1.mono (Z := Y) fun k hk => Or.inl hk
  have kp1' := (Keep.of_below HG.out.2.2.1 h.yl).trans (kp1.mono (Z := Y) fun k hk => Or.inl hk)
  have H1 := Lib.hid (And.intro h1' (And.intro kp1' (HG.out.2.2.2.2.1 w1 Y h1')))
  clear h1 kp1 hx h1' kp1' h
  cases er with
  | succ er =>
    have hR1 : R = ((0, er + 1), S1) := by rw [← HG.out.2.1]; rfl
    have hq1 : (((er + 1 : Nat) : Int) != 0) = true := by simp; omega
    obtain ⟨g1, hg1⟩ : ∃ g1, er + 1 = g1 := ⟨_, rfl⟩
    rw [hg1] at hR1 hq1
    simp only [hg1]
    have HR1 := Lib.hid hR1
    clear hR1 hg1
    go_wp2_with fail
    go_ret2
    obtain rfl := HR1.out
    exact ⟨rfl, H1.out.1, H1.out.2.1⟩
  | zero =>
    have hR1 : R = ((hh, (putNode S1 hh ⟨k0, k1, k2, k3, k4, k5⟩).1), (putNode S1 hh ⟨k0, k1, k2, k3, k4, k5⟩).2) := by rw [← HG.out.2.1]; rfl
    have HR1 := Lib.hid hR1
    clear hR1
    go_wp2_with fail
    refine H1.out.2.2.mono ?_
    rintro e w2 ⟨rfl, h2, kp2⟩
    have H2 := Lib.hid (And.intro h2 (H1.out.2.1.trans kp2))
    clear h2 kp2
    go_wp2_with fail
    go_ret2
    obtain rfl := HR1.out
    exact ⟨rfl, H2.out⟩
end Go.Proofs.YtoaabbnieakidaaGreatDoorR
