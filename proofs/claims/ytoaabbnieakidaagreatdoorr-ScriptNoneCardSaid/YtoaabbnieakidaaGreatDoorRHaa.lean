/- Rows of pairs and of answers in memory; two that are the same are told so: the walks. Scripts: a world that is not there, or that nobody made: the walks. Scripts: what an act does, by its number: the walk. Scripts: the answer of a pair: the walks. Scripts: a world of a map and a cursor in memory, beside a caller's own blocks: plain. Scripts: Put, open, Next in a script's world: the walks. -/
import Derived.Test.YtoaabbnieakidaaGreatDoorRGan
import Derived.Laws.StructEq
import Derived.Test.YtoaabbnieakidaaGreatDoorRGbd
import Derived.Test.YtoaabbnieakidaaGreatDoorRGbb
import Derived.Test.YtoaabbnieakidaaGreatDoorRGaa
import Derived.Maps.OwnSet
import Derived.Test.YtoaabbnieakidaaGreatDoorRGbq
import Derived.Test.YtoaabbnieakidaaGreatDoorRGbr
namespace Go.Proofs.YtoaabbnieakidaaGreatDoorR
open Go.RowKit Go.BigFrame Go.Maps Go.WideMaps Lf

/-- a row of pairs in memory (nil, too) -/
def PRow (w : World) (v : Value) (l : List (List UInt8 × List UInt8)) : Prop := ∃ A c, v = .slice A l.length c ∧ ∀ (i : Nat) (h : i < l.length), ∃ g o, A = some ⟨g, o, none⟩ ∧ w.cell? ⟨g, o + i * 2, none⟩ = some (SV l[i].1) ∧ w.cell? ⟨g, o + i * 2 + 1, none⟩ = some (SV l[i].2)
theorem cell_lt {w : World} {g o : Nat} {v : Value} (h : w.cell? ⟨g, o, none⟩ = some v) : g < w.heap.size := by
  unfold World.cell? at h
  split at h
  · rename_i heq; exact (Array.getElem?_eq_some_iff.1 heq).1
  · cases h
theorem PRow.below {w w' : World} {v : Value} {l : List (List UInt8 × List UInt8)} (h : PRow w v l) (hb : Below w.heap.size w w') : PRow w' v l := by
  obtain ⟨A, c, rfl, hc⟩ := h
  refine ⟨A, c, rfl, fun i hi => ?_⟩
  obtain ⟨g, o, rfl, h1, h2⟩ := hc i hi
  exact ⟨g, o, rfl, (hb.cell (p := ⟨g, _, none⟩) (cell_lt h1)).trans h1, (hb.cell (p := ⟨g, _, none⟩) (cell_lt h2)).trans h2⟩
theorem PRow.nil (w : World) : PRow w (.slice none 0 0) [] := ⟨none, 0, rfl, fun i hi => absurd hi (by simp)⟩
theorem PRow.one {w : World} {g c : Nat} {a b : List UInt8} {t : TypeId} {fr : Nat × Nat} (h : w.heap[g]? = some (.cells #[SV a, SV b] t fr)) : PRow w (.slice (some ⟨g, 0, none⟩) 1 c) [(a, b)] :=
  ⟨_, c, rfl, fun i hi => by
    obtain rfl : i = 0 := by simpa using hi
    exact ⟨g, 0, rfl, by rw [cell_of_block h]; rfl, by rw [cell_of_block h]; rfl⟩⟩

theorem pr_neq (a b c d : List UInt8) (W : World) : (binOp .neq 50 (.agg #[SV a, SV b]) (.agg #[SV c, SV d])).run Tryz.prog W = .ok (.bool (!(a == c && b == d))) W := by
  have hS : Tryz.prog.underlying 50 = some (.struct (Tryz.prog.fieldsOf 50)) := by kernel_rfl
  have hp : Tryz.prog.stoodInHeld 50 = false := by kernel_rfl
  have u9 := Tryz.underlying9
  have a9 := Tryz.isAgg9
  have z9 := Tryz.sizeOf9
  rw [run_neq_struct, show (10000 : Nat) = 9999 + 1 from rfl, run_equalIn_agg W 9999 50 _ _ hS hp]
  simp only [Program.fieldsOf, Tryz.underlying50]
  go_simp
  by_cases h1 : a = c <;> by_cases h2 : b = d <;> simp [h1, h2]

set_option maxRecDepth 100000 in
set_option maxHeartbeats 1600000 in
theorem pairs_equal {w : World} {v v' : Value} {l : List (List UInt8 × List UInt8)} (h : PRow w v l) (h' : PRow w v' l) (hl : l.length ≤ 100000) :
    Calls Tryz.prog 13 #[v, v'] w fun e w' => e = .returned (.bool true) ∧ ∃ q, w' = w.drewN q := by
  obtain ⟨A, c, rfl, hc⟩ := h
  obtain ⟨A', c', rfl, hc'⟩ := h'
  obtain ⟨n, hn⟩ : ∃ n, l.length = n := ⟨_, rfl⟩
  rw [hn] at hl
  have H := Lib.hid (And.intro hc (And.intro hc' hn))
  rw [hn]
  clear hc hc' hn
  go_enter Tryz.func13, Tryz.ntmps13
  go_wp2_with fail
  go_loopw [5, 13] (fun _ i wr => ∃ k : Nat, k ≤ n ∧ i = .int .i64 k ∧ ∃ q, wr = w.drewN q) (fun _ i _ => n - (intOf i).toNat)
  case atStart => exact ⟨0, by omega, rfl, 0, rfl⟩
  case round =>
    obtain ⟨k, hk, rfl, q, rfl⟩ := hrel
    by_cases hlt : k < n
    · have hlt' : (k : Int) < n := by omega
      have hk' : k < l.length := by rw [H.out.2.2]; exact hlt
      obtain ⟨g, o, rfl, c1, c2⟩ := H.out.1 k hk'
      obtain ⟨g', o', rfl, d1, d2⟩ := H.out.2.1 k hk'
      have hne := pr_neq l[k].1 l[k].2 l[k].1 l[k].2
      simp only [beq_self_eq_true, Bool.and_self, Bool.not_true] at hne
      generalize l[k].1 = x at c1 d1 hne
      generalize l[k].2 = y at c2 d2 hne
      go_wp2_with fail
      go_quiet (fail)
      go_wp2_with fail
      go_roundw
      case rel => exact ⟨k + 1, by omega, by simp, _, rfl⟩
      case measure => simp [intOf]; omega
    · obtain rfl : k = n := by omega
      go_wp2_with fail
      go_ret
      exact ⟨rfl, _, rfl⟩

/-- an answer -/
structure An where
  e : Nat
  n : Nat
  l : List (List UInt8 × List UInt8)
/-- a row of answers in memory -/
def ARow (w : World) (v : Value) (l : List An) : Prop := ∃ A c, v = .slice A l.length c ∧ ∀ (i : Nat) (h : i < l.length), ∃ g o u, A = some ⟨g, o, none⟩ ∧ w.cell? ⟨g, o + i * 3, none⟩ = some (.int .i64 l[i].e) ∧ w.cell? ⟨g, o + i * 3 + 1, none⟩ = some (.int .i64 l[i].n) ∧ w.cell? ⟨g, o + i * 3 + 2, none⟩ = some u ∧ PRow w u l[i].l
theorem ARow.below {w w' : World} {v : Value} {l : List An} (h : ARow w v l) (hb : Below w.heap.size w w') : ARow w' v l := by
  obtain ⟨A, c, rfl, hc⟩ := h
  refine ⟨A, c, rfl, fun i hi => ?_⟩
  obtain ⟨g, o, u, rfl, h1, h2, h3, h4⟩ := hc i hi
  exact ⟨g, o, u, rfl, (hb.cell (p := ⟨g, _, none⟩) (cell_lt h1)).trans h1, (hb.cell (p := ⟨g, _, none⟩) (cell_lt h2)).trans h2, (hb.cell (p := ⟨g, _, none⟩) (cell_lt h3)).trans h3, h4.below hb⟩

set_option maxRecDepth 100000 in
set_option maxHeartbeats 1600000 in
theorem same_one {w : World} {u u' : Value} {a : An} (h : PRow w u a.l) (h' : PRow w u' a.l) (hl : a.l.length ≤ 100000) :
    Calls Tryz.prog 12 #[.agg #[.int .i64 a.e, .int .i64 a.n, u], .agg #[.int .i64 a.e, .int .i64 a.n, u']] w fun e w' => e = .returned (.bool true) ∧ Below w.heap.size w w' := by
  obtain ⟨e, n, l⟩ := a
  simp only at h h' hl ⊢
  have B1 := (Below.refl w.heap.size w).alloc (Nat.le_refl _) (.cells #[.int .i64 e, .int .i64 n, u] 35)
  have q1 := heap_alloc_new w (.cells #[.int .i64 e, .int .i64 n, u] 35)
  have z1 : (w.alloc (.cells #[.int .i64 e, .int .i64 n, u] 35)).heap.size = w.heap.size + 1 := by simp
  have A2 := (Below.refl _ (w.alloc (.cells #[.int .i64 e, .int .i64 n, u] 35))).alloc (Nat.le_refl _) (.cells #[.int .i64 e, .int .i64 n, u'] 35)
  have B2 := B1.alloc B1.size (.cells #[.int .i64 e, .int .i64 n, u'] 35)
  have q2 := (A2.block w.heap.size (by omega)).trans q1
  have y2 := heap_alloc_new (w.alloc (.cells #[.int .i64 e, .int .i64 n, u] 35)) (.cells #[.int .i64 e, .int .i64 n, u'] 35)
  rw [z1] at y2
  have hpe := pairs_equal (h.below B2) (h'.below B2) hl
  have c0 : (((w.alloc (.cells #[.int .i64 e, .int .i64 n, u] 35)).alloc (.cells #[.int .i64 e, .int .i64 n, u'] 35))).cell? ⟨w.heap.size, 0, none⟩ = some (.int .i64 e) := by rw [cell_of_block q2]; rfl
  have c1 : (((w.alloc (.cells #[.int .i64 e, .int .i64 n, u] 35)).alloc (.cells #[.int .i64 e, .int .i64 n, u'] 35))).cell? ⟨w.heap.size, 1, none⟩ = some (.int .i64 n) := by rw [cell_of_block q2]; rfl
  have c2 : (((w.alloc (.cells #[.int .i64 e, .int .i64 n, u] 35)).alloc (.cells #[.int .i64 e, .int .i64 n, u'] 35))).cell? ⟨w.heap.size, 2, none⟩ = some (u) := by rw [cell_of_block q2]; rfl
  have d0 : (((w.alloc (.cells #[.int .i64 e, .int .i64 n, u] 35)).alloc (.cells #[.int .i64 e, .int .i64 n, u'] 35))).cell? ⟨(w.heap.size + 1), 0, none⟩ = some (.int .i64 e) := by rw [cell_of_block y2]; rfl
  have d1 : (((w.alloc (.cells #[.int .i64 e, .int .i64 n, u] 35)).alloc (.cells #[.int .i64 e, .int .i64 n, u'] 35))).cell? ⟨(w.heap.size + 1), 1, none⟩ = some (.int .i64 n) := by rw [cell_of_block y2]; rfl
  have d2 : (((w.alloc (.cells #[.int .i64 e, .int .i64 n, u] 35)).alloc (.cells #[.int .i64 e, .int .i64 n, u'] 35))).cell? ⟨(w.heap.size + 1), 2, none⟩ = some (u') := by rw [cell_of_block y2]; rfl
  have HG := Lib.hid (And.intro hpe B2)
  clear hpe B1 B2 A2 q1 q2 y2 z1 h h' hl
  go_enter Tryz.func12, Tryz.ntmps12
  go_wp2_with fail
  refine HG.out.1.mono ?_
  rintro e' w3 ⟨rfl, q, rfl⟩
  go_wp2_with fail
  go_ret
  exact ⟨rfl, HG.out.2.trans ⟨rfl, rfl, rfl, Nat.le_refl _, fun _ _ => rfl⟩⟩

set_option maxRecDepth 100000 in
set_option maxHeartbeats 3200000 in
theorem script_same {w : World} {v v' : Value} {l : List An} (h : ARow w v l) (h' : ARow w v' l) (hl : l.length ≤ 100000) (hll : ∀ a ∈ l, a.l.length ≤ 100000) :
    Calls Tryz.prog 11 #[v, v', .func (.func 12) #[] #[]] w fun e w' => e = .returned (.bool true) ∧ Below w.heap.size w w' := by
  have hso := fun W u u' (a : An) (ha : a ∈ l) (h : PRow W u a.l) (h' : PRow W u' a.l) => same_one h h' (hll a ha)
  obtain ⟨A, c, rfl, hc⟩ := h
  obtain ⟨A', c', rfl, hc'⟩ := h'
  have hen : ∀ (args : Array Value) (w : World), (callFunc 12 args).run Tryz.prog w = .ok (.enter 12 args) w := fun args w => by go_simp
  obtain ⟨n, hn⟩ : ∃ n, l.length = n := ⟨_, rfl⟩
  rw [hn] at hl
  have H := Lib.hid (And.intro hc (And.intro hc' (And.intro hn hso)))
  rw [hn]
  clear hc hc' hn hso hll
  go_enter Tryz.func11, Tryz.ntmps11
  go_wp2_with fail
  go_loopw [7, 8, 9, 17] (fun _ _ _ i wr => ∃ k : Nat, k ≤ n ∧ i = .int .i64 k ∧ Below w.heap.size w wr) (fun _ _ _ i _ => n - (intOf i).toNat)
  case atStart => exact ⟨0, by omega, rfl, Below.refl _ _⟩
  case round =>
    obtain ⟨k, hk, rfl, hB⟩ := hrel
    by_cases hlt : k < n
    · have hlt' : (k : Int) < n := by omega
      have hk' : k < l.length := by rw [H.out.2.2.1]; exact hlt
      obtain ⟨g, o, u, rfl, c1, c2, c3, c4⟩ := H.out.1 k hk'
      obtain ⟨g', o', u', rfl, d1, d2, d3, d4⟩ := H.out.2.1 k hk'
      have hso := H.out.2.2.2
      have hme : l[k] ∈ l := List.getElem_mem hk'
      generalize l[k] = a at *
      obtain ⟨ae, an, al⟩ := a
      simp only at c1 c2 c4 d1 d2 d4
      obtain ⟨U, m, hu⟩ : ∃ U m, u = .slice U al.length m := by obtain ⟨A, c, h, -⟩ := c4; exact ⟨A, c, h⟩
      obtain ⟨U', m', hu'⟩ : ∃ U m, u' = .slice U al.length m := by obtain ⟨A, c, h, -⟩ := d4; exact ⟨A, c, h⟩
      subst hu hu'
      generalize hal : al.length = q at *
      have b1 := (hB.cell (p := ⟨g, _, none⟩) (cell_lt c1)).trans c1
      have b2 := (hB.cell (p := ⟨g, _, none⟩) (cell_lt c2)).trans c2
      have b3 := (hB.cell (p := ⟨g, _, none⟩) (cell_lt c3)).trans c3
      have A1 := (Below.refl wr.heap.size wr).alloc (Nat.le_refl _) (.cells #[.int .i64 ae, .int .i64 an, .slice U q m] 35)
      have y1 := heap_alloc_new wr (.cells #[.int .i64 ae, .int .i64 an, .slice U q m] 35)
      have z1 : (wr.alloc (.cells #[.int .i64 ae, .int .i64 an, .slice U q m] 35)).heap.size = wr.heap.size + 1 := by simp
      have B1 := hB.trans (A1.mono hB.size)
      have e1 := (B1.cell (p := ⟨g', _, none⟩) (cell_lt d1)).trans d1
      have e2 := (B1.cell (p := ⟨g', _, none⟩) (cell_lt d2)).trans d2
      have e3 := (B1.cell (p := ⟨g', _, none⟩) (cell_lt d3)).trans d3
      have A2 := (Below.refl _ (wr.alloc (.cells #[.int .i64 ae, .int .i64 an, .slice U q m] 35))).alloc (Nat.le_refl _) (.cells #[.int .i64 ae, .int .i64 an, .slice U' q m'] 35)
      have B2 := B1.trans (A2.mono (by have := hB.size; omega))
      have y2 := (A2.block wr.heap.size (by omega)).trans y1
      have x2 := heap_alloc_new (wr.alloc (.cells #[.int .i64 ae, .int .i64 an, .slice U q m] 35)) (.cells #[.int .i64 ae, .int .i64 an, .slice U' q m'] 35)
      rw [z1] at x2
      have p0 : (((wr.alloc (.cells #[.int .i64 ae, .int .i64 an, .slice U q m] 35)).alloc (.cells #[.int .i64 ae, .int .i64 an, .slice U' q m'] 35))).cell? ⟨wr.heap.size, 0, none⟩ = some (.int .i64 ae) := by rw [cell_of_block y2]; rfl
      have p1 : (((wr.alloc (.cells #[.int .i64 ae, .int .i64 an, .slice U q m] 35)).alloc (.cells #[.int .i64 ae, .int .i64 an, .slice U' q m'] 35))).cell? ⟨wr.heap.size, 1, none⟩ = some (.int .i64 an) := by rw [cell_of_block y2]; rfl
      have p2 : (((wr.alloc (.cells #[.int .i64 ae, .int .i64 an, .slice U q m] 35)).alloc (.cells #[.int .i64 ae, .int .i64 an, .slice U' q m'] 35))).cell? ⟨wr.heap.size, 2, none⟩ = some (.slice U q m) := by rw [cell_of_block y2]; rfl
      have q0 : (((wr.alloc (.cells #[.int .i64 ae, .int .i64 an, .slice U q m] 35)).alloc (.cells #[.int .i64 ae, .int .i64 an, .slice U' q m'] 35))).cell? ⟨(wr.heap.size + 1), 0, none⟩ = some (.int .i64 ae) := by rw [cell_of_block x2]; rfl
      have q1 : (((wr.alloc (.cells #[.int .i64 ae, .int .i64 an, .slice U q m] 35)).alloc (.cells #[.int .i64 ae, .int .i64 an, .slice U' q m'] 35))).cell? ⟨(wr.heap.size + 1), 1, none⟩ = some (.int .i64 an) := by rw [cell_of_block x2]; rfl
      have q2 : (((wr.alloc (.cells #[.int .i64 ae, .int .i64 an, .slice U q m] 35)).alloc (.cells #[.int .i64 ae, .int .i64 an, .slice U' q m'] 35))).cell? ⟨(wr.heap.size + 1), 2, none⟩ = some (.slice U' q m') := by rw [cell_of_block x2]; rfl
      have hcl := hso _ (.slice U q m) (.slice U' q m') ⟨ae, an, al⟩ hme (c4.below B2) (d4.below B2)
      simp only at hcl
      have HK := Lib.hid (And.intro hcl B2)
      clear hcl hso hal c1 c2 c3 c4 d1 d2 d3 d4 hme A1 y1 z1 B1 A2 y2 x2 B2 hB
      go_wp2_with fail
      refine HK.out.1.mono ?_
      rintro e w5 ⟨rfl, hb5⟩
      have H5 := Lib.hid (HK.out.2.trans (hb5.mono HK.out.2.size))
      clear hb5
      go_wp2_with fail
      go_roundw
      case rel => exact ⟨k + 1, by omega, by simp, H5.out⟩
      case measure => simp [intOf]; omega
    · obtain rfl : k = n := by omega
      have HK := Lib.hid hB
      clear hB
      go_wp2_with fail
      go_ret
      exact ⟨rfl, HK.out⟩

set_option maxRecDepth 100000 in
set_option maxHeartbeats 400000 in
theorem same_walk {w : World} {v v' : Value} {l : List An} (h : ARow w v l) (h' : ARow w v' l) (hl : l.length ≤ 100000) (hll : ∀ a ∈ l, a.l.length ≤ 100000) :
    Calls Tryz.prog 5 #[v, v'] w fun e w' => e = .returned (.bool true) ∧ Below w.heap.size w w' := by
  have HG := Lib.hid (script_same h h' hl hll)
  clear h h' hl hll
  go_enter Tryz.func5, Tryz.ntmps5
  go_wp2_with fail
  refine HG.out.mono ?_
  rintro e w1 ⟨rfl, hb⟩
  have HB := Lib.hid hb
  clear hb
  go_wp2_with fail
  go_ret
  exact ⟨rfl, HB.out⟩
end Go.Proofs.YtoaabbnieakidaaGreatDoorR

namespace Go.Proofs.YtoaabbnieakidaaGreatDoorR
open Go.RowKit Go.BigFrame Go.Maps Go.WideMaps Lf

theorem an3_heap {W : World} {b : Nat} {u0 u1 u2 : Value} {t : TypeId} {fr : Nat × Nat} (h : W.heap[b]? = some (.cells #[u0, u1, u2] t fr)) (v0 v1 v2 : Value) : (((W.setCell ⟨b, 0, none⟩ (v0)).setCell ⟨b, 1, none⟩ (v1)).setCell ⟨b, 2, none⟩ (v2)).heap[b]? = some (.cells #[v0, v1, v2] t fr) := by
  have q := heap_setCell (i := 2) (v := v2) (heap_setCell (i := 1) (v := v1) (heap_setCell (i := 0) (v := v0) h))
  simpa using q
theorem an3_other {W : World} {b c : Nat} (h : c ≠ b) (v0 v1 v2 : Value) : (((W.setCell ⟨b, 0, none⟩ (v0)).setCell ⟨b, 1, none⟩ (v1)).setCell ⟨b, 2, none⟩ (v2)).heap[c]? = W.heap[c]? := by rw [heap_setCell_ne h, heap_setCell_ne h, heap_setCell_ne h]
theorem an3_below {w W : World} {b : Nat} (hb : Below w.heap.size w W) (hl : w.heap.size ≤ b) (v0 v1 v2 : Value) : Below w.heap.size w (((W.setCell ⟨b, 0, none⟩ (v0)).setCell ⟨b, 1, none⟩ (v1)).setCell ⟨b, 2, none⟩ (v2)) := by
  have h : ∀ (V : World) (i : Nat) (v : Value), Below w.heap.size w V → Below w.heap.size w (V.setCell ⟨b, i, none⟩ v) := fun V i v hV => hV.setCell (p := ⟨b, i, none⟩) hl v
  exact h _ _ _ (h _ _ _ (h _ _ _ hb))

/-- no world: nil, or one that nobody made -/
def NoW (w : World) (v : Value) : Prop := v = .pointer none ∨ ∃ pw, v = PV pw ∧ w.heap[pw]? = some (.cells #[.pointer none, .pointer none, .pointer none, .pointer none, .pointer none] 30)
theorem NoW.below {w w' : World} {v : Value} (h : NoW w v) (hb : Below w.heap.size w w') : NoW w' v := h.imp id fun ⟨pm, e, hp⟩ => ⟨pm, e, (hb.block pm (Array.getElem?_eq_some_iff.1 hp).1).trans hp⟩

set_option maxRecDepth 100000 in
set_option maxHeartbeats 400000 in
theorem now_none {w : World} {v : Value} (h : NoW w v) :
    Calls Tryz.prog 14 #[v] w fun e w' => e = .returned (.bool true) ∧ w = w' := by
  rcases h with rfl | ⟨pw, rfl, hW⟩
  · go_enter Tryz.func14, Tryz.ntmps14
    go_wp2_with fail
    go_ret
    exact ⟨rfl, rfl⟩
  ·
    have c0 : (w).cell? ⟨pw, 0, none⟩ = some (.pointer none) := by rw [cell_of_block hW]; rfl
    have c1 : (w).cell? ⟨pw, 1, none⟩ = some (.pointer none) := by rw [cell_of_block hW]; rfl
    have c2 : (w).cell? ⟨pw, 2, none⟩ = some (.pointer none) := by rw [cell_of_block hW]; rfl
    have c3 : (w).cell? ⟨pw, 3, none⟩ = some (.pointer none) := by rw [cell_of_block hW]; rfl
    have c4 : (w).cell? ⟨pw, 4, none⟩ = some (.pointer none) := by rw [cell_of_block hW]; rfl
    clear hW
    go_enter Tryz.func14, Tryz.ntmps14
    go_wp2_with fail
    go_ret
    exact ⟨rfl, rfl⟩

set_option maxRecDepth 100000 in
set_option maxHeartbeats 400000 in
theorem now_map {w : World} {v : Value} (h : NoW w v) :
    Calls Tryz.prog 7 #[v] w fun e w' => e = .returned (.pointer none) ∧ w = w' := by
  have HG := Lib.hid (now_none h)
  clear h
  go_enter Tryz.func7, Tryz.ntmps7
  go_wp2_with fail
  refine HG.out.mono ?_
  rintro e w1 ⟨rfl, rfl⟩
  go_wp2_with fail
  go_ret
  exact ⟨rfl, rfl⟩

set_option maxRecDepth 100000 in
set_option maxHeartbeats 400000 in
theorem now_cursors {w : World} {v : Value} (h : NoW w v) :
    Calls Tryz.prog 8 #[v] w fun e w' => e = .returned (.slice none 0 0) ∧ w = w' := by
  have HG := Lib.hid (now_none h)
  clear h
  go_enter Tryz.func8, Tryz.ntmps8
  go_wp2_with fail
  refine HG.out.mono ?_
  rintro e w1 ⟨rfl, rfl⟩
  go_wp2_with fail
  go_ret
  exact ⟨rfl, rfl⟩

set_option maxRecDepth 100000 in
set_option maxHeartbeats 800000 in
theorem now_do {w : World} {v : Value} (h : NoW w v) (d n : Int) (a b : List UInt8) :
    Calls Tryz.prog 6 #[v, .agg #[.int .i64 d, .int .i64 n, SV a, SV b]] w fun e w' => e = .returned (.agg #[.int .i64 1, .int .i64 0, .slice none 0 0]) ∧ Below w.heap.size w w' := by
  have B1 := (Below.refl w.heap.size w).alloc (Nat.le_refl _) (.cells #[.int .i64 d, .int .i64 n, SV a, SV b] 23)
  have z1 : (w.alloc (.cells #[.int .i64 d, .int .i64 n, SV a, SV b] 23)).heap.size = w.heap.size + 1 := by simp
  have B2 := B1.alloc B1.size (.cells #[.int .i64 0, .int .i64 0, .slice none 0 0] 35)
  have y2 := heap_alloc_new (w.alloc (.cells #[.int .i64 d, .int .i64 n, SV a, SV b] 23)) (.cells #[.int .i64 0, .int .i64 0, .slice none 0 0] 35)
  rw [z1] at y2
  have hn := now_none (h.below B2)
  have B3 := B1.alloc B1.size (.cells #[.int .i64 1, .int .i64 0, .slice none 0 0] 35)
  have q3 := heap_alloc_new (w.alloc (.cells #[.int .i64 d, .int .i64 n, SV a, SV b] 23)) (.cells #[.int .i64 1, .int .i64 0, .slice none 0 0] 35)
  rw [z1] at q3
  have c0 : (((w.alloc (.cells #[.int .i64 d, .int .i64 n, SV a, SV b] 23)).alloc (.cells #[.int .i64 0, .int .i64 0, .slice none 0 0] 35))).cell? ⟨(w.heap.size + 1), 0, none⟩ = some (.int .i64 0) := by rw [cell_of_block y2]; rfl
  have c1 : (((w.alloc (.cells #[.int .i64 d, .int .i64 n, SV a, SV b] 23)).alloc (.cells #[.int .i64 0, .int .i64 0, .slice none 0 0] 35))).cell? ⟨(w.heap.size + 1), 1, none⟩ = some (.int .i64 0) := by rw [cell_of_block y2]; rfl
  have c2 : (((w.alloc (.cells #[.int .i64 d, .int .i64 n, SV a, SV b] 23)).alloc (.cells #[.int .i64 0, .int .i64 0, .slice none 0 0] 35))).cell? ⟨(w.heap.size + 1), 2, none⟩ = some (.slice none 0 0) := by rw [cell_of_block y2]; rfl
  have e0 : (((w.alloc (.cells #[.int .i64 d, .int .i64 n, SV a, SV b] 23)).alloc (.cells #[.int .i64 1, .int .i64 0, .slice none 0 0] 35))).cell? ⟨(w.heap.size + 1), 0, none⟩ = some (.int .i64 1) := by rw [cell_of_block q3]; rfl
  have e1 : (((w.alloc (.cells #[.int .i64 d, .int .i64 n, SV a, SV b] 23)).alloc (.cells #[.int .i64 1, .int .i64 0, .slice none 0 0] 35))).cell? ⟨(w.heap.size + 1), 1, none⟩ = some (.int .i64 0) := by rw [cell_of_block q3]; rfl
  have e2 : (((w.alloc (.cells #[.int .i64 d, .int .i64 n, SV a, SV b] 23)).alloc (.cells #[.int .i64 1, .int .i64 0, .slice none 0 0] 35))).cell? ⟨(w.heap.size + 1), 2, none⟩ = some (.slice none 0 0) := by rw [cell_of_block q3]; rfl
  have HG := Lib.hid (And.intro hn B3)
  clear h hn B1 B2 z1 y2 q3 B3
  go_enter Tryz.func6, Tryz.ntmps6
  go_wp2_with fail
  refine HG.out.1.mono ?_
  rintro e w1 ⟨rfl, rfl⟩
  go_wp2_with fail
  exact bodyPost_ret (v := .agg #[.int .i64 1, .int .i64 0, .slice none 0 0]) (by simp [results, Tryz.f6, go_sem, e0, e1, e2]) rfl ⟨rfl, HG.out.2⟩
end Go.Proofs.YtoaabbnieakidaaGreatDoorR

namespace Go.Proofs.YtoaabbnieakidaaGreatDoorR
open Go.RowKit Go.BigFrame Go.Maps Go.WideMaps Lf

/-- an act's deed as a value, and what it reads as -/
abbrev deedV (f : Nat) : Value := .agg #[.func (.func f) #[] #[]]
def deedR : Value → Option (DataW Unit × List MemPlace)
  | .agg a => match a.toList with
    | [.func (.func f) x y] => match x.toList, y.toList with
      | [], [] => some (.lit (.int .i64 f), [])
      | _, _ => some (.lit (.bool false), [])
    | _ => some (.lit (.bool false), [])
  | _ => some (.lit (.bool false), [])
theorem deedR_v (f : Nat) : deedR (deedV f) = some (.lit (.int .i64 f), []) := rfl
theorem deedR_inv {v : Value} {f : Nat} {ps : List MemPlace} (h : deedR v = some (.lit (.int .i64 f), ps)) : v = deedV f := by
  unfold deedR at h
  split at h
  · rename_i a
    split at h
    · rename_i f' x y e
      split at h
      · rename_i e1 e2
        simp only [Option.some.injEq, Prod.mk.injEq, DataW.lit.injEq, Lit.int.injEq, true_and] at h
        have hf : f' = f := Int.ofNat.inj h.1
        have hx : x = #[] := by rw [← Array.toArray_toList (xs := x), e1]
        have hy : y = #[] := by rw [← Array.toArray_toList (xs := y), e2]
        have ha : a = #[.func (.func f') x y] := by rw [← Array.toArray_toList (xs := a), e]
        rw [ha, hx, hy, hf]
      · simp at h
    · simp at h
  · simp at h
theorem zero_deed (w : World) : (zeroValue 56).run Tryz.prog w = .ok (.agg #[.nilFunc]) w := by kernel_rfl
theorem int_wf (k : Int) (h : 0 ≤ k ∧ k ≤ 1000) : (Lit.int .i64 k).wf = true := by
  have h1 : IntKind.min .i64 ≤ k := by show (-9223372036854775808 : Int) ≤ k; omega
  have h2 : k ≤ IntKind.max .i64 := by show k ≤ 9223372036854775807; omega
  simp only [Lit.wf, h1, h2, decide_true, Bool.and_self]
/-- one deed more -/
theorem deed_more {w : World} {b n : Nat} {D : DataW Unit} (h : w.ownsMap Tryz.prog 3 deedR b n D) (hn : n < 1000) (k : Int) (hk : 0 ≤ k ∧ k ≤ 1000) (f : Nat) :
    ∃ w', (Instr.mapUpdate 58 (.map (some b)) (.int .i64 k) (deedV f)).run Tryz.prog w = .ok () w' ∧ w'.ownsMap Tryz.prog 3 deedR b (n + 1) (D.put (.int .i64 k) (.lit (.int .i64 f))) ∧ w.grownBy w' (some b) :=
  h.update lawInt Tryz.underlying58 (by unfold maxLen; omega) (keyOf_int_mk Tryz.underlying3 (int_wf k hk)) (deedR_v f)
def deedD : DataW Unit := (((((((((((((((((((((DataW.map []).put (.int .i64 1) (.lit (.int .i64 18))).put (.int .i64 2) (.lit (.int .i64 19))).put (.int .i64 3) (.lit (.int .i64 21))).put (.int .i64 4) (.lit (.int .i64 24))).put (.int .i64 5) (.lit (.int .i64 26))).put (.int .i64 6) (.lit (.int .i64 29))).put (.int .i64 7) (.lit (.int .i64 31))).put (.int .i64 8) (.lit (.int .i64 33))).put (.int .i64 9) (.lit (.int .i64 35))).put (.int .i64 10) (.lit (.int .i64 37))).put (.int .i64 11) (.lit (.int .i64 39))).put (.int .i64 12) (.lit (.int .i64 41))).put (.int .i64 13) (.lit (.int .i64 42))).put (.int .i64 14) (.lit (.int .i64 43))).put (.int .i64 15) (.lit (.int .i64 44))).put (.int .i64 16) (.lit (.int .i64 44))).put (.int .i64 17) (.lit (.int .i64 44))).put (.int .i64 18) (.lit (.int .i64 44))).put (.int .i64 19) (.lit (.int .i64 45))).put (.int .i64 20) (.lit (.int .i64 46)))

set_option maxRecDepth 100000 in
set_option maxHeartbeats 3200000 in
theorem deeds_walk (w : World) :
    Calls Tryz.prog 15 #[] w fun e w' => e = .returned (.map (some w.heap.size)) ∧ Below w.heap.size w w' ∧ w'.ownsMap Tryz.prog 3 deedR w.heap.size 20 deedD := by
  have hmm := @run_makeMap Tryz.prog
  have B0 := (Below.refl w.heap.size w).alloc (Nat.le_refl _) (.map #[] 0)
  have h0 := World.ownsMap_made w Tryz.prog 3 deedR
  obtain ⟨w1, r1, h1, g1⟩ := deed_more h0 (by omega) 1 (by omega) 18
  have B1 : Below w.heap.size w w1 := B0.grown g1 B0.size (fun k e => by simp at e; omega)
  clear h0 g1 B0
  obtain ⟨w2, r2, h2, g2⟩ := deed_more h1 (by omega) 2 (by omega) 19
  have B2 : Below w.heap.size w w2 := B1.grown g2 B1.size (fun k e => by simp at e; omega)
  clear h1 g2 B1
  obtain ⟨w3, r3, h3, g3⟩ := deed_more h2 (by omega) 3 (by omega) 21
  have B3 : Below w.heap.size w w3 := B2.grown g3 B2.size (fun k e => by simp at e; omega)
  clear h2 g3 B2
  obtain ⟨w4, r4, h4, g4⟩ := deed_more h3 (by omega) 4 (by omega) 24
  have B4 : Below w.heap.size w w4 := B3.grown g4 B3.size (fun k e => by simp at e; omega)
  clear h3 g4 B3
  obtain ⟨w5, r5, h5, g5⟩ := deed_more h4 (by omega) 5 (by omega) 26
  have B5 : Below w.heap.size w w5 := B4.grown g5 B4.size (fun k e => by simp at e; omega)
  clear h4 g5 B4
  obtain ⟨w6, r6, h6, g6⟩ := deed_more h5 (by omega) 6 (by omega) 29
  have B6 : Below w.heap.size w w6 := B5.grown g6 B5.size (fun k e => by simp at e; omega)
  clear h5 g6 B5
  obtain ⟨w7, r7, h7, g7⟩ := deed_more h6 (by omega) 7 (by omega) 31
  have B7 : Below w.heap.size w w7 := B6.grown g7 B6.size (fun k e => by simp at e; omega)
  clear h6 g7 B6
  obtain ⟨w8, r8, h8, g8⟩ := deed_more h7 (by omega) 8 (by omega) 33
  have B8 : Below w.heap.size w w8 := B7.grown g8 B7.size (fun k e => by simp at e; omega)
  clear h7 g8 B7
  obtain ⟨w9, r9, h9, g9⟩ := deed_more h8 (by omega) 9 (by omega) 35
  have B9 : Below w.heap.size w w9 := B8.grown g9 B8.size (fun k e => by simp at e; omega)
  clear h8 g9 B8
  obtain ⟨w10, r10, h10, g10⟩ := deed_more h9 (by omega) 10 (by omega) 37
  have B10 : Below w.heap.size w w10 := B9.grown g10 B9.size (fun k e => by simp at e; omega)
  clear h9 g10 B9
  obtain ⟨w11, r11, h11, g11⟩ := deed_more h10 (by omega) 11 (by omega) 39
  have B11 : Below w.heap.size w w11 := B10.grown g11 B10.size (fun k e => by simp at e; omega)
  clear h10 g11 B10
  obtain ⟨w12, r12, h12, g12⟩ := deed_more h11 (by omega) 12 (by omega) 41
  have B12 : Below w.heap.size w w12 := B11.grown g12 B11.size (fun k e => by simp at e; omega)
  clear h11 g12 B11
  obtain ⟨w13, r13, h13, g13⟩ := deed_more h12 (by omega) 13 (by omega) 42
  have B13 : Below w.heap.size w w13 := B12.grown g13 B12.size (fun k e => by simp at e; omega)
  clear h12 g13 B12
  obtain ⟨w14, r14, h14, g14⟩ := deed_more h13 (by omega) 14 (by omega) 43
  have B14 : Below w.heap.size w w14 := B13.grown g14 B13.size (fun k e => by simp at e; omega)
  clear h13 g14 B13
  obtain ⟨w15, r15, h15, g15⟩ := deed_more h14 (by omega) 15 (by omega) 44
  have B15 : Below w.heap.size w w15 := B14.grown g15 B14.size (fun k e => by simp at e; omega)
  clear h14 g15 B14
  obtain ⟨w16, r16, h16, g16⟩ := deed_more h15 (by omega) 16 (by omega) 44
  have B16 : Below w.heap.size w w16 := B15.grown g16 B15.size (fun k e => by simp at e; omega)
  clear h15 g16 B15
  obtain ⟨w17, r17, h17, g17⟩ := deed_more h16 (by omega) 17 (by omega) 44
  have B17 : Below w.heap.size w w17 := B16.grown g17 B16.size (fun k e => by simp at e; omega)
  clear h16 g17 B16
  obtain ⟨w18, r18, h18, g18⟩ := deed_more h17 (by omega) 18 (by omega) 44
  have B18 : Below w.heap.size w w18 := B17.grown g18 B17.size (fun k e => by simp at e; omega)
  clear h17 g18 B17
  obtain ⟨w19, r19, h19, g19⟩ := deed_more h18 (by omega) 19 (by omega) 45
  have B19 : Below w.heap.size w w19 := B18.grown g19 B18.size (fun k e => by simp at e; omega)
  clear h18 g19 B18
  obtain ⟨w20, r20, h20, g20⟩ := deed_more h19 (by omega) 20 (by omega) 46
  have B20 : Below w.heap.size w w20 := B19.grown g20 B19.size (fun k e => by simp at e; omega)
  clear h19 g20 B19
  have HG := Lib.hid (And.intro B20 h20)
  clear B20 h20
  simp only [deedV] at *
  go_enter Tryz.func15, Tryz.ntmps15
  go_wp2_with fail
  go_ret
  exact ⟨rfl, HG.out.1, HG.out.2⟩

/-- what is found at an act's number -/
theorem deed_look {W : World} {r n : Nat} (h : W.ownsMap Tryz.prog 3 deedR r n deedD) (k : Int) (f : Nat) (hk : 0 ≤ k ∧ k ≤ 1000) (h1 : Maps.has deedD (.int .i64 k) = true) (h2 : deedD.atKey (.int .i64 k) (.lit (.bool false)) = .lit (.int .i64 f)) :
    (Instr.lookup 58 (.map (some r)) (.int .i64 k) true).run Tryz.prog W = .ok (.tuple #[deedV f, .bool true]) W := by
  obtain ⟨v, ps, hrun, hv⟩ := h.look_ok lawInt Tryz.underlying58 (zero_deed W) (show deedR (.agg #[.nilFunc]) = some (.lit (.bool false), []) from rfl) (keyOf_int_mk Tryz.underlying3 (int_wf k hk))
  rw [h2] at hv
  rw [hrun, h1, deedR_inv hv]
end Go.Proofs.YtoaabbnieakidaaGreatDoorR

namespace Go.Proofs.YtoaabbnieakidaaGreatDoorR
open Go.RowKit Go.BigFrame Go.Maps Go.WideMaps Lf

set_option maxRecDepth 100000 in
set_option maxHeartbeats 3200000 in
theorem one_err (w : World) (a b : List UInt8) (er : Nat) (h0 : er ≠ 0) :
    Calls Tryz.prog 27 #[.agg #[SV a, SV b], .int .i64 er] w fun e w' => e = .returned (.agg #[.int .i64 er, .int .i64 0, .slice none 0 0]) ∧ Below w.heap.size w w' := by
  have hq : ((er : Int) != 0) = true := by simp; omega
  have B1 := (Below.refl w.heap.size w).alloc (Nat.le_refl _) (.cells #[SV a, SV b] 50)
  have z1 : (w.alloc (.cells #[SV a, SV b] 50)).heap.size = w.heap.size + 1 := by simp
  have B2 := B1.alloc B1.size (.cells #[.int .i64 0, .int .i64 0, .slice none 0 0] 35)
  have y2 := heap_alloc_new (w.alloc (.cells #[SV a, SV b] 50)) (.cells #[.int .i64 0, .int .i64 0, .slice none 0 0] 35)
  rw [z1] at y2
  have c0 : (((w.alloc (.cells #[SV a, SV b] 50)).alloc (.cells #[.int .i64 0, .int .i64 0, .slice none 0 0] 35))).cell? ⟨(w.heap.size + 1), 0, none⟩ = some (.int .i64 0) := by rw [cell_of_block y2]; rfl
  have c1 : (((w.alloc (.cells #[SV a, SV b] 50)).alloc (.cells #[.int .i64 0, .int .i64 0, .slice none 0 0] 35))).cell? ⟨(w.heap.size + 1), 1, none⟩ = some (.int .i64 0) := by rw [cell_of_block y2]; rfl
  have c2 : (((w.alloc (.cells #[SV a, SV b] 50)).alloc (.cells #[.int .i64 0, .int .i64 0, .slice none 0 0] 35))).cell? ⟨(w.heap.size + 1), 2, none⟩ = some (.slice none 0 0) := by rw [cell_of_block y2]; rfl
  have B3 := B1.alloc B1.size (.cells #[.int .i64 er, .int .i64 0, .slice none 0 0] 35)
  have q3 := heap_alloc_new (w.alloc (.cells #[SV a, SV b] 50)) (.cells #[.int .i64 er, .int .i64 0, .slice none 0 0] 35)
  rw [z1] at q3
  have e0 : (((w.alloc (.cells #[SV a, SV b] 50)).alloc (.cells #[.int .i64 er, .int .i64 0, .slice none 0 0] 35))).cell? ⟨(w.heap.size + 1), 0, none⟩ = some (.int .i64 er) := by rw [cell_of_block q3]; rfl
  have e1 : (((w.alloc (.cells #[SV a, SV b] 50)).alloc (.cells #[.int .i64 er, .int .i64 0, .slice none 0 0] 35))).cell? ⟨(w.heap.size + 1), 1, none⟩ = some (.int .i64 0) := by rw [cell_of_block q3]; rfl
  have e2 : (((w.alloc (.cells #[SV a, SV b] 50)).alloc (.cells #[.int .i64 er, .int .i64 0, .slice none 0 0] 35))).cell? ⟨(w.heap.size + 1), 2, none⟩ = some (.slice none 0 0) := by rw [cell_of_block q3]; rfl
  have HG := Lib.hid B3
  clear B1 B2 z1 y2 q3 B3
  go_enter Tryz.func27, Tryz.ntmps27
  go_wp2_with fail
  exact bodyPost_ret (v := .agg #[.int .i64 er, .int .i64 0, .slice none 0 0]) (by simp [results, Tryz.f27, go_sem, e0, e1, e2]) rfl ⟨rfl, HG.out⟩

set_option maxRecDepth 100000 in
set_option maxHeartbeats 3200000 in
theorem one_ok (w : World) (a b : List UInt8) :
    Calls Tryz.prog 27 #[.agg #[SV a, SV b], .int .i64 0] w fun e w' => e = .returned (.agg #[.int .i64 0, .int .i64 0, .slice (some ⟨w.heap.size + 2, 0, none⟩) 1 1]) ∧ Below w.heap.size w w' ∧ w'.heap[w.heap.size + 2]? = some (.cells #[SV a, SV b] 50) := by
  have B1 := (Below.refl w.heap.size w).alloc (Nat.le_refl _) (.cells #[SV a, SV b] 50)
  have q1 := heap_alloc_new w (.cells #[SV a, SV b] 50)
  have z1 : (w.alloc (.cells #[SV a, SV b] 50)).heap.size = w.heap.size + 1 := by simp
  have A2 := (Below.refl _ (w.alloc (.cells #[SV a, SV b] 50))).alloc (Nat.le_refl _) (.cells #[.int .i64 0, .int .i64 0, .slice none 0 0] 35)
  have B2 := B1.alloc B1.size (.cells #[.int .i64 0, .int .i64 0, .slice none 0 0] 35)
  have y2 := heap_alloc_new (w.alloc (.cells #[SV a, SV b] 50)) (.cells #[.int .i64 0, .int .i64 0, .slice none 0 0] 35)
  have q2 := (A2.block w.heap.size (by omega)).trans q1
  have z2 : ((w.alloc (.cells #[SV a, SV b] 50)).alloc (.cells #[.int .i64 0, .int .i64 0, .slice none 0 0] 35)).heap.size = w.heap.size + 2 := by simp
  rw [z1] at y2
  have c0 : (((w.alloc (.cells #[SV a, SV b] 50)).alloc (.cells #[.int .i64 0, .int .i64 0, .slice none 0 0] 35))).cell? ⟨w.heap.size, 0, none⟩ = some (SV a) := by rw [cell_of_block q2]; rfl
  have c1 : (((w.alloc (.cells #[SV a, SV b] 50)).alloc (.cells #[.int .i64 0, .int .i64 0, .slice none 0 0] 35))).cell? ⟨w.heap.size, 1, none⟩ = some (SV b) := by rw [cell_of_block q2]; rfl
  have B3 := (B1.alloc B1.size (.cells #[.int .i64 0, .int .i64 0, .slice (some ⟨w.heap.size + 1 + 1, 0, none⟩) 1 1] 35)).alloc (by simp; omega) (.cells #[SV a, SV b] 50)
  have A3 := (Below.refl _ ((w.alloc (.cells #[SV a, SV b] 50)).alloc (.cells #[.int .i64 0, .int .i64 0, .slice (some ⟨w.heap.size + 1 + 1, 0, none⟩) 1 1] 35))).alloc (Nat.le_refl _) (.cells #[SV a, SV b] 50)
  have z3 : ((w.alloc (.cells #[SV a, SV b] 50)).alloc (.cells #[.int .i64 0, .int .i64 0, .slice (some ⟨w.heap.size + 1 + 1, 0, none⟩) 1 1] 35)).heap.size = w.heap.size + 2 := by simp
  have q3 := heap_alloc_new (w.alloc (.cells #[SV a, SV b] 50)) (.cells #[.int .i64 0, .int .i64 0, .slice (some ⟨w.heap.size + 1 + 1, 0, none⟩) 1 1] 35)
  rw [z1] at q3
  have q4 := (A3.block (w.heap.size + 1) (by omega)).trans q3
  have r4 := heap_alloc_new ((w.alloc (.cells #[SV a, SV b] 50)).alloc (.cells #[.int .i64 0, .int .i64 0, .slice (some ⟨w.heap.size + 1 + 1, 0, none⟩) 1 1] 35)) (.cells #[SV a, SV b] 50)
  rw [z3] at r4
  have e0 : ((((w.alloc (.cells #[SV a, SV b] 50)).alloc (.cells #[.int .i64 0, .int .i64 0, .slice (some ⟨w.heap.size + 1 + 1, 0, none⟩) 1 1] 35)).alloc (.cells #[SV a, SV b] 50))).cell? ⟨(w.heap.size + 1), 0, none⟩ = some (.int .i64 0) := by rw [cell_of_block q4]; rfl
  have e1 : ((((w.alloc (.cells #[SV a, SV b] 50)).alloc (.cells #[.int .i64 0, .int .i64 0, .slice (some ⟨w.heap.size + 1 + 1, 0, none⟩) 1 1] 35)).alloc (.cells #[SV a, SV b] 50))).cell? ⟨(w.heap.size + 1), 1, none⟩ = some (.int .i64 0) := by rw [cell_of_block q4]; rfl
  have e2 : ((((w.alloc (.cells #[SV a, SV b] 50)).alloc (.cells #[.int .i64 0, .int .i64 0, .slice (some ⟨w.heap.size + 1 + 1, 0, none⟩) 1 1] 35)).alloc (.cells #[SV a, SV b] 50))).cell? ⟨(w.heap.size + 1), 2, none⟩ = some (.slice (some ⟨w.heap.size + 1 + 1, 0, none⟩) 1 1) := by rw [cell_of_block q4]; rfl
  have HG := Lib.hid (And.intro B3 r4)
  clear A2 A3 B1 B2 B3 q1 q2 y2 q3 q4 r4 z1 z2 z3
  go_enter Tryz.func27, Tryz.ntmps27
  go_wp2_with fail
  exact bodyPost_ret (v := .agg #[.int .i64 0, .int .i64 0, .slice (some ⟨w.heap.size + 1 + 1, 0, none⟩) 1 1]) (by simp [results, Tryz.f27, go_sem, e0, e1, e2]) rfl ⟨rfl, HG.out.1, HG.out.2⟩
end Go.Proofs.YtoaabbnieakidaaGreatDoorR

namespace Go.Proofs.YtoaabbnieakidaaGreatDoorR
open Go.RowKit Go.BigFrame Go.Maps Go.WideMaps Lf

theorem StOn.write2 {w w' : World} {ps : Nat} {S : St} {Y : Nat → Prop} {b : Nat} {cs : Array Value} {t : TypeId} {fr : Nat × Nat} (h : StOn w ps S Y) (hy : Y b) (hb : w.heap[b]? = some (.cells cs t fr)) (ht : t ≠ 121 ∧ t ≠ 206) (hne : b ≠ tabB)
    (hs : w.heap.size ≤ w'.heap.size) (hw : ∀ k, k < w.heap.size → k ≠ b → w'.heap[k]? = w.heap[k]?) : StOn w' ps S Y := by
  obtain ⟨pa, pm, ph, pt, v, h⟩ := h
  refine ⟨pa, pm, ph, pt, v, h.of_keep hs fun k hk hc => hw k hk ?_⟩
  rintro rfl
  rcases hc with hc | rfl | rfl | rfl
  · exact hc hy
  · have := h.hd
    rw [hb] at this
    injection this with this
    injection this with _ this
    exact ht.1 this
  · have := h.heap.hp
    rw [hb] at this
    injection this with this
    injection this with _ this
    exact ht.2 this
  · exact hne rfl

/-- what holds of worlds beside a caller's own blocks, whatever the caller does to these -/
structure Cl (w : World) (P : (Nat → Prop) → World → Prop) : Prop where
  grow : ∀ {X W W'}, P X W → Below W.heap.size W W' → ∃ Z : Nat → Prop, (∀ k, X k → Z k) ∧ (∀ k, W.heap.size ≤ k → k < W'.heap.size → Z k) ∧ P Z W'
  mono : ∀ {X Z W}, P X W → (∀ k, Z k → X k) → P Z W
  write : ∀ {X W W' b cs t fr}, P X W → X b → w.heap.size ≤ b → W.heap[b]? = some (.cells cs t fr) → t ≠ 121 ∧ t ≠ 206 → W.heap.size ≤ W'.heap.size → (∀ k, k < W.heap.size → k ≠ b → W'.heap[k]? = W.heap[k]?) → W'.os = W.os ∧ W'.tape = W.tape ∧ W'.output = W.output → P X W'
  lt : ∀ {X W}, P X W → ∀ k, X k → k < W.heap.size
  bl : ∀ {X W}, P X W → Below w.heap.size w W

/-- a script's world in memory: a map, four cursors -/
def WoOn (W : World) (pw pm : Nat) (c : Value) : Prop := W.heap[pw]? = some (.cells #[PV pm, c, .pointer none, .pointer none, .pointer none] 30)

/-- a map, no cursor yet -/
structure ScM (w : World) (pw limit : Nat) (S : St) (root : Nat) (X : Nat → Prop) (W : World) : Prop where
  ex : ∃ ps pm px Y, MdK 1 limit w ps pm px S root Y W ∧ WoOn W pw pm (.pointer none) ∧ Y pw ∧ pw ≠ px ∧ pw ≠ pm ∧ w.heap.size ≤ pw ∧ ∀ b, X b → Y b ∧ b ≠ px ∧ b ≠ pm ∧ b ≠ pw
/-- a map, and the first cursor -/
structure ScC (w : World) (pw limit : Nat) (S : St) (root hh is : Nat) (X : Nat → Prop) (W : World) : Prop where
  ex : ∃ ps pm px pc Y, CuAt limit w ps pm px pc S root Y hh is W ∧ WoOn W pw pm (PV pc) ∧ Y pw ∧ pw ≠ px ∧ pw ≠ pm ∧ pw ≠ pc ∧ w.heap.size ≤ pw ∧ ∀ b, X b → Y b ∧ b ≠ px ∧ b ≠ pm ∧ b ≠ pw ∧ b ≠ pc

theorem MdK.write2 {kind limit : Nat} {w wr w' : World} {ps pm px root b : Nat} {S : St} {Y : Nat → Prop} {cs : Array Value} {t : TypeId} {fr : Nat × Nat} (h : MdK kind limit w ps pm px S root Y wr) (hy : Y b) (hb : wr.heap[b]? = some (.cells cs t fr)) (ht : t ≠ 121 ∧ t ≠ 206) (hne : b ≠ tabB)
    (hs : wr.heap.size ≤ w'.heap.size) (hw : ∀ k, k < wr.heap.size → k ≠ b → w'.heap[k]? = wr.heap[k]?) (ho : w'.os = wr.os ∧ w'.tape = wr.tape ∧ w'.output = wr.output) (n1 : b ≠ pm) (n2 : b ≠ px) (n4 : w.heap.size ≤ b) : MdK kind limit w ps pm px S root Y w' :=
  ⟨h.st.write2 hy hb ht hne hs hw, h.inv, (hw pm (Array.getElem?_eq_some_iff.1 h.m).1 n1.symm).trans h.m, (hw px (Array.getElem?_eq_some_iff.1 h.t).1 n2.symm).trans h.t, ⟨ho.1.trans h.bl.os, ho.2.1.trans h.bl.tape, ho.2.2.trans h.bl.output, Nat.le_trans h.bl.size hs, fun k hk => (hw k (by have := h.bl.size; omega) (by omega)).trans (h.bl.block k hk)⟩, h.y, h.yx, h.ym, h.nx, h.ne⟩

theorem scm_cl {w : World} (ht : Tab64 w) (pw limit : Nat) (S : St) (root : Nat) : Cl w (ScM w pw limit S root) where
  grow := by
    rintro X W W' ⟨ps, pm, px, Y, h, hw, y1, n1, n2, l1, hx⟩ hb
    refine ⟨fun k => X k ∨ (W.heap.size ≤ k ∧ k < W'.heap.size), fun _ hk => Or.inl hk, fun _ h1 h2 => Or.inr ⟨h1, h2⟩, ps, pm, px, fun k => Y k ∨ (W.heap.size ≤ k ∧ k < W'.heap.size), ?_, (hb.block _ (Array.getElem?_eq_some_iff.1 hw).1).trans hw, Or.inl y1, n1, n2, l1, fun b hk => ?_⟩
    · exact ⟨h.st.wide hb, h.inv, h.m.below hb, h.t.below hb, h.bl.trans (hb.mono h.bl.size), fun k hk => Or.inl (h.y k hk), Or.inl h.yx, Or.inl h.ym, h.nx, h.ne⟩
    · rcases hk with hk | hk
      · exact ⟨Or.inl (hx b hk).1, (hx b hk).2⟩
      · have e1 := (Array.getElem?_eq_some_iff.1 h.t).1
        have e2 := (Array.getElem?_eq_some_iff.1 h.m).1
        have e3 := (Array.getElem?_eq_some_iff.1 hw).1
        exact ⟨Or.inr hk, by omega, by omega, by omega⟩
  mono := by
    rintro X Z W ⟨ps, pm, px, Y, h, hw, y1, n1, n2, l1, hx⟩ hz
    exact ⟨ps, pm, px, Y, h, hw, y1, n1, n2, l1, fun b hb => hx b (hz b hb)⟩
  write := by
    rintro X W W' b cs t fr ⟨ps, pm, px, Y, h, hw, y1, n1, n2, l1, hx⟩ hb lb hc htt hs hww ho
    have htl := ht.lt
    obtain ⟨k1, k2, k3, k4⟩ := hx b hb
    exact ⟨ps, pm, px, Y, h.write2 k1 hc htt (by show b ≠ 0; omega) hs hww ho k3 k2 lb, (hww _ (Array.getElem?_eq_some_iff.1 hw).1 k4.symm).trans hw, y1, n1, n2, l1, hx⟩
  lt := by
    rintro X W ⟨ps, pm, px, Y, h, hw, y1, n1, n2, l1, hx⟩ k hk
    exact h.st.yl k (hx k hk).1
  bl := by
    rintro X W ⟨ps, pm, px, Y, h, hw, y1, n1, n2, l1, hx⟩
    exact h.bl

theorem scc_cl {w : World} (ht : Tab64 w) (pw limit : Nat) (S : St) (root hh is : Nat) : Cl w (ScC w pw limit S root hh is) where
  grow := by
    rintro X W W' ⟨ps, pm, px, pc, Y, h, hw, y1, n1, n2, n3, l1, hx⟩ hb
    refine ⟨fun k => X k ∨ (W.heap.size ≤ k ∧ k < W'.heap.size), fun _ hk => Or.inl hk, fun _ h1 h2 => Or.inr ⟨h1, h2⟩, ps, pm, px, pc, fun k => Y k ∨ (W.heap.size ≤ k ∧ k < W'.heap.size), h.wide hb, (hb.block _ (Array.getElem?_eq_some_iff.1 hw).1).trans hw, Or.inl y1, n1, n2, n3, l1, fun b hk => ?_⟩
    rcases hk with hk | hk
    · exact ⟨Or.inl (hx b hk).1, (hx b hk).2⟩
    · have e1 := h.ltx
      have e2 := h.ltm
      have e3 := (Array.getElem?_eq_some_iff.1 hw).1
      have e4 := h.lt
      exact ⟨Or.inr hk, by omega, by omega, by omega, by omega⟩
  mono := by
    rintro X Z W ⟨ps, pm, px, pc, Y, h, hw, y1, n1, n2, n3, l1, hx⟩ hz
    exact ⟨ps, pm, px, pc, Y, h, hw, y1, n1, n2, n3, l1, fun b hb => hx b (hz b hb)⟩
  write := by
    rintro X W W' b cs t fr ⟨ps, pm, px, pc, Y, h, hw, y1, n1, n2, n3, l1, hx⟩ hb lb hc htt hs hww ho
    have htl := ht.lt
    obtain ⟨k1, k2, k3, k4, k5⟩ := hx b hb
    exact ⟨ps, pm, px, pc, Y, ⟨h.md.write2 k1 hc htt (by show b ≠ 0; omega) hs hww ho k3 k2 lb, (hww _ h.lt k5.symm).trans h.c, h.yc, h.nm, h.nx, h.nc⟩, (hww _ (Array.getElem?_eq_some_iff.1 hw).1 k4.symm).trans hw, y1, n1, n2, n3, l1, hx⟩
  lt := by
    rintro X W ⟨ps, pm, px, pc, Y, h, hw, y1, n1, n2, n3, l1, hx⟩ k hk
    exact h.md.st.yl k (hx k hk).1
  bl := by
    rintro X W ⟨ps, pm, px, pc, Y, h, hw, y1, n1, n2, n3, l1, hx⟩
    exact h.md.bl

/-- a row of pairs in memory that is the caller's own -/
def PRowX (X : Nat → Prop) (w : World) (v : Value) (l : List (List UInt8 × List UInt8)) : Prop := PRow w v l ∧ ∀ g o s n c, v = .slice (some ⟨g, o, s⟩) n c → X g
theorem PRowX.nil (X : Nat → Prop) (w : World) : PRowX X w (.slice none 0 0) [] := ⟨PRow.nil w, fun g o s n c h => by cases h⟩
theorem PRowX.keep {X : Nat → Prop} {w w' : World} {v : Value} {l : List (List UInt8 × List UInt8)} (h : PRowX X w v l) (hk : Keep X w w') : PRowX X w' v l := by
  obtain ⟨⟨A, c, rfl, hc⟩, hx⟩ := h
  refine ⟨⟨A, c, rfl, fun i hi => ?_⟩, hx⟩
  obtain ⟨g, o, rfl, h1, h2⟩ := hc i hi
  have hg := hx g o none _ _ rfl
  exact ⟨g, o, rfl, (hk.cell (p := ⟨g, _, none⟩) hg).trans h1, (hk.cell (p := ⟨g, _, none⟩) hg).trans h2⟩
theorem PRowX.wide {X Z : Nat → Prop} {w : World} {v : Value} {l : List (List UInt8 × List UInt8)} (h : PRowX X w v l) (hz : ∀ k, X k → Z k) : PRowX Z w v l := ⟨h.1, fun g o s n c e => hz g (h.2 g o s n c e)⟩
theorem PRowX.below {X : Nat → Prop} {w w' : World} {v : Value} {l : List (List UInt8 × List UInt8)} (h : PRowX X w v l) (hb : Below w.heap.size w w') : PRowX X w' v l := ⟨h.1.below hb, h.2⟩
/-- another block than the row's is written -/
theorem PRowX.other {X : Nat → Prop} {w w' : World} {v : Value} {l : List (List UInt8 × List UInt8)} {b : Nat} (h : PRowX X w v l) (hb : ∀ j s, w.cell? ⟨b, j, none⟩ ≠ some (SV s)) (hw : ∀ k, k ≠ b → w'.heap[k]? = w.heap[k]?) : PRowX X w' v l := by
  obtain ⟨⟨A, c, rfl, hc⟩, hx⟩ := h
  refine ⟨⟨A, c, rfl, fun i hi => ?_⟩, hx⟩
  obtain ⟨g, o, rfl, h1, h2⟩ := hc i hi
  have hg : g ≠ b := fun e => hb _ _ (by rw [← e]; exact h1)
  exact ⟨g, o, rfl, (World.cell?_of_block (hw g hg)).trans h1, (World.cell?_of_block (hw g hg)).trans h2⟩
end Go.Proofs.YtoaabbnieakidaaGreatDoorR

namespace Go.Proofs.YtoaabbnieakidaaGreatDoorR
open Go.RowKit Go.BigFrame Go.Maps Go.WideMaps Lf

/-- what an act leaves: its answer, and a world beside the caller's blocks -/
def StepQ (P' : (Nat → Prop) → World → Prop) (X : Nat → Prop) (W : World) (x : An) (e : Ending) (w' : World) : Prop :=
  ∃ u Z, e = .returned (.agg #[.int .i64 x.e, .int .i64 x.n, u]) ∧ (∀ k, X k → Z k) ∧ PRowX (fun b => Z b ∧ W.heap.size ≤ b) w' u x.l ∧ P' Z w' ∧ Keep X W w'
theorem Cl.answer {w : World} {P : (Nat → Prop) → World → Prop} (cP : Cl w P) {X Z : Nat → Prop} {W V : World} {b : Nat} {u0 u1 u2 : Value} (hP : P Z V) (zb : Z b) (lb : w.heap.size ≤ b) (y : V.heap[b]? = some (.cells #[u0, u1, u2] 35)) (kX : Keep X W V) (hx : ∀ k, X k → k < b) (v0 v1 v2 : Value) :
    P Z (((V.setCell ⟨b, 0, none⟩ (v0)).setCell ⟨b, 1, none⟩ (v1)).setCell ⟨b, 2, none⟩ (v2)) ∧ Keep X W (((V.setCell ⟨b, 0, none⟩ (v0)).setCell ⟨b, 1, none⟩ (v1)).setCell ⟨b, 2, none⟩ (v2)) ∧ (((V.setCell ⟨b, 0, none⟩ (v0)).setCell ⟨b, 1, none⟩ (v1)).setCell ⟨b, 2, none⟩ (v2)).heap[b]? = some (.cells #[v0, v1, v2] 35) :=
  ⟨cP.write hP zb lb y ⟨by decide, by decide⟩ (by simp) (fun k _ hk => an3_other hk v0 v1 v2) ⟨rfl, rfl, rfl⟩, kX.trans ⟨rfl, rfl, rfl, by simp, fun k hk => an3_other (Nat.ne_of_lt (hx k hk)) v0 v1 v2⟩, an3_heap y v0 v1 v2⟩
theorem PRowX.answer {X : Nat → Prop} {V : World} {b : Nat} {v : Value} {l : List (List UInt8 × List UInt8)} (h : PRowX X V v l) (y : V.heap[b]? = some (.cells #[.int .i64 0, .int .i64 0, .slice none 0 0] 35)) (v0 v1 v2 : Value) : PRowX X (((V.setCell ⟨b, 0, none⟩ (v0)).setCell ⟨b, 1, none⟩ (v1)).setCell ⟨b, 2, none⟩ (v2)) v l :=
  h.other (b := b) (fun j s hj => by
    rw [cell_of_block y] at hj
    match j, hj with
    | 0, hj => simp at hj
    | 1, hj => simp at hj
    | 2, hj => simp at hj
    | j + 3, hj => simp at hj) fun k hk => an3_other hk v0 v1 v2
end Go.Proofs.YtoaabbnieakidaaGreatDoorR
