/- Cursors: end, pair, Next, Prev, Open: the walks. -/
import Derived.Test.YtoaabbnieakidaaGreatDoorRGbo
namespace Go.Proofs.YtoaabbnieakidaaGreatDoorR
open Go.RowKit Go.BigFrame Go.Maps Go.WideMaps Lf

theorem CuAt.grow {limit : Nat} {w wr w' : World} {ps pm px pc root hh is : Nat} {S : St} {Y : Nat → Prop} (h : CuAt limit w ps pm px pc S root Y hh is wr) (hb : Below wr.heap.size wr w') : ∃ Z : Nat → Prop, (∀ k, Y k → Z k) ∧ (∀ k, wr.heap.size ≤ k → k < w'.heap.size → Z k) ∧ CuAt limit w ps pm px pc S root Z hh is w' :=
  ⟨_, fun _ hk => Or.inl hk, fun _ h1 h2 => Or.inr ⟨h1, h2⟩, h.wide hb⟩
theorem CuAt.lt {limit : Nat} {w wr : World} {ps pm px pc root hh is : Nat} {S : St} {Y : Nat → Prop} (h : CuAt limit w ps pm px pc S root Y hh is wr) : pc < wr.heap.size := (Array.getElem?_eq_some_iff.1 h.c).1
theorem CuAt.ltm {limit : Nat} {w wr : World} {ps pm px pc root hh is : Nat} {S : St} {Y : Nat → Prop} (h : CuAt limit w ps pm px pc S root Y hh is wr) : pm < wr.heap.size := (Array.getElem?_eq_some_iff.1 h.md.m).1
theorem CuAt.ltx {limit : Nat} {w wr : World} {ps pm px pc root hh is : Nat} {S : St} {Y : Nat → Prop} (h : CuAt limit w ps pm px pc S root Y hh is wr) : px < wr.heap.size := (Array.getElem?_eq_some_iff.1 h.md.t).1
/-- a pair's block, made since, is written; the rest is as at the beginning -/
theorem CuAt.back {limit : Nat} {w wr w2 : World} {ps pm px pc root hh is is' : Nat} {S S' : St} {Y Z : Nat → Prop} {t : TypeId} {cs : Array Value} (h : CuAt limit w ps pm px pc S root Y hh is wr) (h2 : CuAt limit w ps pm px pc S' root Z hh is' w2) (hz : ∀ k, Y k → Z k) (zb : Z wr.heap.size) (q : w2.heap[wr.heap.size]? = some (.cells cs t)) (ht : t ≠ 121 ∧ t ≠ 206) (hs : cs.size < 64) (hk : Keep (fun k => Y k ∧ k ≠ pc) wr w2) (v0 v1 : Value) :
    CuAt limit w ps pm px pc S' root Y hh is' ((w2.setCell ⟨wr.heap.size, 0, none⟩ (v0)).setCell ⟨wr.heap.size, 1, none⟩ (v1)) ∧ Keep (fun k => Y k ∧ k ≠ pc) wr ((w2.setCell ⟨wr.heap.size, 0, none⟩ (v0)).setCell ⟨wr.heap.size, 1, none⟩ (v1)) := by
  have hw : ∀ k, k ≠ wr.heap.size → ((w2.setCell ⟨wr.heap.size, 0, none⟩ (v0)).setCell ⟨wr.heap.size, 1, none⟩ (v1)).heap[k]? = w2.heap[k]? := fun k hk => st2_other hk v0 v1
  refine ⟨(h2.write zb q ht hs (by simp) hw ⟨rfl, rfl, rfl⟩ (Nat.ne_of_gt h.ltm) (Nat.ne_of_gt h.ltx) (Nat.ne_of_gt h.lt) h.md.bl.size).mono hz h.md.y h.md.yx h.md.ym h.yc, hk.trans ⟨rfl, rfl, rfl, by simp, fun k hk => hw k ?_⟩⟩
  have := h.md.st.yl k hk.1
  omega

set_option maxRecDepth 100000 in
set_option maxHeartbeats 3200000 in
theorem cu_put {limit : Nat} {w wr : World} {ps pm px pc root hh is : Nat} {S : St} {Y : Nat → Prop} (h : CuAt limit w ps pm px pc S root Y hh is wr) (hl : hh < 18446744073709551616) (hlim : limit ≤ 1000) (l : List UInt8) (hll : l.length ≤ 1000) :
    Calls Tryz.prog 96 #[PV pc, SV l] wr fun e w' => e = .returned (.tuple #[]) ∧ CuAt limit w ps pm px pc (curPut S hh (wordsOf l) (many limit)) root Y hh 1 w' ∧ Keep (fun k => Y k ∧ k ≠ pc) wr w' := by
  refine (cur_put h.md.st h.md.inv h.md.m h.c h.yc hl hlim l hll).mono ?_
  rintro e w' ⟨rfl, h1, h2, h3⟩
  exact ⟨rfl, h.put h1 h2 h3 (curPut_inv h.md.inv _ _ _), h2⟩

set_option maxRecDepth 100000 in
set_option maxHeartbeats 3200000 in
theorem cu_end {limit : Nat} {w wr : World} {ps pm px pc root hh is : Nat} {S : St} {Y : Nat → Prop} (h : CuAt limit w ps pm px pc S root Y hh is wr) (h0 : hh ≠ 0) (hl : hh < 18446744073709551616) (hlim : limit ≤ 1000) (is' : Nat) :
    Calls Tryz.prog 140 #[PV pc, .int .i64 is'] wr fun e w' => e = .returned (.int .i64 0) ∧ CuAt limit w ps pm px pc (curPut S hh (wordsOf []) (many limit)) root Y hh is' w' ∧ Keep (fun k => Y k ∧ k ≠ pc) wr w' := by
  have hp := cu_put h hl hlim [] (by simp)
  have HG := Lib.hid (And.intro (cur_asked h.c h0) hp)
  clear hp h
  go_enter Tryz.func140, Tryz.ntmps140
  go_wp2_with fail
  refine HG.out.1.mono ?_
  rintro e w1 ⟨rfl, rfl⟩
  go_wp2_with fail
  refine HG.out.2.mono ?_
  rintro e w2 ⟨rfl, h2, k2⟩
  have hC := h2.c
  unfold CurOn at hC
  have c0 : (w2).cell? ⟨pc, 0, none⟩ = some (PV pm) := by rw [cell_of_block hC]; rfl
  have c1 : (w2).cell? ⟨pc, 1, none⟩ = some (PV ps) := by rw [cell_of_block hC]; rfl
  have c2 : (w2).cell? ⟨pc, 2, none⟩ = some (.int .u64 hh) := by rw [cell_of_block hC]; rfl
  have c3 : (w2).cell? ⟨pc, 3, none⟩ = some (.int .i64 1) := by rw [cell_of_block hC]; rfl
  have f0 : (w2).frozen? ⟨pc, 0, none⟩ = false := frozen_of_block hC
  have f1 : (w2).frozen? ⟨pc, 1, none⟩ = false := frozen_of_block hC
  have f2 : (w2).frozen? ⟨pc, 2, none⟩ = false := frozen_of_block hC
  have f3 : (w2).frozen? ⟨pc, 3, none⟩ = false := frozen_of_block hC
  have q3 := heap_setCell (i := 3) (v := .int .i64 is') hC
  have h3 : CuAt limit w ps pm px pc (curPut S hh (wordsOf []) (many limit)) root Y hh is' (w2.setCell ⟨pc, 3, none⟩ (.int .i64 is')) :=
    ⟨⟨h2.md.st.write h2.yc hC ⟨by decide, by decide⟩ (by simp) (by simp) fun k _ hk => heap_setCell_ne hk, h2.md.inv, (heap_setCell_ne h2.nm.symm).trans h2.md.m, (heap_setCell_ne h2.nx.symm).trans h2.md.t, h2.md.bl.trans ⟨rfl, rfl, rfl, by simp, fun k hk => heap_setCell_ne (by have := h2.nc; omega)⟩, h2.md.y, h2.md.yx, h2.md.ym, h2.md.nx, h2.md.ne⟩, q3, h2.yc, h2.nm, h2.nx, h2.nc⟩
  have k3 : Keep (fun k => Y k ∧ k ≠ pc) wr (w2.setCell ⟨pc, 3, none⟩ (.int .i64 is')) := k2.trans ⟨rfl, rfl, rfl, by simp, fun k hk => heap_setCell_ne hk.2⟩
  have H3 := Lib.hid (And.intro h3 k3)
  clear h3 h2 q3 hC k2 k3
  go_wp2_with fail
  go_ret
  exact ⟨rfl, H3.out⟩

set_option maxRecDepth 100000 in
set_option maxHeartbeats 3200000 in
theorem cu_pair_ok {limit : Nat} {w wr : World} {ps pm px pc root hh is : Nat} {S : St} {Y : Nat → Prop} (h : CuAt limit w ps pm px pc S root Y hh is wr) (hl : hh < 18446744073709551616) (hr : root < 18446744073709551616) (hlim : limit ≤ 1000) (k is' : Nat) (hk : k < 4611686018427387904) (p : List UInt8 × List UInt8) (hp : treeAtM S root k = some p) (hpl : p.1.length ≤ 1000) :
    Calls Tryz.prog 97 #[PV pc, .int .i64 k, .int .i64 is'] wr fun e w' => e = .returned (.tuple #[prV p, .int .i64 0]) ∧ CuAt limit w ps pm px pc (curPut S hh (wordsOf p.1) (many limit)) root Y hh 1 w' ∧ Keep (fun k => Y k ∧ k ≠ pc) wr w' := by
  obtain ⟨p1, p2⟩ := p
  simp only [prV] at hpl ⊢
  have A0 := (Below.refl wr.heap.size wr).alloc (Nat.le_refl _) (.cells #[.string ⟨#[]⟩, .string ⟨#[]⟩] 50)
  have q0 := heap_alloc_new wr (.cells #[.string ⟨#[]⟩, .string ⟨#[]⟩] 50)
  obtain ⟨Z, z1, z2, h1⟩ := h.grow A0
  have zb : Z wr.heap.size := z2 _ (Nat.le_refl _) (by simp)
  have hse := map_select h1.md.st h1.md.inv h1.md.m h1.md.t hr k hk hp
  simp only [prV] at hse
  have hpu := fun {W : World} {Z : Nat → Prop} (hW : CuAt limit w ps pm px pc S root Z hh is W) => cu_put hW hl hlim p1 hpl
  have HG := Lib.hid (And.intro hse (And.intro (@hpu) (And.intro h1 (And.intro q0 (And.intro h (And.intro z1 (And.intro zb A0)))))))
  have hC := h1.c
  unfold CurOn at hC
  have c0 : ((wr.alloc (.cells #[.string ⟨#[]⟩, .string ⟨#[]⟩] 50))).cell? ⟨pc, 0, none⟩ = some (PV pm) := by rw [cell_of_block hC]; rfl
  have c1 : ((wr.alloc (.cells #[.string ⟨#[]⟩, .string ⟨#[]⟩] 50))).cell? ⟨pc, 1, none⟩ = some (PV ps) := by rw [cell_of_block hC]; rfl
  have c2 : ((wr.alloc (.cells #[.string ⟨#[]⟩, .string ⟨#[]⟩] 50))).cell? ⟨pc, 2, none⟩ = some (.int .u64 hh) := by rw [cell_of_block hC]; rfl
  have c3 : ((wr.alloc (.cells #[.string ⟨#[]⟩, .string ⟨#[]⟩] 50))).cell? ⟨pc, 3, none⟩ = some (.int .i64 is) := by rw [cell_of_block hC]; rfl
  clear hse hpu h1 h q0 A0 hC hp z1 z2 zb
  go_enter Tryz.func97, Tryz.ntmps97
  go_wp2_with fail
  refine HG.out.1.mono ?_
  rintro e w1 ⟨rfl, hb1⟩
  have q1 := (hb1.block wr.heap.size (by simp)).trans HG.out.2.2.2.1
  have lt1 := (Array.getElem?_eq_some_iff.1 q1).1
  have A1 := (Below.refl w1.heap.size w1).alloc (Nat.le_refl _) (.cells #[SV p1, SV p2] 50)
  have y1 := heap_alloc_new w1 (.cells #[SV p1, SV p2] 50)
  have q2 := (A1.block wr.heap.size lt1).trans q1
  obtain ⟨X, x1, x2, h3⟩ := (HG.out.2.2.1.below hb1).grow A1
  have xb : X w1.heap.size := x2 _ (Nat.le_refl _) (by simp)
  have kA : Keep (fun k => Y k ∧ k ≠ pc) wr (w1.alloc (.cells #[SV p1, SV p2] 50)) := Keep.of_below ((HG.out.2.2.2.2.2.2.2.trans (hb1.mono (by simp))).trans (A1.mono (Nat.le_of_lt lt1))) fun k hk => HG.out.2.2.2.2.1.md.st.yl k hk.1
  have d0 : ((w1.alloc (.cells #[SV p1, SV p2] 50))).cell? ⟨w1.heap.size, 0, none⟩ = some (SV p1) := by rw [cell_of_block y1]; rfl
  have d1 : ((w1.alloc (.cells #[SV p1, SV p2] 50))).cell? ⟨w1.heap.size, 1, none⟩ = some (SV p2) := by rw [cell_of_block y1]; rfl
  have HA := Lib.hid (And.intro h3 (And.intro y1 (And.intro q2 (And.intro lt1 (And.intro x1 (And.intro xb kA))))))
  clear hb1 q1 A1 y1 lt1 q2 h3 x1 x2 xb kA
  go_wp2_with fail
  refine (HG.out.2.1 HA.out.1).mono ?_
  rintro e w2 ⟨rfl, h4, k4⟩
  have np := HG.out.2.2.2.2.1.lt
  have q4 := (k4.block wr.heap.size ⟨HA.out.2.2.2.2.1 _ HG.out.2.2.2.2.2.2.1, by omega⟩).trans HA.out.2.2.1
  have y4 := (k4.block w1.heap.size ⟨HA.out.2.2.2.2.2.1, by have := HA.out.2.2.2.1; omega⟩).trans HA.out.2.1
  have e0 : (w2).cell? ⟨w1.heap.size, 0, none⟩ = some (SV p1) := by rw [cell_of_block y4]; rfl
  have e1 : (w2).cell? ⟨w1.heap.size, 1, none⟩ = some (SV p2) := by rw [cell_of_block y4]; rfl
  have g0 : (w2).cell? ⟨wr.heap.size, 0, none⟩ = some (.string ⟨#[]⟩) := by rw [cell_of_block q4]; rfl
  have g1 : (w2).cell? ⟨wr.heap.size, 1, none⟩ = some (.string ⟨#[]⟩) := by rw [cell_of_block q4]; rfl
  have f0 : (w2).frozen? ⟨wr.heap.size, 0, none⟩ = false := frozen_of_block q4
  have f1 : (w2).frozen? ⟨wr.heap.size, 1, none⟩ = false := frozen_of_block q4
  have q5 := st2_heap q4 (SV p1) (SV p2)
  have h5 := HG.out.2.2.2.2.1.back h4 (fun k hk => HA.out.2.2.2.2.1 k (HG.out.2.2.2.2.2.1 k hk)) (HA.out.2.2.2.2.1 _ HG.out.2.2.2.2.2.2.1) q4 ⟨by decide, by decide⟩ (by simp) (HA.out.2.2.2.2.2.2.trans (k4.mono fun k hk => ⟨HA.out.2.2.2.2.1 k (HG.out.2.2.2.2.2.1 k hk.1), hk.2⟩)) (SV p1) (SV p2)
  have HB := Lib.hid (And.intro q5 h5)
  clear h4 k4 q4 y4 q5 h5 np
  go_wp2_with fail
  obtain ⟨q5, h5⟩ := HB.out
  generalize ((w2.setCell ⟨wr.heap.size, 0, none⟩ (SV p1)).setCell ⟨wr.heap.size, 1, none⟩ (SV p2)) = w3 at *
  have k0 : (w3).cell? ⟨wr.heap.size, 0, none⟩ = some (SV p1) := by rw [cell_of_block q5]; rfl
  have k1 : (w3).cell? ⟨wr.heap.size, 1, none⟩ = some (SV p2) := by rw [cell_of_block q5]; rfl
  exact bodyPost_ret (v := .tuple #[.agg #[SV p1, SV p2], .int .i64 0]) (by simp [results, Tryz.f97, go_sem, k0, k1]) rfl ⟨rfl, h5⟩

set_option maxRecDepth 100000 in
set_option maxHeartbeats 3200000 in
theorem cu_pair_no {limit : Nat} {w wr : World} {ps pm px pc root hh is : Nat} {S : St} {Y : Nat → Prop} (h : CuAt limit w ps pm px pc S root Y hh is wr) (h0 : hh ≠ 0) (hl : hh < 18446744073709551616) (hr : root < 18446744073709551616) (hlim : limit ≤ 1000) (k is' : Nat) (hk : k < 4611686018427387904) (hp : walkAtM S root k = some (0, 2)) :
    Calls Tryz.prog 97 #[PV pc, .int .i64 k, .int .i64 is'] wr fun e w' => e = .returned (.tuple #[prV ([], []), .int .i64 5]) ∧ CuAt limit w ps pm px pc (curPut S hh (wordsOf []) (many limit)) root Y hh is' w' ∧ Keep (fun k => Y k ∧ k ≠ pc) wr w' := by
  show Calls _ _ _ _ fun e w' => e = .returned (.tuple #[.agg #[.string ⟨#[]⟩, .string ⟨#[]⟩], .int .i64 5]) ∧ _
  have A0 := (Below.refl wr.heap.size wr).alloc (Nat.le_refl _) (.cells #[.string ⟨#[]⟩, .string ⟨#[]⟩] 50)
  have q0 := heap_alloc_new wr (.cells #[.string ⟨#[]⟩, .string ⟨#[]⟩] 50)
  obtain ⟨Z, z1, z2, h1⟩ := h.grow A0
  have zb : Z wr.heap.size := z2 _ (Nat.le_refl _) (by simp)
  have hse := map_select_over h1.md.st h1.md.inv h1.md.m h1.md.t hr k hk hp
  have hpu := fun {W : World} {Z : Nat → Prop} (hW : CuAt limit w ps pm px pc S root Z hh is W) => cu_end hW h0 hl hlim is'
  have HG := Lib.hid (And.intro hse (And.intro (@hpu) (And.intro h1 (And.intro q0 (And.intro h (And.intro z1 (And.intro zb A0)))))))
  have hC := h1.c
  unfold CurOn at hC
  have c0 : ((wr.alloc (.cells #[.string ⟨#[]⟩, .string ⟨#[]⟩] 50))).cell? ⟨pc, 0, none⟩ = some (PV pm) := by rw [cell_of_block hC]; rfl
  have c1 : ((wr.alloc (.cells #[.string ⟨#[]⟩, .string ⟨#[]⟩] 50))).cell? ⟨pc, 1, none⟩ = some (PV ps) := by rw [cell_of_block hC]; rfl
  have c2 : ((wr.alloc (.cells #[.string ⟨#[]⟩, .string ⟨#[]⟩] 50))).cell? ⟨pc, 2, none⟩ = some (.int .u64 hh) := by rw [cell_of_block hC]; rfl
  have c3 : ((wr.alloc (.cells #[.string ⟨#[]⟩, .string ⟨#[]⟩] 50))).cell? ⟨pc, 3, none⟩ = some (.int .i64 is) := by rw [cell_of_block hC]; rfl
  clear hse hpu h1 h q0 A0 hC hp z1 z2 zb
  go_enter Tryz.func97, Tryz.ntmps97
  go_wp2_with fail
  refine HG.out.1.mono ?_
  rintro e w1 ⟨rfl, hb1⟩
  have q1 := (hb1.block wr.heap.size (by simp)).trans HG.out.2.2.2.1
  have lt1 := (Array.getElem?_eq_some_iff.1 q1).1
  have A1 := (Below.refl w1.heap.size w1).alloc (Nat.le_refl _) (.cells #[.string ⟨#[]⟩, .string ⟨#[]⟩] 50)
  have y1 := heap_alloc_new w1 (.cells #[.string ⟨#[]⟩, .string ⟨#[]⟩] 50)
  have q2 := (A1.block wr.heap.size lt1).trans q1
  obtain ⟨X, x1, x2, h3⟩ := (HG.out.2.2.1.below hb1).grow A1
  have xb : X w1.heap.size := x2 _ (Nat.le_refl _) (by simp)
  have kA : Keep (fun k => Y k ∧ k ≠ pc) wr (w1.alloc (.cells #[.string ⟨#[]⟩, .string ⟨#[]⟩] 50)) := Keep.of_below ((HG.out.2.2.2.2.2.2.2.trans (hb1.mono (by simp))).trans (A1.mono (Nat.le_of_lt lt1))) fun k hk => HG.out.2.2.2.2.1.md.st.yl k hk.1
  have d0 : ((w1.alloc (.cells #[.string ⟨#[]⟩, .string ⟨#[]⟩] 50))).cell? ⟨w1.heap.size, 0, none⟩ = some (.string ⟨#[]⟩) := by rw [cell_of_block y1]; rfl
  have d1 : ((w1.alloc (.cells #[.string ⟨#[]⟩, .string ⟨#[]⟩] 50))).cell? ⟨w1.heap.size, 1, none⟩ = some (.string ⟨#[]⟩) := by rw [cell_of_block y1]; rfl
  have HA := Lib.hid (And.intro h3 (And.intro y1 (And.intro q2 (And.intro lt1 (And.intro x1 (And.intro xb kA))))))
  clear hb1 q1 A1 y1 lt1 q2 h3 x1 x2 xb kA
  go_wp2_with fail
  refine (HG.out.2.1 HA.out.1).mono ?_
  rintro e w2 ⟨rfl, h4, k4⟩
  have np := HG.out.2.2.2.2.1.lt
  have q4 := (k4.block wr.heap.size ⟨HA.out.2.2.2.2.1 _ HG.out.2.2.2.2.2.2.1, by omega⟩).trans HA.out.2.2.1
  have y4 := (k4.block w1.heap.size ⟨HA.out.2.2.2.2.2.1, by have := HA.out.2.2.2.1; omega⟩).trans HA.out.2.1
  have e0 : (w2).cell? ⟨w1.heap.size, 0, none⟩ = some (.string ⟨#[]⟩) := by rw [cell_of_block y4]; rfl
  have e1 : (w2).cell? ⟨w1.heap.size, 1, none⟩ = some (.string ⟨#[]⟩) := by rw [cell_of_block y4]; rfl
  have g0 : (w2).cell? ⟨wr.heap.size, 0, none⟩ = some (.string ⟨#[]⟩) := by rw [cell_of_block q4]; rfl
  have g1 : (w2).cell? ⟨wr.heap.size, 1, none⟩ = some (.string ⟨#[]⟩) := by rw [cell_of_block q4]; rfl
  have f0 : (w2).frozen? ⟨wr.heap.size, 0, none⟩ = false := frozen_of_block q4
  have f1 : (w2).frozen? ⟨wr.heap.size, 1, none⟩ = false := frozen_of_block q4
  have q5 := st2_heap q4 (.string ⟨#[]⟩) (.string ⟨#[]⟩)
  have h5 := HG.out.2.2.2.2.1.back h4 (fun k hk => HA.out.2.2.2.2.1 k (HG.out.2.2.2.2.2.1 k hk)) (HA.out.2.2.2.2.1 _ HG.out.2.2.2.2.2.2.1) q4 ⟨by decide, by decide⟩ (by simp) (HA.out.2.2.2.2.2.2.trans (k4.mono fun k hk => ⟨HA.out.2.2.2.2.1 k (HG.out.2.2.2.2.2.1 k hk.1), hk.2⟩)) (.string ⟨#[]⟩) (.string ⟨#[]⟩)
  have HB := Lib.hid (And.intro q5 h5)
  clear h4 k4 q4 y4 q5 h5 np
  go_wp2_with fail
  obtain ⟨q5, h5⟩ := HB.out
  generalize ((w2.setCell ⟨wr.heap.size, 0, none⟩ (.string ⟨#[]⟩)).setCell ⟨wr.heap.size, 1, none⟩ (.string ⟨#[]⟩)) = w3 at *
  have k0 : (w3).cell? ⟨wr.heap.size, 0, none⟩ = some (.string ⟨#[]⟩) := by rw [cell_of_block q5]; rfl
  have k1 : (w3).cell? ⟨wr.heap.size, 1, none⟩ = some (.string ⟨#[]⟩) := by rw [cell_of_block q5]; rfl
  exact bodyPost_ret (v := .tuple #[.agg #[.string ⟨#[]⟩, .string ⟨#[]⟩], .int .i64 5]) (by simp [results, Tryz.f97, go_sem, k0, k1]) rfl ⟨rfl, h5⟩

set_option maxRecDepth 100000 in
set_option maxHeartbeats 3200000 in
theorem cu_next_ahead {limit : Nat} {w wr : World} {ps pm px pc root hh : Nat} {S : St} {Y : Nat → Prop} (h : CuAt limit w ps pm px pc S root Y hh 0 wr) (h0 : hh ≠ 0) {S' : St} {is' : Nat} (p : List UInt8 × List UInt8) (er : Nat) (hp : ∀ W Z, CuAt limit w ps pm px pc S root Z hh 0 W → Calls Tryz.prog 97 #[PV pc, .int .i64 (0 : Nat), .int .i64 (2 : Nat)] W fun e w' => e = .returned (.tuple #[prV p, .int .i64 er]) ∧ CuAt limit w ps pm px pc S' root Z hh is' w' ∧ Keep (fun k => Z k ∧ k ≠ pc) W w') :
    Calls Tryz.prog 70 #[PV pc] wr fun e w' => e = .returned (.tuple #[prV p, .int .i64 er]) ∧ CuAt limit w ps pm px pc S' root Y hh is' w' ∧ Keep (fun k => Y k ∧ k ≠ pc) wr w' := by
  obtain ⟨p1, p2⟩ := p
  simp only [prV] at hp ⊢
  have A0 := (Below.refl wr.heap.size wr).alloc (Nat.le_refl _) (.cells #[.string ⟨#[]⟩, .string ⟨#[]⟩] 50)
  have q0 := heap_alloc_new wr (.cells #[.string ⟨#[]⟩, .string ⟨#[]⟩] 50)
  obtain ⟨Z, z1, z2, h1⟩ := h.grow A0
  have zb : Z wr.heap.size := z2 _ (Nat.le_refl _) (by simp)
  have HG := Lib.hid (And.intro (cur_asked h1.c h0) (And.intro hp (And.intro h1 (And.intro q0 (And.intro h (And.intro z1 (And.intro zb A0)))))))
  have hC := h1.c
  unfold CurOn at hC
  have c0 : ((wr.alloc (.cells #[.string ⟨#[]⟩, .string ⟨#[]⟩] 50))).cell? ⟨pc, 0, none⟩ = some (PV pm) := by rw [cell_of_block hC]; rfl
  have c1 : ((wr.alloc (.cells #[.string ⟨#[]⟩, .string ⟨#[]⟩] 50))).cell? ⟨pc, 1, none⟩ = some (PV ps) := by rw [cell_of_block hC]; rfl
  have c2 : ((wr.alloc (.cells #[.string ⟨#[]⟩, .string ⟨#[]⟩] 50))).cell? ⟨pc, 2, none⟩ = some (.int .u64 hh) := by rw [cell_of_block hC]; rfl
  have c3 : ((wr.alloc (.cells #[.string ⟨#[]⟩, .string ⟨#[]⟩] 50))).cell? ⟨pc, 3, none⟩ = some (.int .i64 0) := by rw [cell_of_block hC]; rfl
  clear h1 h q0 A0 hC hp z1 z2 zb
  go_enter Tryz.func70, Tryz.ntmps70
  go_wp2_with fail
  refine HG.out.1.mono ?_
  rintro e w0 ⟨rfl, rfl⟩
  go_wp2_with fail
  have q1 := HG.out.2.2.2.1
  have h2 := HG.out.2.2.1
  have kA : Keep (fun k => Y k ∧ k ≠ pc) wr (wr.alloc (.cells #[.string ⟨#[]⟩, .string ⟨#[]⟩] 50)) := Keep.of_below HG.out.2.2.2.2.2.2.2 fun k hk => HG.out.2.2.2.2.1.md.st.yl k hk.1
  have H1 := Lib.hid (And.intro q1 (And.intro h2 kA))
  clear q1 h2 kA

  refine (HG.out.2.1 _ _ H1.out.2.1).mono ?_
  rintro e w5 ⟨rfl, h5, k5⟩
  have np := HG.out.2.2.2.2.1.lt
  have q5 := (k5.block wr.heap.size ⟨HG.out.2.2.2.2.2.2.1, by omega⟩).trans H1.out.1
  have x0 : (w5).cell? ⟨wr.heap.size, 0, none⟩ = some (.string ⟨#[]⟩) := by rw [cell_of_block q5]; rfl
  have x1 : (w5).cell? ⟨wr.heap.size, 1, none⟩ = some (.string ⟨#[]⟩) := by rw [cell_of_block q5]; rfl
  have f0 : (w5).frozen? ⟨wr.heap.size, 0, none⟩ = false := frozen_of_block q5
  have f1 : (w5).frozen? ⟨wr.heap.size, 1, none⟩ = false := frozen_of_block q5
  have q6 := st2_heap q5 (SV p1) (SV p2)
  have h6 := HG.out.2.2.2.2.1.back h5 HG.out.2.2.2.2.2.1 HG.out.2.2.2.2.2.2.1 q5 ⟨by decide, by decide⟩ (by simp) (H1.out.2.2.trans (k5.mono fun k hk => ⟨HG.out.2.2.2.2.2.1 k hk.1, hk.2⟩)) (SV p1) (SV p2)
  have HB := Lib.hid (And.intro q6 h6)
  clear h5 k5 q5 q6 h6 np
  go_wp2_with fail
  obtain ⟨q6, h6⟩ := HB.out
  generalize ((w5.setCell ⟨wr.heap.size, 0, none⟩ (SV p1)).setCell ⟨wr.heap.size, 1, none⟩ (SV p2)) = w6 at *
  have k0 : (w6).cell? ⟨wr.heap.size, 0, none⟩ = some (SV p1) := by rw [cell_of_block q6]; rfl
  have k1 : (w6).cell? ⟨wr.heap.size, 1, none⟩ = some (SV p2) := by rw [cell_of_block q6]; rfl
  exact bodyPost_ret (v := .tuple #[.agg #[SV p1, SV p2], .int .i64 er]) (by simp [results, Tryz.f70, go_sem, k0, k1]) rfl ⟨rfl, h6⟩

set_option maxRecDepth 100000 in
set_option maxHeartbeats 3200000 in
theorem cu_next_found {limit : Nat} {w wr : World} {ps pm px pc root hh : Nat} {S : St} {Y : Nat → Prop} (h : CuAt limit w ps pm px pc S root Y hh 1 wr) (h0 : hh ≠ 0) (hl : hh < 18446744073709551616) (hr : root < 18446744073709551616) (t : List UInt8) (ht : t.length ≤ 1000) (g0 : (S.get hh 0).1 = t.length) (gw : (List.range (many t.length)).map (fun k => (S.get hh k).1) = wordsOf t) (n : Nat) (hn : rankM S root t = some n) (v : List UInt8) (hg : ∀ W Z, CuAt limit w ps pm px pc S root Z hh 1 W → Calls Tryz.prog 25 #[PV pm, SV t] W fun e w' => e = .returned (.tuple #[SV v, .int .i64 0]) ∧ Below W.heap.size W w') {S' : St} {is' : Nat} (p : List UInt8 × List UInt8) (er : Nat) (hp : ∀ W Z, CuAt limit w ps pm px pc S root Z hh 1 W → Calls Tryz.prog 97 #[PV pc, .int .i64 ((n + 1 : Nat)), .int .i64 (2 : Nat)] W fun e w' => e = .returned (.tuple #[prV p, .int .i64 er]) ∧ CuAt limit w ps pm px pc S' root Z hh is' w' ∧ Keep (fun k => Z k ∧ k ≠ pc) W w') :
    Calls Tryz.prog 70 #[PV pc] wr fun e w' => e = .returned (.tuple #[prV p, .int .i64 er]) ∧ CuAt limit w ps pm px pc S' root Y hh is' w' ∧ Keep (fun k => Y k ∧ k ≠ pc) wr w' := by
  obtain ⟨p1, p2⟩ := p
  simp only [prV] at hp ⊢
  have A0 := (Below.refl wr.heap.size wr).alloc (Nat.le_refl _) (.cells #[.string ⟨#[]⟩, .string ⟨#[]⟩] 50)
  have q0 := heap_alloc_new wr (.cells #[.string ⟨#[]⟩, .string ⟨#[]⟩] 50)
  obtain ⟨Z, z1, z2, h1⟩ := h.grow A0
  have zb : Z wr.heap.size := z2 _ (Nat.le_refl _) (by simp)
  have hke := cur_key h1.md.st h1.md.inv h1.c hl t ht g0 gw
  have hra := fun W (hW : CuAt limit w ps pm px pc S root Z hh 1 W) => map_rank hW.md.st h.md.inv hW.md.m hW.md.t hr t hn
  have hnl := rankM_lt hn
  have HK := Lib.hid (And.intro hke (And.intro hra hg))
  clear hke hra hg g0 gw hn ht hl hr
  have HG := Lib.hid (And.intro (cur_asked h1.c h0) (And.intro hp (And.intro h1 (And.intro q0 (And.intro h (And.intro z1 (And.intro zb A0)))))))
  have hC := h1.c
  unfold CurOn at hC
  have c0 : ((wr.alloc (.cells #[.string ⟨#[]⟩, .string ⟨#[]⟩] 50))).cell? ⟨pc, 0, none⟩ = some (PV pm) := by rw [cell_of_block hC]; rfl
  have c1 : ((wr.alloc (.cells #[.string ⟨#[]⟩, .string ⟨#[]⟩] 50))).cell? ⟨pc, 1, none⟩ = some (PV ps) := by rw [cell_of_block hC]; rfl
  have c2 : ((wr.alloc (.cells #[.string ⟨#[]⟩, .string ⟨#[]⟩] 50))).cell? ⟨pc, 2, none⟩ = some (.int .u64 hh) := by rw [cell_of_block hC]; rfl
  have c3 : ((wr.alloc (.cells #[.string ⟨#[]⟩, .string ⟨#[]⟩] 50))).cell? ⟨pc, 3, none⟩ = some (.int .i64 1) := by rw [cell_of_block hC]; rfl
  clear h1 h q0 A0 hC hp z1 z2 zb
  go_enter Tryz.func70, Tryz.ntmps70
  go_wp2_with fail
  refine HG.out.1.mono ?_
  rintro e w0 ⟨rfl, rfl⟩
  go_wp2_with fail
  refine HK.out.1.mono ?_
  rintro e w1 ⟨rfl, hb1⟩
  have h2 := HG.out.2.2.1.below hb1
  have hC := h2.c
  unfold CurOn at hC
  have d0 : (w1).cell? ⟨pc, 0, none⟩ = some (PV pm) := by rw [cell_of_block hC]; rfl
  have d1 : (w1).cell? ⟨pc, 1, none⟩ = some (PV ps) := by rw [cell_of_block hC]; rfl
  have d2 : (w1).cell? ⟨pc, 2, none⟩ = some (.int .u64 hh) := by rw [cell_of_block hC]; rfl
  have d3 : (w1).cell? ⟨pc, 3, none⟩ = some (.int .i64 1) := by rw [cell_of_block hC]; rfl
  have H2 := Lib.hid (And.intro hb1 h2)
  clear hb1 h2 hC
  go_wp2_with fail
  refine (HK.out.2.1 _ H2.out.2).mono ?_
  rintro e w2 ⟨rfl, hb2⟩
  have h3 := H2.out.2.below hb2
  have hC := h3.c
  unfold CurOn at hC
  have g0 : (w2).cell? ⟨pc, 0, none⟩ = some (PV pm) := by rw [cell_of_block hC]; rfl
  have g1 : (w2).cell? ⟨pc, 1, none⟩ = some (PV ps) := by rw [cell_of_block hC]; rfl
  have g2 : (w2).cell? ⟨pc, 2, none⟩ = some (.int .u64 hh) := by rw [cell_of_block hC]; rfl
  have g3 : (w2).cell? ⟨pc, 3, none⟩ = some (.int .i64 1) := by rw [cell_of_block hC]; rfl
  have H3 := Lib.hid (And.intro (H2.out.1.trans (hb2.mono H2.out.1.size)) h3)
  clear hb2 h3 hC
  go_wp2_with fail
  refine (HK.out.2.2 _ _ H3.out.2).mono ?_
  rintro e w3 ⟨rfl, hb3⟩
  have h4 := H3.out.2.below hb3
  have hb4 := H3.out.1.trans (hb3.mono H3.out.1.size)
  have q1 := (hb4.block wr.heap.size (by simp)).trans HG.out.2.2.2.1
  have kA : Keep (fun k => Y k ∧ k ≠ pc) wr w3 := Keep.of_below (HG.out.2.2.2.2.2.2.2.trans (hb4.mono (by simp))) fun k hk => HG.out.2.2.2.2.1.md.st.yl k hk.1
  have H1 := Lib.hid (And.intro q1 (And.intro h4 kA))
  clear q1 h4 kA hb4 hb3
  go_wp2_with fail
  refine (HG.out.2.1 _ _ H1.out.2.1).mono ?_
  rintro e w5 ⟨rfl, h5, k5⟩
  have np := HG.out.2.2.2.2.1.lt
  have q5 := (k5.block wr.heap.size ⟨HG.out.2.2.2.2.2.2.1, by omega⟩).trans H1.out.1
  have x0 : (w5).cell? ⟨wr.heap.size, 0, none⟩ = some (.string ⟨#[]⟩) := by rw [cell_of_block q5]; rfl
  have x1 : (w5).cell? ⟨wr.heap.size, 1, none⟩ = some (.string ⟨#[]⟩) := by rw [cell_of_block q5]; rfl
  have f0 : (w5).frozen? ⟨wr.heap.size, 0, none⟩ = false := frozen_of_block q5
  have f1 : (w5).frozen? ⟨wr.heap.size, 1, none⟩ = false := frozen_of_block q5
  have q6 := st2_heap q5 (SV p1) (SV p2)
  have h6 := HG.out.2.2.2.2.1.back h5 HG.out.2.2.2.2.2.1 HG.out.2.2.2.2.2.2.1 q5 ⟨by decide, by decide⟩ (by simp) (H1.out.2.2.trans (k5.mono fun k hk => ⟨HG.out.2.2.2.2.2.1 k hk.1, hk.2⟩)) (SV p1) (SV p2)
  have HB := Lib.hid (And.intro q6 h6)
  clear h5 k5 q5 q6 h6 np
  go_wp2_with fail
  obtain ⟨q6, h6⟩ := HB.out
  generalize ((w5.setCell ⟨wr.heap.size, 0, none⟩ (SV p1)).setCell ⟨wr.heap.size, 1, none⟩ (SV p2)) = w6 at *
  have k0 : (w6).cell? ⟨wr.heap.size, 0, none⟩ = some (SV p1) := by rw [cell_of_block q6]; rfl
  have k1 : (w6).cell? ⟨wr.heap.size, 1, none⟩ = some (SV p2) := by rw [cell_of_block q6]; rfl
  exact bodyPost_ret (v := .tuple #[.agg #[SV p1, SV p2], .int .i64 er]) (by simp [results, Tryz.f70, go_sem, k0, k1]) rfl ⟨rfl, h6⟩

set_option maxRecDepth 100000 in
set_option maxHeartbeats 3200000 in
theorem cu_next_none {limit : Nat} {w wr : World} {ps pm px pc root hh : Nat} {S : St} {Y : Nat → Prop} (h : CuAt limit w ps pm px pc S root Y hh 1 wr) (h0 : hh ≠ 0) (hl : hh < 18446744073709551616) (hr : root < 18446744073709551616) (t : List UInt8) (ht : t.length ≤ 1000) (g0 : (S.get hh 0).1 = t.length) (gw : (List.range (many t.length)).map (fun k => (S.get hh k).1) = wordsOf t) (n : Nat) (hn : rankM S root t = some n) (v : List UInt8) (hg : ∀ W Z, CuAt limit w ps pm px pc S root Z hh 1 W → Calls Tryz.prog 25 #[PV pm, SV t] W fun e w' => e = .returned (.tuple #[SV v, .int .i64 5]) ∧ Below W.heap.size W w') {S' : St} {is' : Nat} (p : List UInt8 × List UInt8) (er : Nat) (hp : ∀ W Z, CuAt limit w ps pm px pc S root Z hh 1 W → Calls Tryz.prog 97 #[PV pc, .int .i64 (n : Nat), .int .i64 (2 : Nat)] W fun e w' => e = .returned (.tuple #[prV p, .int .i64 er]) ∧ CuAt limit w ps pm px pc S' root Z hh is' w' ∧ Keep (fun k => Z k ∧ k ≠ pc) W w') :
    Calls Tryz.prog 70 #[PV pc] wr fun e w' => e = .returned (.tuple #[prV p, .int .i64 er]) ∧ CuAt limit w ps pm px pc S' root Y hh is' w' ∧ Keep (fun k => Y k ∧ k ≠ pc) wr w' := by
  obtain ⟨p1, p2⟩ := p
  simp only [prV] at hp ⊢
  have A0 := (Below.refl wr.heap.size wr).alloc (Nat.le_refl _) (.cells #[.string ⟨#[]⟩, .string ⟨#[]⟩] 50)
  have q0 := heap_alloc_new wr (.cells #[.string ⟨#[]⟩, .string ⟨#[]⟩] 50)
  obtain ⟨Z, z1, z2, h1⟩ := h.grow A0
  have zb : Z wr.heap.size := z2 _ (Nat.le_refl _) (by simp)
  have hke := cur_key h1.md.st h1.md.inv h1.c hl t ht g0 gw
  have hra := fun W (hW : CuAt limit w ps pm px pc S root Z hh 1 W) => map_rank hW.md.st h.md.inv hW.md.m hW.md.t hr t hn
  have hnl := rankM_lt hn
  have HK := Lib.hid (And.intro hke (And.intro hra hg))
  clear hke hra hg g0 gw hn ht hl hr
  have HG := Lib.hid (And.intro (cur_asked h1.c h0) (And.intro hp (And.intro h1 (And.intro q0 (And.intro h (And.intro z1 (And.intro zb A0)))))))
  have hC := h1.c
  unfold CurOn at hC
  have c0 : ((wr.alloc (.cells #[.string ⟨#[]⟩, .string ⟨#[]⟩] 50))).cell? ⟨pc, 0, none⟩ = some (PV pm) := by rw [cell_of_block hC]; rfl
  have c1 : ((wr.alloc (.cells #[.string ⟨#[]⟩, .string ⟨#[]⟩] 50))).cell? ⟨pc, 1, none⟩ = some (PV ps) := by rw [cell_of_block hC]; rfl
  have c2 : ((wr.alloc (.cells #[.string ⟨#[]⟩, .string ⟨#[]⟩] 50))).cell? ⟨pc, 2, none⟩ = some (.int .u64 hh) := by rw [cell_of_block hC]; rfl
  have c3 : ((wr.alloc (.cells #[.string ⟨#[]⟩, .string ⟨#[]⟩] 50))).cell? ⟨pc, 3, none⟩ = some (.int .i64 1) := by rw [cell_of_block hC]; rfl
  clear h1 h q0 A0 hC hp z1 z2 zb
  go_enter Tryz.func70, Tryz.ntmps70
  go_wp2_with fail
  refine HG.out.1.mono ?_
  rintro e w0 ⟨rfl, rfl⟩
  go_wp2_with fail
  refine HK.out.1.mono ?_
  rintro e w1 ⟨rfl, hb1⟩
  have h2 := HG.out.2.2.1.below hb1
  have hC := h2.c
  unfold CurOn at hC
  have d0 : (w1).cell? ⟨pc, 0, none⟩ = some (PV pm) := by rw [cell_of_block hC]; rfl
  have d1 : (w1).cell? ⟨pc, 1, none⟩ = some (PV ps) := by rw [cell_of_block hC]; rfl
  have d2 : (w1).cell? ⟨pc, 2, none⟩ = some (.int .u64 hh) := by rw [cell_of_block hC]; rfl
  have d3 : (w1).cell? ⟨pc, 3, none⟩ = some (.int .i64 1) := by rw [cell_of_block hC]; rfl
  have H2 := Lib.hid (And.intro hb1 h2)
  clear hb1 h2 hC
  go_wp2_with fail
  refine (HK.out.2.1 _ H2.out.2).mono ?_
  rintro e w2 ⟨rfl, hb2⟩
  have h3 := H2.out.2.below hb2
  have hC := h3.c
  unfold CurOn at hC
  have g0 : (w2).cell? ⟨pc, 0, none⟩ = some (PV pm) := by rw [cell_of_block hC]; rfl
  have g1 : (w2).cell? ⟨pc, 1, none⟩ = some (PV ps) := by rw [cell_of_block hC]; rfl
  have g2 : (w2).cell? ⟨pc, 2, none⟩ = some (.int .u64 hh) := by rw [cell_of_block hC]; rfl
  have g3 : (w2).cell? ⟨pc, 3, none⟩ = some (.int .i64 1) := by rw [cell_of_block hC]; rfl
  have H3 := Lib.hid (And.intro (H2.out.1.trans (hb2.mono H2.out.1.size)) h3)
  clear hb2 h3 hC
  go_wp2_with fail
  refine (HK.out.2.2 _ _ H3.out.2).mono ?_
  rintro e w3 ⟨rfl, hb3⟩
  have h4 := H3.out.2.below hb3
  have hb4 := H3.out.1.trans (hb3.mono H3.out.1.size)
  have q1 := (hb4.block wr.heap.size (by simp)).trans HG.out.2.2.2.1
  have kA : Keep (fun k => Y k ∧ k ≠ pc) wr w3 := Keep.of_below (HG.out.2.2.2.2.2.2.2.trans (hb4.mono (by simp))) fun k hk => HG.out.2.2.2.2.1.md.st.yl k hk.1
  have H1 := Lib.hid (And.intro q1 (And.intro h4 kA))
  clear q1 h4 kA hb4 hb3
  go_wp2_with fail
  refine (HG.out.2.1 _ _ H1.out.2.1).mono ?_
  rintro e w5 ⟨rfl, h5, k5⟩
  have np := HG.out.2.2.2.2.1.lt
  have q5 := (k5.block wr.heap.size ⟨HG.out.2.2.2.2.2.2.1, by omega⟩).trans H1.out.1
  have x0 : (w5).cell? ⟨wr.heap.size, 0, none⟩ = some (.string ⟨#[]⟩) := by rw [cell_of_block q5]; rfl
  have x1 : (w5).cell? ⟨wr.heap.size, 1, none⟩ = some (.string ⟨#[]⟩) := by rw [cell_of_block q5]; rfl
  have f0 : (w5).frozen? ⟨wr.heap.size, 0, none⟩ = false := frozen_of_block q5
  have f1 : (w5).frozen? ⟨wr.heap.size, 1, none⟩ = false := frozen_of_block q5
  have q6 := st2_heap q5 (SV p1) (SV p2)
  have h6 := HG.out.2.2.2.2.1.back h5 HG.out.2.2.2.2.2.1 HG.out.2.2.2.2.2.2.1 q5 ⟨by decide, by decide⟩ (by simp) (H1.out.2.2.trans (k5.mono fun k hk => ⟨HG.out.2.2.2.2.2.1 k hk.1, hk.2⟩)) (SV p1) (SV p2)
  have HB := Lib.hid (And.intro q6 h6)
  clear h5 k5 q5 q6 h6 np
  go_wp2_with fail
  obtain ⟨q6, h6⟩ := HB.out
  generalize ((w5.setCell ⟨wr.heap.size, 0, none⟩ (SV p1)).setCell ⟨wr.heap.size, 1, none⟩ (SV p2)) = w6 at *
  have k0 : (w6).cell? ⟨wr.heap.size, 0, none⟩ = some (SV p1) := by rw [cell_of_block q6]; rfl
  have k1 : (w6).cell? ⟨wr.heap.size, 1, none⟩ = some (SV p2) := by rw [cell_of_block q6]; rfl
  exact bodyPost_ret (v := .tuple #[.agg #[SV p1, SV p2], .int .i64 er]) (by simp [results, Tryz.f70, go_sem, k0, k1]) rfl ⟨rfl, h6⟩

end Go.Proofs.YtoaabbnieakidaaGreatDoorR
